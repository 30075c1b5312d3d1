/- A secret told to no recorder. -/
import Derived.Test.YtgoflehojioedaaSec
namespace Go.Proofs.Ytgoflehojioedaa
open Go.RowKit

theorem add_nil (kind n : Int) (w : World) :
    Calls Try.prog 58 #[.pointer none, .int .i64 kind, .int .i64 n] w fun e w' => e = .returned (.tuple #[]) ∧ Below w.heap.size w w' := by
  go_enter Try.func58, Try.ntmps58
  go_wp2
  exact bodyPost_ret (results_none rfl _ _ _) rfl ⟨rfl, gr0 _⟩
theorem ropen_nil (w : World) :
    Calls Try.prog 49 #[.pointer none] w fun e w' => e = .returned (.tuple #[]) ∧ Below w.heap.size w w' := by
  have hmf : ∀ (fn : Fn) (first cap : Array Value) (w : World), (Instr.makeFunc fn first cap).run Try.prog w = .ok (.func fn first cap) w := fun _ _ _ _ => rfl
  go_enter Try.func49, Try.ntmps49
  go_wp2_with (go_at_call 58; refine (add_nil _ _ _).mono ?_; rintro e W1 ⟨rfl, hb1⟩)
  go_end0
  exact ⟨rfl, hb1⟩
theorem sec_open_nil (a : Int) (w : World) :
    Calls Try.prog 51 #[.agg #[.int .i64 a], .pointer none] w fun e w' => e = .returned (.int .i64 a) ∧ Below w.heap.size w w' := by
  go_enter Try.func51, Try.ntmps51
  go_wp2_with (go_at_call 49; refine (ropen_nil _).mono ?_; rintro e W1 ⟨rfl, hb1⟩; obtain ⟨hc1, hf1, hz1⟩ := bcell hb1; try simp at hz1)
  go_ret
  exact ⟨rfl, gr2 (gr1 (gr0 _) _) hb1⟩
theorem law_open (a : Int) (w : World) :
    Calls Try.prog 17 #[.agg #[.int .i64 a]] w fun e w' => e = .returned (.int .i64 a) ∧ Below w.heap.size w w' := by
  go_enter Try.func17, Try.ntmps17
  go_wp2_with (go_at_call 51; refine (sec_open_nil _ _).mono ?_; rintro e W1 ⟨rfl, hb1⟩)
  go_ret
  exact ⟨rfl, gr2 (gr1 (gr0 _) _) hb1⟩
end Go.Proofs.Ytgoflehojioedaa
