/- ColorSecrets: the walk: it returns true. -/
import Derived.Test.YtdpiikpodcanjaaColorT
namespace Go.Proofs.Ytdpiikpodcanjaa
open Go.RowKit

set_option maxHeartbeats 2000000 in
theorem walk_ColorSecrets (r : Int) (g : Int) (b : Int) (x : Int) (y : Int) (z : Int) (w : World) (_br : -9223372036854775808 ≤ r ∧ r ≤ 9223372036854775807) (_bg : -9223372036854775808 ≤ g ∧ g ≤ 9223372036854775807) (_bb : -9223372036854775808 ≤ b ∧ b ≤ 9223372036854775807) (_bx : 0 ≤ x ∧ x ≤ 255) (_by : 0 ≤ y ∧ y ≤ 255) (_bz : 0 ≤ z ∧ z ≤ 255) :
    Calls Try.prog 11 #[.int .i64 r, .int .i64 g, .int .i64 b, .int .u8 x, .int .u8 y, .int .u8 z] w fun e w' => e = .returned (.bool true) ∧ Below w.heap.size w w' := by
  have ir : I64 r := by unfold I64; omega
  have ig : I64 g := by unfold I64; omega
  have ib : I64 b := by unfold I64; omega
  have ix : I64 x := by unfold I64; omega
  have iy : I64 y := by unfold I64; omega
  have iz : I64 z := by unfold I64; omega
  go_enter Try.func11, Try.ntmps11
  go_wp2_with (first
    | (go_at_call 14; refine (known06 _).mono ?_; rintro e W1 ⟨rfl, hb1⟩; obtain ⟨hc1, hf1, hz1⟩ := bcell hb1; try simp at hz1)
    | (go_at_call 31; refine (secrets06 _ _ _ _ ‹_› ‹_› ‹_›).mono ?_; rintro e W1 ⟨rfl, hb1⟩; obtain ⟨hc1, hf1, hz1⟩ := bcell hb1; try simp at hz1)
    | (refine wp_region_calm (by kernel_rfl) (by kernel_rfl) ?_; repeat (first | go_big_quiet_step ((first | (go_at_call 14; exact calm_call (known06 _)) | (go_at_call 31; exact calm_call (secrets06 _ _ _ _ ‹_› ‹_› ‹_›)))) | quiet_step ((first | (go_at_call 14; exact calm_call (known06 _)) | (go_at_call 31; exact calm_call (secrets06 _ _ _ _ ‹_› ‹_› ‹_›)))))
       refine wpQuiet_nil ?_; intro u; have hzu := u.below.size; try simp at hzu))
  all_goals go_ret
  all_goals refine ⟨rfl, ?_⟩
  all_goals (repeat (first | exact gr0 _ | refine gr1 ?_ _ | refine gr2 ?_ (Later.below _) | refine gr2 ?_ (by assumption) | refine gr3 ?_ | refine gr4 ?_ (by first | (simp; done) | (simp; omega) | omega) _))
end Go.Proofs.Ytdpiikpodcanjaa
