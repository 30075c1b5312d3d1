/- The chapter's example holds. -/
import Derived.Test.YtgoflehojioedaaRef03
namespace Go.Proofs.Ytgoflehojioedaa
open Go.RowKit

theorem known03 (w : World) :
    Calls Try.prog 16 #[] w fun e w' => e = .returned (.bool true) ∧ Below w.heap.size w w' := by
  have h1 : secLess 3 5 = -1 := secLess_eq (by unfold I64; omega) (by unfold I64; omega)
  have h2 : secSelect (-1) 1 2 = 1 := secSelect_mask (p := true) (by unfold I64; omega) (by unfold I64; omega)
  go_enter Try.func16, Try.ntmps16
  go_wp2_with (first
    | (go_at_call 15; refine (sec_of _ _).mono ?_; rintro e W1 ⟨rfl, hb1⟩; obtain ⟨hc1, hf1, hz1⟩ := bcell hb1; try simp at hz1)
    | (go_at_call 22; refine (sec_less _ _ _).mono ?_; rintro e W2 ⟨rfl, hb2⟩; obtain ⟨hc2, hf2, hz2⟩ := bcell hb2; try simp at hz2))
  refine wp_region_calm (by kernel_rfl) (by kernel_rfl) ?_
  repeat (first | go_big_quiet_step ((first | (go_at_call 51; exact calm_call (sec_open_nil _ _)) | (go_at_call 15; exact calm_call (sec_of _ _)) | (go_at_call 26; exact calm_call (sec_select _ _ _ _)))))
  refine wpQuiet_nil ?_
  intro u
  go_wp2
  go_ret
  exact ⟨rfl, gr2 (gr1 (gr2 (gr2 (gr2 (gr0 _) (by assumption)) hb1) hb2) _) u.below⟩
end Go.Proofs.Ytgoflehojioedaa
