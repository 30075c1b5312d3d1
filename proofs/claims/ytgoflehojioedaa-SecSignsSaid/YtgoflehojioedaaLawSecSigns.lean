/- SecSigns: the walk: it returns true. -/
import Derived.Test.YtgoflehojioedaaKnown03
namespace Go.Proofs.Ytgoflehojioedaa
open Go.RowKit

set_option maxHeartbeats 2000000 in
theorem walk_SecSigns (a : Int) (b : Int) (w : World) (_ba : -9223372036854775808 ≤ a ∧ a ≤ 9223372036854775807) (_bb : -9223372036854775808 ≤ b ∧ b ≤ 9223372036854775807) :
    Calls Try.prog 7 #[.int .i64 a, .int .i64 b] w fun e w' => e = .returned (.bool true) ∧ Below w.heap.size w w' := by
  have ia : I64 a := by unfold I64; omega
  have ib : I64 b := by unfold I64; omega
  have h1 := bits_and_or a b
  have h2 := secNot_not ia
  have h3 := neg_add a
  obtain ⟨L, M, E, hl, hm, he, hs⟩ := signs ia ib
  clear ia ib
  rcases hs with ⟨rfl, rfl, rfl⟩ | ⟨rfl, rfl, rfl⟩ | ⟨rfl, rfl, rfl⟩
  all_goals (
    go_enter Try.func7, Try.ntmps7
    go_wp2_with (first
      | (go_at_call 15; refine (sec_of _ _).mono ?_; rintro e W1 ⟨rfl, hb1⟩; obtain ⟨hc1, hf1, hz1⟩ := bcell hb1; try simp at hz1)
      | (go_at_call 16; refine (known03 _).mono ?_; rintro e W1 ⟨rfl, hb1⟩; obtain ⟨hc1, hf1, hz1⟩ := bcell hb1; try simp at hz1)
      | (go_at_call 17; refine (law_open _ _).mono ?_; rintro e W1 ⟨rfl, hb1⟩; obtain ⟨hc1, hf1, hz1⟩ := bcell hb1; try simp at hz1)
      | (go_at_call 23; refine (sec_add _ _ _).mono ?_; rintro e W1 ⟨rfl, hb1⟩; obtain ⟨hc1, hf1, hz1⟩ := bcell hb1; try simp at hz1)
      | (go_at_call 29; refine (sec_and _ _ _).mono ?_; rintro e W1 ⟨rfl, hb1⟩; obtain ⟨hc1, hf1, hz1⟩ := bcell hb1; try simp at hz1)
      | (go_at_call 30; refine (sec_or _ _ _).mono ?_; rintro e W1 ⟨rfl, hb1⟩; obtain ⟨hc1, hf1, hz1⟩ := bcell hb1; try simp at hz1)
      | (go_at_call 27; refine (sec_not _ _).mono ?_; rintro e W1 ⟨rfl, hb1⟩; obtain ⟨hc1, hf1, hz1⟩ := bcell hb1; try simp at hz1)
      | (go_at_call 31; refine (sec_neg _ _).mono ?_; rintro e W1 ⟨rfl, hb1⟩; obtain ⟨hc1, hf1, hz1⟩ := bcell hb1; try simp at hz1)
      | (go_at_call 22; refine (sec_less _ _ _).mono ?_; rintro e W1 ⟨rfl, hb1⟩; obtain ⟨hc1, hf1, hz1⟩ := bcell hb1; try simp at hz1)
      | (go_at_call 33; refine (sec_equal _ _ _).mono ?_; rintro e W1 ⟨rfl, hb1⟩; obtain ⟨hc1, hf1, hz1⟩ := bcell hb1; try simp at hz1))
    refine wp_region_calm (by kernel_rfl) (by kernel_rfl) ?_
    repeat (first | go_big_quiet_step ((first | (go_at_call 15; exact calm_call (sec_of _ _)) | (go_at_call 16; exact calm_call (known03 _)) | (go_at_call 17; exact calm_call (law_open _ _)) | (go_at_call 23; exact calm_call (sec_add _ _ _)) | (go_at_call 29; exact calm_call (sec_and _ _ _)) | (go_at_call 30; exact calm_call (sec_or _ _ _)) | (go_at_call 27; exact calm_call (sec_not _ _)) | (go_at_call 31; exact calm_call (sec_neg _ _)) | (go_at_call 22; exact calm_call (sec_less _ _ _)) | (go_at_call 33; exact calm_call (sec_equal _ _ _)))) | quiet_step ((first | (go_at_call 15; exact calm_call (sec_of _ _)) | (go_at_call 16; exact calm_call (known03 _)) | (go_at_call 17; exact calm_call (law_open _ _)) | (go_at_call 23; exact calm_call (sec_add _ _ _)) | (go_at_call 29; exact calm_call (sec_and _ _ _)) | (go_at_call 30; exact calm_call (sec_or _ _ _)) | (go_at_call 27; exact calm_call (sec_not _ _)) | (go_at_call 31; exact calm_call (sec_neg _ _)) | (go_at_call 22; exact calm_call (sec_less _ _ _)) | (go_at_call 33; exact calm_call (sec_equal _ _ _)))))
    refine wpQuiet_nil ?_
    intro u0
    have hzu0 := u0.below.size
    try simp at hzu0
    go_wp2_with (first
      | (go_at_call 15; refine (sec_of _ _).mono ?_; rintro e W1 ⟨rfl, hb1⟩; obtain ⟨hc1, hf1, hz1⟩ := bcell hb1; try simp at hz1)
      | (go_at_call 16; refine (known03 _).mono ?_; rintro e W1 ⟨rfl, hb1⟩; obtain ⟨hc1, hf1, hz1⟩ := bcell hb1; try simp at hz1)
      | (go_at_call 17; refine (law_open _ _).mono ?_; rintro e W1 ⟨rfl, hb1⟩; obtain ⟨hc1, hf1, hz1⟩ := bcell hb1; try simp at hz1)
      | (go_at_call 23; refine (sec_add _ _ _).mono ?_; rintro e W1 ⟨rfl, hb1⟩; obtain ⟨hc1, hf1, hz1⟩ := bcell hb1; try simp at hz1)
      | (go_at_call 29; refine (sec_and _ _ _).mono ?_; rintro e W1 ⟨rfl, hb1⟩; obtain ⟨hc1, hf1, hz1⟩ := bcell hb1; try simp at hz1)
      | (go_at_call 30; refine (sec_or _ _ _).mono ?_; rintro e W1 ⟨rfl, hb1⟩; obtain ⟨hc1, hf1, hz1⟩ := bcell hb1; try simp at hz1)
      | (go_at_call 27; refine (sec_not _ _).mono ?_; rintro e W1 ⟨rfl, hb1⟩; obtain ⟨hc1, hf1, hz1⟩ := bcell hb1; try simp at hz1)
      | (go_at_call 31; refine (sec_neg _ _).mono ?_; rintro e W1 ⟨rfl, hb1⟩; obtain ⟨hc1, hf1, hz1⟩ := bcell hb1; try simp at hz1)
      | (go_at_call 22; refine (sec_less _ _ _).mono ?_; rintro e W1 ⟨rfl, hb1⟩; obtain ⟨hc1, hf1, hz1⟩ := bcell hb1; try simp at hz1)
      | (go_at_call 33; refine (sec_equal _ _ _).mono ?_; rintro e W1 ⟨rfl, hb1⟩; obtain ⟨hc1, hf1, hz1⟩ := bcell hb1; try simp at hz1))
    all_goals go_ret
    all_goals refine ⟨rfl, ?_⟩
    all_goals (repeat (first | exact gr0 _ | refine gr1 ?_ _ | refine gr2 ?_ (Later.below _) | refine gr2 ?_ (by assumption) | refine gr3 ?_)))
end Go.Proofs.Ytgoflehojioedaa
