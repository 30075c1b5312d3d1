/- SecRules: the walk: it returns true. -/
import Derived.Test.YtgoflehojioedaaKnown03
namespace Go.Proofs.Ytgoflehojioedaa
open Go.RowKit

theorem walk_SecRules (a : Int) (b : Int) (c : Int) (w : World) (_ba : -9223372036854775808 ≤ a ∧ a ≤ 9223372036854775807) (_bb : -9223372036854775808 ≤ b ∧ b ≤ 9223372036854775807) (_bc : -9223372036854775808 ≤ c ∧ c ≤ 9223372036854775807) :
    Calls Try.prog 4 #[.int .i64 a, .int .i64 b, .int .i64 c] w fun e w' => e = .returned (.bool true) ∧ Below w.heap.size w w' := by
  have ia : I64 a := by unfold I64; omega
  have ib : I64 b := by unfold I64; omega
  have h1 : (wrap64 (a + b) == wrap64 (b + a)) = true := by rw [Int.add_comm]; exact beq_self_eq_true _
  have h2 : (wrap64 (wrap64 (a + b) - b) == a) = true := by rw [beq_iff_eq]; unfold wrap64; omega
  have h3 : (wrap64 (a * wrap64 (b + c)) == wrap64 (wrap64 (a * b) + wrap64 (a * c))) = true := by
    rw [beq_iff_eq]; simp only [wrap64_bmod, Int.mul_add, Int.bmod_add_bmod, Int.add_bmod_bmod, Int.mul_bmod_bmod]
  have h4 := select_min ia ib
  have h5 := select_max ia ib
  have h6 : (bits .xor .i64 (bits .xor .i64 a b) b == a) = true := by rw [beq_iff_eq]; exact xor_xor b ia
  clear ia ib
  go_enter Try.func4, Try.ntmps4
  go_wp2_with (first
    | (go_at_call 15; refine (sec_of _ _).mono ?_; rintro e W1 ⟨rfl, hb1⟩; obtain ⟨hc1, hf1, hz1⟩ := bcell hb1; try simp at hz1)
    | (go_at_call 16; refine (known03 _).mono ?_; rintro e W1 ⟨rfl, hb1⟩; obtain ⟨hc1, hf1, hz1⟩ := bcell hb1; try simp at hz1)
    | (go_at_call 17; refine (law_open _ _).mono ?_; rintro e W1 ⟨rfl, hb1⟩; obtain ⟨hc1, hf1, hz1⟩ := bcell hb1; try simp at hz1)
    | (go_at_call 23; refine (sec_add _ _ _).mono ?_; rintro e W1 ⟨rfl, hb1⟩; obtain ⟨hc1, hf1, hz1⟩ := bcell hb1; try simp at hz1)
    | (go_at_call 24; refine (sec_sub _ _ _).mono ?_; rintro e W1 ⟨rfl, hb1⟩; obtain ⟨hc1, hf1, hz1⟩ := bcell hb1; try simp at hz1)
    | (go_at_call 25; refine (sec_mul _ _ _).mono ?_; rintro e W1 ⟨rfl, hb1⟩; obtain ⟨hc1, hf1, hz1⟩ := bcell hb1; try simp at hz1)
    | (go_at_call 28; refine (sec_xor _ _ _).mono ?_; rintro e W1 ⟨rfl, hb1⟩; obtain ⟨hc1, hf1, hz1⟩ := bcell hb1; try simp at hz1)
    | (go_at_call 27; refine (sec_not _ _).mono ?_; rintro e W1 ⟨rfl, hb1⟩; obtain ⟨hc1, hf1, hz1⟩ := bcell hb1; try simp at hz1)
    | (go_at_call 26; refine (sec_select _ _ _ _).mono ?_; rintro e W1 ⟨rfl, hb1⟩; obtain ⟨hc1, hf1, hz1⟩ := bcell hb1; try simp at hz1)
    | (go_at_call 22; refine (sec_less _ _ _).mono ?_; rintro e W1 ⟨rfl, hb1⟩; obtain ⟨hc1, hf1, hz1⟩ := bcell hb1; try simp at hz1))
  refine wp_region_calm (by kernel_rfl) (by kernel_rfl) ?_
  repeat (first | go_big_quiet_step ((first | (go_at_call 15; exact calm_call (sec_of _ _)) | (go_at_call 16; exact calm_call (known03 _)) | (go_at_call 17; exact calm_call (law_open _ _)) | (go_at_call 23; exact calm_call (sec_add _ _ _)) | (go_at_call 24; exact calm_call (sec_sub _ _ _)) | (go_at_call 25; exact calm_call (sec_mul _ _ _)) | (go_at_call 28; exact calm_call (sec_xor _ _ _)) | (go_at_call 27; exact calm_call (sec_not _ _)) | (go_at_call 26; exact calm_call (sec_select _ _ _ _)) | (go_at_call 22; exact calm_call (sec_less _ _ _)))) | quiet_step ((first | (go_at_call 15; exact calm_call (sec_of _ _)) | (go_at_call 16; exact calm_call (known03 _)) | (go_at_call 17; exact calm_call (law_open _ _)) | (go_at_call 23; exact calm_call (sec_add _ _ _)) | (go_at_call 24; exact calm_call (sec_sub _ _ _)) | (go_at_call 25; exact calm_call (sec_mul _ _ _)) | (go_at_call 28; exact calm_call (sec_xor _ _ _)) | (go_at_call 27; exact calm_call (sec_not _ _)) | (go_at_call 26; exact calm_call (sec_select _ _ _ _)) | (go_at_call 22; exact calm_call (sec_less _ _ _)))))
  refine wpQuiet_nil ?_
  intro u0
  have hzu0 := u0.below.size
  try simp at hzu0
  go_wp2_with (first
    | (go_at_call 15; refine (sec_of _ _).mono ?_; rintro e W1 ⟨rfl, hb1⟩; obtain ⟨hc1, hf1, hz1⟩ := bcell hb1; try simp at hz1)
    | (go_at_call 16; refine (known03 _).mono ?_; rintro e W1 ⟨rfl, hb1⟩; obtain ⟨hc1, hf1, hz1⟩ := bcell hb1; try simp at hz1)
    | (go_at_call 17; refine (law_open _ _).mono ?_; rintro e W1 ⟨rfl, hb1⟩; obtain ⟨hc1, hf1, hz1⟩ := bcell hb1; try simp at hz1)
    | (go_at_call 23; refine (sec_add _ _ _).mono ?_; rintro e W1 ⟨rfl, hb1⟩; obtain ⟨hc1, hf1, hz1⟩ := bcell hb1; try simp at hz1)
    | (go_at_call 24; refine (sec_sub _ _ _).mono ?_; rintro e W1 ⟨rfl, hb1⟩; obtain ⟨hc1, hf1, hz1⟩ := bcell hb1; try simp at hz1)
    | (go_at_call 25; refine (sec_mul _ _ _).mono ?_; rintro e W1 ⟨rfl, hb1⟩; obtain ⟨hc1, hf1, hz1⟩ := bcell hb1; try simp at hz1)
    | (go_at_call 28; refine (sec_xor _ _ _).mono ?_; rintro e W1 ⟨rfl, hb1⟩; obtain ⟨hc1, hf1, hz1⟩ := bcell hb1; try simp at hz1)
    | (go_at_call 27; refine (sec_not _ _).mono ?_; rintro e W1 ⟨rfl, hb1⟩; obtain ⟨hc1, hf1, hz1⟩ := bcell hb1; try simp at hz1)
    | (go_at_call 26; refine (sec_select _ _ _ _).mono ?_; rintro e W1 ⟨rfl, hb1⟩; obtain ⟨hc1, hf1, hz1⟩ := bcell hb1; try simp at hz1)
    | (go_at_call 22; refine (sec_less _ _ _).mono ?_; rintro e W1 ⟨rfl, hb1⟩; obtain ⟨hc1, hf1, hz1⟩ := bcell hb1; try simp at hz1))
  refine wp_region_calm (by kernel_rfl) (by kernel_rfl) ?_
  repeat (first | go_big_quiet_step ((first | (go_at_call 15; exact calm_call (sec_of _ _)) | (go_at_call 16; exact calm_call (known03 _)) | (go_at_call 17; exact calm_call (law_open _ _)) | (go_at_call 23; exact calm_call (sec_add _ _ _)) | (go_at_call 24; exact calm_call (sec_sub _ _ _)) | (go_at_call 25; exact calm_call (sec_mul _ _ _)) | (go_at_call 28; exact calm_call (sec_xor _ _ _)) | (go_at_call 27; exact calm_call (sec_not _ _)) | (go_at_call 26; exact calm_call (sec_select _ _ _ _)) | (go_at_call 22; exact calm_call (sec_less _ _ _)))) | quiet_step ((first | (go_at_call 15; exact calm_call (sec_of _ _)) | (go_at_call 16; exact calm_call (known03 _)) | (go_at_call 17; exact calm_call (law_open _ _)) | (go_at_call 23; exact calm_call (sec_add _ _ _)) | (go_at_call 24; exact calm_call (sec_sub _ _ _)) | (go_at_call 25; exact calm_call (sec_mul _ _ _)) | (go_at_call 28; exact calm_call (sec_xor _ _ _)) | (go_at_call 27; exact calm_call (sec_not _ _)) | (go_at_call 26; exact calm_call (sec_select _ _ _ _)) | (go_at_call 22; exact calm_call (sec_less _ _ _)))))
  refine wpQuiet_nil ?_
  intro u1
  have hzu1 := u1.below.size
  try simp at hzu1
  go_wp2_with (first
    | (go_at_call 15; refine (sec_of _ _).mono ?_; rintro e W1 ⟨rfl, hb1⟩; obtain ⟨hc1, hf1, hz1⟩ := bcell hb1; try simp at hz1)
    | (go_at_call 16; refine (known03 _).mono ?_; rintro e W1 ⟨rfl, hb1⟩; obtain ⟨hc1, hf1, hz1⟩ := bcell hb1; try simp at hz1)
    | (go_at_call 17; refine (law_open _ _).mono ?_; rintro e W1 ⟨rfl, hb1⟩; obtain ⟨hc1, hf1, hz1⟩ := bcell hb1; try simp at hz1)
    | (go_at_call 23; refine (sec_add _ _ _).mono ?_; rintro e W1 ⟨rfl, hb1⟩; obtain ⟨hc1, hf1, hz1⟩ := bcell hb1; try simp at hz1)
    | (go_at_call 24; refine (sec_sub _ _ _).mono ?_; rintro e W1 ⟨rfl, hb1⟩; obtain ⟨hc1, hf1, hz1⟩ := bcell hb1; try simp at hz1)
    | (go_at_call 25; refine (sec_mul _ _ _).mono ?_; rintro e W1 ⟨rfl, hb1⟩; obtain ⟨hc1, hf1, hz1⟩ := bcell hb1; try simp at hz1)
    | (go_at_call 28; refine (sec_xor _ _ _).mono ?_; rintro e W1 ⟨rfl, hb1⟩; obtain ⟨hc1, hf1, hz1⟩ := bcell hb1; try simp at hz1)
    | (go_at_call 27; refine (sec_not _ _).mono ?_; rintro e W1 ⟨rfl, hb1⟩; obtain ⟨hc1, hf1, hz1⟩ := bcell hb1; try simp at hz1)
    | (go_at_call 26; refine (sec_select _ _ _ _).mono ?_; rintro e W1 ⟨rfl, hb1⟩; obtain ⟨hc1, hf1, hz1⟩ := bcell hb1; try simp at hz1)
    | (go_at_call 22; refine (sec_less _ _ _).mono ?_; rintro e W1 ⟨rfl, hb1⟩; obtain ⟨hc1, hf1, hz1⟩ := bcell hb1; try simp at hz1))
  all_goals go_ret
  all_goals refine ⟨rfl, ?_⟩
  all_goals (repeat (first | exact gr0 _ | refine gr1 ?_ _ | refine gr2 ?_ (Later.below _) | refine gr2 ?_ (by assumption) | refine gr3 ?_))
end Go.Proofs.Ytgoflehojioedaa
