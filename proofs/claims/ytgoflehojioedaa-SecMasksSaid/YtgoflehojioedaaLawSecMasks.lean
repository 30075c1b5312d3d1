/- SecMasks: the walk: it returns true. -/
import Derived.Test.YtgoflehojioedaaKnown03
namespace Go.Proofs.Ytgoflehojioedaa
open Go.RowKit

set_option maxHeartbeats 2000000 in
theorem walk_SecMasks (a : Int) (b : Int) (m : Int) (low : Int) (high : Int) (k : Int) (w : World) (_ba : -9223372036854775808 ≤ a ∧ a ≤ 9223372036854775807) (_bb : -9223372036854775808 ≤ b ∧ b ≤ 9223372036854775807) (_bm : -9223372036854775808 ≤ m ∧ m ≤ 9223372036854775807) (_blow : -9223372036854775808 ≤ low ∧ low ≤ 9223372036854775807) (_bhigh : -9223372036854775808 ≤ high ∧ high ≤ 9223372036854775807) (_bk : 0 ≤ k ∧ k ≤ 255) :
    Calls Try.prog 8 #[.int .i64 a, .int .i64 b, .int .i64 m, .int .i64 low, .int .i64 high, .int .u8 k] w fun e w' => e = .returned (.bool true) ∧ Below w.heap.size w w' := by
  have ia : I64 a := by unfold I64; omega
  have ib : I64 b := by unfold I64; omega
  have ilow : I64 low := by unfold I64; omega
  have ihigh : I64 high := by unfold I64; omega
  have z1 : ∀ p q : Int, I64 p → I64 q → secLess p q = mask (decide (p < q)) := fun _ _ => secLess_eq
  have z2 : ∀ p q : Int, I64 p → I64 q → secEqual p q = mask (p == q) := fun p q hp hq => (secEqual_eq hp hq).trans (mask_beq p q)
  have ja := shr_I64 (k % 64).toNat ia
  have jb := shr_I64 (k % 64).toNat ib
  have h1 := z1 a b ia ib
  have h2 := z2 a b ia ib
  have h3 := z1 _ _ ja jb
  have h4 := z2 _ _ ja jb
  have h5 := secClip_eq ia ilow ihigh
  have h6 := secAbs_eq ia
  have h7 : secEqual a a = -1 := by rw [secEqual_eq ia ia, decide_eq_true rfl]; rfl
  clear z1 z2 ja jb ia ib ilow ihigh
  go_enter Try.func8, Try.ntmps8
  go_wp2_with (first
    | (go_at_call 15; refine (sec_of _ _).mono ?_; rintro e W1 ⟨rfl, hb1⟩; obtain ⟨hc1, hf1, hz1⟩ := bcell hb1; try simp at hz1)
    | (go_at_call 16; refine (known03 _).mono ?_; rintro e W1 ⟨rfl, hb1⟩; obtain ⟨hc1, hf1, hz1⟩ := bcell hb1; try simp at hz1)
    | (go_at_call 17; refine (law_open _ _).mono ?_; rintro e W1 ⟨rfl, hb1⟩; obtain ⟨hc1, hf1, hz1⟩ := bcell hb1; try simp at hz1)
    | (go_at_call 22; refine (sec_less _ _ _).mono ?_; rintro e W1 ⟨rfl, hb1⟩; obtain ⟨hc1, hf1, hz1⟩ := bcell hb1; try simp at hz1)
    | (go_at_call 33; refine (sec_equal _ _ _).mono ?_; rintro e W1 ⟨rfl, hb1⟩; obtain ⟨hc1, hf1, hz1⟩ := bcell hb1; try simp at hz1)
    | (go_at_call 26; refine (sec_select _ _ _ _).mono ?_; rintro e W1 ⟨rfl, hb1⟩; obtain ⟨hc1, hf1, hz1⟩ := bcell hb1; try simp at hz1)
    | (go_at_call 32; refine (sec_clip _ _ _ _).mono ?_; rintro e W1 ⟨rfl, hb1⟩; obtain ⟨hc1, hf1, hz1⟩ := bcell hb1; try simp at hz1)
    | (go_at_call 38; refine (sec_abs _ _).mono ?_; rintro e W1 ⟨rfl, hb1⟩; obtain ⟨hc1, hf1, hz1⟩ := bcell hb1; try simp at hz1)
    | (go_at_call 34; refine (ref_less _ _ _).mono ?_; rintro e W1 ⟨rfl, hb1⟩; obtain ⟨hc1, hf1, hz1⟩ := bcell hb1; try simp at hz1)
    | (go_at_call 35; refine (ref_equal _ _ _).mono ?_; rintro e W1 ⟨rfl, hb1⟩; obtain ⟨hc1, hf1, hz1⟩ := bcell hb1; try simp at hz1)
    | (go_at_call 36; refine (ref_select _ _ _ _).mono ?_; rintro e W1 ⟨rfl, hb1⟩; obtain ⟨hc1, hf1, hz1⟩ := bcell hb1; try simp at hz1)
    | (go_at_call 37; refine (ref_clip _ _ _ _).mono ?_; rintro e W1 ⟨rfl, hb1⟩; obtain ⟨hc1, hf1, hz1⟩ := bcell hb1; try simp at hz1)
    | (go_at_call 39; refine (ref_abs _ _).mono ?_; rintro e W1 ⟨rfl, hb1⟩; obtain ⟨hc1, hf1, hz1⟩ := bcell hb1; try simp at hz1))
  refine wp_region_calm (by kernel_rfl) (by kernel_rfl) ?_
  repeat (first | go_big_quiet_step ((first | (go_at_call 15; exact calm_call (sec_of _ _)) | (go_at_call 16; exact calm_call (known03 _)) | (go_at_call 17; exact calm_call (law_open _ _)) | (go_at_call 22; exact calm_call (sec_less _ _ _)) | (go_at_call 33; exact calm_call (sec_equal _ _ _)) | (go_at_call 26; exact calm_call (sec_select _ _ _ _)) | (go_at_call 32; exact calm_call (sec_clip _ _ _ _)) | (go_at_call 38; exact calm_call (sec_abs _ _)) | (go_at_call 34; exact calm_call (ref_less _ _ _)) | (go_at_call 35; exact calm_call (ref_equal _ _ _)) | (go_at_call 36; exact calm_call (ref_select _ _ _ _)) | (go_at_call 37; exact calm_call (ref_clip _ _ _ _)) | (go_at_call 39; exact calm_call (ref_abs _ _)))) | quiet_step ((first | (go_at_call 15; exact calm_call (sec_of _ _)) | (go_at_call 16; exact calm_call (known03 _)) | (go_at_call 17; exact calm_call (law_open _ _)) | (go_at_call 22; exact calm_call (sec_less _ _ _)) | (go_at_call 33; exact calm_call (sec_equal _ _ _)) | (go_at_call 26; exact calm_call (sec_select _ _ _ _)) | (go_at_call 32; exact calm_call (sec_clip _ _ _ _)) | (go_at_call 38; exact calm_call (sec_abs _ _)) | (go_at_call 34; exact calm_call (ref_less _ _ _)) | (go_at_call 35; exact calm_call (ref_equal _ _ _)) | (go_at_call 36; exact calm_call (ref_select _ _ _ _)) | (go_at_call 37; exact calm_call (ref_clip _ _ _ _)) | (go_at_call 39; exact calm_call (ref_abs _ _)))))
  refine wpQuiet_nil ?_
  intro u0
  have hzu0 := u0.below.size
  try simp at hzu0
  go_wp2_with (first
    | (go_at_call 15; refine (sec_of _ _).mono ?_; rintro e W1 ⟨rfl, hb1⟩; obtain ⟨hc1, hf1, hz1⟩ := bcell hb1; try simp at hz1)
    | (go_at_call 16; refine (known03 _).mono ?_; rintro e W1 ⟨rfl, hb1⟩; obtain ⟨hc1, hf1, hz1⟩ := bcell hb1; try simp at hz1)
    | (go_at_call 17; refine (law_open _ _).mono ?_; rintro e W1 ⟨rfl, hb1⟩; obtain ⟨hc1, hf1, hz1⟩ := bcell hb1; try simp at hz1)
    | (go_at_call 22; refine (sec_less _ _ _).mono ?_; rintro e W1 ⟨rfl, hb1⟩; obtain ⟨hc1, hf1, hz1⟩ := bcell hb1; try simp at hz1)
    | (go_at_call 33; refine (sec_equal _ _ _).mono ?_; rintro e W1 ⟨rfl, hb1⟩; obtain ⟨hc1, hf1, hz1⟩ := bcell hb1; try simp at hz1)
    | (go_at_call 26; refine (sec_select _ _ _ _).mono ?_; rintro e W1 ⟨rfl, hb1⟩; obtain ⟨hc1, hf1, hz1⟩ := bcell hb1; try simp at hz1)
    | (go_at_call 32; refine (sec_clip _ _ _ _).mono ?_; rintro e W1 ⟨rfl, hb1⟩; obtain ⟨hc1, hf1, hz1⟩ := bcell hb1; try simp at hz1)
    | (go_at_call 38; refine (sec_abs _ _).mono ?_; rintro e W1 ⟨rfl, hb1⟩; obtain ⟨hc1, hf1, hz1⟩ := bcell hb1; try simp at hz1)
    | (go_at_call 34; refine (ref_less _ _ _).mono ?_; rintro e W1 ⟨rfl, hb1⟩; obtain ⟨hc1, hf1, hz1⟩ := bcell hb1; try simp at hz1)
    | (go_at_call 35; refine (ref_equal _ _ _).mono ?_; rintro e W1 ⟨rfl, hb1⟩; obtain ⟨hc1, hf1, hz1⟩ := bcell hb1; try simp at hz1)
    | (go_at_call 36; refine (ref_select _ _ _ _).mono ?_; rintro e W1 ⟨rfl, hb1⟩; obtain ⟨hc1, hf1, hz1⟩ := bcell hb1; try simp at hz1)
    | (go_at_call 37; refine (ref_clip _ _ _ _).mono ?_; rintro e W1 ⟨rfl, hb1⟩; obtain ⟨hc1, hf1, hz1⟩ := bcell hb1; try simp at hz1)
    | (go_at_call 39; refine (ref_abs _ _).mono ?_; rintro e W1 ⟨rfl, hb1⟩; obtain ⟨hc1, hf1, hz1⟩ := bcell hb1; try simp at hz1))
  all_goals go_ret
  all_goals refine ⟨rfl, ?_⟩
  all_goals (repeat (first | exact gr0 _ | refine gr1 ?_ _ | refine gr2 ?_ (Later.below _) | refine gr2 ?_ (by assumption) | refine gr3 ?_))
end Go.Proofs.Ytgoflehojioedaa
