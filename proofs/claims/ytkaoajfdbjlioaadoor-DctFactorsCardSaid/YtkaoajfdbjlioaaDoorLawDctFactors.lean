/- DctFactors: the walk: it returns true. -/
import Derived.Test.YtkaoajfdbjlioaaDoorDctW
import Derived.Deep.LoopGhost
namespace Go.Proofs.YtkaoajfdbjlioaaDoor
open Go.RowKit

theorem fac_facts {k : Int} (hk : 0 ≤ k ∧ k ≤ 255) : ∃ a b d : Nat, ((0 : Int) ≤ a ∧ (a : Int) ≤ 7) ∧ ((0 : Int) ≤ b ∧ (b : Int) ≤ 7) ∧ ((0 : Int) ≤ d ∧ (d : Int) ≤ 31) ∧ (∀ c : Int, c = 8 → k % c = a) ∧ (∀ c : Int, c = 8 → k / c = d) ∧ (∀ c : Int, c = 8 → (d : Int) % c = b) ∧ (∀ c : Int, c = 8 → Int.tmod k c = a) ∧ (∀ c : Int, c = 8 → Int.tdiv k c = d) ∧ (∀ c : Int, c = 8 → Int.tmod (d : Int) c = b) := by
  refine ⟨(k % 8).toNat, (k / 8 % 8).toNat, (k / 8).toNat, by omega, by omega, by omega, ?_, ?_, ?_, ?_, ?_, ?_⟩
  · rintro c rfl; omega
  · rintro c rfl; omega
  · rintro c rfl; omega
  · rintro c rfl; rw [Int.tmod_eq_emod_of_nonneg (by omega)]; omega
  · rintro c rfl; rw [Int.tdiv_eq_ediv_of_nonneg (by omega)]; omega
  · rintro c rfl; rw [Int.tmod_eq_emod_of_nonneg (by omega)]; omega
theorem ff_all : ∀ a, a < 8 → ∀ b, b < 8 → -8388608 < sumTo 8 (fun t => facN a t * facN b t) - (if a = b then 1099511627776 else 0) ∧ sumTo 8 (fun t => facN a t * facN b t) - (if a = b then 1099511627776 else 0) < 8388608 := by decide +kernel
theorem ff_step {a b q : Nat} (ha : a < 8) (hb : b < 8) (hq : q < 8) : sumTo (q + 1) (fun t => facN a t * facN b t) = sumTo q (fun t => facN a t * facN b t) + facN a q * facN b q ∧
    wrap64 (facN a q * facN b q) = facN a q * facN b q ∧ wrap64 (sumTo q (fun t => facN a t * facN b t) + facN a q * facN b q) = sumTo q (fun t => facN a t * facN b t) + facN a q * facN b q := by
  have h : ∀ t, t < 8 → -264416037796 ≤ facN a t * facN b t ∧ facN a t * facN b t ≤ 264416037796 := fun t ht => mul_bd (A := 514214) (B := 514214) (fac_bd ha ht) (fac_bd hb ht)
  have h1 := sumTo_cbd (c := 264416037796) q (f := fun t => facN a t * facN b t) fun t ht => h t (by omega)
  have h2 := h q hq
  exact ⟨rfl, w64 (by omega) (by omega), w64 (by omega) (by omega)⟩

set_option maxRecDepth 100000 in
set_option maxHeartbeats 2000000 in
theorem walk_DctFactors (u x k : Int) (w : World) (hL : Facs w) (_bu : -9223372036854775808 ≤ u ∧ u ≤ 9223372036854775807) (_bx : -9223372036854775808 ≤ x ∧ x ≤ 9223372036854775807) (hk : 0 ≤ k ∧ k ≤ 255) :
    Calls Tryd.prog 4 #[.int .i64 u, .int .i64 x, .int .u8 k] w fun e w' => e = .returned (.bool true) ∧ Below w.heap.size w w' := by
  obtain ⟨a, b, d, ha9, hb9, hd9, r1, r2, r3, r4, r5, r6⟩ := fac_facts hk
  clear hk
  go_enter Tryd.func4, Tryd.ntmps4
  go_wp2
  have HB0 : Below w.heap.size w w := gr0 w
  go_loopg [9, 10] 8 (fun gj s i wr => ∃ jj : Nat, jj + gj = 8 ∧ i = .int .i64 jj ∧ s = .int .i64 (sumTo jj (fun t => facN a t * facN b t)) ∧ Below w.heap.size w wr)
  case atStart => exact ⟨0, rfl, rfl, rfl, HB0⟩
  case round =>
    clear HB0
    obtain ⟨q, hq, rfl, rfl, HB⟩ := hrel
    have hLr : Facs wr := hL.below HB
    by_cases hlq : q < 8
    · have t1 : decide ((q : Int) < 8) = true := by simp; omega
      have hq9 : (0 : Int) ≤ q ∧ (q : Int) ≤ 7 := by omega
      have f1 := facI_nn ha9 hq9
      have f2 := facI_nn hb9 hq9
      obtain ⟨e1, g1, g2⟩ := ff_step (a := a) (b := b) (q := q) (by omega) (by omega) hlq
      have HE : Hid (sumTo (q + 1) (fun t => facN a t * facN b t) = sumTo q (fun t => facN a t * facN b t) + facN a q * facN b q) := e1
      have HX : Hid (Below w.heap.size w wr) := HB
      clear e1 HB
      generalize sumTo q (fun t => facN a t * facN b t) = S at g2 HE ⊢
      go_wp2_with (go_at_call 20; refine (factor_ _ _ _ (by first | exact hLr | exact hLr.below (by assumption))).mono ?_; rintro e W1 ⟨rfl, hb1⟩; obtain ⟨hc1, hf1, hz1⟩ := bcell hb1)
      go_roundg (8 - (q + 1))
      case measure => omega
      case rel =>
        refine ⟨q + 1, by omega, by go_num, ?_, ?_⟩
        · rw [HE.out, g2]
        · exact gr2 (gr2 HX.out (by assumption)) (by assumption)
    · have hq8 : q = 8 := by omega
      subst hq8
      have t1 : decide (((8 : Nat) : Int) < 8) = false := rfl
      have hs := ff_all a (by omega) b (by omega)
      have HX : Hid (Below w.heap.size w wr) := HB
      clear HB
      generalize sumTo 8 (fun t => facN a t * facN b t) = S at hs ⊢
      by_cases hab : a = b
      · rw [if_pos hab] at hs
        have ab : ((a : Int) == (b : Int)) = true := by simp; omega
        have w1 : wrap64 (S - 1099511627776) = S - 1099511627776 := w64 (by omega) (by omega)
        have d1 : decide (S - 1099511627776 < 8388608) = true := by simp; omega
        have d2 : decide (-8388608 < S - 1099511627776) = true := by simp; omega
        clear hs hab
        go_wp2_with (first | (go_at_call 16; refine (known08 _ hLr).mono ?_; rintro e W1 ⟨rfl, hb1⟩; have hL1 := hLr.below hb1; obtain ⟨hc1, hf1, hz1⟩ := bcell hb1) | (go_at_call 20; refine (factor_ _ _ _ (by assumption)).mono ?_; rintro e W2 ⟨rfl, hb2⟩; have hL2 := Facs.below (by assumption) hb2; obtain ⟨hc2, hf2, hz2⟩ := bcell hb2) | (go_at_call 21; refine (rfactor_ _ _ _).mono ?_; rintro e W2 ⟨rfl, hb2⟩; have hL2 := Facs.below (by assumption) hb2; obtain ⟨hc2, hf2, hz2⟩ := bcell hb2))
        go_ret
        exact ⟨rfl, by repeat (first | exact HX.out | refine gr2 ?_ (by assumption))⟩
      · rw [if_neg hab, Int.sub_zero] at hs
        have ab : ((a : Int) == (b : Int)) = false := by simp; omega
        have d1 : decide (S < 8388608) = true := by simp; omega
        have d2 : decide (-8388608 < S) = true := by simp; omega
        clear hs hab
        go_wp2_with (first | (go_at_call 16; refine (known08 _ hLr).mono ?_; rintro e W1 ⟨rfl, hb1⟩; have hL1 := hLr.below hb1; obtain ⟨hc1, hf1, hz1⟩ := bcell hb1) | (go_at_call 20; refine (factor_ _ _ _ (by assumption)).mono ?_; rintro e W2 ⟨rfl, hb2⟩; have hL2 := Facs.below (by assumption) hb2; obtain ⟨hc2, hf2, hz2⟩ := bcell hb2) | (go_at_call 21; refine (rfactor_ _ _ _).mono ?_; rintro e W2 ⟨rfl, hb2⟩; have hL2 := Facs.below (by assumption) hb2; obtain ⟨hc2, hf2, hz2⟩ := bcell hb2))
        go_ret
        exact ⟨rfl, by repeat (first | exact HX.out | refine gr2 ?_ (by assumption))⟩
end Go.Proofs.YtkaoajfdbjlioaaDoor
