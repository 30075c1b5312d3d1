/- BufEdges: the walk: it returns true. -/
import Derived.Test.YtbdnnkokkgdhnaaKnown04
namespace Go.Proofs.Ytbdnnkokkgdhnaa
open Go.RowKit

set_option maxRecDepth 100000 in
set_option maxHeartbeats 4000000 in
theorem walk_BufEdges (n i v : Int) (w : World) (_bn : 0 ≤ n ∧ n ≤ 255) (_bi : -9223372036854775808 ≤ i ∧ i ≤ 9223372036854775807) (_bv : -9223372036854775808 ≤ v ∧ v ≤ 9223372036854775807) :
    Calls Try.prog 3 #[.int .u8 n, .int .i64 i, .int .i64 v] w fun e w' => e = .returned (.bool true) ∧ Below w.heap.size w w' := by
  obtain ⟨m, hm⟩ : ∃ m : Nat, (m : Int) = n % 50 := ⟨(n % 50).toNat, by omega⟩
  have hm1 : ∀ c : Int, c = 50 → Int.tmod n c = m := by rintro c rfl; rw [Int.tmod_eq_emod_of_nonneg (by omega), hm]
  have hm2 : ∀ c : Int, c = 50 → n % c = m := by rintro c rfl; exact hm.symm
  have hm3 : (m : Int) ≤ 49 := by omega
  have hm4 : (0 : Int) ≤ m := by omega
  clear hm
  by_cases h0 : 0 ≤ i
  · have t0 : decide (0 ≤ i) = true := by simp; omega
    by_cases h1 : i < (m : Int)
    · have t1 : decide (i < (m : Int)) = true := by simp; omega
      go_enter Try.func3, Try.ntmps3
      go_wp2_with (first
        | (go_at_call 15; (with_reducible refine (known04 w).mono ?_); rintro e w0 ⟨rfl, hb0⟩))
      go_ret
      exact ⟨rfl, hb0⟩
    · have t1 : decide (i < (m : Int)) = false := by simp; omega
      have hin : ¬ inL (List.replicate m 0) i := by unfold inL; rw [List.length_replicate]; omega
      have hS : ∀ o : Option Nat, seeL o [] (List.replicate m 0) i = [] := fun o => by unfold seeL; exact if_neg hin
      have hL : setL (List.replicate m 0) i v = List.replicate m 0 := by unfold setL; exact if_neg hin
      have hG : getL (List.replicate m 0) i = 0 := by unfold getL; exact if_neg hin
      clear hin
      go_enter Try.func3, Try.ntmps3
      go_wp2_with (first
        | (go_at_call 15; (with_reducible refine (known04 _).mono ?_); rintro e w6 ⟨rfl, hb6⟩; have K6' := K5'.calm hb6; have hx6 := (hb6.cell (p := ⟨w5.heap.size, 0, none⟩) (by simp)).trans (show _ = some (.int .i64 0) by simp [alloc_cell_if]); have zx6 := World.block_lt_of_cell? w6 _ hx6)
        | (go_at_call 16; (with_reducible refine (new_ w).mono ?_); rintro e w1 ⟨rfl, hw1⟩; have H1 := one_new w; rw [← hw1] at H1; clear hw1; obtain ⟨fr, r1, t1⟩ := One.ro (E := []) H1; clear H1)
        | (go_at_call 17; (refine (bnew_ (some w.heap.size) w1 m (by omega)).mono ?_); rintro e w2 ⟨b, rfl, hN⟩; have K2 := hN.one r1 t1; clear hN r1 t1)
        | (go_at_call 19; (with_reducible refine (sec_of v _).mono ?_); rintro e w3 ⟨rfl, hb3⟩; have K3 := K2.calm hb3; clear K2)
        | (go_at_call 18; (with_reducible refine (bset_ K3 (by simp) (by simp; omega) i v).mono ?_); rintro e w4 ⟨rfl, K4, _⟩; rw [hS, hL] at K4; clear K3)
        | (go_at_call 20; (with_reducible refine (bget_ K4 (by simp) (by simp; omega) i).mono ?_); rintro e w5 ⟨rfl, K5, _⟩; rw [hG]; rw [hS] at K5; have K5' := K5.more (gr1 (gr0 w5) (.cells #[.int .i64 0] 29)) w5.heap.size (Nat.le_refl _) (by simp); clear K4 K5)
        | (go_at_call 22; (with_reducible refine (eventsp_ K7.rn (by simp)).mono ?_); rintro e w8 ⟨v8, rfl, hv, hb8⟩; obtain ⟨q, c, hq5, hv5⟩ := hv.form; subst hq5; clear hv5 hv; have K8 := K7.calm hb8; obtain ⟨v9, B8⟩ := K8.bufc)
        | (go_at_call 23; (with_reducible refine (blen_ B8).mono ?_); rintro e w9 ⟨rfl, hb9⟩; have K9 := K8.below; rw [List.length_replicate])
        | (go_at_call 21; (with_reducible refine (sopen_none 0 _).mono ?_); rintro e w7 ⟨rfl, hb7⟩; have K7 := K6'.calm hb7))
      go_ret
      exact ⟨rfl, gr2 K9 hb9⟩
  · have t0 : decide (0 ≤ i) = false := by simp; omega
    have hin : ¬ inL (List.replicate m 0) i := by unfold inL; rw [List.length_replicate]; omega
    have hS : ∀ o : Option Nat, seeL o [] (List.replicate m 0) i = [] := fun o => by unfold seeL; exact if_neg hin
    have hL : setL (List.replicate m 0) i v = List.replicate m 0 := by unfold setL; exact if_neg hin
    have hG : getL (List.replicate m 0) i = 0 := by unfold getL; exact if_neg hin
    clear hin
    go_enter Try.func3, Try.ntmps3
    go_wp2_with (first
      | (go_at_call 15; (with_reducible refine (known04 _).mono ?_); rintro e w6 ⟨rfl, hb6⟩; have K6' := K5'.calm hb6; have hx6 := (hb6.cell (p := ⟨w5.heap.size, 0, none⟩) (by simp)).trans (show _ = some (.int .i64 0) by simp [alloc_cell_if]); have zx6 := World.block_lt_of_cell? w6 _ hx6)
      | (go_at_call 16; (with_reducible refine (new_ w).mono ?_); rintro e w1 ⟨rfl, hw1⟩; have H1 := one_new w; rw [← hw1] at H1; clear hw1; obtain ⟨fr, r1, t1⟩ := One.ro (E := []) H1; clear H1)
      | (go_at_call 17; (refine (bnew_ (some w.heap.size) w1 m (by omega)).mono ?_); rintro e w2 ⟨b, rfl, hN⟩; have K2 := hN.one r1 t1; clear hN r1 t1)
      | (go_at_call 19; (with_reducible refine (sec_of v _).mono ?_); rintro e w3 ⟨rfl, hb3⟩; have K3 := K2.calm hb3; clear K2)
      | (go_at_call 18; (with_reducible refine (bset_ K3 (by simp) (by simp; omega) i v).mono ?_); rintro e w4 ⟨rfl, K4, _⟩; rw [hS, hL] at K4; clear K3)
      | (go_at_call 20; (with_reducible refine (bget_ K4 (by simp) (by simp; omega) i).mono ?_); rintro e w5 ⟨rfl, K5, _⟩; rw [hG]; rw [hS] at K5; have K5' := K5.more (gr1 (gr0 w5) (.cells #[.int .i64 0] 29)) w5.heap.size (Nat.le_refl _) (by simp); clear K4 K5)
      | (go_at_call 22; (with_reducible refine (eventsp_ K7.rn (by simp)).mono ?_); rintro e w8 ⟨v8, rfl, hv, hb8⟩; obtain ⟨q, c, hq5, hv5⟩ := hv.form; subst hq5; clear hv5 hv; have K8 := K7.calm hb8; obtain ⟨v9, B8⟩ := K8.bufc)
      | (go_at_call 23; (with_reducible refine (blen_ B8).mono ?_); rintro e w9 ⟨rfl, hb9⟩; have K9 := K8.below; rw [List.length_replicate])
      | (go_at_call 21; (with_reducible refine (sopen_none 0 _).mono ?_); rintro e w7 ⟨rfl, hb7⟩; have K7 := K6'.calm hb7))
    go_ret
    exact ⟨rfl, gr2 K9 hb9⟩
end Go.Proofs.Ytbdnnkokkgdhnaa
