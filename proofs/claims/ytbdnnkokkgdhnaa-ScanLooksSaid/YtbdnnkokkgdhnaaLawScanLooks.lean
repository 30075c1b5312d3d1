/- ScanLooks: the walk: it returns true. -/
import Derived.Test.YtbdnnkokkgdhnaaKnown05
import Derived.Test.YtbdnnkokkgdhnaaScanK
namespace Go.Proofs.Ytbdnnkokkgdhnaa
open Go.RowKit

set_option maxRecDepth 100000 in
set_option maxHeartbeats 4000000 in
theorem walk_ScanLooks (vl : Value) (n : Nat) (f : Nat → Int) (p k : Int) (w : World) (Hl : Nums .i64 vl n f w) (hm : n ≤ 9223372036854775807) (_bp : -9223372036854775808 ≤ p ∧ p ≤ 9223372036854775807) (_bk : 0 ≤ k ∧ k ≤ 255) :
    Calls Try.prog 7 #[vl, .int .i64 p, .int .u8 k] w fun e w' => e = .returned (.bool true) ∧ Below w.heap.size w w' := by
  have HC := hid2 Hl
  obtain ⟨ql, cl, rfl⟩ := Hl.form
  clear Hl
  have hn0 : (0 : Int) ≤ n := by omega
  have hp : I64 p := _bp
  by_cases hle : n ≤ 300
  · have t1 : decide ((300 : Int) < (n : Int)) = false := by simp; omega
    have hn1 : (n : Int) ≤ 300 := by omega
    have hk : I64 (k - 2) := by unfold I64; omega
    have e1 : (getL (lst f n) p == getL (lst f n) p) = true := beq_self_eq_true _
    have e2 : (getL (lst f n) (k - 2) == getL (lst f n) (k - 2)) = true := beq_self_eq_true _
    go_enter Try.func7, Try.ntmps7
    go_wp2_with (first
      | (go_at_call 35; (with_reducible refine (known05 w).mono ?_); rintro e w0 ⟨rfl, hb0⟩; have C0 := hid2 (HC.out.below hb0); have B0 := hid2 hb0)
      | (go_at_call 37; (with_reducible refine (rlook_ C5.out (by omega) (k - 2)).mono ?_); rintro e w8 ⟨rfl, hb8⟩; have B8 := hid2 (gr2 B7.out hb8))
      | (go_at_call 21; (with_reducible refine (sopen_none (getL (lst f n) (k - 2)) w6).mono ?_); rintro e w7 ⟨rfl, hb7⟩; have C5 := hid2 (C4b.out.below hb7); have B7 := hid2 (gr2 B6.out hb7))
      | (go_at_call 36; (with_reducible refine (slook_ C4.out (by omega) (k - 2) hk).mono ?_); rintro e w6 ⟨rfl, hb6⟩; have C4b := hid2 (C4.out.below hb6); have B6 := hid2 (gr2 B5.out hb6))
      | (go_at_call 19; (with_reducible refine (sec_of (k - 2) w4).mono ?_); rintro e w5 ⟨rfl, hb5⟩; have C4 := hid2 (C3.out.below hb5); have B5 := hid2 (gr2 B4.out hb5))
      | (go_at_call 37; (with_reducible refine (rlook_ C2b.out (by omega) p).mono ?_); rintro e w4 ⟨rfl, hb4⟩; have C3 := hid2 (C2b.out.below hb4); have B4 := hid2 (gr2 B3.out hb4))
      | (go_at_call 21; (with_reducible refine (sopen_none (getL (lst f n) p) w2).mono ?_); rintro e w3 ⟨rfl, hb3⟩; have C2b := hid2 (C2.out.below hb3); have B3 := hid2 (gr2 B2.out hb3))
      | (go_at_call 36; (with_reducible refine (slook_ C1.out (by omega) p hp).mono ?_); rintro e w2 ⟨rfl, hb2⟩; have C2 := hid2 (C1.out.below hb2); have B2 := hid2 (gr2 B1.out hb2))
      | (go_at_call 19; (with_reducible refine (sec_of p w0).mono ?_); rintro e w1 ⟨rfl, hb1⟩; have C1 := hid2 (C0.out.below hb1); have B1 := hid2 (gr2 B0.out hb1)))
    go_ret
    exact ⟨rfl, B8.out⟩
  · have t1 : decide ((300 : Int) < (n : Int)) = true := by simp; omega
    have hm1 : (n : Int) ≤ 9223372036854775807 := by omega
    go_enter Try.func7, Try.ntmps7
    go_wp2_with (first
      | (go_at_call 35; (with_reducible refine (known05 w).mono ?_); rintro e w0 ⟨rfl, hb0⟩))
    go_ret
    exact ⟨rfl, hb0⟩
end Go.Proofs.Ytbdnnkokkgdhnaa
