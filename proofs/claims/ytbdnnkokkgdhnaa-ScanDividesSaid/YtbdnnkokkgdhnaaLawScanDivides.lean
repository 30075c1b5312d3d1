/- ScanDivides: the walk: it returns true. -/
import Derived.Test.YtbdnnkokkgdhnaaKnown05
import Derived.Test.YtbdnnkokkgdhnaaRnd
namespace Go.Proofs.Ytbdnnkokkgdhnaa
open Go.RowKit

set_option maxRecDepth 100000 in
set_option maxHeartbeats 4000000 in
theorem walk_ScanDivides (n d m q : Int) (w : World) (_bn : 0 ≤ n ∧ n ≤ 65535) (_bd : 0 ≤ d ∧ d ≤ 65535) (_bm : -32768 ≤ m ∧ m ≤ 32767) (_bq : 0 ≤ q ∧ q ≤ 255) :
    Calls Try.prog 11 #[.int .u16 n, .int .u16 d, .int .i16 m, .int .u8 q] w fun e w' => e = .returned (.bool true) ∧ Below w.heap.size w w' := by
  obtain ⟨x, hx⟩ : ∃ x, x = (if d < 1 then 1 else d) := ⟨_, rfl⟩
  obtain ⟨y, hy⟩ : ∃ y, y = (if m < -32767 then -32767 else m) := ⟨_, rfl⟩
  obtain ⟨z, hz⟩ : ∃ z, z = (if q < 1 then 1 else q) := ⟨_, rfl⟩
  have x1 : 1 ≤ x ∧ x ≤ 65535 := by rw [hx]; split <;> omega
  have y1 : -32767 ≤ y ∧ y ≤ 32767 := by rw [hy]; split <;> omega
  have z1 : 1 ≤ z ∧ z ≤ 255 := by rw [hz]; split <;> omega
  have hx2 := hx.symm
  have hy2 := hy.symm
  have hz2 := hz.symm
  clear hx hy hz
  have e1 : (n / x == n / x) = true := beq_self_eq_true _
  have e2 : (roundI y z == roundI y z) = true := beq_self_eq_true _
  go_enter Try.func11, Try.ntmps11
  go_wp2_with (first
    | (go_at_call 35; (with_reducible refine (known05 w).mono ?_); rintro e w0 ⟨rfl, hb0⟩; have B0 := hid2 hb0)
    | (go_at_call 47; (with_reducible refine (rround5_ y z w7 y1 z1).mono ?_); rintro e w8 ⟨rfl, hb8⟩; have B8 := hid2 (gr2 B7.out hb8))
    | (go_at_call 21; (with_reducible refine (sopen_none (roundI y z) w6).mono ?_); rintro e w7 ⟨rfl, hb7⟩; have B7 := hid2 (gr2 B6.out hb7))
    | (go_at_call 46; (with_reducible refine (sround_ y z w5 y1 z1).mono ?_); rintro e w6 ⟨rfl, hb6⟩; have B6 := hid2 (gr2 B5.out hb6))
    | (go_at_call 19; (with_reducible refine (sec_of y w4).mono ?_); rintro e w5 ⟨rfl, hb5⟩; have B5 := hid2 (gr2 B4.out hb5))
    | (go_at_call 45; (with_reducible refine (rdiv_ n x w3 _bn x1).mono ?_); rintro e w4 ⟨rfl, hb4⟩; have B4 := hid2 (gr2 B3.out hb4))
    | (go_at_call 21; (with_reducible refine (sopen_none (n / x) w2).mono ?_); rintro e w3 ⟨rfl, hb3⟩; have B3 := hid2 (gr2 B2.out hb3))
    | (go_at_call 44; (with_reducible refine (sdiv_ n x w1 _bn x1).mono ?_); rintro e w2 ⟨rfl, hb2⟩; have B2 := hid2 (gr2 B1.out hb2))
    | (go_at_call 19; (with_reducible refine (sec_of n w0).mono ?_); rintro e w1 ⟨rfl, hb1⟩; have B1 := hid2 (gr2 B0.out hb1)))
  go_ret
  exact ⟨rfl, B8.out⟩
end Go.Proofs.Ytbdnnkokkgdhnaa
