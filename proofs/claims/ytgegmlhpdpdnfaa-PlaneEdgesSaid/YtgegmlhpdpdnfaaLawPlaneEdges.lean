/- PlaneEdges: the walk: it returns true. -/
import Derived.Test.YtgegmlhpdpdnfaaEdg1
import Derived.Test.YtgegmlhpdpdnfaaEdg2
import Derived.Test.YtgegmlhpdpdnfaaEdg3
import Derived.Test.YtgegmlhpdpdnfaaEdg4
namespace Go.Proofs.Ytgegmlhpdpdnfaa
open Go.RowKit
set_option maxHeartbeats 4000000 in
theorem walk_PlaneEdges (a b d : Int) (v : Value) (nc : Nat) (C : Nat → Int) (w : World) (H : Nums .u8 v nc C w) (hnm : nc ≤ 9223372036854775807) (ba : 0 ≤ a ∧ a ≤ 255) (bb : 0 ≤ b ∧ b ≤ 255) (bd : 0 ≤ d ∧ d ≤ 255) :
    Calls Try.prog 8 #[.int .u8 a, .int .u8 b, .int .u8 d, v] w fun e w' => e = .returned (.bool true) ∧ Below w.heap.size w w' := by
  obtain ⟨x, hxe⟩ : ∃ x, 1 + a % 40 = x := ⟨_, rfl⟩
  obtain ⟨y, hye⟩ : ∃ y, 1 + b % 24 = y := ⟨_, rfl⟩
  obtain ⟨m, hme⟩ : ∃ m, 1 + d % 4 = m := ⟨_, rfl⟩
  have HP : Hid2 (∀ W, Calls Try.prog 15 #[.int .u8 a, .int .u8 b, .int .u8 d] W fun e w' => e = .returned (.agg #[.int .i64 x, .int .i64 y, .int .i64 m, .int .i64 50, .int .i64 1, .int .i64 0]) ∧ Below W.heap.size W w') := by
    intro W
    have h := Public_ a b d ba bb bd W
    rwa [hxe, hye, hme] at h
  have hx : 1 ≤ x ∧ x ≤ 40 := by omega
  have hy : 1 ≤ y ∧ y ≤ 24 := by omega
  have hm : m = 1 ∨ m = 2 ∨ m = 3 ∨ m = 4 := by omega
  clear hxe hye hme ba bb bd
  rcases hm with rfl | rfl | rfl | rfl
  · exact walkE1 w H hnm hx hy HP
  · exact walkE2 w H hnm hx hy HP
  · exact walkE3 w H hnm hx hy HP
  · exact walkE4 w H hnm hx hy HP
end Go.Proofs.Ytgegmlhpdpdnfaa
