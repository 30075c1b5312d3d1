/- A new part: how much room it has; how it is made. -/
import Derived.Test.YtbdnnkokkgdhnaaProg
import Derived.Test.YtbdnnkokkgdhnaaTraceR
import Derived.Test.YtbdnnkokkgdhnaaTraceB
import Derived.Laws.MakeOwn
namespace Go.Proofs.Ytbdnnkokkgdhnaa
open Go.RowKit

theorem info_u32 : (Try.prog.info? 103).map (fun i => (i.zero, i.size, i.bytes)) = some (some (.int .u32 0), 1, 4) := by kernel_rfl
theorem info_row : (Try.prog.info? 100).map (fun i => (i.zero, i.size, i.bytes)) = some (some (.slice none 0 0), 1, 24) := by kernel_rfl
theorem shift_cap (m : Nat) (u : Int) (hu : u = 2 * (m : Int)) (W : World) :
    (Op.shift BinOp.shl IntKind.i64 64 IntKind.i64 (if 10 < u then 10 else u)).run Try.prog W = .ok (.int .i64 (capOf m)) W := by
  have h : ∀ s : Nat, s ≤ 10 → (Op.shift BinOp.shl IntKind.i64 64 IntKind.i64 (s : Int)).run Try.prog W = .ok (.int .i64 ((64 * 2 ^ s : Nat) : Int)) W := by
    intro s hs
    have : s = 0 ∨ s = 1 ∨ s = 2 ∨ s = 3 ∨ s = 4 ∨ s = 5 ∨ s = 6 ∨ s = 7 ∨ s = 8 ∨ s = 9 ∨ s = 10 := by omega
    rcases this with rfl | rfl | rfl | rfl | rfl | rfl | rfl | rfl | rfl | rfl | rfl <;> rfl
  have h2 : (if 10 < u then 10 else u) = ((min (2 * m) 10 : Nat) : Int) := by subst hu; split <;> omega
  rw [h2, h _ (by omega)]
  rfl
def room0 (c : Nat) : Array Value := (List.replicate c (Value.int .u32 0)).toArray
set_option maxRecDepth 100000 in
theorem make_cap (c : Nat) (hc : c ≤ 65536) (W : World) :
    (Instr.makeSlice 100 (.int .i64 0) (.int .i64 (c : Int))).run Try.prog W = .ok (.slice (some ⟨W.heap.size, 0, none⟩) 0 c) (W.alloc (.cells (room0 c) 103)) := by
  obtain ⟨i0, hi, hz0, hz1, hz2⟩ := info_parts info_u32
  have h := run_make (P := Try.prog) W 100 103 i0 (.int .u32 0) Try.underlying100 hi hz0 .i64 .i64 0 (c : Int) (by omega) (by omega) (by rw [hz2]; omega) (by omega)
  rw [h]
  simp only [Int.toNat_zero, Int.toNat_natCast, hz1, Nat.mul_one]
  congr 3
  unfold madeCells room0
  apply Array.ext
  · simp
  · intro i h1 h2
    simp [Value.cells, Nat.mod_one]
end Go.Proofs.Ytbdnnkokkgdhnaa
