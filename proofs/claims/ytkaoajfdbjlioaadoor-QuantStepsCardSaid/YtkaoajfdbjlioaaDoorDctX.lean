/- The transform of a block of secrets: what lies in memory. -/
import Derived.Test.YtkaoajfdbjlioaaDoorDctP
namespace Go.Proofs.YtkaoajfdbjlioaaDoor
open Go.RowKit

/-- The transform's own blocks: the operations, the block, the result, both sums. -/
def TrS (b h1 h2 : Nat → Int) (w wr : World) : Prop :=
  Below w.heap.size w wr ∧ wr.heap[w.heap.size]? = some (.cells hidV 67 (0, 0)) ∧ wr.heap[w.heap.size + 1]? = some (.cells (blk b) 45 (0, 0)) ∧
  wr.heap[w.heap.size + 1 + 1]? = some (.cells (blk fun _ => 0) 45 (0, 0)) ∧ wr.heap[w.heap.size + 1 + 1 + 1]? = some (.cells (blk h1) 45 (0, 0)) ∧ wr.heap[w.heap.size + 1 + 1 + 1 + 1]? = some (.cells (blk h2) 45 (0, 0))
theorem TrS.start (b h1 h2 : Nat → Int) (w : World) : TrS b (upTo h1 0) (upTo h2 0) w (((((w.alloc (.cells hidV 67)).alloc (.cells (blk b) 45)).alloc (.cells (blk fun _ => 0) 45)).alloc (.cells (blk fun _ => 0) 45)).alloc (.cells (blk fun _ => 0) 45)) := by
  rw [upTo_0, upTo_0]
  refine ⟨gr1 (gr1 (gr1 (gr1 (gr1 (gr0 _) _) _) _) _) _, ?_, ?_, ?_, ?_, ?_⟩
  all_goals (simp only [heap_alloc_if, World.size_alloc]; repeat (first | rw [if_pos trivial] | rw [if_pos (by omega)] | rw [if_neg (by omega)]))
theorem TrS.size {b h1 h2 : Nat → Int} {w wr : World} (h : TrS b h1 h2 w wr) : w.heap.size + 1 + 1 + 1 + 1 < wr.heap.size := heap_lt h.2.2.2.2.2
theorem TrS.later {b h1 h2 : Nat → Int} {w wr W : World} (h : TrS b h1 h2 w wr) (hb : Below wr.heap.size wr W) : TrS b h1 h2 w W := by
  have hs := h.size
  obtain ⟨a0, a1, a2, a3, a4, a5⟩ := h
  exact ⟨gr2 a0 hb, (hb.block _ (by omega)).trans a1, (hb.block _ (by omega)).trans a2, (hb.block _ (by omega)).trans a3, (hb.block _ (by omega)).trans a4, (hb.block _ (by omega)).trans a5⟩
theorem TrS.set1 {b h h2 : Nat → Int} {k : Nat} {w wr : World} (H : TrS b (upTo h k) h2 w wr) : TrS b (upTo h (k + 1)) h2 w (wr.setCell ⟨w.heap.size + 1 + 1 + 1, k, none⟩ (.int .i64 (h k))) := by
  obtain ⟨a0, a1, a2, a3, a4, a5⟩ := H
  have ne : ∀ j, j ≠ w.heap.size + 1 + 1 + 1 → (wr.setCell ⟨w.heap.size + 1 + 1 + 1, k, none⟩ (.int .i64 (h k))).heap[j]? = wr.heap[j]? := fun j hj => heap_setCell_other _ _ _ _ hj
  refine ⟨gr4 a0 (by simp; omega) _, (ne _ (by omega)).trans a1, (ne _ (by omega)).trans a2, (ne _ (by omega)).trans a3, ?_, (ne _ (by omega)).trans a5⟩
  rw [heap_setCell_same _ _ _ _ _ _ a4, blk_set]
theorem TrS.set2 {b h h1 : Nat → Int} {k : Nat} {w wr : World} (H : TrS b h1 (upTo h k) w wr) : TrS b h1 (upTo h (k + 1)) w (wr.setCell ⟨w.heap.size + 1 + 1 + 1 + 1, k, none⟩ (.int .i64 (h k))) := by
  obtain ⟨a0, a1, a2, a3, a4, a5⟩ := H
  have ne : ∀ j, j ≠ w.heap.size + 1 + 1 + 1 + 1 → (wr.setCell ⟨w.heap.size + 1 + 1 + 1 + 1, k, none⟩ (.int .i64 (h k))).heap[j]? = wr.heap[j]? := fun j hj => heap_setCell_other _ _ _ _ hj
  refine ⟨gr4 a0 (by simp; omega) _, (ne _ (by omega)).trans a1, (ne _ (by omega)).trans a2, (ne _ (by omega)).trans a3, (ne _ (by omega)).trans a4, ?_⟩
  rw [heap_setCell_same _ _ _ _ _ _ a5, blk_set]
theorem upTo_64S {b h1 h2 : Nat → Int} {w wr : World} (H : TrS b (upTo h1 64) h2 w wr) : TrS b h1 h2 w wr := by
  unfold TrS at *
  rwa [blk_all] at H
theorem upTo_64S' {b h1 h2 : Nat → Int} {w wr : World} (H : TrS b h1 (upTo h2 64) w wr) : TrS b h1 h2 w wr := by
  unfold TrS at *
  rwa [blk_all] at H

/-- A sum's own cell. -/
def Cel (g : Nat) (s : Int) (w W : World) : Prop := w.heap.size + 1 + 1 + 1 + 1 < g ∧ W.heap[g]? = some (.cells #[.int .i64 s] 44 (0, 0))
theorem Cel.cell {g : Nat} {s : Int} {w W : World} (h : Cel g s w W) : W.cell? ⟨g, 0, none⟩ = some (.int .i64 s) := by rw [cell_of_row _ _ _ _ _ _ h.2]; rfl
theorem Cel.later {g : Nat} {s : Int} {w W W' : World} (h : Cel g s w W) (hb : Below W.heap.size W W') : Cel g s w W' := ⟨h.1, (hb.block _ (heap_lt h.2)).trans h.2⟩
theorem Cel.set {g : Nat} {s v : Int} {w W : World} (h : Cel g s w W) : Cel g v w (W.setCell ⟨g, 0, none⟩ (.int .i64 v)) := ⟨h.1, by rw [heap_setCell_same _ _ _ _ _ _ h.2]; rfl⟩
theorem TrS.out {b h1 h2 : Nat → Int} {w W : World} {g o : Nat} {v : Value} (H : TrS b h1 h2 w W) (hg : w.heap.size + 1 + 1 + 1 + 1 < g) : TrS b h1 h2 w (W.setCell ⟨g, o, none⟩ v) := by
  obtain ⟨a0, a1, a2, a3, a4, a5⟩ := H
  have ne : ∀ j, j ≠ g → (W.setCell ⟨g, o, none⟩ v).heap[j]? = W.heap[j]? := fun j hj => heap_setCell_other _ _ _ _ hj
  exact ⟨gr4 a0 (by simp; omega) _, (ne _ (by omega)).trans a1, (ne _ (by omega)).trans a2, (ne _ (by omega)).trans a3, (ne _ (by omega)).trans a4, (ne _ (by omega)).trans a5⟩

end Go.Proofs.YtkaoajfdbjlioaaDoor
