/- The transform of a block: what lies in memory. -/
import Derived.Test.YtkaoajfdbjlioaaDoorDctB
import Derived.Laws.CopyOwn
namespace Go.Proofs.YtkaoajfdbjlioaaDoor
open Go.RowKit

theorem wp_abs {c : Code} {P : Program} {Q : Exit → Act → World → Prop} {a : Act} {W : World} (F : World → Prop) (h1 : F W) (h2 : ∀ W, F W → c.wp P Q a W) : c.wp P Q a W := h2 W h1
/-- The transform's own blocks: the operations, the block, the result, both sums. -/
def Tr (b h1 h2 : Nat → Int) (w wr : World) : Prop :=
  Below w.heap.size w wr ∧ wr.heap[w.heap.size]? = some (.cells plainV 53 (0, 0)) ∧ wr.heap[w.heap.size + 1]? = some (.cells (blk b) 22 (0, 0)) ∧
  wr.heap[w.heap.size + 1 + 1]? = some (.cells (blk fun _ => 0) 22 (0, 0)) ∧ wr.heap[w.heap.size + 1 + 1 + 1]? = some (.cells (blk h1) 22 (0, 0)) ∧ wr.heap[w.heap.size + 1 + 1 + 1 + 1]? = some (.cells (blk h2) 22 (0, 0))
theorem heap_lt {w : World} {g : Nat} {o : Obj} (h : w.heap[g]? = some o) : g < w.heap.size := by
  rcases Nat.lt_or_ge g w.heap.size with h1 | h1
  · exact h1
  · rw [Array.getElem?_eq_none h1] at h; cases h
theorem heap_alloc_if (w : World) (o : Obj) (k : Nat) : (w.alloc o).heap[k]? = if k = w.heap.size then some o else w.heap[k]? := by
  show (w.heap.push o)[k]? = _
  rw [Array.getElem?_push]
theorem upTo_0 (f : Nat → Int) : upTo f 0 = fun _ => 0 := by funext i; unfold upTo; rw [if_neg (by omega)]
theorem Tr.start (b h1 h2 : Nat → Int) (w : World) : Tr b (upTo h1 0) (upTo h2 0) w (((((w.alloc (.cells plainV 53)).alloc (.cells (blk b) 22)).alloc (.cells (blk fun _ => 0) 22)).alloc (.cells (blk fun _ => 0) 22)).alloc (.cells (blk fun _ => 0) 22)) := by
  rw [upTo_0, upTo_0]
  refine ⟨gr1 (gr1 (gr1 (gr1 (gr1 (gr0 _) _) _) _) _) _, ?_, ?_, ?_, ?_, ?_⟩
  all_goals (simp only [heap_alloc_if, World.size_alloc]; repeat (first | rw [if_pos trivial] | rw [if_pos (by omega)] | rw [if_neg (by omega)]))
theorem Tr.size {b h1 h2 : Nat → Int} {w wr : World} (h : Tr b h1 h2 w wr) : w.heap.size + 1 + 1 + 1 + 1 < wr.heap.size := heap_lt h.2.2.2.2.2
theorem Tr.later {b h1 h2 : Nat → Int} {w wr W : World} (h : Tr b h1 h2 w wr) (hb : Below wr.heap.size wr W) : Tr b h1 h2 w W := by
  have hs := h.size
  obtain ⟨a0, a1, a2, a3, a4, a5⟩ := h
  exact ⟨gr2 a0 hb, (hb.block _ (by omega)).trans a1, (hb.block _ (by omega)).trans a2, (hb.block _ (by omega)).trans a3, (hb.block _ (by omega)).trans a4, (hb.block _ (by omega)).trans a5⟩
theorem Tr.set1 {b h h2 : Nat → Int} {k : Nat} {w wr : World} (H : Tr b (upTo h k) h2 w wr) : Tr b (upTo h (k + 1)) h2 w (wr.setCell ⟨w.heap.size + 1 + 1 + 1, k, none⟩ (.int .i64 (h k))) := by
  obtain ⟨a0, a1, a2, a3, a4, a5⟩ := H
  have ne : ∀ j, j ≠ w.heap.size + 1 + 1 + 1 → (wr.setCell ⟨w.heap.size + 1 + 1 + 1, k, none⟩ (.int .i64 (h k))).heap[j]? = wr.heap[j]? := fun j hj => heap_setCell_other _ _ _ _ hj
  refine ⟨gr4 a0 (by simp; omega) _, (ne _ (by omega)).trans a1, (ne _ (by omega)).trans a2, (ne _ (by omega)).trans a3, ?_, (ne _ (by omega)).trans a5⟩
  rw [heap_setCell_same _ _ _ _ _ _ a4, blk_set]
theorem Tr.set2 {b h h1 : Nat → Int} {k : Nat} {w wr : World} (H : Tr b h1 (upTo h k) w wr) : Tr b h1 (upTo h (k + 1)) w (wr.setCell ⟨w.heap.size + 1 + 1 + 1 + 1, k, none⟩ (.int .i64 (h k))) := by
  obtain ⟨a0, a1, a2, a3, a4, a5⟩ := H
  have ne : ∀ j, j ≠ w.heap.size + 1 + 1 + 1 + 1 → (wr.setCell ⟨w.heap.size + 1 + 1 + 1 + 1, k, none⟩ (.int .i64 (h k))).heap[j]? = wr.heap[j]? := fun j hj => heap_setCell_other _ _ _ _ hj
  refine ⟨gr4 a0 (by simp; omega) _, (ne _ (by omega)).trans a1, (ne _ (by omega)).trans a2, (ne _ (by omega)).trans a3, (ne _ (by omega)).trans a4, ?_⟩
  rw [heap_setCell_same _ _ _ _ _ _ a5, blk_set]
theorem row_cell {w : World} {g : Nat} {f : Nat → Int} {t : TypeId} (h : w.heap[g]? = some (.cells (blk f) t (0, 0))) {i : Nat} (hi : i < 64) : w.cell? ⟨g, i, none⟩ = some (.int .i64 (f i)) := by
  rw [cell_of_row _ _ _ _ _ _ h, blk_at hi]
theorem row_free {w : World} {g : Nat} {c : Array Value} {t : TypeId} (h : w.heap[g]? = some (.cells c t (0, 0))) (i : Nat) : w.frozen? ⟨g, i, none⟩ = false := frozen_of_row _ _ _ _ _ h
theorem nums1 {k q m d e r : Nat} (hk : k < 64) (hq : q < 8) (hm : m = k % 8) (hd : d = k / 8) (he : e = d * 8) (hr : r = e + q) :
    (r < 64 ∧ (0 : Int) ≤ r ∧ (r : Int) < 64) ∧ ((0 : Int) ≤ m ∧ (m : Int) ≤ 7) ∧ ((0 : Int) ≤ d ∧ (d : Int) ≤ 7) ∧ ((0 : Int) ≤ q ∧ (q : Int) ≤ 7) ∧ ((0 : Int) ≤ e ∧ (e : Int) ≤ 56) ∧
    (∀ c : Int, c = 8 → Int.tmod (k : Int) c = m) ∧ (∀ c : Int, c = 8 → Int.tdiv (k : Int) c = d) ∧ (∀ c : Int, c = 8 → (d : Int) * c = e) ∧ (∀ c : Int, c = q → (e : Int) + c = r) := by
  refine ⟨by omega, by omega, by omega, by omega, by omega, ?_, ?_, ?_, ?_⟩
  · rintro c rfl; rw [Int.tmod_eq_emod_of_nonneg (by omega)]; omega
  · rintro c rfl; rw [Int.tdiv_eq_ediv_of_nonneg (by omega)]; omega
  · rintro c rfl; omega
  · rintro c rfl; omega
theorem nums2 {k q m d e r : Nat} (hk : k < 64) (hq : q < 8) (hm : m = k % 8) (hd : d = k / 8) (he : e = q * 8) (hr : r = e + m) :
    (r < 64 ∧ (0 : Int) ≤ r ∧ (r : Int) < 64) ∧ ((0 : Int) ≤ m ∧ (m : Int) ≤ 7) ∧ ((0 : Int) ≤ d ∧ (d : Int) ≤ 7) ∧ ((0 : Int) ≤ q ∧ (q : Int) ≤ 7) ∧ ((0 : Int) ≤ e ∧ (e : Int) ≤ 56) ∧
    (∀ c : Int, c = 8 → Int.tmod (k : Int) c = m) ∧ (∀ c : Int, c = 8 → Int.tdiv (k : Int) c = d) ∧ (∀ c : Int, c = 8 → (q : Int) * c = e) ∧ (∀ c : Int, c = m → (e : Int) + c = r) := by
  refine ⟨by omega, by omega, by omega, by omega, by omega, ?_, ?_, ?_, ?_⟩
  · rintro c rfl; rw [Int.tmod_eq_emod_of_nonneg (by omega)]; omega
  · rintro c rfl; rw [Int.tdiv_eq_ediv_of_nonneg (by omega)]; omega
  · rintro c rfl; omega
  · rintro c rfl; omega
theorem facI_nn {u x : Nat} (h1 : (0 : Int) ≤ u ∧ (u : Int) ≤ 7) (h2 : (0 : Int) ≤ x ∧ (x : Int) ≤ 7) : facI u x = facN u x := by
  have := facI_in h1 h2
  rw [Int.toNat_natCast, Int.toNat_natCast] at this
  exact this
/-- One more of the first sums. -/
theorem step1 {F : Nat → Nat → Int} {lo hi : Int} (hF : bdF F) (h1 : -32768 ≤ lo) (h2 : hi ≤ 32768) (h : lo ≤ hi) (b : Nat → Int) {k q m d e r : Nat} (_ : k < 64) (hq : q < 8) (hm : m = k % 8) (hd : d = k / 8) (he : e = d * 8) (hr : r = e + q) :
    sumTo (q + 1) (fun t => clipI lo hi (b (e + t)) * F m t) = sumTo q (fun t => clipI lo hi (b (e + t)) * F m t) + clipI lo hi (b r) * F m q ∧
    wrap64 (clipI lo hi (b r) * F m q) = clipI lo hi (b r) * F m q ∧
    wrap64 (sumTo q (fun t => clipI lo hi (b (e + t)) * F m t) + clipI lo hi (b r) * F m q) = sumTo q (fun t => clipI lo hi (b (e + t)) * F m t) + clipI lo hi (b r) * F m q := by
  have e1 : sumTo (q + 1) (fun t => clipI lo hi (b (e + t)) * F m t) = sumTo q (fun t => clipI lo hi (b (e + t)) * F m t) + clipI lo hi (b r) * F m q := by rw [sumTo, hr]
  have hb := half_bd hF h1 h2 h b k (q + 1) (by omega)
  rw [← hd, ← he, ← hm] at hb
  have a := clip_in (lo := lo) (hi := hi) (b r) h
  have ht := mul_bd (A := 32768) (B := 514214) (a := clipI lo hi (b r)) (b := F m q) (by omega) (hF _ _ (by omega) hq)
  rw [e1] at hb
  exact ⟨e1, w64 (by omega) (by omega), w64 (by omega) (by omega)⟩
/-- One more of the second ones. -/
theorem step2 {F : Nat → Nat → Int} {lo hi : Int} (hF : bdF F) (h1 : -32768 ≤ lo) (h2 : hi ≤ 32768) (h : lo ≤ hi) (b : Nat → Int) {k q m d e r : Nat} (hk : k < 64) (hq : q < 8) (hm : m = k % 8) (hd : d = k / 8) (he : e = q * 8) (hr : r = e + m) :
    sumTo (q + 1) (fun t => halfI F lo hi b (t * 8 + m) * F d t) = sumTo q (fun t => halfI F lo hi b (t * 8 + m) * F d t) + halfI F lo hi b r * F d q ∧
    wrap64 (halfI F lo hi b r * F d q) = halfI F lo hi b r * F d q ∧
    wrap64 (sumTo q (fun t => halfI F lo hi b (t * 8 + m) * F d t) + halfI F lo hi b r * F d q) = sumTo q (fun t => halfI F lo hi b (t * 8 + m) * F d t) + halfI F lo hi b r * F d q := by
  have e1 : sumTo (q + 1) (fun t => halfI F lo hi b (t * 8 + m) * F d t) = sumTo q (fun t => halfI F lo hi b (t * 8 + m) * F d t) + halfI F lo hi b r * F d q := by rw [sumTo, hr, he]
  have hb := full_bd hF h1 h2 h b k (q + 1) hk (by omega)
  rw [← hd, ← hm] at hb
  have a := half_bd hF h1 h2 h b r 8 (Nat.le_refl _)
  have ht := mul_bd (A := 134798114816) (B := 514214) (a := halfI F lo hi b r) (b := F d q) (by unfold halfI; exact a) (hF _ _ (by omega) hq)
  rw [e1] at hb
  exact ⟨e1, w64 (by omega) (by omega), w64 (by omega) (by omega)⟩
theorem full_in {F : Nat → Nat → Int} {lo hi : Int} (hF : bdF F) (h1 : -32768 ≤ lo) (h2 : hi ≤ 32768) (h : lo ≤ hi) (b : Nat → Int) {k m d : Nat} (hk : k < 64) (hm : m = k % 8) (hd : d = k / 8) :
    -2305843009213693952 ≤ sumTo 8 (fun t => halfI F lo hi b (t * 8 + m) * F d t) ∧ sumTo 8 (fun t => halfI F lo hi b (t * 8 + m) * F d t) ≤ 2305843009213693952 := by
  have hb := full_bd hF h1 h2 h b k 8 hk (by omega)
  rw [← hd, ← hm] at hb
  omega
theorem upTo_64 {b h1 h2 : Nat → Int} {w wr : World} (H : Tr b (upTo h1 64) h2 w wr) : Tr b h1 h2 w wr := by
  unfold Tr at *
  rwa [blk_all] at H
theorem upTo_64' {b h1 h2 : Nat → Int} {w wr : World} (H : Tr b h1 (upTo h2 64) w wr) : Tr b h1 h2 w wr := by
  unfold Tr at *
  rwa [blk_all] at H
theorem blk_one (f : Nat → Int) : (blk f).all (·.oneCell') = true := by
  rw [Array.all_eq_true]
  intro i hi
  have := blk_at (f := f) (i := i) (by rwa [blk_size] at hi)
  rw [Array.getElem?_eq_getElem hi] at this
  rw [Option.some.inj this]; rfl
end Go.Proofs.YtkaoajfdbjlioaaDoor

