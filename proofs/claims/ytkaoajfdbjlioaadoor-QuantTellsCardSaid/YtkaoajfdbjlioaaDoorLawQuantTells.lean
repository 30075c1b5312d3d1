/- QuantTells: the walk: it returns true. -/
import Derived.Test.YtkaoajfdbjlioaaDoorQuantL
namespace Go.Proofs.YtkaoajfdbjlioaaDoor
open Go.RowKit

def xI (z : Nat → Int) (i : Nat) : Int := max (-127) (min (z i) 127)
theorem set_to {w : World} {g k : Nat} {h : Nat → Int} {y : Int} {t : TypeId} (H : w.heap[g]? = some (.cells (blk (upTo h k)) t (0, 0))) (hy : y = h k) : (w.setCell ⟨g, k, none⟩ (.int .i64 y)).heap[g]? = some (.cells (blk (upTo h (k + 1))) t (0, 0)) := by
  rw [hy, heap_setCell_same _ _ _ _ _ _ H, blk_set]

set_option maxRecDepth 100000 in
set_option maxHeartbeats 2000000 in
theorem walk_QuantTells (z : Nat → Int) (v : Value) (n : Nat) (cs : Nat → Int) (w : World) (hT : Tabs w) (_hz : ∀ i, i < 64 → (Lit.int .i64 (z i)).wf = true) (H : Bytes v n cs w) :
    Calls Tryd.prog 11 #[.agg (blk z), v] w fun e w' => e = .returned (.bool true) ∧ Below w.heap.size w w' := by
  have hT0 : Hid (Tabs w) := hT
  have HB : Hid (Bytes v n cs w) := H
  clear hT H
  go_enter Tryd.func11, Tryd.ntmps11
  go_wp2_with (first | (go_at_call 22; refine (steps_ (HB.out.below (gr1 (gr0 _) _))).mono ?_; rintro e W1 ⟨v1, rfl, hb1, hQ1⟩) | (refine wpList_zero_b rfl rfl ?_) | (refine wpList_alloc_b rfl rfl ?_) | (refine wpList_store_b rfl _ _ rfl rfl rfl (by simp) ?_))
  obtain ⟨g, hg⟩ : ∃ g, g = W1.heap.size := ⟨_, rfl⟩
  rw [← hg]
  have hB1 : Below w.heap.size w W1 := gr2 (gr1 (gr0 _) _) hb1
  have hz1 : w.heap.size < W1.heap.size := by have := hb1.size; simp at this; omega
  have hz0 : W1.heap[w.heap.size]? = some (.cells (blk z) 23 (0, 0)) := at_be (heap_alloc_new _ _) hb1
  refine wp_abs (fun W' => Below W1.heap.size W1 W' ∧ W'.heap[g]? = some (.cells (blk (upTo (xI z) 0)) 23 (0, 0))) ⟨gr1 (gr0 _) _, ?_⟩ ?_
  · rw [upTo_0, heap_alloc_if, if_pos hg]
  clear hb1
  intro W2 H9
  go_loopg [7] 64 (fun gj i wr => ∃ jj : Nat, jj + gj = 64 ∧ i = .int .i64 jj ∧ Below W1.heap.size W1 wr ∧ wr.heap[g]? = some (.cells (blk (upTo (xI z) jj)) 23 (0, 0)))
  case atStart => exact ⟨0, rfl, rfl, H9⟩
  case round =>
    clear H9
    obtain ⟨i, hi, rfl, HBr, H1⟩ := hrel
    by_cases hlt : i < 64
    · have t1 : decide ((i : Int) < 64) = true := by simp; omega
      have hi9 : (0 : Int) ≤ i ∧ (i : Int) < 64 := by omega
      have b0 := row_cell (at_be hz0 HBr) hlt
      have zz : w.heap.size < wr.heap.size := Nat.lt_of_lt_of_le hz1 HBr.size
      have b1 := row_cell H1 hlt
      have c1 := row_free H1 i
      have z1 := heap_lt H1
      have hne : w.heap.size ≠ g := by omega
      have HX : Hid ((Below W1.heap.size W1 wr ∧ wr.heap[g]? = some (.cells (blk (upTo (xI z) i)) 23 (0, 0))) ∧ W1.heap.size ≤ g) := ⟨⟨HBr, H1⟩, by omega⟩
      have HXX : Hid (xI z i = max (-127) (min (z i) 127)) := rfl
      clear HBr H1 hQ1 hB1 hz0 hg
      generalize z i = y at b0 HXX
      go_wp2
      all_goals
        go_roundg (64 - (i + 1))
        case measure => omega
        case rel =>
          obtain ⟨⟨HBr, H1⟩, hg⟩ := HX.out
          have hXX := HXX.out
          refine ⟨i + 1, by omega, by go_num, gr4 HBr (by simpa using hg) _, ?_⟩
          exact set_to H1 (by omega)
    · have hk64 : i = 64 := by omega
      subst hk64
      have t1 : decide (((64 : Nat) : Int) < 64) = false := rfl
      rw [blk_all] at H1
      have hTr : Tabs wr := (hT0.out.below hB1).below HBr
      have hQr := hQ1.below HBr
      have hqq := hQr.steps
      have hx : ∀ i, i < 64 → -127 ≤ xI z i ∧ xI z i ≤ 127 := fun i _ => by unfold xI; omega
      have HX : Hid (Below w.heap.size w wr) := gr2 hB1 HBr
      clear HBr hB1 hQ1
      go_wp2_with (fail)
      refine wp_region_calm (by kernel_rfl) (by kernel_rfl) ?_
      (repeat (first | (refine wpQuiet_load_b _ (later_heap H1) rfl _ rfl rfl ?_; simp only [Act.put, List.setIfInBounds_toArray, List.set_cons_succ, List.set_cons_zero]) | (refine wpQuiet_eql_b ?_ rfl _ _ _ rfl rfl rfl ?_; (focus (with_reducible exact tells_all hx hqq)); simp only [Act.put, List.setIfInBounds_toArray, List.set_cons_succ, List.set_cons_zero]) | go_big_quiet_step (first | (go_at_call 26; exact calm_call (known09 _ (hTr.below (Later.below _)))) | (go_at_call 23; exact calm_call (qfwd_ _ _ _ _ (hTr.below (Later.below _)) (hQr.below (Later.below _)))) | (go_at_call 24; exact calm_call (qbwd_ _ _ _ _ (hTr.below (Later.below _)) (hQr.below (Later.below _))))) | quiet_step (first | (go_at_call 26; exact calm_call (known09 _ (hTr.below (Later.below _)))) | (go_at_call 23; exact calm_call (qfwd_ _ _ _ _ (hTr.below (Later.below _)) (hQr.below (Later.below _)))) | (go_at_call 24; exact calm_call (qbwd_ _ _ _ _ (hTr.below (Later.below _)) (hQr.below (Later.below _)))))))
      refine wpQuiet_nil ?_
      intro u
      have HB3 := gr2 HX.out u.below
      go_wp2
      go_ret
      exact ⟨rfl, HB3⟩
end Go.Proofs.YtkaoajfdbjlioaaDoor
