/- Blocks of 64 numbers: what lies in memory. -/
import Derived.Test.YtgegmlhpdpdnfaaDoorProg
import Derived.Test.YtgegmlhpdpdnfaaDoorCalm
import Derived.Laws.CopyOwn
namespace Go.Proofs.YtgegmlhpdpdnfaaDoor
open Go.RowKit

theorem w64 {n : Int} (h1 : -9223372036854775808 ≤ n) (h2 : n ≤ 9223372036854775807) : wrap64 n = n := by unfold wrap64; omega
def clipI (lo hi n : Int) : Int := if n < lo then lo else if hi < n then hi else n
theorem clip_in {lo hi : Int} (n : Int) (h : lo ≤ hi) : lo ≤ clipI lo hi n ∧ clipI lo hi n ≤ hi := by
  unfold clipI; repeat' split
  all_goals omega
theorem clip_id {lo hi n : Int} (h1 : lo ≤ n) (h2 : n ≤ hi) : clipI lo hi n = n := by
  unfold clipI; rw [if_neg (by omega), if_neg (by omega)]
def blk (f : Nat → Int) : Array Value := ((List.range 64).map fun i => Value.int .i64 (f i)).toArray
theorem blk_size (f : Nat → Int) : (blk f).size = 64 := by simp [blk]
theorem blk_at {f : Nat → Int} {i : Nat} (h : i < 64) : (blk f)[i]? = some (.int .i64 (f i)) := by simp [blk, h]
theorem blk_congr {f g : Nat → Int} (h : ∀ i, i < 64 → f i = g i) : blk f = blk g := by
  unfold blk
  congr 1
  exact List.map_congr_left fun i hi => by rw [h i (List.mem_range.1 hi)]
def upTo (f : Nat → Int) (k : Nat) : Nat → Int := fun i => if i < k then f i else 0
theorem blk_all (f : Nat → Int) : blk (upTo f 64) = blk f := blk_congr fun i hi => by unfold upTo; rw [if_pos hi]
theorem blk_set (f : Nat → Int) (k : Nat) : (blk (upTo f k)).setIfInBounds k (.int .i64 (f k)) = blk (upTo f (k + 1)) := by
  apply Array.ext_getElem?
  intro i
  rw [Array.getElem?_setIfInBounds, blk_size]
  by_cases hi : i < 64
  · rw [blk_at hi, blk_at hi]
    by_cases hk : k = i
    · subst hk; rw [if_pos rfl, if_pos hi]; unfold upTo; rw [if_pos (by omega)]
    · rw [if_neg hk]; unfold upTo
      by_cases h2 : i < k
      · rw [if_pos h2, if_pos (by omega)]
      · rw [if_neg h2, if_neg (by omega)]
  · have h1 : (blk (upTo f k))[i]? = none := Array.getElem?_eq_none (by rw [blk_size]; omega)
    have h2 : (blk (upTo f (k + 1)))[i]? = none := Array.getElem?_eq_none (by rw [blk_size]; omega)
    rw [h1, h2]
    split
    · rw [if_neg (by omega)]
    · rfl

theorem wp_abs {c : Code} {P : Program} {Q : Exit → Act → World → Prop} {a : Act} {W : World} (F : World → Prop) (h1 : F W) (h2 : ∀ W, F W → c.wp P Q a W) : c.wp P Q a W := h2 W h1
theorem heap_lt {w : World} {g : Nat} {o : Obj} (h : w.heap[g]? = some o) : g < w.heap.size := by
  rcases Nat.lt_or_ge g w.heap.size with h1 | h1
  · exact h1
  · rw [Array.getElem?_eq_none h1] at h; cases h
theorem heap_alloc_if (w : World) (o : Obj) (k : Nat) : (w.alloc o).heap[k]? = if k = w.heap.size then some o else w.heap[k]? := by
  show (w.heap.push o)[k]? = _
  rw [Array.getElem?_push]
theorem upTo_0 (f : Nat → Int) : upTo f 0 = fun _ => 0 := by funext i; unfold upTo; rw [if_neg (by omega)]
theorem row_cell {w : World} {g : Nat} {f : Nat → Int} {t : TypeId} (h : w.heap[g]? = some (.cells (blk f) t (0, 0))) {i : Nat} (hi : i < 64) : w.cell? ⟨g, i, none⟩ = some (.int .i64 (f i)) := by
  rw [cell_of_row _ _ _ _ _ _ h, blk_at hi]
theorem row_free {w : World} {g : Nat} {c : Array Value} {t : TypeId} (h : w.heap[g]? = some (.cells c t (0, 0))) (i : Nat) : w.frozen? ⟨g, i, none⟩ = false := frozen_of_row _ _ _ _ _ h
theorem blk_one (f : Nat → Int) : (blk f).all (·.oneCell') = true := by
  rw [Array.all_eq_true]
  intro i hi
  have := blk_at (f := f) (i := i) (by rwa [blk_size] at hi)
  rw [Array.getElem?_eq_getElem hi] at this
  rw [Option.some.inj this]; rfl
theorem later_heap {w : World} {g : Nat} {o : Obj} (h : w.heap[g]? = some o) : ∀ w', (∃ u : Later w, w' = u.at_) → w'.heap[g]? = some o := by
  rintro w' ⟨u, rfl⟩
  exact (u.below.block g (heap_lt h)).trans h
theorem wpQuiet_load_row {P : Program} {ops : Array Oper} {C : World → Prop} {Q : Act → Prop} {rest : List Oper} {o : Oper} {a : Act} (hw : Region.wanted o (yielded ops a.tmps) = true) (ty : TypeId) (x : Operand) (ho : o.op = .load ty x)
    (g : Nat) (hx : a.eval x = .pointer (some ⟨g, 0, none⟩)) (t : TypeId) (cs : Array Value) (fr : Nat × Nat) (d : TypeDesc) (hg : ∀ w', C w' → w'.heap[g]? = some (.cells cs t fr))
    (hu : P.underlying ty = some d) (hd : (match d with | .struct _ | .array _ _ => true | _ => false) = true) (hi : (P.info? ty).map (·.size) = some cs.size)
    (h : wpQuiet P ops C Q rest (a.put o.dst (.agg cs))) : wpQuiet P ops C Q (o :: rest) a :=
  wpQuiet_step fun K hK => by
    rw [if_pos hw]
    refine ⟨.agg cs, fun w' hC => ?_, hK _ h⟩
    unfold Oper.quietAt execOp
    simp only [ho, hx, Instr.loadAt, Instr.sureAddr, Sem.run_bind, Sem.run_pure, Result.andThen_ok, run_loadVar_row w' g t ty cs fr d (hg w' hC) hu hd hi]
    exact ⟨rfl, rfl⟩
theorem blk_sz (f g : Nat → Int) : (blk f).size = (blk g).size := by rw [blk_size, blk_size]
theorem blk_put (h : Nat → Int) (i : Nat) (v : Int) : (blk h).setIfInBounds i (.int .i64 v) = blk (fun j => if j = i then v else h j) := by
  apply Array.ext_getElem?
  intro j
  rw [Array.getElem?_setIfInBounds, blk_size]
  by_cases hj : j < 64
  · rw [blk_at hj, blk_at hj]
    by_cases e : i = j
    · subst e; rw [if_pos rfl, if_pos hj, if_pos rfl]
    · rw [if_neg e, if_neg (fun h => e h.symm)]
  · have h1 : ∀ f, (blk f)[j]? = none := fun f => Array.getElem?_eq_none (by rw [blk_size]; omega)
    rw [h1, h1]
    split
    · rw [if_neg (by omega)]
    · rfl
theorem at_al {w : World} {g : Nat} {o x : Obj} (h : w.heap[g]? = some o) : (w.alloc x).heap[g]? = some o := by
  have := heap_lt h
  rw [heap_alloc_if, if_neg (by omega)]; exact h
theorem at_be {w w' : World} {g : Nat} {o : Obj} (h : w.heap[g]? = some o) (hb : Below w.heap.size w w') : w'.heap[g]? = some o := (hb.block g (heap_lt h)).trans h
theorem clip_ (n lo hi : Int) (w : World) :
    Calls Tryd.prog 11 #[.int .i64 n, .int .i64 lo, .int .i64 hi] w fun e w' => e = .returned (.int .i64 (clipI lo hi n)) ∧ Below w.heap.size w w' := by
  by_cases h1 : n < lo
  · have e : clipI lo hi n = lo := by unfold clipI; rw [if_pos h1]
    have d1 : decide (n < lo) = true := by simp; omega
    go_enter Tryd.func11, Tryd.ntmps11
    go_wp2_with (first
      | (refine wp_region_calm (by kernel_rfl) (by kernel_rfl) ?_; repeat (first | go_big_quiet_step (fail) | quiet_step (fail))
         refine wpQuiet_nil ?_; intro u; have hzu := u.below.size; try simp at hzu))
    all_goals go_ret
    all_goals refine ⟨by first | rfl | exact ret_int e.symm, ?_⟩
    all_goals (repeat (first | exact gr0 _ | refine gr1 ?_ _ | refine gr2 ?_ (Later.below _) | refine gr2 ?_ (by assumption) | refine gr3 ?_ | refine gr4 ?_ (by first | (simp; done) | (simp; omega) | omega) _))
  · skip
    by_cases h2 : hi < n
    · have e : clipI lo hi n = hi := by unfold clipI; rw [if_neg h1, if_pos h2]
      have d1 : decide (n < lo) = false := by simp; omega
      have d2 : decide (hi < n) = true := by simp; omega
      go_enter Tryd.func11, Tryd.ntmps11
      go_wp2_with (first
        | (refine wp_region_calm (by kernel_rfl) (by kernel_rfl) ?_; repeat (first | go_big_quiet_step (fail) | quiet_step (fail))
           refine wpQuiet_nil ?_; intro u; have hzu := u.below.size; try simp at hzu))
      all_goals go_ret
      all_goals refine ⟨by first | rfl | exact ret_int e.symm, ?_⟩
      all_goals (repeat (first | exact gr0 _ | refine gr1 ?_ _ | refine gr2 ?_ (Later.below _) | refine gr2 ?_ (by assumption) | refine gr3 ?_ | refine gr4 ?_ (by first | (simp; done) | (simp; omega) | omega) _))
    · skip
      have e : clipI lo hi n = n := by unfold clipI; rw [if_neg h1, if_neg h2]
      have d1 : decide (n < lo) = false := by simp; omega
      have d2 : decide (hi < n) = false := by simp; omega
      go_enter Tryd.func11, Tryd.ntmps11
      go_wp2_with (first
        | (refine wp_region_calm (by kernel_rfl) (by kernel_rfl) ?_; repeat (first | go_big_quiet_step (fail) | quiet_step (fail))
           refine wpQuiet_nil ?_; intro u; have hzu := u.below.size; try simp at hzu))
      all_goals go_ret
      all_goals refine ⟨by first | rfl | exact ret_int e.symm, ?_⟩
      all_goals (repeat (first | exact gr0 _ | refine gr1 ?_ _ | refine gr2 ?_ (Later.below _) | refine gr2 ?_ (by assumption) | refine gr3 ?_ | refine gr4 ?_ (by first | (simp; done) | (simp; omega) | omega) _))

theorem rclip_ (n lo hi : Int) (w : World) :
    Calls Tryd.prog 12 #[.int .i64 n, .int .i64 lo, .int .i64 hi] w fun e w' => e = .returned (.int .i64 (clipI lo hi n)) ∧ Below w.heap.size w w' := by
  by_cases h1 : n < lo
  · have e : clipI lo hi n = lo := by unfold clipI; rw [if_pos h1]
    have d1 : decide (n < lo) = true := by simp; omega
    go_enter Tryd.func12, Tryd.ntmps12
    go_wp2_with (first
      | (refine wp_region_calm (by kernel_rfl) (by kernel_rfl) ?_; repeat (first | go_big_quiet_step (fail) | quiet_step (fail))
         refine wpQuiet_nil ?_; intro u; have hzu := u.below.size; try simp at hzu))
    all_goals go_ret
    all_goals refine ⟨by first | rfl | exact ret_int e.symm, ?_⟩
    all_goals (repeat (first | exact gr0 _ | refine gr1 ?_ _ | refine gr2 ?_ (Later.below _) | refine gr2 ?_ (by assumption) | refine gr3 ?_ | refine gr4 ?_ (by first | (simp; done) | (simp; omega) | omega) _))
  · skip
    by_cases h2 : hi < n
    · have e : clipI lo hi n = hi := by unfold clipI; rw [if_neg h1, if_pos h2]
      have d1 : decide (n < lo) = false := by simp; omega
      have d2 : decide (hi < n) = true := by simp; omega
      go_enter Tryd.func12, Tryd.ntmps12
      go_wp2_with (first
        | (refine wp_region_calm (by kernel_rfl) (by kernel_rfl) ?_; repeat (first | go_big_quiet_step (fail) | quiet_step (fail))
           refine wpQuiet_nil ?_; intro u; have hzu := u.below.size; try simp at hzu))
      all_goals go_ret
      all_goals refine ⟨by first | rfl | exact ret_int e.symm, ?_⟩
      all_goals (repeat (first | exact gr0 _ | refine gr1 ?_ _ | refine gr2 ?_ (Later.below _) | refine gr2 ?_ (by assumption) | refine gr3 ?_ | refine gr4 ?_ (by first | (simp; done) | (simp; omega) | omega) _))
    · skip
      have e : clipI lo hi n = n := by unfold clipI; rw [if_neg h1, if_neg h2]
      have d1 : decide (n < lo) = false := by simp; omega
      have d2 : decide (hi < n) = false := by simp; omega
      go_enter Tryd.func12, Tryd.ntmps12
      go_wp2_with (first
        | (refine wp_region_calm (by kernel_rfl) (by kernel_rfl) ?_; repeat (first | go_big_quiet_step (fail) | quiet_step (fail))
           refine wpQuiet_nil ?_; intro u; have hzu := u.below.size; try simp at hzu))
      all_goals go_ret
      all_goals refine ⟨by first | rfl | exact ret_int e.symm, ?_⟩
      all_goals (repeat (first | exact gr0 _ | refine gr1 ?_ _ | refine gr2 ?_ (Later.below _) | refine gr2 ?_ (by assumption) | refine gr3 ?_ | refine gr4 ?_ (by first | (simp; done) | (simp; omega) | omega) _))

end Go.Proofs.YtgegmlhpdpdnfaaDoor
