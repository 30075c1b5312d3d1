/- Forward and Back. -/
import Derived.Test.YtkaoajfdbjlioaaDoorDctT
import Derived.Test.YtkaoajfdbjlioaaDoorDctU
import Derived.Outline
namespace Go.Proofs.YtkaoajfdbjlioaaDoor
open Go.RowKit

theorem later_heap {w : World} {g : Nat} {o : Obj} (h : w.heap[g]? = some o) : ∀ w', (∃ u : Later w, w' = u.at_) → w'.heap[g]? = some o := by
  rintro w' ⟨u, rfl⟩
  exact (u.below.block g (heap_lt h)).trans h
theorem wpQuiet_load_row {P : Program} {ops : Array Oper} {C : World → Prop} {Q : Act → Prop} {rest : List Oper} {o : Oper} {a : Act} (hw : Region.wanted o (yielded ops a.tmps) = true) (ty : TypeId) (x : Operand) (ho : o.op = .load ty x)
    (g : Nat) (hx : a.eval x = .pointer (some ⟨g, 0, none⟩)) (t : TypeId) (cs : Array Value) (fr : Nat × Nat) (d : TypeDesc) (hg : ∀ w', C w' → w'.heap[g]? = some (.cells cs t fr))
    (hu : P.underlying ty = some d) (hd : (match d with | .struct _ | .array _ _ => true | _ => false) = true) (hi : (P.info? ty).map (·.size) = some cs.size)
    (h : wpQuiet P ops C Q rest (a.put o.dst (.agg cs))) : wpQuiet P ops C Q (o :: rest) a :=
  wpQuiet_step fun K hK => by
    rw [if_pos hw]
    refine ⟨.agg cs, fun w' hC => ?_, hK _ h⟩
    unfold Oper.quietAt execOp
    simp only [ho, hx, Instr.loadAt, Instr.sureAddr, Sem.run_bind, Sem.run_pure, Result.andThen_ok, run_loadVar_row w' g t ty cs fr d (hg w' hC) hu hd hi]
    exact ⟨rfl, rfl⟩
theorem blk_sz (f g : Nat → Int) : (blk f).size = (blk g).size := by rw [blk_size, blk_size]
theorem blk_info (f : Nat → Int) : (Tryd.prog.info? 23).map (·.size) = some (blk f).size := by rw [blk_size]; kernel_rfl
theorem plain_ (w : World) : Calls Tryd.prog 39 #[] w fun e w' => e = .returned (.agg plainV) ∧ Below w.heap.size w w' := by
  go_enter Tryd.func39, Tryd.ntmps39
  go_wp2
  exact bodyPost_ret (by simp [results, Tryd.results39, go_sem] <;> rfl) rfl ⟨rfl, gr1 (gr0 _) _⟩

set_option maxRecDepth 100000 in
set_option maxHeartbeats 2000000 in
theorem fwd_ (b : Nat → Int) (w : World) (hL : Facs w) :
    Calls Tryd.prog 17 #[.agg (blk b)] w fun e w' => e = .returned (.agg (blk (fwdI b))) ∧ Below w.heap.size w w' := by
  go_enter Tryd.func17, Tryd.ntmps17
  go_wp2
  refine wp_abs (fun W' => Below w.heap.size w W' ∧ W'.heap[w.heap.size]? = some (.cells (blk b) 23 (0, 0)) ∧ W'.heap[w.heap.size + 1]? = some (.cells (blk fun _ => 0) 23 (0, 0))) ⟨gr1 (gr1 (gr0 _) _) _, ?_, ?_⟩ ?_
  · simp only [heap_alloc_if, World.size_alloc]; repeat (first | rw [if_pos trivial] | rw [if_pos (by omega)] | rw [if_neg (by omega)])
  · simp only [heap_alloc_if, World.size_alloc]; repeat (first | rw [if_pos trivial] | rw [if_pos (by omega)] | rw [if_neg (by omega)])
    rfl
  rintro wr ⟨HB, H1, H2⟩
  have hLr : Facs wr := hL.below HB
  have hz := heap_lt H2
  refine wp_region_calm_tail 3 (by kernel_rfl) (by kernel_rfl) ?_
  repeat (first | (refine wpQuiet_load_row rfl _ _ rfl w.heap.size rfl _ _ _ _ (later_heap H1) Tryd.underlying23 rfl (blk_info _) ?_; simp only [Act.put, List.setIfInBounds_toArray, List.set_cons_succ, List.set_cons_zero]) | go_big_quiet_step ((first | (go_at_call 39; exact calm_call (plain_ _)) | (go_at_call 38; exact calm_call (tr_f _ _ _ _ (hLr.below (Later.below _)) (by omega) (by omega) (by omega))))) | quiet_step ((first | (go_at_call 39; exact calm_call (plain_ _)) | (go_at_call 38; exact calm_call (tr_f _ _ _ _ (hLr.below (Later.below _)) (by omega) (by omega) (by omega))))))
  refine wpQuiet_nil ?_
  intro u
  have H3 := later_heap H2 _ ⟨u, rfl⟩
  have HB3 := gr2 HB u.below
  simp only [List.drop_succ_cons, List.drop_zero]
  refine wpList_store_row rfl _ _ _ rfl (w.heap.size + 1) _ rfl rfl _ _ H3 (blk_info _) (blk_sz _ _) (blk_one _) ?_
  go_wp2
  refine bodyPost_ret (results_cell_row rfl _ _ (w.heap.size + 1) _ _ _ _ rfl (setRow_heap _ _ _ _ _ _ H3) Tryd.underlying23 rfl (blk_info _)) rfl ⟨?_, below_setRow HB3 (by omega) _⟩
  rw [blk_congr (g := fwdI b) fun i hi => by unfold fwdI; rw [full_eq _ _ _ _ _ hi]]

set_option maxRecDepth 100000 in
set_option maxHeartbeats 2000000 in
theorem bwd_ (b : Nat → Int) (w : World) (hL : Facs w) :
    Calls Tryd.prog 18 #[.agg (blk b)] w fun e w' => e = .returned (.agg (blk (bwdI b))) ∧ Below w.heap.size w w' := by
  go_enter Tryd.func18, Tryd.ntmps18
  go_wp2
  refine wp_abs (fun W' => Below w.heap.size w W' ∧ W'.heap[w.heap.size]? = some (.cells (blk b) 23 (0, 0)) ∧ W'.heap[w.heap.size + 1]? = some (.cells (blk fun _ => 0) 23 (0, 0))) ⟨gr1 (gr1 (gr0 _) _) _, ?_, ?_⟩ ?_
  · simp only [heap_alloc_if, World.size_alloc]; repeat (first | rw [if_pos trivial] | rw [if_pos (by omega)] | rw [if_neg (by omega)])
  · simp only [heap_alloc_if, World.size_alloc]; repeat (first | rw [if_pos trivial] | rw [if_pos (by omega)] | rw [if_neg (by omega)])
    rfl
  rintro wr ⟨HB, H1, H2⟩
  have hLr : Facs wr := hL.below HB
  have hz := heap_lt H2
  refine wp_region_calm_tail 3 (by kernel_rfl) (by kernel_rfl) ?_
  repeat (first | (refine wpQuiet_load_row rfl _ _ rfl w.heap.size rfl _ _ _ _ (later_heap H1) Tryd.underlying23 rfl (blk_info _) ?_; simp only [Act.put, List.setIfInBounds_toArray, List.set_cons_succ, List.set_cons_zero]) | go_big_quiet_step ((first | (go_at_call 39; exact calm_call (plain_ _)) | (go_at_call 38; exact calm_call (tr_b _ _ _ _ (hLr.below (Later.below _)) (by omega) (by omega) (by omega))))) | quiet_step ((first | (go_at_call 39; exact calm_call (plain_ _)) | (go_at_call 38; exact calm_call (tr_b _ _ _ _ (hLr.below (Later.below _)) (by omega) (by omega) (by omega))))))
  refine wpQuiet_nil ?_
  intro u
  have H3 := later_heap H2 _ ⟨u, rfl⟩
  have HB3 := gr2 HB u.below
  simp only [List.drop_succ_cons, List.drop_zero]
  refine wpList_store_row rfl _ _ _ rfl (w.heap.size + 1) _ rfl rfl _ _ H3 (blk_info _) (blk_sz _ _) (blk_one _) ?_
  go_wp2
  refine bodyPost_ret (results_cell_row rfl _ _ (w.heap.size + 1) _ _ _ _ rfl (setRow_heap _ _ _ _ _ _ H3) Tryd.underlying23 rfl (blk_info _)) rfl ⟨?_, below_setRow HB3 (by omega) _⟩
  rw [blk_congr (g := bwdI b) fun i hi => by unfold bwdI; rw [full_eq _ _ _ _ _ hi]]

end Go.Proofs.YtkaoajfdbjlioaaDoor
