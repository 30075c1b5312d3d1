/- Blocks of 64 numbers as values: made, laid, compared. -/
import Derived.Test.YtkaoajfdbjlioaaDoorDctF
import Derived.ChangeKeysEq
import Derived.Great.Walk
import Derived.Great.BuildSlice
import Derived.Deep.WholeRow
namespace Go.Proofs.YtkaoajfdbjlioaaDoor
open Go.RowKit

section
variable {ops : Array Oper} {rest : List Oper} {o : Oper} {a : Act} {w : World} {Q : Exit → Act → World → Prop} {C : World → Prop} {R : Act → Prop}
theorem wpList_build_b (f : Nat → Int) (hg : o.guard = none) (parts : Array (Nat × Operand)) (ho : o.op = .build 23 parts) (hf : Tryd.prog.built 23 (parts.map fun (i, x) => (i, a.eval x)).toList = some (blk f))
    (h : wpList Tryd.prog ops Q rest (a.put o.dst (.agg (blk f))) w) : wpList Tryd.prog ops Q (o :: rest) a w := wpList_buildTo hg _ parts ho o.dst rfl _ hf h
theorem built_0 : Tryd.prog.built 23 [] = some (blk fun _ => 0) := by kernel_rfl
theorem wpList_zero_b (hg : o.guard = none) (ho : o.op = .build 23 #[]) (h : wpList Tryd.prog ops Q rest (a.put o.dst (.agg (blk fun _ => 0))) w) : wpList Tryd.prog ops Q (o :: rest) a w :=
  wpList_build_b (fun _ => 0) hg #[] ho (by rw [Array.map_empty]; exact built_0) h
theorem run_alloc_b (w : World) : (Instr.alloc 23 true (.tuple #[])).run Tryd.prog w = .ok (.pointer (some ⟨w.heap.size, 0, none⟩)) (w.alloc (.cells (blk fun _ => 0) 23)) := by kernel_rfl
theorem wpList_alloc_b (hg : o.guard = none) (ho : o.op = .alloc 23) (h : wpList Tryd.prog ops Q rest (a.put o.dst (.pointer (some ⟨w.heap.size, 0, none⟩))) (w.alloc (.cells (blk fun _ => 0) 23))) : wpList Tryd.prog ops Q (o :: rest) a w :=
  wpList_plain hg fun _ hK => by
    unfold Oper.wp execOp
    simp only [ho, Sem.run_bind, run_alloc_b, Result.andThen_ok]
    exact hK _ _ h
theorem wpList_store_b {f g : Nat → Int} {n : Nat} (hg : o.guard = none) (x y : Operand) (ho : o.op = .store 23 x y) (hx : a.eval x = .pointer (some ⟨n, 0, none⟩)) (hy : a.eval y = .agg (blk g)) (hn : n = w.heap.size)
    (h : wpList Tryd.prog ops Q rest (a.put o.dst undef) (w.alloc (.cells (blk g) 23))) : wpList Tryd.prog ops Q (o :: rest) a (w.alloc (.cells (blk f) 23)) := by
  subst hn
  exact wpList_store_row hg _ x y ho w.heap.size _ hx hy _ _ (heap_alloc_new w _) (blk_info _) (blk_sz _ _) (blk_one _) (by rw [World.setRow_alloc_new]; exact h)
theorem wpList_load_b {f : Nat → Int} {t : TypeId} (g : Nat) (hh : w.heap[g]? = some (.cells (blk f) t (0, 0))) (hgd : o.guard = none) (x : Operand) (ho : o.op = .load 23 x) (hx : a.eval x = .pointer (some ⟨g, 0, none⟩))
    (h : wpList Tryd.prog ops Q rest (a.put o.dst (.agg (blk f))) w) : wpList Tryd.prog ops Q (o :: rest) a w :=
  wpList_load_row hgd _ x ho g hx _ _ _ _ hh Tryd.underlying23 rfl (blk_info _) h
theorem wpQuiet_load_b {f : Nat → Int} {t : TypeId} (g : Nat) (hh : ∀ w', C w' → w'.heap[g]? = some (.cells (blk f) t (0, 0))) (hw : Region.wanted o (yielded ops a.tmps) = true) (x : Operand) (ho : o.op = .load 23 x) (hx : a.eval x = .pointer (some ⟨g, 0, none⟩))
    (h : wpQuiet Tryd.prog ops C R rest (a.put o.dst (.agg (blk f)))) : wpQuiet Tryd.prog ops C R (o :: rest) a :=
  wpQuiet_load_row hw _ x ho g hx _ _ _ _ hh Tryd.underlying23 rfl (blk_info _) h
theorem eqItems_b (w : World) (d : Nat) (f g : Nat → Int) (h : ∀ i, i < 64 → f i = g i) : ∀ is : List Nat, (∀ i ∈ is, i < 64) → (Op.eqItems (d + 1) 3 (Tryd.prog.cellsOf 3) (blk f) (blk g) is).run Tryd.prog w = .ok true w
  | [], _ => by simp [Op.eqItems]
  | i :: is, hi => by
    have h1 : i < 64 := hi i List.mem_cons_self
    have hc : Tryd.prog.cellsOf 3 = 1 := by kernel_rfl
    have hk : Tryd.prog.plainKey 3 = true := by kernel_rfl
    have e1 : (blk f)[i * Tryd.prog.cellsOf 3]? = some (.int .i64 (f i)) := by rw [hc, Nat.mul_one]; exact blk_at h1
    have e2 : (blk g)[i * Tryd.prog.cellsOf 3]? = some (.int .i64 (g i)) := by rw [hc, Nat.mul_one]; exact blk_at h1
    have ih := eqItems_b w d f g h is fun j hj => hi j (List.mem_cons_of_mem _ hj)
    simp only [Op.eqItems, Sem.run_bind, run_part_plain w hk e1, run_part_plain w hk e2, Result.andThen_ok, run_equalIn_int w d _ _ _ _ _ Tryd.underlying3, h i h1, BEq.rfl, Bool.not_true, Bool.false_eq_true, if_false]
    exact ih
theorem run_eql_b (w : World) {f g : Nat → Int} (h : ∀ i, i < 64 → f i = g i) : (binOp .eql 23 (.agg (blk f)) (.agg (blk g))).run Tryd.prog w = .ok (.bool true) w := by
  obtain ⟨i, hi⟩ := Option.isSome_iff_exists.1 (show (Tryd.prog.info? 3).isSome = true by kernel_rfl)
  rw [run_eql_struct, run_equalIn_array w 9999 _ _ Tryd.underlying23 hi, eqItems_b w 9998 f g h _ fun j hj => List.mem_range.1 hj]
  rfl
theorem run_eqlop_b {f g : Nat → Int} (h : ∀ i, i < 64 → f i = g i) (w : World) (x y : Operand) (t : TypeId) (ho : o.op = .binOp .eql 23 x y t) (hx : a.eval x = .agg (blk f)) (hy : a.eval y = .agg (blk g)) : (execOp a.eval o).run Tryd.prog w = .ok (.value (.bool true)) w := by
  have hm : Tryd.prog.eqGuardType Tryd.prog.depth 23 = false := by kernel_rfl
  unfold execOp
  simp only [ho, hx, hy, Sem.run_bind, run_eqGuard_agg w _ _ _ _ _ _ hm, run_eql_b w h, Result.andThen_ok]
  rfl
theorem wpQuiet_eql_b {f g : Nat → Int} (h : ∀ i, i < 64 → f i = g i) (hw : Region.wanted o (yielded ops a.tmps) = true) (x y : Operand) (t : TypeId) (ho : o.op = .binOp .eql 23 x y t) (hx : a.eval x = .agg (blk f)) (hy : a.eval y = .agg (blk g))
    (hn : wpQuiet Tryd.prog ops C R rest (a.put o.dst (.bool true))) : wpQuiet Tryd.prog ops C R (o :: rest) a :=
  wpQuiet_step fun K hK => by
    rw [if_pos hw]
    refine ⟨.bool true, fun w' _ => ?_, hK _ hn⟩
    unfold Oper.quietAt
    rw [run_eqlop_b h w' x y t ho hx hy]
    exact ⟨rfl, rfl⟩
theorem wpQuiet_build_b (f : Nat → Int) (hw : Region.wanted o (yielded ops a.tmps) = true) (parts : Array (Nat × Operand)) (ho : o.op = .build 23 parts) (hf : Tryd.prog.built 23 (parts.map fun (i, x) => (i, a.eval x)).toList = some (blk f))
    (hn : wpQuiet Tryd.prog ops C R rest (a.put o.dst (.agg (blk f)))) : wpQuiet Tryd.prog ops C R (o :: rest) a :=
  wpQuiet_step fun K hK => by
    rw [if_pos hw]
    refine ⟨.agg (blk f), fun w' _ => ?_, hK _ hn⟩
    unfold Oper.quietAt execOp
    simp only [ho, Sem.run_bind, run_build w' _ _ _ hf, Result.andThen_ok]
    exact ⟨rfl, rfl⟩
theorem wpQuiet_build1 {n : Int} {f : Nat → Int} (hf : Tryd.prog.built 23 [(0, .int .i64 n)] = some (blk f)) (hw : Region.wanted o (yielded ops a.tmps) = true) (ho : o.op = .build 23 #[(0, .const (.int .i64 n))])
    (hn : wpQuiet Tryd.prog ops C R rest (a.put o.dst (.agg (blk f)))) : wpQuiet Tryd.prog ops C R (o :: rest) a :=
  wpQuiet_build_b f hw _ ho (by simp only [List.map_toArray, List.map_cons, List.map_nil]; exact hf) hn
theorem wpQuiet_build0 (hw : Region.wanted o (yielded ops a.tmps) = true) (ho : o.op = .build 23 #[]) (hn : wpQuiet Tryd.prog ops C R rest (a.put o.dst (.agg (blk fun _ => 0)))) : wpQuiet Tryd.prog ops C R (o :: rest) a :=
  wpQuiet_build_b _ hw _ ho (by rw [Array.map_empty]; exact built_0) hn
end
end Go.Proofs.YtkaoajfdbjlioaaDoor
