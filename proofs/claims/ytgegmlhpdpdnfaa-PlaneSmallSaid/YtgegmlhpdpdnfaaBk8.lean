/- Rows of rows of blocks that are read; blocks within rows; blocks laid anew. -/
import Derived.Test.YtgegmlhpdpdnfaaSpl7
import Derived.Deep.MidRow
import Derived.Deep.WholeRow
namespace Go.Proofs.Ytgegmlhpdpdnfaa
open Go.RowKit
theorem blk_info_a (f : Nat → Int) : (Try.prog.info? 41).map (·.size) = some (blk f).size := by rw [blk_size]; kernel_rfl
theorem blk_info_k (f : Nat → Int) : (Try.prog.info? 42).map (·.size) = some (blk f).size := by rw [blk_size]; kernel_rfl
theorem run_alloc_a (w : World) : (Instr.alloc 41 true (.tuple #[])).run Try.prog w = .ok (.pointer (some ⟨w.heap.size, 0, none⟩)) (w.alloc (.cells (blk fun _ => 0) 41)) := by kernel_rfl
theorem run_alloc_k (w : World) : (Instr.alloc 42 true (.tuple #[])).run Try.prog w = .ok (.pointer (some ⟨w.heap.size, 0, none⟩)) (w.alloc (.cells (blk fun _ => 0) 42)) := by kernel_rfl
theorem run_bs_40 (f : Nat → Int) (w : World) : (Instr.buildSlice 40 1 #[(0, .agg (blk f))]).run Try.prog w = .ok (.slice (some ⟨w.heap.size, 0, none⟩) 1 1) (w.alloc (.cells (blk f) 42)) := by kernel_rfl
theorem infos_42 : Infos Try.prog 42 64 512 := by unfold Infos; kernel_rfl
theorem infos_40 : Infos Try.prog 40 1 24 := by unfold Infos; kernel_rfl
section
variable {ops : Array Oper} {rest : List Oper} {o : Oper} {a : Act} {w : World} {Q : Exit → Act → World → Prop}
theorem wpList_alloc_a (hg : o.guard = none) (ho : o.op = .alloc 41) (h : wpList Try.prog ops Q rest (a.put o.dst (.pointer (some ⟨w.heap.size, 0, none⟩))) (w.alloc (.cells (blk fun _ => 0) 41))) : wpList Try.prog ops Q (o :: rest) a w :=
  wpList_plain hg fun _ hK => by
    unfold Oper.wp execOp
    simp only [ho, Sem.run_bind, run_alloc_a, Result.andThen_ok]
    exact hK _ _ h
theorem wpList_alloc_k (hg : o.guard = none) (ho : o.op = .alloc 42) (h : wpList Try.prog ops Q rest (a.put o.dst (.pointer (some ⟨w.heap.size, 0, none⟩))) (w.alloc (.cells (blk fun _ => 0) 42))) : wpList Try.prog ops Q (o :: rest) a w :=
  wpList_plain hg fun _ hK => by
    unfold Oper.wp execOp
    simp only [ho, Sem.run_bind, run_alloc_k, Result.andThen_ok]
    exact hK _ _ h
theorem wpList_store_a {f g : Nat → Int} {n : Nat} (hg : o.guard = none) (x y : Operand) (ho : o.op = .store 41 x y) (hx : a.eval x = .pointer (some ⟨n, 0, none⟩)) (hy : a.eval y = .agg (blk g)) (hn : n = w.heap.size)
    (h : wpList Try.prog ops Q rest (a.put o.dst undef) (w.alloc (.cells (blk g) 41))) : wpList Try.prog ops Q (o :: rest) a (w.alloc (.cells (blk f) 41)) := by
  subst hn
  exact wpList_store_row hg _ x y ho w.heap.size _ hx hy _ _ (heap_alloc_new w _) (blk_info_a _) (by rw [blk_size, blk_size]) (blk_one _) (by rw [World.setRow_alloc_new]; exact h)
theorem wpList_load_a {f : Nat → Int} {t : TypeId} (g : Nat) (hh : w.heap[g]? = some (.cells (blk f) t (0, 0))) (hgd : o.guard = none) (x : Operand) (ho : o.op = .load 41 x) (hx : a.eval x = .pointer (some ⟨g, 0, none⟩))
    (h : wpList Try.prog ops Q rest (a.put o.dst (.agg (blk f))) w) : wpList Try.prog ops Q (o :: rest) a w :=
  wpList_load_row hgd _ x ho g hx _ _ _ _ hh Try.underlying41 rfl (blk_info_a _) h
theorem wpList_load_at {f : Nat → Int} (g k : Nat) (hh : ∀ j, j < 64 → w.cell? ⟨g, k + j, none⟩ = some (.int .i64 (f j))) (hgd : o.guard = none) (x : Operand) (ho : o.op = .load 41 x) (hx : a.eval x = .pointer (some ⟨g, k, none⟩))
    (h : wpList Try.prog ops Q rest (a.put o.dst (.agg (blk f))) w) : wpList Try.prog ops Q (o :: rest) a w :=
  wpList_load_mid hgd _ x ho g k hx ((List.range 64).map fun i => Value.int .i64 (f i)) _ (fun j v hv => by
    have hj : j < 64 := by have := (List.getElem?_eq_some_iff.1 hv).1; simpa using this
    rw [hh j hj, ← hv]
    simp [hj]) Try.underlying41 rfl (by rw [List.length_map, List.length_range]; kernel_rfl) h
theorem wpList_load_bt {f : Nat → Int} (g k : Nat) (hh : ∀ j, j < 64 → w.cell? ⟨g, k + j, none⟩ = some (.int .i64 (f j))) (hgd : o.guard = none) (x : Operand) (ho : o.op = .load 42 x) (hx : a.eval x = .pointer (some ⟨g, k, none⟩))
    (h : wpList Try.prog ops Q rest (a.put o.dst (.agg (blk f))) w) : wpList Try.prog ops Q (o :: rest) a w :=
  wpList_load_mid hgd _ x ho g k hx ((List.range 64).map fun i => Value.int .i64 (f i)) _ (fun j v hv => by
    have hj : j < 64 := by have := (List.getElem?_eq_some_iff.1 hv).1; simpa using this
    rw [hh j hj, ← hv]
    simp [hj]) Try.underlying42 rfl (by rw [List.length_map, List.length_range]; kernel_rfl) h
theorem wpList_bs_40 (f : Nat → Int) (x : Operand) (hg : o.guard = none) (ho : o.op = .buildSlice 40 1 #[(0, x)]) (hx : a.eval x = .agg (blk f))
    (h : wpList Try.prog ops Q rest (a.put o.dst (.slice (some ⟨w.heap.size, 0, none⟩) 1 1)) (w.alloc (.cells (blk f) 42))) : wpList Try.prog ops Q (o :: rest) a w :=
  wpList_plain hg fun _ hK => by
    unfold Oper.wp execOp
    simp only [ho, List.map_toArray, List.map_cons, List.map_nil, hx, Sem.run_bind, run_bs_40, Result.andThen_ok]
    exact hK _ _ h
theorem wpList_pushV {P : Program} (base : Nat) (s x : Operand) (t e : TypeId) {bytes : Nat} (hgd : o.guard = none) (ho : o.op = .call { callee := .builtin .append, args := #[s, x], argTypes := #[t, t] }) (ht : P.underlying t = some (.slice e)) (hi : Infos P e 1 bytes) (hby : bytes ≤ 1000)
    {v : Value} {n : Nat} {xs : List Value} {u : Value} (hs : a.eval s = v) (own : w.ownsRow base e 1 v n xs) {g : Nat} (hx : a.eval x = .slice (some ⟨g, 0, none⟩) 1 1) (hg : w.cell? ⟨g, 0, none⟩ = some u) (h1c : u.oneCell' = true) (hn : n ≤ 2000000) (hbase : base ≤ w.heap.size)
    (h : ∀ v' w', w'.ownsRow base e 1 v' (n + 1) (xs ++ [u]) → Sub base [e] w w' → v'.oneCell' = true → wpList P ops Q rest (a.put o.dst v') w') : wpList P ops Q (o :: rest) a w := by
  obtain ⟨i, z, h1, h2, h3, h4, h5⟩ := hi.out
  refine wpList_append_own_at w hgd s x t ho base e i z 1 bytes ht h1 h2 h3 h4 h5 (by omega) v n xs hs own ⟨g, 0, none⟩ 1 1 [u] hx (by rfl) (fun j y hj => ?_) (fun y hy => by simp at hy; subst hy; exact h1c) (by unfold maxLen; omega) ?_ hbase (fun v' w' k1 k2 _ k4 => ?_)
  · match j, hj with
    | 0, hj => cases hj; exact hg
    | j + 1, hj => simp at hj
  · have : (n + 1) * bytes ≤ 2000001 * 1000 := Nat.mul_le_mul (by omega) hby
    omega
  · refine h v' w' k1 (Sub.of_own own (Nat.le_refl _) (by simp) k2) ?_
    rcases k1.2 with ⟨e1, _⟩ | ⟨_, _, _, e1, _⟩ <;> rw [e1] <;> rfl
end
/-- A row of blocks that can be read. -/
def RRow (W : World) (u : Value) (bs : List (Nat → Int)) : Prop :=
  ∃ g c, u = .slice (some ⟨g, 0, none⟩) bs.length c ∧ g < W.heap.size ∧ ∀ (k : Nat) f, bs[k]? = some f → ∀ j, j < 64 → W.cell? ⟨g, k * 64 + j, none⟩ = some (.int .i64 (f j))
/-- A row of rows of blocks that can be read. -/
def RM (W : World) (v : Value) (M : List (List (Nat → Int))) : Prop :=
  ∃ g o c, v = .slice (some ⟨g, o, none⟩) M.length c ∧ g < W.heap.size ∧ ∀ (i : Nat) bs, M[i]? = some bs → ∃ u, W.cell? ⟨g, o + i, none⟩ = some u ∧ RRow W u bs
theorem RRow.below {W W' : World} {u : Value} {bs : List (Nat → Int)} (h : RRow W u bs) (k : Below W.heap.size W W') : RRow W' u bs := by
  obtain ⟨g, c, h1, h2, h3⟩ := h
  exact ⟨g, c, h1, Nat.lt_of_lt_of_le h2 k.size, fun i f hi j hj => (k.cell (p := ⟨g, i * 64 + j, none⟩) h2).trans (h3 i f hi j hj)⟩
theorem RM.below {W W' : World} {v : Value} {M : List (List (Nat → Int))} (h : RM W v M) (k : Below W.heap.size W W') : RM W' v M := by
  obtain ⟨g, o, c, h1, h2, h3⟩ := h
  exact ⟨g, o, c, h1, Nat.lt_of_lt_of_le h2 k.size, fun i bs hi => let ⟨u, a, b⟩ := h3 i bs hi; ⟨u, (k.cell (p := ⟨g, o + i, none⟩) h2).trans a, b.below k⟩⟩
theorem RRow.of {W : World} {base : Nat} {t : TypeId} {u : Value} {bs : List (Nat → Int)} (h : BRow W base t u bs) (hp : 0 < bs.length) : RRow W u bs := by
  obtain ⟨g, c, rfl⟩ := h.shape hp
  exact ⟨g, c, rfl, (h.lt g rfl).2, fun k f hk j hj => h.cell hk hj⟩
theorem RM.of {W : World} {base : Nat} {t1 t : TypeId} {v : Value} {M : List (List (Nat → Int))} (h : MRow W base t1 t v M) (hp : 0 < M.length) (hp2 : ∀ bs ∈ M, 0 < bs.length) : RM W v M := by
  obtain ⟨vs, h1, h2⟩ := h
  obtain ⟨g, c, rfl⟩ := own_shape h1 hp
  exact ⟨g, 0, c, rfl, (h1.lt g rfl).2, fun i bs hi => let ⟨u, a, _, b⟩ := h2 i bs hi; ⟨u, by rw [Nat.zero_add]; exact own_cell h1 a, RRow.of b (hp2 bs (List.mem_of_getElem? hi))⟩⟩
end Go.Proofs.Ytgegmlhpdpdnfaa
