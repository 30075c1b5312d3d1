/- Rows of rows of blocks; a block, or a row, one more. -/
import Derived.Test.YtgegmlhpdpdnfaaBk7
import Derived.Maps.AppendAt
namespace Go.Proofs.Ytgegmlhpdpdnfaa
open Go.RowKit

theorem own_tag {w : World} {base : Nat} {e : TypeId} {size : Nat} {v : Value} {n : Nat} {xs : List Value} (h : w.ownsRow base e size v n xs) {g : Nat} (hg : v.ownBlock = some g) : base ≤ g ∧ ∃ c f, w.heap[g]? = some (.cells c e f) := by
  rcases h.2 with ⟨h1, _⟩ | ⟨g', cap, cur, hv, h1, h2, _⟩
  · rw [h1] at hg; cases hg
  · rw [hv] at hg; cases hg; exact ⟨h1, cur, _, h2⟩
theorem own_sub {w w' : World} {n0 : Nat} {ts : List TypeId} {base : Nat} {e : TypeId} {size : Nat} {v : Value} {n : Nat} {xs : List Value} (h : w.ownsRow base e size v n xs) (k : Sub n0 ts w w') (he : e ∉ ts) : w'.ownsRow base e size v n xs :=
  own_of_block h fun g hg => by
    obtain ⟨_, c, f, h2⟩ := own_tag h hg
    rw [k.other h2 he, h2]
theorem Sub.of_own {w w' : World} {n0 base : Nat} {ts : List TypeId} {e : TypeId} {size : Nat} {v : Value} {n : Nat} {xs : List Value} (h : w.ownsRow base e size v n xs) (hb : n0 ≤ base) (he : e ∈ ts) (k : w.grownBy w' v.ownBlock) : Sub n0 ts w w' :=
  Sub.of_grown k fun g hg => by
    obtain ⟨h1, c, f, h2⟩ := own_tag h hg
    exact ⟨Nat.le_trans hb h1, c, e, f, h2, he⟩
theorem BRow.below {w w' : World} {base : Nat} {t : TypeId} {v : Value} {bs : List (Nat → Int)} (h : BRow w base t v bs) (k : Below w.heap.size w w') : BRow w' base t v bs := own_below h k
theorem BRow.sub {w w' : World} {n0 : Nat} {ts : List TypeId} {base : Nat} {t : TypeId} {v : Value} {bs : List (Nat → Int)} (h : BRow w base t v bs) (k : Sub n0 ts w w') (he : t ∉ ts) : BRow w' base t v bs := own_sub h k he
/-- A row of rows of blocks, of the call's own. -/
def MRow (w : World) (base : Nat) (t1 t : TypeId) (v : Value) (M : List (List (Nat → Int))) : Prop :=
  ∃ vs, w.ownsRow base t1 1 v M.length vs ∧ ∀ (i : Nat) bs, M[i]? = some bs → ∃ u, vs[i]? = some u ∧ u.oneCell' = true ∧ BRow w base t u bs
theorem MRow.nil (w : World) (base : Nat) (t1 t : TypeId) : MRow w base t1 t (.slice none 0 0) [] := ⟨[], World.ownsRow_nil _ _ _ _, fun i bs h => by simp at h⟩
theorem MRow.below {w w' : World} {base : Nat} {t1 t : TypeId} {v : Value} {M : List (List (Nat → Int))} (h : MRow w base t1 t v M) (k : Below w.heap.size w w') : MRow w' base t1 t v M := by
  obtain ⟨vs, h1, h2⟩ := h
  exact ⟨vs, own_below h1 k, fun i bs hi => let ⟨u, a, a2, b⟩ := h2 i bs hi; ⟨u, a, a2, b.below k⟩⟩
theorem MRow.sub {w w' : World} {n0 : Nat} {ts : List TypeId} {base : Nat} {t1 t : TypeId} {v : Value} {M : List (List (Nat → Int))} (h : MRow w base t1 t v M) (k : Sub n0 ts w w') (he : t1 ∉ ts) (he2 : t ∉ ts) : MRow w' base t1 t v M := by
  obtain ⟨vs, h1, h2⟩ := h
  exact ⟨vs, own_sub h1 k he, fun i bs hi => let ⟨u, a, a2, b⟩ := h2 i bs hi; ⟨u, a, a2, b.sub k he2⟩⟩
theorem MRow.push {w w' : World} {base : Nat} {t1 t : TypeId} {v v' : Value} {M : List (List (Nat → Int))} {vs : List Value} {bs : List (Nat → Int)} {u : Value} (ht : t ≠ t1) (h1 : w.ownsRow base t1 1 v M.length vs)
    (h2 : ∀ (i : Nat) bs, M[i]? = some bs → ∃ u, vs[i]? = some u ∧ u.oneCell' = true ∧ BRow w base t u bs) (hu : BRow w base t u bs) (h1c : u.oneCell' = true)
    (hn : w'.ownsRow base t1 1 v' (M.length + 1) (vs ++ [u])) (k : Sub base [t1] w w') : MRow w' base t1 t v' (M ++ [bs]) := by
  refine ⟨vs ++ [u], by simpa using hn, fun i cs hi => ?_⟩
  have hl : vs.length = M.length := by have := h1.1; omega
  have hts : t ∉ [t1] := by simpa using ht
  rcases Nat.lt_or_ge i M.length with h | h
  · rw [List.getElem?_append_left h] at hi
    obtain ⟨x, a, a2, b⟩ := h2 i cs hi
    exact ⟨x, by rw [List.getElem?_append_left (by omega)]; exact a, a2, b.sub k hts⟩
  · rw [List.getElem?_append_right h] at hi
    have hi0 : i - M.length = 0 := by
      rcases Nat.eq_zero_or_pos (i - M.length) with e | e
      · exact e
      · rw [List.getElem?_eq_none (by simp; omega)] at hi; cases hi
    rw [hi0] at hi
    cases hi
    exact ⟨u, by rw [List.getElem?_append_right (by omega), show i - vs.length = 0 by omega]; rfl, h1c, hu.sub k hts⟩

section
variable {F : Fence} {n : Nat} {P : Program} {ops : Array Oper} {rest : List Oper} {o : Oper} {a : Act} {w : World} {Q : Exit → Act → World → Prop}
/-- What the program knows of a type. -/
def Infos (P : Program) (e : TypeId) (size bytes : Nat) : Prop := (P.info? e).map (fun i => (i.zero.map (·.cells.size), i.size, i.bytes)) = some (some size, size, bytes)
theorem Infos.out {e : TypeId} {size bytes : Nat} (h : Infos P e size bytes) : ∃ i z, P.info? e = some i ∧ i.zero = some z ∧ i.size = size ∧ i.bytes = bytes ∧ z.cells.size = size := by
  unfold Infos at h
  cases hi : P.info? e with
  | none => rw [hi] at h; cases h
  | some i =>
    rw [hi] at h
    simp only [Option.map_some, Option.some.injEq, Prod.mk.injEq] at h
    obtain ⟨h1, h2, h3⟩ := h
    cases hz : i.zero with
    | none => rw [hz] at h1; cases h1
    | some z => rw [hz] at h1; exact ⟨i, z, rfl, hz, h2, h3, by simpa using h1⟩
theorem blk_one1 {f : Nat → Int} {u : Value} (hu : u ∈ (blk f).toList) : u.oneCell' = true := by
  have := blk_one f
  rw [Array.all_eq_true'] at this
  exact this u (by simpa using hu)
theorem blk_news {w : World} {g : Nat} {f : Nat → Int} {e : TypeId} (hg : w.heap[g]? = some (.cells (blk f) e (0, 0))) : ∀ (j : Nat) u, (blk f).toList[j]? = some u → w.cell? ((⟨g, 0, none⟩ : Addr).add j) = some u := fun j u hj => by
  have h1 : w.cell? ⟨g, j, none⟩ = (blk f)[j]? := cell_of_row _ _ _ _ _ _ hg
  have h2 : (⟨g, 0, none⟩ : Addr).add j = ⟨g, j, none⟩ := by
    by_cases h : j = 0
    · subst h; rfl
    · simp [Addr.add, h]
  rw [h2, h1]
  simpa using hj
theorem wpListIn_push (base : Nat) (s x : Operand) (t e : TypeId) (hgd : o.guard = none) (ho : o.op = .call { callee := .builtin .append, args := #[s, x], argTypes := #[t, t] }) (ht : P.underlying t = some (.slice e)) (hi : Infos P e 64 512)
    {v : Value} {bs : List (Nat → Int)} {f : Nat → Int} (hs : a.eval s = v) (own : BRow w base e v bs) {g : Nat} (hx : a.eval x = .slice (some ⟨g, 0, none⟩) 1 1) (hg : w.heap[g]? = some (.cells (blk f) e (0, 0))) (hn : bs.length ≤ 1000000) (hbase : base ≤ w.heap.size)
    (h : ∀ v' w', BRow w' base e v' (bs ++ [f]) → Sub base [e] w w' → v'.oneCell' = true → wpListIn F n P ops Q rest (a.put o.dst v') w') : wpListIn F n P ops Q (o :: rest) a w := by
  obtain ⟨i, z, h1, h2, h3, h4, h5⟩ := hi.out
  refine wpListIn_append_own_at w hgd s x t ho base e i z 64 512 ht h1 h2 h3 h4 h5 (by omega) v bs.length (bcells bs) hs own ⟨g, 0, none⟩ 1 1 (blk f).toList hx (by simp [blk_size]) (blk_news hg) (fun u hu => blk_one1 hu) (by unfold maxLen; omega) (by omega) hbase (fun v' w' k1 k2 _ k4 => ?_)
  refine h v' w' ?_ (Sub.of_own own (Nat.le_refl _) (by simp) k2) ?_
  · unfold BRow; rw [bcells_snoc]; simpa using k1
  · rcases k1.2 with ⟨e1, _⟩ | ⟨_, _, _, e1, _⟩ <;> rw [e1] <;> rfl
theorem wpList_push (base : Nat) (s x : Operand) (t e : TypeId) (hgd : o.guard = none) (ho : o.op = .call { callee := .builtin .append, args := #[s, x], argTypes := #[t, t] }) (ht : P.underlying t = some (.slice e)) (hi : Infos P e 64 512)
    {v : Value} {bs : List (Nat → Int)} {f : Nat → Int} (hs : a.eval s = v) (own : BRow w base e v bs) {g : Nat} (hx : a.eval x = .slice (some ⟨g, 0, none⟩) 1 1) (hg : w.heap[g]? = some (.cells (blk f) e (0, 0))) (hn : bs.length ≤ 1000000) (hbase : base ≤ w.heap.size)
    (h : ∀ v' w', BRow w' base e v' (bs ++ [f]) → Sub base [e] w w' → v'.oneCell' = true → wpList P ops Q rest (a.put o.dst v') w') : wpList P ops Q (o :: rest) a w := by
  obtain ⟨i, z, h1, h2, h3, h4, h5⟩ := hi.out
  refine wpList_append_own_at w hgd s x t ho base e i z 64 512 ht h1 h2 h3 h4 h5 (by omega) v bs.length (bcells bs) hs own ⟨g, 0, none⟩ 1 1 (blk f).toList hx (by simp [blk_size]) (blk_news hg) (fun u hu => blk_one1 hu) (by unfold maxLen; omega) (by omega) hbase (fun v' w' k1 k2 _ k4 => ?_)
  refine h v' w' ?_ (Sub.of_own own (Nat.le_refl _) (by simp) k2) ?_
  · unfold BRow; rw [bcells_snoc]; simpa using k1
  · rcases k1.2 with ⟨e1, _⟩ | ⟨_, _, _, e1, _⟩ <;> rw [e1] <;> rfl
theorem wpList_pushM (base : Nat) (s x : Operand) (t e t2 : TypeId) (hgd : o.guard = none) (ho : o.op = .call { callee := .builtin .append, args := #[s, x], argTypes := #[t, t] }) (ht : P.underlying t = some (.slice e)) (hi : Infos P e 1 24) (hne : t2 ≠ e)
    {v u : Value} {M : List (List (Nat → Int))} {bs : List (Nat → Int)} (hs : a.eval s = v) (own : MRow w base e t2 v M) (hu : BRow w base t2 u bs) (h1c : u.oneCell' = true) {g : Nat} (hx : a.eval x = .slice (some ⟨g, 0, none⟩) 1 1) (hg : w.cell? ⟨g, 0, none⟩ = some u) (hn : M.length ≤ 2000000) (hbase : base ≤ w.heap.size)
    (h : ∀ v' w', MRow w' base e t2 v' (M ++ [bs]) → Sub base [e] w w' → wpList P ops Q rest (a.put o.dst v') w') : wpList P ops Q (o :: rest) a w := by
  obtain ⟨i, z, h1, h2, h3, h4, h5⟩ := hi.out
  obtain ⟨vs, o1, o2⟩ := own
  refine wpList_append_own_at w hgd s x t ho base e i z 1 24 ht h1 h2 h3 h4 h5 (by omega) v M.length vs hs o1 ⟨g, 0, none⟩ 1 1 [u] hx (by rfl) (fun j y hj => ?_) (fun y hy => by simp at hy; subst hy; exact h1c) (by unfold maxLen; omega) (by omega) hbase (fun v' w' k1 k2 _ k4 => ?_)
  · match j, hj with
    | 0, hj => cases hj; exact hg
    | j + 1, hj => simp at hj
  · have hk : Sub base [e] w w' := Sub.of_own o1 (Nat.le_refl _) (by simp) k2
    exact h v' w' (MRow.push hne o1 o2 hu h1c k1 hk) hk
end
end Go.Proofs.Ytgegmlhpdpdnfaa
