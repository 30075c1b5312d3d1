/- An append of one number onto a row of the call's own: what is known behind it. -/
import Derived.Test.YtgegmlhpdpdnfaaProg
import Derived.Test.YtgegmlhpdpdnfaaCalm
import Derived.Maps.AppendAt
import Derived.OwnWalk
namespace Go.Proofs.Ytgegmlhpdpdnfaa
open Go.RowKit

theorem gr5 {w W W' : World} {row : Option Nat} (h : Below w.heap.size w W) (hg : W.grownBy W' row) (hr : ∀ k, row = some k → w.heap.size ≤ k) : Below w.heap.size w W' :=
  h.trans ⟨hg.os, hg.tape, hg.output, hg.size, fun k hk => hg.block k (Nat.lt_of_lt_of_le hk h.size) (fun e => absurd (hr k e.symm) (by omega))⟩
/-- What lay below the base in the one still does in the other. -/
def Low (base : Nat) (W W' : World) : Prop := ∀ w : World, w.heap.size ≤ base → Below w.heap.size w W → Below w.heap.size w W'
theorem gr6 {base : Nat} {w W W' : World} (hl : Low base W W') (hb : w.heap.size ≤ base) (h : Below w.heap.size w W) : Below w.heap.size w W' := hl w hb h
theorem own_of_block {w w' : World} {base : Nat} {e : TypeId} {size : Nat} {v : Value} {n : Nat} {xs : List Value} (h : w.ownsRow base e size v n xs) (hb : ∀ g, v.ownBlock = some g → w'.heap[g]? = w.heap[g]?) : w'.ownsRow base e size v n xs := by
  refine ⟨h.1, ?_⟩
  rcases h.2 with hn | ⟨g, cap, cur, hv, h1, h2, h3⟩
  · exact .inl hn
  · exact .inr ⟨g, cap, cur, hv, h1, (hb g (by rw [hv]; rfl)).trans h2, h3⟩
theorem own_alloc {w : World} {base : Nat} {e : TypeId} {size : Nat} {v : Value} {n : Nat} {xs : List Value} {o : Obj} (h : w.ownsRow base e size v n xs) : (w.alloc o).ownsRow base e size v n xs :=
  h.alloc o
theorem own_below {w w' : World} {base : Nat} {e : TypeId} {size : Nat} {v : Value} {n : Nat} {xs : List Value} (h : w.ownsRow base e size v n xs) (hb : Below w.heap.size w w') : w'.ownsRow base e size v n xs :=
  own_of_block h fun g hg => hb.block g (h.lt g hg).2
theorem own_later {w : World} {u : Later w} {base : Nat} {e : TypeId} {size : Nat} {v : Value} {n : Nat} {xs : List Value} (h : w.ownsRow base e size v n xs) : u.at_.ownsRow base e size v n xs := own_below h u.below
theorem own_set {w : World} {base : Nat} {e : TypeId} {size : Nat} {v : Value} {n : Nat} {xs : List Value} {b i : Nat} {x : Value} (h : w.ownsRow base e size v n xs) (hne : ∀ g, v.ownBlock = some g → g ≠ b) : (w.setCell ⟨b, i, none⟩ x).ownsRow base e size v n xs :=
  own_of_block h fun g hg => by
    unfold World.setCell
    simp only [Array.getElem?_modify]
    rw [if_neg (fun e => hne g hg e.symm)]
/-- the cells of a row of one's own -/
theorem own_cell {w : World} {base : Nat} {e : TypeId} {g n c : Nat} {xs : List Value} (h : w.ownsRow base e 1 (.slice (some ⟨g, 0, none⟩) n c) n xs) {j : Nat} {x : Value} (hj : xs[j]? = some x) : w.cell? ⟨g, j, none⟩ = some x := by
  rcases h.2 with ⟨h1, _⟩ | ⟨g', cap, cur, hv, _, hh, _, _, hs, ht⟩
  · exact nomatch h1
  · cases hv
    rw [← ht, List.getElem?_take] at hj
    simp only [World.cell?, hh]
    split at hj
    · simpa using hj
    · exact nomatch hj
theorem new_cell {w : World} {g : Nat} {x : Value} {t : TypeId} (h : g = w.heap.size) : (w.alloc (.cells #[x] t)).cell? ⟨g, 0, none⟩ = some x := by rw [World.cell?_alloc_at _ _ _ _ h]; rfl
theorem info_int : (Try.prog.info? 3).map (fun i => (i.zero, i.size, i.bytes)) = some (some (.int .i64 0), 1, 8) := by kernel_rfl
theorem append_int {ops : Array Oper} {rest : List Oper} {o : Oper} {a : Act} {Q : Exit → Act → World → Prop} {w : World} (base : Nat) (s x : Operand) (hgd : o.guard = none)
    (ho : o.op = .call { callee := .builtin .append, args := #[s, x], argTypes := #[64, 64] })
    {v : Value} {n : Nat} {xs : List Value} (hs : a.eval s = v) (hown : w.ownsRow base 3 1 v n xs) {gv : Nat} (hgv : v.ownBlock = some gv ∨ v.ownBlock = none ∧ gv = w.heap.size)
    {g : Nat} {m : Int} (hx : a.eval x = .slice (some ⟨g, 0, none⟩) 1 1) (hu : w.cell? ⟨g, 0, none⟩ = some (.int .i64 m)) (hn : n ≤ 1000000) (hbase : base ≤ w.heap.size)
    (h : ∀ g' c' w', w'.ownsRow base 3 1 (.slice (some ⟨g', 0, none⟩) (n + 1) c') (n + 1) (xs ++ [.int .i64 m]) → base ≤ g' → g' < w'.heap.size → w.heap.size ≤ w'.heap.size → (g' = gv ∨ g' = w.heap.size) → Low base w w' →
      (∀ b o, w'.cell? ⟨b, o, none⟩ = if b < w.heap.size ∧ b ≠ gv then w.cell? ⟨b, o, none⟩ else Elsewhere w' b o) →
      (∀ b o, w'.frozen? ⟨b, o, none⟩ = (if b < w.heap.size ∧ b ≠ gv then some (w.frozen? ⟨b, o, none⟩) else none).getD (Unmarked w' b o)) →
      wpList Try.prog ops Q rest (a.put o.dst (.slice (some ⟨g', 0, none⟩) (n + 1) c')) w') :
    wpList Try.prog ops Q (o :: rest) a w := by
  obtain ⟨i0, hi, hz0, hz1, hz2⟩ := info_parts info_int
  refine wpList_append_own_at (P := Try.prog) w hgd s x 64 ho base 3 i0 (.int .i64 0) 1 8 Try.underlying64 hi hz0 hz1 hz2 rfl (by decide)
    v n xs hs hown ⟨g, 0, none⟩ 1 1 [.int .i64 m] hx (by rfl) (fun j u hj => ?_) (fun u hu' => ?_) (by unfold maxLen; omega) (by omega) hbase (fun v' w' h1 h2 h3 h4 => ?_)
  · match j, hj with
    | 0, hj => cases hj; exact hu
    | j + 1, hj => simp at hj
  · simp only [List.mem_singleton] at hu'; subst hu'; rfl
  · have hrow : ∀ k, v.ownBlock = some k → base ≤ k := fun k hk => (hown.lt k hk).1
    rcases h1.2 with ⟨_, hc⟩ | ⟨g', c', cur, rfl, hb', hh', _⟩
    · omega
    · have hblk : ∀ b, b < w.heap.size ∧ b ≠ gv → w'.heap[b]? = w.heap[b]? := fun b hb => h2.block b hb.1 (fun e => by
        rcases hgv with h5 | ⟨h5, _⟩
        · rw [h5] at e; cases e; exact hb.2 rfl
        · rw [h5] at e; cases e)
      refine h g' c' w' h1 hb' (lt_of_heap hh') h2.size ?_ (fun w0 hw0 hlow => gr5 hlow h2 (fun k hk => Nat.le_trans hw0 (hrow k hk))) (fun b o => ?_) (fun b o => ?_)
      · rcases h4 with h4 | h4
        · rcases hgv with h5 | ⟨h5, _⟩
          · rw [h5] at h4; cases h4; exact .inl rfl
          · rw [h5] at h4; cases h4
        · cases h4; exact .inr rfl
      · split
        · rename_i hb; exact World.cell?_of_block (a := ⟨b, o, none⟩) (hblk b hb)
        · rfl
      · split
        · rename_i hb; exact World.frozen?_of_block (a := ⟨b, o, none⟩) (hblk b hb)
        · rfl
end Go.Proofs.Ytgegmlhpdpdnfaa
