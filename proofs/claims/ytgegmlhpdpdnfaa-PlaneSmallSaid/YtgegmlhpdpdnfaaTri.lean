/- Three rows of a call's own that lie apart, and what waits to be appended to them. -/
import Derived.Test.YtgegmlhpdpdnfaaMr7
import Derived.Test.YtgegmlhpdpdnfaaPlac
import Derived.Test.YtgegmlhpdpdnfaaFork
namespace Go.Proofs.Ytgegmlhpdpdnfaa
open Go.RowKit
theorem wp_abs7 {c : Code} {P : Program} {Q : Exit → Act → World → Prop} {a : Act} {W : World} (F : World → Prop) (h1 : F W) (h2 : ∀ W, F W → c.wp P Q a W) : c.wp P Q a W := h2 W h1
theorem bh7 {W W' : World} (hb : Below W.heap.size W W') {k : Nat} {o : Obj} (h : W.heap[k]? = some o) : W'.heap[k]? = some o := (hb.block k (heap_lt h)).trans h
theorem bsub7 {n0 : Nat} {ts : List TypeId} {W W' : World} (k : Sub n0 ts W W') {b : Nat} {c : Array Value} {t : TypeId} {f : Nat × Nat} (h : W.heap[b]? = some (.cells c t f)) (ht : t ∉ ts) : W'.heap[b]? = some (.cells c t f) := k.other h ht
theorem set3 {W : World} {b : Nat} {t : TypeId} {f : Nat × Nat} {a0 a1 a2 x0 x1 x2 : Value} (h : W.heap[b]? = some (.cells #[a0, a1, a2] t f)) : (((W.setCell ⟨b, 0, none⟩ x0).setCell ⟨b, 1, none⟩ x1).setCell ⟨b, 2, none⟩ x2).heap[b]? = some (.cells #[x0, x1, x2] t f) := by
  have hlt := heap_lt h
  unfold World.setCell
  simp [Array.getElem?_modify, h]
theorem set3_other {W : World} {b k : Nat} {x0 x1 x2 : Value} (h : k ≠ b) : (((W.setCell ⟨b, 0, none⟩ x0).setCell ⟨b, 1, none⟩ x1).setCell ⟨b, 2, none⟩ x2).heap[k]? = W.heap[k]? := by
  unfold World.setCell
  simp only [Array.getElem?_modify]
  rw [if_neg (fun e => h e.symm), if_neg (fun e => h e.symm), if_neg (fun e => h e.symm)]
/-- Three rows that lie apart. -/
structure Tri (e : TypeId) (size base : Nat) (W : World) (r : Nat → Value) (n : Nat → Nat) (ys : Nat → List Value) : Prop where
  own : ∀ j, j < 3 → W.ownsRow base e size (r j) (n j) (ys j)
  dis : ∀ i j, i < 3 → j < 3 → i ≠ j → ∀ g, (r i).ownBlock = some g → (r j).ownBlock ≠ some g
/-- One thing in a new block, apart from the rows. -/
def Pend (e : TypeId) (W : World) (r : Nat → Value) (us : List Value) (v : Value) : Prop := ∃ g c f, v = .slice (some ⟨g, 0, none⟩) 1 1 ∧ W.heap[g]? = some (.cells c e f) ∧ (∀ (j : Nat) u, us[j]? = some u → W.cell? ((⟨g, 0, none⟩ : Addr).add j) = some u) ∧ ∀ j, j < 3 → (r j).ownBlock ≠ some g
def updN {α : Type} (f : Nat → α) (d : Nat) (x : α) : Nat → α := fun t => if t = d then x else f t
theorem cell_of_heap {W W' : World} {g : Nat} (h : W'.heap[g]? = W.heap[g]?) (j : Nat) : W'.cell? ((⟨g, 0, none⟩ : Addr).add j) = W.cell? ((⟨g, 0, none⟩ : Addr).add j) :=
  World.cell?_of_block (a := (⟨g, 0, none⟩ : Addr).add j) (by rw [show ((⟨g, 0, none⟩ : Addr).add j).block = g by cases j <;> rfl]; exact h)
theorem Tri.keep {e : TypeId} {size base : Nat} {W W' : World} {r : Nat → Value} {n : Nat → Nat} {ys : Nat → List Value} (h : Tri e size base W r n ys) (k : ∀ j g, j < 3 → (r j).ownBlock = some g → W'.heap[g]? = W.heap[g]?) : Tri e size base W' r n ys :=
  ⟨fun j hj => own_of_block (h.own j hj) (fun g hg => k j g hj hg), h.dis⟩
theorem Tri.below {e : TypeId} {size base : Nat} {W W' : World} {r : Nat → Value} {n : Nat → Nat} {ys : Nat → List Value} (h : Tri e size base W r n ys) (k : Below W.heap.size W W') : Tri e size base W' r n ys :=
  h.keep fun j g hj hg => k.block g ((h.own j hj).lt g hg).2
theorem Pend.below {e : TypeId} {W W' : World} {r : Nat → Value} {us : List Value} {v : Value} (h : Pend e W r us v) (k : Below W.heap.size W W') : Pend e W' r us v := by
  obtain ⟨g, c, f, h1, h2, h3, h4⟩ := h
  have hb := k.block g (lt_of_heap h2)
  exact ⟨g, c, f, h1, hb.trans h2, fun j u hu => (cell_of_heap hb j).trans (h3 j u hu), h4⟩
theorem Pend.grow {e : TypeId} {size base : Nat} {W W' : World} {r : Nat → Value} {n : Nat → Nat} {ys : Nat → List Value} {us : List Value} {v v' : Value} {d : Nat} (hd : d < 3) (_ : Tri e size base W r n ys) (h : Pend e W r us v) (k : W.grownBy W' (r d).ownBlock)
    (ht : v'.ownBlock = (r d).ownBlock ∨ v'.ownBlock = some W.heap.size) : Pend e W' (updN r d v') us v := by
  obtain ⟨g, c, f, h1, h2, h3, h4⟩ := h
  have hb := k.block g (lt_of_heap h2) (fun e => h4 d hd e.symm)
  refine ⟨g, c, f, h1, hb.trans h2, fun j u hu => (cell_of_heap hb j).trans (h3 j u hu), fun j hj => ?_⟩
  unfold updN
  split
  · rcases ht with h5 | h5
    · rw [h5]; exact h4 d hd
    · rw [h5]; intro e; cases e; exact absurd (lt_of_heap h2) (Nat.lt_irrefl _)
  · exact h4 j hj
theorem Tri.grow {e : TypeId} {size base : Nat} {W W' : World} {r : Nat → Value} {n : Nat → Nat} {ys : Nat → List Value} {us : List Value} {v' : Value} {d : Nat} (hd : d < 3) (h : Tri e size base W r n ys) (k : W.grownBy W' (r d).ownBlock)
    (ho : W'.ownsRow base e size v' (n d + 1) (ys d ++ us)) (ht : v'.ownBlock = (r d).ownBlock ∨ v'.ownBlock = some W.heap.size) : Tri e size base W' (updN r d v') (updN n d (n d + 1)) (updN ys d (ys d ++ us)) := by
  refine ⟨fun j hj => ?_, fun i j hi hj hij g => ?_⟩
  · unfold updN
    split
    · exact ho
    · rename_i hne
      refine own_of_block (h.own j hj) fun g hg => k.block g ((h.own j hj).lt g hg).2 (fun e2 => ?_)
      exact h.dis j d hj hd hne g hg e2.symm
  · unfold updN
    split
    · rename_i hid
      subst hid
      rw [if_neg (fun e => hij e.symm)]
      intro h1
      rcases ht with h5 | h5
      · rw [h5] at h1; exact h.dis i j hi hj hij g h1
      · rw [h5] at h1; cases h1; intro h2; exact absurd ((h.own j hj).lt _ h2).2 (Nat.lt_irrefl _)
    · rename_i hid
      split
      · rename_i hjd
        subst hjd
        intro h1 h2
        rcases ht with h5 | h5
        · rw [h5] at h2; exact h.dis i j hi hj hij g h1 h2
        · rw [h5] at h2; cases h2; exact absurd ((h.own i hi).lt _ h1).2 (Nat.lt_irrefl _)
      · exact h.dis i j hi hj hij g
/-- What is appended to the row d: the row's value and what is known behind it. -/
theorem Tri.append {P : Program} {e : TypeId} {size base bytes : Nat} {W : World} {r : Nat → Value} {n : Nat → Nat} {ys : Nat → List Value} {us : List Value} {v : Value} {d : Nat} (hd : d < 3) (h : Tri e size base W r n ys) (hp : Pend e W r us v)
    {ops : Array Oper} {o : Oper} {a : Act} {K : Act → World → Prop} (hgd : o.guard = none) (s x : Operand) (t : TypeId) (ho : o.op = .call { callee := .builtin .append, args := #[s, x], argTypes := #[t, t] })
    (ht : P.underlying t = some (.slice e)) (hi : Infos P e size bytes) (hs : a.eval s = r d) (hx : a.eval x = v) (hl : us.length = size) (hsz : 0 < size) (h1 : ∀ u ∈ us, u.oneCell' = true) (hn : n d ≤ 2000000) (hby : bytes ≤ 1000) (hbase : base ≤ W.heap.size)
    (hK : ∀ v' W', Tri e size base W' (updN r d v') (updN n d (n d + 1)) (updN ys d (ys d ++ us)) → Sub base [e] W W' → W.grownBy W' (r d).ownBlock → (v'.ownBlock = (r d).ownBlock ∨ v'.ownBlock = some W.heap.size) → v'.oneCell' = true → K (a.put o.dst v') W') : wpList P ops (OnlyK K) [o] a W := by
  obtain ⟨i, z, k1, k2, k3, k4, k5⟩ := hi.out
  obtain ⟨g, c, f, p1, p2, p3, p4⟩ := hp
  refine wpList_append_own_at W hgd s x t ho base e i z size bytes ht k1 k2 k3 k4 k5 hsz (r d) (n d) (ys d) hs (h.own d hd) ⟨g, 0, none⟩ 1 1 us (by rw [hx, p1]) (by omega) p3 h1 (by unfold maxLen; omega) ?_ hbase (fun v' w' q1 q2 q3 q4 => ?_)
  · have : (n d + 1) * bytes ≤ 2000001 * 1000 := Nat.mul_le_mul (by omega) hby
    omega
  · refine hK v' w' (h.grow hd q2 q1 q4) (Sub.of_own (h.own d hd) (Nat.le_refl _) (by simp) q2) q2 q4 ?_
    rcases q1.2 with ⟨e1, _⟩ | ⟨_, _, _, e1, _⟩ <;> rw [e1] <;> rfl
theorem Pend.new {e : TypeId} {size base : Nat} {W : World} {r : Nat → Value} {n : Nat → Nat} {ys : Nat → List Value} {cs : Array Value} (h : Tri e size base W r n ys) : Pend e (W.alloc (.cells cs e (0, 0))) r cs.toList (.slice (some ⟨W.heap.size, 0, none⟩) 1 1) :=
  ⟨W.heap.size, _, _, rfl, heap_alloc_new _ _, fun j u hj => by
    have h1 : (W.alloc (.cells cs e (0, 0))).cell? ⟨W.heap.size, j, none⟩ = cs[j]? := cells_at (heap_alloc_new _ _) j
    have h2 : (⟨W.heap.size, 0, none⟩ : Addr).add j = ⟨W.heap.size, j, none⟩ := by
      by_cases h : j = 0
      · subst h; rfl
      · simp [Addr.add, h]
    rw [h2, h1]
    simpa using hj, fun j hj h2 => absurd ((h.own j hj).lt _ h2).2 (Nat.lt_irrefl _)⟩
theorem Tri.congr {e : TypeId} {size base : Nat} {W : World} {r r' : Nat → Value} {n n' : Nat → Nat} {ys ys' : Nat → List Value} (h : Tri e size base W r n ys) (h1 : ∀ j, j < 3 → r' j = r j) (h2 : ∀ j, j < 3 → n' j = n j) (h3 : ∀ j, j < 3 → ys' j = ys j) : Tri e size base W r' n' ys' :=
  ⟨fun j hj => (by rw [h1 j hj, h2 j hj, h3 j hj]; exact h.own j hj), fun i j hi hj hij g => (by rw [h1 i hi, h1 j hj]; exact h.dis i j hi hj hij g)⟩
theorem Pend.congr {e : TypeId} {W : World} {r r' : Nat → Value} {us : List Value} {v : Value} (h : Pend e W r us v) (h1 : ∀ j, j < 3 → r' j = r j) : Pend e W r' us v := by
  obtain ⟨g, c, f, k1, k2, k3, k4⟩ := h
  exact ⟨g, c, f, k1, k2, k3, fun j hj => (by rw [h1 j hj]; exact k4 j hj)⟩
theorem lt3 {p : Nat → Prop} (h0 : p 0) (h1 : p 1) (h2 : p 2) : ∀ j, j < 3 → p j := fun j hj => by
  match j, hj with
  | 0, _ => exact h0
  | 1, _ => exact h1
  | 2, _ => exact h2
theorem Tri.nil {W : World} {e : TypeId} {size base : Nat} : Tri e size base W (fun _ => .slice none 0 0) (fun _ => 0) (fun _ => []) :=
  ⟨fun _ _ => World.ownsRow_nil _ _ _ _, fun _ _ _ _ _ _ h => nomatch h⟩
end Go.Proofs.Ytgegmlhpdpdnfaa
