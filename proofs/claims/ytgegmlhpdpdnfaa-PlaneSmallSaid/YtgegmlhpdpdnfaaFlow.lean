/- Lemmas of this seat's own on regions whose calls make memory: one walk of the text's order serves every order. -/
import Derived.WalkKit
import Derived.BigQuiet
import Derived.Laws.EntriesVeiled
import Derived.StillTail
namespace Go.Proofs.Ytgegmlhpdpdnfaa
open Go.RowKit

theorem gr0 (w : World) : Below w.heap.size w w := Below.refl _ _
theorem gr1 {w W : World} (h : Below w.heap.size w W) (o : Obj) : Below w.heap.size w (W.alloc o) := h.alloc h.size o
theorem gr2 {w W W' : World} (h : Below w.heap.size w W) (k : Below W.heap.size W W') : Below w.heap.size w W' := h.trans (k.mono h.size)
theorem gr3 {w W : World} (h : Below w.heap.size w W) : Below w.heap.size w W.drew := h.drew
theorem gr4 {w W : World} (h : Below w.heap.size w W) {p : Addr} (hp : w.heap.size ≤ p.block) (u : Value) : Below w.heap.size w (W.setCell p u) := h.setCell hp u
/-- A cell, where nothing is said of it. -/
def Elsewhere (w : World) (b o : Nat) : Option Value := w.cell? ⟨b, o, none⟩
def Unmarked (w : World) (b o : Nat) : Bool := w.frozen? ⟨b, o, none⟩
def Unset (w : World) (b o : Nat) (v : Value) : World := w.setCell ⟨b, o, none⟩ v
/-- What is known of cells in one world, carried to a later one: the walk decides the test by the sizes that it knows. -/
theorem bcell {W w1 : World} (hb : Below W.heap.size W w1) :
    (∀ b o, w1.cell? ⟨b, o, none⟩ = if b < W.heap.size then W.cell? ⟨b, o, none⟩ else Elsewhere w1 b o) ∧ (∀ b o, w1.frozen? ⟨b, o, none⟩ = (if b < W.heap.size then some (W.frozen? ⟨b, o, none⟩) else none).getD (Unmarked w1 b o)) ∧ W.heap.size ≤ w1.heap.size :=
  ⟨fun b o => by split; · exact hb.cell (p := ⟨b, o, none⟩) (by assumption)
                 · rfl,
   fun b o => by split; · exact hb.frozen (p := ⟨b, o, none⟩) (by assumption)
                 · rfl, hb.size⟩
@[go_sem] theorem alloc_cell_if (w : World) (c : Array Value) (t : TypeId) (b o : Nat) : (w.alloc (.cells c t)).cell? ⟨b, o, none⟩ = if b < w.heap.size then w.cell? ⟨b, o, none⟩ else if b < w.heap.size + 1 then c[o]? else none := by
  split
  · exact World.cell?_alloc_past _ b o (by assumption)
  · split
    · exact World.cell?_alloc_at c t b o (by omega)
    · have h : (w.alloc (.cells c t)).heap[b]? = none := by
        rw [Array.getElem?_eq_none]
        show (w.heap.push _).size ≤ b
        simp; omega
      simp [World.cell?, h]
@[go_sem] theorem alloc_frozen_if (w : World) (c : Array Value) (t : TypeId) (b o : Nat) : (w.alloc (.cells c t)).frozen? ⟨b, o, none⟩ = (if b < w.heap.size then some (w.frozen? ⟨b, o, none⟩) else none).getD false := by
  split
  · exact World.frozen?_alloc_past _ b o (by assumption)
  · by_cases hb : b = w.heap.size
    · exact World.frozen?_alloc_at c t b o hb
    · have h : (w.alloc (.cells c t)).heap[b]? = none := by
        rw [Array.getElem?_eq_none]
        show (w.heap.push _).size ≤ b
        simp; omega
      simp [World.frozen?, h]
@[go_sem] theorem alloc_set_if (w : World) (c : Array Value) (t : TypeId) (b o : Nat) (v : Value) : (w.alloc (.cells c t)).setCell ⟨b, o, none⟩ v =
    if b < w.heap.size then (w.setCell ⟨b, o, none⟩ v).alloc (.cells c t) else if b < w.heap.size + 1 then w.alloc (.cells (c.setIfInBounds o v) t) else w.alloc (.cells c t) := by
  split
  · exact World.setCell_alloc_past _ b o v (by assumption)
  · split
    · exact World.setCell_alloc_at c t b o v (by omega)
    · unfold World.setCell World.alloc
      congr 1
      apply Array.ext_getElem?
      intro k
      simp only [Array.getElem?_modify, Array.getElem?_push]
      by_cases hk : b = k
      · subst hk
        rw [if_pos rfl, if_neg (by omega), Array.getElem?_eq_none (by omega)]
        rfl
      · rw [if_neg hk]
theorem ret_int {k : IntKind} {a b : Int} (h : a = b) : Ending.returned (.int k a) = .returned (.int k b) := by rw [h]
theorem ret_agg1 {k : IntKind} {a b : Int} (h : a = b) : Ending.returned (.agg #[.int k a]) = .returned (.agg #[.int k b]) := by rw [h]

/-- A world that has grown out of w, nothing that was there turned. -/
structure Later (w : World) where
  at_ : World
  below : Below w.heap.size w at_

def Later.now (w : World) : Later w := ⟨w.drew, (Below.refl _ _).drew⟩

instance (w : World) : Nonempty (Later w) := ⟨Later.now w⟩

def Calm (w : World) : World → Prop := fun w' => ∃ u : Later w, w' = u.at_

theorem calm_start (w : World) : Calm w { w with drawn := w.drawn + 1 } := ⟨Later.now w, rfl⟩

@[go_sem] theorem Later.cell {w : World} (u : Later w) (b o : Nat) : u.at_.cell? ⟨b, o, none⟩ = if b < w.heap.size then w.cell? ⟨b, o, none⟩ else Elsewhere u.at_ b o := (bcell u.below).1 b o
@[go_sem] theorem Later.frozen {w : World} (u : Later w) (b o : Nat) : u.at_.frozen? ⟨b, o, none⟩ = (if b < w.heap.size then some (w.frozen? ⟨b, o, none⟩) else none).getD (Unmarked u.at_ b o) := (bcell u.below).2.1 b o

section
variable {P : Program} {ops : Array Oper} {w : World}

theorem calm_call {f : FuncId} {args : Array Value} {v : Value} {u : Later w}
    (h : Calls P f args u.at_ fun e w' => e = .returned v ∧ Below u.at_.heap.size u.at_ w') : Calls P f args u.at_ fun e w'' => e = .returned v ∧ ∃ m : Later w, w'' = m.at_ :=
  h.mono fun _ w' ⟨he, hb⟩ => ⟨he, ⟨w', u.below.trans (hb.mono u.below.size)⟩, rfl⟩

theorem wp_region_calm {id : Nat} {Q : Exit → Act → World → Prop} {a : Act} {l : List Oper} (hm : P.follows .mixedOrders = true) (hB : Region.lexB .any l.toArray = true)
    (h : wpQuiet P l.toArray (fun w' => ∃ u : Later w, w' = u.at_) (fun a' => ∀ u : Later w, Q .normal a' u.at_) l a) : (Code.region id l.toArray true).wp P Q a w :=
  wp_region_quiet (C := fun w' => ∃ u : Later w, w' = u.at_) hm hB (calm_start w) (by
    have : (fun a' => ∀ w', (∃ u : Later w, w' = u.at_) → Q .normal a' w') = (fun a' => ∀ u : Later w, Q .normal a' u.at_) := by
      funext a'
      exact propext ⟨fun h u => h _ ⟨u, rfl⟩, fun h w' ⟨u, e⟩ => e ▸ h u⟩
    rw [this]
    simpa using h)

/-! A region whose last operations stand behind all others: the first n in whatever order, then the rest. -/
variable {md : Region.Mode} {C : World → Prop}
def wpAnyT (P : Program) (md : Region.Mode) (ops : Array Oper) (C : World → Prop) (n : Nat) (L : Array Bool → Act → Prop) : Nat → Array Bool → Act → Prop
  | 0, listed, a => L listed a
  | f + 1, listed, a =>
    Region.ready md ops listed ≠ [] ∧ ∀ i ∈ Region.ready md ops listed, i < n ∧ qOp P ops C i (wpAnyT P md ops C n L f (listed.setIfInBounds i true)) a
theorem wpAny_of_T {n g : Nat} {L : Array Bool → Act → Prop} {Q' : Exit → Act → World → Prop} (hL : ∀ listed a w, C w → L listed a → wpAny P md ops Q' g listed a w) :
    ∀ (f : Nat) (listed : Array Bool) (a : Act) (w : World), C w → wpAnyT P md ops C n L f listed a → wpAny P md ops Q' (f + g) listed a w
  | 0, listed, a, w, hw, h => by rw [Nat.zero_add]; exact hL _ _ _ hw h
  | f + 1, listed, a, w, hw, h => by
    rw [show f + 1 + g = (f + g) + 1 by omega]
    exact ⟨fun h0 => absurd h0 h.1, fun i hi => wpOp_of_qOp hw (fun a' w' hw' h' => wpAny_of_T hL f _ a' w' hw' h') (h.2 i hi).2⟩
theorem wpAnyT_first {n i : Nat} {oi : Oper} {v : Value} {L : Array Bool → Act → Prop} (hi : ops[i]? = some oi) (hsel : ∀ (j : Nat) (o : Oper) cs b, ops[j]? = some o → o.op ≠ .select cs b)
    (hs : Region.sinkB md ops n = true) (hc : Region.chainB md ops n = true) (hn : n < ops.size) (hin : i < n)
    (hdone : ∀ listed a, L listed a → ∀ j ∈ Region.ready md ops listed, n ≤ j) :
    ∀ (f : Nat) (listed : Array Bool) (a : Act), HeadInv md ops n listed →
      (∀ j oj, ops[j]? = some oj → j ≠ i → listed.getD j true = false → (∀ e ∈ oj.after, Region.binds md e = true → e.on ≠ i) → oi.apart ops oj = true) →
      i ∈ Region.ready md ops listed → YieldsIn P ops C oi v a →
      wpAnyT P md ops C n L f (listed.setIfInBounds i true) (a.put oi.dst v) → wpAnyT P md ops C n L (f + 1) listed a := by
  intro f
  induction f with
  | zero =>
    intro listed a inv _ hr hy H
    have hun := (mem_ready.1 hr).1
    refine ⟨fun h => (by rw [h] at hr; cases hr), fun j hj => ?_⟩
    have hjn : j < n := by
      rcases Nat.lt_or_ge j n with h | h
      · exact h
      · exact absurd hj (tail_waits hs hc hn inv _ i rfl hin hun j h)
    refine ⟨hjn, ?_⟩
    by_cases hji : j = i
    · subst hji; exact hy.qOp hi H
    · have := hdone _ _ H j (ready_mono hj hji)
      omega
  | succ f ih =>
    intro listed a inv hfree hr hy H
    have hun := (mem_ready.1 hr).1
    refine ⟨fun h => (by rw [h] at hr; cases hr), fun j hj => ?_⟩
    have hjn : j < n := by
      rcases Nat.lt_or_ge j n with h | h
      · exact h
      · exact absurd hj (tail_waits hs hc hn inv _ i rfl hin hun j h)
    refine ⟨hjn, ?_⟩
    by_cases hji : j = i
    · subst hji; exact hy.qOp hi H
    · have h1 := (H.2 j (ready_mono hj hji)).2
      obtain ⟨hjun, oj, hoj, hall⟩ := mem_ready.1 hj
      have hnot : ∀ e ∈ oj.after, Region.binds md e = true → e.on ≠ i := fun e he hb heq => by
        have h1 := hall e he hb
        rw [heq, getD_both hun] at h1
        cases h1
      have h2 := qOp_put hoj (hfree j oj hoj hji hjun hnot) (fun cs b => hsel i oi cs b hi) (fun cs b => hsel j oj cs b hoj) hy h1
      have hfree' : ∀ k ok, ops[k]? = some ok → k ≠ i → (listed.setIfInBounds j true).getD k true = false →
          (∀ e ∈ ok.after, Region.binds md e = true → e.on ≠ i) → oi.apart ops ok = true := fun k ok hk hki hun hno => by
        refine hfree k ok hk hki ?_ hno
        by_cases hjk : j = k
        · subst hjk; exact hjun
        · rw [getD_set_ne true hjk] at hun; exact hun
      refine qOp_mono (fun a' h3 => ih (listed.setIfInBounds j true) a' (inv.set hj hjn) hfree' (ready_mono hr (Ne.symm hji)) h3.1 ?_) h2
      rw [Array.setIfInBounds_comm _ _ hji]
      exact h3.2
theorem wpAnyT_lex {n g : Nat} {Lq : Act → Prop} (hsel : Region.noSelect ops = true) (hs : Region.sinkB md ops n = true) (hc : Region.chainB md ops n = true) (hn : n < ops.size) :
    ∀ (l : List Oper) (k : Nat) (listed : Array Bool) (a : Act), (∀ j, j < l.length → l[j]? = ops[k + j]?) → k + l.length = n → HeadInv md ops n listed →
    Region.lexHead md ops g l.length k listed = true → wpQuiet P ops C Lq l a →
    wpAnyT P md ops C n (fun listed' a' => Region.seqB md ops g n listed' = true ∧ Lq a') l.length listed a
  | [], k, listed, a, _, hk, _, hB, h => by
    have : k = n := by simpa using hk
    subst this
    exact ⟨by simpa [Region.lexHead] using hB, h⟩
  | o :: l, k, listed, a, hl, hk, inv, hB, h => by
    have h0 : ops[k]? = some o := by simpa using (hl 0 (by simp)).symm
    simp only [List.length_cons, Region.lexHead, Bool.and_eq_true] at hB
    obtain ⟨⟨hr, hf⟩, hB'⟩ := hB
    have hkn : k < n := by simp only [List.length_cons] at hk; omega
    have hr' : k ∈ Region.ready md ops listed := by simpa using hr
    have hst : qOp P ops C k (wpQuiet P ops C Lq l) a := by unfold qOp; simp only [h0]; exact h
    obtain ⟨v, hy, hK⟩ := yieldsIn_of_qOp h0 hst
    exact wpAnyT_first h0 (Region.noSelect_spec hsel) hs hc hn hkn (fun listed' a' hL => seqB_ready hL.1) l.length listed a inv (Region.free_spec h0 hf) hr' hy
      (wpAnyT_lex hsel hs hc hn l (k + 1) _ _ (fun j hj => by have := hl (j + 1) (by simp; omega); simpa [Nat.add_assoc, Nat.add_comm 1 j] using this) (by simp only [List.length_cons] at hk; omega) (inv.set hr' hkn) hB' hK)
theorem wp_region_quiet_tail {id : Nat} {Q : Exit → Act → World → Prop} {a : Act} {l : List Oper} (n : Nat) (hm : P.follows .mixedOrders = true) (hB : Region.lexTailB .any l.toArray n = true)
    (hC : C { w with drawn := w.drawn + 1 })
    (h : wpQuiet P l.toArray C (fun a' => ∀ w', C w' → wpList P l.toArray Q (l.drop n) a' w') (l.take n) a) : (Code.region id l.toArray true).wp P Q a w := by
  simp only [Region.lexTailB, Bool.and_eq_true, decide_eq_true_eq] at hB
  obtain ⟨⟨⟨⟨hsel, hn⟩, hs⟩, hc⟩, hlex⟩ := hB
  have hn' : n < l.length := by simpa using hn
  have htl : (l.take n).length = n := by simp; omega
  have hdl : (l.drop n).length = l.toArray.size - n := by simp
  have inv0 : HeadInv .any l.toArray n (Array.replicate l.toArray.size false) :=
    ⟨by simp, fun j oj _ hl => (by rw [getD_replicate_false] at hl; cases hl), fun t _ ht => getD_in (by simpa using ht) (getD_replicate_false _ _)⟩
  have H := wpAnyT_lex (md := .any) (g := l.toArray.size - n) hsel hs hc hn (l.take n) 0 _ a (fun j hj => by
    have hj' : j < n := by rw [htl] at hj; exact hj
    simp [hj']) (by simpa using htl) inv0 (by rw [htl]; exact hlex) h
  refine wp_region_any hm ?_
  have := wpAny_of_T (Q' := Q) (g := l.toArray.size - n) (fun listed a' w' hw' hL => by
    have := wpAny_of_seq (md := .any) (Q' := Q) (l.drop n) n listed a' w' (fun j => by simp [List.getElem?_drop]) (by rw [hdl]; exact hL.1) (hL.2 w' hw')
    rwa [hdl] at this) _ _ _ _ hC H
  rw [htl, show n + (l.toArray.size - n) = l.toArray.size by omega] at this
  exact this
theorem wp_region_calm_tail {id : Nat} {Q : Exit → Act → World → Prop} {a : Act} {l : List Oper} (n : Nat) (hm : P.follows .mixedOrders = true) (hB : Region.lexTailB .any l.toArray n = true)
    (h : wpQuiet P l.toArray (fun w' => ∃ u : Later w, w' = u.at_) (fun a' => ∀ u : Later w, wpList P l.toArray Q (l.drop n) a' u.at_) (l.take n) a) : (Code.region id l.toArray true).wp P Q a w :=
  wp_region_quiet_tail (C := fun w' => ∃ u : Later w, w' = u.at_) n hm hB (calm_start w) (by
    have : (fun a' => ∀ w', (∃ u : Later w, w' = u.at_) → wpList P l.toArray Q (l.drop n) a' w') = (fun a' => ∀ u : Later w, wpList P l.toArray Q (l.drop n) a' u.at_) := by
      funext a'
      exact propext ⟨fun h u => h _ ⟨u, rfl⟩, fun h w' ⟨u, e⟩ => e ▸ h u⟩
    rw [this]
    exact h)
end
end Go.Proofs.Ytgegmlhpdpdnfaa
