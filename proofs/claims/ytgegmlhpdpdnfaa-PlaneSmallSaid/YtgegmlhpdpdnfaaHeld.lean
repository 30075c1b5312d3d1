/- A region that draws its order, whose first operations only read cells that nobody but the very last one writes: they are taken first, in the text's order; the rest goes in the text's order. -/
import Derived.OrdersHeld
import Derived.StillTail
import Derived.WalkKit
namespace Go.Proofs.Ytgegmlhpdpdnfaa
open Go.RowKit
/-- A hypothesis that no tactic looks into till it is opened. -/
def Shut2 (p : Prop) : Prop := p
theorem Shut2.out {p : Prop} (h : Shut2 p) : p := h
section
variable {P : Program} {ops : Array Oper} {Q : Exit → Act → World → Prop} {md : Region.Mode} {C : World → Prop}

/-- Whatever order is picked; behind each operation but the last one C holds. -/
def wpAnyG (P : Program) (md : Region.Mode) (ops : Array Oper) (Q : Exit → Act → World → Prop) (C : World → Prop) (z : Nat) : Nat → Array Bool → Act → World → Prop
  | 0, listed, a, w => Region.ready md ops listed = [] ∧ Q .normal a w
  | fuel + 1, listed, a, w => (Region.ready md ops listed = [] → Q .normal a w) ∧
    ∀ i ∈ Region.ready md ops listed, wpOp P ops Q i (fun a' w' => (i ≠ z → C w') ∧ wpAnyG P md ops Q C z fuel (listed.setIfInBounds i true) a' w') a w
theorem wpAny_of_G {z : Nat} : ∀ (fuel : Nat) (listed : Array Bool) (a : Act) (w : World), wpAnyG P md ops Q C z fuel listed a w → wpAny P md ops Q fuel listed a w
  | 0, _, _, _, h => h
  | fuel + 1, _, _, _, h => ⟨h.1, fun i hi => wpOp_mono (fun a' w' h' => wpAny_of_G fuel _ a' w' h'.2) (h.2 i hi)⟩
theorem ready_not {z i : Nat} {listed : Array Bool} (hz : Region.waitsFor md ops z i = true) (hi : i ∈ Region.ready md ops listed) : z ∉ Region.ready md ops listed := fun h => by
  obtain ⟨oz, hoz, e, he, hb, hon⟩ := Region.waitsFor_spec hz
  obtain ⟨_, o', ho', hall⟩ := mem_ready.1 h
  have : o' = oz := Option.some.inj (ho'.symm.trans hoz)
  subst this
  have h2 := hall e he hb
  rw [hon, getD_both (mem_ready.1 hi).1] at h2
  cases h2
theorem wpAnyG_first {z i : Nat} {oi : Oper} {v : Value} (hi : ops[i]? = some oi) (hsel : ∀ (j : Nat) (o : Oper) cs b, ops[j]? = some o → o.op ≠ .select cs b) (hz : Region.waitsFor md ops z i = true)
    (hQ : ∀ c a w, Q (.panic c) (a.put oi.dst v) w → Q (.panic c) a w) :
    ∀ (fuel : Nat) (listed : Array Bool) (a : Act) (w : World),
      (∀ j oj, ops[j]? = some oj → j ≠ i → listed.getD j true = false → (∀ e ∈ oj.after, Region.binds md e = true → e.on ≠ i) → oi.apart ops oj = true) →
      i ∈ Region.ready md ops listed → YieldsIf P ops C oi v a → C w →
      wpAnyG P md ops Q C z fuel (listed.setIfInBounds i true) (a.put oi.dst v) w → wpAnyG P md ops Q C z (fuel + 1) listed a w := by
  intro fuel
  induction fuel with
  | zero =>
    intro listed a w _ hr hy hC H
    refine ⟨fun h => absurd hr (by rw [h]; simp), fun j hj => ?_⟩
    by_cases hji : j = i
    · subst hji; exact hy.wpOp hi hC ⟨fun _ => hC, H⟩
    · exact absurd (ready_mono hj hji) (by rw [H.1]; simp)
  | succ fuel ih =>
    intro listed a w hfree hr hy hC H
    refine ⟨fun h => absurd hr (by rw [h]; simp), fun j hj => ?_⟩
    by_cases hji : j = i
    · subst hji; exact hy.wpOp hi hC ⟨fun _ => hC, H⟩
    · have hjz : j ≠ z := fun e => ready_not hz hr (e ▸ hj)
      have h1 := H.2 j (ready_mono hj hji)
      obtain ⟨hjun, oj, hoj, hall⟩ := mem_ready.1 hj
      have hnot : ∀ e ∈ oj.after, Region.binds md e = true → e.on ≠ i := fun e he hb heq => by
        have h5 := hall e he hb
        rw [heq, getD_both (mem_ready.1 hr).1] at h5
        cases h5
      have h2 := wpOp_putIf hoj (hfree j oj hoj hji hjun hnot) (fun cs b => hsel i oi cs b hi) (fun cs b => hsel j oj cs b hoj) hQ hy h1
      refine wpOp_mono (fun a' w' h3 => ⟨fun _ => h3.2.1 hjz, ih (listed.setIfInBounds j true) a' w' (fun k ok hk hki hun hno => hfree k ok hk hki ?_ hno) (ready_mono hr (Ne.symm hji)) h3.1 (h3.2.1 hjz) ?_⟩) h2
      · by_cases hjk : j = k
        · subst hjk; exact hjun
        · rwa [getD_set_ne true hjk] at hun
      · rw [Array.setIfInBounds_comm _ _ hji]
        exact h3.2.2
/-- The first operations, in the text's order: each leaves one value, in every world that meets C, and does nothing else. -/
def wpStill (P : Program) (ops : Array Oper) (C : World → Prop) (L : Act → Prop) : List Oper → Act → Prop
  | [], a => L a
  | o :: rest, a => ∃ v, YieldsIf P ops C o v a ∧ wpStill P ops C L rest (a.put o.dst v)
theorem still_nil {L : Act → Prop} {a : Act} (h : L a) : wpStill P ops C L [] a := h
theorem still_cons {L : Act → Prop} {o : Oper} {rest : List Oper} {a : Act} {v : Value} (hw : Region.wanted o (yielded ops a.tmps) = true) (h : ∀ w, C w → (execOp a.eval o).run P w = .ok (.value v) w)
    (k : wpStill P ops C L rest (a.put o.dst v)) : wpStill P ops C L (o :: rest) a := ⟨v, .inl ⟨hw, h⟩, k⟩
/-- The rest, in the text's order; behind each but the last C holds. -/
def wpRest (P : Program) (ops : Array Oper) (Q : Exit → Act → World → Prop) (C : World → Prop) : List Oper → Act → World → Prop
  | [], a, w => Q .normal a w
  | o :: rest, a, w => if Region.wanted o (yielded ops a.tmps) = true then o.wp P a w (fun a' w' => (rest ≠ [] → C w') ∧ wpRest P ops Q C rest a' w') Q else (rest ≠ [] → C w) ∧ wpRest P ops Q C rest (a.put o.dst undef) w
theorem rest_nil {a : Act} {w : World} (h : Q .normal a w) : wpRest P ops Q C [] a w := h
theorem rest_cons {o : Oper} {rest : List Oper} {a : Act} {w : World}
    (h : ∀ K : Act → World → Prop, Shut2 (∀ a' w', (rest ≠ [] → C w') → wpRest P ops Q C rest a' w' → K a' w') → if Region.wanted o (yielded ops a.tmps) = true then o.wp P a w K Q else K (a.put o.dst undef) w) : wpRest P ops Q C (o :: rest) a w :=
  h _ (fun _ _ h1 h2 => ⟨h1, h2⟩)
theorem anyG_of_rest {z : Nat} : ∀ (l : List Oper) (k : Nat) (listed : Array Bool) (a : Act) (w : World), (∀ j, l[j]? = ops[k + j]?) → k + l.length = z + 1 →
    Region.seqB md ops l.length k listed = true → wpRest P ops Q C l a w → wpAnyG P md ops Q C z l.length listed a w
  | [], _, _, _, _, _, _, hB, h => ⟨by simpa [Region.seqB] using hB, h⟩
  | o :: l, k, listed, a, w, hl, hz, hB, h => by
    have h0 : ops[k]? = some o := by simpa using (hl 0).symm
    simp only [List.length_cons, Region.seqB, Bool.and_eq_true, decide_eq_true_eq] at hB hz
    refine ⟨fun h1 => (by rw [hB.1] at h1; cases h1), fun i hi => ?_⟩
    rw [hB.1] at hi
    obtain rfl : i = k := by simpa using hi
    have go : ∀ a' w', (l ≠ [] → C w') ∧ wpRest P ops Q C l a' w' → (i ≠ z → C w') ∧ wpAnyG P md ops Q C z l.length (listed.setIfInBounds i true) a' w' := fun a' w' ⟨h1, h2⟩ =>
      ⟨fun hne => h1 (fun e => by subst e; simp at hz; omega), anyG_of_rest l (i + 1) _ a' w' (fun j => by have := hl (j + 1); simpa [Nat.add_assoc, Nat.add_comm 1 j] using this) (by omega) hB.2 h2⟩
    unfold wpRest at h
    unfold wpOp
    simp only [h0]
    split
    · rename_i hw
      rw [if_pos hw] at h
      exact .inl (Oper.wp_mono go h)
    · rename_i hw
      rw [if_neg hw] at h
      exact go _ _ h
theorem anyG_of_still {z n g : Nat} {w : World} (hsel : Region.noSelect ops = true) (hC : C w) (hQ : ∀ (c : _) (a : Act) (d : Option Tmp) (v : Value) (w : World), Q (.panic c) (a.put d v) w → Q (.panic c) a w)
    {L : Act → Prop} (hL : ∀ listed a, Region.seqB md ops g n listed = true → L a → wpAnyG P md ops Q C z g listed a w) :
    ∀ (l : List Oper) (k : Nat) (listed : Array Bool) (a : Act), (∀ j, j < l.length → l[j]? = ops[k + j]?) → k + l.length = n → (∀ j, k ≤ j → j < n → Region.waitsFor md ops z j = true) →
    Region.lexHead md ops g l.length k listed = true → wpStill P ops C L l a → wpAnyG P md ops Q C z (l.length + g) listed a w
  | [], k, listed, a, _, hk, _, hB, h => by
    obtain rfl : k = n := by simpa using hk
    rw [List.length_nil, Nat.zero_add]
    exact hL listed a (by simpa [Region.lexHead] using hB) h
  | o :: l, k, listed, a, hl, hk, hz, hB, h => by
    have h0 : ops[k]? = some o := by simpa using (hl 0 (by simp)).symm
    simp only [List.length_cons, Region.lexHead, Bool.and_eq_true] at hB hk
    obtain ⟨⟨hr, hf⟩, hB'⟩ := hB
    have hr' : k ∈ Region.ready md ops listed := by simpa using hr
    obtain ⟨v, hy, hK⟩ := h
    rw [List.length_cons, show l.length + 1 + g = (l.length + g) + 1 by omega]
    exact wpAnyG_first h0 (Region.noSelect_spec hsel) (hz k (Nat.le_refl _) (by omega)) (fun c a w h => hQ c a _ _ w h) _ listed a w (Region.free_spec h0 hf) hr' hy hC
      (anyG_of_still hsel hC hQ hL l (k + 1) _ _ (fun j hj => by have := hl (j + 1) (by simp; omega); simpa [Nat.add_assoc, Nat.add_comm 1 j] using this) (by omega) (fun j h1 h2 => hz j (by omega) h2) hB' hK)
def heldB (ops : Array Oper) (n : Nat) : Bool :=
  Region.noSelect ops && decide (n < ops.size) && (List.range n).all (fun j => Region.waitsFor .any ops (ops.size - 1) j) && Region.lexHead .any ops (ops.size - n) n 0 (Array.replicate ops.size false)
theorem wp_region_held_rest {id : Nat} {a : Act} {w : World} {l : List Oper} (n : Nat) (C : World → Prop) (hm : P.follows .mixedOrders = true) (hB : heldB l.toArray n = true) (hC : C w.drew)
    (hQ : ∀ (c : _) (a : Act) (d : Option Tmp) (v : Value) (w : World), Q (.panic c) (a.put d v) w → Q (.panic c) a w)
    (h : wpStill P l.toArray C (fun a' => wpRest P l.toArray Q C (l.drop n) a' w.drew) (l.take n) a) : (Code.region id l.toArray true).wp P Q a w := by
  simp only [heldB, Bool.and_eq_true, decide_eq_true_eq, List.all_eq_true, List.mem_range] at hB
  obtain ⟨⟨⟨hsel, hn⟩, hz⟩, hlex⟩ := hB
  have hn' : n < l.length := by simpa using hn
  have htl : (l.take n).length = n := by simp; omega
  have hdl : (l.drop n).length = l.toArray.size - n := by simp
  refine wp_region_any hm (wpAny_of_G (C := C) (z := l.toArray.size - 1) _ _ _ _ ?_)
  have := anyG_of_still (P := P) (md := .any) (ops := l.toArray) (Q := Q) (C := C) (z := l.toArray.size - 1) (n := n) (g := l.toArray.size - n) (w := w.drew) hsel hC hQ (L := fun a' => wpRest P l.toArray Q C (l.drop n) a' w.drew)
    (fun listed a' hs hr => by
      have := anyG_of_rest (P := P) (md := .any) (ops := l.toArray) (Q := Q) (C := C) (z := l.toArray.size - 1) (l.drop n) n listed a' w.drew (fun j => by simp [List.getElem?_drop]) (by rw [hdl]; omega) (by rw [hdl]; exact hs) hr
      rwa [hdl] at this) (l.take n) 0 _ a (fun j hj => by
    have hj' : j < n := by rw [htl] at hj; exact hj
    simp [hj']) (by simpa using htl) (fun j _ h2 => hz j h2) (by rw [htl]; exact hlex) h
  rw [htl, show n + (l.toArray.size - n) = l.toArray.size by omega] at this
  exact this
end
end Go.Proofs.Ytgegmlhpdpdnfaa
