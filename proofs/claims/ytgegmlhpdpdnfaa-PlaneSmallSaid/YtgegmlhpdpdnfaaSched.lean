/- A region that draws its order, taken by a schedule: an operation is either taken ahead (it leaves one value in every world that meets C), or it is the only one that is ready. -/
import Derived.Test.YtgegmlhpdpdnfaaHeld
namespace Go.Proofs.Ytgegmlhpdpdnfaa
open Go.RowKit
section
variable {P : Program} {ops : Array Oper} {Q : Exit → Act → World → Prop} {md : Region.Mode} {C : World → Prop}

/-- Behind every operation but z C holds; z is none, or waits for what is taken ahead. -/
def lastB (md : Region.Mode) (ops : Array Oper) (z i : Nat) : Bool := decide (z = ops.size) || Region.waitsFor md ops z i
theorem last_not {z i : Nat} {listed : Array Bool} (hz : lastB md ops z i = true) (hi : i ∈ Region.ready md ops listed) : z ∉ Region.ready md ops listed := by
  unfold lastB at hz
  rcases Bool.or_eq_true _ _ ▸ hz with h | h
  · intro hr
    obtain ⟨_, o', ho', _⟩ := mem_ready.1 hr
    have := (Array.getElem?_eq_some_iff.1 ho').1
    have := of_decide_eq_true h
    omega
  · exact ready_not h hi
theorem wpAnyG_ahead {z i : Nat} {oi : Oper} {v : Value} (hi : ops[i]? = some oi) (hsel : ∀ (j : Nat) (o : Oper) cs b, ops[j]? = some o → o.op ≠ .select cs b) (hz : lastB md ops z i = true)
    (hQ : ∀ c a w, Q (.panic c) (a.put oi.dst v) w → Q (.panic c) a w) :
    ∀ (fuel : Nat) (listed : Array Bool) (a : Act) (w : World),
      (∀ j oj, ops[j]? = some oj → j ≠ i → listed.getD j true = false → (∀ e ∈ oj.after, Region.binds md e = true → e.on ≠ i) → oi.apart ops oj = true) →
      i ∈ Region.ready md ops listed → YieldsIf P ops C oi v a → C w →
      wpAnyG P md ops Q C z fuel (listed.setIfInBounds i true) (a.put oi.dst v) w → wpAnyG P md ops Q C z (fuel + 1) listed a w := by
  intro fuel
  induction fuel with
  | zero =>
    intro listed a w _ hr hy hC H
    refine ⟨fun h => absurd hr (by rw [h]; simp), fun j hj => ?_⟩
    by_cases hji : j = i
    · subst hji; exact hy.wpOp hi hC ⟨fun _ => hC, H⟩
    · exact absurd (ready_mono hj hji) (by rw [H.1]; simp)
  | succ fuel ih =>
    intro listed a w hfree hr hy hC H
    refine ⟨fun h => absurd hr (by rw [h]; simp), fun j hj => ?_⟩
    by_cases hji : j = i
    · subst hji; exact hy.wpOp hi hC ⟨fun _ => hC, H⟩
    · have hjz : j ≠ z := fun e => last_not hz hr (e ▸ hj)
      have h1 := H.2 j (ready_mono hj hji)
      obtain ⟨hjun, oj, hoj, hall⟩ := mem_ready.1 hj
      have hnot : ∀ e ∈ oj.after, Region.binds md e = true → e.on ≠ i := fun e he hb heq => by
        have h5 := hall e he hb
        rw [heq, getD_both (mem_ready.1 hr).1] at h5
        cases h5
      have h2 := wpOp_putIf hoj (hfree j oj hoj hji hjun hnot) (fun cs b => hsel i oi cs b hi) (fun cs b => hsel j oj cs b hoj) hQ hy h1
      refine wpOp_mono (fun a' w' h3 => ⟨fun _ => h3.2.1 hjz, ih (listed.setIfInBounds j true) a' w' (fun k ok hk hki hun hno => hfree k ok hk hki ?_ hno) (ready_mono hr (Ne.symm hji)) h3.1 (h3.2.1 hjz) ?_⟩) h2
      · by_cases hjk : j = k
        · subst hjk; exact hjun
        · rwa [getD_set_ne true hjk] at hun
      · rw [Array.setIfInBounds_comm _ _ hji]
        exact h3.2.2
/-- May a region go by a schedule? -/
def schedB (md : Region.Mode) (ops : Array Oper) (z : Nat) : List (Nat × Bool) → Array Bool → Bool
  | [], listed => (Region.ready md ops listed).isEmpty
  | (i, true) :: r, listed => (Region.ready md ops listed).contains i && Region.free md ops listed i && lastB md ops z i && schedB md ops z r (listed.setIfInBounds i true)
  | (i, false) :: r, listed => decide (Region.ready md ops listed = [i]) && (r.isEmpty || i != z) && schedB md ops z r (listed.setIfInBounds i true)
/-- What is to be shown of it. -/
def wpSched (P : Program) (ops : Array Oper) (Q : Exit → Act → World → Prop) (C : World → Prop) (z : Nat) : List (Nat × Bool) → Act → World → Prop
  | [], a, w => Q .normal a w
  | (i, true) :: r, a, w => ∃ o v, ops[i]? = some o ∧ YieldsIf P ops C o v a ∧ wpSched P ops Q C z r (a.put o.dst v) w
  | (i, false) :: r, a, w => ∃ o, ops[i]? = some o ∧ if Region.wanted o (yielded ops a.tmps) = true then o.wp P a w (fun a' w' => (i ≠ z → C w') ∧ wpSched P ops Q C z r a' w') Q else (i ≠ z → C w) ∧ wpSched P ops Q C z r (a.put o.dst undef) w
theorem sched_nil {z : Nat} {a : Act} {w : World} (h : Q .normal a w) : wpSched P ops Q C z [] a w := h
theorem sched_still {z i : Nat} {r : List (Nat × Bool)} {o : Oper} {a : Act} {w : World} {v : Value} (hi : ops[i]? = some o) (hw : Region.wanted o (yielded ops a.tmps) = true) (h : ∀ w, C w → (execOp a.eval o).run P w = .ok (.value v) w)
    (k : wpSched P ops Q C z r (a.put o.dst v) w) : wpSched P ops Q C z ((i, true) :: r) a w := ⟨o, v, hi, .inl ⟨hw, h⟩, k⟩
theorem sched_go {z i : Nat} {r : List (Nat × Bool)} {o : Oper} {a : Act} {w : World} (hi : ops[i]? = some o)
    (h : ∀ K : Act → World → Prop, Shut2 (∀ a' w', (i ≠ z → C w') → wpSched P ops Q C z r a' w' → K a' w') → if Region.wanted o (yielded ops a.tmps) = true then o.wp P a w K Q else K (a.put o.dst undef) w) : wpSched P ops Q C z ((i, false) :: r) a w :=
  ⟨o, hi, h _ (fun _ _ h1 h2 => ⟨h1, h2⟩)⟩
theorem anyG_of_sched {z : Nat} (hsel : Region.noSelect ops = true) (hQ : ∀ (c : _) (a : Act) (d : Option Tmp) (v : Value) (w : World), Q (.panic c) (a.put d v) w → Q (.panic c) a w) :
    ∀ (l : List (Nat × Bool)) (listed : Array Bool) (a : Act) (w : World), schedB md ops z l listed = true → (l ≠ [] → C w) → wpSched P ops Q C z l a w → wpAnyG P md ops Q C z l.length listed a w
  | [], _, _, _, hB, _, h => ⟨by simpa [schedB] using hB, h⟩
  | (i, true) :: r, listed, a, w, hB, hC, h => by
    obtain ⟨o, v, hi, hy, hk⟩ := h
    simp only [schedB, Bool.and_eq_true] at hB
    obtain ⟨⟨⟨hr, hf⟩, hz⟩, hB'⟩ := hB
    have hr' : i ∈ Region.ready md ops listed := by simpa using hr
    have hc := hC (by simp)
    exact wpAnyG_ahead hi (Region.noSelect_spec hsel) hz (fun c a w h => hQ c a _ _ w h) _ listed a w (Region.free_spec hi hf) hr' hy hc (anyG_of_sched hsel hQ r _ _ _ hB' (fun _ => hc) hk)
  | (i, false) :: r, listed, a, w, hB, hC, h => by
    obtain ⟨o, hi, hk⟩ := h
    simp only [schedB, Bool.and_eq_true, decide_eq_true_eq] at hB
    obtain ⟨⟨hr, hl⟩, hB'⟩ := hB
    refine ⟨fun h1 => (by rw [hr] at h1; cases h1), fun j hj => ?_⟩
    rw [hr] at hj
    obtain rfl : j = i := by simpa using hj
    have go : ∀ a' w', (j ≠ z → C w') ∧ wpSched P ops Q C z r a' w' → (j ≠ z → C w') ∧ wpAnyG P md ops Q C z r.length (listed.setIfInBounds j true) a' w' := fun a' w' ⟨h1, h2⟩ =>
      ⟨h1, anyG_of_sched hsel hQ r _ a' w' hB' (fun hne => h1 (fun e => by
        subst e
        cases r with
        | nil => exact hne rfl
        | cons _ _ => simp at hl)) h2⟩
    unfold wpOp
    simp only [hi]
    split
    · rename_i hw
      rw [if_pos hw] at hk
      exact .inl (Oper.wp_mono go hk)
    · rename_i hw
      rw [if_neg hw] at hk
      exact go _ _ hk
def schedOk (ops : Array Oper) (z : Nat) (sch : List (Nat × Bool)) : Bool :=
  Region.noSelect ops && decide (sch.length = ops.size) && schedB .any ops z sch (Array.replicate ops.size false)
theorem wp_region_sched {id : Nat} {a : Act} {w : World} {l : List Oper} (z : Nat) (sch : List (Nat × Bool)) (C : World → Prop) (hm : P.follows .mixedOrders = true) (hB : schedOk l.toArray z sch = true) (hC : C w.drew)
    (hQ : ∀ (c : _) (a : Act) (d : Option Tmp) (v : Value) (w : World), Q (.panic c) (a.put d v) w → Q (.panic c) a w)
    (h : wpSched P l.toArray Q C z sch a w.drew) : (Code.region id l.toArray true).wp P Q a w := by
  simp only [schedOk, Bool.and_eq_true, decide_eq_true_eq] at hB
  obtain ⟨⟨hsel, hn⟩, hB'⟩ := hB
  refine wp_region_any hm (wpAny_of_G (C := C) (z := z) _ _ _ _ ?_)
  have := anyG_of_sched (md := .any) hsel hQ sch _ a w.drew hB' (fun _ => hC) h
  rwa [hn] at this
end
end Go.Proofs.Ytgegmlhpdpdnfaa
