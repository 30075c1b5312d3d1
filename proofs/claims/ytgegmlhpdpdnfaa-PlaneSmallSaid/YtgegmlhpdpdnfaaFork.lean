/- A region that draws its order: some operations are taken ahead; the rest goes by an invariant over what is done. -/
import Derived.Test.YtgegmlhpdpdnfaaHid
import Derived.Test.YtgegmlhpdpdnfaaWide
namespace Go.Proofs.Ytgegmlhpdpdnfaa
open Go.RowKit
section
variable {P : Program} {ops : Array Oper} {Q : Exit → Act → World → Prop} {md : Region.Mode} {C : World → Prop} {Z : Nat → Bool}

/-- Whatever order is picked; behind each operation but those of Z, C holds. -/
def wpAnyZ (P : Program) (md : Region.Mode) (ops : Array Oper) (Q : Exit → Act → World → Prop) (C : World → Prop) (Z : Nat → Bool) : Nat → Array Bool → Act → World → Prop
  | 0, listed, a, w => Region.ready md ops listed = [] ∧ Q .normal a w
  | fuel + 1, listed, a, w => (Region.ready md ops listed = [] → Q .normal a w) ∧
    ∀ i ∈ Region.ready md ops listed, wpOp P ops Q i (fun a' w' => (Z i = false → C w') ∧ wpAnyZ P md ops Q C Z fuel (listed.setIfInBounds i true) a' w') a w
theorem wpAny_of_Z : ∀ (fuel : Nat) (listed : Array Bool) (a : Act) (w : World), wpAnyZ P md ops Q C Z fuel listed a w → wpAny P md ops Q fuel listed a w
  | 0, _, _, _, h => h
  | fuel + 1, _, _, _, h => ⟨h.1, fun i hi => wpOp_mono (fun a' w' h' => wpAny_of_Z fuel _ a' w' h'.2) (h.2 i hi)⟩
/-- Every operation of Z is done, or waits for this one. -/
def lastZ (md : Region.Mode) (ops : Array Oper) (Z : Nat → Bool) (listed : Array Bool) (i : Nat) : Bool := (List.range ops.size).all fun z => !Z z || listed.getD z true || Region.waitsFor md ops z i
theorem lastZ_not {i j : Nat} {listed : Array Bool} (hz : lastZ md ops Z listed i = true) (hi : i ∈ Region.ready md ops listed) (hj : j ∈ Region.ready md ops listed) : Z j = false := by
  obtain ⟨hl, o', ho', _⟩ := mem_ready.1 hj
  have hlt : j < ops.size := (Array.getElem?_eq_some_iff.1 ho').1
  have h := List.all_eq_true.1 hz j (List.mem_range.2 hlt)
  cases hZ : Z j with
  | false => rfl
  | true =>
    rw [hZ, hl] at h
    exact absurd hj (ready_not (by simpa using h) hi)
theorem lastZ_more {i j : Nat} {listed : Array Bool} (hz : lastZ md ops Z listed i = true) : lastZ md ops Z (listed.setIfInBounds j true) i = true := by
  refine List.all_eq_true.2 fun z hz2 => ?_
  have h := List.all_eq_true.1 hz z hz2
  by_cases hjz : j = z
  · subst hjz
    have : (listed.setIfInBounds j true).getD j true = true := by
      simp only [Array.getD, Array.size_setIfInBounds]
      split <;> simp
    rw [this]; simp
  · rw [getD_set_ne true hjz]; exact h
theorem wpAnyZ_ahead {i : Nat} {oi : Oper} {v : Value} (hi : ops[i]? = some oi) (hsel : ∀ (j : Nat) (o : Oper) cs b, ops[j]? = some o → o.op ≠ .select cs b)
    (hQ : ∀ c a w, Q (.panic c) (a.put oi.dst v) w → Q (.panic c) a w) :
    ∀ (fuel : Nat) (listed : Array Bool) (a : Act) (w : World),
      (∀ j oj, ops[j]? = some oj → j ≠ i → listed.getD j true = false → (∀ e ∈ oj.after, Region.binds md e = true → e.on ≠ i) → oi.apart ops oj = true) →
      lastZ md ops Z listed i = true → i ∈ Region.ready md ops listed → YieldsIf P ops C oi v a → C w →
      wpAnyZ P md ops Q C Z fuel (listed.setIfInBounds i true) (a.put oi.dst v) w → wpAnyZ P md ops Q C Z (fuel + 1) listed a w := by
  intro fuel
  induction fuel with
  | zero =>
    intro listed a w _ _ hr hy hC H
    refine ⟨fun h => absurd hr (by rw [h]; simp), fun j hj => ?_⟩
    by_cases hji : j = i
    · subst hji; exact hy.wpOp hi hC ⟨fun _ => hC, H⟩
    · exact absurd (ready_mono hj hji) (by rw [H.1]; simp)
  | succ fuel ih =>
    intro listed a w hfree hz hr hy hC H
    refine ⟨fun h => absurd hr (by rw [h]; simp), fun j hj => ?_⟩
    by_cases hji : j = i
    · subst hji; exact hy.wpOp hi hC ⟨fun _ => hC, H⟩
    · have hjz : Z j = false := lastZ_not hz hr hj
      have h1 := H.2 j (ready_mono hj hji)
      obtain ⟨hjun, oj, hoj, hall⟩ := mem_ready.1 hj
      have hnot : ∀ e ∈ oj.after, Region.binds md e = true → e.on ≠ i := fun e he hb heq => by
        have h5 := hall e he hb
        rw [heq, getD_both (mem_ready.1 hr).1] at h5
        cases h5
      have h2 := wpOp_putIf hoj (hfree j oj hoj hji hjun hnot) (fun cs b => hsel i oi cs b hi) (fun cs b => hsel j oj cs b hoj) hQ hy h1
      refine wpOp_mono (fun a' w' h3 => ⟨fun _ => h3.2.1 hjz, ih (listed.setIfInBounds j true) a' w' (fun k ok hk hki hun hno => hfree k ok hk hki ?_ hno) (lastZ_more hz) (ready_mono hr (Ne.symm hji)) h3.1 (h3.2.1 hjz) ?_⟩) h2
      · by_cases hjk : j = k
        · subst hjk; exact hjun
        · rwa [getD_set_ne true hjk] at hun
      · rw [Array.setIfInBounds_comm _ _ hji]
        exact h3.2.2
theorem wpAnyZ_const {i : Nat} {oi : Oper} {v : Value} (hi : ops[i]? = some oi) (hsel : ∀ (j : Nat) (o : Oper) cs b, ops[j]? = some o → o.op ≠ .select cs b) (hz : Z i = true)
    (hQ : ∀ c a w, Q (.panic c) (a.put oi.dst v) w → Q (.panic c) a w) :
    ∀ (fuel : Nat) (listed : Array Bool) (a : Act) (w : World),
      (∀ j oj, ops[j]? = some oj → j ≠ i → listed.getD j true = false → (∀ e ∈ oj.after, Region.binds md e = true → e.on ≠ i) → oi.apart ops oj = true) →
      i ∈ Region.ready md ops listed → YieldsIf P ops (fun _ => True) oi v a →
      wpAnyZ P md ops Q C Z fuel (listed.setIfInBounds i true) (a.put oi.dst v) w → wpAnyZ P md ops Q C Z (fuel + 1) listed a w := by
  intro fuel
  induction fuel with
  | zero =>
    intro listed a w _ hr hy H
    refine ⟨fun h => absurd hr (by rw [h]; simp), fun j hj => ?_⟩
    by_cases hji : j = i
    · subst hji; exact hy.wpOp hi trivial ⟨fun h => (by rw [hz] at h; cases h), H⟩
    · exact absurd (ready_mono hj hji) (by rw [H.1]; simp)
  | succ fuel ih =>
    intro listed a w hfree hr hy H
    refine ⟨fun h => absurd hr (by rw [h]; simp), fun j hj => ?_⟩
    by_cases hji : j = i
    · subst hji; exact hy.wpOp hi trivial ⟨fun h => (by rw [hz] at h; cases h), H⟩
    · have h1 := H.2 j (ready_mono hj hji)
      obtain ⟨hjun, oj, hoj, hall⟩ := mem_ready.1 hj
      have hnot : ∀ e ∈ oj.after, Region.binds md e = true → e.on ≠ i := fun e he hb heq => by
        have h5 := hall e he hb
        rw [heq, getD_both (mem_ready.1 hr).1] at h5
        cases h5
      have h2 := wpOp_putIf hoj (hfree j oj hoj hji hjun hnot) (fun cs b => hsel i oi cs b hi) (fun cs b => hsel j oj cs b hoj) hQ hy h1
      refine wpOp_mono (fun a' w' h3 => ⟨h3.2.1, ih (listed.setIfInBounds j true) a' w' (fun k ok hk hki hun hno => hfree k ok hk hki ?_ hno) (ready_mono hr (Ne.symm hji)) h3.1 ?_⟩) h2
      · by_cases hjk : j = k
        · subst hjk; exact hjun
        · rwa [getD_set_ne true hjk] at hun
      · rw [Array.setIfInBounds_comm _ _ hji]
        exact h3.2.2
def aheadB (md : Region.Mode) (ops : Array Oper) (Z : Nat → Bool) : List (Nat × Bool) → Array Bool → Bool
  | [], _ => true
  | (i, c) :: r, listed => (Region.ready md ops listed).contains i && Region.free md ops listed i && (if c then lastZ md ops Z listed i else Z i) && aheadB md ops Z r (listed.setIfInBounds i true)
def listAll : List (Nat × Bool) → Array Bool → Array Bool
  | [], l => l
  | i :: r, l => listAll r (l.setIfInBounds i.1 true)
def wpAhead (P : Program) (ops : Array Oper) (C : World → Prop) (K : Act → Prop) : List (Nat × Bool) → Act → Prop
  | [], a => K a
  | (i, c) :: r, a => ∃ o v, ops[i]? = some o ∧ YieldsIf P ops (fun w => c = true → C w) o v a ∧ wpAhead P ops C K r (a.put o.dst v)
theorem ahead_nil {K : Act → Prop} {a : Act} (h : K a) : wpAhead P ops C K [] a := h
theorem ahead_still {K : Act → Prop} {i : Nat} {c : Bool} {r : List (Nat × Bool)} {o : Oper} {a : Act} {v : Value} (hi : ops[i]? = some o) (hw : Region.wanted o (yielded ops a.tmps) = true) (h : ∀ w, (c = true → C w) → (execOp a.eval o).run P w = .ok (.value v) w)
    (k : wpAhead P ops C K r (a.put o.dst v)) : wpAhead P ops C K ((i, c) :: r) a := ⟨o, v, hi, .inl ⟨hw, h⟩, k⟩
theorem yieldsIf_less {C D : World → Prop} {o : Oper} {v : Value} {a : Act} (h : YieldsIf P ops C o v a) (k : ∀ w, D w → C w) : YieldsIf P ops D o v a := by
  rcases h with h | h
  · exact .inl ⟨h.1, fun w hw => h.2 w (k w hw)⟩
  · exact .inr h
theorem anyZ_of_ahead (hsel : Region.noSelect ops = true) (hQ : ∀ (c : _) (a : Act) (d : Option Tmp) (v : Value) (w : World), Q (.panic c) (a.put d v) w → Q (.panic c) a w) {g : Nat} :
    ∀ (l : List (Nat × Bool)) (listed : Array Bool) (a : Act) (w : World), aheadB md ops Z l listed = true → C w → wpAhead P ops C (fun a' => wpAnyZ P md ops Q C Z g (listAll l listed) a' w) l a → wpAnyZ P md ops Q C Z (l.length + g) listed a w
  | [], listed, a, w, _, _, h => by rw [List.length_nil, Nat.zero_add]; exact h
  | (i, c) :: r, listed, a, w, hB, hC, h => by
    obtain ⟨o, v, hi, hy, hk⟩ := h
    simp only [aheadB, Bool.and_eq_true] at hB
    obtain ⟨⟨⟨hr, hf⟩, hz⟩, hB'⟩ := hB
    have hr' : i ∈ Region.ready md ops listed := by simpa using hr
    rw [show ((i, c) :: r).length + g = (r.length + g) + 1 by simp; omega]
    cases c with
    | true => exact wpAnyZ_ahead hi (Region.noSelect_spec hsel) (fun c a w h => hQ c a _ _ w h) _ listed a w (Region.free_spec hi hf) (by simpa using hz) hr' (yieldsIf_less hy fun _ h _ => h) hC (anyZ_of_ahead hsel hQ r _ _ _ hB' hC hk)
    | false => exact wpAnyZ_const hi (Region.noSelect_spec hsel) (by simpa using hz) (fun c a w h => hQ c a _ _ w h) _ listed a w (Region.free_spec hi hf) hr' (yieldsIf_less hy fun _ _ h => nomatch h) (anyZ_of_ahead hsel hQ r _ _ _ hB' hC hk)
def forkOk (ops : Array Oper) (Z : Nat → Bool) (ah : List (Nat × Bool)) (g : Nat) : Bool :=
  Region.noSelect ops && decide (ah.length + g = ops.size) && aheadB .any ops Z ah (Array.replicate ops.size false)
theorem wp_region_fork {id : Nat} {a : Act} {w : World} {l : List Oper} (Z : Nat → Bool) (ah : List (Nat × Bool)) (g : Nat) (C : World → Prop) (hm : P.follows .mixedOrders = true) (hB : forkOk l.toArray Z ah g = true) (L0 : Array Bool) (hL : listAll ah (Array.replicate l.toArray.size false) = L0) (hC : C w.drew)
    (hQ : ∀ (c : _) (a : Act) (d : Option Tmp) (v : Value) (w : World), Q (.panic c) (a.put d v) w → Q (.panic c) a w)
    (h : wpAhead P l.toArray C (fun a' => wpAnyZ P .any l.toArray Q C Z g L0 a' w.drew) ah a) : (Code.region id l.toArray true).wp P Q a w := by
  subst hL
  simp only [forkOk, Bool.and_eq_true, decide_eq_true_eq] at hB
  obtain ⟨⟨hsel, hn⟩, hB'⟩ := hB
  refine wp_region_any hm (wpAny_of_Z (C := C) (Z := Z) _ _ _ _ ?_)
  have := anyZ_of_ahead (md := .any) hsel hQ (g := g) ah _ a w.drew hB' hC h
  rwa [hn] at this
theorem wpAnyZ_inv {I : Nat → Array Bool → Act → World → Prop} {g : Nat} (hend : ∀ listed a w, I 0 listed a w → wpAnyZ P md ops Q C Z g listed a w)
    (hstep : ∀ k listed a w, I (k + 1) listed a w → Region.ready md ops listed ≠ [] ∧ ∀ i ∈ Region.ready md ops listed, wpOp P ops Q i (fun a' w' => (Z i = false → C w') ∧ I k (listed.setIfInBounds i true) a' w') a w) :
    ∀ (k : Nat) (listed : Array Bool) (a : Act) (w : World), I k listed a w → wpAnyZ P md ops Q C Z (k + g) listed a w
  | 0, _, _, _, h => by rw [Nat.zero_add]; exact hend _ _ _ h
  | k + 1, listed, a, w, h => by
    rw [show k + 1 + g = (k + g) + 1 by omega]
    have hs := hstep k listed a w h
    exact ⟨fun e => absurd e hs.1, fun i hi => wpOp_mono (fun a' w' h' => ⟨h'.1, wpAnyZ_inv hend hstep k _ a' w' h'.2⟩) (hs.2 i hi)⟩
theorem wpAnyZ_one {g : Nat} (i : Nat) {listed : Array Bool} {a : Act} {w : World} (hr : Region.ready md ops listed = [i]) (h : wpOp P ops Q i (fun a' w' => (Z i = false → C w') ∧ wpAnyZ P md ops Q C Z g (listed.setIfInBounds i true) a' w') a w) :
    wpAnyZ P md ops Q C Z (g + 1) listed a w :=
  ⟨fun e => (by rw [hr] at e; cases e), fun j hj => by
    rw [hr] at hj
    obtain rfl : j = i := by simpa using hj
    exact h⟩
theorem wpAnyZ_nil {listed : Array Bool} {a : Act} {w : World} (hr : Region.ready md ops listed = []) (h : Q .normal a w) : wpAnyZ P md ops Q C Z 0 listed a w := ⟨hr, h⟩
/-- One operation, as a list of one. -/
def OnlyK (K : Act → World → Prop) : Exit → Act → World → Prop
  | .normal, a, w => K a w
  | _, _, _ => False
theorem onlyK_lets {K : Act → World → Prop} : ¬LetsOut (OnlyK K) := by rintro ⟨_, _, h⟩; exact (h : False).elim
theorem wpOp_of_list {i : Nat} {o : Oper} {K : Act → World → Prop} {a : Act} {w : World} (ho : ops[i]? = some o) (h : wpList P ops (OnlyK K) [o] a w) : wpOp P ops Q i K a w := by
  unfold wpOp
  simp only [ho]
  unfold wpList at h
  split
  · rename_i hw
    rw [if_pos hw] at h
    rcases h with h | h
    · left
      unfold Oper.wp at *
      generalize (execOp a.eval o).run P w = r at *
      cases r with
      | ok n w' =>
        cases n <;> simp only [Oper.upon] at h ⊢ <;>
          first
            | exact h
            | exact Calls.mono h (fun e w'' he => by
                cases e with
                | returned v => exact he
                | panicked c => exact (he : False).elim
                | outgrown => exact (onlyK_lets he).elim)
            | exact Rows.mono h (fun _ _ he => he)
      | halt x w' => cases x <;> simp only [Oper.upon] at h ⊢ <;> first | exact h | exact (h : False).elim
    · exact (onlyK_lets h.2).elim
  · rename_i hw
    rw [if_neg hw] at h
    exact h
theorem wpOp_go {i : Nat} {o : Oper} {K : Act → World → Prop} {a : Act} {w : World} (hi : ops[i]? = some o) (h : ∀ K' : Act → World → Prop, Shut2 (∀ a' w', K a' w' → K' a' w') → if Region.wanted o (yielded ops a.tmps) = true then o.wp P a w K' Q else K' (a.put o.dst undef) w) : wpOp P ops Q i K a w := by
  have h := h K (fun _ _ h => h)
  unfold wpOp
  simp only [hi]
  split
  · rename_i hw; rw [if_pos hw] at h; exact .inl h
  · rename_i hw; rw [if_neg hw] at h; exact h
theorem wpOp_val {i : Nat} {o : Oper} {K : Act → World → Prop} {a : Act} {w w' : World} {v : Value} (hi : ops[i]? = some o) (hg : o.guard = none) (hr : (execOp a.eval o).run P w = .ok (.value v) w') (h : K (a.put o.dst v) w') : wpOp P ops Q i K a w := by
  unfold wpOp
  simp only [hi]
  rw [if_pos (by simp [Region.wanted, hg])]
  left
  unfold Oper.wp
  rw [hr]
  exact h
end
end Go.Proofs.Ytgegmlhpdpdnfaa
