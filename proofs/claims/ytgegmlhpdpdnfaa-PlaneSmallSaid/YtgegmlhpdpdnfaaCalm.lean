/- A region that draws its order and lays one new variable somewhere among its calls: one walk of the text's order serves every order. -/
import Derived.Test.YtgegmlhpdpdnfaaFlow
namespace Go.Proofs.Ytgegmlhpdpdnfaa
open Go.RowKit
section
variable {P : Program} {ops : Array Oper} {w : World} {md : Region.Mode} {i0 : Nat}

def NoWay : Exit → Act → World → Prop := fun _ _ _ => False
/-- In every later world the operation leaves this value; nothing that was there turned. -/
def CalmAt (P : Program) (w : World) (o : Oper) (a : Act) (v : Value) : Prop :=
  ∀ (u : Later w) (K : Act → World → Prop), (∀ w'', Below u.at_.heap.size u.at_ w'' → K (a.put o.dst v) w'') → o.wp P a u.at_ K NoWay
/-- One value, in every later world; nothing that was there turned. -/
def calmOp (P : Program) (w : World) (o : Oper) (a : Act) (next : Act → Prop) : Prop :=
  ∃ v, CalmAt P w o a v ∧ next (a.put o.dst v)
/-- The lexical walk; operation number i0 is passed over. -/
def wpCalm (P : Program) (ops : Array Oper) (w : World) (i0 : Nat) (Q : Act → Prop) : Nat → List Oper → Act → Prop
  | _, [], a => Q a
  | k, o :: rest, a =>
    if k = i0 then wpCalm P ops w i0 Q (k + 1) rest (a.put o.dst undef)
    else if Region.wanted o (yielded ops a.tmps) then calmOp P w o a (wpCalm P ops w i0 Q (k + 1) rest) else wpCalm P ops w i0 Q (k + 1) rest (a.put o.dst undef)
theorem wpCalm_nil {Q : Act → Prop} {k : Nat} {a : Act} (h : Q a) : wpCalm P ops w i0 Q k [] a := h
theorem wpCalm_pass {Q : Act → Prop} {k : Nat} {a : Act} {o : Oper} {rest : List Oper} (hk : k = i0) (h : wpCalm P ops w i0 Q (k + 1) rest (a.put o.dst undef)) : wpCalm P ops w i0 Q k (o :: rest) a := by
  unfold wpCalm
  rw [if_pos hk]
  exact h
theorem wpCalm_go {Q : Act → Prop} {k : Nat} {a : Act} {o : Oper} {rest : List Oper} {v : Value} (hk : k ≠ i0) (hw : Region.wanted o (yielded ops a.tmps) = true)
    (h : CalmAt P w o a v) (hn : wpCalm P ops w i0 Q (k + 1) rest (a.put o.dst v)) : wpCalm P ops w i0 Q k (o :: rest) a := by
  unfold wpCalm
  rw [if_neg hk, if_pos hw]
  exact ⟨v, h, hn⟩
theorem wpCalm_next {Q : Act → Prop} {k : Nat} {a : Act} {o : Oper} {rest : List Oper} (hk : k ≠ i0) (hw : Region.wanted o (yielded ops a.tmps) = true)
    (h : ∃ v, CalmAt P w o a v ∧ wpCalm P ops w i0 Q (k + 1) rest (a.put o.dst v)) : wpCalm P ops w i0 Q k (o :: rest) a :=
  let ⟨_, h1, h2⟩ := h
  wpCalm_go hk hw h1 h2
theorem wpCalm_skip {Q : Act → Prop} {k : Nat} {a : Act} {o : Oper} {rest : List Oper} (hk : k ≠ i0) (hw : Region.wanted o (yielded ops a.tmps) = false)
    (hn : wpCalm P ops w i0 Q (k + 1) rest (a.put o.dst undef)) : wpCalm P ops w i0 Q k (o :: rest) a := by
  unfold wpCalm
  rw [if_neg hk, if_neg (by rw [hw]; exact Bool.false_ne_true)]
  exact hn
/-- Another slot makes no difference. -/
theorem CalmAt.put {o : Oper} {a : Act} {v u : Value} {d : Option Tmp} (hs : ∀ cs b, o.op ≠ .select cs b) (h1 : ∀ x, d = some x → x ∉ o.looksAt ops) (h2 : ∀ x, d = some x → o.dst ≠ some x) (h : CalmAt P w o a v) : CalmAt P w o (a.put d u) v := by
  intro x K hK
  have h3 := h x (fun a' w'' => K (a'.put d u) w'') (fun w'' hb => by rw [← Act.put_comm a u v h2]; exact hK w'' hb)
  unfold Oper.wp at h3 ⊢
  rw [execOp_put o hs a d u h1]
  generalize (execOp a.eval o).run P x.at_ = r at *
  have hp : ∀ y, (a.put d u).put o.dst y = (a.put o.dst y).put d u := fun y => Act.put_comm a u y h2
  cases r with
  | ok nx w' =>
    cases nx <;> simp only [Oper.upon] at h3 ⊢
    case value y => rw [hp]; exact h3
    case skip => rw [hp]; exact h3
    case enter f args =>
      refine h3.mono (fun e w'' he => ?_)
      cases e
      · dsimp only at he ⊢; rw [hp]; exact he
      · exact he
      · exact he
    case row r args =>
      refine h3.mono (fun y w'' he => ?_)
      rw [hp]; exact he
    case defer dd =>
      have e1 : ({ tmps := (a.put d u).tmps, defers := dd :: (a.put d u).defers } : Act).put o.dst undef = (({ tmps := a.tmps, defers := dd :: a.defers } : Act).put o.dst undef).put d u := by
        rw [← Act.put_comm _ u undef h2]
        congr 1
        cases d <;> rfl
      rw [e1]
      exact h3
  | halt hh w' => cases hh <;> simp only [Oper.upon] at h3 ⊢ <;> exact h3
theorem CalmAt.unput {o : Oper} {a : Act} {v u : Value} {d : Option Tmp} (hs : ∀ cs b, o.op ≠ .select cs b) (h1 : ∀ x, d = some x → x ∉ o.looksAt ops) (h2 : ∀ x, d = some x → o.dst ≠ some x) (h : CalmAt P w o (a.put d u) v) : CalmAt P w o a v := by
  cases d with
  | none => exact h
  | some d =>
    have h3 := CalmAt.put (u := a.tmps.getD d undef) hs h1 h2 h
    have e : (a.put (some d) u).put (some d) (a.tmps.getD d undef) = a := by
      unfold Act.put
      cases a with
      | mk ts ds =>
        simp only [Array.setIfInBounds_setIfInBounds, Act.mk.injEq, and_true]
        apply Array.ext
        · simp
        · intro i h4 h5
          rw [Array.getElem_setIfInBounds]
          split
          · rename_i e; subst e; simp at h4; simp [Array.getD, h4]
          · rfl
    rwa [e] at h3
def cOp (P : Program) (ops : Array Oper) (w : World) (i0 i : Nat) (K : Act → Prop) (a : Act) : Prop :=
  match ops[i]? with
  | none => K a
  | some o => if i = i0 then K (a.put o.dst undef) else if Region.wanted o (yielded ops a.tmps) then calmOp P w o a K else K (a.put o.dst undef)
theorem calmOp_mono {o : Oper} {a : Act} {K K' : Act → Prop} (h : ∀ a, K a → K' a) (hh : calmOp P w o a K) : calmOp P w o a K' :=
  let ⟨v, h1, h2⟩ := hh
  ⟨v, h1, h _ h2⟩
theorem cOp_mono {i : Nat} {a : Act} {K K' : Act → Prop} (h : ∀ a, K a → K' a) (hh : cOp P ops w i0 i K a) : cOp P ops w i0 i K' a := by
  unfold cOp at *
  cases ho : ops[i]? with
  | none => simp only [ho] at hh ⊢; exact h _ hh
  | some o =>
    simp only [ho] at hh ⊢
    by_cases hi : i = i0
    · rw [if_pos hi] at hh ⊢; exact h _ hh
    · rw [if_neg hi] at hh ⊢
      split
      · rename_i hw; rw [if_pos hw] at hh; exact calmOp_mono h hh
      · rename_i hw; rw [if_neg hw] at hh; exact h _ hh
def YieldsC (P : Program) (ops : Array Oper) (w : World) (i0 i : Nat) (o : Oper) (v : Value) (a : Act) : Prop :=
  (i = i0 ∧ v = undef) ∨
  (i ≠ i0 ∧ Region.wanted o (yielded ops a.tmps) = true ∧ CalmAt P w o a v) ∨
  (i ≠ i0 ∧ Region.wanted o (yielded ops a.tmps) = false ∧ v = undef)
theorem YieldsC.cOp {i : Nat} {o : Oper} {v : Value} {a : Act} (hi : ops[i]? = some o) (hy : YieldsC P ops w i0 i o v a) {K : Act → Prop} (h : K (a.put o.dst v)) : cOp P ops w i0 i K a := by
  unfold Proofs.Ytgegmlhpdpdnfaa.cOp
  simp only [hi]
  rcases hy with ⟨e, rfl⟩ | ⟨e, hw, hv⟩ | ⟨e, hw, rfl⟩
  · rw [if_pos e]; exact h
  · rw [if_neg e]; simp only [hw, if_true]; exact ⟨v, hv, h⟩
  · rw [if_neg e]; simp only [hw, Bool.false_eq_true, if_false]; exact h
theorem YieldsC.put {i : Nat} {o : Oper} {v u : Value} {a : Act} {d : Option Tmp} (hs : ∀ cs b, o.op ≠ .select cs b) (h1 : ∀ x, d = some x → x ∉ o.looksAt ops) (h2 : ∀ x, d = some x → o.dst ≠ some x)
    (hy : YieldsC P ops w i0 i o v a) : YieldsC P ops w i0 i o v (a.put d u) := by
  unfold YieldsC at *
  rw [wanted_put o a d u h1]
  rcases hy with h | ⟨e, hw, hv⟩ | h
  · exact .inl h
  · exact .inr (.inl ⟨e, hw, hv.put hs h1 h2⟩)
  · exact .inr (.inr h)
theorem yieldsC_of_cOp {i : Nat} {o : Oper} {a : Act} {K : Act → Prop} (hi : ops[i]? = some o) (h : cOp P ops w i0 i K a) : ∃ v, YieldsC P ops w i0 i o v a ∧ K (a.put o.dst v) := by
  unfold cOp at h
  simp only [hi] at h
  by_cases e : i = i0
  · rw [if_pos e] at h; exact ⟨undef, .inl ⟨e, rfl⟩, h⟩
  · rw [if_neg e] at h
    by_cases hw : Region.wanted o (yielded ops a.tmps) = true
    · simp only [hw, if_true] at h
      obtain ⟨v, h1, h2⟩ := h
      exact ⟨v, .inr (.inl ⟨e, hw, h1⟩), h2⟩
    · simp only [hw] at h
      exact ⟨undef, .inr (.inr ⟨e, by simpa using hw, rfl⟩), h⟩
theorem cOp_put {i j : Nat} {oi oj : Oper} {v : Value} (hj : ops[j]? = some oj) (hap : oi.apart ops oj = true)
    (hsi : ∀ cs b, oi.op ≠ .select cs b) (hsj : ∀ cs b, oj.op ≠ .select cs b) {K : Act → Prop} {a : Act}
    (hy : YieldsC P ops w i0 i oi v a) (h : cOp P ops w i0 j K (a.put oi.dst v)) :
    cOp P ops w i0 j (fun a' => YieldsC P ops w i0 i oi v a' ∧ K (a'.put oi.dst v)) a := by
  obtain ⟨h1, h2, h3⟩ := Oper.apart_spec hap
  have h2' : ∀ x, oj.dst = some x → oi.dst ≠ some x := fun x e e' => h2 x e' e
  have keep : ∀ (a : Act), YieldsC P ops w i0 i oi v a → ∀ u, YieldsC P ops w i0 i oi v (a.put oj.dst u) := fun a hy u => hy.put hsi h3 h2'
  unfold cOp at *
  simp only [hj] at *
  by_cases e : j = i0
  · rw [if_pos e] at h ⊢
    exact ⟨keep a hy _, by rw [← Act.put_comm a v undef h2]; exact h⟩
  · rw [if_neg e] at h ⊢
    rw [wanted_put oj a oi.dst v h1] at h
    split
    · rename_i hw
      simp only [hw, if_true] at h
      obtain ⟨u, hu, hn⟩ := h
      refine ⟨u, ?_, keep a hy u, by rw [← Act.put_comm a v u h2]; exact hn⟩
      exact hu.unput hsj h1 h2
    · rename_i hw
      simp only [hw] at h
      exact ⟨keep a hy _, by rw [← Act.put_comm a v undef h2]; exact h⟩
def wpAnyC (P : Program) (md : Region.Mode) (ops : Array Oper) (w : World) (i0 n : Nat) (L : Array Bool → Act → Prop) : Nat → Array Bool → Act → Prop
  | 0, listed, a => L listed a
  | f + 1, listed, a =>
    Region.ready md ops listed ≠ [] ∧ ∀ i ∈ Region.ready md ops listed, i < n ∧ cOp P ops w i0 i (wpAnyC P md ops w i0 n L f (listed.setIfInBounds i true)) a
theorem wpAnyC_first {n i : Nat} {oi : Oper} {v : Value} {L : Array Bool → Act → Prop} (hi : ops[i]? = some oi) (hsel : ∀ (j : Nat) (o : Oper) cs b, ops[j]? = some o → o.op ≠ .select cs b)
    (hs : Region.sinkB md ops n = true) (hc : Region.chainB md ops n = true) (hn : n < ops.size) (hin : i < n)
    (hdone : ∀ listed a, L listed a → ∀ j ∈ Region.ready md ops listed, n ≤ j) :
    ∀ (f : Nat) (listed : Array Bool) (a : Act), HeadInv md ops n listed →
      (∀ j oj, ops[j]? = some oj → j ≠ i → listed.getD j true = false → (∀ e ∈ oj.after, Region.binds md e = true → e.on ≠ i) → oi.apart ops oj = true) →
      i ∈ Region.ready md ops listed → YieldsC P ops w i0 i oi v a →
      wpAnyC P md ops w i0 n L f (listed.setIfInBounds i true) (a.put oi.dst v) → wpAnyC P md ops w i0 n L (f + 1) listed a := by
  intro f
  induction f with
  | zero =>
    intro listed a inv _ hr hy H
    have hun := (mem_ready.1 hr).1
    refine ⟨fun h => (by rw [h] at hr; cases hr), fun j hj => ?_⟩
    have hjn : j < n := by
      rcases Nat.lt_or_ge j n with h | h
      · exact h
      · exact absurd hj (tail_waits hs hc hn inv _ i rfl hin hun j h)
    refine ⟨hjn, ?_⟩
    by_cases hji : j = i
    · subst hji; exact hy.cOp hi H
    · have := hdone _ _ H j (ready_mono hj hji)
      omega
  | succ f ih =>
    intro listed a inv hfree hr hy H
    have hun := (mem_ready.1 hr).1
    refine ⟨fun h => (by rw [h] at hr; cases hr), fun j hj => ?_⟩
    have hjn : j < n := by
      rcases Nat.lt_or_ge j n with h | h
      · exact h
      · exact absurd hj (tail_waits hs hc hn inv _ i rfl hin hun j h)
    refine ⟨hjn, ?_⟩
    by_cases hji : j = i
    · subst hji; exact hy.cOp hi H
    · have h1 := (H.2 j (ready_mono hj hji)).2
      obtain ⟨hjun, oj, hoj, hall⟩ := mem_ready.1 hj
      have hnot : ∀ e ∈ oj.after, Region.binds md e = true → e.on ≠ i := fun e he hb heq => by
        have h1 := hall e he hb
        rw [heq, getD_both hun] at h1
        cases h1
      have h2 := cOp_put hoj (hfree j oj hoj hji hjun hnot) (fun cs b => hsel i oi cs b hi) (fun cs b => hsel j oj cs b hoj) hy h1
      have hfree' : ∀ k ok, ops[k]? = some ok → k ≠ i → (listed.setIfInBounds j true).getD k true = false →
          (∀ e ∈ ok.after, Region.binds md e = true → e.on ≠ i) → oi.apart ops ok = true := fun k ok hk hki hun hno => by
        refine hfree k ok hk hki ?_ hno
        by_cases hjk : j = k
        · subst hjk; exact hjun
        · rw [getD_set_ne true hjk] at hun; exact hun
      refine cOp_mono (fun a' h3 => ih (listed.setIfInBounds j true) a' (inv.set hj hjn) hfree' (ready_mono hr (Ne.symm hji)) h3.1 ?_) h2
      rw [Array.setIfInBounds_comm _ _ hji]
      exact h3.2
theorem wpAnyC_lex {n g : Nat} {Lq : Act → Prop} (hsel : Region.noSelect ops = true) (hs : Region.sinkB md ops n = true) (hc : Region.chainB md ops n = true) (hn : n < ops.size) :
    ∀ (l : List Oper) (k : Nat) (listed : Array Bool) (a : Act), (∀ j, j < l.length → l[j]? = ops[k + j]?) → k + l.length = n → HeadInv md ops n listed →
    Region.lexHead md ops g l.length k listed = true → wpCalm P ops w i0 Lq k l a →
    wpAnyC P md ops w i0 n (fun listed' a' => HeadInv md ops n listed' ∧ Region.seqB md ops g n listed' = true ∧ Lq a') l.length listed a
  | [], k, listed, a, _, hk, inv, hB, h => by
    have : k = n := by simpa using hk
    subst this
    exact ⟨inv, by simpa [Region.lexHead] using hB, h⟩
  | o :: l, k, listed, a, hl, hk, inv, hB, h => by
    have h0 : ops[k]? = some o := by simpa using (hl 0 (by simp)).symm
    simp only [List.length_cons, Region.lexHead, Bool.and_eq_true] at hB
    obtain ⟨⟨hr, hf⟩, hB'⟩ := hB
    have hkn : k < n := by simp only [List.length_cons] at hk; omega
    have hr' : k ∈ Region.ready md ops listed := by simpa using hr
    have hst : cOp P ops w i0 k (wpCalm P ops w i0 Lq (k + 1) l) a := by unfold cOp; simp only [h0]; unfold wpCalm at h; exact h
    obtain ⟨v, hy, hK⟩ := yieldsC_of_cOp h0 hst
    exact wpAnyC_first h0 (Region.noSelect_spec hsel) hs hc hn hkn (fun listed' a' hL => seqB_ready hL.2.1) l.length listed a inv (Region.free_spec h0 hf) hr' hy
      (wpAnyC_lex hsel hs hc hn l (k + 1) _ _ (fun j hj => by have := hl (j + 1) (by simp; omega); simpa [Nat.add_assoc, Nat.add_comm 1 j] using this) (by simp only [List.length_cons] at hk; omega) (inv.set hr' hkn) hB' hK)

/-- What is true of the frame and the world on the way: before the new variable is laid, and behind it. -/
def OnWay (w : World) (d0 : Tmp) (z : Array Value) (t : TypeId) (done : Bool) (a0 a : Act) (w1 : World) : Prop :=
  Below w.heap.size w w1 ∧
  if done then ∃ g, a = a0.put (some d0) (.pointer (some ⟨g, 0, none⟩)) ∧ w.heap.size ≤ g ∧ w1.heap[g]? = some (.cells z t (0, 0)) else a = a0

theorem lt_of_heap {w1 : World} {g : Nat} {o : Obj} (h : w1.heap[g]? = some o) : g < w1.heap.size := (Array.getElem?_eq_some_iff.1 h).1

theorem put_put_same (a : Act) (d : Tmp) (u v : Value) : (a.put (some d) u).put (some d) v = a.put (some d) v := by
  unfold Act.put
  simp [Array.setIfInBounds_setIfInBounds]

variable {d0 : Tmp} {t : TypeId} {z : Array Value}
theorem wp_noWay {o : Oper} {a : Act} {w1 : World} {K' : Act → World → Prop} {Q' : Exit → Act → World → Prop} (h : o.wp P a w1 K' NoWay) : o.wp P a w1 K' Q' := by
  unfold Oper.wp at *
  generalize (execOp a.eval o).run P w1 = r at *
  cases r with
  | ok nx w' =>
    cases nx <;> simp only [Oper.upon] at h ⊢
    case value y => exact h
    case skip => exact h
    case defer dd => exact h
    case row r args => exact h
    case enter f args =>
      refine h.mono (fun e w'' he => ?_)
      cases e
      · exact he
      · exact he.elim
      · obtain ⟨_, _, hq⟩ := he; exact hq.elim
  | halt hh w' => cases hh <;> simp only [Oper.upon] at h ⊢ <;> first | exact h.elim | exact h
theorem real_step {j : Nat} {oj : Oper} {K : Act → Prop} {K' : Act → World → Prop} {Q' : Exit → Act → World → Prop} {done : Bool} {a0 a : Act} {w1 : World}
    (hj : ops[j]? = some oj) (hji : j ≠ i0) (hsj : ∀ cs b, oj.op ≠ .select cs b) (hlook : d0 ∉ oj.looksAt ops) (hdst : oj.dst ≠ some d0)
    (hon : OnWay w d0 z t done a0 a w1) (h : cOp P ops w i0 j K a0)
    (hK : ∀ a0' a' w', OnWay w d0 z t done a0' a' w' → K a0' → K' a' w') : wpOp P ops Q' j K' a w1 := by
  obtain ⟨hb, hd⟩ := hon
  unfold cOp at h
  unfold wpOp
  simp only [hj] at h ⊢
  rw [if_neg hji] at h
  have hx : ∀ d, some d0 = some d → d ∉ oj.looksAt ops := fun d e => by cases e; exact hlook
  have hy : ∀ d, some d0 = some d → oj.dst ≠ some d := fun d e => by cases e; exact hdst
  have hwt : Region.wanted oj (yielded ops a.tmps) = Region.wanted oj (yielded ops a0.tmps) := by
    cases done with
    | false => simp only [Bool.false_eq_true, if_false] at hd; subst hd; rfl
    | true => simp only [if_true] at hd; obtain ⟨g, rfl, _, _⟩ := hd; exact wanted_put oj a0 (some d0) _ hx
  have hnext : ∀ v, ∀ w', Below w1.heap.size w1 w' → OnWay w d0 z t done (a0.put oj.dst v) (a.put oj.dst v) w' := by
    intro v w' hw'
    refine ⟨hb.trans (hw'.mono hb.size), ?_⟩
    cases done with
    | false => simp only [Bool.false_eq_true, if_false] at hd ⊢; subst hd; rfl
    | true =>
      simp only [if_true] at hd ⊢
      obtain ⟨g, rfl, hg, hh⟩ := hd
      exact ⟨g, Act.put_comm a0 _ v hy, hg, (hw'.block g (lt_of_heap hh)).trans hh⟩
  have hcalm : ∀ v, CalmAt P w oj a0 v → CalmAt P w oj a v := by
    intro v hv
    cases done with
    | false => simp only [Bool.false_eq_true, if_false] at hd; subst hd; exact hv
    | true => simp only [if_true] at hd; obtain ⟨g, rfl, _, _⟩ := hd; exact hv.put hsj hx hy
  rw [hwt]
  by_cases hw : Region.wanted oj (yielded ops a0.tmps) = true
  · simp only [hw, if_true] at h ⊢
    left
    obtain ⟨v, hv, hn⟩ := h
    have h3 := hcalm v hv ⟨w1, hb⟩ (fun a' w'' => a' = a.put oj.dst v ∧ Below w1.heap.size w1 w'') (fun w'' hb' => ⟨rfl, hb'⟩)
    have h4 : oj.wp P a w1 K' NoWay := Oper.wp_mono (fun a' w'' ⟨e, hb'⟩ => by rw [e]; exact hK _ _ _ (hnext v w'' hb') hn) h3
    exact wp_noWay h4
  · simp only [hw, if_false, Bool.false_eq_true] at h ⊢
    exact hK _ _ _ (hnext undef w1 (Below.refl _ _)) h
theorem new_step {o0 : Oper} {K : Act → Prop} {K' : Act → World → Prop} {Q' : Exit → Act → World → Prop} {a0 a : Act} {w1 : World}
    (h0 : ops[i0]? = some o0) (hop : o0.op = .alloc t) (hd0 : o0.dst = some d0) (hg0 : o0.guard = none)
    (hz : ∀ W : World, (Instr.alloc t true (.tuple #[])).run P W = .ok (.pointer (some ⟨W.heap.size, 0, none⟩)) (W.alloc (.cells z t)))
    (hon : OnWay w d0 z t false a0 a w1) (h : cOp P ops w i0 i0 K a0)
    (hK : ∀ a0' a' w', OnWay w d0 z t true a0' a' w' → K a0' → K' a' w') : wpOp P ops Q' i0 K' a w1 := by
  obtain ⟨hb, hd⟩ := hon
  simp only [Bool.false_eq_true, if_false] at hd
  subst hd
  unfold cOp at h
  unfold wpOp
  simp only [h0, if_true] at h ⊢
  have hw : Region.wanted o0 (yielded ops a.tmps) = true := by simp [Region.wanted, hg0]
  simp only [hw, if_true]
  left
  unfold Oper.wp execOp
  simp only [hop, Sem.run_bind, hz, Result.andThen_ok, Sem.run_pure, Oper.upon]
  rw [hd0] at h ⊢
  refine hK _ _ _ ⟨hb.alloc hb.size _, ?_⟩ h
  simp only [if_true]
  exact ⟨w1.heap.size, (put_put_same _ _ _ _).symm, hb.size, heap_alloc_new _ _⟩

theorem wpAny_of_C {n g : Nat} {o0 : Oper} {L : Array Bool → Act → Prop} {Q' : Exit → Act → World → Prop}
    (hsel : ∀ (j : Nat) (o : Oper) cs b, ops[j]? = some o → o.op ≠ .select cs b)
    (h0 : ops[i0]? = some o0) (hop : o0.op = .alloc t) (hd0 : o0.dst = some d0) (hg0 : o0.guard = none)
    (hz : ∀ W : World, (Instr.alloc t true (.tuple #[])).run P W = .ok (.pointer (some ⟨W.heap.size, 0, none⟩)) (W.alloc (.cells z t)))
    (hap : ∀ (j : Nat) (oj : Oper), ops[j]? = some oj → j < n → j ≠ i0 → d0 ∉ oj.looksAt ops ∧ oj.dst ≠ some d0)
    (hL : ∀ listed a0 a w1, listed.getD i0 false = true → OnWay w d0 z t true a0 a w1 → L listed a0 → wpAny P md ops Q' g listed a w1)
    (hfin : ∀ listed a0, L listed a0 → listed.getD i0 false = true) :
    ∀ (f : Nat) (listed : Array Bool) (a0 a : Act) (w1 : World), listed.size = ops.size → OnWay w d0 z t (listed.getD i0 false) a0 a w1 → wpAnyC P md ops w i0 n L f listed a0 → wpAny P md ops Q' (f + g) listed a w1
  | 0, listed, a0, a, w1, _, hon, h => by
    rw [Nat.zero_add]
    have hd := hfin _ _ h
    rw [hd] at hon
    exact hL _ _ _ _ hd hon h
  | f + 1, listed, a0, a, w1, hls, hon, h => by
    rw [show f + 1 + g = (f + g) + 1 by omega]
    refine ⟨fun hh => absurd hh h.1, fun i hi => ?_⟩
    obtain ⟨hin, hc⟩ := h.2 i hi
    obtain ⟨hun, oi, hoi, _⟩ := mem_ready.1 hi
    have hrec : ∀ (dn : Bool) (a0' a' : Act) (w' : World), dn = (listed.setIfInBounds i true).getD i0 false → OnWay w d0 z t dn a0' a' w' → wpAnyC P md ops w i0 n L f (listed.setIfInBounds i true) a0' → wpAny P md ops Q' (f + g) (listed.setIfInBounds i true) a' w' :=
      fun dn a0' a' w' e ho' hh' => wpAny_of_C hsel h0 hop hd0 hg0 hz hap hL hfin f _ a0' a' w' (by simpa using hls) (e ▸ ho') hh'
    by_cases e : i = i0
    · subst e
      have hf : listed.getD i false = false := getD_both hun
      rw [hf] at hon
      refine new_step h0 hop hd0 hg0 hz hon hc (fun a0' a' w' ho' hh' => hrec true a0' a' w' ?_ ho' hh')
      have hlt : i < listed.size := by rw [hls]; exact (Array.getElem?_eq_some_iff.1 h0).1
      simp [hlt]
    · obtain ⟨h1, h2⟩ := hap i oi hoi hin e
      refine real_step hoi e (fun cs b => hsel i oi cs b hoi) h1 h2 hon hc (fun a0' a' w' ho' hh' => hrec _ a0' a' w' ?_ ho' hh')
      exact (getD_set_ne false e).symm

/-- A region that draws its order: its first n operations read or call, and number i0 of them lays a new variable; the rest stands behind them. -/
theorem wp_region_calm_new {id : Nat} {Q : Exit → Act → World → Prop} {a : Act} {l : List Oper} {o0 : Oper} (n i0 : Nat) (d0 : Tmp) (t : TypeId) (z : Array Value) (hm : P.follows .mixedOrders = true)
    (hB : (Region.lexTailB .any l.toArray n && decide (i0 < n) && (List.range n).all fun j => j == i0 || match l[j]? with | some oj => !(oj.looksAt l.toArray).contains d0 && oj.dst != some d0 | none => true) = true)
    (h0 : l[i0]? = some o0) (hop : o0.op = .alloc t) (hd0 : o0.dst = some d0) (hg0 : o0.guard = none)
    (hz : ∀ W : World, (Instr.alloc t true (.tuple #[])).run P W = .ok (.pointer (some ⟨W.heap.size, 0, none⟩)) (W.alloc (.cells z t)))
    (h : wpCalm P l.toArray w i0 (fun a' => ∀ (W : World) (g : Nat), Below w.heap.size w W → w.heap.size ≤ g → W.heap[g]? = some (.cells z t (0, 0)) → wpList P l.toArray Q (l.drop n) (a'.put (some d0) (.pointer (some ⟨g, 0, none⟩))) W) 0 (l.take n) a) :
    (Code.region id l.toArray true).wp P Q a w := by
  simp only [Bool.and_eq_true, decide_eq_true_eq] at hB
  obtain ⟨⟨hB, hin⟩, hapB⟩ := hB
  simp only [Region.lexTailB, Bool.and_eq_true, decide_eq_true_eq] at hB
  obtain ⟨⟨⟨⟨hsel, hn⟩, hs⟩, hc⟩, hlex⟩ := hB
  have hn' : n < l.length := by simpa using hn
  have htl : (l.take n).length = n := by simp; omega
  have hdl : (l.drop n).length = l.toArray.size - n := by simp
  have h0' : l.toArray[i0]? = some o0 := by simpa using h0
  have inv0 : HeadInv .any l.toArray n (Array.replicate l.toArray.size false) :=
    ⟨by simp, fun j oj _ hl => (by rw [getD_replicate_false] at hl; cases hl), fun t _ ht => getD_in (by simpa using ht) (getD_replicate_false _ _)⟩
  have hap : ∀ (j : Nat) (oj : Oper), l.toArray[j]? = some oj → j < n → j ≠ i0 → d0 ∉ oj.looksAt l.toArray ∧ oj.dst ≠ some d0 := by
    intro j oj hj hjn hji
    have hh := List.all_eq_true.1 hapB j (List.mem_range.2 hjn)
    have hj' : l[j]? = some oj := by simpa using hj
    simp only [Bool.or_eq_true, beq_iff_eq, hj'] at hh
    rcases hh with hh | hh
    · exact absurd hh hji
    · simp only [Bool.and_eq_true, Bool.not_eq_true', bne_iff_ne, ne_eq] at hh
      exact ⟨by simpa using hh.1, hh.2⟩
  have H := wpAnyC_lex (md := .any) (g := l.toArray.size - n) hsel hs hc hn (l.take n) 0 _ a (fun j hj => by
    have hj' : j < n := by rw [htl] at hj; exact hj
    simp [hj']) (by simpa using htl) inv0 (by rw [htl]; exact hlex) h
  refine wp_region_any hm ?_
  have := wpAny_of_C (Q' := Q) (g := l.toArray.size - n) (Region.noSelect_spec hsel) h0' hop hd0 hg0 hz hap (fun listed a0 a' w' _ hon hL => by
      obtain ⟨hb, hd⟩ := hon
      simp only [if_true] at hd
      obtain ⟨g, rfl, hg, hh⟩ := hd
      have := wpAny_of_seq (md := .any) (Q' := Q) (l.drop n) n listed _ w' (fun j => by simp [List.getElem?_drop]) (by rw [hdl]; exact hL.2.1) (hL.2.2 w' g hb hg hh)
      rwa [hdl] at this) (fun listed a0 hL => ?_) _ _ a a _ (by simp) ⟨(Below.refl w.heap.size w).drew, by rw [getD_replicate_false]; simp⟩ H
  · rw [htl, show n + (l.toArray.size - n) = l.toArray.size by omega] at this
    exact this
  · -- at the end all but the tail have come
    obtain ⟨inv, hq, _⟩ := hL
    obtain ⟨m, hm'⟩ : ∃ m, l.toArray.size - n = m + 1 := ⟨l.toArray.size - n - 1, by omega⟩
    rw [hm'] at hq
    simp only [Region.seqB, Bool.and_eq_true, decide_eq_true_eq] at hq
    have hlt : i0 < listed.size := by rw [inv.size]; omega
    cases hc0 : listed.getD i0 true with
    | true =>
      simp [hlt] at hc0 ⊢
      exact hc0
    | false =>
      exact absurd (by rw [hq.1]; simp) (tail_waits hs hc hn inv _ i0 rfl hin hc0 n (Nat.le_refl _))

/-- A block that is known whole, by its cells. -/
@[go_sem] theorem set_cell_if (w : World) (g i : Nat) (v : Value) (b o : Nat) : (w.setCell ⟨g, i, none⟩ v).cell? ⟨b, o, none⟩ = if b = g ∧ o = i then (w.cell? ⟨b, o, none⟩).map (fun _ => v) else w.cell? ⟨b, o, none⟩ := by
  by_cases hb : b = g
  · subst hb
    by_cases ho : o = i
    · subst ho
      simp only [and_self, if_true]
      cases hc : w.cell? ⟨b, o, none⟩ with
      | none =>
        unfold World.cell? World.setCell at *
        simp only [Array.getElem?_modify] at *
        cases hh : w.heap[b]? with
        | none => simp
        | some ob =>
          cases ob <;> simp_all
      | some u => exact World.cell?_setCell_same w _ _ hc
    · simp only [ho, and_false, if_false]
      exact World.cell?_setCell_other w _ _ v (by intro e; simp only [Addr.mk.injEq] at e; exact ho e.2.1.symm)
  · simp only [hb, false_and, if_false]
    exact World.cell?_setCell_other w _ _ v (by intro e; simp only [Addr.mk.injEq] at e; exact hb e.1.symm)
theorem ncell {w W : World} {g : Nat} {z : Array Value} {t : TypeId} (hb : Below w.heap.size w W) (hg : w.heap.size ≤ g) (hh : W.heap[g]? = some (.cells z t (0, 0))) :
    (∀ b o, W.cell? ⟨b, o, none⟩ = if b < w.heap.size then w.cell? ⟨b, o, none⟩ else if b = g then z[o]? else Elsewhere W b o) ∧
    (∀ b o, W.frozen? ⟨b, o, none⟩ = (if b < w.heap.size then some (w.frozen? ⟨b, o, none⟩) else if b = g then some false else none).getD (Unmarked W b o)) ∧ w.heap.size ≤ W.heap.size ∧ g < W.heap.size := by
  obtain ⟨h1, h2, h3⟩ := bcell hb
  refine ⟨fun b o => ?_, fun b o => ?_, h3, lt_of_heap hh⟩
  · rw [h1]
    split
    · rfl
    · split
      · rename_i h4 h5
        subst h5
        simp [Elsewhere, World.cell?, hh]
      · rfl
  · rw [h2]
    split
    · rfl
    · split
      · rename_i h4 h5
        subst h5
        simp [Unmarked, World.frozen?, hh]
      · rfl
end
end Go.Proofs.Ytgegmlhpdpdnfaa
