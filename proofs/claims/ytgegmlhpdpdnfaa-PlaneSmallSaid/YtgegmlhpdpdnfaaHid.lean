/- A region that draws its order, some of whose calls leave values that hang on the order (a new address): one walk of the text's order serves every order. -/
import Derived.Test.YtgegmlhpdpdnfaaCalm
namespace Go.Proofs.Ytgegmlhpdpdnfaa
open Go.RowKit

theorem act_ext {a b : Act} (h : ∀ t : Nat, a.tmps[t]? = b.tmps[t]?) (hd : a.defers = b.defers) : a = b := by
  cases a; cases b
  simp only at h hd
  subst hd
  congr 1
  exact Array.ext_getElem? h
theorem put_tmps (a : Act) (d : Tmp) (v : Value) (t : Nat) : (a.put (some d) v).tmps[t]? = if t = d then a.tmps[t]?.map (fun _ => v) else a.tmps[t]? := by
  unfold Act.put
  simp only [Array.getElem?_setIfInBounds]
  by_cases h : t = d
  · subst h
    by_cases h2 : t < a.tmps.size
    · simp [h2]
    · simp [h2]
  · rw [if_neg (fun e => h e.symm), if_neg h]
theorem put_defers (a : Act) (d : Option Tmp) (v : Value) : (a.put d v).defers = a.defers := by
  cases d <;> rfl
/-- a frame with other values in some slots -/
def fill : List Tmp → (Tmp → Value) → Act → Act
  | [], _, a => a
  | d :: D, X, a => fill D X (a.put (some d) (X d))
theorem fill_defers : ∀ (D : List Tmp) (X : Tmp → Value) (a : Act), (fill D X a).defers = a.defers
  | [], _, _ => rfl
  | d :: D, X, a => by rw [fill, fill_defers, put_defers]
theorem fill_tmps : ∀ (D : List Tmp) (X : Tmp → Value) (a : Act) (t : Nat), (fill D X a).tmps[t]? = if t ∈ D then a.tmps[t]?.map (fun _ => X t) else a.tmps[t]?
  | [], _, _, _ => by simp [fill]
  | d :: D, X, a, t => by
    rw [fill, fill_tmps D, put_tmps]
    by_cases h : t = d
    · subst h
      by_cases h2 : t ∈ D
      · simp [h2]; rfl
      · simp [h2]
    · by_cases h2 : t ∈ D <;> simp [h, h2]
theorem fill_put_out {D : List Tmp} {X : Tmp → Value} {a : Act} {d : Option Tmp} {u : Value} (h : ∀ x, d = some x → x ∉ D) : fill D X (a.put d u) = (fill D X a).put d u := by
  cases d with
  | none => rfl
  | some d =>
    have hd := h d rfl
    refine act_ext (fun t => ?_) (by rw [fill_defers, put_defers, put_defers, fill_defers])
    rw [fill_tmps, put_tmps, put_tmps, fill_tmps]
    by_cases h1 : t = d
    · subst h1; simp [hd]
    · by_cases h2 : t ∈ D <;> simp [h1, h2]
theorem fill_put_in {D : List Tmp} {X : Tmp → Value} {a : Act} {d : Tmp} {u : Value} (h : d ∈ D) : fill D X (a.put (some d) u) = fill D X a := by
  refine act_ext (fun t => ?_) (by rw [fill_defers, put_defers, fill_defers])
  rw [fill_tmps, put_tmps, fill_tmps]
  by_cases h1 : t = d
  · subst h1
    simp [h]
    rfl
  · by_cases h2 : t ∈ D <;> simp [h1, h2]
def upd (X : Tmp → Value) (d : Tmp) (x : Value) : Tmp → Value := fun t => if t = d then x else X t
theorem put_fill_in {D : List Tmp} {X : Tmp → Value} {a : Act} {d : Tmp} {x : Value} (h : d ∈ D) : (fill D X a).put (some d) x = fill D (upd X d x) a := by
  refine act_ext (fun t => ?_) (by rw [fill_defers, put_defers, fill_defers])
  rw [fill_tmps, put_tmps, fill_tmps]
  by_cases h1 : t = d
  · subst h1
    simp [h, upd]
    rfl
  · by_cases h2 : t ∈ D <;> simp [h1, h2, upd]
theorem fill_self (D : List Tmp) (a : Act) : fill D (fun t => a.tmps.getD t undef) a = a := by
  refine act_ext (fun t => ?_) (fill_defers _ _ _)
  rw [fill_tmps]
  split
  · by_cases h : t < a.tmps.size <;> simp [Array.getD, h]
  · rfl

/-- An operation whose value hangs on the order: its number, its slot, what is true of the value. -/
structure Hid where
  i : Nat
  d : Tmp
  R : Value → World → Prop
def hidAt (hs : List Hid) (i : Nat) : Option Hid := hs.find? fun h => h.i == i
theorem hidAt_mem {hs : List Hid} {i : Nat} {h : Hid} (e : hidAt hs i = some h) : h ∈ hs ∧ h.i = i :=
  ⟨List.mem_of_find?_eq_some e, by simpa using List.find?_some e⟩
theorem inj_of_nodup {α β : Type} {f : α → β} : ∀ {l : List α}, (l.map f).Nodup → ∀ {x y : α}, x ∈ l → y ∈ l → f x = f y → x = y
  | [], _, _, _, hx, _, _ => nomatch hx
  | a :: l, hn, x, y, hx, hy, e => by
    rw [List.map_cons, List.nodup_cons] at hn
    rcases List.mem_cons.1 hx with h1 | h1 <;> rcases List.mem_cons.1 hy with h2 | h2
    · rw [h1, h2]
    · exact absurd (List.mem_map.2 ⟨y, h2, by rw [← e, h1]⟩) hn.1
    · exact absurd (List.mem_map.2 ⟨x, h1, by rw [e, h2]⟩) hn.1
    · exact inj_of_nodup hn.2 h1 h2 e

section
variable {P : Program} {ops : Array Oper} {w : World} {md : Region.Mode} {hs : List Hid}
/-- In every later world the operation leaves such a value; nothing that was there turned. -/
def HOut (P : Program) (ops : Array Oper) (w : World) (hs : List Hid) (o : Oper) (a : Act) (V : Value → World → Prop) : Prop :=
  ∀ (X : Tmp → Value) (u : Later w), (∀ h ∈ hs, h.d ∈ o.looksAt ops → h.R (X h.d) u.at_) → ∀ (K : Act → World → Prop),
    (∀ x w'', Below u.at_.heap.size u.at_ w'' → V x w'' → K ((fill (hs.map (·.d)) X a).put o.dst x) w'') → o.wp P (fill (hs.map (·.d)) X a) u.at_ K NoWay
def wpHid (P : Program) (ops : Array Oper) (w : World) (hs : List Hid) (Q : Act → Prop) : Nat → List Oper → Act → Prop
  | _, [], a => Q a
  | k, o :: rest, a =>
    match hidAt hs k with
    | some h => Region.wanted o (yielded ops a.tmps) = true ∧ HOut P ops w hs o a h.R ∧ wpHid P ops w hs Q (k + 1) rest (a.put o.dst undef)
    | none =>
      if Region.wanted o (yielded ops a.tmps) then ∃ v, HOut P ops w hs o a (fun x _ => x = v) ∧ wpHid P ops w hs Q (k + 1) rest (a.put o.dst v)
      else wpHid P ops w hs Q (k + 1) rest (a.put o.dst undef)
theorem wpHid_nil {Q : Act → Prop} {k : Nat} {a : Act} (h : Q a) : wpHid P ops w hs Q k [] a := h
theorem wpHid_hid {Q : Act → Prop} {k : Nat} {a : Act} {o : Oper} {rest : List Oper} {h : Hid} (hk : hidAt hs k = some h) (hw : Region.wanted o (yielded ops a.tmps) = true) (h1 : HOut P ops w hs o a h.R)
    (h2 : wpHid P ops w hs Q (k + 1) rest (a.put o.dst undef)) : wpHid P ops w hs Q k (o :: rest) a := by
  unfold wpHid
  rw [hk]
  exact ⟨hw, h1, h2⟩
theorem wpHid_next {Q : Act → Prop} {k : Nat} {a : Act} {o : Oper} {rest : List Oper} (hk : hidAt hs k = none) (hw : Region.wanted o (yielded ops a.tmps) = true)
    (h : ∃ v, HOut P ops w hs o a (fun x _ => x = v) ∧ wpHid P ops w hs Q (k + 1) rest (a.put o.dst v)) : wpHid P ops w hs Q k (o :: rest) a := by
  unfold wpHid
  rw [hk]
  simp only [hw, if_true]
  exact h
theorem wpHid_skip {Q : Act → Prop} {k : Nat} {a : Act} {o : Oper} {rest : List Oper} (hk : hidAt hs k = none) (hw : Region.wanted o (yielded ops a.tmps) = false)
    (hn : wpHid P ops w hs Q (k + 1) rest (a.put o.dst undef)) : wpHid P ops w hs Q k (o :: rest) a := by
  unfold wpHid
  rw [hk]
  simp only [hw, Bool.false_eq_true, if_false]
  exact hn
theorem wp_put {o : Oper} {a : Act} {u : Value} {d : Option Tmp} {w1 : World} {K : Act → World → Prop} (hs : ∀ cs b, o.op ≠ .select cs b) (h1 : ∀ x, d = some x → x ∉ o.looksAt ops) (h2 : ∀ x, d = some x → o.dst ≠ some x)
    (h3 : o.wp P a w1 (fun a' w'' => K (a'.put d u) w'') NoWay) : o.wp P (a.put d u) w1 K NoWay := by
  unfold Oper.wp at h3 ⊢
  rw [execOp_put o hs a d u h1]
  generalize (execOp a.eval o).run P w1 = r at *
  have hp : ∀ y, (a.put d u).put o.dst y = (a.put o.dst y).put d u := fun y => Act.put_comm a u y h2
  cases r with
  | ok nx w' =>
    cases nx <;> simp only [Oper.upon] at h3 ⊢
    case value y => rw [hp]; exact h3
    case skip => rw [hp]; exact h3
    case enter f args =>
      refine h3.mono (fun e w'' he => ?_)
      cases e
      · dsimp only at he ⊢; rw [hp]; exact he
      · exact he
      · exact he
    case row r args =>
      refine h3.mono (fun y w'' he => ?_)
      rw [hp]; exact he
    case defer dd =>
      have e1 : ({ tmps := (a.put d u).tmps, defers := dd :: (a.put d u).defers } : Act).put o.dst undef = (({ tmps := a.tmps, defers := dd :: a.defers } : Act).put o.dst undef).put d u := by
        rw [← Act.put_comm _ u undef h2]
        congr 1
        cases d <;> rfl
      rw [e1]
      exact h3
  | halt hh w' => cases hh <;> simp only [Oper.upon] at h3 ⊢ <;> exact h3
theorem put_back (a : Act) (d : Tmp) (u : Value) : (a.put (some d) u).put (some d) (a.tmps.getD d undef) = a := by
  unfold Act.put
  cases a with
  | mk ts ds =>
    simp only [Array.setIfInBounds_setIfInBounds, Act.mk.injEq, and_true]
    apply Array.ext
    · simp
    · intro i h4 h5
      rw [Array.getElem_setIfInBounds]
      split
      · rename_i e; subst e; simp at h4; simp [Array.getD, h4]
      · rfl
/-- Another slot makes no difference. -/
theorem HOut.put {o : Oper} {a : Act} {V : Value → World → Prop} {u : Value} {d : Option Tmp} (hsel : ∀ cs b, o.op ≠ .select cs b) (h1 : ∀ x, d = some x → x ∉ o.looksAt ops) (h2 : ∀ x, d = some x → o.dst ≠ some x) (h : HOut P ops w hs o a V) : HOut P ops w hs o (a.put d u) V := by
  intro X x hx K hK
  cases d with
  | none => exact h X x hx K hK
  | some d =>
    by_cases hd : d ∈ hs.map (·.d)
    · rw [fill_put_in hd] at hK ⊢
      exact h X x hx K hK
    · have hd' : ∀ y, some d = some y → y ∉ hs.map (·.d) := fun y e => by cases e; exact hd
      rw [fill_put_out hd'] at hK ⊢
      refine wp_put hsel h1 h2 (h X x hx _ (fun y w'' hb hv => ?_))
      rw [← Act.put_comm _ u y h2]
      exact hK y w'' hb hv
theorem HOut.unput {o : Oper} {a : Act} {V : Value → World → Prop} {u : Value} {d : Option Tmp} (hsel : ∀ cs b, o.op ≠ .select cs b) (h1 : ∀ x, d = some x → x ∉ o.looksAt ops) (h2 : ∀ x, d = some x → o.dst ≠ some x) (h : HOut P ops w hs o (a.put d u) V) : HOut P ops w hs o a V := by
  cases d with
  | none => exact h
  | some d =>
    have h3 := HOut.put (u := a.tmps.getD d undef) hsel h1 h2 h
    rwa [put_back] at h3
def hOp (P : Program) (ops : Array Oper) (w : World) (hs : List Hid) (i : Nat) (K : Act → Prop) (a : Act) : Prop :=
  match ops[i]? with
  | none => K a
  | some o =>
    match hidAt hs i with
    | some h => Region.wanted o (yielded ops a.tmps) = true ∧ HOut P ops w hs o a h.R ∧ K (a.put o.dst undef)
    | none => if Region.wanted o (yielded ops a.tmps) then ∃ v, HOut P ops w hs o a (fun x _ => x = v) ∧ K (a.put o.dst v) else K (a.put o.dst undef)
/-- what the operation leaves in the frame of the text's walk -/
def YieldsH (P : Program) (ops : Array Oper) (w : World) (hs : List Hid) (i : Nat) (o : Oper) (v : Value) (a : Act) : Prop :=
  (∃ h, hidAt hs i = some h ∧ v = undef ∧ Region.wanted o (yielded ops a.tmps) = true ∧ HOut P ops w hs o a h.R) ∨
  (hidAt hs i = none ∧ Region.wanted o (yielded ops a.tmps) = true ∧ HOut P ops w hs o a (fun x _ => x = v)) ∨
  (hidAt hs i = none ∧ Region.wanted o (yielded ops a.tmps) = false ∧ v = undef)
theorem hOp_iff {i : Nat} {o : Oper} {a : Act} {K : Act → Prop} (hi : ops[i]? = some o) : hOp P ops w hs i K a ↔ ∃ v, YieldsH P ops w hs i o v a ∧ K (a.put o.dst v) := by
  unfold hOp YieldsH
  simp only [hi]
  cases hh : hidAt hs i with
  | some h =>
    simp only [reduceCtorEq, false_and, or_false, Option.some.injEq]
    constructor
    · rintro ⟨h0, h1, h2⟩
      exact ⟨undef, ⟨h, rfl, rfl, h0, h1⟩, h2⟩
    · rintro ⟨v, ⟨h', rfl, rfl, h0, h1⟩, h2⟩
      exact ⟨h0, h1, h2⟩
  | none =>
    simp only [reduceCtorEq, false_and, exists_false, false_or, true_and]
    by_cases hw : Region.wanted o (yielded ops a.tmps) = true
    · simp [hw]
    · simp [hw]
theorem hOp_mono {i : Nat} {a : Act} {K K' : Act → Prop} (h : ∀ a, K a → K' a) (hh : hOp P ops w hs i K a) : hOp P ops w hs i K' a := by
  cases ho : ops[i]? with
  | none => unfold hOp at *; simp only [ho] at hh ⊢; exact h _ hh
  | some o =>
    rw [hOp_iff ho] at *
    obtain ⟨v, h1, h2⟩ := hh
    exact ⟨v, h1, h _ h2⟩
theorem YieldsH.put {i : Nat} {o : Oper} {v u : Value} {a : Act} {d : Option Tmp} (hsel : ∀ cs b, o.op ≠ .select cs b) (h1 : ∀ x, d = some x → x ∉ o.looksAt ops) (h2 : ∀ x, d = some x → o.dst ≠ some x)
    (hy : YieldsH P ops w hs i o v a) : YieldsH P ops w hs i o v (a.put d u) := by
  unfold YieldsH at *
  rw [wanted_put o a d u h1]
  rcases hy with ⟨h, e, hv, hw, hh⟩ | ⟨e, hw, hv⟩ | hy
  · exact .inl ⟨h, e, hv, hw, hh.put hsel h1 h2⟩
  · exact .inr (.inl ⟨e, hw, hv.put hsel h1 h2⟩)
  · exact .inr (.inr hy)
theorem YieldsH.unput {i : Nat} {o : Oper} {v u : Value} {a : Act} {d : Option Tmp} (hsel : ∀ cs b, o.op ≠ .select cs b) (h1 : ∀ x, d = some x → x ∉ o.looksAt ops) (h2 : ∀ x, d = some x → o.dst ≠ some x)
    (hy : YieldsH P ops w hs i o v (a.put d u)) : YieldsH P ops w hs i o v a := by
  unfold YieldsH at *
  rw [wanted_put o a d u h1] at hy
  rcases hy with ⟨h, e, hv, hw, hh⟩ | ⟨e, hw, hv⟩ | hy
  · exact .inl ⟨h, e, hv, hw, hh.unput hsel h1 h2⟩
  · exact .inr (.inl ⟨e, hw, hv.unput hsel h1 h2⟩)
  · exact .inr (.inr hy)
theorem hOp_put {i j : Nat} {oi oj : Oper} {v : Value} (hj : ops[j]? = some oj) (hap : oi.apart ops oj = true)
    (hsi : ∀ cs b, oi.op ≠ .select cs b) (hsj : ∀ cs b, oj.op ≠ .select cs b) {K : Act → Prop} {a : Act}
    (hy : YieldsH P ops w hs i oi v a) (h : hOp P ops w hs j K (a.put oi.dst v)) :
    hOp P ops w hs j (fun a' => YieldsH P ops w hs i oi v a' ∧ K (a'.put oi.dst v)) a := by
  obtain ⟨h1, h2, h3⟩ := Oper.apart_spec hap
  have h2' : ∀ x, oj.dst = some x → oi.dst ≠ some x := fun x e e' => h2 x e' e
  rw [hOp_iff hj] at *
  obtain ⟨u, hu, hn⟩ := h
  exact ⟨u, hu.unput hsj h1 h2, hy.put hsi h3 h2', by rw [← Act.put_comm a v u h2]; exact hn⟩
def wpAnyH (P : Program) (md : Region.Mode) (ops : Array Oper) (w : World) (hs : List Hid) (n : Nat) (L : Array Bool → Act → Prop) : Nat → Array Bool → Act → Prop
  | 0, listed, a => L listed a
  | f + 1, listed, a =>
    Region.ready md ops listed ≠ [] ∧ ∀ i ∈ Region.ready md ops listed, i < n ∧ hOp P ops w hs i (wpAnyH P md ops w hs n L f (listed.setIfInBounds i true)) a
theorem wpAnyH_first {n i : Nat} {oi : Oper} {v : Value} {L : Array Bool → Act → Prop} (hi : ops[i]? = some oi) (hsel : ∀ (j : Nat) (o : Oper) cs b, ops[j]? = some o → o.op ≠ .select cs b)
    (hsk : Region.sinkB md ops n = true) (hc : Region.chainB md ops n = true) (hn : n < ops.size) (hin : i < n)
    (hdone : ∀ listed a, L listed a → ∀ j ∈ Region.ready md ops listed, n ≤ j) :
    ∀ (f : Nat) (listed : Array Bool) (a : Act), HeadInv md ops n listed →
      (∀ j oj, ops[j]? = some oj → j ≠ i → listed.getD j true = false → (∀ e ∈ oj.after, Region.binds md e = true → e.on ≠ i) → oi.apart ops oj = true) →
      i ∈ Region.ready md ops listed → YieldsH P ops w hs i oi v a →
      wpAnyH P md ops w hs n L f (listed.setIfInBounds i true) (a.put oi.dst v) → wpAnyH P md ops w hs n L (f + 1) listed a := by
  intro f
  induction f with
  | zero =>
    intro listed a inv _ hr hy H
    have hun := (mem_ready.1 hr).1
    refine ⟨fun h => (by rw [h] at hr; cases hr), fun j hj => ?_⟩
    have hjn : j < n := by
      rcases Nat.lt_or_ge j n with h | h
      · exact h
      · exact absurd hj (tail_waits hsk hc hn inv _ i rfl hin hun j h)
    refine ⟨hjn, ?_⟩
    by_cases hji : j = i
    · subst hji; exact (hOp_iff hi).2 ⟨_, hy, H⟩
    · have := hdone _ _ H j (ready_mono hj hji)
      omega
  | succ f ih =>
    intro listed a inv hfree hr hy H
    have hun := (mem_ready.1 hr).1
    refine ⟨fun h => (by rw [h] at hr; cases hr), fun j hj => ?_⟩
    have hjn : j < n := by
      rcases Nat.lt_or_ge j n with h | h
      · exact h
      · exact absurd hj (tail_waits hsk hc hn inv _ i rfl hin hun j h)
    refine ⟨hjn, ?_⟩
    by_cases hji : j = i
    · subst hji; exact (hOp_iff hi).2 ⟨_, hy, H⟩
    · have h1 := (H.2 j (ready_mono hj hji)).2
      obtain ⟨hjun, oj, hoj, hall⟩ := mem_ready.1 hj
      have hnot : ∀ e ∈ oj.after, Region.binds md e = true → e.on ≠ i := fun e he hb heq => by
        have h1 := hall e he hb
        rw [heq, getD_both hun] at h1
        cases h1
      have h2 := hOp_put hoj (hfree j oj hoj hji hjun hnot) (fun cs b => hsel i oi cs b hi) (fun cs b => hsel j oj cs b hoj) hy h1
      have hfree' : ∀ k ok, ops[k]? = some ok → k ≠ i → (listed.setIfInBounds j true).getD k true = false →
          (∀ e ∈ ok.after, Region.binds md e = true → e.on ≠ i) → oi.apart ops ok = true := fun k ok hk hki hun hno => by
        refine hfree k ok hk hki ?_ hno
        by_cases hjk : j = k
        · subst hjk; exact hjun
        · rw [getD_set_ne true hjk] at hun; exact hun
      refine hOp_mono (fun a' h3 => ih (listed.setIfInBounds j true) a' (inv.set hj hjn) hfree' (ready_mono hr (Ne.symm hji)) h3.1 ?_) h2
      rw [Array.setIfInBounds_comm _ _ hji]
      exact h3.2
theorem wpAnyH_lex {n g : Nat} {Lq : Act → Prop} (hsel : Region.noSelect ops = true) (hsk : Region.sinkB md ops n = true) (hc : Region.chainB md ops n = true) (hn : n < ops.size) :
    ∀ (l : List Oper) (k : Nat) (listed : Array Bool) (a : Act), (∀ j, j < l.length → l[j]? = ops[k + j]?) → k + l.length = n → HeadInv md ops n listed →
    Region.lexHead md ops g l.length k listed = true → wpHid P ops w hs Lq k l a →
    wpAnyH P md ops w hs n (fun listed' a' => HeadInv md ops n listed' ∧ Region.seqB md ops g n listed' = true ∧ Lq a') l.length listed a
  | [], k, listed, a, _, hk, inv, hB, h => by
    have : k = n := by simpa using hk
    subst this
    exact ⟨inv, by simpa [Region.lexHead] using hB, h⟩
  | o :: l, k, listed, a, hl, hk, inv, hB, h => by
    have h0 : ops[k]? = some o := by simpa using (hl 0 (by simp)).symm
    simp only [List.length_cons, Region.lexHead, Bool.and_eq_true] at hB
    obtain ⟨⟨hr, hf⟩, hB'⟩ := hB
    have hkn : k < n := by simp only [List.length_cons] at hk; omega
    have hr' : k ∈ Region.ready md ops listed := by simpa using hr
    have hst : hOp P ops w hs k (wpHid P ops w hs Lq (k + 1) l) a := by unfold hOp; simp only [h0]; unfold wpHid at h; exact h
    obtain ⟨v, hy, hK⟩ := (hOp_iff h0).1 hst
    exact wpAnyH_first h0 (Region.noSelect_spec hsel) hsk hc hn hkn (fun listed' a' hL => seqB_ready hL.2.1) l.length listed a inv (Region.free_spec h0 hf) hr' hy
      (wpAnyH_lex hsel hsk hc hn l (k + 1) _ _ (fun j hj => by have := hl (j + 1) (by simp; omega); simpa [Nat.add_assoc, Nat.add_comm 1 j] using this) (by simp only [List.length_cons] at hk; omega) (inv.set hr' hkn) hB' hK)


/-- What is true of the frame and the world on the way. -/
def OnH (w : World) (hs : List Hid) (listed : Array Bool) (a0 a : Act) (w1 : World) : Prop :=
  Below w.heap.size w w1 ∧ ∃ X, a = fill (hs.map (·.d)) X a0 ∧ ∀ h ∈ hs, listed.getD h.i false = true → h.R (X h.d) w1
/-- the slot of an operation's guard -/
def guardOf (ops : Array Oper) (o : Oper) : Option Tmp := o.guard.bind fun gw => (ops[gw.1]?).bind (·.dst)
theorem wanted_put_guard (o : Oper) (a : Act) (d : Tmp) (v : Value) (h : guardOf ops o ≠ some d) : Region.wanted o (yielded ops (a.put (some d) v).tmps) = Region.wanted o (yielded ops a.tmps) := by
  unfold Region.wanted
  cases hg : o.guard with
  | none => rfl
  | some gw =>
    obtain ⟨g, want⟩ := gw
    have hy : yielded ops (a.put (some d) v).tmps g = yielded ops a.tmps g := by
      unfold yielded
      cases ht : (ops[g]?).bind (·.dst) with
      | none => rfl
      | some t =>
        have hne : t ≠ d := fun e => h (by unfold guardOf; rw [hg]; simp [ht, e])
        have := put_tmps a d v t
        rw [if_neg hne] at this
        simp only [Option.bind_some, this]
    simp only [hy]
/-- what one looks at, and is left on the way, stands behind it -/
def hidOk (md : Region.Mode) (ops : Array Oper) (hs : List Hid) (j : Nat) (o : Oper) : Bool :=
  (hs.all fun h => !(o.looksAt ops).contains h.d || (guardOf ops o != some h.d && o.after.any fun e => Region.binds md e && e.on == h.i)) &&
  (match hs.find? fun h => h.i == j with
   | some h => o.dst == some h.d
   | none => hs.all fun h => o.dst != some h.d)
theorem step_hid {j : Nat} {oj : Oper} {K : Act → Prop} {K' : Act → World → Prop} {Q' : Exit → Act → World → Prop} {listed : Array Bool} {a0 a : Act} {w1 : World}
    (hst : ∀ h ∈ hs, ∀ x W W', Below W.heap.size W W' → h.R x W → h.R x W') (hnd : (hs.map (·.d)).Nodup) (hni : (hs.map (·.i)).Nodup)
    (hj : ops[j]? = some oj) (hok : hidOk md ops hs j oj = true) (hr : ∀ e ∈ oj.after, Region.binds md e = true → listed.getD e.on false = true)
    (hon : OnH w hs listed a0 a w1) (h : hOp P ops w hs j K a0)
    (hK : ∀ a0' a' w', OnH w hs (listed.setIfInBounds j true) a0' a' w' → K a0' → K' a' w') : wpOp P ops Q' j K' a w1 := by
  obtain ⟨hb, X, rfl, hX⟩ := hon
  unfold hidOk at hok
  simp only [Bool.and_eq_true, List.all_eq_true, Bool.or_eq_true, Bool.not_eq_true'] at hok
  obtain ⟨hlook, hdst⟩ := hok
  have hfacts : ∀ h ∈ hs, h.d ∈ oj.looksAt ops → h.R (X h.d) w1 := by
    intro h hm hl
    rcases hlook h hm with h1 | ⟨_, h1⟩
    · rw [List.contains_eq_mem] at h1
      exact absurd hl (by simpa using h1)
    · simp only [Array.any_eq_true, Bool.and_eq_true, beq_iff_eq] at h1
      obtain ⟨k, hk, h2, h3⟩ := h1
      exact hX h hm (h3 ▸ hr _ (Array.getElem_mem hk) h2)
  have hwt : Region.wanted oj (yielded ops (fill (hs.map (·.d)) X a0).tmps) = Region.wanted oj (yielded ops a0.tmps) := by
    have hno : ∀ d ∈ hs.map (·.d), guardOf ops oj ≠ some d := by
      intro d hd hl
      obtain ⟨h, hm, rfl⟩ := List.mem_map.1 hd
      rcases hlook h hm with h1 | ⟨h1, _⟩
      · rw [List.contains_eq_mem] at h1
        have : h.d ∈ oj.looksAt ops := by
          unfold guardOf at hl
          unfold Oper.looksAt
          cases hg : oj.guard with
          | none => rw [hg] at hl; simp at hl
          | some gw =>
            rw [hg] at hl
            simp only [Option.bind_some] at hl
            simp [hl]
        exact absurd this (by simpa using h1)
      · simp [hl] at h1
    have : ∀ (D : List Tmp) (b : Act), (∀ d ∈ D, guardOf ops oj ≠ some d) → Region.wanted oj (yielded ops (fill D X b).tmps) = Region.wanted oj (yielded ops b.tmps) := by
      intro D
      induction D with
      | nil => intro b _; rfl
      | cons d D ih =>
        intro b hD
        rw [fill, ih _ (fun x hx => hD x (List.mem_cons_of_mem _ hx))]
        exact wanted_put_guard oj b d _ (hD _ List.mem_cons_self)
    exact this _ _ hno
  have hget : ∀ i, (listed.setIfInBounds j true).getD i false = true → i = j ∨ listed.getD i false = true := by
    intro i hi
    by_cases e : j = i
    · exact .inl e.symm
    · rw [getD_set_ne false e] at hi; exact .inr hi
  rw [hOp_iff hj] at h
  obtain ⟨v, hy, hn⟩ := h
  unfold wpOp
  simp only [hj]
  rw [hwt]
  rcases hy with ⟨h, e, rfl, hw, hh⟩ | ⟨e, hw, hv⟩ | ⟨e, hw, rfl⟩
  · obtain ⟨hm, hi⟩ := hidAt_mem e
    unfold hidAt at e
    rw [e] at hdst
    simp only [beq_iff_eq] at hdst
    simp only [hw, if_true]
    left
    have hmd : h.d ∈ hs.map (·.d) := List.mem_map.2 ⟨h, hm, rfl⟩
    refine wp_noWay (hh X ⟨w1, hb⟩ hfacts K' (fun x w'' hb' hx => hK (a0.put oj.dst undef) _ w'' ⟨hb.trans (hb'.mono hb.size), upd X h.d x, ?_, fun h' hm' hl' => ?_⟩ hn))
    · rw [hdst, put_fill_in hmd, fill_put_in hmd]
    · by_cases ed : h'.d = h.d
      · have := inj_of_nodup hnd hm' hm ed
        subst this
        simpa [upd] using hx
      · have ei : h'.i ≠ j := fun ei => ed (by rw [inj_of_nodup hni hm' hm (ei.trans hi.symm)])
        have := hX h' hm' ((hget _ hl').resolve_left ei)
        simp only [upd, ed, if_false]
        exact hst h' hm' _ _ _ hb' this
  · unfold hidAt at e
    rw [e] at hdst
    simp only [List.all_eq_true, bne_iff_ne, ne_eq] at hdst
    have hout : ∀ x, oj.dst = some x → x ∉ hs.map (·.d) := fun x ex hx => by
      obtain ⟨h, hm, rfl⟩ := List.mem_map.1 hx
      exact hdst h hm ex
    simp only [hw, if_true]
    left
    refine wp_noWay (hv X ⟨w1, hb⟩ hfacts K' (fun x w'' hb' hx => hK (a0.put oj.dst v) _ w'' ⟨hb.trans (hb'.mono hb.size), X, ?_, fun h' hm' hl' => ?_⟩ hn))
    · rw [hx, fill_put_out hout]
    · have ei : h'.i ≠ j := fun ei => by
        have := List.find?_eq_none.1 e h' hm'
        simp [ei] at this
      exact hst h' hm' _ _ _ hb' (hX h' hm' ((hget _ hl').resolve_left ei))
  · unfold hidAt at e
    rw [e] at hdst
    simp only [List.all_eq_true, bne_iff_ne, ne_eq] at hdst
    have hout : ∀ x, oj.dst = some x → x ∉ hs.map (·.d) := fun x ex hx => by
      obtain ⟨h, hm, rfl⟩ := List.mem_map.1 hx
      exact hdst h hm ex
    simp only [hw, if_false, Bool.false_eq_true]
    refine hK (a0.put oj.dst undef) _ w1 ⟨hb, X, (fill_put_out hout).symm, fun h' hm' hl' => ?_⟩ hn
    have ei : h'.i ≠ j := fun ei => by
      have := List.find?_eq_none.1 e h' hm'
      simp [ei] at this
    exact hX h' hm' ((hget _ hl').resolve_left ei)

theorem wpAny_of_H {n g : Nat} {L : Array Bool → Act → Prop} {Q' : Exit → Act → World → Prop}
    (hst : ∀ h ∈ hs, ∀ x W W', Below W.heap.size W W' → h.R x W → h.R x W') (hnd : (hs.map (·.d)).Nodup) (hni : (hs.map (·.i)).Nodup)
    (hok : ∀ (j : Nat) (oj : Oper), ops[j]? = some oj → j < n → hidOk md ops hs j oj = true)
    (hL : ∀ listed a0 a w1, OnH w hs listed a0 a w1 → L listed a0 → wpAny P md ops Q' g listed a w1) :
    ∀ (f : Nat) (listed : Array Bool) (a0 a : Act) (w1 : World), listed.size = ops.size → OnH w hs listed a0 a w1 → wpAnyH P md ops w hs n L f listed a0 → wpAny P md ops Q' (f + g) listed a w1
  | 0, listed, a0, a, w1, _, hon, h => by
    rw [Nat.zero_add]
    exact hL _ _ _ _ hon h
  | f + 1, listed, a0, a, w1, hls, hon, h => by
    rw [show f + 1 + g = (f + g) + 1 by omega]
    refine ⟨fun hh => absurd hh h.1, fun i hi => ?_⟩
    obtain ⟨hin, hc⟩ := h.2 i hi
    obtain ⟨hun, oi, hoi, hall⟩ := mem_ready.1 hi
    exact step_hid hst hnd hni hoi (hok i oi hoi hin) hall hon hc
      (fun a0' a' w' ho' hh' => wpAny_of_H hst hnd hni hok hL f _ a0' a' w' (by simpa using hls) ho' hh')

/-- A region that draws its order: its first n operations read or call or lay new variables; of some of them only so much is known as R says; the rest stands behind them. -/
theorem wp_region_hid {id : Nat} {Q : Exit → Act → World → Prop} {a : Act} {l : List Oper} (n : Nat) (hs : List Hid) (hm : P.follows .mixedOrders = true)
    (hB : (Region.lexTailB .any l.toArray n && (List.range n).all fun j => match l[j]? with | some oj => hidOk .any l.toArray hs j oj | none => true) = true)
    (hnd : (hs.map (·.d)).Nodup) (hni : (hs.map (·.i)).Nodup) (hlt : (hs.all fun h => decide (h.i < n)) = true)
    (hst : ∀ h ∈ hs, ∀ x W W', Below W.heap.size W W' → h.R x W → h.R x W')
    (h : wpHid P l.toArray w hs (fun a' => ∀ (X : Tmp → Value) (W : World), Below w.heap.size w W → (∀ h ∈ hs, h.R (X h.d) W) → wpList P l.toArray Q (l.drop n) (fill (hs.map (·.d)) X a') W) 0 (l.take n) a) :
    (Code.region id l.toArray true).wp P Q a w := by
  simp only [Bool.and_eq_true] at hB
  obtain ⟨hB, hapB⟩ := hB
  simp only [Region.lexTailB, Bool.and_eq_true, decide_eq_true_eq] at hB
  obtain ⟨⟨⟨⟨hsel, hn⟩, hsk⟩, hc⟩, hlex⟩ := hB
  have hn' : n < l.length := by simpa using hn
  have htl : (l.take n).length = n := by simp; omega
  have hdl : (l.drop n).length = l.toArray.size - n := by simp
  have inv0 : HeadInv .any l.toArray n (Array.replicate l.toArray.size false) :=
    ⟨by simp, fun j oj _ hl => (by rw [getD_replicate_false] at hl; cases hl), fun t _ ht => getD_in (by simpa using ht) (getD_replicate_false _ _)⟩
  have hok : ∀ (j : Nat) (oj : Oper), l.toArray[j]? = some oj → j < n → hidOk .any l.toArray hs j oj = true := by
    intro j oj hj hjn
    have hh := List.all_eq_true.1 hapB j (List.mem_range.2 hjn)
    have hj' : l[j]? = some oj := by simpa using hj
    simpa only [hj'] using hh
  have H := wpAnyH_lex (md := .any) (g := l.toArray.size - n) hsel hsk hc hn (l.take n) 0 _ a (fun j hj => by
    have hj' : j < n := by rw [htl] at hj; exact hj
    simp [hj']) (by simpa using htl) inv0 (by rw [htl]; exact hlex) h
  refine wp_region_any hm ?_
  have := wpAny_of_H (Q' := Q) (g := l.toArray.size - n) hst hnd hni hok (fun listed a0 a' w' hon hL => by
      obtain ⟨hb, X, rfl, hX⟩ := hon
      have hall : ∀ h ∈ hs, h.R (X h.d) w' := by
        intro h hm
        refine hX h hm ?_
        have hin : h.i < n := by simpa using List.all_eq_true.1 hlt h hm
        obtain ⟨inv, hq, _⟩ := hL
        obtain ⟨m, hm'⟩ : ∃ m, l.toArray.size - n = m + 1 := ⟨l.toArray.size - n - 1, by omega⟩
        rw [hm'] at hq
        simp only [Region.seqB, Bool.and_eq_true, decide_eq_true_eq] at hq
        have hlt : h.i < listed.size := by rw [inv.size]; omega
        cases hc0 : listed.getD h.i true with
        | true =>
          simp [hlt] at hc0 ⊢
          exact hc0
        | false =>
          exact absurd (by rw [hq.1]; simp) (tail_waits hsk hc hn inv _ h.i rfl hin hc0 n (Nat.le_refl _))
      have := wpAny_of_seq (md := .any) (Q' := Q) (l.drop n) n listed _ w' (fun j => by simp [List.getElem?_drop]) (by rw [hdl]; exact hL.2.1) (hL.2.2 X w' hb hall)
      rwa [hdl] at this) _ _ a a _ (by simp) ⟨(Below.refl w.heap.size w).drew, _, (fill_self _ a).symm, fun h _ hl => (by rw [getD_replicate_false] at hl; cases hl)⟩ H
  rw [htl, show n + (l.toArray.size - n) = l.toArray.size by omega] at this
  exact this
end
end Go.Proofs.Ytgegmlhpdpdnfaa
