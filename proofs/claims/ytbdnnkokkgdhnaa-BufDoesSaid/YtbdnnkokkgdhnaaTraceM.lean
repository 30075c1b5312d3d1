/- What a recorder has: events, in parts, and their words: plain facts. -/
import Derived.Test.YtbdnnkokkgdhnaaMath
namespace Go.Proofs.Ytbdnnkokkgdhnaa
open Go.RowKit

abbrev Ev := Int × Int
def EvOk (e : Ev) : Prop := (0 ≤ e.1 ∧ e.1 ≤ 3) ∧ I64 e.2
/-- An event's words. -/
def enc (e : Ev) : List Int :=
  if 0 ≤ e.2 ∧ e.2 < 268435456 then [e.2 * 4 + e.1] else [2147483648 + e.1, e.2 / 4294967296 % 4294967296, e.2 % 4294967296]
def encs (l : List Ev) : List Int := l.flatMap enc
theorem enc_inj {e f : Ev} {r s : List Int} (he : EvOk e) (hf : EvOk f) (h : enc e ++ r = enc f ++ s) : e = f ∧ r = s := by
  obtain ⟨k, n⟩ := e
  obtain ⟨l, m⟩ := f
  obtain ⟨h1, h2⟩ := he
  obtain ⟨h3, h4⟩ := hf
  unfold I64 at h2 h4
  unfold enc at h
  simp only at h h1 h2 h3 h4
  split at h <;> split at h <;> simp only [List.cons_append, List.nil_append, List.cons.injEq] at h
  · obtain ⟨h, hr⟩ := h
    have h5 : k = l := by omega
    have h6 : n = m := by omega
    subst h5 h6
    exact ⟨rfl, hr⟩
  · obtain ⟨h, hr⟩ := h; omega
  · obtain ⟨h, hr⟩ := h; omega
  · obtain ⟨h, h7, h8, hr⟩ := h
    have h5 : k = l := by omega
    have h6 : n = m := by omega
    subst h5 h6
    exact ⟨rfl, hr⟩
theorem enc_ne (e : Ev) : enc e ≠ [] := by unfold enc; split <;> simp
theorem enc_len (e : Ev) : (enc e).length = 1 ∨ (enc e).length = 3 := by unfold enc; split <;> simp
theorem encs_inj : ∀ {l m : List Ev}, (∀ e ∈ l, EvOk e) → (∀ e ∈ m, EvOk e) → encs l = encs m → l = m
  | [], [], _, _, _ => rfl
  | [], f :: m, _, _, h => by
    simp only [encs, List.flatMap_nil, List.flatMap_cons] at h
    exact absurd (List.append_eq_nil_iff.1 h.symm).1 (enc_ne f)
  | e :: l, [], _, _, h => by
    simp only [encs, List.flatMap_nil, List.flatMap_cons] at h
    exact absurd (List.append_eq_nil_iff.1 h).1 (enc_ne e)
  | e :: l, f :: m, he, hf, h => by
    simp only [encs, List.flatMap_cons] at h
    obtain ⟨h1, h2⟩ := enc_inj (he e (by simp)) (hf f (by simp)) h
    rw [h1, encs_inj (fun x hx => he x (by simp [hx])) (fun x hx => hf x (by simp [hx])) h2]
theorem encs_snoc (l : List Ev) (e : Ev) : encs (l ++ [e]) = encs l ++ enc e := by simp [encs]
theorem encs_append (l m : List Ev) : encs (l ++ m) = encs l ++ encs m := by simp [encs]
theorem enc_u32 {e : Ev} (he : EvOk e) : ∀ x ∈ enc e, 0 ≤ x ∧ x ≤ 4294967295 := by
  intro x hx
  obtain ⟨h1, h2⟩ := he
  unfold enc at hx
  split at hx <;> simp at hx
  · omega
  · rcases hx with h | h | h <;> omega

/-- The parts: each has events, and room for so many words. -/
abbrev Part := List Ev × Nat
abbrev St := List Part
def capOf (m : Nat) : Nat := 64 * 2 ^ min (2 * m) 10
theorem capOf_in (m : Nat) : 64 ≤ capOf m ∧ capOf m ≤ 65536 := by
  unfold capOf
  have h : ∀ k, k ≤ 10 → 1 ≤ 2 ^ k ∧ 2 ^ k ≤ 1024 := by decide
  have := h (min (2 * m) 10) (by omega)
  omega
def room (p : Part) : Bool := decide ((encs p.1).length + 3 ≤ p.2)
def addP (p : Part) (e : Ev) : Part := (p.1 ++ [e], p.2)
/-- One event more. -/
def addS (S : St) (e : Ev) : St :=
  if S.getLast?.any room then S.dropLast ++ [addP (S.getLast?.getD ([], 0)) e] else S ++ [([e], capOf S.length)]
def evs (S : St) : List Ev := S.flatMap (·.1)
theorem addS_room (I : St) (p : Part) (e : Ev) (h : room p = true) : addS (I ++ [p]) e = I ++ [addP p e] := by simp [addS, h]
theorem addS_full (I : St) (p : Part) (e : Ev) (h : room p = false) : addS (I ++ [p]) e = I ++ [p] ++ [([e], capOf (I.length + 1))] := by simp [addS, h]
theorem snoc_or {α : Type} (S : List α) : S = [] ∨ ∃ I p, S = I ++ [p] := by
  rcases List.eq_nil_or_concat S with h | ⟨I, p, h⟩
  · exact .inl h
  · exact .inr ⟨I, p, by simpa using h⟩
theorem evs_addS (S : St) (e : Ev) : evs (addS S e) = evs S ++ [e] := by
  rcases snoc_or S with rfl | ⟨I, p, rfl⟩
  · simp [addS, evs]
  · cases h : room p
    · rw [addS_full I p e h]; simp [evs]
    · rw [addS_room I p e h]; simp [evs, addP]
theorem addS_len (S : St) (e : Ev) : (addS S e).length ≤ S.length + 1 := by
  rcases snoc_or S with rfl | ⟨I, p, rfl⟩
  · simp [addS]
  · cases h : room p
    · rw [addS_full I p e h]; simp
    · rw [addS_room I p e h]; simp
/-- What may be of a part. -/
def PartOk (p : Part) : Prop := (∀ e ∈ p.1, EvOk e) ∧ (encs p.1).length ≤ p.2 ∧ p.2 ≤ 65536
theorem addS_ok {S : St} {e : Ev} (hS : ∀ p ∈ S, PartOk p) (he : EvOk e) : ∀ p ∈ addS S e, PartOk p := by
  have hl := enc_len e
  have h1 : ∀ m, PartOk ([e], capOf m) := fun m => ⟨by simpa using he, by have := capOf_in m; simp [encs]; omega, (capOf_in m).2⟩
  rcases snoc_or S with rfl | ⟨I, p, rfl⟩
  · intro q hq
    simp [addS] at hq
    subst hq
    exact h1 0
  · cases h : room p
    · rw [addS_full I p e h]
      intro q hq
      rcases List.mem_append.1 hq with hq | hq
      · exact hS q hq
      · simp at hq; subst hq; exact h1 _
    · rw [addS_room I p e h]
      intro q hq
      rcases List.mem_append.1 hq with hq | hq
      · exact hS q (by simp [hq])
      · simp at hq; subst hq
        obtain ⟨k1, k2, k3⟩ := hS p (by simp)
        refine ⟨fun x hx => ?_, ?_, k3⟩
        · rcases List.mem_append.1 hx with hx | hx
          · exact k1 x hx
          · simp at hx; subst hx; exact he
        · simp [room] at h
          show (encs (p.1 ++ [e])).length ≤ p.2
          rw [encs_snoc, List.length_append]
          omega
/-- The parts of so many events. -/
def pst (E : List Ev) : St := E.foldl addS []
theorem pst_snoc (E : List Ev) (e : Ev) : pst (E ++ [e]) = addS (pst E) e := by simp [pst]
theorem pst_nil : pst [] = [] := rfl
theorem snoc_ind {α : Type} {P : List α → Prop} (h0 : P []) (h1 : ∀ l x, P l → P (l ++ [x])) (l : List α) : P l := by
  have : ∀ l : List α, P l.reverse := fun l => by
    induction l with
    | nil => exact h0
    | cons x l ih => rw [List.reverse_cons]; exact h1 _ x ih
  simpa using this l.reverse
theorem evs_pst (E : List Ev) : evs (pst E) = E := by
  induction E using snoc_ind with
  | h0 => rfl
  | h1 l x ih => rw [pst_snoc, evs_addS, ih]
theorem pst_len (E : List Ev) : (pst E).length ≤ E.length := by
  induction E using snoc_ind with
  | h0 => simp [pst]
  | h1 l x ih => rw [pst_snoc]; have := addS_len (pst l) x; simp; omega
theorem pst_ok {E : List Ev} (h : ∀ e ∈ E, EvOk e) : ∀ p ∈ pst E, PartOk p := by
  induction E using snoc_ind with
  | h0 => intro p hp; simp [pst] at hp
  | h1 l x ih =>
    rw [pst_snoc]
    exact addS_ok (ih fun e he => h e (by simp [he])) (h x (by simp))
/-- The words, part by part. -/
def words (S : St) : List (List Int) := S.map fun p => encs p.1
theorem words_inj : ∀ {S R : St}, (∀ p ∈ S, PartOk p) → (∀ p ∈ R, PartOk p) → words S = words R → evs S = evs R
  | [], [], _, _, _ => rfl
  | [], _ :: _, _, _, h => by simp [words] at h
  | _ :: _, [], _, _, h => by simp [words] at h
  | p :: S, q :: R, hS, hR, h => by
    simp only [words, List.map_cons, List.cons.injEq] at h
    have h1 := encs_inj (hS p (by simp)).1 (hR q (by simp)).1 h.1
    have h2 := words_inj (fun x hx => hS x (by simp [hx])) (fun x hx => hR x (by simp [hx])) h.2
    simp only [evs, List.flatMap_cons] at h2 ⊢
    rw [h1, h2]
theorem same_words {E F : List Ev} (hE : ∀ e ∈ E, EvOk e) (hF : ∀ e ∈ F, EvOk e) : words (pst E) = words (pst F) ↔ E = F :=
  ⟨fun h => by have := words_inj (pst_ok hE) (pst_ok hF) h; rwa [evs_pst, evs_pst] at this, fun h => by rw [h]⟩
/-- How many of a kind. -/
def cnt (E : List Ev) (k : Int) : Nat := E.countP fun e => decide (e.1 = k)
theorem cnt_snoc (E : List Ev) (e : Ev) (k : Int) : cnt (E ++ [e]) k = cnt E k + if e.1 = k then 1 else 0 := by
  simp [cnt, List.countP_append, List.countP_cons]
theorem cnt_le (E : List Ev) (k : Int) : cnt E k ≤ E.length := List.countP_le_length
end Go.Proofs.Ytbdnnkokkgdhnaa
