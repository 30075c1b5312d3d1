/- A region that draws its order, inside the widest fence: its first operations leave one value each in every world that meets C; the rest goes in the text's order, and may hand on to a round. -/
import Derived.Test.YtgegmlhpdpdnfaaHeld
import Derived.Test.YtgegmlhpdpdnfaaRound
namespace Go.Proofs.Ytgegmlhpdpdnfaa
open Go.RowKit
def Hid2 (p : Prop) : Prop := p
theorem Hid2.out {p : Prop} (h : Hid2 p) : p := h
theorem hid2 {p : Prop} (h : p) : Hid2 p := h
theorem heap_lt {w : World} {g : Nat} {o : Obj} (h : w.heap[g]? = some o) : g < w.heap.size := by
  rcases Nat.lt_or_ge g w.heap.size with h1 | h1
  · exact h1
  · rw [Array.getElem?_eq_none h1] at h; cases h
section
variable {P : Program} {ops : Array Oper} {Q : Exit → Act → World → Prop} {md : Region.Mode} {n : Nat} {C : World → Prop}
theorem uponW_of {o : Oper} {a : Act} {K : Act → World → Prop} {r : Result Next} (h : o.upon P a K (fun _ _ _ => False) r) : o.uponIn Fence.wide n P a K Q r := by
  cases r with
  | ok x w' =>
    cases x with
    | enter f args => exact ⟨(fun e => nomatch e), (callsIn_wide.2 (h : Calls P f args w' _)).mono (fun e w'' he => by
        cases e with
        | returned v => exact he
        | panicked c => exact (he : False).elim
        | outgrown => exact absurd he (fun ⟨_, _, h⟩ => h))⟩
    | row f args => exact ⟨(fun e => nomatch e), fun c cs _ => let ⟨v, w'', r, s⟩ := (h : Rows P f args w' _) c cs; ⟨v, w'', r, stepsIn_wide.2 s⟩⟩
    | value v => exact h
    | skip => exact h
    | defer d => exact h
    | _ => exact (h : False).elim
  | halt x w' =>
    cases x with
    | panic v => exact (h : False).elim
    | _ => exact (h : False).elim
theorem wpOpW_of {i : Nat} {K : Act → World → Prop} {a : Act} {w : World} (h : wpOp P ops (fun _ _ _ => False) i K a w) : wpOpIn Fence.wide n P ops Q i K a w := by
  unfold wpOp at h
  unfold wpOpIn
  split
  · rename_i ho; simp only [ho] at h; exact h
  · rename_i o ho
    simp only [ho] at h
    split
    · rename_i hw
      simp only [hw, if_true] at h
      rcases h with h | ⟨_, _, _, h⟩
      · exact ⟨fun _ _ => trivial, by rw [Fence.wide_round, Oper.semAt_none]; exact uponW_of h⟩
      · exact h.elim
    · rename_i hw
      simp only [hw] at h
      exact ⟨fun _ _ => trivial, h⟩
theorem wpAnyW_of_T {k g : Nat} {L : Array Bool → Act → Prop} (hL : ∀ listed a w, C w → L listed a → wpAnyIn Fence.wide n P md ops Q g listed a w) :
    ∀ (f : Nat) (listed : Array Bool) (a : Act) (w : World), C w → wpAnyT P md ops C k L f listed a → wpAnyIn Fence.wide n P md ops Q (f + g) listed a w
  | 0, listed, a, w, hw, h => by rw [Nat.zero_add]; exact hL _ _ _ hw h
  | f + 1, listed, a, w, hw, h => by
    rw [show f + 1 + g = (f + g) + 1 by omega]
    exact ⟨fun h0 => absurd h0 h.1, fun i hi => wpOpW_of (wpOp_of_qOp hw (fun a' w' hw' h' => wpAnyW_of_T hL f _ a' w' hw' h') (h.2 i hi).2)⟩
theorem wpAnyW_of_seq {F : Fence} : ∀ (l : List Oper) (k : Nat) (listed : Array Bool) (a : Act) (w : World), (∀ j, l[j]? = ops[k + j]?) →
    Region.seqB md ops l.length k listed = true → wpListIn F n P ops Q l a w → wpAnyIn F n P md ops Q l.length listed a w
  | [], _, _, _, _, _, hB, h => ⟨by simpa [Region.seqB] using hB, h⟩
  | o :: l, k, listed, a, w, hl, hB, h => by
    have h0 : ops[k]? = some o := by simpa using (hl 0).symm
    simp only [List.length_cons, Region.seqB, Bool.and_eq_true, decide_eq_true_eq] at hB
    refine ⟨fun h1 => (by rw [hB.1] at h1; cases h1), fun i hi => ?_⟩
    rw [hB.1] at hi
    have hik : i = k := by simpa using hi
    subst hik
    have hw : wpOpIn F n P ops Q i (wpListIn F n P ops Q l) a w := by unfold wpOpIn; simp only [h0]; exact h
    exact wpOpIn_mono (fun a' w' h' => wpAnyW_of_seq l (i + 1) _ a' w' (fun j => by have := hl (j + 1); simpa [Nat.add_assoc, Nat.add_comm 1 j] using this) hB.2 h') hw
theorem wpIn_region_wide_tail {id : Nat} {a : Act} {w : World} {l : List Oper} (k : Nat) (hm : P.follows .mixedOrders = true) (hB : Region.lexTailB .any l.toArray k = true)
    (hC : C w.drew)
    (h : wpQuiet P l.toArray C (fun a' => ∀ w', C w' → wpListIn Fence.wide n P l.toArray Q (l.drop k) a' w') (l.take k) a) : (Code.region id l.toArray true).wpIn Fence.wide n P Q a w := by
  simp only [Region.lexTailB, Bool.and_eq_true, decide_eq_true_eq] at hB
  obtain ⟨⟨⟨⟨hsel, hn⟩, hs⟩, hc⟩, hlex⟩ := hB
  have hn' : k < l.length := by simpa using hn
  have htl : (l.take k).length = k := by simp; omega
  have hdl : (l.drop k).length = l.toArray.size - k := by simp
  have inv0 : HeadInv .any l.toArray k (Array.replicate l.toArray.size false) :=
    ⟨by simp, fun j oj _ hl => (by rw [getD_replicate_false] at hl; cases hl), fun t _ ht => getD_in (by simpa using ht) (getD_replicate_false _ _)⟩
  have H := wpAnyT_lex (md := .any) (g := l.toArray.size - k) hsel hs hc hn (l.take k) 0 _ a (fun j hj => by
    have hj' : j < k := by rw [htl] at hj; exact hj
    simp [hj']) (by simpa using htl) inv0 (by rw [htl]; exact hlex) h
  refine wpIn_region_any hm ?_
  have := wpAnyW_of_T (Q := Q) (n := n) (g := l.toArray.size - k) (fun listed a' w' hw' hL => by
    have := wpAnyW_of_seq (md := .any) (F := Fence.wide) (Q := Q) (n := n) (l.drop k) k listed a' w' (fun j => by simp [List.getElem?_drop]) (by rw [hdl]; exact hL.1) (hL.2 w' hw')
    rwa [hdl] at this) _ _ _ _ hC H
  rw [htl, show k + (l.toArray.size - k) = l.toArray.size by omega] at this
  exact this
/-- The same, where the first operations only read. -/
theorem wpIn_region_still_tail {id : Nat} {a : Act} {w : World} {l : List Oper} (k : Nat) (hm : P.follows .mixedOrders = true) (hB : Region.lexTailB .any l.toArray k = true)
    (h : wpQuiet P l.toArray (· = w.drew) (fun a' => wpListIn Fence.wide n P l.toArray Q (l.drop k) a' w.drew) (l.take k) a) : (Code.region id l.toArray true).wpIn Fence.wide n P Q a w :=
  wpIn_region_wide_tail (C := (· = w.drew)) k hm hB rfl (by
    have : (fun a' => ∀ w', w' = w.drew → wpListIn Fence.wide n P l.toArray Q (l.drop k) a' w') = (fun a' => wpListIn Fence.wide n P l.toArray Q (l.drop k) a' w.drew) := by
      funext a'
      exact propext ⟨fun h => h _ rfl, fun h w' e => e ▸ h⟩
    rw [this]
    exact h)
end
end Go.Proofs.Ytgegmlhpdpdnfaa
