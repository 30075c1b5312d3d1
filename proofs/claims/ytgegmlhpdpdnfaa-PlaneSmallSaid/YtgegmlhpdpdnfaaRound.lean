/- A region inside a round of a range over a function: what the plain laws say of its orders holds there too. -/
import Derived.Test.YtgegmlhpdpdnfaaFlow
import Derived.OrdersIn
import Derived.RangeFuncCalls
namespace Go.Proofs.Ytgegmlhpdpdnfaa
open Go.RowKit
section
variable {P : Program} {ops : Array Oper} {Q : Exit → Act → World → Prop} {md : Region.Mode} {l n : Nat}
theorem rowsIn_of {n : Nat} {row : String} {args : Array Value} {w : World} {R : Value → World → Prop} (h : Rows P row args w R) : RowsIn (Fence.wide.inRound l) n P row args w R :=
  fun c cs _ => let ⟨v, w', r, s⟩ := h c cs; ⟨v, w', r, stepsIn_wide.2 s⟩
theorem callsIn_of {n : Nat} {f : FuncId} {args : Array Value} {w : World} {R : Ending → World → Prop} (h : Calls P f args w R) : CallsIn (Fence.wide.inRound l) n P f args w R := CallsIn.inRound l (callsIn_wide.2 h)
theorem uponIn_of {o : Oper} {a : Act} {K : Act → World → Prop} {r : Result Next} (h : o.upon P a K Q r) : o.uponIn (Fence.wide.inRound l) n P a K Q r := by
  cases r with
  | ok x w' =>
    cases x with
    | enter f args => exact ⟨(fun e => nomatch e), callsIn_of h⟩
    | row f args => exact ⟨(fun e => nomatch e), rowsIn_of h⟩
    | value v => exact h
    | skip => exact h
    | defer d => exact h
    | _ => exact (h : False).elim
  | halt x w' =>
    cases x with
    | panic v => exact h
    | _ => exact (h : False).elim
theorem operIn_of {o : Oper} {a : Act} {w : World} {K : Act → World → Prop} (hd : ∀ c, o.op ≠ .defer c) (h : o.wp P a w K Q) : o.wpIn (Fence.wide.inRound l) n P a w K Q :=
  ⟨fun _ _ => trivial, by rw [Fence.inRound_round, Oper.semAt_eq _ _ _ hd]; exact uponIn_of h⟩
theorem anyIn_of (hd : ∀ (i : Nat) (o : Oper), ops[i]? = some o → ∀ c, o.op ≠ .defer c) (hQ : ¬ LetsOut Q) :
    ∀ (fuel : Nat) (listed : Array Bool) (a : Act) (w : World), wpAny P md ops Q fuel listed a w → wpAnyIn (Fence.wide.inRound l) n P md ops Q fuel listed a w
  | 0, _, _, _, h => h
  | fuel + 1, listed, a, w, h => ⟨h.1, fun i hi => by
    have h1 := h.2 i hi
    unfold wpOp at h1
    unfold wpOpIn
    split
    · rename_i ho
      rw [ho] at h1
      exact anyIn_of hd hQ fuel _ _ _ h1
    · rename_i o ho
      simp only [ho] at h1
      split
      · rename_i hw
        rw [if_pos hw] at h1
        rcases h1 with h1 | ⟨_, h2⟩
        · exact operIn_of (hd i o ho) (Oper.wp_mono (fun a' w' h3 => anyIn_of hd hQ fuel _ a' w' h3) h1)
        · exact absurd h2 hQ
      · rename_i hw
        rw [if_neg hw] at h1
        exact ⟨fun _ _ => trivial, anyIn_of hd hQ fuel _ _ _ h1⟩⟩
def noDefer (l : List Oper) : Bool := l.all fun o => match o.op with | .defer _ => false | _ => true
theorem noDefer_spec {ops : List Oper} (h : noDefer ops = true) : ∀ (i : Nat) (o : Oper), ops.toArray[i]? = some o → ∀ c, o.op ≠ .defer c := fun i o ho c e => by
  have := List.all_eq_true.1 h o (List.mem_of_getElem? (by simpa using ho))
  rw [e] at this
  cases this
theorem wpIn_region_quiet_tail {C : World → Prop} {id : Nat} {a : Act} {w : World} {ops : List Oper} (k : Nat) (hm : P.follows .mixedOrders = true) (hB : (Region.lexTailB .any ops.toArray k && noDefer ops) = true) (hQ : ¬ LetsOut Q)
    (hC : C { w with drawn := w.drawn + 1 })
    (h : wpQuiet P ops.toArray C (fun a' => ∀ w', C w' → wpList P ops.toArray Q (ops.drop k) a' w') (ops.take k) a) : (Code.region id ops.toArray true).wpIn (Fence.wide.inRound l) n P Q a w := by
  simp only [Bool.and_eq_true] at hB
  obtain ⟨hB, hnd⟩ := hB
  simp only [Region.lexTailB, Bool.and_eq_true, decide_eq_true_eq] at hB
  obtain ⟨⟨⟨⟨hsel, hn⟩, hs⟩, hc⟩, hlex⟩ := hB
  have hn' : k < ops.length := by simpa using hn
  have htl : (ops.take k).length = k := by simp; omega
  have hdl : (ops.drop k).length = ops.toArray.size - k := by simp
  have inv0 : HeadInv .any ops.toArray k (Array.replicate ops.toArray.size false) :=
    ⟨by simp, fun j oj _ hl => (by rw [getD_replicate_false] at hl; cases hl), fun t _ ht => getD_in (by simpa using ht) (getD_replicate_false _ _)⟩
  have H := wpAnyT_lex (md := .any) (g := ops.toArray.size - k) hsel hs hc hn (ops.take k) 0 _ a (fun j hj => by
    have hj' : j < k := by rw [htl] at hj; exact hj
    simp [hj']) (by simpa using htl) inv0 (by rw [htl]; exact hlex) h
  refine wpIn_region_any hm (anyIn_of (noDefer_spec hnd) hQ _ _ _ _ ?_)
  have := wpAny_of_T (Q' := Q) (g := ops.toArray.size - k) (fun listed a' w' hw' hL => by
    have := wpAny_of_seq (md := .any) (Q' := Q) (ops.drop k) k listed a' w' (fun j => by simp [List.getElem?_drop]) (by rw [hdl]; exact hL.1) (hL.2 w' hw')
    rwa [hdl] at this) _ _ _ _ hC H
  rw [htl, show k + (ops.toArray.size - k) = ops.toArray.size by omega] at this
  exact this
theorem wpIn_region_calm_tail {id : Nat} {a : Act} {w : World} {ops : List Oper} (k : Nat) (hm : P.follows .mixedOrders = true) (hB : (Region.lexTailB .any ops.toArray k && noDefer ops) = true) (hQ : ¬ LetsOut Q)
    (h : wpQuiet P ops.toArray (fun w' => ∃ u : Later w, w' = u.at_) (fun a' => ∀ u : Later w, wpList P ops.toArray Q (ops.drop k) a' u.at_) (ops.take k) a) : (Code.region id ops.toArray true).wpIn (Fence.wide.inRound l) n P Q a w :=
  wpIn_region_quiet_tail (C := fun w' => ∃ u : Later w, w' = u.at_) k hm hB hQ (calm_start w) (by
    have : (fun a' => ∀ w', (∃ u : Later w, w' = u.at_) → wpList P ops.toArray Q (ops.drop k) a' w') = (fun a' => ∀ u : Later w, wpList P ops.toArray Q (ops.drop k) a' u.at_) := by
      funext a'
      exact propext ⟨fun h u => h _ ⟨u, rfl⟩, fun h w' ⟨u, e⟩ => e ▸ h u⟩
    rw [this]
    exact h)
end
end Go.Proofs.Ytgegmlhpdpdnfaa
