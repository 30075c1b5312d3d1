/- A loop whose rounds range over a function: each leaves a mark in the frame; what becomes of the marks at the end. -/
import Derived.Test.YtgegmlhpdpdnfaaMr7
namespace Go.Proofs.Ytgegmlhpdpdnfaa
open Go.RowKit

/-- Marks of ranges that are over: nothing deferred behind any. -/
def DsOk (n1 : Nat) : List Deferred → World → Prop
  | [], _ => True
  | d :: ds, w => ∃ D, d = { target := .collected D, args := #[] } ∧ n1 ≤ D ∧ w.heap[D]? = some (.deferred (some [])) ∧ (∀ e ∈ ds, e.target ≠ .collected D) ∧ DsOk n1 ds w
theorem DsOk.keep {n1 : Nat} {w w' : World} (k : ∀ (D : Nat), n1 ≤ D → w.heap[D]? = some (.deferred (some [])) → w'.heap[D]? = some (.deferred (some []))) : ∀ {ds : List Deferred}, DsOk n1 ds w → DsOk n1 ds w'
  | [], _ => trivial
  | _ :: _, ⟨D, h1, h2, h3, h4, h5⟩ => ⟨D, h1, h2, k D h2 h3, h4, DsOk.keep k h5⟩
theorem DsOk.others {n1 : Nat} {w w' : World} {ds : List Deferred} (h : DsOk n1 ds w) (k : KeepsOthers w w') : DsOk n1 ds w' := DsOk.keep (fun _ _ hD => k.same _ _ hD rfl) h
theorem DsOk.lt {n1 : Nat} {w : World} : ∀ {ds : List Deferred}, DsOk n1 ds w → ∀ e ∈ ds, ∃ D, e.target = .collected D ∧ D < w.heap.size
  | _ :: _, ⟨D, h1, _, h3, _, h5⟩, e, he => by
    rcases List.mem_cons.1 he with rfl | he
    · exact ⟨D, by rw [h1], heap_lt h3⟩
    · exact DsOk.lt h5 e he
theorem DsOk.more {n1 : Nat} {w : World} {ds : List Deferred} {n D : Nat} (h : DsOk n1 ds w) (hn : ∀ e ∈ ds, ∃ D', e.target = .collected D' ∧ D' < n) (hD : n1 ≤ D) (hD2 : n ≤ D) (hw : w.heap[D]? = some (.deferred (some []))) : DsOk n1 ({ target := .collected D, args := #[] } :: ds) w :=
  ⟨D, rfl, hD, hw, fun e he => by
    obtain ⟨D', h1, h2⟩ := hn e he
    rw [h1]
    intro e2
    cases e2
    omega, h⟩
/-- Marks alone have changed. -/
structure Marks (n1 : Nat) (w w' : World) : Prop where
  os : w'.os = w.os
  tape : w'.tape = w.tape
  output : w'.output = w.output
  size : w'.heap.size = w.heap.size
  low : ∀ k : Nat, k < n1 → w'.heap[k]? = w.heap[k]?
  cells : ∀ (k : Nat) c t f, w.heap[k]? = some (Obj.cells c t f) → w'.heap[k]? = some (Obj.cells c t f)
theorem Marks.refl (n1 : Nat) (w : World) : Marks n1 w w := ⟨rfl, rfl, rfl, rfl, fun _ _ => rfl, fun _ _ _ _ h => h⟩
theorem leaves_all {F : Fence} {n : Nat} {P : Program} {fn : Func} {tmps : Array Value} {R : Ending → World → Prop} {n1 : Nat} : ∀ {ds : List Deferred} {w : World}, DsOk n1 ds w →
    (∀ w', Marks n1 w w' → LeavesIn F n P fn tmps R [] .returning w') → LeavesInM F n P fn tmps R ds .returning w
  | [], w, _, h => h w (Marks.refl _ _)
  | d :: ds, w, ⟨D, h1, h2, h3, h4, h5⟩, h => by
    subst h1
    have hDl := heap_lt h3
    refine ⟨by simp, .inl ⟨D, _, rfl, run_takeDeferred h3, leaves_all (n1 := n1) ?_ (fun w' hm => h w' ⟨hm.os, hm.tape, hm.output, hm.size.trans (by simp), fun k hk => (hm.low k hk).trans (World.putObj_heap_other (by omega)), fun k c t f hk => hm.cells k c t f ((World.putObj_heap_other (fun e => by subst e; rw [h3] at hk; cases hk)).trans hk)⟩)⟩⟩
    have key : ∀ {es : List Deferred}, (∀ e ∈ es, e.target ≠ .collected D) → DsOk n1 es w → DsOk n1 es (w.putObj D (.deferred none)) := by
      intro es
      induction es with
      | nil => intro _ _; trivial
      | cons e es ih =>
        rintro he ⟨D', a1, a2, a3, a4, a5⟩
        refine ⟨D', a1, a2, (World.putObj_heap_other (fun e2 => ?_)).trans a3, a4, ih (fun x hx => he x (List.mem_cons_of_mem _ hx)) a5⟩
        subst e2
        exact he e List.mem_cons_self (by rw [a1])
    exact key h4 h5
end Go.Proofs.Ytgegmlhpdpdnfaa
