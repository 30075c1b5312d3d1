/- A range over a function whose body always goes on: what the caller owes. -/
import Derived.RangeFuncFrom
import Derived.RangeFuncNested
import Derived.RangeFuncLeaves
import Derived.RangeFuncBox
import Derived.Shelf.Abstract
import Derived.WalkKit
namespace Go.Proofs.Ytgegmlhpdpdnfaa
open Go.RowKit

section
variable {F : Fence} {n : Nat} {P : Program}
/-- An iterator that hands on all of xs, in order, to whatever round goes on. -/
def EachOf {α : Type} (F : Fence) (n : Nat) (P : Program) (gf : Nat) (mk : Value → Array Value) (en : α → Array Value) (Kp : World → World → Prop) (xs : List α) (w : World) : Prop :=
  ∀ (l : Nat) (J : List α → World → Prop) (W : World), Below w.heap.size w W → AbidesFrom W.heap.size J →
    (∀ pre x W1, J pre W1 → pre ++ [x] <+: xs → YieldAt F (n - 1) P l (en x) W1 fun e W' => e = .returned (.bool true) ∧ J (pre ++ [x]) W' ∧ Kp W1 W') →
    J [] W → CallsIn F n P gf (mk (.func (.yield l) #[] #[])) W fun e W' => (∃ v, e = .returned v) ∧ J xs W'

theorem range_all {α : Type} {g : Operand} {ps : Array Tmp} {assign body : Code} {Q : Exit → Act → World → Prop} {a : Act} {w : World}
    (hro : F.round = none) (h1 : 1 ≤ n) {gf : Nat} {bd lb : Array Value} (hg : a.eval g = .func (.func gf) bd lb) (hFg : F.fn gf) (eg : ∀ args w, (callFunc gf args).run P w = .ok (.enter gf args) w)
    {en : α → Array Value} {Kp : World → World → Prop} {xs : List α} {w0 : World} (hseq : EachOf F (n - 1) P gf (fun y => bd ++ #[y] ++ lb) en Kp xs w0)
    (hKt : ∀ {A B C : World}, Kp A B → Kp B C → Kp A C) (hKb : ∀ (W : World) (l : Nat) (o o' : Obj), w.heap.size ≤ l → W.heap[l]? = some o → o.isCells = false → o.isWalk = false → Kp W (W.putObj l o'))
    (hb0 : Below w0.heap.size w0 w) (hps : ∀ x, (en x).size = ps.size)
    (I : List α → World → Prop) (Ax : List α → α → Act → World → Prop) (hI : OwnFrom w.heap.size I) (hAx : ∀ pre x, OwnFrom w.heap.size (Ax pre x)) (h0 : I [] w)
    (hassign : ∀ (l : Nat) (pre : List α) (x : α) (W : World), I pre W → pre ++ [x] <+: xs →
      assign.wpIn (F.inRound l) (n - 1 - 1) P (Exit.then (fun a' W' => KeepsOthers W W' ∧ Kp W W' ∧ Ax pre x a' W') (fun _ _ _ => False)) { tmps := (ps.zip (en x)).foldl (fun t (p, v) => t.setIfInBounds p v) a.tmps, defers := [] } W)
    (hbody : ∀ (l : Nat) (pre : List α) (x : α) (a' : Act) (W : World), Ax pre x a' W → pre ++ [x] <+: xs →
      body.wpIn (F.inRound l) (n - 1 - 1) P (fun e _ W' => e = .normal ∧ KeepsOthers W W' ∧ Kp W W' ∧ I (pre ++ [x]) W') a' W)
    (hdone : ∀ (D : Nat) (W : World), w.heap.size ≤ D → I xs W → W.heap[D]? = some (.deferred (some [])) → Q .normal { a with defers := { target := .collected D, args := #[] } :: a.defers } W) :
    (Code.rangeFunc g ps assign body).wpIn F n P Q a w := by
  refine wpIn_rangeFunc fun fn hfn => ?_
  rw [hro]
  let L : LoopState → Obj := fun st => .loop { state := st, pending := none, fn, tmps := a.tmps, params := ps, assign, body, defers := w.heap.size }
  have hLc : ∀ st, (L st).isCells = false := fun _ => rfl
  have hLw : ∀ st, (L st).isWalk = false := fun _ => rfl
  obtain ⟨W1, hW1⟩ : ∃ W1, (w.alloc (.deferred (some []))).alloc (L .ready) = W1 := ⟨_, rfl⟩
  have s1 : W1.heap.size = w.heap.size + 2 := by rw [← hW1]; simp
  have hl1 : W1.heap[w.heap.size + 1]? = some (L .ready) := by
    rw [← hW1]
    have := World.alloc_heap_new (w.alloc (.deferred (some []))) (L .ready)
    rwa [World.size_alloc] at this
  have hk1 : W1.heap[w.heap.size]? = some (.deferred (some [])) := by
    rw [← hW1]
    exact (Below.heap_alloc _ _ _ (by simp)).trans (World.alloc_heap_new w _)
  have hi1 : I [] W1 := by rw [← hW1]; exact hI.alloc _ (hI.alloc _ h0)
  have hb1 : Below w0.heap.size w0 W1 := by
    rw [← hW1]
    exact (hb0.alloc hb0.size _).alloc (by have := hb0.size; simp; omega) _
  -- what the law keeps beside the caller's own word
  let J : List α → World → Prop := fun pre W => I pre W ∧ W.heap[w.heap.size + 1]? = some (L .ready) ∧ W.heap[w.heap.size]? = some (.deferred (some []))
  refine ⟨w.heap.size + 1, [{ target := .collected w.heap.size, args := #[] }], W1, { target := .fn (.func gf) lb, args := bd ++ #[.func (.yield (w.heap.size + 1)) #[] #[]] }, W1, gf,
    bd ++ #[.func (.yield (w.heap.size + 1)) #[] #[]] ++ lb, W1, by rw [← hW1]; exact run_enterLoop_outer _ _ _ _ _, ?_, ?_, ?_, fun _ => h1, ?_⟩
  · simp only [resolve, hg]
    simp [go_sem]
  · intro f' hf'
    simp [Target.leads] at hf'
    subst hf'
    exact hFg
  · simp [invoke, go_sem, eg]
  · have hJ : AbidesFrom W1.heap.size J := fun s A B row hs hg' hr => by
      have hr2 : ∀ r, row = some r → ∃ o : Obj, A.heap[r]? = some o ∧ o.isWalk = true := fun r e => (hr r e).2
      refine ⟨hI s A B row hs.1 hg' (fun r e => ?_), (grownBy_keeps hg' hr2 hs.2.1 rfl).trans hs.2.1, (grownBy_keeps hg' hr2 hs.2.2 rfl).trans hs.2.2⟩
      obtain ⟨hb, o, ho, hw⟩ := hr r e
      exact ⟨by omega, o, ho, Obj.not_cells_of_walk hw⟩
    refine (hseq (w.heap.size + 1) J W1 hb1 hJ ?_ ⟨hi1, hl1, hk1⟩).mono ?_
    · rintro pre x W ⟨hi, hl, hk⟩ hpre
      have hy := run_yield (P := P) (args := en x) hl (hps x)
      refine ⟨fn, _, assign, body, hy, roundIn_of_wpIn hfn (wpIn_mono (hassign (w.heap.size + 1) pre x W hi hpre) ?_)⟩
      rintro e a' Wa hp
      cases e with
      | normal =>
        obtain ⟨ko, kk, ha⟩ := hp
        have hla := ko.same _ _ hl rfl
        have hka := ko.same _ _ hk rfl
        have lta := (Array.getElem?_eq_some_iff.1 hla).1
        obtain ⟨Wb, hWb⟩ : ∃ Wb, Wa.putObj (w.heap.size + 1) (L .busy) = Wb := ⟨_, rfl⟩
        have hbr : (Instr.beginRound (w.heap.size + 1)).run P Wa = .ok () Wb := by rw [← hWb]; exact run_beginRound hla rfl
        have hlb : Wb.heap[w.heap.size + 1]? = some (L .busy) := by rw [← hWb]; exact World.putObj_heap_same lta
        have hkb : Wb.heap[w.heap.size]? = some (.deferred (some [])) := by rw [← hWb]; exact (World.putObj_heap_other (by omega)).trans hka
        have kb : Kp Wa Wb := by rw [← hWb]; exact hKb _ _ _ _ (by omega) hla rfl rfl
        have hab : Ax pre x a' Wb := by rw [← hWb]; exact (hAx pre x).putObj _ ha (by omega) hla rfl
        refine ⟨Wb, hbr, wpIn_mono (hbody (w.heap.size + 1) pre x a' Wb hab hpre) ?_⟩
        rintro e2 a2 Wc ⟨rfl, ko2, kk2, hi2⟩
        have hlc := ko2.same _ _ hlb rfl
        have hkc := ko2.same _ _ hkb rfl
        have hen := run_endRound (P := P) none hlc
        refine ⟨_, _, hen, rfl, ⟨hI.putObj _ hi2 (by omega) hlc rfl, World.putObj_heap_same (Array.getElem?_eq_some_iff.1 hlc).1, (World.putObj_heap_other (by omega)).trans hkc⟩, ?_⟩
        exact hKt (hKt kk kb) (hKt kk2 (hKb _ _ _ _ (by omega) hlc rfl rfl))
      | _ => exact (hp : False).elim
    · rintro e W2 ⟨⟨v, rfl⟩, hi, hl, hk⟩
      exact ⟨none, _, run_endLoop (P := P) hl (fun h => nomatch h), hdone _ _ (Nat.le_refl _) (hI.putObj _ hi (by omega) hl rfl) ((World.putObj_heap_other (by omega)).trans hk)⟩
end
end Go.Proofs.Ytgegmlhpdpdnfaa
