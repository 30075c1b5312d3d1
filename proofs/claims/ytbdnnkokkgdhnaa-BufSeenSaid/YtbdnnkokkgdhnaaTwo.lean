/- Two buffers that lie apart: what a call does with one, the other stays. -/
import Derived.Test.YtbdnnkokkgdhnaaBufX
namespace Go.Proofs.Ytbdnnkokkgdhnaa
open Go.RowKit

theorem B2.first {w0 W : World} {b c : Nat} {o p : Option Nat} {E F : List Ev} {L M : List Int} {X : List Nat} (k : B2 w0 W b o E L c p F M X) :
    ∃ Y : List Nat, B1 w0 W b o E L Y ∧ ∀ (W' : World) (E' : List Ev) (L' : List Int), B1 w0 W' b o E' L' Y → Kept Y W W' → B2 w0 W' b o E' L' c p F M X ∧ Kept X W W' := by
  obtain ⟨fp, fq, h1, h2, t⟩ := k
  refine ⟨fq ++ X, ⟨fp, h1, ⟨fun x hx => t.low x (hx.elim .inl (fun h => nomatch h)), fun x _ h => (nomatch h), fun x hx => ⟨fun hy => ?_, fun h => (nomatch h)⟩, fun x hx => ?_, t.below⟩⟩, fun W' E' L' k' hk => ?_⟩
  · rcases List.mem_append.1 hx with h | h
    · exact t.disj x hy h
    · exact (t.px x h).1 hy
  · rcases hx with h | h | h
    · exact t.lt x (.inl h)
    · cases h
    · rcases List.mem_append.1 h with h | h
      · exact t.lt x (.inr (.inl h))
      · exact t.lt x (.inr (.inr h))
  · obtain ⟨fp', h1', t'⟩ := k'
    refine ⟨⟨fp', fq, h1', h2.frame fun x hx => hk.blk x (by simp [hx]), ⟨fun x hx => ?_, fun x hx hy => (t'.px x (by simp [hy])).1 hx, fun x hx => ⟨fun hy => (t'.px x (by simp [hx])).1 hy, (t.px x hx).2⟩, fun x hx => ?_, t'.below⟩⟩, ⟨fun x hx => hk.1 x (by simp [hx]), hk.2⟩⟩
    · rcases hx with h | h
      · exact t'.low x (.inl h)
      · exact t.low x (.inr h)
    · rcases hx with h | h | h
      · exact t'.lt x (.inl h)
      · exact t'.lt x (.inr (.inr (by simp [h])))
      · exact t'.lt x (.inr (.inr (by simp [h])))
theorem B2.call {w0 W : World} {b c : Nat} {o p : Option Nat} {E F E' : List Ev} {L M L' : List Int} {X : List Nat} (k : B2 w0 W b o E L c p F M X) {P : Program} {f : FuncId} {args : Array Value} {R : Ending → Prop}
    (h : ∀ Y, B1 w0 W b o E L Y → Calls P f args W fun e W' => R e ∧ B1 w0 W' b o E' L' Y ∧ Kept Y W W') : Calls P f args W fun e W' => R e ∧ B2 w0 W' b o E' L' c p F M X ∧ Kept X W W' := by
  obtain ⟨Y, k1, h1⟩ := k.first
  refine (h Y k1).mono ?_
  rintro e W' ⟨hr, kb, kk⟩
  obtain ⟨h2, h3⟩ := h1 W' E' L' kb kk
  exact ⟨hr, h2, h3⟩
theorem B2.join {w W W' : World} {b c : Nat} {o p : Option Nat} {E F : List Ev} {L M : List Int} {X Y : List Nat} (k : B1 w W b o E L X) (k' : B1 W W' c p F M Y) : B2 w W' b o E L c p F M [] := by
  obtain ⟨fp, h1, t1⟩ := k
  obtain ⟨fq, h2, t2⟩ := k'
  have hs := t1.below.size
  have l1 : ∀ x ∈ fp, x < W.heap.size := fun x hx => t1.lt x (.inl hx)
  have l2 : ∀ x ∈ fq, W.heap.size ≤ x := fun x hx => t2.low x (.inl hx)
  refine ⟨fp, fq, h1.below t2.below, h2, ⟨fun x hx => ?_, fun x hx hy => by have := l1 x hx; have := l2 x hy; omega, fun x hx => (nomatch hx), fun x hx => ?_, gr2 t1.below t2.below⟩⟩
  · rcases hx with h | h
    · exact t1.low x (.inl h)
    · have := l2 x h; omega
  · rcases hx with h | h | h
    · have := l1 x h; have := t2.below.size; omega
    · exact t2.lt x (.inl h)
    · cases h
theorem B2.fst {w0 W : World} {b c : Nat} {o p : Option Nat} {E F : List Ev} {L M : List Int} {X : List Nat} (k : B2 w0 W b o E L c p F M X) : B1 w0 W b o E L X := by
  obtain ⟨Y, k1, _⟩ := k.first
  obtain ⟨fp, fq, h1, h2, t⟩ := k
  exact ⟨fp, h1, ⟨fun x hx => t.low x (hx.elim .inl (fun h => nomatch h)), fun x _ h => (nomatch h), fun x hx => ⟨(t.px x hx).1, fun h => (nomatch h)⟩, fun x hx => t.lt x (by rcases hx with h | h | h; exact .inl h; cases h; exact .inr (.inr h)), t.below⟩⟩
end Go.Proofs.Ytbdnnkokkgdhnaa
