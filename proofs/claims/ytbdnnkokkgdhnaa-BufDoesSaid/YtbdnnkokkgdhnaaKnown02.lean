/- The chapter's example; what a slice of events holds. -/
import Derived.Test.YtbdnnkokkgdhnaaTraceT
namespace Go.Proofs.Ytbdnnkokkgdhnaa
open Go.RowKit

theorem evc_at : ∀ {E : List Ev} {j : Nat} {e : Ev}, E[j]? = some e → (evc E)[j * 2]? = some (.int .i64 e.1) ∧ (evc E)[j * 2 + 1]? = some (.int .i64 e.2)
  | [], _, _, h => by cases h
  | x :: E, 0, e, h => by simp at h; subst h; exact ⟨rfl, rfl⟩
  | x :: E, j + 1, e, h => by
    have := evc_at (E := E) (j := j) (e := e) (by simpa using h)
    have h1 : (j + 1) * 2 = j * 2 + 1 + 1 := by omega
    rw [h1]
    show (([.int .i64 x.1, .int .i64 x.2] : List Value) ++ evc E)[j * 2 + 1 + 1]? = _ ∧ (([.int .i64 x.1, .int .i64 x.2] : List Value) ++ evc E)[j * 2 + 1 + 1 + 1]? = _
    simpa using this
theorem Evs.form {n0 : Nat} {W : World} {v : Value} {E : List Ev} (h : Evs n0 W v E) : ∃ q c, v = .slice q E.length c ∧ ∀ (j : Nat) (e : Ev), E[j]? = some e → ∃ g, q = some ⟨g, 0, none⟩ ∧ n0 ≤ g ∧ g < W.heap.size ∧ W.cell? ⟨g, j * 2, none⟩ = some (.int .i64 e.1) ∧ W.cell? ⟨g, j * 2 + 1, none⟩ = some (.int .i64 e.2) := by
  have hc := fun g (hg : v.ownBlock = some g) => World.ownsRow.cells h hg
  rcases h.2 with ⟨rfl, h0⟩ | ⟨g, cap, cur, rfl, hb, hh, _⟩
  · refine ⟨none, 0, by rw [h0], fun j e hj => ?_⟩
    have : j < E.length := (List.getElem?_eq_some_iff.1 hj).1
    omega
  · refine ⟨some ⟨g, 0, none⟩, cap, rfl, fun j e hj => ⟨g, rfl, hb, heap_lt hh, ?_, ?_⟩⟩
    · have := hc g rfl _ _ (evc_at hj).1
      rwa [show (⟨g, 0, none⟩ : Addr).add (j * 2) = ⟨g, j * 2, none⟩ by unfold Addr.add; split <;> simp_all] at this
    · have := hc g rfl _ _ (evc_at hj).2
      rwa [show (⟨g, 0, none⟩ : Addr).add (j * 2 + 1) = ⟨g, j * 2 + 1, none⟩ by unfold Addr.add; split <;> simp_all] at this
theorem evs_two {a b : Ev} : evs (addS (addS [] a) b) = [a, b] := by rw [evs_addS, evs_addS]; rfl
theorem len_pst {E : List Ev} {n : Nat} (h : E.length ≤ n) : (pst E).length ≤ n := Nat.le_trans (pst_len E) h


end Go.Proofs.Ytbdnnkokkgdhnaa
