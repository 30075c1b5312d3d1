/- The chapter's example; what a slice of events holds. -/
import Derived.Test.YtgoflehojioedaaTraceT
namespace Go.Proofs.Ytgoflehojioedaa
open Go.RowKit

theorem evc_at : ∀ {E : List Ev} {j : Nat} {e : Ev}, E[j]? = some e → (evc E)[j * 2]? = some (.int .i64 e.1) ∧ (evc E)[j * 2 + 1]? = some (.int .i64 e.2)
  | [], _, _, h => by cases h
  | x :: E, 0, e, h => by simp at h; subst h; exact ⟨rfl, rfl⟩
  | x :: E, j + 1, e, h => by
    have := evc_at (E := E) (j := j) (e := e) (by simpa using h)
    have h1 : (j + 1) * 2 = j * 2 + 1 + 1 := by omega
    rw [h1]
    show (([.int .i64 x.1, .int .i64 x.2] : List Value) ++ evc E)[j * 2 + 1 + 1]? = _ ∧ (([.int .i64 x.1, .int .i64 x.2] : List Value) ++ evc E)[j * 2 + 1 + 1 + 1]? = _
    simpa using this
theorem Evs.form {n0 : Nat} {W : World} {v : Value} {E : List Ev} (h : Evs n0 W v E) : ∃ q c, v = .slice q E.length c ∧ ∀ (j : Nat) (e : Ev), E[j]? = some e → ∃ g, q = some ⟨g, 0, none⟩ ∧ n0 ≤ g ∧ g < W.heap.size ∧ W.cell? ⟨g, j * 2, none⟩ = some (.int .i64 e.1) ∧ W.cell? ⟨g, j * 2 + 1, none⟩ = some (.int .i64 e.2) := by
  have hc := fun g (hg : v.ownBlock = some g) => World.ownsRow.cells h hg
  rcases h.2 with ⟨rfl, h0⟩ | ⟨g, cap, cur, rfl, hb, hh, _⟩
  · refine ⟨none, 0, by rw [h0], fun j e hj => ?_⟩
    have : j < E.length := (List.getElem?_eq_some_iff.1 hj).1
    omega
  · refine ⟨some ⟨g, 0, none⟩, cap, rfl, fun j e hj => ⟨g, rfl, hb, heap_lt hh, ?_, ?_⟩⟩
    · have := hc g rfl _ _ (evc_at hj).1
      rwa [show (⟨g, 0, none⟩ : Addr).add (j * 2) = ⟨g, j * 2, none⟩ by unfold Addr.add; split <;> simp_all] at this
    · have := hc g rfl _ _ (evc_at hj).2
      rwa [show (⟨g, 0, none⟩ : Addr).add (j * 2 + 1) = ⟨g, j * 2 + 1, none⟩ by unfold Addr.add; split <;> simp_all] at this
theorem evs_two {a b : Ev} : evs (addS (addS [] a) b) = [a, b] := by rw [evs_addS, evs_addS]; rfl
theorem len_pst {E : List Ev} {n : Nat} (h : E.length ≤ n) : (pst E).length ≤ n := Nat.le_trans (pst_len E) h

set_option maxRecDepth 100000 in
set_option maxHeartbeats 4000000 in
theorem known02 (w : World) :
    Calls Try.prog 40 #[] w fun e w' => e = .returned (.bool true) ∧ Below w.heap.size w w' := by
  go_enter Try.func40, Try.ntmps40
  go_wp2_with (first
    | (go_at_call 50; refine (new_ w).mono ?_; rintro e w1 ⟨rfl, hw1⟩; have H1 := one_new w; rw [← hw1] at H1; clear hw1)
    | (go_at_call 48; refine (idx_1 H1 (by simp) 3 ⟨by omega, by omega⟩).mono ?_; rintro e w2 ⟨rfl, H2, _⟩)
    | (go_at_call 43; refine (br_1 H2 (by have := addS_len [] ((1 : Int), (3 : Int)); simp at this; omega) 1 ⟨by omega, by omega⟩).mono ?_; rintro e w3 ⟨rfl, H3, _⟩; have hl3 : (addS (addS [] ((1 : Int), (3 : Int))) ((2 : Int), (1 : Int))).length ≤ 2 := len_pst (E := [(1, 3), (2, 1)]) (by simp))
    | (go_at_call 42; (refine (events_ H3.rn (by omega) (by rw [evs_two]; simp)).mono ?_; rintro e w4 ⟨v, rfl, hv, hb4⟩; rw [evs_two] at hv; obtain ⟨q, c, hq5, hv5⟩ := hv.form; subst hq5; have h0 := hv5 0 ((1 : Int), (3 : Int)) rfl; have h1 := hv5 1 ((2 : Int), (1 : Int)) rfl; clear hv5 hv; obtain ⟨g, rfl, _, z1, c1, c2⟩ := h0; obtain ⟨_, hq, _, _, c3, c4⟩ := h1; cases hq; have H4 := H3.calm hb4))
    | (go_at_call 44; refine (count_ H4.rn (by omega) (by rw [evs_two]; simp) 3).mono ?_; rintro e w5 ⟨rfl, hb5⟩; rw [evs_two]; have H5 := H4.below; have e5 : cnt [((1 : Int), (3 : Int)), ((2 : Int), (1 : Int))] 3 = 0 := by decide))
  go_ret
  exact ⟨rfl, gr2 H5 hb5⟩

end Go.Proofs.Ytgoflehojioedaa
