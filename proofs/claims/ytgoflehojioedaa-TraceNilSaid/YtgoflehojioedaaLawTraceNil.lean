/- TraceNil: the walk: it returns true. -/
import Derived.Test.YtgoflehojioedaaKnown02
namespace Go.Proofs.Ytgoflehojioedaa
open Go.RowKit

set_option maxRecDepth 100000 in
set_option maxHeartbeats 4000000 in
theorem walk_TraceNil (n : Int) (w : World) (_bn : -9223372036854775808 ≤ n ∧ n ≤ 9223372036854775807) :
    Calls Try.prog 12 #[.int .i64 n] w fun e w' => e = .returned (.bool true) ∧ Below w.heap.size w w' := by
  have hI : I64 n := _bn
  go_enter Try.func12, Try.ntmps12
  go_wp2_with (first
    | (go_at_call 49; with_reducible refine (opens_1 H2 (by simp)).mono ?_; rintro e w6 ⟨rfl, H3, _⟩; have hl3 : (addS [] ((3 : Int), (0 : Int))).length ≤ 1 := len_pst (E := [(3, 0)]) (by simp))
    | (go_at_call 48; with_reducible refine (idx_none n _).mono ?_; rintro e w1 ⟨rfl, hb1⟩)
    | (go_at_call 43; with_reducible refine (br_none n _).mono ?_; rintro e w2 ⟨rfl, hb2⟩)
    | (go_at_call 49; with_reducible refine (opens_none _).mono ?_; rintro e w3 ⟨rfl, hb3⟩; have hb3' := gr2 (gr2 hb1 hb2) hb3)
    | (go_at_call 50; with_reducible refine (new_ _).mono ?_; rintro e w4 ⟨rfl, hw4⟩; have H1 := one_new_at hb3'; rw [← hw4] at H1; clear hw4)
    | (go_at_call 47; with_reducible refine (tsame_ (Rn.none _) H5.rn (by simp) (by omega)).mono ?_; rintro e w9 ⟨rfl, hb9⟩; have H6 := H5.calm hb9; have q2 : decide (words [] = words (addS [] ((3 : Int), (0 : Int)))) = false := by simp [words, addS])
    | (go_at_call 47; with_reducible refine (tsame_ (Rn.none _) H1.rn (by simp) (by simp)).mono ?_; rintro e w5 ⟨rfl, hb5⟩; have H2 := H1.calm hb5; have q1 : decide (words [] = words []) = true := by simp)
    | (go_at_call 40; with_reducible refine (known02 _).mono ?_; rintro e w7 ⟨rfl, hb7⟩; have H4 := H3.calm hb7)
    | (go_at_call 42; with_reducible refine (events_ (Rn.none _) (by simp) (by simp [evs])).mono ?_; rintro e w8 ⟨v, rfl, hv, hb8⟩; obtain ⟨q, c, hq, _⟩ := hv.form; subst hq; have H4a := H4.calm hb8; clear hv)
    | (go_at_call 44; with_reducible refine (count_ H6.rn (by omega) (by rw [evs_addS]; simp [evs]) 3).mono ?_; rintro e w10 ⟨rfl, hb10⟩; have H7 := H6.calm hb10; have q4 : cnt (evs (addS [] ((3 : Int), (0 : Int)))) 3 = 1 := by rw [evs_addS]; decide)
    | (go_at_call 44; with_reducible refine (count_ (Rn.none _) (by simp) (by simp [evs]) 1).mono ?_; rintro e w11 ⟨rfl, hb11⟩; have H5 := H4a.calm hb11; have q3 : cnt (evs []) 1 = 0 := by decide))
  go_ret
  exact ⟨rfl, H7.below⟩
end Go.Proofs.Ytgoflehojioedaa
