/- TraceOrder: the walk: it returns true. -/
import Derived.Test.YtgoflehojioedaaKnown02
namespace Go.Proofs.Ytgoflehojioedaa
open Go.RowKit

set_option maxRecDepth 100000 in
set_option maxHeartbeats 4000000 in
theorem walk_TraceOrder (n m : Int) (both : Bool) (w : World) (_bn : -9223372036854775808 ≤ n ∧ n ≤ 9223372036854775807) (_bm : -9223372036854775808 ≤ m ∧ m ≤ 9223372036854775807) :
    Calls Try.prog 13 #[.int .i64 n, .int .i64 m, .bool both] w fun e w' => e = .returned (.bool true) ∧ Below w.heap.size w w' := by
  have hI : I64 n := _bn
  have hJ : I64 m := _bm
  have ok1 : ∀ k : Int, 0 ≤ k ∧ k ≤ 3 → ∀ x : Int, I64 x → EvOk (k, x) := fun k hk x hx => ⟨hk, hx⟩
  have o1 := ok1 1 (by omega) n hI
  have o2 := ok1 2 (by omega) m hJ
  have o3 := ok1 3 (by omega) 0 ⟨by omega, by omega⟩
  cases both
  · skip
    go_enter Try.func13, Try.ntmps13
    go_wp2_with (first
      | (go_at_call 50; with_reducible refine (new_ _).mono ?_; rintro e w2 ⟨rfl, hw2⟩; have H2' := two_new H1; rw [← hw2] at H2'; have H2 : Two w w2 _ (pst []) _ (pst []) [] := H2'; clear hw2)
      | (go_at_call 50; with_reducible refine (new_ w).mono ?_; rintro e w1 ⟨rfl, hw1⟩; have H1 := one_new w; rw [← hw1] at H1; clear hw1)
      | (go_at_call 48; with_reducible refine (idxp_r H5 (by simp) n hI).mono ?_; rintro e w6 ⟨rfl, H6', _⟩; have H6 : Two w w6 _ (pst [(1, n), (2, m)]) _ (pst [(2, m), (1, n)]) [] := H6')
      | (go_at_call 48; with_reducible refine (idxp_l H2 (by simp) n hI).mono ?_; rintro e w3 ⟨rfl, H3', _⟩; have H3 : Two w w3 _ (pst [(1, n)]) _ (pst []) [] := H3')
      | (go_at_call 43; with_reducible refine (brp_l H4 (by simp) m hJ).mono ?_; rintro e w5 ⟨rfl, H5', _⟩; have H5 : Two w w5 _ (pst [(1, n), (2, m)]) _ (pst [(2, m)]) [] := H5')
      | (go_at_call 43; with_reducible refine (brp_r H3 (by simp) m hJ).mono ?_; rintro e w4 ⟨rfl, H4', _⟩; have H4 : Two w w4 _ (pst [(1, n)]) _ (pst [(2, m)]) [] := H4')
      | (go_at_call 40; with_reducible refine (known02 _).mono ?_; rintro e w9 ⟨rfl, hb9⟩; have H9 := H6.calm hb9)
      | (go_at_call 47; with_reducible refine (samep_ H9.rn.1 H9.rn.2 (by simp) (by simp) (by simp; exact ⟨o1, o2⟩) (by simp; exact ⟨o2, o1⟩)).mono ?_; rintro e w10 ⟨rfl, hb10⟩; have H10 := H9.calm hb10; have q1 : decide (([(1, n), (2, m)] : List Ev) = [(2, m), (1, n)]) = false := by simp)
      | (go_at_call 44; with_reducible refine (countp_ H15.rn.2 (by simp) 3).mono ?_; rintro e w16 ⟨rfl, hb16⟩; have H16 := H15.calm hb16; have c16 : cnt [(2, m), (1, n)] 3 = 0 := rfl)
      | (go_at_call 44; with_reducible refine (countp_ H14.rn.1 (by simp) 3).mono ?_; rintro e w15 ⟨rfl, hb15⟩; have H15 := H14.calm hb15; have c15 : cnt [(1, n), (2, m)] 3 = 0 := rfl)
      | (go_at_call 44; with_reducible refine (countp_ H13.rn.2 (by simp) 2).mono ?_; rintro e w14 ⟨rfl, hb14⟩; have H14 := H13.calm hb14; have c14 : cnt [(2, m), (1, n)] 2 = 1 := rfl)
      | (go_at_call 44; with_reducible refine (countp_ H12.rn.1 (by simp) 2).mono ?_; rintro e w13 ⟨rfl, hb13⟩; have H13 := H12.calm hb13; have c13 : cnt [(1, n), (2, m)] 2 = 1 := rfl)
      | (go_at_call 44; with_reducible refine (countp_ H11.rn.2 (by simp) 1).mono ?_; rintro e w12 ⟨rfl, hb12⟩; have H12 := H11.calm hb12; have c12 : cnt [(2, m), (1, n)] 1 = 1 := rfl)
      | (go_at_call 44; with_reducible refine (countp_ H10.rn.1 (by simp) 1).mono ?_; rintro e w11 ⟨rfl, hb11⟩; have H11 := H10.calm hb11; have c11 : cnt [(1, n), (2, m)] 1 = 1 := rfl))
    go_ret
    exact ⟨rfl, H16.below⟩
  · skip
    go_enter Try.func13, Try.ntmps13
    go_wp2_with (first
      | (go_at_call 50; with_reducible refine (new_ _).mono ?_; rintro e w2 ⟨rfl, hw2⟩; have H2' := two_new H1; rw [← hw2] at H2'; have H2 : Two w w2 _ (pst []) _ (pst []) [] := H2'; clear hw2)
      | (go_at_call 50; with_reducible refine (new_ w).mono ?_; rintro e w1 ⟨rfl, hw1⟩; have H1 := one_new w; rw [← hw1] at H1; clear hw1)
      | (go_at_call 48; with_reducible refine (idxp_r H5 (by simp) n hI).mono ?_; rintro e w6 ⟨rfl, H6', _⟩; have H6 : Two w w6 _ (pst [(1, n), (2, m)]) _ (pst [(2, m), (1, n)]) [] := H6')
      | (go_at_call 48; with_reducible refine (idxp_l H2 (by simp) n hI).mono ?_; rintro e w3 ⟨rfl, H3', _⟩; have H3 : Two w w3 _ (pst [(1, n)]) _ (pst []) [] := H3')
      | (go_at_call 43; with_reducible refine (brp_l H4 (by simp) m hJ).mono ?_; rintro e w5 ⟨rfl, H5', _⟩; have H5 : Two w w5 _ (pst [(1, n), (2, m)]) _ (pst [(2, m)]) [] := H5')
      | (go_at_call 43; with_reducible refine (brp_r H3 (by simp) m hJ).mono ?_; rintro e w4 ⟨rfl, H4', _⟩; have H4 : Two w w4 _ (pst [(1, n)]) _ (pst [(2, m)]) [] := H4')
      | (go_at_call 49; with_reducible refine (opensp_r H7 (by simp)).mono ?_; rintro e w8 ⟨rfl, H8', _⟩; have H8 : Two w w8 _ (pst [(1, n), (2, m), (3, 0)]) _ (pst [(2, m), (1, n), (3, 0)]) [] := H8')
      | (go_at_call 49; with_reducible refine (opensp_l H6 (by simp)).mono ?_; rintro e w7 ⟨rfl, H7', _⟩; have H7 : Two w w7 _ (pst [(1, n), (2, m), (3, 0)]) _ (pst [(2, m), (1, n)]) [] := H7')
      | (go_at_call 40; with_reducible refine (known02 _).mono ?_; rintro e w9 ⟨rfl, hb9⟩; have H9 := H8.calm hb9)
      | (go_at_call 47; with_reducible refine (samep_ H9.rn.1 H9.rn.2 (by simp) (by simp) (by simp; exact ⟨o1, o2, o3⟩) (by simp; exact ⟨o2, o1, o3⟩)).mono ?_; rintro e w10 ⟨rfl, hb10⟩; have H10 := H9.calm hb10; have q1 : decide (([(1, n), (2, m), (3, 0)] : List Ev) = [(2, m), (1, n), (3, 0)]) = false := by simp)
      | (go_at_call 44; with_reducible refine (countp_ H15.rn.2 (by simp) 3).mono ?_; rintro e w16 ⟨rfl, hb16⟩; have H16 := H15.calm hb16; have c16 : cnt [(2, m), (1, n), (3, 0)] 3 = 1 := rfl)
      | (go_at_call 44; with_reducible refine (countp_ H14.rn.1 (by simp) 3).mono ?_; rintro e w15 ⟨rfl, hb15⟩; have H15 := H14.calm hb15; have c15 : cnt [(1, n), (2, m), (3, 0)] 3 = 1 := rfl)
      | (go_at_call 44; with_reducible refine (countp_ H13.rn.2 (by simp) 2).mono ?_; rintro e w14 ⟨rfl, hb14⟩; have H14 := H13.calm hb14; have c14 : cnt [(2, m), (1, n), (3, 0)] 2 = 1 := rfl)
      | (go_at_call 44; with_reducible refine (countp_ H12.rn.1 (by simp) 2).mono ?_; rintro e w13 ⟨rfl, hb13⟩; have H13 := H12.calm hb13; have c13 : cnt [(1, n), (2, m), (3, 0)] 2 = 1 := rfl)
      | (go_at_call 44; with_reducible refine (countp_ H11.rn.2 (by simp) 1).mono ?_; rintro e w12 ⟨rfl, hb12⟩; have H12 := H11.calm hb12; have c12 : cnt [(2, m), (1, n), (3, 0)] 1 = 1 := rfl)
      | (go_at_call 44; with_reducible refine (countp_ H10.rn.1 (by simp) 1).mono ?_; rintro e w11 ⟨rfl, hb11⟩; have H11 := H10.calm hb11; have c11 : cnt [(1, n), (2, m), (3, 0)] 1 = 1 := rfl))
    go_ret
    exact ⟨rfl, H16.below⟩
end Go.Proofs.Ytgoflehojioedaa
