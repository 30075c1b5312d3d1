/- TraceKeeps: the walk: it returns true. -/
import Derived.Test.YtgoflehojioedaaLayW
namespace Go.Proofs.Ytgoflehojioedaa
open Go.RowKit

set_option maxRecDepth 100000 in
set_option maxHeartbeats 4000000 in
theorem walk_TraceKeeps (va : Value) (n : Nat) (ka na : Nat → Int) (vb : Value) (m : Nat) (kb nb : Nat → Int) (kind : Int) (w : World) (Ha : Sns va n ka na w) (Hb : Sns vb m kb nb w) (hn : n ≤ 8796093022208) (hm : m ≤ 8796093022208) (_bk : -9223372036854775808 ≤ kind ∧ kind ≤ 9223372036854775807) :
    Calls Try.prog 10 #[va, vb, .int .i64 kind] w fun e w' => e = .returned (.bool true) ∧ Below w.heap.size w w' := by
  have HA := hid2 Ha
  have HB := hid2 Hb
  obtain ⟨qa, ca, rfl⟩ := Ha.form
  obtain ⟨qb, cb, rfl⟩ := Hb.form
  clear Ha Hb
  have hn0 : (0 : Int) ≤ n := by omega
  have hm0 : (0 : Int) ≤ m := by omega
  have hn1 : (n : Int) ≤ 8796093022208 := by omega
  have hm1 : (m : Int) ≤ 8796093022208 := by omega
  by_cases hle : n + m ≤ 100
  · have t1 : decide ((100 : Int) < (n : Int) + m) = false := by simp; omega
    have hA : n ≤ 100 := by omega
    have hB : m ≤ 100 := by omega
    go_enter Try.func10, Try.ntmps10
    go_wp2_with (first
      | (go_at_call 40; (with_reducible refine (known02 w).mono ?_); rintro e w0 ⟨rfl, hb0⟩)
      | (go_at_call 41; (with_reducible refine (lay_ (HB.out.below (gr2 hb0 H1.below)) hB).mono ?_); rintro e w2 ⟨vf, rfl, H2, F2⟩; have T := two_of_ones H1 H2 (fun x hx => (F2.lt x hx).1); have E2 := E1.below H2.below; have R1 := T.rn.1; have R2 := T.rn.2; have hbw := gr2 hb0 T.below; clear T H1 H2 E1; generalize hAe : sev ka na n = A at *; generalize hBe : sev kb nb m = B at *; have la : A.length ≤ 1000000 := (by rw [← hAe, sev_len]; omega); have lb : B.length ≤ 1000000 := (by rw [← hBe, sev_len]; omega); have oa : ∀ e ∈ A, EvOk e := (by rw [← hAe]; exact sev_ok fun i hi => (HA.out.1 i hi).2); have ob : ∀ e ∈ B, EvOk e := (by rw [← hBe]; exact sev_ok fun i hi => (HB.out.1 i hi).2); obtain ⟨hh, hhh⟩ : ∃ g, g = w1.heap.size := ⟨_, rfl⟩; obtain ⟨gg, hgg⟩ : ∃ g, g = w0.heap.size := ⟨_, rfl⟩; rw [← hhh] at R2 ⊢; rw [← hgg] at R1 ⊢; obtain ⟨qe, ce, hqe, _⟩ := E2.form; subst hqe; obtain ⟨qf, cf, hqf, _⟩ := F2.form; subst hqf; clear hhh hgg hAe hBe)
      | (go_at_call 41; (with_reducible refine (lay_ (HA.out.below hb0) hA).mono ?_); rintro e w1 ⟨ve, rfl, H1, E1⟩)
      | (go_at_call 42; (with_reducible refine (eventsp_ R1 la).mono ?_); rintro e w5 ⟨v5, rfl, V5, hb5⟩; have c5 := hb5)
      | (go_at_call 47; (with_reducible refine (samep_ (R1.below c9) (R1.below c9) la la oa oa).mono ?_); rintro e w10 ⟨rfl, hb10⟩; have c10 := gr2 c9 hb10; have d3 : decide (A = A) = true := decide_eq_true rfl)
      | (go_at_call 47; (with_reducible refine (samep_ (R1.below c8) (R2.below c8) la lb oa ob).mono ?_); rintro e w9a ⟨rfl, hb9a⟩; have c8a := gr2 c8 hb9a; obtain ⟨d, hd⟩ : ∃ d, d = decide (A = B) := ⟨_, rfl⟩; have HD := hid2 hd; rw [← hd]; clear hd)
      | (go_at_call 45; (with_reducible refine (rsame_ (E2.below c8a) (F2.below c8a) la lb).mono ?_); rintro e w9 ⟨rfl, hb9⟩; have c9 := gr2 c8a hb9; rw [← HD.out])
      | (go_at_call 45; (with_reducible refine (rsame_ V5 (E2.below c5) la la).mono ?_); rintro e w6 ⟨rfl, hb6⟩; have c6 := gr2 c5 hb6; have d1 : decide (A = A) = true := decide_eq_true rfl)
      | (go_at_call 44; (with_reducible refine (countp_ (R1.below c6) la kind).mono ?_); rintro e w7 ⟨rfl, hb7⟩; have c7 := gr2 c6 hb7)
      | (go_at_call 46; (with_reducible refine (rcount_ (E2.below c7) la kind).mono ?_); rintro e w8 ⟨rfl, hb8⟩; have c8 := gr2 c7 hb8))
    go_ret
    exact ⟨rfl, gr2 hbw c10⟩
  · have t1 : decide ((100 : Int) < (n : Int) + m) = true := by simp; omega
    go_enter Try.func10, Try.ntmps10
    go_wp2_with (first
      | (go_at_call 40; (with_reducible refine (known02 w).mono ?_); rintro e w0 ⟨rfl, hb0⟩))
    go_ret
    exact ⟨rfl, hb0⟩
end Go.Proofs.Ytgoflehojioedaa
