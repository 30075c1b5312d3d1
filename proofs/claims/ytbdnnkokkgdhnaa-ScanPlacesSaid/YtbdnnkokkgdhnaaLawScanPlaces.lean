/- ScanPlaces: the walk: it returns true. -/
import Derived.Test.YtbdnnkokkgdhnaaPlaces
namespace Go.Proofs.Ytbdnnkokkgdhnaa
open Go.RowKit

set_option maxRecDepth 100000 in
set_option maxHeartbeats 4000000 in
theorem walk_ScanPlaces (vl : Value) (n : Nat) (fn : Nat → Int) (a s f t k : Int) (w : World) (Hl : Nums .i64 vl n fn w) (hm : n ≤ 9223372036854775807) (_ba : -9223372036854775808 ≤ a ∧ a ≤ 9223372036854775807) (_bs : -9223372036854775808 ≤ s ∧ s ≤ 9223372036854775807) (_bf : -9223372036854775808 ≤ f ∧ f ≤ 9223372036854775807) (_bt : -9223372036854775808 ≤ t ∧ t ≤ 9223372036854775807) (_bk : 0 ≤ k ∧ k ≤ 255) :
    Calls Try.prog 8 #[vl, .int .i64 a, .int .i64 s, .int .i64 f, .int .i64 t, .int .u8 k] w fun e w' => e = .returned (.bool true) ∧ Below w.heap.size w w' := by
  have HC := hid2 Hl
  obtain ⟨ql, cl, rfl⟩ := Hl.form
  clear Hl
  have hn0 : (0 : Int) ≤ n := by omega
  have ha : I64 a := _ba
  have hs : I64 s := _bs
  by_cases hle : n ≤ 40
  · have t1 : decide ((40 : Int) < (n : Int)) = false := by simp; omega
    have hn1 : (n : Int) ≤ 40 := by omega
    obtain ⟨m, hm⟩ : ∃ m, m = k % 12 := ⟨_, rfl⟩
    obtain ⟨d, hd⟩ : ∃ d, d = k / 16 := ⟨_, rfl⟩
    obtain ⟨g, hg⟩ : ∃ g, g = k / 8 := ⟨_, rfl⟩
    have hm1 : ∀ c : Int, c = 12 → Int.tmod k c = m := by rintro c rfl; rw [Int.tmod_eq_emod_of_nonneg (by omega), hm]
    have hm2 : ∀ c : Int, c = 12 → k % c = m := by rintro c rfl; exact hm.symm
    have hd1 : ∀ c : Int, c = 16 → Int.tdiv k c = d := by rintro c rfl; rw [Int.tdiv_eq_ediv_of_nonneg (by omega), hd]
    have hd2 : ∀ c : Int, c = 16 → k / c = d := by rintro c rfl; exact hd.symm
    have hg1 : ∀ c : Int, c = 8 → Int.tdiv k c = g := by rintro c rfl; rw [Int.tdiv_eq_ediv_of_nonneg (by omega), hg]
    have hg2 : ∀ c : Int, c = 8 → k / c = g := by rintro c rfl; exact hg.symm
    have m0 : 0 ≤ m := by omega
    have m9 : m ≤ 11 := by omega
    have d0 : 0 ≤ d := by omega
    have d9 : d ≤ 15 := by omega
    have g0 : 0 ≤ g := by omega
    have g9 : g ≤ 31 := by omega
    have hmI : I64 (m - 1) := by unfold I64; omega
    have hmJ : I64 m := by unfold I64; omega
    clear hm hd hg
    go_enter Try.func8, Try.ntmps8
    go_wp2_with (first
      | (go_at_call 35; (with_reducible refine (known05 w).mono ?_); rintro e w0 ⟨rfl, hb0⟩; have B0 := hid2 hb0; have C0 := hid2 (HC.out.below hb0); clear hb0)
      | (go_at_call 38; (with_reducible refine (places_ C2.out (by omega) m s 0 g hmJ hs).mono ?_); rintro e w3 ⟨rfl, hb3⟩; have B3 := hid2 (gr2 B2.out hb3); clear hb3)
      | (go_at_call 38; (with_reducible refine (places_ C1.out (by omega) (m - 1) s (d - 2) n hmI hs).mono ?_); rintro e w2 ⟨rfl, hb2⟩; have B2 := hid2 (gr2 B1.out hb2); have C2 := hid2 (C1.out.below hb2); clear hb2)
      | (go_at_call 38; (with_reducible refine (places_ C0.out (by omega) a s f t ha hs).mono ?_); rintro e w1 ⟨rfl, hb1⟩; have B1 := hid2 (gr2 B0.out hb1); have C1 := hid2 (C0.out.below hb1); clear hb1))
    go_ret
    exact ⟨rfl, B3.out⟩
  · have t1 : decide ((40 : Int) < (n : Int)) = true := by simp; omega
    have hm1 : (n : Int) ≤ 9223372036854775807 := by omega
    go_enter Try.func8, Try.ntmps8
    go_wp2_with (first
      | (go_at_call 35; (with_reducible refine (known05 w).mono ?_); rintro e w0 ⟨rfl, hb0⟩))
    go_ret
    exact ⟨rfl, hb0⟩
end Go.Proofs.Ytbdnnkokkgdhnaa
