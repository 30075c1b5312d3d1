/- The document's answers for package sec. -/
import Derived.Test.YtgoflehojioedaaOpen
namespace Go.Proofs.Ytgoflehojioedaa
open Go.RowKit

theorem ref_mask (b : Bool) (w : World) :
    Calls Try.prog 55 #[.bool b] w fun e w' => e = .returned (.int .i64 (mask b)) ∧ Below w.heap.size w w' := by
  go_enter Try.func55, Try.ntmps55
  cases b
  all_goals go_wp2
  all_goals go_ret
  all_goals exact ⟨rfl, gr0 _⟩
theorem ref_less (a b : Int) (w : World) :
    Calls Try.prog 34 #[.int .i64 a, .int .i64 b] w fun e w' => e = .returned (.int .i64 (mask (decide (a < b)))) ∧ Below w.heap.size w w' := by
  go_enter Try.func34, Try.ntmps34
  go_wp2_with (go_at_call 55; refine (ref_mask _ _).mono ?_; rintro e W1 ⟨rfl, hb1⟩)
  go_ret
  exact ⟨rfl, hb1⟩
theorem ref_equal (a b : Int) (w : World) :
    Calls Try.prog 35 #[.int .i64 a, .int .i64 b] w fun e w' => e = .returned (.int .i64 (mask (a == b))) ∧ Below w.heap.size w w' := by
  go_enter Try.func35, Try.ntmps35
  go_wp2_with (go_at_call 55; refine (ref_mask _ _).mono ?_; rintro e W1 ⟨rfl, hb1⟩)
  go_ret
  exact ⟨rfl, hb1⟩
theorem ref_shift (n : Int) (w : World) :
    Calls Try.prog 53 #[.int .i64 n] w fun e w' => e = .returned (.int .u64 (shiftOf n)) ∧ Below w.heap.size w w' := by
  go_enter Try.func53, Try.ntmps53
  by_cases h1 : n < 0
  · have h2 : n < 63 := by omega
    go_wp2
    go_ret
    exact ⟨ret_int (by unfold shiftOf; omega), gr0 _⟩
  · by_cases h2 : 63 < n
    · go_wp2
      go_ret
      exact ⟨ret_int (by unfold shiftOf; omega), gr0 _⟩
    · go_wp2
      all_goals go_ret
      all_goals exact ⟨ret_int (by unfold shiftOf; omega), gr0 _⟩
theorem ref_shl (a n : Int) (w : World) :
    Calls Try.prog 19 #[.int .i64 a, .int .i64 n] w fun e w' => e = .returned (.int .i64 (secShl a n)) ∧ Below w.heap.size w w' := by
  have hs := (shiftOf_in n).1
  go_enter Try.func19, Try.ntmps19
  go_wp2_with (go_at_call 53; refine (ref_shift _ _).mono ?_; rintro e W1 ⟨rfl, hb1⟩)
  go_ret
  exact ⟨rfl, hb1⟩
theorem ref_shr (a n : Int) (w : World) :
    Calls Try.prog 21 #[.int .i64 a, .int .i64 n] w fun e w' => e = .returned (.int .i64 (secShr a n)) ∧ Below w.heap.size w w' := by
  have hs := (shiftOf_in n).1
  go_enter Try.func21, Try.ntmps21
  go_wp2_with (go_at_call 53; refine (ref_shift _ _).mono ?_; rintro e W1 ⟨rfl, hb1⟩)
  go_ret
  exact ⟨rfl, hb1⟩
theorem ref_select (m a b : Int) (w : World) :
    Calls Try.prog 36 #[.int .i64 m, .int .i64 a, .int .i64 b] w fun e w' => e = .returned (.int .i64 (secSelect m a b)) ∧ Below w.heap.size w w' := by
  go_enter Try.func36, Try.ntmps36
  go_wp2
  go_ret
  exact ⟨ret_int (select_core m a b).symm, gr0 _⟩
theorem ref_clip (a low high : Int) (w : World) :
    Calls Try.prog 37 #[.int .i64 a, .int .i64 low, .int .i64 high] w fun e w' => e = .returned (.int .i64 (if a < low then low else if high < a then high else a)) ∧ Below w.heap.size w w' := by
  go_enter Try.func37, Try.ntmps37
  go_wp2
  all_goals go_ret
  all_goals exact ⟨ret_int (by simp [*] <;> omega), gr0 _⟩
theorem ref_abs (a : Int) (w : World) :
    Calls Try.prog 39 #[.int .i64 a] w fun e w' => e = .returned (.int .i64 (if a < 0 then wrap64 (-a) else a)) ∧ Below w.heap.size w w' := by
  go_enter Try.func39, Try.ntmps39
  go_wp2
  all_goals go_ret
  all_goals exact ⟨ret_int (by simp [*] <;> omega), gr0 _⟩
end Go.Proofs.Ytgoflehojioedaa
