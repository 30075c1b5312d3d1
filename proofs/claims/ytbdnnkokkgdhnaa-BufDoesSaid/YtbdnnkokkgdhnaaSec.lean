/- The functions of package sec, each by what it computes. -/
import Derived.Test.YtbdnnkokkgdhnaaProg
import Derived.Test.YtbdnnkokkgdhnaaFlow
import Derived.Test.YtbdnnkokkgdhnaaMath
namespace Go.Proofs.Ytbdnnkokkgdhnaa
open Go.RowKit

theorem sec_of (n : Int) (w : World) :
    Calls Try.prog 19 #[.int .i64 n] w fun e w' => e = .returned (.agg #[.int .i64 n]) ∧ Below w.heap.size w w' := by
  go_enter Try.func19, Try.ntmps19
  go_wp2
  exact bodyPost_ret (by simp [results, Try.results19, go_sem] <;> rfl) rfl ⟨rfl, gr1 (gr0 _) _⟩

theorem sec_add (a b : Int) (w : World) :
    Calls Try.prog 67 #[.agg #[.int .i64 a], .agg #[.int .i64 b]] w fun e w' => e = .returned (.agg #[.int .i64 (wrap64 (a + b))]) ∧ Below w.heap.size w w' := by
  go_enter Try.func67, Try.ntmps67
  go_wp2
  exact bodyPost_ret (by simp [results, Try.results67, go_sem] <;> rfl) rfl ⟨rfl, gr1 (gr1 (gr1 (gr0 _) _) _) _⟩


theorem sec_mul (a b : Int) (w : World) :
    Calls Try.prog 64 #[.agg #[.int .i64 a], .agg #[.int .i64 b]] w fun e w' => e = .returned (.agg #[.int .i64 (wrap64 (a * b))]) ∧ Below w.heap.size w w' := by
  go_enter Try.func64, Try.ntmps64
  go_wp2
  exact bodyPost_ret (by simp [results, Try.results64, go_sem] <;> rfl) rfl ⟨rfl, gr1 (gr1 (gr1 (gr0 _) _) _) _⟩

theorem sec_and (a b : Int) (w : World) :
    Calls Try.prog 73 #[.agg #[.int .i64 a], .agg #[.int .i64 b]] w fun e w' => e = .returned (.agg #[.int .i64 (bits .and .i64 a b)]) ∧ Below w.heap.size w w' := by
  go_enter Try.func73, Try.ntmps73
  go_wp2
  exact bodyPost_ret (by simp [results, Try.results73, go_sem] <;> rfl) rfl ⟨rfl, gr1 (gr1 (gr1 (gr0 _) _) _) _⟩

theorem sec_or (a b : Int) (w : World) :
    Calls Try.prog 72 #[.agg #[.int .i64 a], .agg #[.int .i64 b]] w fun e w' => e = .returned (.agg #[.int .i64 (bits .or .i64 a b)]) ∧ Below w.heap.size w w' := by
  go_enter Try.func72, Try.ntmps72
  go_wp2
  exact bodyPost_ret (by simp [results, Try.results72, go_sem] <;> rfl) rfl ⟨rfl, gr1 (gr1 (gr1 (gr0 _) _) _) _⟩



theorem sec_neg (a : Int) (w : World) :
    Calls Try.prog 69 #[.agg #[.int .i64 a]] w fun e w' => e = .returned (.agg #[.int .i64 (secNeg a)]) ∧ Below w.heap.size w w' := by
  go_enter Try.func69, Try.ntmps69
  go_wp2
  exact bodyPost_ret (by simp [results, Try.results69, go_sem] <;> rfl) rfl ⟨rfl, gr1 (gr1 (gr0 _) _) _⟩

theorem sec_sign (a : Int) (w : World) :
    Calls Try.prog 83 #[.agg #[.int .i64 a]] w fun e w' => e = .returned (.agg #[.int .i64 (secSign a)]) ∧ Below w.heap.size w w' := by
  go_enter Try.func83, Try.ntmps83
  go_wp2
  exact bodyPost_ret (by simp [results, Try.results83, go_sem] <;> rfl) rfl ⟨rfl, gr1 (gr1 (gr0 _) _) _⟩

theorem sec_select (m a b : Int) (w : World) :
    Calls Try.prog 55 #[.agg #[.int .i64 m], .agg #[.int .i64 a], .agg #[.int .i64 b]] w fun e w' => e = .returned (.agg #[.int .i64 (secSelect m a b)]) ∧ Below w.heap.size w w' := by
  go_enter Try.func55, Try.ntmps55
  go_wp2
  exact bodyPost_ret (by simp [results, Try.results55, go_sem] <;> rfl) rfl ⟨rfl, gr1 (gr1 (gr1 (gr1 (gr0 _) _) _) _) _⟩

theorem sec_less (a b : Int) (w : World) :
    Calls Try.prog 68 #[.agg #[.int .i64 a], .agg #[.int .i64 b]] w fun e w' => e = .returned (.agg #[.int .i64 (secLess a b)]) ∧ Below w.heap.size w w' := by
  go_enter Try.func68, Try.ntmps68
  go_wp2_with (go_at_call 83; refine (sec_sign _ _).mono ?_; rintro e W1 ⟨rfl, hb1⟩; obtain ⟨hc1, hf1, hz1⟩ := bcell hb1; try simp at hz1)
  exact bodyPost_ret (by simp [results, Try.results68, go_sem, hc1] <;> rfl) rfl ⟨rfl, gr4 (gr2 (gr1 (gr1 (gr1 (gr0 _) _) _) _) hb1) (by simp; omega) _⟩

theorem sec_equal (a b : Int) (w : World) :
    Calls Try.prog 78 #[.agg #[.int .i64 a], .agg #[.int .i64 b]] w fun e w' => e = .returned (.agg #[.int .i64 (secEqual a b)]) ∧ Below w.heap.size w w' := by
  go_enter Try.func78, Try.ntmps78
  go_wp2_with (go_at_call 83; refine (sec_sign _ _).mono ?_; rintro e W1 ⟨rfl, hb1⟩; obtain ⟨hc1, hf1, hz1⟩ := bcell hb1; try simp at hz1)
  exact bodyPost_ret (by simp [results, Try.results78, go_sem, hc1] <;> rfl) rfl ⟨rfl, gr4 (gr2 (gr1 (gr1 (gr1 (gr0 _) _) _) _) hb1) (by simp; omega) _⟩

theorem sec_shift (a : Int) (w : World) :
    Calls Try.prog 82 #[.int .i64 a] w fun e w' => e = .returned (.int .i64 (shiftOf a)) ∧ Below w.heap.size w w' := by
  go_enter Try.func82, Try.ntmps82
  go_wp2
  all_goals go_ret
  all_goals exact ⟨ret_int (by unfold shiftOf; omega), gr0 _⟩

theorem sec_shl (a n : Int) (w : World) :
    Calls Try.prog 75 #[.agg #[.int .i64 a], .int .i64 n] w fun e w' => e = .returned (.agg #[.int .i64 (secShl a n)]) ∧ Below w.heap.size w w' := by
  have hs := (shiftOf_in n).1
  go_enter Try.func75, Try.ntmps75
  go_wp2_with fail
  refine wp_region_calm_tail 6 (by kernel_rfl) (by kernel_rfl) ?_
  simp only [List.take_succ_cons, List.take_zero, List.drop_succ_cons, List.drop_zero]
  repeat (first | go_big_quiet_step ((first | (go_at_call 82; exact calm_call (sec_shift _ _)))) | quiet_step ((first | (go_at_call 82; exact calm_call (sec_shift _ _)))))
  refine wpQuiet_nil ?_
  intro u
  have hzu := u.below.size
  try simp at hzu
  go_wp2
  exact bodyPost_ret (by simp [results, Try.results75, go_sem] <;> rfl) rfl ⟨rfl, gr4 (gr2 (gr1 (gr1 (gr0 _) _) _) u.below) (by simp) _⟩

theorem sec_shr (a n : Int) (w : World) :
    Calls Try.prog 65 #[.agg #[.int .i64 a], .int .i64 n] w fun e w' => e = .returned (.agg #[.int .i64 (secShr a n)]) ∧ Below w.heap.size w w' := by
  have hs := (shiftOf_in n).1
  go_enter Try.func65, Try.ntmps65
  go_wp2_with fail
  refine wp_region_calm_tail 6 (by kernel_rfl) (by kernel_rfl) ?_
  simp only [List.take_succ_cons, List.take_zero, List.drop_succ_cons, List.drop_zero]
  repeat (first | go_big_quiet_step ((first | (go_at_call 82; exact calm_call (sec_shift _ _)))) | quiet_step ((first | (go_at_call 82; exact calm_call (sec_shift _ _)))))
  refine wpQuiet_nil ?_
  intro u
  have hzu := u.below.size
  try simp at hzu
  go_wp2
  exact bodyPost_ret (by simp [results, Try.results65, go_sem] <;> rfl) rfl ⟨rfl, gr4 (gr2 (gr1 (gr1 (gr0 _) _) _) u.below) (by simp) _⟩

theorem sec_abs (a : Int) (w : World) :
    Calls Try.prog 66 #[.agg #[.int .i64 a]] w fun e w' => e = .returned (.agg #[.int .i64 (secAbs a)]) ∧ Below w.heap.size w w' := by
  go_enter Try.func66, Try.ntmps66
  go_wp2_with fail
  refine wp_region_calm_tail 6 (by kernel_rfl) (by kernel_rfl) ?_
  simp only [List.take_succ_cons, List.take_zero, List.drop_succ_cons, List.drop_zero]
  repeat (first | go_big_quiet_step ((first | (go_at_call 83; exact calm_call (sec_sign _ _)) | (go_at_call 69; exact calm_call (sec_neg _ _)) | (go_at_call 55; exact calm_call (sec_select _ _ _ _)))) | quiet_step ((first | (go_at_call 83; exact calm_call (sec_sign _ _)) | (go_at_call 69; exact calm_call (sec_neg _ _)) | (go_at_call 55; exact calm_call (sec_select _ _ _ _)))))
  refine wpQuiet_nil ?_
  intro u
  have hzu := u.below.size
  try simp at hzu
  go_wp2
  exact bodyPost_ret (by simp [results, Try.results66, go_sem] <;> rfl) rfl ⟨rfl, gr4 (gr2 (gr1 (gr1 (gr0 _) _) _) u.below) (by simp) _⟩


end Go.Proofs.Ytbdnnkokkgdhnaa
