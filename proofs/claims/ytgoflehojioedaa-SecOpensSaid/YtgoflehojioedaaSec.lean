/- The functions of package sec, each by what it computes. -/
import Derived.Test.YtgoflehojioedaaProg
import Derived.Test.YtgoflehojioedaaFlow
import Derived.Test.YtgoflehojioedaaMath
namespace Go.Proofs.Ytgoflehojioedaa
open Go.RowKit

theorem sec_of (n : Int) (w : World) :
    Calls Try.prog 15 #[.int .i64 n] w fun e w' => e = .returned (.agg #[.int .i64 n]) ∧ Below w.heap.size w w' := by
  go_enter Try.func15, Try.ntmps15
  go_wp2
  exact bodyPost_ret (by simp [results, Try.results15, go_sem] <;> rfl) rfl ⟨rfl, gr1 (gr0 _) _⟩

theorem sec_add (a b : Int) (w : World) :
    Calls Try.prog 23 #[.agg #[.int .i64 a], .agg #[.int .i64 b]] w fun e w' => e = .returned (.agg #[.int .i64 (wrap64 (a + b))]) ∧ Below w.heap.size w w' := by
  go_enter Try.func23, Try.ntmps23
  go_wp2
  exact bodyPost_ret (by simp [results, Try.results23, go_sem] <;> rfl) rfl ⟨rfl, gr1 (gr1 (gr1 (gr0 _) _) _) _⟩

theorem sec_sub (a b : Int) (w : World) :
    Calls Try.prog 24 #[.agg #[.int .i64 a], .agg #[.int .i64 b]] w fun e w' => e = .returned (.agg #[.int .i64 (wrap64 (a - b))]) ∧ Below w.heap.size w w' := by
  go_enter Try.func24, Try.ntmps24
  go_wp2
  exact bodyPost_ret (by simp [results, Try.results24, go_sem] <;> rfl) rfl ⟨rfl, gr1 (gr1 (gr1 (gr0 _) _) _) _⟩

theorem sec_mul (a b : Int) (w : World) :
    Calls Try.prog 25 #[.agg #[.int .i64 a], .agg #[.int .i64 b]] w fun e w' => e = .returned (.agg #[.int .i64 (wrap64 (a * b))]) ∧ Below w.heap.size w w' := by
  go_enter Try.func25, Try.ntmps25
  go_wp2
  exact bodyPost_ret (by simp [results, Try.results25, go_sem] <;> rfl) rfl ⟨rfl, gr1 (gr1 (gr1 (gr0 _) _) _) _⟩

theorem sec_and (a b : Int) (w : World) :
    Calls Try.prog 29 #[.agg #[.int .i64 a], .agg #[.int .i64 b]] w fun e w' => e = .returned (.agg #[.int .i64 (bits .and .i64 a b)]) ∧ Below w.heap.size w w' := by
  go_enter Try.func29, Try.ntmps29
  go_wp2
  exact bodyPost_ret (by simp [results, Try.results29, go_sem] <;> rfl) rfl ⟨rfl, gr1 (gr1 (gr1 (gr0 _) _) _) _⟩

theorem sec_or (a b : Int) (w : World) :
    Calls Try.prog 30 #[.agg #[.int .i64 a], .agg #[.int .i64 b]] w fun e w' => e = .returned (.agg #[.int .i64 (bits .or .i64 a b)]) ∧ Below w.heap.size w w' := by
  go_enter Try.func30, Try.ntmps30
  go_wp2
  exact bodyPost_ret (by simp [results, Try.results30, go_sem] <;> rfl) rfl ⟨rfl, gr1 (gr1 (gr1 (gr0 _) _) _) _⟩

theorem sec_xor (a b : Int) (w : World) :
    Calls Try.prog 28 #[.agg #[.int .i64 a], .agg #[.int .i64 b]] w fun e w' => e = .returned (.agg #[.int .i64 (bits .xor .i64 a b)]) ∧ Below w.heap.size w w' := by
  go_enter Try.func28, Try.ntmps28
  go_wp2
  exact bodyPost_ret (by simp [results, Try.results28, go_sem] <;> rfl) rfl ⟨rfl, gr1 (gr1 (gr1 (gr0 _) _) _) _⟩

theorem sec_not (a : Int) (w : World) :
    Calls Try.prog 27 #[.agg #[.int .i64 a]] w fun e w' => e = .returned (.agg #[.int .i64 (secNot a)]) ∧ Below w.heap.size w w' := by
  go_enter Try.func27, Try.ntmps27
  go_wp2
  exact bodyPost_ret (by simp [results, Try.results27, go_sem] <;> rfl) rfl ⟨rfl, gr1 (gr1 (gr0 _) _) _⟩

theorem sec_neg (a : Int) (w : World) :
    Calls Try.prog 31 #[.agg #[.int .i64 a]] w fun e w' => e = .returned (.agg #[.int .i64 (secNeg a)]) ∧ Below w.heap.size w w' := by
  go_enter Try.func31, Try.ntmps31
  go_wp2
  exact bodyPost_ret (by simp [results, Try.results31, go_sem] <;> rfl) rfl ⟨rfl, gr1 (gr1 (gr0 _) _) _⟩

theorem sec_sign (a : Int) (w : World) :
    Calls Try.prog 54 #[.agg #[.int .i64 a]] w fun e w' => e = .returned (.agg #[.int .i64 (secSign a)]) ∧ Below w.heap.size w w' := by
  go_enter Try.func54, Try.ntmps54
  go_wp2
  exact bodyPost_ret (by simp [results, Try.results54, go_sem] <;> rfl) rfl ⟨rfl, gr1 (gr1 (gr0 _) _) _⟩

theorem sec_select (m a b : Int) (w : World) :
    Calls Try.prog 26 #[.agg #[.int .i64 m], .agg #[.int .i64 a], .agg #[.int .i64 b]] w fun e w' => e = .returned (.agg #[.int .i64 (secSelect m a b)]) ∧ Below w.heap.size w w' := by
  go_enter Try.func26, Try.ntmps26
  go_wp2
  exact bodyPost_ret (by simp [results, Try.results26, go_sem] <;> rfl) rfl ⟨rfl, gr1 (gr1 (gr1 (gr1 (gr0 _) _) _) _) _⟩

theorem sec_less (a b : Int) (w : World) :
    Calls Try.prog 22 #[.agg #[.int .i64 a], .agg #[.int .i64 b]] w fun e w' => e = .returned (.agg #[.int .i64 (secLess a b)]) ∧ Below w.heap.size w w' := by
  go_enter Try.func22, Try.ntmps22
  go_wp2_with (go_at_call 54; refine (sec_sign _ _).mono ?_; rintro e W1 ⟨rfl, hb1⟩; obtain ⟨hc1, hf1, hz1⟩ := bcell hb1; try simp at hz1)
  exact bodyPost_ret (by simp [results, Try.results22, go_sem, hc1] <;> rfl) rfl ⟨rfl, gr4 (gr2 (gr1 (gr1 (gr1 (gr0 _) _) _) _) hb1) (by simp; omega) _⟩

theorem sec_equal (a b : Int) (w : World) :
    Calls Try.prog 33 #[.agg #[.int .i64 a], .agg #[.int .i64 b]] w fun e w' => e = .returned (.agg #[.int .i64 (secEqual a b)]) ∧ Below w.heap.size w w' := by
  go_enter Try.func33, Try.ntmps33
  go_wp2_with (go_at_call 54; refine (sec_sign _ _).mono ?_; rintro e W1 ⟨rfl, hb1⟩; obtain ⟨hc1, hf1, hz1⟩ := bcell hb1; try simp at hz1)
  exact bodyPost_ret (by simp [results, Try.results33, go_sem, hc1] <;> rfl) rfl ⟨rfl, gr4 (gr2 (gr1 (gr1 (gr1 (gr0 _) _) _) _) hb1) (by simp; omega) _⟩

theorem sec_shift (a : Int) (w : World) :
    Calls Try.prog 52 #[.int .i64 a] w fun e w' => e = .returned (.int .i64 (shiftOf a)) ∧ Below w.heap.size w w' := by
  go_enter Try.func52, Try.ntmps52
  go_wp2
  all_goals go_ret
  all_goals exact ⟨ret_int (by unfold shiftOf; omega), gr0 _⟩

theorem sec_shl (a n : Int) (w : World) :
    Calls Try.prog 18 #[.agg #[.int .i64 a], .int .i64 n] w fun e w' => e = .returned (.agg #[.int .i64 (secShl a n)]) ∧ Below w.heap.size w w' := by
  have hs := (shiftOf_in n).1
  go_enter Try.func18, Try.ntmps18
  go_wp2_with fail
  refine wp_region_calm_tail 6 (by kernel_rfl) (by kernel_rfl) ?_
  simp only [List.take_succ_cons, List.take_zero, List.drop_succ_cons, List.drop_zero]
  repeat (first | go_big_quiet_step ((first | (go_at_call 52; exact calm_call (sec_shift _ _)))) | quiet_step ((first | (go_at_call 52; exact calm_call (sec_shift _ _)))))
  refine wpQuiet_nil ?_
  intro u
  have hzu := u.below.size
  try simp at hzu
  go_wp2
  exact bodyPost_ret (by simp [results, Try.results18, go_sem] <;> rfl) rfl ⟨rfl, gr4 (gr2 (gr1 (gr1 (gr0 _) _) _) u.below) (by simp) _⟩

theorem sec_shr (a n : Int) (w : World) :
    Calls Try.prog 20 #[.agg #[.int .i64 a], .int .i64 n] w fun e w' => e = .returned (.agg #[.int .i64 (secShr a n)]) ∧ Below w.heap.size w w' := by
  have hs := (shiftOf_in n).1
  go_enter Try.func20, Try.ntmps20
  go_wp2_with fail
  refine wp_region_calm_tail 6 (by kernel_rfl) (by kernel_rfl) ?_
  simp only [List.take_succ_cons, List.take_zero, List.drop_succ_cons, List.drop_zero]
  repeat (first | go_big_quiet_step ((first | (go_at_call 52; exact calm_call (sec_shift _ _)))) | quiet_step ((first | (go_at_call 52; exact calm_call (sec_shift _ _)))))
  refine wpQuiet_nil ?_
  intro u
  have hzu := u.below.size
  try simp at hzu
  go_wp2
  exact bodyPost_ret (by simp [results, Try.results20, go_sem] <;> rfl) rfl ⟨rfl, gr4 (gr2 (gr1 (gr1 (gr0 _) _) _) u.below) (by simp) _⟩

theorem sec_abs (a : Int) (w : World) :
    Calls Try.prog 38 #[.agg #[.int .i64 a]] w fun e w' => e = .returned (.agg #[.int .i64 (secAbs a)]) ∧ Below w.heap.size w w' := by
  go_enter Try.func38, Try.ntmps38
  go_wp2_with fail
  refine wp_region_calm_tail 6 (by kernel_rfl) (by kernel_rfl) ?_
  simp only [List.take_succ_cons, List.take_zero, List.drop_succ_cons, List.drop_zero]
  repeat (first | go_big_quiet_step ((first | (go_at_call 54; exact calm_call (sec_sign _ _)) | (go_at_call 31; exact calm_call (sec_neg _ _)) | (go_at_call 26; exact calm_call (sec_select _ _ _ _)))) | quiet_step ((first | (go_at_call 54; exact calm_call (sec_sign _ _)) | (go_at_call 31; exact calm_call (sec_neg _ _)) | (go_at_call 26; exact calm_call (sec_select _ _ _ _)))))
  refine wpQuiet_nil ?_
  intro u
  have hzu := u.below.size
  try simp at hzu
  go_wp2
  exact bodyPost_ret (by simp [results, Try.results38, go_sem] <;> rfl) rfl ⟨rfl, gr4 (gr2 (gr1 (gr1 (gr0 _) _) _) u.below) (by simp) _⟩

theorem sec_clip (a low high : Int) (w : World) :
    Calls Try.prog 32 #[.agg #[.int .i64 a], .int .i64 low, .int .i64 high] w fun e w' => e = .returned (.agg #[.int .i64 (secClip a low high)]) ∧ Below w.heap.size w w' := by
  go_enter Try.func32, Try.ntmps32
  go_wp2_with (go_at_call 15; refine (sec_of _ _).mono ?_; rintro e W1 ⟨rfl, hb1⟩; obtain ⟨hc1, hf1, hz1⟩ := bcell hb1; try simp at hz1)
  refine wp_region_calm (by kernel_rfl) (by kernel_rfl) ?_
  repeat (first | go_big_quiet_step (fail) | quiet_step (fail))
  refine wpQuiet_nil ?_
  intro u
  have hzu := u.below.size
  try simp at hzu
  go_wp2_with fail
  refine wp_region_calm_tail 11 (by kernel_rfl) (by kernel_rfl) ?_
  simp only [List.take_succ_cons, List.take_zero, List.drop_succ_cons, List.drop_zero]
  repeat (first | go_big_quiet_step ((first | (go_at_call 22; exact calm_call (sec_less _ _ _)) | (go_at_call 26; exact calm_call (sec_select _ _ _ _)))) | quiet_step ((first | (go_at_call 22; exact calm_call (sec_less _ _ _)) | (go_at_call 26; exact calm_call (sec_select _ _ _ _)))))
  refine wpQuiet_nil ?_
  intro v
  have hzv := v.below.size
  try simp at hzv
  go_wp2
  exact bodyPost_ret (by simp [results, Try.results32, go_sem, *, ↓IntWalk.iteOmega] <;> rfl) rfl ⟨rfl, gr4 (gr2 (gr2 (gr1 (gr1 (gr2 (gr2 (gr1 (gr1 (gr0 _) _) _) (by assumption)) hb1) _) _) u.below) v.below) (by simp) _⟩

end Go.Proofs.Ytgoflehojioedaa
