/- The functions of package sec, each by what it computes. -/
import Derived.Test.YtkaoajfdbjlioaaDoorProg
import Derived.Test.YtkaoajfdbjlioaaDoorFlow
import Derived.Test.YtkaoajfdbjlioaaDoorMath
namespace Go.Proofs.YtkaoajfdbjlioaaDoor
open Go.RowKit

theorem sec_of (n : Int) (w : World) :
    Calls Tryd.prog 49 #[.int .i64 n] w fun e w' => e = .returned (.agg #[.int .i64 n]) ∧ Below w.heap.size w w' := by
  go_enter Tryd.func49, Tryd.ntmps49
  go_wp2
  exact bodyPost_ret (by simp [results, Tryd.results49, go_sem] <;> rfl) rfl ⟨rfl, gr1 (gr0 _) _⟩

theorem sec_add (a b : Int) (w : World) :
    Calls Tryd.prog 58 #[.agg #[.int .i64 a], .agg #[.int .i64 b]] w fun e w' => e = .returned (.agg #[.int .i64 (wrap64 (a + b))]) ∧ Below w.heap.size w w' := by
  go_enter Tryd.func58, Tryd.ntmps58
  go_wp2
  exact bodyPost_ret (by simp [results, Tryd.results58, go_sem] <;> rfl) rfl ⟨rfl, gr1 (gr1 (gr1 (gr0 _) _) _) _⟩


theorem sec_mul (a b : Int) (w : World) :
    Calls Tryd.prog 53 #[.agg #[.int .i64 a], .agg #[.int .i64 b]] w fun e w' => e = .returned (.agg #[.int .i64 (wrap64 (a * b))]) ∧ Below w.heap.size w w' := by
  go_enter Tryd.func53, Tryd.ntmps53
  go_wp2
  exact bodyPost_ret (by simp [results, Tryd.results53, go_sem] <;> rfl) rfl ⟨rfl, gr1 (gr1 (gr1 (gr0 _) _) _) _⟩





theorem sec_neg (a : Int) (w : World) :
    Calls Tryd.prog 65 #[.agg #[.int .i64 a]] w fun e w' => e = .returned (.agg #[.int .i64 (secNeg a)]) ∧ Below w.heap.size w w' := by
  go_enter Tryd.func65, Tryd.ntmps65
  go_wp2
  exact bodyPost_ret (by simp [results, Tryd.results65, go_sem] <;> rfl) rfl ⟨rfl, gr1 (gr1 (gr0 _) _) _⟩

theorem sec_sign (a : Int) (w : World) :
    Calls Tryd.prog 68 #[.agg #[.int .i64 a]] w fun e w' => e = .returned (.agg #[.int .i64 (secSign a)]) ∧ Below w.heap.size w w' := by
  go_enter Tryd.func68, Tryd.ntmps68
  go_wp2
  exact bodyPost_ret (by simp [results, Tryd.results68, go_sem] <;> rfl) rfl ⟨rfl, gr1 (gr1 (gr0 _) _) _⟩

theorem sec_select (m a b : Int) (w : World) :
    Calls Tryd.prog 63 #[.agg #[.int .i64 m], .agg #[.int .i64 a], .agg #[.int .i64 b]] w fun e w' => e = .returned (.agg #[.int .i64 (secSelect m a b)]) ∧ Below w.heap.size w w' := by
  go_enter Tryd.func63, Tryd.ntmps63
  go_wp2
  exact bodyPost_ret (by simp [results, Tryd.results63, go_sem] <;> rfl) rfl ⟨rfl, gr1 (gr1 (gr1 (gr1 (gr0 _) _) _) _) _⟩

theorem sec_less (a b : Int) (w : World) :
    Calls Tryd.prog 64 #[.agg #[.int .i64 a], .agg #[.int .i64 b]] w fun e w' => e = .returned (.agg #[.int .i64 (secLess a b)]) ∧ Below w.heap.size w w' := by
  go_enter Tryd.func64, Tryd.ntmps64
  go_wp2_with (go_at_call 68; refine (sec_sign _ _).mono ?_; rintro e W1 ⟨rfl, hb1⟩; obtain ⟨hc1, hf1, hz1⟩ := bcell hb1; try simp at hz1)
  exact bodyPost_ret (by simp [results, Tryd.results64, go_sem, hc1] <;> rfl) rfl ⟨rfl, gr4 (gr2 (gr1 (gr1 (gr1 (gr0 _) _) _) _) hb1) (by simp; omega) _⟩


theorem sec_shift (a : Int) (w : World) :
    Calls Tryd.prog 69 #[.int .i64 a] w fun e w' => e = .returned (.int .i64 (shiftOf a)) ∧ Below w.heap.size w w' := by
  go_enter Tryd.func69, Tryd.ntmps69
  go_wp2
  all_goals go_ret
  all_goals exact ⟨ret_int (by unfold shiftOf; omega), gr0 _⟩


theorem sec_shr (a n : Int) (w : World) :
    Calls Tryd.prog 62 #[.agg #[.int .i64 a], .int .i64 n] w fun e w' => e = .returned (.agg #[.int .i64 (secShr a n)]) ∧ Below w.heap.size w w' := by
  have hs := (shiftOf_in n).1
  go_enter Tryd.func62, Tryd.ntmps62
  go_wp2_with fail
  refine wp_region_calm_tail 6 (by kernel_rfl) (by kernel_rfl) ?_
  simp only [List.take_succ_cons, List.take_zero, List.drop_succ_cons, List.drop_zero]
  repeat (first | go_big_quiet_step ((first | (go_at_call 69; exact calm_call (sec_shift _ _)))) | quiet_step ((first | (go_at_call 69; exact calm_call (sec_shift _ _)))))
  refine wpQuiet_nil ?_
  intro u
  have hzu := u.below.size
  try simp at hzu
  go_wp2
  exact bodyPost_ret (by simp [results, Tryd.results62, go_sem] <;> rfl) rfl ⟨rfl, gr4 (gr2 (gr1 (gr1 (gr0 _) _) _) u.below) (by simp) _⟩

theorem sec_abs (a : Int) (w : World) :
    Calls Tryd.prog 61 #[.agg #[.int .i64 a]] w fun e w' => e = .returned (.agg #[.int .i64 (secAbs a)]) ∧ Below w.heap.size w w' := by
  go_enter Tryd.func61, Tryd.ntmps61
  go_wp2_with fail
  refine wp_region_calm_tail 6 (by kernel_rfl) (by kernel_rfl) ?_
  simp only [List.take_succ_cons, List.take_zero, List.drop_succ_cons, List.drop_zero]
  repeat (first | go_big_quiet_step ((first | (go_at_call 68; exact calm_call (sec_sign _ _)) | (go_at_call 65; exact calm_call (sec_neg _ _)) | (go_at_call 63; exact calm_call (sec_select _ _ _ _)))) | quiet_step ((first | (go_at_call 68; exact calm_call (sec_sign _ _)) | (go_at_call 65; exact calm_call (sec_neg _ _)) | (go_at_call 63; exact calm_call (sec_select _ _ _ _)))))
  refine wpQuiet_nil ?_
  intro u
  have hzu := u.below.size
  try simp at hzu
  go_wp2
  exact bodyPost_ret (by simp [results, Tryd.results61, go_sem] <;> rfl) rfl ⟨rfl, gr4 (gr2 (gr1 (gr1 (gr0 _) _) _) u.below) (by simp) _⟩

theorem sec_clip (a low high : Int) (w : World) :
    Calls Tryd.prog 52 #[.agg #[.int .i64 a], .int .i64 low, .int .i64 high] w fun e w' => e = .returned (.agg #[.int .i64 (secClip a low high)]) ∧ Below w.heap.size w w' := by
  go_enter Tryd.func52, Tryd.ntmps52
  go_wp2_with (go_at_call 49; refine (sec_of _ _).mono ?_; rintro e W1 ⟨rfl, hb1⟩; obtain ⟨hc1, hf1, hz1⟩ := bcell hb1; try simp at hz1)
  refine wp_region_calm (by kernel_rfl) (by kernel_rfl) ?_
  repeat (first | go_big_quiet_step (fail) | quiet_step (fail))
  refine wpQuiet_nil ?_
  intro u
  have hzu := u.below.size
  try simp at hzu
  go_wp2_with fail
  refine wp_region_calm_tail 11 (by kernel_rfl) (by kernel_rfl) ?_
  simp only [List.take_succ_cons, List.take_zero, List.drop_succ_cons, List.drop_zero]
  repeat (first | go_big_quiet_step ((first | (go_at_call 64; exact calm_call (sec_less _ _ _)) | (go_at_call 63; exact calm_call (sec_select _ _ _ _)))) | quiet_step ((first | (go_at_call 64; exact calm_call (sec_less _ _ _)) | (go_at_call 63; exact calm_call (sec_select _ _ _ _)))))
  refine wpQuiet_nil ?_
  intro v
  have hzv := v.below.size
  try simp at hzv
  go_wp2
  exact bodyPost_ret (by simp [results, Tryd.results52, go_sem, *, ↓IntWalk.iteOmega] <;> rfl) rfl ⟨rfl, gr4 (gr2 (gr2 (gr1 (gr1 (gr2 (gr2 (gr1 (gr1 (gr0 _) _) _) (by assumption)) hb1) _) _) u.below) v.below) (by simp) _⟩

end Go.Proofs.YtkaoajfdbjlioaaDoor
