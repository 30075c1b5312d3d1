/- The functions of package sec, each by what it computes. -/
import Derived.Test.YtdpiikpodcanjaaProg
import Derived.Test.YtdpiikpodcanjaaFlow
import Derived.Test.YtdpiikpodcanjaaMath
namespace Go.Proofs.Ytdpiikpodcanjaa
open Go.RowKit

theorem sec_of (n : Int) (w : World) :
    Calls Try.prog 50 #[.int .i64 n] w fun e w' => e = .returned (.agg #[.int .i64 n]) ∧ Below w.heap.size w w' := by
  go_enter Try.func50, Try.ntmps50
  go_wp2
  exact bodyPost_ret (by simp [results, Try.results50, go_sem] <;> rfl) rfl ⟨rfl, gr1 (gr0 _) _⟩

theorem sec_add (a b : Int) (w : World) :
    Calls Try.prog 89 #[.agg #[.int .i64 a], .agg #[.int .i64 b]] w fun e w' => e = .returned (.agg #[.int .i64 (wrap64 (a + b))]) ∧ Below w.heap.size w w' := by
  go_enter Try.func89, Try.ntmps89
  go_wp2
  exact bodyPost_ret (by simp [results, Try.results89, go_sem] <;> rfl) rfl ⟨rfl, gr1 (gr1 (gr1 (gr0 _) _) _) _⟩


theorem sec_mul (a b : Int) (w : World) :
    Calls Try.prog 90 #[.agg #[.int .i64 a], .agg #[.int .i64 b]] w fun e w' => e = .returned (.agg #[.int .i64 (wrap64 (a * b))]) ∧ Below w.heap.size w w' := by
  go_enter Try.func90, Try.ntmps90
  go_wp2
  exact bodyPost_ret (by simp [results, Try.results90, go_sem] <;> rfl) rfl ⟨rfl, gr1 (gr1 (gr1 (gr0 _) _) _) _⟩






theorem sec_sign (a : Int) (w : World) :
    Calls Try.prog 101 #[.agg #[.int .i64 a]] w fun e w' => e = .returned (.agg #[.int .i64 (secSign a)]) ∧ Below w.heap.size w w' := by
  go_enter Try.func101, Try.ntmps101
  go_wp2
  exact bodyPost_ret (by simp [results, Try.results101, go_sem] <;> rfl) rfl ⟨rfl, gr1 (gr1 (gr0 _) _) _⟩

theorem sec_select (m a b : Int) (w : World) :
    Calls Try.prog 99 #[.agg #[.int .i64 m], .agg #[.int .i64 a], .agg #[.int .i64 b]] w fun e w' => e = .returned (.agg #[.int .i64 (secSelect m a b)]) ∧ Below w.heap.size w w' := by
  go_enter Try.func99, Try.ntmps99
  go_wp2
  exact bodyPost_ret (by simp [results, Try.results99, go_sem] <;> rfl) rfl ⟨rfl, gr1 (gr1 (gr1 (gr1 (gr0 _) _) _) _) _⟩

theorem sec_less (a b : Int) (w : World) :
    Calls Try.prog 98 #[.agg #[.int .i64 a], .agg #[.int .i64 b]] w fun e w' => e = .returned (.agg #[.int .i64 (secLess a b)]) ∧ Below w.heap.size w w' := by
  go_enter Try.func98, Try.ntmps98
  go_wp2_with (go_at_call 101; refine (sec_sign _ _).mono ?_; rintro e W1 ⟨rfl, hb1⟩; obtain ⟨hc1, hf1, hz1⟩ := bcell hb1; try simp at hz1)
  exact bodyPost_ret (by simp [results, Try.results98, go_sem, hc1] <;> rfl) rfl ⟨rfl, gr4 (gr2 (gr1 (gr1 (gr1 (gr0 _) _) _) _) hb1) (by simp; omega) _⟩


theorem sec_shift (a : Int) (w : World) :
    Calls Try.prog 97 #[.int .i64 a] w fun e w' => e = .returned (.int .i64 (shiftOf a)) ∧ Below w.heap.size w w' := by
  go_enter Try.func97, Try.ntmps97
  go_wp2
  all_goals go_ret
  all_goals exact ⟨ret_int (by unfold shiftOf; omega), gr0 _⟩


theorem sec_shr (a n : Int) (w : World) :
    Calls Try.prog 91 #[.agg #[.int .i64 a], .int .i64 n] w fun e w' => e = .returned (.agg #[.int .i64 (secShr a n)]) ∧ Below w.heap.size w w' := by
  have hs := (shiftOf_in n).1
  go_enter Try.func91, Try.ntmps91
  go_wp2_with fail
  refine wp_region_calm_tail 6 (by kernel_rfl) (by kernel_rfl) ?_
  simp only [List.take_succ_cons, List.take_zero, List.drop_succ_cons, List.drop_zero]
  repeat (first | go_big_quiet_step ((first | (go_at_call 97; exact calm_call (sec_shift _ _)))) | quiet_step ((first | (go_at_call 97; exact calm_call (sec_shift _ _)))))
  refine wpQuiet_nil ?_
  intro u
  have hzu := u.below.size
  try simp at hzu
  go_wp2
  exact bodyPost_ret (by simp [results, Try.results91, go_sem] <;> rfl) rfl ⟨rfl, gr4 (gr2 (gr1 (gr1 (gr0 _) _) _) u.below) (by simp) _⟩


theorem sec_clip (a low high : Int) (w : World) :
    Calls Try.prog 92 #[.agg #[.int .i64 a], .int .i64 low, .int .i64 high] w fun e w' => e = .returned (.agg #[.int .i64 (secClip a low high)]) ∧ Below w.heap.size w w' := by
  go_enter Try.func92, Try.ntmps92
  go_wp2_with (go_at_call 50; refine (sec_of _ _).mono ?_; rintro e W1 ⟨rfl, hb1⟩; obtain ⟨hc1, hf1, hz1⟩ := bcell hb1; try simp at hz1)
  refine wp_region_calm (by kernel_rfl) (by kernel_rfl) ?_
  repeat (first | go_big_quiet_step (fail) | quiet_step (fail))
  refine wpQuiet_nil ?_
  intro u
  have hzu := u.below.size
  try simp at hzu
  go_wp2_with fail
  refine wp_region_calm_tail 11 (by kernel_rfl) (by kernel_rfl) ?_
  simp only [List.take_succ_cons, List.take_zero, List.drop_succ_cons, List.drop_zero]
  repeat (first | go_big_quiet_step ((first | (go_at_call 98; exact calm_call (sec_less _ _ _)) | (go_at_call 99; exact calm_call (sec_select _ _ _ _)))) | quiet_step ((first | (go_at_call 98; exact calm_call (sec_less _ _ _)) | (go_at_call 99; exact calm_call (sec_select _ _ _ _)))))
  refine wpQuiet_nil ?_
  intro v
  have hzv := v.below.size
  try simp at hzv
  go_wp2
  exact bodyPost_ret (by simp [results, Try.results92, go_sem, *, ↓IntWalk.iteOmega] <;> rfl) rfl ⟨rfl, gr4 (gr2 (gr2 (gr1 (gr1 (gr2 (gr2 (gr1 (gr1 (gr0 _) _) _) (by assumption)) hb1) _) _) u.below) v.below) (by simp) _⟩

end Go.Proofs.Ytdpiikpodcanjaa
