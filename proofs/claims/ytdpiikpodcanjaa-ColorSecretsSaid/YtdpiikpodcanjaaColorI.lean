/- Colours, over plain numbers. -/
import Derived.Test.YtdpiikpodcanjaaProg
import Derived.Test.YtdpiikpodcanjaaFlow
import Derived.Test.YtdpiikpodcanjaaNumW
namespace Go.Proofs.Ytdpiikpodcanjaa
open Go.RowKit

/-- what numbers can, as the program holds it -/
abbrev opsI : Value := .agg #[.func (.func 68) #[] #[], .func (.func 69) #[] #[], .func (.func 70) #[] #[], .func (.func 71) #[] #[], .func (.func 72) #[] #[]]
theorem plain1 (n : Int) (w : World) :
    Calls Try.prog 68 #[.int .i64 n] w fun e w' => e = .returned (.int .i64 n) ∧ Below w.heap.size w w' := by
  go_enter Try.func68, Try.ntmps68
  go_wp2
  go_ret
  exact ⟨rfl, gr0 _⟩
theorem plain2 (a b : Int) (w : World) :
    Calls Try.prog 69 #[.int .i64 a, .int .i64 b] w fun e w' => e = .returned (.int .i64 (wrap64 (a + b))) ∧ Below w.heap.size w w' := by
  go_enter Try.func69, Try.ntmps69
  go_wp2
  go_ret
  exact ⟨rfl, gr0 _⟩
theorem plain3 (a b : Int) (w : World) :
    Calls Try.prog 70 #[.int .i64 a, .int .i64 b] w fun e w' => e = .returned (.int .i64 (wrap64 (a * b))) ∧ Below w.heap.size w w' := by
  go_enter Try.func70, Try.ntmps70
  go_wp2
  go_ret
  exact ⟨rfl, gr0 _⟩
theorem plain4 (a : Int) (w : World) :
    Calls Try.prog 71 #[.int .i64 a, .int .i64 16] w fun e w' => e = .returned (.int .i64 (a / 65536)) ∧ Below w.heap.size w w' := by
  go_enter Try.func71, Try.ntmps71
  go_wp2
  go_ret
  exact ⟨rfl, gr0 _⟩
theorem plain_ops (w : World) :
    Calls Try.prog 42 #[] w fun e w' => e = .returned opsI ∧ Below w.heap.size w w' := by
  go_enter Try.func42, Try.ntmps42
  go_wp2
  exact bodyPost_ret (by simp [results, Try.results42, go_sem] <;> rfl) rfl ⟨rfl, gr1 (gr0 _) _⟩

set_option maxRecDepth 100000 in
set_option maxHeartbeats 2000000 in
theorem all_I (a b c : Int) (w : World) :
    Calls Try.prog 65 #[opsI, .agg #[.int .i64 a, .int .i64 b, .int .i64 c]] w fun e w' => e = .returned (.agg #[.int .i64 (clipI a 0 255), .int .i64 (clipI b 0 255), .int .i64 (clipI c 0 255)]) ∧ Below w.heap.size w w' := by
  have ia0 : ∀ w, (Instr.index 90 (.agg #[.int .i64 a, .int .i64 b, .int .i64 c]) (.int .i64 0)).run Try.prog w = .ok (.int .i64 a) w := fun _ => by kernel_rfl
  have ia1 : ∀ w, (Instr.index 90 (.agg #[.int .i64 a, .int .i64 b, .int .i64 c]) (.int .i64 1)).run Try.prog w = .ok (.int .i64 b) w := fun _ => by kernel_rfl
  have ia2 : ∀ w, (Instr.index 90 (.agg #[.int .i64 a, .int .i64 b, .int .i64 c]) (.int .i64 2)).run Try.prog w = .ok (.int .i64 c) w := fun _ => by kernel_rfl
  go_enter Try.func65, Try.ntmps65
  go_wp2
  refine wp_loop_rounds 4 ?_
  rw [rounds_succ]
  go_wp2_with (first
    | (go_at_call 72; refine (num_clip _ _ _ _).mono ?_; rintro e W1 ⟨rfl, hb1⟩; obtain ⟨hc1, hf1, hz1⟩ := bcell hb1; try simp at hz1))
  rw [rounds_succ]
  go_wp2_with (first
    | (go_at_call 72; refine (num_clip _ _ _ _).mono ?_; rintro e W2 ⟨rfl, hb2⟩; obtain ⟨hc2, hf2, hz2⟩ := bcell hb2; try simp at hz2))
  rw [rounds_succ]
  go_wp2_with (first
    | (go_at_call 72; refine (num_clip _ _ _ _).mono ?_; rintro e W3 ⟨rfl, hb3⟩; obtain ⟨hc3, hf3, hz3⟩ := bcell hb3; try simp at hz3))
  rw [rounds_succ]
  go_wp2_with (first
    | (go_at_call 72; refine (num_clip _ _ _ _).mono ?_; rintro e W4 ⟨rfl, hb4⟩; obtain ⟨hc4, hf4, hz4⟩ := bcell hb4; try simp at hz4))
  refine bodyPost_ret (by first | (simp [results, Try.results65, go_sem, *] <;> rfl) | (simp [results, Try.results65, go_sem, *, ↓IntWalk.iteOmega] <;> rfl)) rfl ⟨rfl, ?_⟩
  repeat (first | exact gr0 _ | refine gr1 ?_ _ | refine gr2 ?_ (Later.below _) | refine gr2 ?_ (by assumption) | refine gr3 ?_ | refine gr4 ?_ (by first | (simp; done) | (simp; omega) | omega) _)

/-- three numbers, each so often, and one more, by 65536 -/
def sumI (a b c x y z m : Int) : Int := wrap64 (wrap64 (wrap64 (m + wrap64 (a * x)) + wrap64 (b * y)) + wrap64 (c * z)) / 65536

set_option maxRecDepth 100000 in
set_option maxHeartbeats 2000000 in
theorem sum_I (a b c x y z m : Int) (w : World) :
    Calls Try.prog 66 #[opsI, .agg #[.int .i64 a, .int .i64 b, .int .i64 c], .agg #[.int .i64 x, .int .i64 y, .int .i64 z], .int .i64 m] w fun e w' => e = .returned (.int .i64 (sumI a b c x y z m)) ∧ Below w.heap.size w w' := by
  have ia0 : ∀ w, (Instr.index 90 (.agg #[.int .i64 a, .int .i64 b, .int .i64 c]) (.int .i64 0)).run Try.prog w = .ok (.int .i64 a) w := fun _ => by kernel_rfl
  have ia1 : ∀ w, (Instr.index 90 (.agg #[.int .i64 a, .int .i64 b, .int .i64 c]) (.int .i64 1)).run Try.prog w = .ok (.int .i64 b) w := fun _ => by kernel_rfl
  have ia2 : ∀ w, (Instr.index 90 (.agg #[.int .i64 a, .int .i64 b, .int .i64 c]) (.int .i64 2)).run Try.prog w = .ok (.int .i64 c) w := fun _ => by kernel_rfl
  go_enter Try.func66, Try.ntmps66
  go_wp2_with (first
    | (go_at_call 68; refine (plain1 _ _).mono ?_; rintro e W0 ⟨rfl, hb0⟩; obtain ⟨hc0, hf0, hz0⟩ := bcell hb0; try simp at hz0))
  refine wp_loop_rounds 4 ?_
  rw [rounds_succ]
  go_wp2_with fail
  refine wp_region_calm (by kernel_rfl) (by kernel_rfl) ?_
  repeat (first | go_big_quiet_step ((first | (go_at_call 70; exact calm_call (plain3 _ _ _)) | (go_at_call 69; exact calm_call (plain2 _ _ _)))) | quiet_step ((first | (go_at_call 70; exact calm_call (plain3 _ _ _)) | (go_at_call 69; exact calm_call (plain2 _ _ _)))))
  refine wpQuiet_nil ?_
  intro u1
  have hzu1 := u1.below.size
  try simp at hzu1
  go_wp2_with fail
  rw [rounds_succ]
  go_wp2_with fail
  refine wp_region_calm (by kernel_rfl) (by kernel_rfl) ?_
  repeat (first | go_big_quiet_step ((first | (go_at_call 70; exact calm_call (plain3 _ _ _)) | (go_at_call 69; exact calm_call (plain2 _ _ _)))) | quiet_step ((first | (go_at_call 70; exact calm_call (plain3 _ _ _)) | (go_at_call 69; exact calm_call (plain2 _ _ _)))))
  refine wpQuiet_nil ?_
  intro u2
  have hzu2 := u2.below.size
  try simp at hzu2
  go_wp2_with fail
  rw [rounds_succ]
  go_wp2_with fail
  refine wp_region_calm (by kernel_rfl) (by kernel_rfl) ?_
  repeat (first | go_big_quiet_step ((first | (go_at_call 70; exact calm_call (plain3 _ _ _)) | (go_at_call 69; exact calm_call (plain2 _ _ _)))) | quiet_step ((first | (go_at_call 70; exact calm_call (plain3 _ _ _)) | (go_at_call 69; exact calm_call (plain2 _ _ _)))))
  refine wpQuiet_nil ?_
  intro u3
  have hzu3 := u3.below.size
  try simp at hzu3
  go_wp2_with fail
  rw [rounds_succ]
  go_wp2_with (first
    | (go_at_call 71; refine (plain4 _ _).mono ?_; rintro e W4 ⟨rfl, hb4⟩; obtain ⟨hc4, hf4, hz4⟩ := bcell hb4; try simp at hz4))
  go_ret
  refine ⟨rfl, ?_⟩
  repeat (first | exact gr0 _ | refine gr1 ?_ _ | refine gr2 ?_ (Later.below _) | refine gr2 ?_ (by assumption) | refine gr3 ?_ | refine gr4 ?_ (by first | (simp; done) | (simp; omega) | omega) _)

set_option maxRecDepth 100000 in
set_option maxHeartbeats 2000000 in
theorem row_I (a b c : Int) (w : World) :
    Calls Try.prog 67 #[opsI, .int .i64 a, .int .i64 b, .int .i64 c] w fun e w' => e = .returned (.agg #[.int .i64 a, .int .i64 b, .int .i64 c]) ∧ Below w.heap.size w w' := by
  go_enter Try.func67, Try.ntmps67
  go_wp2_with fail
  refine wp_region_calm_tail 13 (by kernel_rfl) (by kernel_rfl) ?_
  simp only [List.take_succ_cons, List.take_zero, List.drop_succ_cons, List.drop_zero]
  repeat (first | go_big_quiet_step ((first | (go_at_call 68; exact calm_call (plain1 _ _)))) | quiet_step ((first | (go_at_call 68; exact calm_call (plain1 _ _)))))
  refine wpQuiet_nil ?_
  intro u
  have hzu := u.below.size
  try simp at hzu
  go_wp2
  refine bodyPost_ret (by first | (simp [results, Try.results67, go_sem, *] <;> rfl) | (simp [results, Try.results67, go_sem, *, ↓IntWalk.iteOmega] <;> rfl)) rfl ⟨rfl, ?_⟩
  repeat (first | exact gr0 _ | refine gr1 ?_ _ | refine gr2 ?_ (Later.below _) | refine gr2 ?_ (by assumption) | refine gr3 ?_ | refine gr4 ?_ (by first | (simp; done) | (simp; omega) | omega) _)

end Go.Proofs.Ytdpiikpodcanjaa
