/- Colours, over plain numbers. -/
import Derived.Test.YtgegmlhpdpdnfaaProg
import Derived.Test.YtgegmlhpdpdnfaaFlow
import Derived.Test.YtgegmlhpdpdnfaaNumW
namespace Go.Proofs.Ytgegmlhpdpdnfaa
open Go.RowKit

/-- what numbers can, as the program holds it -/
abbrev opsI : Value := .agg #[.func (.func 87) #[] #[], .func (.func 88) #[] #[], .func (.func 89) #[] #[], .func (.func 90) #[] #[], .func (.func 59) #[] #[]]
theorem plain1 (n : Int) (w : World) :
    Calls Try.prog 87 #[.int .i64 n] w fun e w' => e = .returned (.int .i64 n) ∧ Below w.heap.size w w' := by
  go_enter Try.func87, Try.ntmps87
  go_wp2
  go_ret
  exact ⟨rfl, gr0 _⟩
theorem plain2 (a b : Int) (w : World) :
    Calls Try.prog 88 #[.int .i64 a, .int .i64 b] w fun e w' => e = .returned (.int .i64 (wrap64 (a + b))) ∧ Below w.heap.size w w' := by
  go_enter Try.func88, Try.ntmps88
  go_wp2
  go_ret
  exact ⟨rfl, gr0 _⟩
theorem plain3 (a b : Int) (w : World) :
    Calls Try.prog 89 #[.int .i64 a, .int .i64 b] w fun e w' => e = .returned (.int .i64 (wrap64 (a * b))) ∧ Below w.heap.size w w' := by
  go_enter Try.func89, Try.ntmps89
  go_wp2
  go_ret
  exact ⟨rfl, gr0 _⟩
theorem plain4 (a : Int) (w : World) :
    Calls Try.prog 90 #[.int .i64 a, .int .i64 16] w fun e w' => e = .returned (.int .i64 (a / 65536)) ∧ Below w.heap.size w w' := by
  go_enter Try.func90, Try.ntmps90
  go_wp2
  go_ret
  exact ⟨rfl, gr0 _⟩
theorem plain_ops (w : World) :
    Calls Try.prog 75 #[] w fun e w' => e = .returned opsI ∧ Below w.heap.size w w' := by
  go_enter Try.func75, Try.ntmps75
  go_wp2
  exact bodyPost_ret (by simp [results, Try.results75, go_sem] <;> rfl) rfl ⟨rfl, gr1 (gr0 _) _⟩

set_option maxRecDepth 100000 in
set_option maxHeartbeats 2000000 in
theorem all_I (a b c : Int) (w : World) :
    Calls Try.prog 84 #[opsI, .agg #[.int .i64 a, .int .i64 b, .int .i64 c]] w fun e w' => e = .returned (.agg #[.int .i64 (clipI a 0 255), .int .i64 (clipI b 0 255), .int .i64 (clipI c 0 255)]) ∧ Below w.heap.size w w' := by
  have ia0 : ∀ w, (Instr.index 129 (.agg #[.int .i64 a, .int .i64 b, .int .i64 c]) (.int .i64 0)).run Try.prog w = .ok (.int .i64 a) w := fun _ => by kernel_rfl
  have ia1 : ∀ w, (Instr.index 129 (.agg #[.int .i64 a, .int .i64 b, .int .i64 c]) (.int .i64 1)).run Try.prog w = .ok (.int .i64 b) w := fun _ => by kernel_rfl
  have ia2 : ∀ w, (Instr.index 129 (.agg #[.int .i64 a, .int .i64 b, .int .i64 c]) (.int .i64 2)).run Try.prog w = .ok (.int .i64 c) w := fun _ => by kernel_rfl
  go_enter Try.func84, Try.ntmps84
  go_wp2
  refine wp_loop_rounds 4 ?_
  rw [rounds_succ]
  go_wp2_with (first
    | (go_at_call 59; refine (num_clip _ _ _ _).mono ?_; rintro e W1 ⟨rfl, hb1⟩; obtain ⟨hc1, hf1, hz1⟩ := bcell hb1; try simp at hz1))
  rw [rounds_succ]
  go_wp2_with (first
    | (go_at_call 59; refine (num_clip _ _ _ _).mono ?_; rintro e W2 ⟨rfl, hb2⟩; obtain ⟨hc2, hf2, hz2⟩ := bcell hb2; try simp at hz2))
  rw [rounds_succ]
  go_wp2_with (first
    | (go_at_call 59; refine (num_clip _ _ _ _).mono ?_; rintro e W3 ⟨rfl, hb3⟩; obtain ⟨hc3, hf3, hz3⟩ := bcell hb3; try simp at hz3))
  rw [rounds_succ]
  go_wp2_with (first
    | (go_at_call 59; refine (num_clip _ _ _ _).mono ?_; rintro e W4 ⟨rfl, hb4⟩; obtain ⟨hc4, hf4, hz4⟩ := bcell hb4; try simp at hz4))
  refine bodyPost_ret (by first | (simp [results, Try.results84, go_sem, *] <;> rfl) | (simp [results, Try.results84, go_sem, *, ↓IntWalk.iteOmega] <;> rfl)) rfl ⟨rfl, ?_⟩
  repeat (first | exact gr0 _ | refine gr1 ?_ _ | refine gr2 ?_ (Later.below _) | refine gr2 ?_ (by assumption) | refine gr3 ?_ | refine gr4 ?_ (by first | (simp; done) | (simp; omega) | omega) _)

/-- three numbers, each so often, and one more, by 65536 -/
def sumI (a b c x y z m : Int) : Int := wrap64 (wrap64 (wrap64 (m + wrap64 (a * x)) + wrap64 (b * y)) + wrap64 (c * z)) / 65536

set_option maxRecDepth 100000 in
set_option maxHeartbeats 2000000 in
theorem sum_I (a b c x y z m : Int) (w : World) :
    Calls Try.prog 85 #[opsI, .agg #[.int .i64 a, .int .i64 b, .int .i64 c], .agg #[.int .i64 x, .int .i64 y, .int .i64 z], .int .i64 m] w fun e w' => e = .returned (.int .i64 (sumI a b c x y z m)) ∧ Below w.heap.size w w' := by
  have ia0 : ∀ w, (Instr.index 129 (.agg #[.int .i64 a, .int .i64 b, .int .i64 c]) (.int .i64 0)).run Try.prog w = .ok (.int .i64 a) w := fun _ => by kernel_rfl
  have ia1 : ∀ w, (Instr.index 129 (.agg #[.int .i64 a, .int .i64 b, .int .i64 c]) (.int .i64 1)).run Try.prog w = .ok (.int .i64 b) w := fun _ => by kernel_rfl
  have ia2 : ∀ w, (Instr.index 129 (.agg #[.int .i64 a, .int .i64 b, .int .i64 c]) (.int .i64 2)).run Try.prog w = .ok (.int .i64 c) w := fun _ => by kernel_rfl
  go_enter Try.func85, Try.ntmps85
  go_wp2_with (first
    | (go_at_call 87; refine (plain1 _ _).mono ?_; rintro e W0 ⟨rfl, hb0⟩; obtain ⟨hc0, hf0, hz0⟩ := bcell hb0; try simp at hz0))
  refine wp_loop_rounds 4 ?_
  rw [rounds_succ]
  go_wp2_with fail
  refine wp_region_calm (by kernel_rfl) (by kernel_rfl) ?_
  repeat (first | go_big_quiet_step ((first | (go_at_call 89; exact calm_call (plain3 _ _ _)) | (go_at_call 88; exact calm_call (plain2 _ _ _)))) | quiet_step ((first | (go_at_call 89; exact calm_call (plain3 _ _ _)) | (go_at_call 88; exact calm_call (plain2 _ _ _)))))
  refine wpQuiet_nil ?_
  intro u1
  have hzu1 := u1.below.size
  try simp at hzu1
  go_wp2_with fail
  rw [rounds_succ]
  go_wp2_with fail
  refine wp_region_calm (by kernel_rfl) (by kernel_rfl) ?_
  repeat (first | go_big_quiet_step ((first | (go_at_call 89; exact calm_call (plain3 _ _ _)) | (go_at_call 88; exact calm_call (plain2 _ _ _)))) | quiet_step ((first | (go_at_call 89; exact calm_call (plain3 _ _ _)) | (go_at_call 88; exact calm_call (plain2 _ _ _)))))
  refine wpQuiet_nil ?_
  intro u2
  have hzu2 := u2.below.size
  try simp at hzu2
  go_wp2_with fail
  rw [rounds_succ]
  go_wp2_with fail
  refine wp_region_calm (by kernel_rfl) (by kernel_rfl) ?_
  repeat (first | go_big_quiet_step ((first | (go_at_call 89; exact calm_call (plain3 _ _ _)) | (go_at_call 88; exact calm_call (plain2 _ _ _)))) | quiet_step ((first | (go_at_call 89; exact calm_call (plain3 _ _ _)) | (go_at_call 88; exact calm_call (plain2 _ _ _)))))
  refine wpQuiet_nil ?_
  intro u3
  have hzu3 := u3.below.size
  try simp at hzu3
  go_wp2_with fail
  rw [rounds_succ]
  go_wp2_with (first
    | (go_at_call 90; refine (plain4 _ _).mono ?_; rintro e W4 ⟨rfl, hb4⟩; obtain ⟨hc4, hf4, hz4⟩ := bcell hb4; try simp at hz4))
  go_ret
  refine ⟨rfl, ?_⟩
  repeat (first | exact gr0 _ | refine gr1 ?_ _ | refine gr2 ?_ (Later.below _) | refine gr2 ?_ (by assumption) | refine gr3 ?_ | refine gr4 ?_ (by first | (simp; done) | (simp; omega) | omega) _)

set_option maxRecDepth 100000 in
set_option maxHeartbeats 2000000 in
theorem row_I (a b c : Int) (w : World) :
    Calls Try.prog 86 #[opsI, .int .i64 a, .int .i64 b, .int .i64 c] w fun e w' => e = .returned (.agg #[.int .i64 a, .int .i64 b, .int .i64 c]) ∧ Below w.heap.size w w' := by
  go_enter Try.func86, Try.ntmps86
  go_wp2_with fail
  refine wp_region_calm_tail 13 (by kernel_rfl) (by kernel_rfl) ?_
  simp only [List.take_succ_cons, List.take_zero, List.drop_succ_cons, List.drop_zero]
  repeat (first | go_big_quiet_step ((first | (go_at_call 87; exact calm_call (plain1 _ _)))) | quiet_step ((first | (go_at_call 87; exact calm_call (plain1 _ _)))))
  refine wpQuiet_nil ?_
  intro u
  have hzu := u.below.size
  try simp at hzu
  go_wp2
  refine bodyPost_ret (by first | (simp [results, Try.results86, go_sem, *] <;> rfl) | (simp [results, Try.results86, go_sem, *, ↓IntWalk.iteOmega] <;> rfl)) rfl ⟨rfl, ?_⟩
  repeat (first | exact gr0 _ | refine gr1 ?_ _ | refine gr2 ?_ (Later.below _) | refine gr2 ?_ (by assumption) | refine gr3 ?_ | refine gr4 ?_ (by first | (simp; done) | (simp; omega) | omega) _)

end Go.Proofs.Ytgegmlhpdpdnfaa
