/- What plain numbers can; how many words there are; how often a number is halved. -/
import Derived.Test.YtgegmlhpdpdnfaaCol7
namespace Go.Proofs.Ytgegmlhpdpdnfaa
open Go.RowKit
abbrev opsP : Value := .agg #[.func (.func 56) #[] #[], .func (.func 57) #[] #[], .func (.func 58) #[] #[], .func (.func 59) #[] #[], .func (.func 60) #[] #[], .func (.func 61) #[] #[]]
theorem pl_of (n : Int) (w : World) :
    Calls Try.prog 56 #[.int .i64 n] w fun e w' => e = .returned (.int .i64 n) ∧ Below w.heap.size w w' := by
  go_enter Try.func56, Try.ntmps56
  go_wp2
  go_ret
  exact ⟨rfl, gr0 _⟩
theorem pl_add (a b : Int) (w : World) :
    Calls Try.prog 57 #[.int .i64 a, .int .i64 b] w fun e w' => e = .returned (.int .i64 (wrap64 (a + b))) ∧ Below w.heap.size w w' := by
  go_enter Try.func57, Try.ntmps57
  go_wp2
  go_ret
  exact ⟨rfl, gr0 _⟩
theorem pl_shr0 (a : Int) (w : World) :
    Calls Try.prog 58 #[.int .i64 a, .int .i64 0] w fun e w' => e = .returned (.int .i64 (a)) ∧ Below w.heap.size w w' := by
  go_enter Try.func58, Try.ntmps58
  go_wp2
  go_ret
  exact ⟨by first | rfl | simp, gr0 _⟩
theorem pl_shr1 (a : Int) (w : World) :
    Calls Try.prog 58 #[.int .i64 a, .int .i64 1] w fun e w' => e = .returned (.int .i64 (a / 2)) ∧ Below w.heap.size w w' := by
  go_enter Try.func58, Try.ntmps58
  go_wp2
  go_ret
  exact ⟨by first | rfl | simp, gr0 _⟩
theorem pl_shr2 (a : Int) (w : World) :
    Calls Try.prog 58 #[.int .i64 a, .int .i64 2] w fun e w' => e = .returned (.int .i64 (a / 4)) ∧ Below w.heap.size w w' := by
  go_enter Try.func58, Try.ntmps58
  go_wp2
  go_ret
  exact ⟨by first | rfl | simp, gr0 _⟩
theorem pl_ops (w : World) :
    Calls Try.prog 38 #[] w fun e w' => e = .returned opsP ∧ Below w.heap.size w w' := by
  go_enter Try.func38, Try.ntmps38
  go_wp2
  exact bodyPost_ret (by simp [results, Try.results38, go_sem] <;> rfl) rfl ⟨rfl, gr1 (gr0 _) _⟩
theorem log_1 (w : World) :
    Calls Try.prog 55 #[.int .i64 1] w fun e w' => e = .returned (.int .i64 0) ∧ Below w.heap.size w w' := by
  go_enter Try.func55, Try.ntmps55
  go_wp2
  refine wp_loop_rounds 1 ?_
  rw [rounds_succ]
  go_wp2
  go_ret
  exact ⟨rfl, gr0 _⟩
theorem log_2 (w : World) :
    Calls Try.prog 55 #[.int .i64 2] w fun e w' => e = .returned (.int .i64 1) ∧ Below w.heap.size w w' := by
  go_enter Try.func55, Try.ntmps55
  go_wp2
  refine wp_loop_rounds 2 ?_
  rw [rounds_succ]
  go_wp2
  rw [rounds_succ]
  go_wp2
  go_ret
  exact ⟨rfl, gr0 _⟩
theorem log_4 (w : World) :
    Calls Try.prog 55 #[.int .i64 4] w fun e w' => e = .returned (.int .i64 2) ∧ Below w.heap.size w w' := by
  go_enter Try.func55, Try.ntmps55
  go_wp2
  refine wp_loop_rounds 3 ?_
  rw [rounds_succ]
  go_wp2
  rw [rounds_succ]
  go_wp2
  rw [rounds_succ]
  go_wp2
  go_ret
  exact ⟨rfl, gr0 _⟩
theorem sideW_pos {m : Int} (h : sideW m ≠ 0) : (m = 1 ∨ m = 2 ∨ m = 3 ∨ m = 4) := by unfold sideW at h; split at h <;> (try split at h) <;> omega
theorem grid_pos {x y m : Int} (h : gridOk x y m) : 1 ≤ gridA x y m ∧ 1 ≤ gridB x y m := by
  rw [(grid_ok h).1, (grid_ok h).2]
  obtain ⟨h1, ⟨h2, h3⟩, h4, h5⟩ := h
  rcases sideW_pos h1 with rfl | rfl | rfl | rfl <;> simp [sideW, sideH, ceilI] <;> omega
theorem right_ok {x y m : Int} (q i c : Int) (w : World) (hg : gridOk x y m) (hn : x * y ≤ 1048576) (n : Int) (hm : n = if m = 1 then x * y else 3 * (x * y)) :
    Calls Try.prog 52 #[.agg #[.int .i64 x, .int .i64 y, .int .i64 m, .int .i64 q, .int .i64 i, .int .i64 c]] w fun e w' => e = .returned (.tuple #[.int .i64 n, .bool true]) ∧ Below w.heap.size w w' := by
  have gp := (grid_pos hg).1
  obtain ⟨a, ha⟩ : ∃ a, gridA x y m = a := ⟨_, rfl⟩
  have xy : 0 ≤ x * y := Int.mul_nonneg (by have := hg.2.1.1; omega) (by have := hg.2.2.1; omega)
  have k1 : wrap64 (x * y) = x * y := w64 (by omega) (by omega)
  have k2 : wrap64 (3 * (x * y)) = 3 * (x * y) := w64 (by omega) (by omega)
  have t1 : decide (0 < a) = true := by simp; omega
  have t2 : decide (x * y ≤ 1048576) = true := by simp; omega
  by_cases h1 : m = 1
  · rw [if_pos h1] at hm
    subst h1
    subst hm
    go_enter Try.func52, Try.ntmps52
    go_wp2_with (first
      | (go_at_call 11; refine (Grid_ _ _ _ _ _ _ _).mono ?_; rintro e W1 ⟨rfl, hb1⟩; rw [ha]; obtain ⟨hc1, hf1, hz1⟩ := bcell hb1; try simp at hz1)
      | (refine wp_region_calm (by kernel_rfl) (by kernel_rfl) ?_; repeat (first | go_big_quiet_step ((first | (go_at_call 11; exact calm_call (Grid_ _ _ _ _ _ _ _)))) | quiet_step ((first | (go_at_call 11; exact calm_call (Grid_ _ _ _ _ _ _ _)))))
         refine wpQuiet_nil ?_; intro u; have hzu := u.below.size; try simp at hzu))
    go_ret2
    refine ⟨rfl, ?_⟩
    repeat (first | exact gr0 _ | refine gr1 ?_ _ | refine gr2 ?_ (Later.below _) | refine gr2 ?_ (by assumption) | refine gr3 ?_ | refine gr4 ?_ (by first | (simp; done) | (simp; omega) | omega) _)
  · have t3 : (m != 1) = true := by simp [h1]
    rw [if_neg h1] at hm
    subst hm
    go_enter Try.func52, Try.ntmps52
    go_wp2_with (first
      | (go_at_call 11; refine (Grid_ _ _ _ _ _ _ _).mono ?_; rintro e W1 ⟨rfl, hb1⟩; rw [ha]; obtain ⟨hc1, hf1, hz1⟩ := bcell hb1; try simp at hz1)
      | (refine wp_region_calm (by kernel_rfl) (by kernel_rfl) ?_; repeat (first | go_big_quiet_step ((first | (go_at_call 11; exact calm_call (Grid_ _ _ _ _ _ _ _)))) | quiet_step ((first | (go_at_call 11; exact calm_call (Grid_ _ _ _ _ _ _ _)))))
         refine wpQuiet_nil ?_; intro u; have hzu := u.below.size; try simp at hzu))
    go_ret2
    refine ⟨rfl, ?_⟩
    repeat (first | exact gr0 _ | refine gr1 ?_ _ | refine gr2 ?_ (Later.below _) | refine gr2 ?_ (by assumption) | refine gr3 ?_ | refine gr4 ?_ (by first | (simp; done) | (simp; omega) | omega) _)
end Go.Proofs.Ytgegmlhpdpdnfaa
