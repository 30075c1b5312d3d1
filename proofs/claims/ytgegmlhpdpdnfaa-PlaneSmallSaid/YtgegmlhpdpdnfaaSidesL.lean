/- How great an MCU is: the law's own functions. -/
import Derived.Test.YtgegmlhpdpdnfaaSides
namespace Go.Proofs.Ytgegmlhpdpdnfaa
open Go.RowKit

theorem kn07 : gridA 17 9 4 = 2 ∧ gridB 17 9 4 = 1 ∧ sideW 3 = 16 ∧ sideH 3 = 8 := by decide +kernel
theorem ne0 : (0 : Int) ≠ 1 ∧ (0 : Int) ≠ 2 ∧ (0 : Int) ≠ 3 ∧ (0 : Int) ≠ 4 := by decide

set_option maxHeartbeats 2000000 in
theorem known07 (w : World) :
    Calls Try.prog 13 #[] w fun e w' => e = .returned (.bool true) ∧ Below w.heap.size w w' := by
  obtain ⟨k1, k2, k3, k4⟩ := kn07
  obtain ⟨n1, n2, n3, n4⟩ := ne0
  go_enter Try.func13, Try.ntmps13
  go_wp2_with (first
    | (go_at_call 11; refine (Grid_ _ _ _ _ _ _ _).mono ?_; rintro e W1 ⟨rfl, hb1⟩; obtain ⟨hc1, hf1, hz1⟩ := bcell hb1; try simp at hz1)
    | (go_at_call 20; refine (Side_ _ _).mono ?_; rintro e W1 ⟨rfl, hb1⟩; obtain ⟨hc1, hf1, hz1⟩ := bcell hb1; try simp at hz1)
    | (go_at_call 21; refine (sides_0 _ _ ‹_› ‹_› ‹_› ‹_›).mono ?_; rintro e W1 ⟨rfl, hb1⟩; obtain ⟨hc1, hf1, hz1⟩ := bcell hb1; try simp at hz1)
    | (refine wp_region_calm (by kernel_rfl) (by kernel_rfl) ?_; repeat (first | go_big_quiet_step ((first | (go_at_call 11; exact calm_call (Grid_ _ _ _ _ _ _ _)) | (go_at_call 20; exact calm_call (Side_ _ _)) | (go_at_call 21; exact calm_call (sides_0 _ _ ‹_› ‹_› ‹_› ‹_›)))) | quiet_step ((first | (go_at_call 11; exact calm_call (Grid_ _ _ _ _ _ _ _)) | (go_at_call 20; exact calm_call (Side_ _ _)) | (go_at_call 21; exact calm_call (sides_0 _ _ ‹_› ‹_› ‹_› ‹_›)))))
       refine wpQuiet_nil ?_; intro u; have hzu := u.below.size; try simp at hzu))
  go_ret
  refine ⟨rfl, ?_⟩
  repeat (first | exact gr0 _ | refine gr1 ?_ _ | refine gr2 ?_ (Later.below _) | refine gr2 ?_ (by assumption) | refine gr3 ?_ | refine gr4 ?_ (by first | (simp; done) | (simp; omega) | omega) _)

set_option maxRecDepth 100000 in
set_option maxHeartbeats 2000000 in
theorem sides07 (m : Int) (w : World) :
    Calls Try.prog 14 #[.int .i64 m] w fun e w' => e = .returned (.bool true) ∧ Below w.heap.size w w' := by
  have q11 : ∀ w, (binOp .neq 47 (.agg #[.int .i64 1, .int .i64 1]) (.agg #[.int .i64 1, .int .i64 1])).run Try.prog w = .ok (.bool false) w := fun _ => by kernel_rfl
  have q21 : ∀ w, (binOp .neq 47 (.agg #[.int .i64 2, .int .i64 1]) (.agg #[.int .i64 2, .int .i64 1])).run Try.prog w = .ok (.bool false) w := fun _ => by kernel_rfl
  have q22 : ∀ w, (binOp .neq 47 (.agg #[.int .i64 2, .int .i64 2]) (.agg #[.int .i64 2, .int .i64 2])).run Try.prog w = .ok (.bool false) w := fun _ => by kernel_rfl
  rcases mode_cases m with rfl | rfl | rfl | rfl | ⟨h1, h2, h3, h4⟩
  · have hw : sideW 1 = 8 ∧ sideH 1 = 8 := by decide
    obtain ⟨hw1, hw2⟩ := hw
    go_enter Try.func14, Try.ntmps14
    go_wp2_with (first
      | (go_at_call 20; refine (Side_ _ _).mono ?_; rintro e W1 ⟨rfl, hb1⟩; obtain ⟨hc1, hf1, hz1⟩ := bcell hb1; try simp at hz1)
      | (go_at_call 34; refine (rSide_ _ _).mono ?_; rintro e W1 ⟨rfl, hb1⟩; obtain ⟨hc1, hf1, hz1⟩ := bcell hb1; try simp at hz1)
      | (refine wp_region_calm (by kernel_rfl) (by kernel_rfl) ?_; repeat (first | go_big_quiet_step ((first | (go_at_call 20; exact calm_call (Side_ _ _)) | (go_at_call 34; exact calm_call (rSide_ _ _)))) | quiet_step ((first | (go_at_call 20; exact calm_call (Side_ _ _)) | (go_at_call 34; exact calm_call (rSide_ _ _)))))
         refine wpQuiet_nil ?_; intro u; have hzu := u.below.size; try simp at hzu)
      | (go_at_call 21; refine (sides_1 _).mono ?_; rintro e W2 ⟨g2, rfl, hb2, hg2, hh2⟩; obtain ⟨hc2, hf2, hz2, hl2⟩ := ncell hb2 hg2 hh2; try simp at hz2; try simp at hg2)
      | (go_at_call 36; refine (rsides_1 _).mono ?_; rintro e W3 ⟨g3, rfl, hb3, hg3, hh3⟩; obtain ⟨hc3, hf3, hz3, hl3⟩ := ncell hb3 hg3 hh3; try simp at hz3; try simp at hg3))
    refine wp_loop_rounds 2 ?_
    rw [rounds_succ]
    go_wp2_with (first
      | (refine wp_region_calm (by kernel_rfl) (by kernel_rfl) ?_; repeat (first | go_big_quiet_step (fail) | quiet_step (fail))
         refine wpQuiet_nil ?_; intro u; have hzu := u.below.size; try simp at hzu))
    rw [rounds_succ]
    go_wp2_with (first
      | (refine wp_region_calm (by kernel_rfl) (by kernel_rfl) ?_; repeat (first | go_big_quiet_step (fail) | quiet_step (fail))
         refine wpQuiet_nil ?_; intro u; have hzu := u.below.size; try simp at hzu))
    go_ret
    refine ⟨rfl, ?_⟩
    repeat (first | exact gr0 _ | refine gr1 ?_ _ | refine gr2 ?_ (Later.below _) | refine gr2 ?_ (by assumption) | refine gr3 ?_ | refine gr4 ?_ (by first | (simp; done) | (simp; omega) | omega) _)
  · have hw : sideW 2 = 8 ∧ sideH 2 = 8 := by decide
    obtain ⟨hw1, hw2⟩ := hw
    go_enter Try.func14, Try.ntmps14
    go_wp2_with (first
      | (go_at_call 20; refine (Side_ _ _).mono ?_; rintro e W1 ⟨rfl, hb1⟩; obtain ⟨hc1, hf1, hz1⟩ := bcell hb1; try simp at hz1)
      | (go_at_call 34; refine (rSide_ _ _).mono ?_; rintro e W1 ⟨rfl, hb1⟩; obtain ⟨hc1, hf1, hz1⟩ := bcell hb1; try simp at hz1)
      | (refine wp_region_calm (by kernel_rfl) (by kernel_rfl) ?_; repeat (first | go_big_quiet_step ((first | (go_at_call 20; exact calm_call (Side_ _ _)) | (go_at_call 34; exact calm_call (rSide_ _ _)))) | quiet_step ((first | (go_at_call 20; exact calm_call (Side_ _ _)) | (go_at_call 34; exact calm_call (rSide_ _ _)))))
         refine wpQuiet_nil ?_; intro u; have hzu := u.below.size; try simp at hzu)
      | (go_at_call 21; refine (sides_2 _).mono ?_; rintro e W2 ⟨g2, rfl, hb2, hg2, hh2⟩; obtain ⟨hc2, hf2, hz2, hl2⟩ := ncell hb2 hg2 hh2; try simp at hz2; try simp at hg2)
      | (go_at_call 36; refine (rsides_2 _).mono ?_; rintro e W3 ⟨g3, rfl, hb3, hg3, hh3⟩; obtain ⟨hc3, hf3, hz3, hl3⟩ := ncell hb3 hg3 hh3; try simp at hz3; try simp at hg3))
    refine wp_loop_rounds 4 ?_
    rw [rounds_succ]
    go_wp2_with (first
      | (refine wp_region_calm (by kernel_rfl) (by kernel_rfl) ?_; repeat (first | go_big_quiet_step (fail) | quiet_step (fail))
         refine wpQuiet_nil ?_; intro u; have hzu := u.below.size; try simp at hzu))
    rw [rounds_succ]
    go_wp2_with (first
      | (refine wp_region_calm (by kernel_rfl) (by kernel_rfl) ?_; repeat (first | go_big_quiet_step (fail) | quiet_step (fail))
         refine wpQuiet_nil ?_; intro u; have hzu := u.below.size; try simp at hzu))
    rw [rounds_succ]
    go_wp2_with (first
      | (refine wp_region_calm (by kernel_rfl) (by kernel_rfl) ?_; repeat (first | go_big_quiet_step (fail) | quiet_step (fail))
         refine wpQuiet_nil ?_; intro u; have hzu := u.below.size; try simp at hzu))
    rw [rounds_succ]
    go_wp2_with (first
      | (refine wp_region_calm (by kernel_rfl) (by kernel_rfl) ?_; repeat (first | go_big_quiet_step (fail) | quiet_step (fail))
         refine wpQuiet_nil ?_; intro u; have hzu := u.below.size; try simp at hzu))
    go_ret
    refine ⟨rfl, ?_⟩
    repeat (first | exact gr0 _ | refine gr1 ?_ _ | refine gr2 ?_ (Later.below _) | refine gr2 ?_ (by assumption) | refine gr3 ?_ | refine gr4 ?_ (by first | (simp; done) | (simp; omega) | omega) _)
  · have hw : sideW 3 = 16 ∧ sideH 3 = 8 := by decide
    obtain ⟨hw1, hw2⟩ := hw
    go_enter Try.func14, Try.ntmps14
    go_wp2_with (first
      | (go_at_call 20; refine (Side_ _ _).mono ?_; rintro e W1 ⟨rfl, hb1⟩; obtain ⟨hc1, hf1, hz1⟩ := bcell hb1; try simp at hz1)
      | (go_at_call 34; refine (rSide_ _ _).mono ?_; rintro e W1 ⟨rfl, hb1⟩; obtain ⟨hc1, hf1, hz1⟩ := bcell hb1; try simp at hz1)
      | (refine wp_region_calm (by kernel_rfl) (by kernel_rfl) ?_; repeat (first | go_big_quiet_step ((first | (go_at_call 20; exact calm_call (Side_ _ _)) | (go_at_call 34; exact calm_call (rSide_ _ _)))) | quiet_step ((first | (go_at_call 20; exact calm_call (Side_ _ _)) | (go_at_call 34; exact calm_call (rSide_ _ _)))))
         refine wpQuiet_nil ?_; intro u; have hzu := u.below.size; try simp at hzu)
      | (go_at_call 21; refine (sides_3 _).mono ?_; rintro e W2 ⟨g2, rfl, hb2, hg2, hh2⟩; obtain ⟨hc2, hf2, hz2, hl2⟩ := ncell hb2 hg2 hh2; try simp at hz2; try simp at hg2)
      | (go_at_call 36; refine (rsides_3 _).mono ?_; rintro e W3 ⟨g3, rfl, hb3, hg3, hh3⟩; obtain ⟨hc3, hf3, hz3, hl3⟩ := ncell hb3 hg3 hh3; try simp at hz3; try simp at hg3))
    refine wp_loop_rounds 4 ?_
    rw [rounds_succ]
    go_wp2_with (first
      | (refine wp_region_calm (by kernel_rfl) (by kernel_rfl) ?_; repeat (first | go_big_quiet_step (fail) | quiet_step (fail))
         refine wpQuiet_nil ?_; intro u; have hzu := u.below.size; try simp at hzu))
    rw [rounds_succ]
    go_wp2_with (first
      | (refine wp_region_calm (by kernel_rfl) (by kernel_rfl) ?_; repeat (first | go_big_quiet_step (fail) | quiet_step (fail))
         refine wpQuiet_nil ?_; intro u; have hzu := u.below.size; try simp at hzu))
    rw [rounds_succ]
    go_wp2_with (first
      | (refine wp_region_calm (by kernel_rfl) (by kernel_rfl) ?_; repeat (first | go_big_quiet_step (fail) | quiet_step (fail))
         refine wpQuiet_nil ?_; intro u; have hzu := u.below.size; try simp at hzu))
    rw [rounds_succ]
    go_wp2_with (first
      | (refine wp_region_calm (by kernel_rfl) (by kernel_rfl) ?_; repeat (first | go_big_quiet_step (fail) | quiet_step (fail))
         refine wpQuiet_nil ?_; intro u; have hzu := u.below.size; try simp at hzu))
    go_ret
    refine ⟨rfl, ?_⟩
    repeat (first | exact gr0 _ | refine gr1 ?_ _ | refine gr2 ?_ (Later.below _) | refine gr2 ?_ (by assumption) | refine gr3 ?_ | refine gr4 ?_ (by first | (simp; done) | (simp; omega) | omega) _)
  · have hw : sideW 4 = 16 ∧ sideH 4 = 16 := by decide
    obtain ⟨hw1, hw2⟩ := hw
    go_enter Try.func14, Try.ntmps14
    go_wp2_with (first
      | (go_at_call 20; refine (Side_ _ _).mono ?_; rintro e W1 ⟨rfl, hb1⟩; obtain ⟨hc1, hf1, hz1⟩ := bcell hb1; try simp at hz1)
      | (go_at_call 34; refine (rSide_ _ _).mono ?_; rintro e W1 ⟨rfl, hb1⟩; obtain ⟨hc1, hf1, hz1⟩ := bcell hb1; try simp at hz1)
      | (refine wp_region_calm (by kernel_rfl) (by kernel_rfl) ?_; repeat (first | go_big_quiet_step ((first | (go_at_call 20; exact calm_call (Side_ _ _)) | (go_at_call 34; exact calm_call (rSide_ _ _)))) | quiet_step ((first | (go_at_call 20; exact calm_call (Side_ _ _)) | (go_at_call 34; exact calm_call (rSide_ _ _)))))
         refine wpQuiet_nil ?_; intro u; have hzu := u.below.size; try simp at hzu)
      | (go_at_call 21; refine (sides_4 _).mono ?_; rintro e W2 ⟨g2, rfl, hb2, hg2, hh2⟩; obtain ⟨hc2, hf2, hz2, hl2⟩ := ncell hb2 hg2 hh2; try simp at hz2; try simp at hg2)
      | (go_at_call 36; refine (rsides_4 _).mono ?_; rintro e W3 ⟨g3, rfl, hb3, hg3, hh3⟩; obtain ⟨hc3, hf3, hz3, hl3⟩ := ncell hb3 hg3 hh3; try simp at hz3; try simp at hg3))
    refine wp_loop_rounds 4 ?_
    rw [rounds_succ]
    go_wp2_with (first
      | (refine wp_region_calm (by kernel_rfl) (by kernel_rfl) ?_; repeat (first | go_big_quiet_step (fail) | quiet_step (fail))
         refine wpQuiet_nil ?_; intro u; have hzu := u.below.size; try simp at hzu))
    rw [rounds_succ]
    go_wp2_with (first
      | (refine wp_region_calm (by kernel_rfl) (by kernel_rfl) ?_; repeat (first | go_big_quiet_step (fail) | quiet_step (fail))
         refine wpQuiet_nil ?_; intro u; have hzu := u.below.size; try simp at hzu))
    rw [rounds_succ]
    go_wp2_with (first
      | (refine wp_region_calm (by kernel_rfl) (by kernel_rfl) ?_; repeat (first | go_big_quiet_step (fail) | quiet_step (fail))
         refine wpQuiet_nil ?_; intro u; have hzu := u.below.size; try simp at hzu))
    rw [rounds_succ]
    go_wp2_with (first
      | (refine wp_region_calm (by kernel_rfl) (by kernel_rfl) ?_; repeat (first | go_big_quiet_step (fail) | quiet_step (fail))
         refine wpQuiet_nil ?_; intro u; have hzu := u.below.size; try simp at hzu))
    go_ret
    refine ⟨rfl, ?_⟩
    repeat (first | exact gr0 _ | refine gr1 ?_ _ | refine gr2 ?_ (Later.below _) | refine gr2 ?_ (by assumption) | refine gr3 ?_ | refine gr4 ?_ (by first | (simp; done) | (simp; omega) | omega) _)
  · obtain ⟨e1, e2⟩ := side_0 h1 h2 h3 h4
    go_enter Try.func14, Try.ntmps14
    go_wp2_with (first
      | (go_at_call 20; refine (Side_ _ _).mono ?_; rintro e W1 ⟨rfl, hb1⟩; obtain ⟨hc1, hf1, hz1⟩ := bcell hb1; try simp at hz1)
      | (go_at_call 34; refine (rSide_ _ _).mono ?_; rintro e W1 ⟨rfl, hb1⟩; obtain ⟨hc1, hf1, hz1⟩ := bcell hb1; try simp at hz1)
      | (go_at_call 21; refine (sides_0 _ _ ‹_› ‹_› ‹_› ‹_›).mono ?_; rintro e W1 ⟨rfl, hb1⟩; obtain ⟨hc1, hf1, hz1⟩ := bcell hb1; try simp at hz1)
      | (go_at_call 36; refine (rsides_0 _ _ ‹_› ‹_› ‹_› ‹_›).mono ?_; rintro e W1 ⟨rfl, hb1⟩; obtain ⟨hc1, hf1, hz1⟩ := bcell hb1; try simp at hz1)
      | (refine wp_region_calm (by kernel_rfl) (by kernel_rfl) ?_; repeat (first | go_big_quiet_step ((first | (go_at_call 20; exact calm_call (Side_ _ _)) | (go_at_call 34; exact calm_call (rSide_ _ _)) | (go_at_call 21; exact calm_call (sides_0 _ _ ‹_› ‹_› ‹_› ‹_›)) | (go_at_call 36; exact calm_call (rsides_0 _ _ ‹_› ‹_› ‹_› ‹_›)))) | quiet_step ((first | (go_at_call 20; exact calm_call (Side_ _ _)) | (go_at_call 34; exact calm_call (rSide_ _ _)) | (go_at_call 21; exact calm_call (sides_0 _ _ ‹_› ‹_› ‹_› ‹_›)) | (go_at_call 36; exact calm_call (rsides_0 _ _ ‹_› ‹_› ‹_› ‹_›)))))
         refine wpQuiet_nil ?_; intro u; have hzu := u.below.size; try simp at hzu))
    refine wp_loop_rounds 2 ?_
    rw [rounds_succ]
    go_wp2
    go_ret
    refine ⟨rfl, ?_⟩
    repeat (first | exact gr0 _ | refine gr1 ?_ _ | refine gr2 ?_ (Later.below _) | refine gr2 ?_ (by assumption) | refine gr3 ?_ | refine gr4 ?_ (by first | (simp; done) | (simp; omega) | omega) _)

end Go.Proofs.Ytgegmlhpdpdnfaa
