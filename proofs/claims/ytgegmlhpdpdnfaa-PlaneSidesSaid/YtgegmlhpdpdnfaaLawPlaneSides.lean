/- PlaneSides: the walk: it returns true. -/
import Derived.Test.YtgegmlhpdpdnfaaSidesL
namespace Go.Proofs.Ytgegmlhpdpdnfaa
open Go.RowKit

set_option maxHeartbeats 2000000 in
theorem walk_PlaneSides (x y m q i c md k : Int) (w : World) (_bx : -9223372036854775808 ≤ x ∧ x ≤ 9223372036854775807) (_by : -9223372036854775808 ≤ y ∧ y ≤ 9223372036854775807) (_bm : -9223372036854775808 ≤ m ∧ m ≤ 9223372036854775807) (_bq : -9223372036854775808 ≤ q ∧ q ≤ 9223372036854775807) (_bi : -9223372036854775808 ≤ i ∧ i ≤ 9223372036854775807) (_bc : -9223372036854775808 ≤ c ∧ c ≤ 9223372036854775807) (_bmd : -9223372036854775808 ≤ md ∧ md ≤ 9223372036854775807) (_bk : 0 ≤ k ∧ k ≤ 255) :
    Calls Try.prog 3 #[.agg #[.int .i64 x, .int .i64 y, .int .i64 m, .int .i64 q, .int .i64 i, .int .i64 c], .int .i64 md, .int .u8 k] w fun e w' => e = .returned (.bool true) ∧ Below w.heap.size w w' := by
  go_enter Try.func3, Try.ntmps3
  go_wp2_with (first
    | (go_at_call 13; refine (known07 _).mono ?_; rintro e W1 ⟨rfl, hb1⟩; obtain ⟨hc1, hf1, hz1⟩ := bcell hb1; try simp at hz1)
    | (go_at_call 11; refine (Grid_ _ _ _ _ _ _ _).mono ?_; rintro e W1 ⟨rfl, hb1⟩; obtain ⟨hc1, hf1, hz1⟩ := bcell hb1; try simp at hz1)
    | (go_at_call 12; refine (rGrid_ _ _ _ _ _ _ _).mono ?_; rintro e W1 ⟨rfl, hb1⟩; obtain ⟨hc1, hf1, hz1⟩ := bcell hb1; try simp at hz1)
    | (go_at_call 14; refine (sides07 _ _).mono ?_; rintro e W1 ⟨rfl, hb1⟩; obtain ⟨hc1, hf1, hz1⟩ := bcell hb1; try simp at hz1)
    | (refine wp_region_calm (by kernel_rfl) (by kernel_rfl) ?_; repeat (first | go_big_quiet_step ((first | (go_at_call 13; exact calm_call (known07 _)) | (go_at_call 11; exact calm_call (Grid_ _ _ _ _ _ _ _)) | (go_at_call 12; exact calm_call (rGrid_ _ _ _ _ _ _ _)) | (go_at_call 14; exact calm_call (sides07 _ _)))) | quiet_step ((first | (go_at_call 13; exact calm_call (known07 _)) | (go_at_call 11; exact calm_call (Grid_ _ _ _ _ _ _ _)) | (go_at_call 12; exact calm_call (rGrid_ _ _ _ _ _ _ _)) | (go_at_call 14; exact calm_call (sides07 _ _)))))
       refine wpQuiet_nil ?_; intro u; have hzu := u.below.size; try simp at hzu))
  all_goals go_ret
  all_goals refine ⟨rfl, ?_⟩
  all_goals (repeat (first | exact gr0 _ | refine gr1 ?_ _ | refine gr2 ?_ (Later.below _) | refine gr2 ?_ (by assumption) | refine gr3 ?_ | refine gr4 ?_ (by first | (simp; done) | (simp; omega) | omega) _))
end Go.Proofs.Ytgegmlhpdpdnfaa
