/- SlotTells: the walk: it returns true. -/
import Derived.Test.YtdpiikpodcanjaaTells
namespace Go.Proofs.Ytdpiikpodcanjaa
open Go.RowKit

set_option maxHeartbeats 2000000 in
theorem walk_SlotTells (x y m q i c a k f px py pm pq pi pc : Int) (w : World) (_bx : -9223372036854775808 ≤ x ∧ x ≤ 9223372036854775807) (_by : -9223372036854775808 ≤ y ∧ y ≤ 9223372036854775807) (_bm : -9223372036854775808 ≤ m ∧ m ≤ 9223372036854775807) (_bq : -9223372036854775808 ≤ q ∧ q ≤ 9223372036854775807) (_bi : -9223372036854775808 ≤ i ∧ i ≤ 9223372036854775807) (_bc : -9223372036854775808 ≤ c ∧ c ≤ 9223372036854775807) (_ba : -9223372036854775808 ≤ a ∧ a ≤ 9223372036854775807) (_bk : -9223372036854775808 ≤ k ∧ k ≤ 9223372036854775807) (_bf : -9223372036854775808 ≤ f ∧ f ≤ 9223372036854775807) (_bpx : 0 ≤ px ∧ px ≤ 65535) (_bpy : 0 ≤ py ∧ py ≤ 65535) (_bpm : 0 ≤ pm ∧ pm ≤ 255) (_bpq : 0 ≤ pq ∧ pq ≤ 255) (_bpi : 0 ≤ pi ∧ pi ≤ 255) (_bpc : 0 ≤ pc ∧ pc ≤ 255) :
    Calls Try.prog 12 #[.agg #[.int .i64 x, .int .i64 y, .int .i64 m, .int .i64 q, .int .i64 i, .int .i64 c], .int .i64 a, .int .i64 k, .int .i64 f, .int .u16 px, .int .u16 py, .int .u8 pm, .int .u8 pq, .int .u8 pi, .int .u8 pc] w fun e w' => e = .returned (.bool true) ∧ Below w.heap.size w w' := by
  go_enter Try.func12, Try.ntmps12
  go_wp2_with (first
    | (go_at_call 23; refine (known14 _).mono ?_; rintro e W1 ⟨rfl, hb1⟩; obtain ⟨hc1, hf1, hz1⟩ := bcell hb1; try simp at hz1)
    | (go_at_call 32; refine (Public14 _ _ _ _ _ _ _ ‹_› ‹_› ‹_› ‹_› ‹_› ‹_›).mono ?_; rintro e W1 ⟨rfl, hb1⟩; obtain ⟨hc1, hf1, hz1⟩ := bcell hb1; try simp at hz1)
    | (go_at_call 33; refine (tells14 _ _ _ _ _ _ _ _ _ _ (by omega) (by omega)).mono ?_; rintro e W1 ⟨rfl, hb1⟩; obtain ⟨hc1, hf1, hz1⟩ := bcell hb1; try simp at hz1)
    | (refine wp_region_calm (by kernel_rfl) (by kernel_rfl) ?_; repeat (first | go_big_quiet_step ((first | (go_at_call 23; exact calm_call (known14 _)) | (go_at_call 32; exact calm_call (Public14 _ _ _ _ _ _ _ ‹_› ‹_› ‹_› ‹_› ‹_› ‹_›)) | (go_at_call 33; exact calm_call (tells14 _ _ _ _ _ _ _ _ _ _ (by omega) (by omega))))) | quiet_step ((first | (go_at_call 23; exact calm_call (known14 _)) | (go_at_call 32; exact calm_call (Public14 _ _ _ _ _ _ _ ‹_› ‹_› ‹_› ‹_› ‹_› ‹_›)) | (go_at_call 33; exact calm_call (tells14 _ _ _ _ _ _ _ _ _ _ (by omega) (by omega))))))
       refine wpQuiet_nil ?_; intro u; have hzu := u.below.size; try simp at hzu))
  all_goals go_ret
  all_goals refine ⟨rfl, ?_⟩
  all_goals (repeat (first | exact gr0 _ | refine gr1 ?_ _ | refine gr2 ?_ (Later.below _) | refine gr2 ?_ (by assumption) | refine gr3 ?_ | refine gr4 ?_ (by first | (simp; done) | (simp; omega) | omega) _))
end Go.Proofs.Ytdpiikpodcanjaa
