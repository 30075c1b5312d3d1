/- ColorNear: the walk: it returns true. -/
import Derived.Test.YtdpiikpodcanjaaColorM
namespace Go.Proofs.Ytdpiikpodcanjaa
open Go.RowKit

set_option maxHeartbeats 2000000 in
theorem walk_ColorNear (r : Int) (g : Int) (b : Int) (w : World) (_br : 0 ≤ r ∧ r ≤ 255) (_bg : 0 ≤ g ∧ g ≤ 255) (_bb : 0 ≤ b ∧ b ≤ 255) :
    Calls Try.prog 5 #[.int .u8 r, .int .u8 g, .int .u8 b] w fun e w' => e = .returned (.bool true) ∧ Below w.heap.size w w' := by
  obtain ⟨⟨h1, h2⟩, ⟨h3, h4⟩, h5, h6⟩ := near_all _br _bg _bb
  have i1 : -1000 ≤ r ∧ r ≤ 1000 := by omega
  go_enter Try.func5, Try.ntmps5
  go_wp2_with (first
    | (go_at_call 14; refine (known06 _).mono ?_; rintro e W1 ⟨rfl, hb1⟩; obtain ⟨hc1, hf1, hz1⟩ := bcell hb1; try simp at hz1)
    | (go_at_call 16; refine (luma_ _ _ _ _).mono ?_; rintro e W1 ⟨rfl, hb1⟩; obtain ⟨hc1, hf1, hz1⟩ := bcell hb1; try simp at hz1)
    | (go_at_call 17; refine (back_ _ _ _ _).mono ?_; rintro e W1 ⟨rfl, hb1⟩; obtain ⟨hc1, hf1, hz1⟩ := bcell hb1; try simp at hz1)
    | (go_at_call 18; refine (near06 _ _ _ ‹_› ‹_›).mono ?_; rintro e W1 ⟨rfl, hb1⟩; obtain ⟨hc1, hf1, hz1⟩ := bcell hb1; try simp at hz1)
    | (refine wp_region_calm (by kernel_rfl) (by kernel_rfl) ?_; repeat (first | go_big_quiet_step ((first | (go_at_call 14; exact calm_call (known06 _)) | (go_at_call 16; exact calm_call (luma_ _ _ _ _)) | (go_at_call 17; exact calm_call (back_ _ _ _ _)) | (go_at_call 18; exact calm_call (near06 _ _ _ ‹_› ‹_›)))) | quiet_step ((first | (go_at_call 14; exact calm_call (known06 _)) | (go_at_call 16; exact calm_call (luma_ _ _ _ _)) | (go_at_call 17; exact calm_call (back_ _ _ _ _)) | (go_at_call 18; exact calm_call (near06 _ _ _ ‹_› ‹_›)))))
       refine wpQuiet_nil ?_; intro u; have hzu := u.below.size; try simp at hzu))
  all_goals go_ret
  all_goals refine ⟨rfl, ?_⟩
  all_goals (repeat (first | exact gr0 _ | refine gr1 ?_ _ | refine gr2 ?_ (Later.below _) | refine gr2 ?_ (by assumption) | refine gr3 ?_ | refine gr4 ?_ (by first | (simp; done) | (simp; omega) | omega) _))
end Go.Proofs.Ytdpiikpodcanjaa
