/- ColorClips: the walk: it returns true. -/
import Derived.Test.YtdpiikpodcanjaaColorM
namespace Go.Proofs.Ytdpiikpodcanjaa
open Go.RowKit

set_option maxHeartbeats 400000 in
theorem walk_ColorClips (r : Int) (g : Int) (b : Int) (w : World) (_br : -9223372036854775808 ≤ r ∧ r ≤ 9223372036854775807) (_bg : -9223372036854775808 ≤ g ∧ g ≤ 9223372036854775807) (_bb : -9223372036854775808 ≤ b ∧ b ≤ 9223372036854775807) :
    Calls Try.prog 6 #[.int .i64 r, .int .i64 g, .int .i64 b] w fun e w' => e = .returned (.bool true) ∧ Below w.heap.size w w' := by
  obtain ⟨⟨p1, p2⟩, ⟨p3, p4⟩, p5, p6⟩ := lum_byte r g b
  obtain ⟨⟨q1, q2⟩, ⟨q3, q4⟩, q5, q6⟩ := bak_byte r g b
  obtain ⟨mr, hmr⟩ : ∃ m, m = (if 255 < r then 255 else r) := ⟨_, rfl⟩
  have gr : (if 255 < r then 255 else r) = mr := hmr.symm
  have kr : (if 0 < mr then mr else 0) = clipI r 0 255 := by
    rw [hmr]; unfold clipI; repeat' split
    all_goals omega
  clear hmr
  obtain ⟨mg, hmg⟩ : ∃ m, m = (if 255 < g then 255 else g) := ⟨_, rfl⟩
  have gg : (if 255 < g then 255 else g) = mg := hmg.symm
  have kg : (if 0 < mg then mg else 0) = clipI g 0 255 := by
    rw [hmg]; unfold clipI; repeat' split
    all_goals omega
  clear hmg
  obtain ⟨mb, hmb⟩ : ∃ m, m = (if 255 < b then 255 else b) := ⟨_, rfl⟩
  have gb : (if 255 < b then 255 else b) = mb := hmb.symm
  have kb : (if 0 < mb then mb else 0) = clipI b 0 255 := by
    rw [hmb]; unfold clipI; repeat' split
    all_goals omega
  clear hmb
  have l1 := lum1_clip r g b
  have b1 := bak1_clip r g b
  have l2 := lum2_clip r g b
  have b2 := bak2_clip r g b
  have l3 := lum3_clip r g b
  have b3 := bak3_clip r g b
  go_enter Try.func6, Try.ntmps6
  go_wp2_with (first
    | (go_at_call 14; refine (known06 _).mono ?_; rintro e W1 ⟨rfl, hb1⟩; obtain ⟨hc1, hf1, hz1⟩ := bcell hb1; try simp at hz1)
    | (go_at_call 16; refine (luma_ _ _ _ _).mono ?_; rintro e W1 ⟨rfl, hb1⟩; obtain ⟨hc1, hf1, hz1⟩ := bcell hb1; try simp at hz1)
    | (go_at_call 17; refine (back_ _ _ _ _).mono ?_; rintro e W1 ⟨rfl, hb1⟩; obtain ⟨hc1, hf1, hz1⟩ := bcell hb1; try simp at hz1)
    | (go_at_call 19; refine (part06 _ _ ‹_› ‹_›).mono ?_; rintro e W1 ⟨rfl, hb1⟩; obtain ⟨hc1, hf1, hz1⟩ := bcell hb1; try simp at hz1)
    | (refine wp_region_calm (by kernel_rfl) (by kernel_rfl) ?_; repeat (first | go_big_quiet_step ((first | (go_at_call 14; exact calm_call (known06 _)) | (go_at_call 16; exact calm_call (luma_ _ _ _ _)) | (go_at_call 17; exact calm_call (back_ _ _ _ _)) | (go_at_call 19; exact calm_call (part06 _ _ ‹_› ‹_›)))) | quiet_step ((first | (go_at_call 14; exact calm_call (known06 _)) | (go_at_call 16; exact calm_call (luma_ _ _ _ _)) | (go_at_call 17; exact calm_call (back_ _ _ _ _)) | (go_at_call 19; exact calm_call (part06 _ _ ‹_› ‹_›)))))
       refine wpQuiet_nil ?_; intro u; have hzu := u.below.size; try simp at hzu))
  all_goals go_ret
  all_goals refine ⟨rfl, ?_⟩
  all_goals (repeat (first | exact gr0 _ | refine gr1 ?_ _ | refine gr2 ?_ (Later.below _) | refine gr2 ?_ (by assumption) | refine gr3 ?_ | refine gr4 ?_ (by first | (simp; done) | (simp; omega) | omega) _))
end Go.Proofs.Ytdpiikpodcanjaa
