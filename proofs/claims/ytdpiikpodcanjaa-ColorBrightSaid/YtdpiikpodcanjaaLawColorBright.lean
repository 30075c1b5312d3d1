/- ColorBright: the walk: it returns true. -/
import Derived.Test.YtdpiikpodcanjaaColorM
namespace Go.Proofs.Ytdpiikpodcanjaa
open Go.RowKit

set_option maxHeartbeats 2000000 in
theorem walk_ColorBright (r : Int) (g : Int) (b : Int) (d : Int) (k : Int) (w : World) (_br : 0 ≤ r ∧ r ≤ 255) (_bg : 0 ≤ g ∧ g ≤ 255) (_bb : 0 ≤ b ∧ b ≤ 255) (_bd : 0 ≤ d ∧ d ≤ 255) (_bk : 0 ≤ k ∧ k ≤ 255) :
    Calls Try.prog 7 #[.int .u8 r, .int .u8 g, .int .u8 b, .int .u8 d, .int .u8 k] w fun e w' => e = .returned (.bool true) ∧ Below w.heap.size w w' := by
  obtain ⟨mr, hmr⟩ : ∃ m, m = (if 255 < r + d then 255 else r + d) := ⟨_, rfl⟩
  have gr : (if 255 < r + d then 255 else r + d) = mr := hmr.symm
  have kr : wrap64 (r + d) = r + d := w64 (by omega) (by omega)
  have zr : r ≤ mr := by rw [hmr]; split <;> omega
  clear hmr
  obtain ⟨mg, hmg⟩ : ∃ m, m = (if 255 < g + d then 255 else g + d) := ⟨_, rfl⟩
  have gg : (if 255 < g + d then 255 else g + d) = mg := hmg.symm
  have kg : wrap64 (g + d) = g + d := w64 (by omega) (by omega)
  have zg : g ≤ mg := by rw [hmg]; split <;> omega
  clear hmg
  obtain ⟨mb, hmb⟩ : ∃ m, m = (if 255 < b + d then 255 else b + d) := ⟨_, rfl⟩
  have gb : (if 255 < b + d then 255 else b + d) = mb := hmb.symm
  have kb : wrap64 (b + d) = b + d := w64 (by omega) (by omega)
  have zb : b ≤ mb := by rw [hmb]; split <;> omega
  clear hmb
  have l1 : lum1 r g b ≤ lum1 mr g b := lum1_mono zr (Int.le_refl _) (Int.le_refl _)
  have l2 : lum1 r g b ≤ lum1 r mg b := lum1_mono (Int.le_refl _) zg (Int.le_refl _)
  have l3 : lum1 r g b ≤ lum1 r g mb := lum1_mono (Int.le_refl _) (Int.le_refl _) zb
  have hk : k % 3 = 0 ∨ k % 3 = 1 ∨ k % 3 = 2 := by omega
  rcases hk with hk | hk | hk
  all_goals (
    go_enter Try.func7, Try.ntmps7
    go_wp2_with (first
      | (go_at_call 14; refine (known06 _).mono ?_; rintro e W1 ⟨rfl, hb1⟩; obtain ⟨hc1, hf1, hz1⟩ := bcell hb1; try simp at hz1)
      | (go_at_call 16; refine (luma_ _ _ _ _).mono ?_; rintro e W1 ⟨rfl, hb1⟩; obtain ⟨hc1, hf1, hz1⟩ := bcell hb1; try simp at hz1)
      | (refine wp_region_calm (by kernel_rfl) (by kernel_rfl) ?_; repeat (first | go_big_quiet_step ((first | (go_at_call 14; exact calm_call (known06 _)) | (go_at_call 16; exact calm_call (luma_ _ _ _ _)))) | quiet_step ((first | (go_at_call 14; exact calm_call (known06 _)) | (go_at_call 16; exact calm_call (luma_ _ _ _ _)))))
         refine wpQuiet_nil ?_; intro u; have hzu := u.below.size; try simp at hzu))
    all_goals go_ret
    all_goals refine ⟨rfl, ?_⟩
    all_goals (repeat (first | exact gr0 _ | refine gr1 ?_ _ | refine gr2 ?_ (Later.below _) | refine gr2 ?_ (by assumption) | refine gr3 ?_ | refine gr4 ?_ (by first | (simp; done) | (simp; omega) | omega) _)))
end Go.Proofs.Ytdpiikpodcanjaa
