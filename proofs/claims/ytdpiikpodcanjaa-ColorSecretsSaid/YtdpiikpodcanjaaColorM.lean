/- Colours: plain laws of the numbers. -/
import Derived.Test.YtdpiikpodcanjaaColorR
namespace Go.Proofs.Ytdpiikpodcanjaa
open Go.RowKit

theorem gray {g : Int} (h1 : 0 ≤ g) (h2 : g ≤ 255) : lum1 g g g = g ∧ lum2 g g g = 128 ∧ lum3 g g g = 128 ∧ bak1 g 128 128 = g ∧ bak2 g 128 128 = g ∧ bak3 g 128 128 = g := by
  have k : clipI 128 0 255 = 128 := rfl
  rw [lum1_eq, lum2_eq, lum3_eq, bak1_eq, bak2_eq, bak3_eq, clip_id h1 h2, k]
  have e1 : (19595 * g + 38470 * g + 7471 * g + 32768) / 65536 = g := by omega
  have e2 : (-11059 * g - 21709 * g + 32768 * g + 8421375) / 65536 = 128 := by omega
  have e3 : (32768 * g - 27439 * g - 5329 * g + 8421375) / 65536 = 128 := by omega
  rw [e1, e2, e3, k]
  have e4 : g + (91881 * (128 - 128) + 32768) / 65536 = g := by omega
  have e5 : g + (-22554 * (128 - 128) - 46802 * (128 - 128) + 32768) / 65536 = g := by omega
  have e6 : g + (116130 * (128 - 128) + 32768) / 65536 = g := by omega
  rw [e4, e5, e6, clip_id h1 h2]
  exact ⟨rfl, rfl, rfl, rfl, rfl, rfl⟩
theorem clip_near {v r : Int} (h1 : 0 ≤ r) (h2 : r ≤ 255) (h3 : v - r ≤ 2) (h4 : r - v ≤ 2) : clipI v 0 255 - r ≤ 2 ∧ r - clipI v 0 255 ≤ 2 := by
  unfold clipI
  split
  · omega
  · split <;> omega
theorem near_all {x y z : Int} (hx : 0 ≤ x ∧ x ≤ 255) (hy : 0 ≤ y ∧ y ≤ 255) (hz : 0 ≤ z ∧ z ≤ 255) :
    ((bak1 (lum1 x y z) (lum2 x y z) (lum3 x y z) - x ≤ 2 ∧ x - bak1 (lum1 x y z) (lum2 x y z) (lum3 x y z) ≤ 2)) ∧
    ((bak2 (lum1 x y z) (lum2 x y z) (lum3 x y z) - y ≤ 2 ∧ y - bak2 (lum1 x y z) (lum2 x y z) (lum3 x y z) ≤ 2)) ∧
    (bak3 (lum1 x y z) (lum2 x y z) (lum3 x y z) - z ≤ 2 ∧ z - bak3 (lum1 x y z) (lum2 x y z) (lum3 x y z) ≤ 2) := by
  obtain ⟨⟨a1, a2⟩, ⟨b1, b2⟩, c1, c2⟩ := lum_byte x y z
  rw [bak1_eq, bak2_eq, bak3_eq, clip_id a1 a2, clip_id b1 b2, clip_id c1 c2]
  have el := lum1_eq x y z; have eb := lum2_eq x y z; have er := lum3_eq x y z
  rw [clip_id hx.1 hx.2, clip_id hy.1 hy.2, clip_id hz.1 hz.2] at el eb er
  rw [clip_id (by omega) (by omega)] at el eb er
  generalize lum1 x y z = l at *
  generalize lum2 x y z = b at *
  generalize lum3 x y z = r at *
  refine ⟨clip_near hx.1 hx.2 ?_ ?_, clip_near hy.1 hy.2 ?_ ?_, clip_near hz.1 hz.2 ?_ ?_⟩ <;> omega
theorem clip_clip (n : Int) : clipI (clipI n 0 255) 0 255 = clipI n 0 255 := clip_id (clip_lo n) (clip_hi n)
theorem lum1_clip (r g b : Int) : lum1 (clipI r 0 255) (clipI g 0 255) (clipI b 0 255) = lum1 r g b := by unfold lum1; rw [clip_clip, clip_clip, clip_clip]
theorem lum2_clip (r g b : Int) : lum2 (clipI r 0 255) (clipI g 0 255) (clipI b 0 255) = lum2 r g b := by unfold lum2; rw [clip_clip, clip_clip, clip_clip]
theorem lum3_clip (r g b : Int) : lum3 (clipI r 0 255) (clipI g 0 255) (clipI b 0 255) = lum3 r g b := by unfold lum3; rw [clip_clip, clip_clip, clip_clip]
theorem bak1_clip (r g b : Int) : bak1 (clipI r 0 255) (clipI g 0 255) (clipI b 0 255) = bak1 r g b := by unfold bak1 bk0; rw [clip_clip, clip_clip, clip_clip]
theorem bak2_clip (r g b : Int) : bak2 (clipI r 0 255) (clipI g 0 255) (clipI b 0 255) = bak2 r g b := by unfold bak2 bk0; rw [clip_clip, clip_clip, clip_clip]
theorem bak3_clip (r g b : Int) : bak3 (clipI r 0 255) (clipI g 0 255) (clipI b 0 255) = bak3 r g b := by unfold bak3 bk0; rw [clip_clip, clip_clip, clip_clip]
theorem minmax (n : Int) : (if 0 < (if n < 255 then n else 255) then (if n < 255 then n else 255) else 0) = clipI n 0 255 := by
  unfold clipI; repeat' split
  all_goals omega
theorem clip_mono {m n : Int} (h : m ≤ n) : clipI m 0 255 ≤ clipI n 0 255 := by
  unfold clipI; repeat' split
  all_goals omega
theorem lum1_mono {r g b r' g' b' : Int} (h1 : r ≤ r') (h2 : g ≤ g') (h3 : b ≤ b') : lum1 r g b ≤ lum1 r' g' b' := by
  rw [lum1_eq, lum1_eq]
  have k1 := clip_mono h1; have k2 := clip_mono h2; have k3 := clip_mono h3
  exact clip_mono (by omega)
end Go.Proofs.Ytdpiikpodcanjaa
