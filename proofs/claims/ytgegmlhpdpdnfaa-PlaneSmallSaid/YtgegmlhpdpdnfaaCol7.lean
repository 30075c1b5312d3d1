/- Colours: the chapter's own answer, and the exported functions. -/
import Derived.Test.YtgegmlhpdpdnfaaColorL
import Derived.Test.YtgegmlhpdpdnfaaSidesL
namespace Go.Proofs.Ytgegmlhpdpdnfaa
open Go.RowKit

theorem clip_lo (n : Int) : 0 ≤ clipI n 0 255 := by unfold clipI; split; omega; split <;> omega
theorem clip_hi (n : Int) : clipI n 0 255 ≤ 255 := by unfold clipI; split; omega; split <;> omega
theorem clip_id {n : Int} (h1 : 0 ≤ n) (h2 : n ≤ 255) : clipI n 0 255 = n := by unfold clipI; rw [if_neg (by omega), if_neg (by omega)]
theorem lum1_eq (r g b : Int) : lum1 r g b = clipI ((19595 * clipI r 0 255 + 38470 * clipI g 0 255 + 7471 * clipI b 0 255 + 32768) / 65536) 0 255 := by
  have h1 := clip_lo r; have h2 := clip_hi r; have h3 := clip_lo g; have h4 := clip_hi g; have h5 := clip_lo b; have h6 := clip_hi b
  unfold lum1 sumI
  simp (disch := omega) only [w64]
  congr 1; omega
theorem lum2_eq (r g b : Int) : lum2 r g b = clipI ((-11059 * clipI r 0 255 - 21709 * clipI g 0 255 + 32768 * clipI b 0 255 + 8421375) / 65536) 0 255 := by
  have h1 := clip_lo r; have h2 := clip_hi r; have h3 := clip_lo g; have h4 := clip_hi g; have h5 := clip_lo b; have h6 := clip_hi b
  unfold lum2 sumI
  simp (disch := omega) only [w64]
  congr 1; omega
theorem lum3_eq (r g b : Int) : lum3 r g b = clipI ((32768 * clipI r 0 255 - 27439 * clipI g 0 255 - 5329 * clipI b 0 255 + 8421375) / 65536) 0 255 := by
  have h1 := clip_lo r; have h2 := clip_hi r; have h3 := clip_lo g; have h4 := clip_hi g; have h5 := clip_lo b; have h6 := clip_hi b
  unfold lum3 sumI
  simp (disch := omega) only [w64]
  congr 1; omega
theorem bak1_eq (y cb cr : Int) : bak1 y cb cr = clipI (clipI y 0 255 + (91881 * (clipI cr 0 255 - 128) + 32768) / 65536) 0 255 := by
  have h1 := clip_lo y; have h2 := clip_hi y; have h3 := clip_lo cb; have h4 := clip_hi cb; have h5 := clip_lo cr; have h6 := clip_hi cr
  unfold bak1 sumI bk0
  simp (disch := omega) only [w64]
  congr 1; omega
theorem bak2_eq (y cb cr : Int) : bak2 y cb cr = clipI (clipI y 0 255 + (-22554 * (clipI cb 0 255 - 128) - 46802 * (clipI cr 0 255 - 128) + 32768) / 65536) 0 255 := by
  have h1 := clip_lo y; have h2 := clip_hi y; have h3 := clip_lo cb; have h4 := clip_hi cb; have h5 := clip_lo cr; have h6 := clip_hi cr
  unfold bak2 sumI bk0
  simp (disch := omega) only [w64]
  congr 1; omega
theorem bak3_eq (y cb cr : Int) : bak3 y cb cr = clipI (clipI y 0 255 + (116130 * (clipI cb 0 255 - 128) + 32768) / 65536) 0 255 := by
  have h1 := clip_lo y; have h2 := clip_hi y; have h3 := clip_lo cb; have h4 := clip_hi cb; have h5 := clip_lo cr; have h6 := clip_hi cr
  unfold bak3 sumI bk0
  simp (disch := omega) only [w64]
  congr 1; omega
theorem ret3_int {a b c a' b' c' : Int} (h1 : a = a') (h2 : b = b') (h3 : c = c') : Ending.returned (.tuple #[.int .i64 a, .int .i64 b, .int .i64 c]) = .returned (.tuple #[.int .i64 a', .int .i64 b', .int .i64 c']) := by rw [h1, h2, h3]
theorem lum_byte (r g b : Int) : (0 ≤ lum1 r g b ∧ lum1 r g b ≤ 255) ∧ (0 ≤ lum2 r g b ∧ lum2 r g b ≤ 255) ∧ 0 ≤ lum3 r g b ∧ lum3 r g b ≤ 255 := ⟨⟨clip_lo _, clip_hi _⟩, ⟨clip_lo _, clip_hi _⟩, clip_lo _, clip_hi _⟩
theorem bak_byte (r g b : Int) : (0 ≤ bak1 r g b ∧ bak1 r g b ≤ 255) ∧ (0 ≤ bak2 r g b ∧ bak2 r g b ≤ 255) ∧ 0 ≤ bak3 r g b ∧ bak3 r g b ≤ 255 := ⟨⟨clip_lo _, clip_hi _⟩, ⟨clip_lo _, clip_hi _⟩, clip_lo _, clip_hi _⟩

theorem byte06 (n : Int) (w : World) :
    Calls Try.prog 64 #[.int .i64 n] w fun e w' => e = .returned (.int .i64 (clipI n 0 255)) ∧ Below w.heap.size w w' := by
  go_enter Try.func64, Try.ntmps64
  go_wp2_with (first
    | (go_at_call 63; refine (ref01_clip _ _ _ _).mono ?_; rintro e W1 ⟨rfl, hb1⟩; obtain ⟨hc1, hf1, hz1⟩ := bcell hb1; try simp at hz1)
    | (refine wp_region_calm (by kernel_rfl) (by kernel_rfl) ?_; repeat (first | go_big_quiet_step ((first | (go_at_call 63; exact calm_call (ref01_clip _ _ _ _)))) | quiet_step ((first | (go_at_call 63; exact calm_call (ref01_clip _ _ _ _)))))
       refine wpQuiet_nil ?_; intro u; have hzu := u.below.size; try simp at hzu))
  go_ret
  refine ⟨rfl, ?_⟩
  repeat (first | exact gr0 _ | refine gr1 ?_ _ | refine gr2 ?_ (Later.below _) | refine gr2 ?_ (by assumption) | refine gr3 ?_ | refine gr4 ?_ (by first | (simp; done) | (simp; omega) | omega) _)

set_option maxHeartbeats 2000000 in
theorem ref_luma (r g b : Int) (w : World) :
    Calls Try.prog 97 #[.int .i64 r, .int .i64 g, .int .i64 b] w fun e w' => e = .returned (.tuple #[.int .i64 (lum1 r g b), .int .i64 (lum2 r g b), .int .i64 (lum3 r g b)]) ∧ Below w.heap.size w w' := by
  have hr1 := clip_lo r; have hr2 := clip_hi r; have hg1 := clip_lo g; have hg2 := clip_hi g; have hb1 := clip_lo b; have hb2 := clip_hi b
  go_enter Try.func97, Try.ntmps97
  go_wp2_with (first
    | (go_at_call 64; refine (byte06 _ _).mono ?_; rintro e W1 ⟨rfl, hb1⟩; obtain ⟨hc1, hf1, hz1⟩ := bcell hb1; try simp at hz1)
    | (refine wp_region_calm (by kernel_rfl) (by kernel_rfl) ?_; repeat (first | go_big_quiet_step ((first | (go_at_call 64; exact calm_call (byte06 _ _)))) | quiet_step ((first | (go_at_call 64; exact calm_call (byte06 _ _)))))
       refine wpQuiet_nil ?_; intro u; have hzu := u.below.size; try simp at hzu))
  go_ret3
  refine ⟨ret3_int (by first | (rw [lum1_eq]; done) | (rw [lum1_eq]; simp (disch := omega) only [w64]; first | done | (congr 1; omega))) (by first | (rw [lum2_eq]; done) | (rw [lum2_eq]; simp (disch := omega) only [w64]; first | done | (congr 1; omega))) (by first | (rw [lum3_eq]; done) | (rw [lum3_eq]; simp (disch := omega) only [w64]; first | done | (congr 1; omega))), ?_⟩
  repeat (first | exact gr0 _ | refine gr1 ?_ _ | refine gr2 ?_ (Later.below _) | refine gr2 ?_ (by assumption) | refine gr3 ?_ | refine gr4 ?_ (by first | (simp; done) | (simp; omega) | omega) _)

set_option maxHeartbeats 2000000 in
theorem ref_back (y cb cr : Int) (w : World) :
    Calls Try.prog 44 #[.int .i64 y, .int .i64 cb, .int .i64 cr] w fun e w' => e = .returned (.tuple #[.int .i64 (bak1 y cb cr), .int .i64 (bak2 y cb cr), .int .i64 (bak3 y cb cr)]) ∧ Below w.heap.size w w' := by
  have hy1 := clip_lo y; have hy2 := clip_hi y; have hcb1 := clip_lo cb; have hcb2 := clip_hi cb; have hcr1 := clip_lo cr; have hcr2 := clip_hi cr
  go_enter Try.func44, Try.ntmps44
  go_wp2_with (first
    | (go_at_call 64; refine (byte06 _ _).mono ?_; rintro e W1 ⟨rfl, hb1⟩; obtain ⟨hc1, hf1, hz1⟩ := bcell hb1; try simp at hz1)
    | (refine wp_region_calm (by kernel_rfl) (by kernel_rfl) ?_; repeat (first | go_big_quiet_step ((first | (go_at_call 64; exact calm_call (byte06 _ _)))) | quiet_step ((first | (go_at_call 64; exact calm_call (byte06 _ _)))))
       refine wpQuiet_nil ?_; intro u; have hzu := u.below.size; try simp at hzu))
  go_ret3
  refine ⟨ret3_int (by first | (rw [bak1_eq]; done) | (rw [bak1_eq]; simp (disch := omega) only [w64]; first | done | (congr 1; omega))) (by first | (rw [bak2_eq]; done) | (rw [bak2_eq]; simp (disch := omega) only [w64]; first | done | (congr 1; omega))) (by first | (rw [bak3_eq]; done) | (rw [bak3_eq]; simp (disch := omega) only [w64]; first | done | (congr 1; omega))), ?_⟩
  repeat (first | exact gr0 _ | refine gr1 ?_ _ | refine gr2 ?_ (Later.below _) | refine gr2 ?_ (by assumption) | refine gr3 ?_ | refine gr4 ?_ (by first | (simp; done) | (simp; omega) | omega) _)

set_option maxHeartbeats 2000000 in
theorem luma_ (r g b : Int) (w : World) :
    Calls Try.prog 60 #[.int .i64 r, .int .i64 g, .int .i64 b] w fun e w' => e = .returned (.tuple #[.int .i64 (lum1 r g b), .int .i64 (lum2 r g b), .int .i64 (lum3 r g b)]) ∧ Below w.heap.size w w' := by
  go_enter Try.func60, Try.ntmps60
  go_wp2_with (first
    | (go_at_call 75; refine (plain_ops _).mono ?_; rintro e W1 ⟨rfl, hb1⟩; obtain ⟨hc1, hf1, hz1⟩ := bcell hb1; try simp at hz1)
    | (go_at_call 74; refine (luma_I _ _ _ _).mono ?_; rintro e W1 ⟨rfl, hb1⟩; obtain ⟨hc1, hf1, hz1⟩ := bcell hb1; try simp at hz1)
    | (refine wp_region_calm (by kernel_rfl) (by kernel_rfl) ?_; repeat (first | go_big_quiet_step ((first | (go_at_call 75; exact calm_call (plain_ops _)) | (go_at_call 74; exact calm_call (luma_I _ _ _ _)))) | quiet_step ((first | (go_at_call 75; exact calm_call (plain_ops _)) | (go_at_call 74; exact calm_call (luma_I _ _ _ _)))))
       refine wpQuiet_nil ?_; intro u; have hzu := u.below.size; try simp at hzu))
  go_ret3
  refine ⟨rfl, ?_⟩
  repeat (first | exact gr0 _ | refine gr1 ?_ _ | refine gr2 ?_ (Later.below _) | refine gr2 ?_ (by assumption) | refine gr3 ?_ | refine gr4 ?_ (by first | (simp; done) | (simp; omega) | omega) _)

set_option maxHeartbeats 2000000 in
theorem back_ (y cb cr : Int) (w : World) :
    Calls Try.prog 61 #[.int .i64 y, .int .i64 cb, .int .i64 cr] w fun e w' => e = .returned (.tuple #[.int .i64 (bak1 y cb cr), .int .i64 (bak2 y cb cr), .int .i64 (bak3 y cb cr)]) ∧ Below w.heap.size w w' := by
  go_enter Try.func61, Try.ntmps61
  go_wp2_with (first
    | (go_at_call 75; refine (plain_ops _).mono ?_; rintro e W1 ⟨rfl, hb1⟩; obtain ⟨hc1, hf1, hz1⟩ := bcell hb1; try simp at hz1)
    | (go_at_call 76; refine (back_I _ _ _ _).mono ?_; rintro e W1 ⟨rfl, hb1⟩; obtain ⟨hc1, hf1, hz1⟩ := bcell hb1; try simp at hz1)
    | (refine wp_region_calm (by kernel_rfl) (by kernel_rfl) ?_; repeat (first | go_big_quiet_step ((first | (go_at_call 75; exact calm_call (plain_ops _)) | (go_at_call 76; exact calm_call (back_I _ _ _ _)))) | quiet_step ((first | (go_at_call 75; exact calm_call (plain_ops _)) | (go_at_call 76; exact calm_call (back_I _ _ _ _)))))
       refine wpQuiet_nil ?_; intro u; have hzu := u.below.size; try simp at hzu))
  go_ret3
  refine ⟨rfl, ?_⟩
  repeat (first | exact gr0 _ | refine gr1 ?_ _ | refine gr2 ?_ (Later.below _) | refine gr2 ?_ (by assumption) | refine gr3 ?_ | refine gr4 ?_ (by first | (simp; done) | (simp; omega) | omega) _)

theorem kn1 : lum1 255 255 255 = 255 ∧ lum2 255 255 255 = 128 ∧ lum3 255 255 255 = 128 := by decide +kernel
theorem kn2 : bak1 255 128 128 = 255 ∧ bak2 255 128 128 = 255 ∧ bak3 255 128 128 = 255 := by decide +kernel



theorem gray {g : Int} (h1 : 0 ≤ g) (h2 : g ≤ 255) : lum1 g g g = g ∧ lum2 g g g = 128 ∧ lum3 g g g = 128 ∧ bak1 g 128 128 = g ∧ bak2 g 128 128 = g ∧ bak3 g 128 128 = g := by
  have k : clipI 128 0 255 = 128 := rfl
  rw [lum1_eq, lum2_eq, lum3_eq, bak1_eq, bak2_eq, bak3_eq, clip_id h1 h2, k]
  have e1 : (19595 * g + 38470 * g + 7471 * g + 32768) / 65536 = g := by omega
  have e2 : (-11059 * g - 21709 * g + 32768 * g + 8421375) / 65536 = 128 := by omega
  have e3 : (32768 * g - 27439 * g - 5329 * g + 8421375) / 65536 = 128 := by omega
  rw [e1, e2, e3, k]
  have e4 : g + (91881 * (128 - 128) + 32768) / 65536 = g := by omega
  have e5 : g + (-22554 * (128 - 128) - 46802 * (128 - 128) + 32768) / 65536 = g := by omega
  have e6 : g + (116130 * (128 - 128) + 32768) / 65536 = g := by omega
  rw [e4, e5, e6, clip_id h1 h2]
  exact ⟨rfl, rfl, rfl, rfl, rfl, rfl⟩
theorem clip_near {v r : Int} (h1 : 0 ≤ r) (h2 : r ≤ 255) (h3 : v - r ≤ 2) (h4 : r - v ≤ 2) : clipI v 0 255 - r ≤ 2 ∧ r - clipI v 0 255 ≤ 2 := by
  unfold clipI
  split
  · omega
  · split <;> omega
theorem near_all {x y z : Int} (hx : 0 ≤ x ∧ x ≤ 255) (hy : 0 ≤ y ∧ y ≤ 255) (hz : 0 ≤ z ∧ z ≤ 255) :
    ((bak1 (lum1 x y z) (lum2 x y z) (lum3 x y z) - x ≤ 2 ∧ x - bak1 (lum1 x y z) (lum2 x y z) (lum3 x y z) ≤ 2)) ∧
    ((bak2 (lum1 x y z) (lum2 x y z) (lum3 x y z) - y ≤ 2 ∧ y - bak2 (lum1 x y z) (lum2 x y z) (lum3 x y z) ≤ 2)) ∧
    (bak3 (lum1 x y z) (lum2 x y z) (lum3 x y z) - z ≤ 2 ∧ z - bak3 (lum1 x y z) (lum2 x y z) (lum3 x y z) ≤ 2) := by
  obtain ⟨⟨a1, a2⟩, ⟨b1, b2⟩, c1, c2⟩ := lum_byte x y z
  rw [bak1_eq, bak2_eq, bak3_eq, clip_id a1 a2, clip_id b1 b2, clip_id c1 c2]
  have el := lum1_eq x y z; have eb := lum2_eq x y z; have er := lum3_eq x y z
  rw [clip_id hx.1 hx.2, clip_id hy.1 hy.2, clip_id hz.1 hz.2] at el eb er
  rw [clip_id (by omega) (by omega)] at el eb er
  generalize lum1 x y z = l at *
  generalize lum2 x y z = b at *
  generalize lum3 x y z = r at *
  refine ⟨clip_near hx.1 hx.2 ?_ ?_, clip_near hy.1 hy.2 ?_ ?_, clip_near hz.1 hz.2 ?_ ?_⟩ <;> omega
theorem clip_clip (n : Int) : clipI (clipI n 0 255) 0 255 = clipI n 0 255 := clip_id (clip_lo n) (clip_hi n)
theorem lum1_clip (r g b : Int) : lum1 (clipI r 0 255) (clipI g 0 255) (clipI b 0 255) = lum1 r g b := by unfold lum1; rw [clip_clip, clip_clip, clip_clip]
theorem lum2_clip (r g b : Int) : lum2 (clipI r 0 255) (clipI g 0 255) (clipI b 0 255) = lum2 r g b := by unfold lum2; rw [clip_clip, clip_clip, clip_clip]
theorem lum3_clip (r g b : Int) : lum3 (clipI r 0 255) (clipI g 0 255) (clipI b 0 255) = lum3 r g b := by unfold lum3; rw [clip_clip, clip_clip, clip_clip]
theorem bak1_clip (r g b : Int) : bak1 (clipI r 0 255) (clipI g 0 255) (clipI b 0 255) = bak1 r g b := by unfold bak1 bk0; rw [clip_clip, clip_clip, clip_clip]
theorem bak2_clip (r g b : Int) : bak2 (clipI r 0 255) (clipI g 0 255) (clipI b 0 255) = bak2 r g b := by unfold bak2 bk0; rw [clip_clip, clip_clip, clip_clip]
theorem bak3_clip (r g b : Int) : bak3 (clipI r 0 255) (clipI g 0 255) (clipI b 0 255) = bak3 r g b := by unfold bak3 bk0; rw [clip_clip, clip_clip, clip_clip]
theorem minmax (n : Int) : (if 0 < (if n < 255 then n else 255) then (if n < 255 then n else 255) else 0) = clipI n 0 255 := by
  unfold clipI; repeat' split
  all_goals omega
theorem clip_mono {m n : Int} (h : m ≤ n) : clipI m 0 255 ≤ clipI n 0 255 := by
  unfold clipI; repeat' split
  all_goals omega
theorem lum1_mono {r g b r' g' b' : Int} (h1 : r ≤ r') (h2 : g ≤ g') (h3 : b ≤ b') : lum1 r g b ≤ lum1 r' g' b' := by
  rw [lum1_eq, lum1_eq]
  have k1 := clip_mono h1; have k2 := clip_mono h2; have k3 := clip_mono h3
  exact clip_mono (by omega)
end Go.Proofs.Ytgegmlhpdpdnfaa
