/- Colours: the chapter's own answer, and the exported functions. -/
import Derived.Test.YtdpiikpodcanjaaColorL
namespace Go.Proofs.Ytdpiikpodcanjaa
open Go.RowKit

theorem w64 {n : Int} (h1 : -9223372036854775808 ≤ n) (h2 : n ≤ 9223372036854775807) : wrap64 n = n := by unfold wrap64; omega
theorem clip_lo (n : Int) : 0 ≤ clipI n 0 255 := by unfold clipI; split; omega; split <;> omega
theorem clip_hi (n : Int) : clipI n 0 255 ≤ 255 := by unfold clipI; split; omega; split <;> omega
theorem clip_id {n : Int} (h1 : 0 ≤ n) (h2 : n ≤ 255) : clipI n 0 255 = n := by unfold clipI; rw [if_neg (by omega), if_neg (by omega)]
theorem lum1_eq (r g b : Int) : lum1 r g b = clipI ((19595 * clipI r 0 255 + 38470 * clipI g 0 255 + 7471 * clipI b 0 255 + 32768) / 65536) 0 255 := by
  have h1 := clip_lo r; have h2 := clip_hi r; have h3 := clip_lo g; have h4 := clip_hi g; have h5 := clip_lo b; have h6 := clip_hi b
  unfold lum1 sumI
  simp (disch := omega) only [w64]
  congr 1; omega
theorem lum2_eq (r g b : Int) : lum2 r g b = clipI ((-11059 * clipI r 0 255 - 21709 * clipI g 0 255 + 32768 * clipI b 0 255 + 8421375) / 65536) 0 255 := by
  have h1 := clip_lo r; have h2 := clip_hi r; have h3 := clip_lo g; have h4 := clip_hi g; have h5 := clip_lo b; have h6 := clip_hi b
  unfold lum2 sumI
  simp (disch := omega) only [w64]
  congr 1; omega
theorem lum3_eq (r g b : Int) : lum3 r g b = clipI ((32768 * clipI r 0 255 - 27439 * clipI g 0 255 - 5329 * clipI b 0 255 + 8421375) / 65536) 0 255 := by
  have h1 := clip_lo r; have h2 := clip_hi r; have h3 := clip_lo g; have h4 := clip_hi g; have h5 := clip_lo b; have h6 := clip_hi b
  unfold lum3 sumI
  simp (disch := omega) only [w64]
  congr 1; omega
theorem bak1_eq (y cb cr : Int) : bak1 y cb cr = clipI (clipI y 0 255 + (91881 * (clipI cr 0 255 - 128) + 32768) / 65536) 0 255 := by
  have h1 := clip_lo y; have h2 := clip_hi y; have h3 := clip_lo cb; have h4 := clip_hi cb; have h5 := clip_lo cr; have h6 := clip_hi cr
  unfold bak1 sumI bk0
  simp (disch := omega) only [w64]
  congr 1; omega
theorem bak2_eq (y cb cr : Int) : bak2 y cb cr = clipI (clipI y 0 255 + (-22554 * (clipI cb 0 255 - 128) - 46802 * (clipI cr 0 255 - 128) + 32768) / 65536) 0 255 := by
  have h1 := clip_lo y; have h2 := clip_hi y; have h3 := clip_lo cb; have h4 := clip_hi cb; have h5 := clip_lo cr; have h6 := clip_hi cr
  unfold bak2 sumI bk0
  simp (disch := omega) only [w64]
  congr 1; omega
theorem bak3_eq (y cb cr : Int) : bak3 y cb cr = clipI (clipI y 0 255 + (116130 * (clipI cb 0 255 - 128) + 32768) / 65536) 0 255 := by
  have h1 := clip_lo y; have h2 := clip_hi y; have h3 := clip_lo cb; have h4 := clip_hi cb; have h5 := clip_lo cr; have h6 := clip_hi cr
  unfold bak3 sumI bk0
  simp (disch := omega) only [w64]
  congr 1; omega
theorem ret3_int {a b c a' b' c' : Int} (h1 : a = a') (h2 : b = b') (h3 : c = c') : Ending.returned (.tuple #[.int .i64 a, .int .i64 b, .int .i64 c]) = .returned (.tuple #[.int .i64 a', .int .i64 b', .int .i64 c']) := by rw [h1, h2, h3]
theorem lum_byte (r g b : Int) : (0 ≤ lum1 r g b ∧ lum1 r g b ≤ 255) ∧ (0 ≤ lum2 r g b ∧ lum2 r g b ≤ 255) ∧ 0 ≤ lum3 r g b ∧ lum3 r g b ≤ 255 := ⟨⟨clip_lo _, clip_hi _⟩, ⟨clip_lo _, clip_hi _⟩, clip_lo _, clip_hi _⟩
theorem bak_byte (r g b : Int) : (0 ≤ bak1 r g b ∧ bak1 r g b ≤ 255) ∧ (0 ≤ bak2 r g b ∧ bak2 r g b ≤ 255) ∧ 0 ≤ bak3 r g b ∧ bak3 r g b ≤ 255 := ⟨⟨clip_lo _, clip_hi _⟩, ⟨clip_lo _, clip_hi _⟩, clip_lo _, clip_hi _⟩

theorem byte06 (n : Int) (w : World) :
    Calls Try.prog 64 #[.int .i64 n] w fun e w' => e = .returned (.int .i64 (clipI n 0 255)) ∧ Below w.heap.size w w' := by
  go_enter Try.func64, Try.ntmps64
  go_wp2_with (first
    | (go_at_call 85; refine (ref01_clip _ _ _ _).mono ?_; rintro e W1 ⟨rfl, hb1⟩; obtain ⟨hc1, hf1, hz1⟩ := bcell hb1; try simp at hz1)
    | (refine wp_region_calm (by kernel_rfl) (by kernel_rfl) ?_; repeat (first | go_big_quiet_step ((first | (go_at_call 85; exact calm_call (ref01_clip _ _ _ _)))) | quiet_step ((first | (go_at_call 85; exact calm_call (ref01_clip _ _ _ _)))))
       refine wpQuiet_nil ?_; intro u; have hzu := u.below.size; try simp at hzu))
  go_ret
  refine ⟨rfl, ?_⟩
  repeat (first | exact gr0 _ | refine gr1 ?_ _ | refine gr2 ?_ (Later.below _) | refine gr2 ?_ (by assumption) | refine gr3 ?_ | refine gr4 ?_ (by first | (simp; done) | (simp; omega) | omega) _)

set_option maxHeartbeats 2000000 in
theorem ref_luma (r g b : Int) (w : World) :
    Calls Try.prog 39 #[.int .i64 r, .int .i64 g, .int .i64 b] w fun e w' => e = .returned (.tuple #[.int .i64 (lum1 r g b), .int .i64 (lum2 r g b), .int .i64 (lum3 r g b)]) ∧ Below w.heap.size w w' := by
  have hr1 := clip_lo r; have hr2 := clip_hi r; have hg1 := clip_lo g; have hg2 := clip_hi g; have hb1 := clip_lo b; have hb2 := clip_hi b
  go_enter Try.func39, Try.ntmps39
  go_wp2_with (first
    | (go_at_call 64; refine (byte06 _ _).mono ?_; rintro e W1 ⟨rfl, hb1⟩; obtain ⟨hc1, hf1, hz1⟩ := bcell hb1; try simp at hz1)
    | (refine wp_region_calm (by kernel_rfl) (by kernel_rfl) ?_; repeat (first | go_big_quiet_step ((first | (go_at_call 64; exact calm_call (byte06 _ _)))) | quiet_step ((first | (go_at_call 64; exact calm_call (byte06 _ _)))))
       refine wpQuiet_nil ?_; intro u; have hzu := u.below.size; try simp at hzu))
  go_ret3
  refine ⟨ret3_int (by first | (rw [lum1_eq]; done) | (rw [lum1_eq]; simp (disch := omega) only [w64]; first | done | (congr 1; omega))) (by first | (rw [lum2_eq]; done) | (rw [lum2_eq]; simp (disch := omega) only [w64]; first | done | (congr 1; omega))) (by first | (rw [lum3_eq]; done) | (rw [lum3_eq]; simp (disch := omega) only [w64]; first | done | (congr 1; omega))), ?_⟩
  repeat (first | exact gr0 _ | refine gr1 ?_ _ | refine gr2 ?_ (Later.below _) | refine gr2 ?_ (by assumption) | refine gr3 ?_ | refine gr4 ?_ (by first | (simp; done) | (simp; omega) | omega) _)

set_option maxHeartbeats 2000000 in
theorem ref_back (y cb cr : Int) (w : World) :
    Calls Try.prog 40 #[.int .i64 y, .int .i64 cb, .int .i64 cr] w fun e w' => e = .returned (.tuple #[.int .i64 (bak1 y cb cr), .int .i64 (bak2 y cb cr), .int .i64 (bak3 y cb cr)]) ∧ Below w.heap.size w w' := by
  have hy1 := clip_lo y; have hy2 := clip_hi y; have hcb1 := clip_lo cb; have hcb2 := clip_hi cb; have hcr1 := clip_lo cr; have hcr2 := clip_hi cr
  go_enter Try.func40, Try.ntmps40
  go_wp2_with (first
    | (go_at_call 64; refine (byte06 _ _).mono ?_; rintro e W1 ⟨rfl, hb1⟩; obtain ⟨hc1, hf1, hz1⟩ := bcell hb1; try simp at hz1)
    | (refine wp_region_calm (by kernel_rfl) (by kernel_rfl) ?_; repeat (first | go_big_quiet_step ((first | (go_at_call 64; exact calm_call (byte06 _ _)))) | quiet_step ((first | (go_at_call 64; exact calm_call (byte06 _ _)))))
       refine wpQuiet_nil ?_; intro u; have hzu := u.below.size; try simp at hzu))
  go_ret3
  refine ⟨ret3_int (by first | (rw [bak1_eq]; done) | (rw [bak1_eq]; simp (disch := omega) only [w64]; first | done | (congr 1; omega))) (by first | (rw [bak2_eq]; done) | (rw [bak2_eq]; simp (disch := omega) only [w64]; first | done | (congr 1; omega))) (by first | (rw [bak3_eq]; done) | (rw [bak3_eq]; simp (disch := omega) only [w64]; first | done | (congr 1; omega))), ?_⟩
  repeat (first | exact gr0 _ | refine gr1 ?_ _ | refine gr2 ?_ (Later.below _) | refine gr2 ?_ (by assumption) | refine gr3 ?_ | refine gr4 ?_ (by first | (simp; done) | (simp; omega) | omega) _)

set_option maxHeartbeats 2000000 in
theorem luma_ (r g b : Int) (w : World) :
    Calls Try.prog 16 #[.int .i64 r, .int .i64 g, .int .i64 b] w fun e w' => e = .returned (.tuple #[.int .i64 (lum1 r g b), .int .i64 (lum2 r g b), .int .i64 (lum3 r g b)]) ∧ Below w.heap.size w w' := by
  go_enter Try.func16, Try.ntmps16
  go_wp2_with (first
    | (go_at_call 42; refine (plain_ops _).mono ?_; rintro e W1 ⟨rfl, hb1⟩; obtain ⟨hc1, hf1, hz1⟩ := bcell hb1; try simp at hz1)
    | (go_at_call 41; refine (luma_I _ _ _ _).mono ?_; rintro e W1 ⟨rfl, hb1⟩; obtain ⟨hc1, hf1, hz1⟩ := bcell hb1; try simp at hz1)
    | (refine wp_region_calm (by kernel_rfl) (by kernel_rfl) ?_; repeat (first | go_big_quiet_step ((first | (go_at_call 42; exact calm_call (plain_ops _)) | (go_at_call 41; exact calm_call (luma_I _ _ _ _)))) | quiet_step ((first | (go_at_call 42; exact calm_call (plain_ops _)) | (go_at_call 41; exact calm_call (luma_I _ _ _ _)))))
       refine wpQuiet_nil ?_; intro u; have hzu := u.below.size; try simp at hzu))
  go_ret3
  refine ⟨rfl, ?_⟩
  repeat (first | exact gr0 _ | refine gr1 ?_ _ | refine gr2 ?_ (Later.below _) | refine gr2 ?_ (by assumption) | refine gr3 ?_ | refine gr4 ?_ (by first | (simp; done) | (simp; omega) | omega) _)

set_option maxHeartbeats 2000000 in
theorem back_ (y cb cr : Int) (w : World) :
    Calls Try.prog 17 #[.int .i64 y, .int .i64 cb, .int .i64 cr] w fun e w' => e = .returned (.tuple #[.int .i64 (bak1 y cb cr), .int .i64 (bak2 y cb cr), .int .i64 (bak3 y cb cr)]) ∧ Below w.heap.size w w' := by
  go_enter Try.func17, Try.ntmps17
  go_wp2_with (first
    | (go_at_call 42; refine (plain_ops _).mono ?_; rintro e W1 ⟨rfl, hb1⟩; obtain ⟨hc1, hf1, hz1⟩ := bcell hb1; try simp at hz1)
    | (go_at_call 43; refine (back_I _ _ _ _).mono ?_; rintro e W1 ⟨rfl, hb1⟩; obtain ⟨hc1, hf1, hz1⟩ := bcell hb1; try simp at hz1)
    | (refine wp_region_calm (by kernel_rfl) (by kernel_rfl) ?_; repeat (first | go_big_quiet_step ((first | (go_at_call 42; exact calm_call (plain_ops _)) | (go_at_call 43; exact calm_call (back_I _ _ _ _)))) | quiet_step ((first | (go_at_call 42; exact calm_call (plain_ops _)) | (go_at_call 43; exact calm_call (back_I _ _ _ _)))))
       refine wpQuiet_nil ?_; intro u; have hzu := u.below.size; try simp at hzu))
  go_ret3
  refine ⟨rfl, ?_⟩
  repeat (first | exact gr0 _ | refine gr1 ?_ _ | refine gr2 ?_ (Later.below _) | refine gr2 ?_ (by assumption) | refine gr3 ?_ | refine gr4 ?_ (by first | (simp; done) | (simp; omega) | omega) _)

theorem kn1 : lum1 255 255 255 = 255 ∧ lum2 255 255 255 = 128 ∧ lum3 255 255 255 = 128 := by decide +kernel
theorem kn2 : bak1 255 128 128 = 255 ∧ bak2 255 128 128 = 255 ∧ bak3 255 128 128 = 255 := by decide +kernel

set_option maxHeartbeats 2000000 in
theorem known06 (w : World) :
    Calls Try.prog 14 #[] w fun e w' => e = .returned (.bool true) ∧ Below w.heap.size w w' := by
  obtain ⟨h1, h2, h3⟩ := kn1
  obtain ⟨h4, h5, h6⟩ := kn2
  go_enter Try.func14, Try.ntmps14
  go_wp2_with (first
    | (go_at_call 16; refine (luma_ _ _ _ _).mono ?_; rintro e W1 ⟨rfl, hb1⟩; obtain ⟨hc1, hf1, hz1⟩ := bcell hb1; try simp at hz1)
    | (go_at_call 17; refine (back_ _ _ _ _).mono ?_; rintro e W1 ⟨rfl, hb1⟩; obtain ⟨hc1, hf1, hz1⟩ := bcell hb1; try simp at hz1)
    | (refine wp_region_calm (by kernel_rfl) (by kernel_rfl) ?_; repeat (first | go_big_quiet_step ((first | (go_at_call 16; exact calm_call (luma_ _ _ _ _)) | (go_at_call 17; exact calm_call (back_ _ _ _ _)))) | quiet_step ((first | (go_at_call 16; exact calm_call (luma_ _ _ _ _)) | (go_at_call 17; exact calm_call (back_ _ _ _ _)))))
       refine wpQuiet_nil ?_; intro u; have hzu := u.below.size; try simp at hzu))
  go_ret
  refine ⟨rfl, ?_⟩
  repeat (first | exact gr0 _ | refine gr1 ?_ _ | refine gr2 ?_ (Later.below _) | refine gr2 ?_ (by assumption) | refine gr3 ?_ | refine gr4 ?_ (by first | (simp; done) | (simp; omega) | omega) _)

theorem pixels06 (r g b : Int) (w : World) :
    Calls Try.prog 15 #[.int .i64 r, .int .i64 g, .int .i64 b] w fun e w' => e = .returned (.bool true) ∧ Below w.heap.size w w' := by
  go_enter Try.func15, Try.ntmps15
  go_wp2_with (first
    | (go_at_call 16; refine (luma_ _ _ _ _).mono ?_; rintro e W1 ⟨rfl, hb1⟩; obtain ⟨hc1, hf1, hz1⟩ := bcell hb1; try simp at hz1)
    | (go_at_call 17; refine (back_ _ _ _ _).mono ?_; rintro e W1 ⟨rfl, hb1⟩; obtain ⟨hc1, hf1, hz1⟩ := bcell hb1; try simp at hz1)
    | (go_at_call 39; refine (ref_luma _ _ _ _).mono ?_; rintro e W1 ⟨rfl, hb1⟩; obtain ⟨hc1, hf1, hz1⟩ := bcell hb1; try simp at hz1)
    | (go_at_call 40; refine (ref_back _ _ _ _).mono ?_; rintro e W1 ⟨rfl, hb1⟩; obtain ⟨hc1, hf1, hz1⟩ := bcell hb1; try simp at hz1)
    | (refine wp_region_calm (by kernel_rfl) (by kernel_rfl) ?_; repeat (first | go_big_quiet_step ((first | (go_at_call 16; exact calm_call (luma_ _ _ _ _)) | (go_at_call 17; exact calm_call (back_ _ _ _ _)) | (go_at_call 39; exact calm_call (ref_luma _ _ _ _)) | (go_at_call 40; exact calm_call (ref_back _ _ _ _)))) | quiet_step ((first | (go_at_call 16; exact calm_call (luma_ _ _ _ _)) | (go_at_call 17; exact calm_call (back_ _ _ _ _)) | (go_at_call 39; exact calm_call (ref_luma _ _ _ _)) | (go_at_call 40; exact calm_call (ref_back _ _ _ _)))))
       refine wpQuiet_nil ?_; intro u; have hzu := u.below.size; try simp at hzu))
  go_ret
  refine ⟨rfl, ?_⟩
  repeat (first | exact gr0 _ | refine gr1 ?_ _ | refine gr2 ?_ (Later.below _) | refine gr2 ?_ (by assumption) | refine gr3 ?_ | refine gr4 ?_ (by first | (simp; done) | (simp; omega) | omega) _)


set_option maxHeartbeats 2000000 in
theorem near06 (a b : Int) (w : World) (h1 : a - b ≤ 2) (h2 : b - a ≤ 2) :
    Calls Try.prog 18 #[.int .i64 a, .int .i64 b] w fun e w' => e = .returned (.bool true) ∧ Below w.heap.size w w' := by
  have k1 : wrap64 (a - b) = a - b := w64 (by omega) (by omega)
  have k2 : wrap64 (b - a) = b - a := w64 (by omega) (by omega)
  go_enter Try.func18, Try.ntmps18
  go_wp2_with (first
    | (refine wp_region_calm (by kernel_rfl) (by kernel_rfl) ?_; repeat (first | go_big_quiet_step (fail) | quiet_step (fail))
       refine wpQuiet_nil ?_; intro u; have hzu := u.below.size; try simp at hzu))
  go_ret
  refine ⟨rfl, ?_⟩
  repeat (first | exact gr0 _ | refine gr1 ?_ _ | refine gr2 ?_ (Later.below _) | refine gr2 ?_ (by assumption) | refine gr3 ?_ | refine gr4 ?_ (by first | (simp; done) | (simp; omega) | omega) _)

set_option maxHeartbeats 2000000 in
theorem part06 (n : Int) (w : World) (h1 : 0 ≤ n) (h2 : n ≤ 255) :
    Calls Try.prog 19 #[.int .i64 n] w fun e w' => e = .returned (.bool true) ∧ Below w.heap.size w w' := by
  go_enter Try.func19, Try.ntmps19
  go_wp2_with (first
    | (refine wp_region_calm (by kernel_rfl) (by kernel_rfl) ?_; repeat (first | go_big_quiet_step (fail) | quiet_step (fail))
       refine wpQuiet_nil ?_; intro u; have hzu := u.below.size; try simp at hzu))
  go_ret
  refine ⟨rfl, ?_⟩
  repeat (first | exact gr0 _ | refine gr1 ?_ _ | refine gr2 ?_ (Later.below _) | refine gr2 ?_ (by assumption) | refine gr3 ?_ | refine gr4 ?_ (by first | (simp; done) | (simp; omega) | omega) _)

end Go.Proofs.Ytdpiikpodcanjaa
