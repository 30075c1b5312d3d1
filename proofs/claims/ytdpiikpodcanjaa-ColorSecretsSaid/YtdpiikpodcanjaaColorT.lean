/- Colours, over secrets: they hold what the plain numbers are. -/
import Derived.Test.YtdpiikpodcanjaaColorS
import Derived.Test.YtdpiikpodcanjaaOpen
namespace Go.Proofs.Ytdpiikpodcanjaa
open Go.RowKit

theorem clipS {a : Int} (h : I64 a) : secClip a 0 255 = clipI a 0 255 := by
  rw [secClip_eq h (by unfold I64; omega) (by unfold I64; omega)]; unfold clipI
  repeat' split
  all_goals omega
theorem shrS (a : Int) : secShr a 16 = a / 65536 := by
  unfold secShr
  rw [show 2 ^ min (shiftOf 16).toNat 64 = (65536 : Int) by decide]
theorem sumS_eq (a b c x y z m : Int) : sumS a b c x y z m = sumI a b c x y z m := by
  unfold sumS sumI; exact shrS _
theorem sumI_I64 (a b c x y z m : Int) : I64 (sumI a b c x y z m) := by
  have h := wrap64_I64 (wrap64 (wrap64 (m + wrap64 (a * x)) + wrap64 (b * y)) + wrap64 (c * z))
  unfold sumI
  unfold I64 at *
  omega
theorem lumS_eq {r g b : Int} (hr : I64 r) (hg : I64 g) (hb : I64 b) : lumS1 r g b = lum1 r g b ∧ lumS2 r g b = lum2 r g b ∧ lumS3 r g b = lum3 r g b := by
  unfold lumS1 lumS2 lumS3 lum1 lum2 lum3
  rw [clipS hr, clipS hg, clipS hb]
  simp only [sumS_eq, clipS (sumI_I64 _ _ _ _ _ _ _), and_self]
theorem bakS_eq {r g b : Int} (hr : I64 r) (hg : I64 g) (hb : I64 b) : bakS1 r g b = bak1 r g b ∧ bakS2 r g b = bak2 r g b ∧ bakS3 r g b = bak3 r g b := by
  unfold bakS1 bakS2 bakS3 bak1 bak2 bak3 bkS bk0
  rw [clipS hr, clipS hg, clipS hb]
  simp only [sumS_eq, clipS (wrap64_I64 _), and_self]

set_option maxHeartbeats 2000000 in
theorem secrets06 (r g b : Int) (w : World) (hr : I64 r) (hg : I64 g) (hb : I64 b) :
    Calls Try.prog 31 #[.int .i64 r, .int .i64 g, .int .i64 b] w fun e w' => e = .returned (.bool true) ∧ Below w.heap.size w w' := by
  obtain ⟨e1, e2, e3⟩ := lumS_eq hr hg hb
  obtain ⟨e4, e5, e6⟩ := bakS_eq hr hg hb
  clear hr hg hb
  go_enter Try.func31, Try.ntmps31
  go_wp2_with (first
    | (go_at_call 50; refine (sec_of _ _).mono ?_; rintro e W1 ⟨rfl, hb1⟩; obtain ⟨hc1, hf1, hz1⟩ := bcell hb1; try simp at hz1)
    | (go_at_call 52; refine (sec_open_nil _ _).mono ?_; rintro e W1 ⟨rfl, hb1⟩; obtain ⟨hc1, hf1, hz1⟩ := bcell hb1; try simp at hz1)
    | (go_at_call 49; refine (hidden_ _ _ _ _).mono ?_; rintro e W1 ⟨rfl, hb1⟩; obtain ⟨hc1, hf1, hz1⟩ := bcell hb1; try simp at hz1)
    | (go_at_call 51; refine (shown_ _ _ _ _).mono ?_; rintro e W1 ⟨rfl, hb1⟩; obtain ⟨hc1, hf1, hz1⟩ := bcell hb1; try simp at hz1)
    | (go_at_call 39; refine (ref_luma _ _ _ _).mono ?_; rintro e W1 ⟨rfl, hb1⟩; obtain ⟨hc1, hf1, hz1⟩ := bcell hb1; try simp at hz1)
    | (go_at_call 40; refine (ref_back _ _ _ _).mono ?_; rintro e W1 ⟨rfl, hb1⟩; obtain ⟨hc1, hf1, hz1⟩ := bcell hb1; try simp at hz1)
    | (refine wp_region_calm (by kernel_rfl) (by kernel_rfl) ?_; repeat (first | go_big_quiet_step ((first | (go_at_call 50; exact calm_call (sec_of _ _)) | (go_at_call 52; exact calm_call (sec_open_nil _ _)) | (go_at_call 49; exact calm_call (hidden_ _ _ _ _)) | (go_at_call 51; exact calm_call (shown_ _ _ _ _)) | (go_at_call 39; exact calm_call (ref_luma _ _ _ _)) | (go_at_call 40; exact calm_call (ref_back _ _ _ _)))) | quiet_step ((first | (go_at_call 50; exact calm_call (sec_of _ _)) | (go_at_call 52; exact calm_call (sec_open_nil _ _)) | (go_at_call 49; exact calm_call (hidden_ _ _ _ _)) | (go_at_call 51; exact calm_call (shown_ _ _ _ _)) | (go_at_call 39; exact calm_call (ref_luma _ _ _ _)) | (go_at_call 40; exact calm_call (ref_back _ _ _ _)))))
       refine wpQuiet_nil ?_; intro u; have hzu := u.below.size; try simp at hzu))
  go_ret
  refine ⟨rfl, ?_⟩
  repeat (first | exact gr0 _ | refine gr1 ?_ _ | refine gr2 ?_ (Later.below _) | refine gr2 ?_ (by assumption) | refine gr3 ?_ | refine gr4 ?_ (by first | (simp; done) | (simp; omega) | omega) _)

end Go.Proofs.Ytdpiikpodcanjaa
