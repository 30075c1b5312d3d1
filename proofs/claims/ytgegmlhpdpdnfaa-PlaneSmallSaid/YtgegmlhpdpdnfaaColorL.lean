/- Colours, over plain numbers: a pixel there and back. -/
import Derived.Test.YtgegmlhpdpdnfaaColorI
import Derived.Test.YtgegmlhpdpdnfaaCalm
namespace Go.Proofs.Ytgegmlhpdpdnfaa
open Go.RowKit

def lum1 (r g b : Int) : Int := clipI (sumI (clipI r 0 255) (clipI g 0 255) (clipI b 0 255) 19595 38470 7471 32768) 0 255
def lum2 (r g b : Int) : Int := clipI (sumI (clipI r 0 255) (clipI g 0 255) (clipI b 0 255) (-11059) (-21709) 32768 8421375) 0 255
def lum3 (r g b : Int) : Int := clipI (sumI (clipI r 0 255) (clipI g 0 255) (clipI b 0 255) 32768 (-27439) (-5329) 8421375) 0 255

set_option maxRecDepth 100000 in
set_option maxHeartbeats 2000000 in
theorem luma_I (r g b : Int) (w : World) :
    Calls Try.prog 74 #[opsI, .int .i64 r, .int .i64 g, .int .i64 b] w fun e w' => e = .returned (.tuple #[.int .i64 (lum1 r g b), .int .i64 (lum2 r g b), .int .i64 (lum3 r g b)]) ∧ Below w.heap.size w w' := by
  go_enter Try.func74, Try.ntmps74
  go_wp2_with (first
    | (go_at_call 84; refine (all_I _ _ _ _).mono ?_; rintro e W0 ⟨rfl, hb0⟩; obtain ⟨hc0, hf0, hz0⟩ := bcell hb0; try simp at hz0))
  refine wp_region_calm_new 19 18 12 129 #[Value.int .i64 0, Value.int .i64 0, Value.int .i64 0] (by kernel_rfl) (by kernel_rfl) rfl rfl rfl rfl (fun _ => by kernel_rfl) ?_
  simp only [List.take_succ_cons, List.take_zero, List.drop_succ_cons, List.drop_zero]
  repeat (first | (refine wpCalm_pass rfl ?_; try simp only [Act.put, List.setIfInBounds_toArray, List.set_cons_succ, List.set_cons_zero]) | (refine wpCalm_next (by decide) rfl ?_; apply Exists.intro; refine ⟨?_, ?_⟩; (focus intro u K hK; (try simp only [Act.put, List.setIfInBounds_toArray, List.set_cons_succ, List.set_cons_zero] at hK); go_step; first | exact hK _ (gr0 _) | (go_at_call 84; refine (all_I _ _ _ _).mono ?_; rintro e W ⟨rfl, hb⟩; exact hK _ hb) | (go_at_call 85; refine (sum_I _ _ _ _ _ _ _ _).mono ?_; rintro e W ⟨rfl, hb⟩; exact hK _ hb) | (go_at_call 86; refine (row_I _ _ _ _).mono ?_; rintro e W ⟨rfl, hb⟩; exact hK _ hb)); try simp only [Act.put, List.setIfInBounds_toArray, List.set_cons_succ, List.set_cons_zero]))
  refine wpCalm_nil ?_
  intro W9 g9 hb9 hgg9 hhg9
  obtain ⟨hcg9, hfg9, hzg9, hlg9⟩ := ncell hb9 hgg9 hhg9
  try simp at hzg9
  try simp at hgg9
  go_wp2_with fail
  refine wp_region_calm (by kernel_rfl) (by kernel_rfl) ?_
  repeat (first | go_big_quiet_step (fail) | quiet_step (fail))
  refine wpQuiet_nil ?_
  intro v
  have hzv := v.below.size
  try simp at hzv
  go_wp2
  go_ret3
  refine ⟨rfl, ?_⟩
  repeat (first | exact gr0 _ | refine gr1 ?_ _ | refine gr2 ?_ (Later.below _) | refine gr2 ?_ (by assumption) | refine gr3 ?_ | refine gr4 ?_ (by first | (simp; done) | (simp; omega) | omega) _)

def bk0 (n : Int) : Int := wrap64 (clipI n 0 255 + -128)
def bak1 (y cb cr : Int) : Int := clipI (wrap64 (clipI y 0 255 + sumI (clipI y 0 255) (bk0 cb) (bk0 cr) 0 0 91881 32768)) 0 255
def bak2 (y cb cr : Int) : Int := clipI (wrap64 (clipI y 0 255 + sumI (clipI y 0 255) (bk0 cb) (bk0 cr) 0 (-22554) (-46802) 32768)) 0 255
def bak3 (y cb cr : Int) : Int := clipI (wrap64 (clipI y 0 255 + sumI (clipI y 0 255) (bk0 cb) (bk0 cr) 0 116130 0 32768)) 0 255

set_option maxRecDepth 100000 in
set_option maxHeartbeats 2000000 in
theorem back_I (y cb cr : Int) (w : World) :
    Calls Try.prog 76 #[opsI, .int .i64 y, .int .i64 cb, .int .i64 cr] w fun e w' => e = .returned (.tuple #[.int .i64 (bak1 y cb cr), .int .i64 (bak2 y cb cr), .int .i64 (bak3 y cb cr)]) ∧ Below w.heap.size w w' := by
  go_enter Try.func76, Try.ntmps76
  go_wp2_with (first
    | (go_at_call 84; refine (all_I _ _ _ _).mono ?_; rintro e W0 ⟨rfl, hb0⟩; obtain ⟨hc0, hf0, hz0⟩ := bcell hb0; try simp at hz0))
  refine wp_loop_rounds 3 ?_
  rw [rounds_succ]
  go_wp2_with fail
  refine wp_region_calm_tail 11 (by kernel_rfl) (by kernel_rfl) ?_
  simp only [List.take_succ_cons, List.take_zero, List.drop_succ_cons, List.drop_zero]
  repeat (first | go_big_quiet_step ((first | (go_at_call 87; exact calm_call (plain1 _ _)) | (go_at_call 88; exact calm_call (plain2 _ _ _)))) | quiet_step ((first | (go_at_call 87; exact calm_call (plain1 _ _)) | (go_at_call 88; exact calm_call (plain2 _ _ _)))))
  refine wpQuiet_nil ?_
  intro u1
  have hzu1 := u1.below.size
  try simp at hzu1
  go_wp2_with fail
  rw [rounds_succ]
  go_wp2_with fail
  refine wp_region_calm_tail 11 (by kernel_rfl) (by kernel_rfl) ?_
  simp only [List.take_succ_cons, List.take_zero, List.drop_succ_cons, List.drop_zero]
  repeat (first | go_big_quiet_step ((first | (go_at_call 87; exact calm_call (plain1 _ _)) | (go_at_call 88; exact calm_call (plain2 _ _ _)))) | quiet_step ((first | (go_at_call 87; exact calm_call (plain1 _ _)) | (go_at_call 88; exact calm_call (plain2 _ _ _)))))
  refine wpQuiet_nil ?_
  intro u2
  have hzu2 := u2.below.size
  try simp at hzu2
  go_wp2_with fail
  rw [rounds_succ]
  go_wp2_with fail
  refine wp_region_calm_new 34 33 13 129 #[Value.int .i64 0, Value.int .i64 0, Value.int .i64 0] (by kernel_rfl) (by kernel_rfl) rfl rfl rfl rfl (fun _ => by kernel_rfl) ?_
  simp only [List.take_succ_cons, List.take_zero, List.drop_succ_cons, List.drop_zero]
  repeat (first | (refine wpCalm_pass rfl ?_; try simp only [Act.put, List.setIfInBounds_toArray, List.set_cons_succ, List.set_cons_zero]) | (refine wpCalm_next (by decide) rfl ?_; apply Exists.intro; refine ⟨?_, ?_⟩; (focus intro u K hK; (try simp only [Act.put, List.setIfInBounds_toArray, List.set_cons_succ, List.set_cons_zero] at hK); go_step; first | exact hK _ (gr0 _) | (go_at_call 84; refine (all_I _ _ _ _).mono ?_; rintro e W ⟨rfl, hb⟩; exact hK _ hb) | (go_at_call 85; refine (sum_I _ _ _ _ _ _ _ _).mono ?_; rintro e W ⟨rfl, hb⟩; exact hK _ hb) | (go_at_call 86; refine (row_I _ _ _ _).mono ?_; rintro e W ⟨rfl, hb⟩; exact hK _ hb) | (go_at_call 88; refine (plain2 _ _ _).mono ?_; rintro e W ⟨rfl, hb⟩; exact hK _ hb)); try simp only [Act.put, List.setIfInBounds_toArray, List.set_cons_succ, List.set_cons_zero]))
  refine wpCalm_nil ?_
  intro W9 g9 hb9 hgg9 hhg9
  obtain ⟨hcg9, hfg9, hzg9, hlg9⟩ := ncell hb9 hgg9 hhg9
  try simp at hzg9
  try simp at hgg9
  go_wp2_with fail
  refine wp_region_calm (by kernel_rfl) (by kernel_rfl) ?_
  repeat (first | go_big_quiet_step (fail) | quiet_step (fail))
  refine wpQuiet_nil ?_
  intro v
  have hzv := v.below.size
  try simp at hzv
  go_wp2
  go_ret3
  refine ⟨rfl, ?_⟩
  repeat (first | exact gr0 _ | refine gr1 ?_ _ | refine gr2 ?_ (Later.below _) | refine gr2 ?_ (by assumption) | refine gr3 ?_ | refine gr4 ?_ (by first | (simp; done) | (simp; omega) | omega) _)

end Go.Proofs.Ytgegmlhpdpdnfaa
