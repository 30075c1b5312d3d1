/- Colours, over secrets. -/
import Derived.Test.YtdpiikpodcanjaaSec
import Derived.Test.YtdpiikpodcanjaaColorM
namespace Go.Proofs.Ytdpiikpodcanjaa
open Go.RowKit

abbrev opsS : Value := .agg #[.func (.func 50) #[] #[], .func (.func 89) #[] #[], .func (.func 90) #[] #[], .func (.func 91) #[] #[], .func (.func 92) #[] #[]]

theorem wp_abs {c : Code} {P : Program} {Q : Exit → Act → World → Prop} {a : Act} {W : World} (F : World → Prop) (h1 : F W) (h2 : ∀ W, F W → c.wp P Q a W) : c.wp P Q a W := h2 W h1

theorem hidden_ops (w : World) :
    Calls Try.prog 75 #[] w fun e w' => e = .returned opsS ∧ Below w.heap.size w w' := by
  go_enter Try.func75, Try.ntmps75
  go_wp2
  exact bodyPost_ret (by simp [results, Try.results75, go_sem] <;> rfl) rfl ⟨rfl, gr1 (gr0 _) _⟩

set_option maxRecDepth 100000 in
set_option maxHeartbeats 2000000 in
theorem all_S (a b c : Int) (w : World) :
    Calls Try.prog 86 #[opsS, .agg #[.int .i64 a, .int .i64 b, .int .i64 c]] w fun e w' => e = .returned (.agg #[.int .i64 (secClip a 0 255), .int .i64 (secClip b 0 255), .int .i64 (secClip c 0 255)]) ∧ Below w.heap.size w w' := by
  have ia0 : ∀ w, (Instr.index 104 (.agg #[.int .i64 a, .int .i64 b, .int .i64 c]) (.int .i64 0)).run Try.prog w = .ok (.agg #[.int .i64 a]) w := fun _ => by kernel_rfl
  have ia1 : ∀ w, (Instr.index 104 (.agg #[.int .i64 a, .int .i64 b, .int .i64 c]) (.int .i64 1)).run Try.prog w = .ok (.agg #[.int .i64 b]) w := fun _ => by kernel_rfl
  have ia2 : ∀ w, (Instr.index 104 (.agg #[.int .i64 a, .int .i64 b, .int .i64 c]) (.int .i64 2)).run Try.prog w = .ok (.agg #[.int .i64 c]) w := fun _ => by kernel_rfl
  go_enter Try.func86, Try.ntmps86
  go_wp2
  refine wp_loop_rounds 4 ?_
  rw [rounds_succ]
  go_wp2_with (first
    | (go_at_call 92; refine (sec_clip _ _ _ _).mono ?_; rintro e W1 ⟨rfl, hb1⟩; obtain ⟨hc1, hf1, hz1⟩ := bcell hb1; try simp at hz1))
  rw [rounds_succ]
  go_wp2_with (first
    | (go_at_call 92; refine (sec_clip _ _ _ _).mono ?_; rintro e W2 ⟨rfl, hb2⟩; obtain ⟨hc2, hf2, hz2⟩ := bcell hb2; try simp at hz2))
  rw [rounds_succ]
  go_wp2_with (first
    | (go_at_call 92; refine (sec_clip _ _ _ _).mono ?_; rintro e W3 ⟨rfl, hb3⟩; obtain ⟨hc3, hf3, hz3⟩ := bcell hb3; try simp at hz3))
  rw [rounds_succ]
  go_wp2_with (first
    | (go_at_call 92; refine (sec_clip _ _ _ _).mono ?_; rintro e W4 ⟨rfl, hb4⟩; obtain ⟨hc4, hf4, hz4⟩ := bcell hb4; try simp at hz4))
  refine bodyPost_ret (by first | (simp [results, Try.results86, go_sem, *] <;> (first | rfl | exact ⟨rfl, rfl, rfl⟩)) | (simp [results, Try.results86, go_sem, *, ↓IntWalk.iteOmega] <;> (first | rfl | exact ⟨rfl, rfl, rfl⟩))) rfl ⟨rfl, ?_⟩
  repeat (first | exact gr0 _ | refine gr1 ?_ _ | refine gr2 ?_ (Later.below _) | refine gr2 ?_ (by assumption) | refine gr3 ?_ | refine gr4 ?_ (by first | (simp; done) | (simp; omega) | omega) _)

def sumS (a b c x y z m : Int) : Int := secShr (wrap64 (wrap64 (wrap64 (m + wrap64 (a * x)) + wrap64 (b * y)) + wrap64 (c * z))) 16

set_option maxRecDepth 100000 in
set_option maxHeartbeats 2000000 in
theorem sum_S (a b c x y z m : Int) (w : World) :
    Calls Try.prog 87 #[opsS, .agg #[.int .i64 a, .int .i64 b, .int .i64 c], .agg #[.int .i64 x, .int .i64 y, .int .i64 z], .int .i64 m] w fun e w' => e = .returned (.agg #[.int .i64 (sumS a b c x y z m)]) ∧ Below w.heap.size w w' := by
  have ia0 : ∀ w, (Instr.index 104 (.agg #[.int .i64 a, .int .i64 b, .int .i64 c]) (.int .i64 0)).run Try.prog w = .ok (.agg #[.int .i64 a]) w := fun _ => by kernel_rfl
  have ia1 : ∀ w, (Instr.index 104 (.agg #[.int .i64 a, .int .i64 b, .int .i64 c]) (.int .i64 1)).run Try.prog w = .ok (.agg #[.int .i64 b]) w := fun _ => by kernel_rfl
  have ia2 : ∀ w, (Instr.index 104 (.agg #[.int .i64 a, .int .i64 b, .int .i64 c]) (.int .i64 2)).run Try.prog w = .ok (.agg #[.int .i64 c]) w := fun _ => by kernel_rfl
  go_enter Try.func87, Try.ntmps87
  go_wp2_with (first
    | (go_at_call 50; refine (sec_of _ _).mono ?_; rintro e W0 ⟨rfl, hb0⟩; obtain ⟨hc0, hf0, hz0⟩ := bcell hb0; try simp at hz0))
  refine wp_loop_rounds 4 ?_
  rw [rounds_succ]
  go_wp2_with fail
  refine wp_region_calm_tail 11 (by kernel_rfl) (by kernel_rfl) ?_
  simp only [List.take_succ_cons, List.take_zero, List.drop_succ_cons, List.drop_zero]
  repeat (first | go_big_quiet_step ((first | (go_at_call 90; exact calm_call (sec_mul _ _ _)) | (go_at_call 89; exact calm_call (sec_add _ _ _)))) | quiet_step ((first | (go_at_call 90; exact calm_call (sec_mul _ _ _)) | (go_at_call 89; exact calm_call (sec_add _ _ _)))))
  refine wpQuiet_nil ?_
  intro u1
  have hzu1 := u1.below.size
  try simp at hzu1
  go_wp2_with fail
  rw [rounds_succ]
  go_wp2_with fail
  refine wp_region_calm_tail 11 (by kernel_rfl) (by kernel_rfl) ?_
  simp only [List.take_succ_cons, List.take_zero, List.drop_succ_cons, List.drop_zero]
  repeat (first | go_big_quiet_step ((first | (go_at_call 90; exact calm_call (sec_mul _ _ _)) | (go_at_call 89; exact calm_call (sec_add _ _ _)))) | quiet_step ((first | (go_at_call 90; exact calm_call (sec_mul _ _ _)) | (go_at_call 89; exact calm_call (sec_add _ _ _)))))
  refine wpQuiet_nil ?_
  intro u2
  have hzu2 := u2.below.size
  try simp at hzu2
  go_wp2_with fail
  rw [rounds_succ]
  go_wp2_with fail
  refine wp_region_calm_tail 11 (by kernel_rfl) (by kernel_rfl) ?_
  simp only [List.take_succ_cons, List.take_zero, List.drop_succ_cons, List.drop_zero]
  repeat (first | go_big_quiet_step ((first | (go_at_call 90; exact calm_call (sec_mul _ _ _)) | (go_at_call 89; exact calm_call (sec_add _ _ _)))) | quiet_step ((first | (go_at_call 90; exact calm_call (sec_mul _ _ _)) | (go_at_call 89; exact calm_call (sec_add _ _ _)))))
  refine wpQuiet_nil ?_
  intro u3
  have hzu3 := u3.below.size
  try simp at hzu3
  go_wp2_with fail
  rw [rounds_succ]
  go_wp2_with (first
    | (go_at_call 91; refine (sec_shr _ _ _).mono ?_; rintro e W4 ⟨rfl, hb4⟩; obtain ⟨hc4, hf4, hz4⟩ := bcell hb4; try simp at hz4))
  refine bodyPost_ret (by first | (simp [results, Try.results87, go_sem, *] <;> (first | rfl | exact ⟨rfl, rfl, rfl⟩)) | (simp [results, Try.results87, go_sem, *, ↓IntWalk.iteOmega] <;> (first | rfl | exact ⟨rfl, rfl, rfl⟩))) rfl ⟨rfl, ?_⟩
  repeat (first | exact gr0 _ | refine gr1 ?_ _ | refine gr2 ?_ (Later.below _) | refine gr2 ?_ (by assumption) | refine gr3 ?_ | refine gr4 ?_ (by first | (simp; done) | (simp; omega) | omega) _)

set_option maxRecDepth 100000 in
set_option maxHeartbeats 2000000 in
theorem row_S (a b c : Int) (w : World) :
    Calls Try.prog 88 #[opsS, .int .i64 a, .int .i64 b, .int .i64 c] w fun e w' => e = .returned (.agg #[.int .i64 a, .int .i64 b, .int .i64 c]) ∧ Below w.heap.size w w' := by
  go_enter Try.func88, Try.ntmps88
  go_wp2_with fail
  refine wp_region_calm_tail 13 (by kernel_rfl) (by kernel_rfl) ?_
  simp only [List.take_succ_cons, List.take_zero, List.drop_succ_cons, List.drop_zero]
  repeat (first | go_big_quiet_step ((first | (go_at_call 50; exact calm_call (sec_of _ _)))) | quiet_step ((first | (go_at_call 50; exact calm_call (sec_of _ _)))))
  refine wpQuiet_nil ?_
  intro u
  have hzu := u.below.size
  try simp at hzu
  go_wp2
  refine bodyPost_ret (by first | (simp [results, Try.results88, go_sem, *] <;> (first | rfl | exact ⟨rfl, rfl, rfl⟩)) | (simp [results, Try.results88, go_sem, *, ↓IntWalk.iteOmega] <;> (first | rfl | exact ⟨rfl, rfl, rfl⟩))) rfl ⟨rfl, ?_⟩
  repeat (first | exact gr0 _ | refine gr1 ?_ _ | refine gr2 ?_ (Later.below _) | refine gr2 ?_ (by assumption) | refine gr3 ?_ | refine gr4 ?_ (by first | (simp; done) | (simp; omega) | omega) _)

def lumS1 (r g b : Int) : Int := secClip (sumS (secClip r 0 255) (secClip g 0 255) (secClip b 0 255) 19595 38470 7471 32768) 0 255
def lumS2 (r g b : Int) : Int := secClip (sumS (secClip r 0 255) (secClip g 0 255) (secClip b 0 255) (-11059) (-21709) 32768 8421375) 0 255
def lumS3 (r g b : Int) : Int := secClip (sumS (secClip r 0 255) (secClip g 0 255) (secClip b 0 255) 32768 (-27439) (-5329) 8421375) 0 255
def bkS (n : Int) : Int := wrap64 (secClip n 0 255 + -128)
def bakS1 (y cb cr : Int) : Int := secClip (wrap64 (secClip y 0 255 + sumS (secClip y 0 255) (bkS cb) (bkS cr) 0 0 91881 32768)) 0 255
def bakS2 (y cb cr : Int) : Int := secClip (wrap64 (secClip y 0 255 + sumS (secClip y 0 255) (bkS cb) (bkS cr) 0 (-22554) (-46802) 32768)) 0 255
def bakS3 (y cb cr : Int) : Int := secClip (wrap64 (secClip y 0 255 + sumS (secClip y 0 255) (bkS cb) (bkS cr) 0 116130 0 32768)) 0 255

set_option maxRecDepth 100000 in
set_option maxHeartbeats 2000000 in
theorem luma_S (r g b : Int) (w : World) :
    Calls Try.prog 74 #[opsS, .agg #[.int .i64 r], .agg #[.int .i64 g], .agg #[.int .i64 b]] w fun e w' => e = .returned (.tuple #[.agg #[.int .i64 (lumS1 r g b)], .agg #[.int .i64 (lumS2 r g b)], .agg #[.int .i64 (lumS3 r g b)]]) ∧ Below w.heap.size w w' := by
  go_enter Try.func74, Try.ntmps74
  go_wp2_with (first
    | (go_at_call 86; refine (all_S _ _ _ _).mono ?_; rintro e W0 ⟨rfl, hb0⟩; obtain ⟨hc0, hf0, hz0⟩ := bcell hb0; try simp at hz0))
  refine wp_region_calm_new 19 18 12 104 #[Value.int .i64 0, Value.int .i64 0, Value.int .i64 0] (by kernel_rfl) (by kernel_rfl) rfl rfl rfl rfl (fun _ => by kernel_rfl) ?_
  simp only [List.take_succ_cons, List.take_zero, List.drop_succ_cons, List.drop_zero]
  repeat (first | (refine wpCalm_pass rfl ?_; try simp only [Act.put, List.setIfInBounds_toArray, List.set_cons_succ, List.set_cons_zero]) | (refine wpCalm_next (by decide) rfl ?_; apply Exists.intro; refine ⟨?_, ?_⟩; (focus intro u K hK; (try simp only [Act.put, List.setIfInBounds_toArray, List.set_cons_succ, List.set_cons_zero] at hK); go_step; first | exact hK _ (gr0 _) | (go_at_call 86; refine (all_S _ _ _ _).mono ?_; rintro e W ⟨rfl, hb⟩; exact hK _ hb) | (go_at_call 87; refine (sum_S _ _ _ _ _ _ _ _).mono ?_; rintro e W ⟨rfl, hb⟩; exact hK _ hb) | (go_at_call 88; refine (row_S _ _ _ _).mono ?_; rintro e W ⟨rfl, hb⟩; exact hK _ hb)); try simp only [Act.put, List.setIfInBounds_toArray, List.set_cons_succ, List.set_cons_zero]))
  refine wpCalm_nil ?_
  intro W9 g9 hb9 hgg9 hhg9
  obtain ⟨hcg9, hfg9, hzg9, hlg9⟩ := ncell hb9 hgg9 hhg9
  try simp at hzg9
  try simp at hgg9
  go_wp2_with fail
  refine wp_abs (fun W' => Below w.heap.size w W' ∧ w.heap.size + 6 < g9 ∧ g9 < W'.heap.size ∧ W'.cell? ⟨g9, 0, none⟩ = some (.int .i64 (lumS1 r g b)) ∧ W'.cell? ⟨g9, 1, none⟩ = some (.int .i64 (lumS2 r g b)) ∧ W'.cell? ⟨g9, 2, none⟩ = some (.int .i64 (lumS3 r g b)) ∧ W'.cell? ⟨w.heap.size + 1 + 1 + 1 + 1, 0, none⟩ = some (.int .i64 0) ∧ W'.frozen? ⟨w.heap.size + 1 + 1 + 1 + 1, 0, none⟩ = false ∧ W'.cell? ⟨w.heap.size + 1 + 1 + 1 + 1 + 1, 0, none⟩ = some (.int .i64 0) ∧ W'.frozen? ⟨w.heap.size + 1 + 1 + 1 + 1 + 1, 0, none⟩ = false ∧ W'.cell? ⟨w.heap.size + 1 + 1 + 1 + 1 + 1 + 1, 0, none⟩ = some (.int .i64 0) ∧ W'.frozen? ⟨w.heap.size + 1 + 1 + 1 + 1 + 1 + 1, 0, none⟩ = false) ⟨?_, ?_, ?_, ?_, ?_, ?_, ?_, ?_, ?_, ?_, ?_, ?_⟩ ?_
  · repeat (first | exact gr0 _ | refine gr1 ?_ _ | refine gr2 ?_ (Later.below _) | refine gr2 ?_ (by assumption) | refine gr3 ?_ | refine gr4 ?_ (by first | (simp; done) | (simp; omega) | omega) _)
  · omega
  · simp; try omega
  all_goals try (first | (simp [go_sem, *, ↓IntWalk.iteOmega]; done) | (simp [go_sem, *, ↓IntWalk.iteOmega]; rfl))
  clear hc0 hf0 hz0 hb0 hcg9 hfg9 hzg9 hlg9 hhg9 hb9
  rintro W' ⟨f1, f2, f3, f4, f5, f6, f7, f8, f9, f10, f11, f12⟩
  have n1 : g9 ≠ w.heap.size + 1 + 1 + 1 + 1 := by omega
  have n2 : g9 ≠ w.heap.size + 1 + 1 + 1 + 1 + 1 := by omega
  have n3 : g9 ≠ w.heap.size + 1 + 1 + 1 + 1 + 1 + 1 := by omega
  go_region
  all_goals (try go_wp2)
  refine bodyPost_ret (by first | (simp [results, Try.results74, go_sem, *] <;> (first | rfl | exact ⟨rfl, rfl, rfl⟩)) | (simp [results, Try.results74, go_sem, *, ↓IntWalk.iteOmega] <;> (first | rfl | exact ⟨rfl, rfl, rfl⟩))) rfl ⟨rfl, ?_⟩
  repeat (first | exact gr0 _ | refine gr1 ?_ _ | refine gr2 ?_ (Later.below _) | refine gr2 ?_ (by assumption) | refine gr3 ?_ | refine gr4 ?_ (by first | (simp; done) | (simp; omega) | omega) _)

set_option maxRecDepth 100000 in
set_option maxHeartbeats 2000000 in
theorem back_S (y cb cr : Int) (w : World) :
    Calls Try.prog 76 #[opsS, .agg #[.int .i64 y], .agg #[.int .i64 cb], .agg #[.int .i64 cr]] w fun e w' => e = .returned (.tuple #[.agg #[.int .i64 (bakS1 y cb cr)], .agg #[.int .i64 (bakS2 y cb cr)], .agg #[.int .i64 (bakS3 y cb cr)]]) ∧ Below w.heap.size w w' := by
  go_enter Try.func76, Try.ntmps76
  go_wp2_with (first
    | (go_at_call 86; refine (all_S _ _ _ _).mono ?_; rintro e W0 ⟨rfl, hb0⟩; obtain ⟨hc0, hf0, hz0⟩ := bcell hb0; try simp at hz0))
  refine wp_loop_rounds 3 ?_
  rw [rounds_succ]
  go_wp2_with fail
  refine wp_region_calm_tail 11 (by kernel_rfl) (by kernel_rfl) ?_
  simp only [List.take_succ_cons, List.take_zero, List.drop_succ_cons, List.drop_zero]
  repeat (first | go_big_quiet_step ((first | (go_at_call 50; exact calm_call (sec_of _ _)) | (go_at_call 89; exact calm_call (sec_add _ _ _)))) | quiet_step ((first | (go_at_call 50; exact calm_call (sec_of _ _)) | (go_at_call 89; exact calm_call (sec_add _ _ _)))))
  refine wpQuiet_nil ?_
  intro u1
  have hzu1 := u1.below.size
  try simp at hzu1
  go_wp2_with fail
  rw [rounds_succ]
  go_wp2_with fail
  refine wp_region_calm_tail 11 (by kernel_rfl) (by kernel_rfl) ?_
  simp only [List.take_succ_cons, List.take_zero, List.drop_succ_cons, List.drop_zero]
  repeat (first | go_big_quiet_step ((first | (go_at_call 50; exact calm_call (sec_of _ _)) | (go_at_call 89; exact calm_call (sec_add _ _ _)))) | quiet_step ((first | (go_at_call 50; exact calm_call (sec_of _ _)) | (go_at_call 89; exact calm_call (sec_add _ _ _)))))
  refine wpQuiet_nil ?_
  intro u2
  have hzu2 := u2.below.size
  try simp at hzu2
  go_wp2_with fail
  rw [rounds_succ]
  go_wp2_with fail
  refine wp_region_calm_new 34 33 13 104 #[Value.int .i64 0, Value.int .i64 0, Value.int .i64 0] (by kernel_rfl) (by kernel_rfl) rfl rfl rfl rfl (fun _ => by kernel_rfl) ?_
  simp only [List.take_succ_cons, List.take_zero, List.drop_succ_cons, List.drop_zero]
  repeat (first | (refine wpCalm_pass rfl ?_; try simp only [Act.put, List.setIfInBounds_toArray, List.set_cons_succ, List.set_cons_zero]) | (refine wpCalm_next (by decide) rfl ?_; apply Exists.intro; refine ⟨?_, ?_⟩; (focus intro u K hK; (try simp only [Act.put, List.setIfInBounds_toArray, List.set_cons_succ, List.set_cons_zero] at hK); go_step; first | exact hK _ (gr0 _) | (go_at_call 86; refine (all_S _ _ _ _).mono ?_; rintro e W ⟨rfl, hb⟩; exact hK _ hb) | (go_at_call 87; refine (sum_S _ _ _ _ _ _ _ _).mono ?_; rintro e W ⟨rfl, hb⟩; exact hK _ hb) | (go_at_call 88; refine (row_S _ _ _ _).mono ?_; rintro e W ⟨rfl, hb⟩; exact hK _ hb) | (go_at_call 89; refine (sec_add _ _ _).mono ?_; rintro e W ⟨rfl, hb⟩; exact hK _ hb)); try simp only [Act.put, List.setIfInBounds_toArray, List.set_cons_succ, List.set_cons_zero]))
  refine wpCalm_nil ?_
  intro W9 g9 hb9 hgg9 hhg9
  obtain ⟨hcg9, hfg9, hzg9, hlg9⟩ := ncell hb9 hgg9 hhg9
  try simp at hzg9
  try simp at hgg9
  go_wp2_with fail
  refine wp_abs (fun W' => Below w.heap.size w W' ∧ w.heap.size + 6 < g9 ∧ g9 < W'.heap.size ∧ W'.cell? ⟨g9, 0, none⟩ = some (.int .i64 (bakS1 y cb cr)) ∧ W'.cell? ⟨g9, 1, none⟩ = some (.int .i64 (bakS2 y cb cr)) ∧ W'.cell? ⟨g9, 2, none⟩ = some (.int .i64 (bakS3 y cb cr)) ∧ W'.cell? ⟨w.heap.size + 1 + 1 + 1 + 1, 0, none⟩ = some (.int .i64 0) ∧ W'.frozen? ⟨w.heap.size + 1 + 1 + 1 + 1, 0, none⟩ = false ∧ W'.cell? ⟨w.heap.size + 1 + 1 + 1 + 1 + 1, 0, none⟩ = some (.int .i64 0) ∧ W'.frozen? ⟨w.heap.size + 1 + 1 + 1 + 1 + 1, 0, none⟩ = false ∧ W'.cell? ⟨w.heap.size + 1 + 1 + 1 + 1 + 1 + 1, 0, none⟩ = some (.int .i64 0) ∧ W'.frozen? ⟨w.heap.size + 1 + 1 + 1 + 1 + 1 + 1, 0, none⟩ = false) ⟨?_, ?_, ?_, ?_, ?_, ?_, ?_, ?_, ?_, ?_, ?_, ?_⟩ ?_
  · repeat (first | exact gr0 _ | refine gr1 ?_ _ | refine gr2 ?_ (Later.below _) | refine gr2 ?_ (by assumption) | refine gr3 ?_ | refine gr4 ?_ (by first | (simp; done) | (simp; omega) | omega) _)
  · omega
  · simp; try omega
  all_goals try (first | (simp [go_sem, *, ↓IntWalk.iteOmega]; done) | (simp [go_sem, *, ↓IntWalk.iteOmega]; rfl))
  clear hc0 hf0 hz0 hb0 hcg9 hfg9 hzg9 hlg9 hhg9 hb9
  rintro W' ⟨f1, f2, f3, f4, f5, f6, f7, f8, f9, f10, f11, f12⟩
  have n1 : g9 ≠ w.heap.size + 1 + 1 + 1 + 1 := by omega
  have n2 : g9 ≠ w.heap.size + 1 + 1 + 1 + 1 + 1 := by omega
  have n3 : g9 ≠ w.heap.size + 1 + 1 + 1 + 1 + 1 + 1 := by omega
  go_region
  all_goals (try go_wp2)
  refine bodyPost_ret (by first | (simp [results, Try.results76, go_sem, *] <;> (first | rfl | exact ⟨rfl, rfl, rfl⟩)) | (simp [results, Try.results76, go_sem, *, ↓IntWalk.iteOmega] <;> (first | rfl | exact ⟨rfl, rfl, rfl⟩))) rfl ⟨rfl, ?_⟩
  repeat (first | exact gr0 _ | refine gr1 ?_ _ | refine gr2 ?_ (Later.below _) | refine gr2 ?_ (by assumption) | refine gr3 ?_ | refine gr4 ?_ (by first | (simp; done) | (simp; omega) | omega) _)

set_option maxRecDepth 100000 in
set_option maxHeartbeats 2000000 in
theorem hidden_ (r g b : Int) (w : World) :
    Calls Try.prog 49 #[.agg #[.int .i64 r], .agg #[.int .i64 g], .agg #[.int .i64 b]] w fun e w' => e = .returned (.tuple #[.agg #[.int .i64 (lumS1 r g b)], .agg #[.int .i64 (lumS2 r g b)], .agg #[.int .i64 (lumS3 r g b)]]) ∧ Below w.heap.size w w' := by
  go_enter Try.func49, Try.ntmps49
  go_wp2_with fail
  refine wp_region_calm_tail 8 (by kernel_rfl) (by kernel_rfl) ?_
  simp only [List.take_succ_cons, List.take_zero, List.drop_succ_cons, List.drop_zero]
  repeat (first | go_big_quiet_step ((first | (go_at_call 75; exact calm_call (hidden_ops _)) | (go_at_call 74; exact calm_call (luma_S _ _ _ _)))) | quiet_step ((first | (go_at_call 75; exact calm_call (hidden_ops _)) | (go_at_call 74; exact calm_call (luma_S _ _ _ _)))))
  refine wpQuiet_nil ?_
  intro u
  have hzu := u.below.size
  try simp at hzu
  go_wp2
  refine bodyPost_ret (by first | (simp [results, Try.results49, go_sem, *] <;> (first | rfl | exact ⟨rfl, rfl, rfl⟩)) | (simp [results, Try.results49, go_sem, *, ↓IntWalk.iteOmega] <;> (first | rfl | exact ⟨rfl, rfl, rfl⟩))) rfl ⟨rfl, ?_⟩
  repeat (first | exact gr0 _ | refine gr1 ?_ _ | refine gr2 ?_ (Later.below _) | refine gr2 ?_ (by assumption) | refine gr3 ?_ | refine gr4 ?_ (by first | (simp; done) | (simp; omega) | omega) _)

set_option maxRecDepth 100000 in
set_option maxHeartbeats 2000000 in
theorem shown_ (r g b : Int) (w : World) :
    Calls Try.prog 51 #[.agg #[.int .i64 r], .agg #[.int .i64 g], .agg #[.int .i64 b]] w fun e w' => e = .returned (.tuple #[.agg #[.int .i64 (bakS1 r g b)], .agg #[.int .i64 (bakS2 r g b)], .agg #[.int .i64 (bakS3 r g b)]]) ∧ Below w.heap.size w w' := by
  go_enter Try.func51, Try.ntmps51
  go_wp2_with fail
  refine wp_region_calm_tail 8 (by kernel_rfl) (by kernel_rfl) ?_
  simp only [List.take_succ_cons, List.take_zero, List.drop_succ_cons, List.drop_zero]
  repeat (first | go_big_quiet_step ((first | (go_at_call 75; exact calm_call (hidden_ops _)) | (go_at_call 76; exact calm_call (back_S _ _ _ _)))) | quiet_step ((first | (go_at_call 75; exact calm_call (hidden_ops _)) | (go_at_call 76; exact calm_call (back_S _ _ _ _)))))
  refine wpQuiet_nil ?_
  intro u
  have hzu := u.below.size
  try simp at hzu
  go_wp2
  refine bodyPost_ret (by first | (simp [results, Try.results51, go_sem, *] <;> (first | rfl | exact ⟨rfl, rfl, rfl⟩)) | (simp [results, Try.results51, go_sem, *, ↓IntWalk.iteOmega] <;> (first | rfl | exact ⟨rfl, rfl, rfl⟩))) rfl ⟨rfl, ?_⟩
  repeat (first | exact gr0 _ | refine gr1 ?_ _ | refine gr2 ?_ (Later.below _) | refine gr2 ?_ (by assumption) | refine gr3 ?_ | refine gr4 ?_ (by first | (simp; done) | (simp; omega) | omega) _)

end Go.Proofs.Ytdpiikpodcanjaa
