/- Slots: room. -/
import Derived.Test.YtdpiikpodcanjaaSlotW
namespace Go.Proofs.Ytdpiikpodcanjaa
open Go.RowKit


set_option maxRecDepth 100000 in
set_option maxHeartbeats 2000000 in
theorem rblocks_ (x y m q i c k : Int) (w : World) :
    Calls Try.prog 57 #[.agg #[.int .i64 x, .int .i64 y, .int .i64 m, .int .i64 q, .int .i64 i, .int .i64 c], .int .i64 k] w fun e w' => e = .returned (.int .i64 (blocksI x y m i k)) ∧ Below w.heap.size w w' := by
  have hv := intervals_in x y m i
  have kv : wrap64 (intervalsI x y m i - 1) = intervalsI x y m i - 1 := w64 (by omega) (by omega)
  by_cases h1 : k < 0
  · have e : blocksI x y m i k = 0 := by unfold blocksI; rw [if_pos (by omega)]
    have d1 : decide (k < 0) = true := by simp; omega
    go_enter Try.func57, Try.ntmps57
    go_wp2_with (first
      | (go_at_call 56; refine (rintervals_ _ _ _ _ _ _ _).mono ?_; rintro e W1 ⟨rfl, hb1⟩; obtain ⟨hc1, hf1, hz1⟩ := bcell hb1; try simp at hz1)
      | (refine wp_region_calm (by kernel_rfl) (by kernel_rfl) ?_; repeat (first | go_big_quiet_step ((first | (go_at_call 56; exact calm_call (rintervals_ _ _ _ _ _ _ _)))) | quiet_step ((first | (go_at_call 56; exact calm_call (rintervals_ _ _ _ _ _ _ _)))))
         refine wpQuiet_nil ?_; intro u; have hzu := u.below.size; try simp at hzu))
    all_goals go_ret
    all_goals refine ⟨by first | rfl | exact ret_int e.symm, ?_⟩
    all_goals (repeat (first | exact gr0 _ | refine gr1 ?_ _ | refine gr2 ?_ (Later.below _) | refine gr2 ?_ (by assumption) | refine gr3 ?_ | refine gr4 ?_ (by first | (simp; done) | (simp; omega) | omega) _))
  · skip
    by_cases h2 : intervalsI x y m i ≤ k
    · have e : blocksI x y m i k = 0 := by unfold blocksI; rw [if_pos (by omega)]
      have d1 : decide (k < 0) = false := by simp; omega
      have d2 : decide (intervalsI x y m i ≤ k) = true := by simp; omega
      go_enter Try.func57, Try.ntmps57
      go_wp2_with (first
        | (go_at_call 56; refine (rintervals_ _ _ _ _ _ _ _).mono ?_; rintro e W1 ⟨rfl, hb1⟩; obtain ⟨hc1, hf1, hz1⟩ := bcell hb1; try simp at hz1)
        | (refine wp_region_calm (by kernel_rfl) (by kernel_rfl) ?_; repeat (first | go_big_quiet_step ((first | (go_at_call 56; exact calm_call (rintervals_ _ _ _ _ _ _ _)))) | quiet_step ((first | (go_at_call 56; exact calm_call (rintervals_ _ _ _ _ _ _ _)))))
           refine wpQuiet_nil ?_; intro u; have hzu := u.below.size; try simp at hzu))
      all_goals go_ret
      all_goals refine ⟨by first | rfl | exact ret_int e.symm, ?_⟩
      all_goals (repeat (first | exact gr0 _ | refine gr1 ?_ _ | refine gr2 ?_ (Later.below _) | refine gr2 ?_ (by assumption) | refine gr3 ?_ | refine gr4 ?_ (by first | (simp; done) | (simp; omega) | omega) _))
    · skip
      have hM := mcus_in x y m
      have hP := partsN_le m
      have hi : 1 ≤ i ∧ i ≤ 65535 := by
        refine Decidable.byContradiction fun h => ?_
        have : intervalsI x y m i = 0 := by unfold intervalsI; rw [if_pos (by omega)]
        omega
      have q1 : 0 ≤ k * i := Int.mul_nonneg (by omega) (by omega)
      have q2 : k * i ≤ 4294836225 * 65535 := Int.mul_le_mul (by omega) hi.2 (by omega) (by omega)
      have q3 : wrap64 (k * i) = k * i := w64 (by omega) (by omega)
      have q4 : wrap64 (mcusI x y m - k * i) = mcusI x y m - k * i := w64 (by omega) (by omega)
      have q5 : wrap64 (i * partsN m) = i * partsN m := by
        have h1 : 0 ≤ i * (partsN m : Int) := Int.mul_nonneg (by omega) (by omega)
        have h2 : i * (partsN m : Int) ≤ 65535 * 6 := Int.mul_le_mul hi.2 hP (by omega) (by omega)
        exact w64 (by omega) (by omega)
      have q6 : wrap64 ((mcusI x y m - k * i) * partsN m) = (mcusI x y m - k * i) * partsN m := by
        have ht : -281462092005375 ≤ mcusI x y m - k * i ∧ mcusI x y m - k * i ≤ 4294836225 := by omega
        generalize mcusI x y m - k * i = t at *
        have hp : (partsN m : Int) = 0 ∨ (partsN m : Int) = 1 ∨ (partsN m : Int) = 2 ∨ (partsN m : Int) = 3 ∨ (partsN m : Int) = 4 ∨ (partsN m : Int) = 5 ∨ (partsN m : Int) = 6 := by omega
        rcases hp with h | h | h | h | h | h | h <;> rw [h] <;> exact w64 (by omega) (by omega)
      have e : blocksI x y m i k = minI i (mcusI x y m - k * i) * partsN m := by unfold blocksI; rw [if_neg (by omega)]
      have l1 : 0 ≤ k := by omega
      have l2 : k ≤ intervalsI x y m i - 1 := by omega
      have d1 : decide (k < 0) = false := by simp; omega
      have d2 : decide (intervalsI x y m i ≤ k) = false := by simp; omega
      go_enter Try.func57, Try.ntmps57
      go_wp2_with (first
        | (go_at_call 56; refine (rintervals_ _ _ _ _ _ _ _).mono ?_; rintro e W1 ⟨rfl, hb1⟩; obtain ⟨hc1, hf1, hz1⟩ := bcell hb1; try simp at hz1))
      refine wp_region_hid 15 [⟨12, 25, fun x _ => ∃ p c, x = Value.slice p (partsN m) c⟩] (by kernel_rfl) (by kernel_rfl) (by simp) (by simp) (by kernel_rfl) ?_ ?_
      · intro h hh x W W' hb hx
        simp only [List.mem_cons, List.not_mem_nil, or_false] at hh
        rcases hh with rfl
        all_goals first | exact hx | exact own_below hx hb | (obtain ⟨g, e, h1, h2⟩ := hx; exact ⟨g, e, h1, (hb.block g (lt_of_heap h2)).trans h2⟩)
      simp only [List.take_succ_cons, List.take_zero, List.drop_succ_cons, List.drop_zero]
      repeat (first | (refine wpHid_hid rfl rfl (fun X u hX K hK => ?_) ?_; (focus (have hzu := u.below.size; (try simp at hzu); (try simp only [fill, List.map_cons, List.map_nil, Act.put, List.setIfInBounds_toArray, List.set_cons_succ, List.set_cons_zero] at hK ⊢); go_step; first | (go_at_call 59; refine (rparts_len _ _).mono ?_; rintro e W ⟨p, c, rfl, hb⟩; exact hK _ _ hb ⟨p, c, rfl⟩))); (try simp only [Act.put, List.setIfInBounds_toArray, List.set_cons_succ, List.set_cons_zero])) | (refine wpHid_next rfl rfl ?_; apply Exists.intro; refine ⟨fun X u hX K hK => ?_, ?_⟩; (focus (have hzu := u.below.size; (try simp at hzu); (try (refine Exists.elim (hX _ List.mem_cons_self ?_) ?_; (focus (show (25 : Nat) ∈ _; decide +kernel)); (intro p0 hx; obtain ⟨c0, hx0⟩ := hx))); (try simp only [fill, List.map_cons, List.map_nil, Act.put, List.setIfInBounds_toArray, List.set_cons_succ, List.set_cons_zero] at hK ⊢); (try simp only [hx0] at hK ⊢); go_step; first | exact hK _ _ (gr0 _) rfl | (go_at_call 78; refine (rmcus_ _ _ _ _ _ _ _).mono ?_; rintro e W ⟨rfl, hb⟩; exact hK _ _ hb rfl))); (try simp only [Act.put, List.setIfInBounds_toArray, List.set_cons_succ, List.set_cons_zero])) | (refine wpHid_skip rfl rfl ?_; (try simp only [Act.put, List.setIfInBounds_toArray, List.set_cons_succ, List.set_cons_zero])))
      refine wpHid_nil ?_
      intro X W9 hb9 hR9
      obtain ⟨p0, c0, hx0⟩ := hR9 _ List.mem_cons_self
      simp only [fill, List.map_cons, List.map_nil, Act.put, List.setIfInBounds_toArray, List.set_cons_succ, List.set_cons_zero]
      simp only [hx0]
      obtain ⟨hcW9, hfW9, hzW9⟩ := bcell hb9
      try simp at hzW9
      go_wp2
      all_goals go_ret
      all_goals refine ⟨ret_int (by unfold minI; split <;> first | rfl | omega), ?_⟩
      all_goals (repeat (first | exact gr0 _ | refine gr1 ?_ _ | refine gr2 ?_ (Later.below _) | refine gr2 ?_ (by assumption) | refine gr3 ?_ | refine gr4 ?_ (by first | (simp; done) | (simp; omega) | omega) _))

def bytesI (n : Int) : Int := 2 * ceilI n 8
def manyI (x y m i : Int) : Int := minI i (mcusI x y m) * partsN m
theorem bytes_eq {n : Int} (h1 : 0 ≤ n) (h2 : n ≤ 1000000000) : bytesI n = 2 * ((n + 7) / 8) := by
  unfold bytesI; rw [ceil_q (by omega)]; rw [show n + 8 - 1 = n + 7 by omega]
theorem bytes_w {n : Int} (h1 : 0 ≤ n) (h2 : n ≤ 1000000000) : wrap64 (2 * ceilI n 8) = bytesI n := by
  have h := bytes_eq h1 h2
  unfold bytesI at *
  exact w64 (by omega) (by omega)
theorem parts_cases (m : Int) : (partsN m : Int) = 0 ∨ (partsN m : Int) = 1 ∨ (partsN m : Int) = 2 ∨ (partsN m : Int) = 3 ∨ (partsN m : Int) = 4 ∨ (partsN m : Int) = 5 ∨ (partsN m : Int) = 6 := by
  have h := partsN_le m; omega
theorem many_in {x y m i : Int} (hi : 1 ≤ i ∧ i ≤ 65535) : 0 ≤ manyI x y m i ∧ manyI x y m i ≤ 393210 ∧ wrap64 (minI i (mcusI x y m) * partsN m) = manyI x y m i := by
  have hM := mcus_in x y m
  have h1 : 0 ≤ minI i (mcusI x y m) ∧ minI i (mcusI x y m) ≤ 65535 := by unfold minI; split <;> omega
  unfold manyI
  generalize minI i (mcusI x y m) = t at *
  rcases parts_cases m with h | h | h | h | h | h | h <;> rw [h] <;> exact ⟨by omega, by omega, w64 (by omega) (by omega)⟩
def roomI (x y m i c : Int) : Int := if intervalsI x y m i = 0 ∨ c < 0 ∨ 3 < c then 0 else bytesI (manyI x y m i * 24) + c * (bytesI (manyI x y m i * 1662) - bytesI (manyI x y m i * 24)) / 3
theorem intervals_pos {x y m i : Int} (h : intervalsI x y m i ≠ 0) : 1 ≤ i ∧ i ≤ 65535 := by
  refine Decidable.byContradiction fun h2 => h ?_
  unfold intervalsI; rw [if_pos (by omega)]
theorem room_parts {x y m i c : Int} (hi : 1 ≤ i ∧ i ≤ 65535) (hc : 0 ≤ c ∧ c ≤ 3) :
    (0 ≤ bytesI (manyI x y m i * 24) ∧ bytesI (manyI x y m i * 24) ≤ 1000000000) ∧ (0 ≤ c * (bytesI (manyI x y m i * 1662) - bytesI (manyI x y m i * 24)) ∧ c * (bytesI (manyI x y m i * 1662) - bytesI (manyI x y m i * 24)) ≤ 1000000000) ∧
    (0 ≤ bytesI (manyI x y m i * 1662) - bytesI (manyI x y m i * 24) ∧ bytesI (manyI x y m i * 1662) - bytesI (manyI x y m i * 24) ≤ 1000000000) := by
  obtain ⟨h1, h2, _⟩ := many_in (x := x) (y := y) (m := m) hi
  rw [bytes_eq (by omega) (by omega), bytes_eq (by omega) (by omega)]
  have : c = 0 ∨ c = 1 ∨ c = 2 ∨ c = 3 := by omega
  rcases this with rfl | rfl | rfl | rfl <;> omega

theorem least_ (w : World) :
    Calls Try.prog 28 #[] w fun e w' => e = .returned (.int .i64 24) ∧ Below w.heap.size w w' := by
  go_enter Try.func28, Try.ntmps28
  go_wp2_with (first
    | (refine wp_region_calm (by kernel_rfl) (by kernel_rfl) ?_; repeat (first | go_big_quiet_step (fail) | quiet_step (fail))
       refine wpQuiet_nil ?_; intro u; have hzu := u.below.size; try simp at hzu))
  go_ret
  refine ⟨rfl, ?_⟩
  repeat (first | exact gr0 _ | refine gr1 ?_ _ | refine gr2 ?_ (Later.below _) | refine gr2 ?_ (by assumption) | refine gr3 ?_ | refine gr4 ?_ (by first | (simp; done) | (simp; omega) | omega) _)

theorem most_ (w : World) :
    Calls Try.prog 26 #[] w fun e w' => e = .returned (.int .i64 1662) ∧ Below w.heap.size w w' := by
  go_enter Try.func26, Try.ntmps26
  go_wp2_with (first
    | (refine wp_region_calm (by kernel_rfl) (by kernel_rfl) ?_; repeat (first | go_big_quiet_step (fail) | quiet_step (fail))
       refine wpQuiet_nil ?_; intro u; have hzu := u.below.size; try simp at hzu))
  go_ret
  refine ⟨rfl, ?_⟩
  repeat (first | exact gr0 _ | refine gr1 ?_ _ | refine gr2 ?_ (Later.below _) | refine gr2 ?_ (by assumption) | refine gr3 ?_ | refine gr4 ?_ (by first | (simp; done) | (simp; omega) | omega) _)

theorem rleast_ (w : World) :
    Calls Try.prog 80 #[] w fun e w' => e = .returned (.int .i64 24) ∧ Below w.heap.size w w' := by
  go_enter Try.func80, Try.ntmps80
  go_wp2_with (first
    | (refine wp_region_calm (by kernel_rfl) (by kernel_rfl) ?_; repeat (first | go_big_quiet_step (fail) | quiet_step (fail))
       refine wpQuiet_nil ?_; intro u; have hzu := u.below.size; try simp at hzu))
  go_ret
  refine ⟨rfl, ?_⟩
  repeat (first | exact gr0 _ | refine gr1 ?_ _ | refine gr2 ?_ (Later.below _) | refine gr2 ?_ (by assumption) | refine gr3 ?_ | refine gr4 ?_ (by first | (simp; done) | (simp; omega) | omega) _)

theorem rmost_ (w : World) :
    Calls Try.prog 81 #[] w fun e w' => e = .returned (.int .i64 1662) ∧ Below w.heap.size w w' := by
  go_enter Try.func81, Try.ntmps81
  go_wp2_with (first
    | (refine wp_region_calm (by kernel_rfl) (by kernel_rfl) ?_; repeat (first | go_big_quiet_step (fail) | quiet_step (fail))
       refine wpQuiet_nil ?_; intro u; have hzu := u.below.size; try simp at hzu))
  go_ret
  refine ⟨rfl, ?_⟩
  repeat (first | exact gr0 _ | refine gr1 ?_ _ | refine gr2 ?_ (Later.below _) | refine gr2 ?_ (by assumption) | refine gr3 ?_ | refine gr4 ?_ (by first | (simp; done) | (simp; omega) | omega) _)

theorem room_least (n : Int) (g : Nat) (w : World) (hc : w.cell? ⟨g, 0, none⟩ = some (.int .i64 n)) (hg : g < w.heap.size) (h1 : 0 ≤ n) (h2 : n ≤ 393210) :
    Calls Try.prog 63 #[.func (.func 28) #[] #[], .pointer (some ⟨g, 0, none⟩)] w fun e w' => e = .returned (.int .i64 (bytesI (n * 24))) ∧ Below w.heap.size w w' := by
  have k1 : wrap64 (n * 24) = n * 24 := w64 (by omega) (by omega)
  have k2 := bytes_w (n := n * 24) (by omega) (by omega)
  go_enter Try.func63, Try.ntmps63
  go_wp2_with (first
    | (go_at_call 28; refine (least_ _).mono ?_; rintro e W1 ⟨rfl, hb1⟩; obtain ⟨hc1, hf1, hz1⟩ := bcell hb1; try simp at hz1)
    | (go_at_call 61; refine (num_ceil _ _ _).mono ?_; rintro e W1 ⟨rfl, hb1⟩; obtain ⟨hc1, hf1, hz1⟩ := bcell hb1; try simp at hz1)
    | (refine wp_region_calm (by kernel_rfl) (by kernel_rfl) ?_; repeat (first | go_big_quiet_step ((first | (go_at_call 28; exact calm_call (least_ _)) | (go_at_call 61; exact calm_call (num_ceil _ _ _)))) | quiet_step ((first | (go_at_call 28; exact calm_call (least_ _)) | (go_at_call 61; exact calm_call (num_ceil _ _ _)))))
       refine wpQuiet_nil ?_; intro u; have hzu := u.below.size; try simp at hzu))
  go_ret
  refine ⟨by first | rfl | exact ret_int k2, ?_⟩
  repeat (first | exact gr0 _ | refine gr1 ?_ _ | refine gr2 ?_ (Later.below _) | refine gr2 ?_ (by assumption) | refine gr3 ?_ | refine gr4 ?_ (by first | (simp; done) | (simp; omega) | omega) _)

theorem room_most (n : Int) (g : Nat) (w : World) (hc : w.cell? ⟨g, 0, none⟩ = some (.int .i64 n)) (hg : g < w.heap.size) (h1 : 0 ≤ n) (h2 : n ≤ 393210) :
    Calls Try.prog 63 #[.func (.func 26) #[] #[], .pointer (some ⟨g, 0, none⟩)] w fun e w' => e = .returned (.int .i64 (bytesI (n * 1662))) ∧ Below w.heap.size w w' := by
  have k1 : wrap64 (n * 1662) = n * 1662 := w64 (by omega) (by omega)
  have k2 := bytes_w (n := n * 1662) (by omega) (by omega)
  go_enter Try.func63, Try.ntmps63
  go_wp2_with (first
    | (go_at_call 26; refine (most_ _).mono ?_; rintro e W1 ⟨rfl, hb1⟩; obtain ⟨hc1, hf1, hz1⟩ := bcell hb1; try simp at hz1)
    | (go_at_call 61; refine (num_ceil _ _ _).mono ?_; rintro e W1 ⟨rfl, hb1⟩; obtain ⟨hc1, hf1, hz1⟩ := bcell hb1; try simp at hz1)
    | (refine wp_region_calm (by kernel_rfl) (by kernel_rfl) ?_; repeat (first | go_big_quiet_step ((first | (go_at_call 26; exact calm_call (most_ _)) | (go_at_call 61; exact calm_call (num_ceil _ _ _)))) | quiet_step ((first | (go_at_call 26; exact calm_call (most_ _)) | (go_at_call 61; exact calm_call (num_ceil _ _ _)))))
       refine wpQuiet_nil ?_; intro u; have hzu := u.below.size; try simp at hzu))
  go_ret
  refine ⟨by first | rfl | exact ret_int k2, ?_⟩
  repeat (first | exact gr0 _ | refine gr1 ?_ _ | refine gr2 ?_ (Later.below _) | refine gr2 ?_ (by assumption) | refine gr3 ?_ | refine gr4 ?_ (by first | (simp; done) | (simp; omega) | omega) _)

theorem rbytes_ (n : Int) (w : World) (h1 : 0 ≤ n) (h2 : n ≤ 1000000000) :
    Calls Try.prog 79 #[.int .i64 n] w fun e w' => e = .returned (.int .i64 (bytesI n)) ∧ Below w.heap.size w w' := by
  have k2 := bytes_w h1 h2
  go_enter Try.func79, Try.ntmps79
  go_wp2_with (first
    | (go_at_call 82; refine (ref01_ceil _ _ _).mono ?_; rintro e W1 ⟨rfl, hb1⟩; obtain ⟨hc1, hf1, hz1⟩ := bcell hb1; try simp at hz1)
    | (refine wp_region_calm (by kernel_rfl) (by kernel_rfl) ?_; repeat (first | go_big_quiet_step ((first | (go_at_call 82; exact calm_call (ref01_ceil _ _ _)))) | quiet_step ((first | (go_at_call 82; exact calm_call (ref01_ceil _ _ _)))))
       refine wpQuiet_nil ?_; intro u; have hzu := u.below.size; try simp at hzu))
  go_ret
  refine ⟨by first | rfl | exact ret_int k2, ?_⟩
  repeat (first | exact gr0 _ | refine gr1 ?_ _ | refine gr2 ?_ (Later.below _) | refine gr2 ?_ (by assumption) | refine gr3 ?_ | refine gr4 ?_ (by first | (simp; done) | (simp; omega) | omega) _)

set_option maxRecDepth 100000 in
set_option maxHeartbeats 2000000 in
theorem room_ (x y m q i c : Int) (w : World) :
    Calls Try.prog 36 #[.agg #[.int .i64 x, .int .i64 y, .int .i64 m, .int .i64 q, .int .i64 i, .int .i64 c]] w fun e w' => e = .returned (.int .i64 (roomI x y m i c)) ∧ Below w.heap.size w w' := by
  by_cases h1 : intervalsI x y m i = 0
  · have e : roomI x y m i c = 0 := by unfold roomI; rw [if_pos (by omega)]
    have b0 : (intervalsI x y m i == 0) = true := by simp; omega
    go_enter Try.func36, Try.ntmps36
    go_wp2_with (first
      | (go_at_call 34; refine (intervals_ _ _ _ _ _ _ _).mono ?_; rintro e W1 ⟨rfl, hb1⟩; obtain ⟨hc1, hf1, hz1⟩ := bcell hb1; try simp at hz1)
      | (go_at_call 47; refine (between_ok _ _ _ _ ‹_› ‹_›).mono ?_; rintro e W1 ⟨rfl, hb1⟩; obtain ⟨hc1, hf1, hz1⟩ := bcell hb1; try simp at hz1)
      | (go_at_call 47; refine (between_lo _ _ _ _ ‹_›).mono ?_; rintro e W1 ⟨rfl, hb1⟩; obtain ⟨hc1, hf1, hz1⟩ := bcell hb1; try simp at hz1)
      | (go_at_call 47; refine (between_hi _ _ _ _ ‹_›).mono ?_; rintro e W1 ⟨rfl, hb1⟩; obtain ⟨hc1, hf1, hz1⟩ := bcell hb1; try simp at hz1)
      | (refine wp_region_calm (by kernel_rfl) (by kernel_rfl) ?_; repeat (first | go_big_quiet_step ((first | (go_at_call 34; exact calm_call (intervals_ _ _ _ _ _ _ _)) | (go_at_call 47; exact calm_call (between_ok _ _ _ _ ‹_› ‹_›)) | (go_at_call 47; exact calm_call (between_lo _ _ _ _ ‹_›)) | (go_at_call 47; exact calm_call (between_hi _ _ _ _ ‹_›)))) | quiet_step ((first | (go_at_call 34; exact calm_call (intervals_ _ _ _ _ _ _ _)) | (go_at_call 47; exact calm_call (between_ok _ _ _ _ ‹_› ‹_›)) | (go_at_call 47; exact calm_call (between_lo _ _ _ _ ‹_›)) | (go_at_call 47; exact calm_call (between_hi _ _ _ _ ‹_›)))))
         refine wpQuiet_nil ?_; intro u; have hzu := u.below.size; try simp at hzu))
    all_goals go_ret
    all_goals refine ⟨by first | rfl | exact ret_int e.symm, ?_⟩
    all_goals (repeat (first | exact gr0 _ | refine gr1 ?_ _ | refine gr2 ?_ (Later.below _) | refine gr2 ?_ (by assumption) | refine gr3 ?_ | refine gr4 ?_ (by first | (simp; done) | (simp; omega) | omega) _))
  · skip
    by_cases h2 : c < 0
    · have e : roomI x y m i c = 0 := by unfold roomI; rw [if_pos (by omega)]
      have b0 : (intervalsI x y m i == 0) = false := by simp; omega
      go_enter Try.func36, Try.ntmps36
      go_wp2_with (first
        | (go_at_call 34; refine (intervals_ _ _ _ _ _ _ _).mono ?_; rintro e W1 ⟨rfl, hb1⟩; obtain ⟨hc1, hf1, hz1⟩ := bcell hb1; try simp at hz1)
        | (go_at_call 47; refine (between_ok _ _ _ _ ‹_› ‹_›).mono ?_; rintro e W1 ⟨rfl, hb1⟩; obtain ⟨hc1, hf1, hz1⟩ := bcell hb1; try simp at hz1)
        | (go_at_call 47; refine (between_lo _ _ _ _ ‹_›).mono ?_; rintro e W1 ⟨rfl, hb1⟩; obtain ⟨hc1, hf1, hz1⟩ := bcell hb1; try simp at hz1)
        | (go_at_call 47; refine (between_hi _ _ _ _ ‹_›).mono ?_; rintro e W1 ⟨rfl, hb1⟩; obtain ⟨hc1, hf1, hz1⟩ := bcell hb1; try simp at hz1)
        | (refine wp_region_calm (by kernel_rfl) (by kernel_rfl) ?_; repeat (first | go_big_quiet_step ((first | (go_at_call 34; exact calm_call (intervals_ _ _ _ _ _ _ _)) | (go_at_call 47; exact calm_call (between_ok _ _ _ _ ‹_› ‹_›)) | (go_at_call 47; exact calm_call (between_lo _ _ _ _ ‹_›)) | (go_at_call 47; exact calm_call (between_hi _ _ _ _ ‹_›)))) | quiet_step ((first | (go_at_call 34; exact calm_call (intervals_ _ _ _ _ _ _ _)) | (go_at_call 47; exact calm_call (between_ok _ _ _ _ ‹_› ‹_›)) | (go_at_call 47; exact calm_call (between_lo _ _ _ _ ‹_›)) | (go_at_call 47; exact calm_call (between_hi _ _ _ _ ‹_›)))))
           refine wpQuiet_nil ?_; intro u; have hzu := u.below.size; try simp at hzu))
      all_goals go_ret
      all_goals refine ⟨by first | rfl | exact ret_int e.symm, ?_⟩
      all_goals (repeat (first | exact gr0 _ | refine gr1 ?_ _ | refine gr2 ?_ (Later.below _) | refine gr2 ?_ (by assumption) | refine gr3 ?_ | refine gr4 ?_ (by first | (simp; done) | (simp; omega) | omega) _))
    · skip
      by_cases h3 : 3 < c
      · have e : roomI x y m i c = 0 := by unfold roomI; rw [if_pos (by omega)]
        have b0 : (intervalsI x y m i == 0) = false := by simp; omega
        go_enter Try.func36, Try.ntmps36
        go_wp2_with (first
          | (go_at_call 34; refine (intervals_ _ _ _ _ _ _ _).mono ?_; rintro e W1 ⟨rfl, hb1⟩; obtain ⟨hc1, hf1, hz1⟩ := bcell hb1; try simp at hz1)
          | (go_at_call 47; refine (between_ok _ _ _ _ ‹_› ‹_›).mono ?_; rintro e W1 ⟨rfl, hb1⟩; obtain ⟨hc1, hf1, hz1⟩ := bcell hb1; try simp at hz1)
          | (go_at_call 47; refine (between_lo _ _ _ _ ‹_›).mono ?_; rintro e W1 ⟨rfl, hb1⟩; obtain ⟨hc1, hf1, hz1⟩ := bcell hb1; try simp at hz1)
          | (go_at_call 47; refine (between_hi _ _ _ _ ‹_›).mono ?_; rintro e W1 ⟨rfl, hb1⟩; obtain ⟨hc1, hf1, hz1⟩ := bcell hb1; try simp at hz1)
          | (refine wp_region_calm (by kernel_rfl) (by kernel_rfl) ?_; repeat (first | go_big_quiet_step ((first | (go_at_call 34; exact calm_call (intervals_ _ _ _ _ _ _ _)) | (go_at_call 47; exact calm_call (between_ok _ _ _ _ ‹_› ‹_›)) | (go_at_call 47; exact calm_call (between_lo _ _ _ _ ‹_›)) | (go_at_call 47; exact calm_call (between_hi _ _ _ _ ‹_›)))) | quiet_step ((first | (go_at_call 34; exact calm_call (intervals_ _ _ _ _ _ _ _)) | (go_at_call 47; exact calm_call (between_ok _ _ _ _ ‹_› ‹_›)) | (go_at_call 47; exact calm_call (between_lo _ _ _ _ ‹_›)) | (go_at_call 47; exact calm_call (between_hi _ _ _ _ ‹_›)))))
             refine wpQuiet_nil ?_; intro u; have hzu := u.below.size; try simp at hzu))
        all_goals go_ret
        all_goals refine ⟨by first | rfl | exact ret_int e.symm, ?_⟩
        all_goals (repeat (first | exact gr0 _ | refine gr1 ?_ _ | refine gr2 ?_ (Later.below _) | refine gr2 ?_ (by assumption) | refine gr3 ?_ | refine gr4 ?_ (by first | (simp; done) | (simp; omega) | omega) _))
      · skip
        have e : roomI x y m i c = bytesI (manyI x y m i * 24) + c * (bytesI (manyI x y m i * 1662) - bytesI (manyI x y m i * 24)) / 3 := by unfold roomI; rw [if_neg (by omega)]
        have hi := intervals_pos h1
        obtain ⟨n1, n2, n3⟩ := many_in (x := x) (y := y) (m := m) hi
        obtain ⟨⟨r1, r2⟩, ⟨r3, r4⟩, r5, r6⟩ := room_parts (x := x) (y := y) (m := m) hi (c := c) (by omega)
        have l1 : 0 ≤ c := by omega
        have l2 : c ≤ 3 := by omega
        have hmin : (if mcusI x y m < i then mcusI x y m else i) = minI i (mcusI x y m) := rfl
        have k1 : wrap64 (bytesI (manyI x y m i * 1662) - bytesI (manyI x y m i * 24)) = bytesI (manyI x y m i * 1662) - bytesI (manyI x y m i * 24) := w64 (by omega) (by omega)
        have k2 : wrap64 (c * (bytesI (manyI x y m i * 1662) - bytesI (manyI x y m i * 24))) = c * (bytesI (manyI x y m i * 1662) - bytesI (manyI x y m i * 24)) := w64 (by omega) (by omega)
        have k3 : Int.tdiv (c * (bytesI (manyI x y m i * 1662) - bytesI (manyI x y m i * 24))) 3 = c * (bytesI (manyI x y m i * 1662) - bytesI (manyI x y m i * 24)) / 3 := Int.tdiv_eq_ediv_of_nonneg r3
        have k5 : wrap64 (bytesI (manyI x y m i * 24) + c * (bytesI (manyI x y m i * 1662) - bytesI (manyI x y m i * 24)) / 3) = bytesI (manyI x y m i * 24) + c * (bytesI (manyI x y m i * 1662) - bytesI (manyI x y m i * 24)) / 3 := w64 (by omega) (by omega)
        have k4 : wrap64 (c * (bytesI (manyI x y m i * 1662) - bytesI (manyI x y m i * 24)) / 3) = c * (bytesI (manyI x y m i * 1662) - bytesI (manyI x y m i * 24)) / 3 := w64 (by omega) (by omega)
        have b0 : (intervalsI x y m i == 0) = false := by simp; omega
        go_enter Try.func36, Try.ntmps36
        go_wp2_with (first
          | (go_at_call 34; refine (intervals_ _ _ _ _ _ _ _).mono ?_; rintro e W1 ⟨rfl, hb1⟩; obtain ⟨hc1, hf1, hz1⟩ := bcell hb1; try simp at hz1)
          | (go_at_call 47; refine (between_ok _ _ _ _ ‹_› ‹_›).mono ?_; rintro e W1 ⟨rfl, hb1⟩; obtain ⟨hc1, hf1, hz1⟩ := bcell hb1; try simp at hz1))
        refine wp_region_hid 11 [⟨7, 23, fun x _ => ∃ p c, x = Value.slice p (partsN m) c⟩, ⟨10, 3, fun x W => ∃ g, x = Value.pointer (some ⟨g, 0, none⟩) ∧ w.heap.size < g ∧ W.heap[g]? = some (.cells #[Value.int .i64 0] 3 (0, 0))⟩] (by kernel_rfl) (by kernel_rfl) (by simp) (by simp) (by kernel_rfl) ?_ ?_
        · intro h hh x W W' hb hx
          simp only [List.mem_cons, List.not_mem_nil, or_false] at hh
          rcases hh with rfl | rfl
          all_goals first | exact hx | exact own_below hx hb | (obtain ⟨g, e, h1, h2⟩ := hx; exact ⟨g, e, h1, (hb.block g (lt_of_heap h2)).trans h2⟩)
        simp only [List.take_succ_cons, List.take_zero, List.drop_succ_cons, List.drop_zero]
        repeat (first | (refine wpHid_hid rfl rfl (fun X u hX K hK => ?_) ?_; (focus (have hzu := u.below.size; (try simp at hzu); (try simp only [fill, List.map_cons, List.map_nil, Act.put, List.setIfInBounds_toArray, List.set_cons_succ, List.set_cons_zero] at hK ⊢); go_step; first | (go_at_call 30; refine (parts_len _ _).mono ?_; rintro e W ⟨p, c, rfl, hb⟩; exact hK _ _ hb ⟨p, c, rfl⟩) | exact hK _ _ (gr1 (gr0 _) _) ⟨_, rfl, by (have hzu := u.below.size; (try simp at hzu); omega), heap_alloc_new _ _⟩)); (try simp only [Act.put, List.setIfInBounds_toArray, List.set_cons_succ, List.set_cons_zero])) | (refine wpHid_next rfl rfl ?_; apply Exists.intro; refine ⟨fun X u hX K hK => ?_, ?_⟩; (focus (have hzu := u.below.size; (try simp at hzu); (try (refine Exists.elim (hX _ List.mem_cons_self ?_) ?_; (focus (show (23 : Nat) ∈ _; decide +kernel)); (intro p0 hx; obtain ⟨c0, hx0⟩ := hx))); (try simp only [fill, List.map_cons, List.map_nil, Act.put, List.setIfInBounds_toArray, List.set_cons_succ, List.set_cons_zero] at hK ⊢); (try simp only [hx0] at hK ⊢); go_step; first | exact hK _ _ (gr0 _) rfl | (go_at_call 62; refine (mcus_ _ _ _ _ _ _ _).mono ?_; rintro e W ⟨rfl, hb⟩; exact hK _ _ hb rfl))); (try simp only [Act.put, List.setIfInBounds_toArray, List.set_cons_succ, List.set_cons_zero])) | (refine wpHid_skip rfl rfl ?_; (try simp only [Act.put, List.setIfInBounds_toArray, List.set_cons_succ, List.set_cons_zero])))
        refine wpHid_nil ?_
        intro X W9 hb9 hR9
        obtain ⟨p0, c0, hx0⟩ := hR9 _ List.mem_cons_self
        obtain ⟨g1, hx1, hg1, hh1⟩ := hR9 _ (List.mem_cons_of_mem _ List.mem_cons_self)
        simp only [fill, List.map_cons, List.map_nil, Act.put, List.setIfInBounds_toArray, List.set_cons_succ, List.set_cons_zero]
        simp only [hx0, hx1]
        obtain ⟨hcW9, hfW9, hzW9, hlW9⟩ := ncell2 hb9 hh1
        try simp at hzW9
        simp only [n3]
        go_wp2_with fail
        have s1 : (W9.setCell ⟨g1, 0, none⟩ (.int .i64 (manyI x y m i))).cell? ⟨g1, 0, none⟩ = some (.int .i64 (manyI x y m i)) := by rw [set_cell_if, hcW9]; simp
        refine (room_least (manyI x y m i) g1 _ s1 (by simp; exact hlW9) n1 n2).mono ?_
        rintro e WA ⟨rfl, hbA⟩
        obtain ⟨hcA, hfA, hzA⟩ := bcell hbA
        try simp at hzA
        go_wp2_with fail
        have s2 : WA.cell? ⟨g1, 0, none⟩ = some (.int .i64 (manyI x y m i)) := by rw [hcA, if_pos (by simp; exact hlW9), s1]
        refine (room_most (manyI x y m i) g1 _ s2 (by omega) n1 n2).mono ?_
        rintro e WB ⟨rfl, hbB⟩
        obtain ⟨hcB, hfB, hzB⟩ := bcell hbB
        try simp at hzB
        go_wp2
        go_ret
        refine ⟨by first | rfl | exact ret_int e.symm, ?_⟩
        repeat (first | exact gr0 _ | refine gr1 ?_ _ | refine gr2 ?_ (Later.below _) | refine gr2 ?_ (by assumption) | refine gr3 ?_ | refine gr4 ?_ (by first | (simp; done) | (simp; omega) | omega) _)

set_option maxRecDepth 100000 in
set_option maxHeartbeats 2000000 in
theorem rroom_ (x y m q i c : Int) (w : World) :
    Calls Try.prog 55 #[.agg #[.int .i64 x, .int .i64 y, .int .i64 m, .int .i64 q, .int .i64 i, .int .i64 c]] w fun e w' => e = .returned (.int .i64 (roomI x y m i c)) ∧ Below w.heap.size w w' := by
  by_cases h1 : intervalsI x y m i = 0
  · have e : roomI x y m i c = 0 := by unfold roomI; rw [if_pos (by omega)]
    have b0 : (intervalsI x y m i == 0) = true := by simp; omega
    go_enter Try.func55, Try.ntmps55
    go_wp2_with (first
      | (go_at_call 56; refine (rintervals_ _ _ _ _ _ _ _).mono ?_; rintro e W1 ⟨rfl, hb1⟩; obtain ⟨hc1, hf1, hz1⟩ := bcell hb1; try simp at hz1)
      | (refine wp_region_calm (by kernel_rfl) (by kernel_rfl) ?_; repeat (first | go_big_quiet_step ((first | (go_at_call 56; exact calm_call (rintervals_ _ _ _ _ _ _ _)))) | quiet_step ((first | (go_at_call 56; exact calm_call (rintervals_ _ _ _ _ _ _ _)))))
         refine wpQuiet_nil ?_; intro u; have hzu := u.below.size; try simp at hzu))
    all_goals go_ret
    all_goals refine ⟨by first | rfl | exact ret_int e.symm, ?_⟩
    all_goals (repeat (first | exact gr0 _ | refine gr1 ?_ _ | refine gr2 ?_ (Later.below _) | refine gr2 ?_ (by assumption) | refine gr3 ?_ | refine gr4 ?_ (by first | (simp; done) | (simp; omega) | omega) _))
  · skip
    by_cases h2 : c < 0
    · have e : roomI x y m i c = 0 := by unfold roomI; rw [if_pos (by omega)]
      have b0 : (intervalsI x y m i == 0) = false := by simp; omega
      have d1 : decide (c < 0) = true := by simp; omega
      go_enter Try.func55, Try.ntmps55
      go_wp2_with (first
        | (go_at_call 56; refine (rintervals_ _ _ _ _ _ _ _).mono ?_; rintro e W1 ⟨rfl, hb1⟩; obtain ⟨hc1, hf1, hz1⟩ := bcell hb1; try simp at hz1)
        | (refine wp_region_calm (by kernel_rfl) (by kernel_rfl) ?_; repeat (first | go_big_quiet_step ((first | (go_at_call 56; exact calm_call (rintervals_ _ _ _ _ _ _ _)))) | quiet_step ((first | (go_at_call 56; exact calm_call (rintervals_ _ _ _ _ _ _ _)))))
           refine wpQuiet_nil ?_; intro u; have hzu := u.below.size; try simp at hzu))
      all_goals go_ret
      all_goals refine ⟨by first | rfl | exact ret_int e.symm, ?_⟩
      all_goals (repeat (first | exact gr0 _ | refine gr1 ?_ _ | refine gr2 ?_ (Later.below _) | refine gr2 ?_ (by assumption) | refine gr3 ?_ | refine gr4 ?_ (by first | (simp; done) | (simp; omega) | omega) _))
    · skip
      by_cases h3 : 3 < c
      · have e : roomI x y m i c = 0 := by unfold roomI; rw [if_pos (by omega)]
        have b0 : (intervalsI x y m i == 0) = false := by simp; omega
        have d1 : decide (c < 0) = false := by simp; omega
        have d2 : decide (3 < c) = true := by simp; omega
        go_enter Try.func55, Try.ntmps55
        go_wp2_with (first
          | (go_at_call 56; refine (rintervals_ _ _ _ _ _ _ _).mono ?_; rintro e W1 ⟨rfl, hb1⟩; obtain ⟨hc1, hf1, hz1⟩ := bcell hb1; try simp at hz1)
          | (refine wp_region_calm (by kernel_rfl) (by kernel_rfl) ?_; repeat (first | go_big_quiet_step ((first | (go_at_call 56; exact calm_call (rintervals_ _ _ _ _ _ _ _)))) | quiet_step ((first | (go_at_call 56; exact calm_call (rintervals_ _ _ _ _ _ _ _)))))
             refine wpQuiet_nil ?_; intro u; have hzu := u.below.size; try simp at hzu))
        all_goals go_ret
        all_goals refine ⟨by first | rfl | exact ret_int e.symm, ?_⟩
        all_goals (repeat (first | exact gr0 _ | refine gr1 ?_ _ | refine gr2 ?_ (Later.below _) | refine gr2 ?_ (by assumption) | refine gr3 ?_ | refine gr4 ?_ (by first | (simp; done) | (simp; omega) | omega) _))
      · skip
        have e : roomI x y m i c = bytesI (manyI x y m i * 24) + c * (bytesI (manyI x y m i * 1662) - bytesI (manyI x y m i * 24)) / 3 := by unfold roomI; rw [if_neg (by omega)]
        have hi := intervals_pos h1
        obtain ⟨n1, n2, n3⟩ := many_in (x := x) (y := y) (m := m) hi
        obtain ⟨⟨r1, r2⟩, ⟨r3, r4⟩, r5, r6⟩ := room_parts (x := x) (y := y) (m := m) hi (c := c) (by omega)
        have l1 : 0 ≤ c := by omega
        have l2 : c ≤ 3 := by omega
        have hmin : (if mcusI x y m < i then mcusI x y m else i) = minI i (mcusI x y m) := rfl
        have k1 : wrap64 (bytesI (manyI x y m i * 1662) - bytesI (manyI x y m i * 24)) = bytesI (manyI x y m i * 1662) - bytesI (manyI x y m i * 24) := w64 (by omega) (by omega)
        have k2 : wrap64 (c * (bytesI (manyI x y m i * 1662) - bytesI (manyI x y m i * 24))) = c * (bytesI (manyI x y m i * 1662) - bytesI (manyI x y m i * 24)) := w64 (by omega) (by omega)
        have k3 : Int.tdiv (c * (bytesI (manyI x y m i * 1662) - bytesI (manyI x y m i * 24))) 3 = c * (bytesI (manyI x y m i * 1662) - bytesI (manyI x y m i * 24)) / 3 := Int.tdiv_eq_ediv_of_nonneg r3
        have k5 : wrap64 (bytesI (manyI x y m i * 24) + c * (bytesI (manyI x y m i * 1662) - bytesI (manyI x y m i * 24)) / 3) = bytesI (manyI x y m i * 24) + c * (bytesI (manyI x y m i * 1662) - bytesI (manyI x y m i * 24)) / 3 := w64 (by omega) (by omega)
        have k4 : wrap64 (c * (bytesI (manyI x y m i * 1662) - bytesI (manyI x y m i * 24)) / 3) = c * (bytesI (manyI x y m i * 1662) - bytesI (manyI x y m i * 24)) / 3 := w64 (by omega) (by omega)
        have b0 : (intervalsI x y m i == 0) = false := by simp; omega
        have d1 : decide (c < 0) = false := by simp; omega
        have d2 : decide (3 < c) = false := by simp; omega
        have k6 : wrap64 (manyI x y m i * 24) = manyI x y m i * 24 := w64 (by omega) (by omega)
        have k7 : wrap64 (manyI x y m i * 1662) = manyI x y m i * 1662 := w64 (by omega) (by omega)
        have t1 : 0 ≤ manyI x y m i * 24 := by omega
        have t2 : manyI x y m i * 24 ≤ 1000000000 := by omega
        have t3 : 0 ≤ manyI x y m i * 1662 := by omega
        have t4 : manyI x y m i * 1662 ≤ 1000000000 := by omega
        go_enter Try.func55, Try.ntmps55
        go_wp2_with (first
          | (go_at_call 56; refine (rintervals_ _ _ _ _ _ _ _).mono ?_; rintro e W1 ⟨rfl, hb1⟩; obtain ⟨hc1, hf1, hz1⟩ := bcell hb1; try simp at hz1))
        refine wp_region_hid 10 [⟨7, 26, fun x _ => ∃ p c, x = Value.slice p (partsN m) c⟩] (by kernel_rfl) (by kernel_rfl) (by simp) (by simp) (by kernel_rfl) ?_ ?_
        · intro h hh x W W' hb hx
          simp only [List.mem_cons, List.not_mem_nil, or_false] at hh
          rcases hh with rfl
          all_goals first | exact hx | exact own_below hx hb | (obtain ⟨g, e, h1, h2⟩ := hx; exact ⟨g, e, h1, (hb.block g (lt_of_heap h2)).trans h2⟩)
        simp only [List.take_succ_cons, List.take_zero, List.drop_succ_cons, List.drop_zero]
        repeat (first | (refine wpHid_hid rfl rfl (fun X u hX K hK => ?_) ?_; (focus (have hzu := u.below.size; (try simp at hzu); (try simp only [fill, List.map_cons, List.map_nil, Act.put, List.setIfInBounds_toArray, List.set_cons_succ, List.set_cons_zero] at hK ⊢); go_step; first | (go_at_call 59; refine (rparts_len _ _).mono ?_; rintro e W ⟨p, c, rfl, hb⟩; exact hK _ _ hb ⟨p, c, rfl⟩))); (try simp only [Act.put, List.setIfInBounds_toArray, List.set_cons_succ, List.set_cons_zero])) | (refine wpHid_next rfl rfl ?_; apply Exists.intro; refine ⟨fun X u hX K hK => ?_, ?_⟩; (focus (have hzu := u.below.size; (try simp at hzu); (try (refine Exists.elim (hX _ List.mem_cons_self ?_) ?_; (focus (show (26 : Nat) ∈ _; decide +kernel)); (intro p0 hx; obtain ⟨c0, hx0⟩ := hx))); (try simp only [fill, List.map_cons, List.map_nil, Act.put, List.setIfInBounds_toArray, List.set_cons_succ, List.set_cons_zero] at hK ⊢); (try simp only [hx0] at hK ⊢); go_step; first | exact hK _ _ (gr0 _) rfl | (go_at_call 78; refine (rmcus_ _ _ _ _ _ _ _).mono ?_; rintro e W ⟨rfl, hb⟩; exact hK _ _ hb rfl))); (try simp only [Act.put, List.setIfInBounds_toArray, List.set_cons_succ, List.set_cons_zero])) | (refine wpHid_skip rfl rfl ?_; (try simp only [Act.put, List.setIfInBounds_toArray, List.set_cons_succ, List.set_cons_zero])))
        refine wpHid_nil ?_
        intro X W9 hb9 hR9
        obtain ⟨p0, c0, hx0⟩ := hR9 _ List.mem_cons_self
        simp only [fill, List.map_cons, List.map_nil, Act.put, List.setIfInBounds_toArray, List.set_cons_succ, List.set_cons_zero]
        simp only [hx0]
        obtain ⟨hcW9, hfW9, hzW9⟩ := bcell hb9
        try simp at hzW9
        simp only [n3]
        go_wp2_with (first
          | (go_at_call 80; refine (rleast_ _).mono ?_; rintro e W1 ⟨rfl, hb1⟩; obtain ⟨hc1, hf1, hz1⟩ := bcell hb1; try simp at hz1)
          | (go_at_call 81; refine (rmost_ _).mono ?_; rintro e W1 ⟨rfl, hb1⟩; obtain ⟨hc1, hf1, hz1⟩ := bcell hb1; try simp at hz1)
          | (go_at_call 79; refine (rbytes_ _ _ ‹_› ‹_›).mono ?_; rintro e W1 ⟨rfl, hb1⟩; obtain ⟨hc1, hf1, hz1⟩ := bcell hb1; try simp at hz1)
          | (refine wp_region_calm (by kernel_rfl) (by kernel_rfl) ?_; repeat (first | go_big_quiet_step ((first | (go_at_call 80; exact calm_call (rleast_ _)) | (go_at_call 81; exact calm_call (rmost_ _)) | (go_at_call 79; exact calm_call (rbytes_ _ _ ‹_› ‹_›)))) | quiet_step ((first | (go_at_call 80; exact calm_call (rleast_ _)) | (go_at_call 81; exact calm_call (rmost_ _)) | (go_at_call 79; exact calm_call (rbytes_ _ _ ‹_› ‹_›)))))
             refine wpQuiet_nil ?_; intro u; have hzu := u.below.size; try simp at hzu))
        go_ret
        refine ⟨by first | rfl | exact ret_int e.symm, ?_⟩
        repeat (first | exact gr0 _ | refine gr1 ?_ _ | refine gr2 ?_ (Later.below _) | refine gr2 ?_ (by assumption) | refine gr3 ?_ | refine gr4 ?_ (by first | (simp; done) | (simp; omega) | omega) _)

def slotI (x y m i c : Int) : Int := if roomI x y m i c = 0 then 0 else roomI x y m i c + 2
theorem room_in (x y m i c : Int) : 0 ≤ roomI x y m i c ∧ roomI x y m i c ≤ 2000000000 := by
  by_cases h : intervalsI x y m i = 0 ∨ c < 0 ∨ 3 < c
  · unfold roomI; rw [if_pos h]; omega
  · have hi := intervals_pos (x := x) (y := y) (m := m) (i := i) (by omega)
    obtain ⟨⟨r1, r2⟩, ⟨r3, r4⟩, r5, r6⟩ := room_parts (x := x) (y := y) (m := m) hi (c := c) (by omega)
    unfold roomI; rw [if_neg h]; omega
def reserveI (m k f : Int) : Int := if k < 0 ∨ f ≤ k ∨ 8388608 < f ∨ partsN m = 0 then 0 else 24 * (f - k)

set_option maxHeartbeats 2000000 in
theorem slot_ (x y m q i c : Int) (w : World) :
    Calls Try.prog 38 #[.agg #[.int .i64 x, .int .i64 y, .int .i64 m, .int .i64 q, .int .i64 i, .int .i64 c]] w fun e w' => e = .returned (.int .i64 (slotI x y m i c)) ∧ Below w.heap.size w w' := by
  have hr := room_in x y m i c
  have kw : wrap64 (roomI x y m i c + 2) = roomI x y m i c + 2 := w64 (by omega) (by omega)
  by_cases h0 : roomI x y m i c = 0
  · have e : slotI x y m i c = 0 := by unfold slotI; rw [if_pos h0]
    go_enter Try.func38, Try.ntmps38
    go_wp2_with (first
      | (go_at_call 36; refine (room_ _ _ _ _ _ _ _).mono ?_; rintro e W1 ⟨rfl, hb1⟩; obtain ⟨hc1, hf1, hz1⟩ := bcell hb1; try simp at hz1)
      | (refine wp_region_calm (by kernel_rfl) (by kernel_rfl) ?_; repeat (first | go_big_quiet_step ((first | (go_at_call 36; exact calm_call (room_ _ _ _ _ _ _ _)))) | quiet_step ((first | (go_at_call 36; exact calm_call (room_ _ _ _ _ _ _ _)))))
         refine wpQuiet_nil ?_; intro u; have hzu := u.below.size; try simp at hzu))
    all_goals go_ret
    all_goals refine ⟨by first | rfl | exact ret_int e.symm, ?_⟩
    all_goals (repeat (first | exact gr0 _ | refine gr1 ?_ _ | refine gr2 ?_ (Later.below _) | refine gr2 ?_ (by assumption) | refine gr3 ?_ | refine gr4 ?_ (by first | (simp; done) | (simp; omega) | omega) _))
  · skip
    have e : slotI x y m i c = roomI x y m i c + 2 := by unfold slotI; rw [if_neg h0]
    have h1 : 0 < roomI x y m i c := by omega
    go_enter Try.func38, Try.ntmps38
    go_wp2_with (first
      | (go_at_call 36; refine (room_ _ _ _ _ _ _ _).mono ?_; rintro e W1 ⟨rfl, hb1⟩; obtain ⟨hc1, hf1, hz1⟩ := bcell hb1; try simp at hz1)
      | (refine wp_region_calm (by kernel_rfl) (by kernel_rfl) ?_; repeat (first | go_big_quiet_step ((first | (go_at_call 36; exact calm_call (room_ _ _ _ _ _ _ _)))) | quiet_step ((first | (go_at_call 36; exact calm_call (room_ _ _ _ _ _ _ _)))))
         refine wpQuiet_nil ?_; intro u; have hzu := u.below.size; try simp at hzu))
    all_goals go_ret
    all_goals refine ⟨by first | rfl | exact ret_int e.symm, ?_⟩
    all_goals (repeat (first | exact gr0 _ | refine gr1 ?_ _ | refine gr2 ?_ (Later.below _) | refine gr2 ?_ (by assumption) | refine gr3 ?_ | refine gr4 ?_ (by first | (simp; done) | (simp; omega) | omega) _))

set_option maxHeartbeats 2000000 in
theorem rslot_ (x y m q i c : Int) (w : World) :
    Calls Try.prog 54 #[.agg #[.int .i64 x, .int .i64 y, .int .i64 m, .int .i64 q, .int .i64 i, .int .i64 c]] w fun e w' => e = .returned (.int .i64 (slotI x y m i c)) ∧ Below w.heap.size w w' := by
  have hr := room_in x y m i c
  have kw : wrap64 (roomI x y m i c + 2) = roomI x y m i c + 2 := w64 (by omega) (by omega)
  by_cases h0 : roomI x y m i c = 0
  · have e : slotI x y m i c = 0 := by unfold slotI; rw [if_pos h0]
    go_enter Try.func54, Try.ntmps54
    go_wp2_with (first
      | (go_at_call 55; refine (rroom_ _ _ _ _ _ _ _).mono ?_; rintro e W1 ⟨rfl, hb1⟩; obtain ⟨hc1, hf1, hz1⟩ := bcell hb1; try simp at hz1)
      | (refine wp_region_calm (by kernel_rfl) (by kernel_rfl) ?_; repeat (first | go_big_quiet_step ((first | (go_at_call 55; exact calm_call (rroom_ _ _ _ _ _ _ _)))) | quiet_step ((first | (go_at_call 55; exact calm_call (rroom_ _ _ _ _ _ _ _)))))
         refine wpQuiet_nil ?_; intro u; have hzu := u.below.size; try simp at hzu))
    all_goals go_ret
    all_goals refine ⟨by first | rfl | exact ret_int e.symm, ?_⟩
    all_goals (repeat (first | exact gr0 _ | refine gr1 ?_ _ | refine gr2 ?_ (Later.below _) | refine gr2 ?_ (by assumption) | refine gr3 ?_ | refine gr4 ?_ (by first | (simp; done) | (simp; omega) | omega) _))
  · skip
    have e : slotI x y m i c = roomI x y m i c + 2 := by unfold slotI; rw [if_neg h0]
    have h1 : 0 < roomI x y m i c := by omega
    go_enter Try.func54, Try.ntmps54
    go_wp2_with (first
      | (go_at_call 55; refine (rroom_ _ _ _ _ _ _ _).mono ?_; rintro e W1 ⟨rfl, hb1⟩; obtain ⟨hc1, hf1, hz1⟩ := bcell hb1; try simp at hz1)
      | (refine wp_region_calm (by kernel_rfl) (by kernel_rfl) ?_; repeat (first | go_big_quiet_step ((first | (go_at_call 55; exact calm_call (rroom_ _ _ _ _ _ _ _)))) | quiet_step ((first | (go_at_call 55; exact calm_call (rroom_ _ _ _ _ _ _ _)))))
         refine wpQuiet_nil ?_; intro u; have hzu := u.below.size; try simp at hzu))
    all_goals go_ret
    all_goals refine ⟨by first | rfl | exact ret_int e.symm, ?_⟩
    all_goals (repeat (first | exact gr0 _ | refine gr1 ?_ _ | refine gr2 ?_ (Later.below _) | refine gr2 ?_ (by assumption) | refine gr3 ?_ | refine gr4 ?_ (by first | (simp; done) | (simp; omega) | omega) _))

end Go.Proofs.Ytdpiikpodcanjaa
