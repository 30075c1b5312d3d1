/- PlaneCounts: the walk: it returns true. -/
import Derived.Test.YtgegmlhpdpdnfaaImg7
import Derived.Test.YtgegmlhpdpdnfaaLawh
namespace Go.Proofs.Ytgegmlhpdpdnfaa
open Go.RowKit
set_option maxRecDepth 100000 in
set_option maxHeartbeats 4000000 in
theorem walk_PlaneCounts (a b d : Int) (v : Value) (nc : Nat) (C : Nat → Int) (w : World) (H : Nums .u8 v nc C w) (hnm : nc ≤ 9223372036854775807) (ba : 0 ≤ a ∧ a ≤ 255) (bb : 0 ≤ b ∧ b ≤ 255) (bd : 0 ≤ d ∧ d ≤ 255) :
    Calls Try.prog 7 #[.int .u8 a, .int .u8 b, .int .u8 d, v] w fun e w' => e = .returned (.bool true) ∧ Below w.heap.size w w' := by
  obtain ⟨x, hxe⟩ : ∃ x, 1 + a % 40 = x := ⟨_, rfl⟩
  obtain ⟨y, hye⟩ : ∃ y, 1 + b % 24 = y := ⟨_, rfl⟩
  obtain ⟨m, hme⟩ : ∃ m, 1 + d % 4 = m := ⟨_, rfl⟩
  have HP : Hid2 (∀ W, Calls Try.prog 15 #[.int .u8 a, .int .u8 b, .int .u8 d] W fun e w' => e = .returned (.agg #[.int .i64 x, .int .i64 y, .int .i64 m, .int .i64 50, .int .i64 1, .int .i64 0]) ∧ Below W.heap.size W w') := by
    intro W
    have h := Public_ a b d ba bb bd W
    rwa [hxe, hye, hme] at h
  have hx : 1 ≤ x ∧ x ≤ 40 := by omega
  have hy : 1 ≤ y ∧ y ≤ 24 := by omega
  have hm : m = 1 ∨ m = 2 ∨ m = 3 ∨ m = 4 := by omega
  clear hxe hye hme ba bb bd
  rcases hm with rfl | rfl | rfl | rfl
  · have hg : gridOk x y 1 := ⟨by decide, ⟨hx.1, by omega⟩, hy.1, by omega⟩
    have hw : sideW 1 = 8 ∧ sideH 1 = 8 := by decide
    obtain ⟨hw1, hw2⟩ := hw
    obtain ⟨A, hA, A1, A2, A3⟩ := ceil_ok (n := x) (d := 8) hx.1 (by omega) (by omega) (by omega)
    obtain ⟨B, hB, B1, B2, B3⟩ := ceil_ok (n := y) (d := 8) hy.1 (by omega) (by omega) (by omega)
    have hga : gridA x y 1 = A := by rw [(grid_ok hg).1, hw1, hA]
    have hgb : gridB x y 1 = B := by rw [(grid_ok hg).2, hw2, hB]
    have hxy : 1 ≤ x * y ∧ x * y ≤ 960 := ⟨by have := Int.mul_le_mul hx.1 hy.1 (by omega) (by omega); omega, by have := Int.mul_le_mul hx.2 hy.2 (by omega) (by omega); omega⟩
    obtain ⟨N, hN⟩ : ∃ N : Nat, (N : Int) = x * y := ⟨(x * y).toNat, by omega⟩
    obtain ⟨T, hT⟩ : ∃ T : Nat, (A : Int) * B = T := ⟨A * B, by simp⟩
    have hT1 : 1 ≤ T ∧ T ≤ 960 := by
      have h1 := Int.mul_le_mul (show (1 : Int) ≤ A by omega) (show (1 : Int) ≤ B by omega) (by omega) (by omega)
      have h2 := Int.mul_le_mul (show (A : Int) ≤ 40 by omega) (show (B : Int) ≤ 24 by omega) (by omega) (by omega)
      omega
    have HG : Hid2 (∀ W, Calls Try.prog 11 #[.agg #[.int .i64 x, .int .i64 y, .int .i64 1, .int .i64 50, .int .i64 1, .int .i64 0]] W fun e w' => e = .returned (.tuple #[.int .i64 A, .int .i64 B]) ∧ Below W.heap.size W w') := fun W => by have h := Grid_ x y 1 50 1 0 W; rwa [hga, hgb] at h
    have HS : Hid2 (∀ W, Calls Try.prog 20 #[.int .i64 1] W fun e w' => e = .returned (.tuple #[.int .i64 8, .int .i64 8]) ∧ Below W.heap.size W w') := fun W => by have h := Side_ 1 W; rwa [hw1, hw2] at h
    have HI : Hid2 (∀ (W : World), Nums .u8 v nc C W → Calls Try.prog 16 #[.agg #[.int .i64 x, .int .i64 y, .int .i64 1, .int .i64 50, .int .i64 1, .int .i64 0], v] W fun e w' => ∃ g cap, e = .returned (.agg #[.int .i64 x, .int .i64 y, .bool false, .slice (some ⟨g, 0, none⟩) N cap]) ∧ Below W.heap.size W w' ∧ w'.ownsRow W.heap.size 5 1 (.slice (some ⟨g, 0, none⟩) N cap) N (rowU (imgI nc C) N)) := fun W h => Image_ 50 1 0 hx hy (by simpa using hN) hnm W h
    obtain ⟨M, hM⟩ : ∃ M, splitM x y 1 (partF 1 (imgI nc C)) A T = M := ⟨_, rfl⟩
    have hMl : M.length = T := by rw [← hM]; exact splitM_len _ _ _ _ _ _
    have hMk : Hid2 (∀ bs ∈ M, bs.length = 1) := by rw [← hM]; exact split_len1
    have HSP : Hid2 (∀ (W : World) (g cap : Nat), g < W.heap.size → (∀ k, k < N → W.cell? ⟨g, k, none⟩ = some (.int .u8 (imgI nc C k))) → Calls Try.prog 17 #[.agg #[.int .i64 x, .int .i64 y, .int .i64 1, .int .i64 50, .int .i64 1, .int .i64 0], .agg #[.int .i64 x, .int .i64 y, .bool false, .slice (some ⟨g, 0, none⟩) N cap]] W fun e w' => ∃ u, e = .returned u ∧ Below W.heap.size W w' ∧ RM w' u M) := fun W g cap h1 h2 => by
      have h := Split_ (q := 50) (i := 1) (c := 0) (rgb := false) (pc := cap) hg (by omega) (N := N) (by simpa using hN) (by decide) W h1 h2 (fun k => imgI_bd nc C k)
      rw [hga, hgb, hT] at h
      simp only [Int.toNat_natCast] at h
      rwa [hM] at h
    have a9 : (A : Int) ≤ 40 ∧ (B : Int) ≤ 24 := by omega
    clear hM hga hgb hA hB hg hw1 hw2 hN hxy hx hy
    go_enter Try.func7, Try.ntmps7
    go_wp2_with (first
      | (go_at_call 15; refine (HP.out _).mono ?_; rintro e WP ⟨rfl, hbP⟩; have hzP := hbP.size)
      | (refine wpList_store_row rfl _ _ _ rfl WP.heap.size #[.int .i64 x, .int .i64 y, .int .i64 1, .int .i64 50, .int .i64 1, .int .i64 0] rfl rfl 23 #[.int .i64 0, .int .i64 0, .int .i64 0, .int .i64 0, .int .i64 0, .int .i64 0] (heap_alloc_new _ _) (by kernel_rfl) rfl rfl ?_; rw [World.setRow_alloc_new])
      | (go_at_call 11; refine (HG.out _).mono ?_; rintro e W3 ⟨rfl, hb3⟩; obtain ⟨hc3, hf3, hz3⟩ := bcell hb3; try simp at hz3)
      | (go_at_call 20; refine (HS.out _).mono ?_; rintro e W4 ⟨rfl, hb4⟩; obtain ⟨hc4, hf4, hz4⟩ := bcell hb4; try simp at hz4))
    have HW : Hid2 (Below w.heap.size w W4.drew ∧ W4.drew.heap[WP.heap.size]? = some (.cells #[.int .i64 x, .int .i64 y, .int .i64 1, .int .i64 50, .int .i64 1, .int .i64 0] 23 (0, 0)) ∧ Nums .u8 v nc C W4.drew) := hid2 ⟨gr3 (gr2 (gr2 (gr1 hbP _) hb3) hb4), bh7 hb4 (bh7 hb3 (heap_alloc_new _ _)), H.below (gr3 (gr2 (gr2 (gr1 hbP _) hb3) hb4))⟩
    clear hb3 hb4 hc3 hf3 hz3 hc4 hf4 hz4
    refine wp_region_noPanic ?_
    refine wp_region_sched 6 [(0, true), (1, true), (2, true), (3, false), (4, false), (5, true)] (fun w' => w'.heap[WP.heap.size]? = some (.cells #[.int .i64 x, .int .i64 y, .int .i64 1, .int .i64 50, .int .i64 1, .int .i64 0] 23 (0, 0))) (by kernel_rfl) (by kernel_rfl) HW.out.2.1 (fun _ _ _ _ _ h => h) ?_
    refine sched_still (by rfl) (by rfl) (by
        intro w' hC
        have k0 := cells_at hC 0; have k1 := cells_at hC 1; have k2 := cells_at hC 2; have k3 := cells_at hC 3; have k4 := cells_at hC 4; have k5 := cells_at hC 5
        simp at k0 k1 k2 k3 k4 k5
        go_simp; all_goals with_reducible rfl) ?_
    simp only [Act.put, List.setIfInBounds_toArray, List.getElem_toArray, List.getElem_cons_zero, List.set_cons_succ, List.set_cons_zero]
    refine sched_still (by rfl) (by rfl) (by
        intro w' hC
        have k0 := cells_at hC 0; have k1 := cells_at hC 1; have k2 := cells_at hC 2; have k3 := cells_at hC 3; have k4 := cells_at hC 4; have k5 := cells_at hC 5
        simp at k0 k1 k2 k3 k4 k5
        go_simp; all_goals with_reducible rfl) ?_
    simp only [Act.put, List.setIfInBounds_toArray, List.getElem_toArray, List.getElem_cons_succ, List.getElem_cons_zero, List.set_cons_succ, List.set_cons_zero]
    refine sched_still (by rfl) (by rfl) (by (intro w' hC; go_simp; all_goals with_reducible rfl)) ?_
    simp only [Act.put, List.setIfInBounds_toArray, List.getElem_toArray, List.getElem_cons_succ, List.getElem_cons_zero, List.set_cons_succ, List.set_cons_zero]
    refine sched_go (by rfl) fun K hK => ?_
    go_simp
    go_at_call 16
    refine (HI.out _ HW.out.2.2).mono ?_
    rintro e W5 ⟨gi, ci, rfl, hb5, own5⟩
    have h5 := bh7 hb5 HW.out.2.1
    have g5 := (own5.lt gi rfl).2
    have c5 : ∀ k, k < N → W5.cell? ⟨gi, k, none⟩ = some (.int .u8 (imgI nc C k)) := fun k hk => own_cell own5 (by simp [rowU, hk])
    refine hK.out _ _ (fun _ => h5) ?_
    refine sched_go (by rfl) fun K hK => ?_
    go_simp
    go_at_call 17
    refine (HSP.out W5 gi ci g5 c5).mono ?_
    rintro e W6 ⟨v6, rfl, hb6, HR6⟩
    obtain ⟨gv, ov, cv, hv6, hgv, hrv⟩ := id HR6
    rw [hMl] at hv6
    subst hv6
    have h6 := bh7 hb6 h5
    refine hK.out _ _ (fun _ => h6) ?_
    refine sched_still (by rfl) (by rfl) (by (intro w' hC; go_simp; all_goals with_reducible rfl)) ?_
    simp only [Act.put, List.setIfInBounds_toArray, List.getElem_toArray, List.getElem_cons_succ, List.getElem_cons_zero, List.set_cons_succ, List.set_cons_zero]
    refine sched_nil (NoPanic.normal ?_)
    have HRM := hid2 HR6
    have HB6 := hid2 (gr2 (gr2 HW.out.1 hb5) hb6)
    have H6 := hid2 h6
    have k6 := cells_at h6 0
    have k7 := cells_at h6 1
    have k8 := cells_at h6 2
    have y6 := heap_lt h6
    simp at k6 k7 k8
    clear HR6 hgv hrv hb5 hb6 h5 g5 c5 own5 h6 hK K
    go_wp2_with (first
      | (go_at_call 21; refine (sides_1 _).mono ?_; rintro e W7 ⟨g7, rfl, hb7, hg7, hh7⟩; obtain ⟨hc7, hf7, hz7, hl7⟩ := ncell hb7 hg7 hh7; try simp at hz7; try simp at hg7))
    refine wp_loop_rounds 2 ?_
    rw [rounds_succ]
    go_wp2_with (first
      | (refine wp_region_calm (by kernel_rfl) (by kernel_rfl) ?_; repeat (first | go_big_quiet_step (fail) | quiet_step (fail))
         refine wpQuiet_nil ?_; intro u; have hzu := u.below.size; try simp at hzu))
    rw [rounds_succ]
    go_wp2_with (first
      | (refine wp_region_calm (by kernel_rfl) (by kernel_rfl) ?_; repeat (first | go_big_quiet_step (fail) | quiet_step (fail))
         refine wpQuiet_nil ?_; intro u; have hzu := u.below.size; try simp at hzu))
    refine wp_abs7 (fun W => Below w.heap.size w W ∧ RM W (.slice (some ⟨gv, ov, none⟩) T cv) M ∧ W.heap[WP.heap.size]? = some (.cells #[.int .i64 x, .int .i64 y, .int .i64 1, .int .i64 50, .int .i64 1, .int .i64 0] 23 (0, 0))) ⟨?_, HRM.out.below ?_, bh7 ?_ H6.out⟩ ?_
    · refine HB6.out.trans (Below.mono ?_ HB6.out.size)
      repeat (first | exact gr0 _ | refine gr1 ?_ _ | refine gr2 ?_ (Later.below _) | refine gr2 ?_ (by assumption) | refine gr3 ?_ | refine gr4 ?_ (by first | (simp; done) | (simp; omega) | omega) _)
    · repeat (first | exact gr0 _ | refine gr1 ?_ _ | refine gr2 ?_ (Later.below _) | refine gr2 ?_ (by assumption) | refine gr3 ?_ | refine gr4 ?_ (by first | (simp; done) | (simp; omega) | omega) _)
    · repeat (first | exact gr0 _ | refine gr1 ?_ _ | refine gr2 ?_ (Later.below _) | refine gr2 ?_ (by assumption) | refine gr3 ?_ | refine gr4 ?_ (by first | (simp; done) | (simp; omega) | omega) _)
    clear hb7 hg7 hh7 hc7 hf7 hz7 hl7 HRM HB6 H6 k6 k7 k8 y6 HW
    rintro W8 ⟨HB8, HR8, H8⟩
    have k6 := cells_at H8 0
    have k7 := cells_at H8 1
    have y6 := heap_lt H8
    simp at k6 k7
    have HRM := hid2 HR8
    have HBB := hid2 HB8
    clear HR8 HB8 H8
    go_loopg [18] T (fun gj ix wr => ∃ jj : Nat, jj + gj = T ∧ ix = .int .i64 jj ∧ Below W8.heap.size W8 wr)
    case atStart => exact ⟨0, by omega, rfl, gr0 _⟩
    case round =>
      obtain ⟨jj, hjj, rfl, HB⟩ := hrel
      by_cases hlt : jj < T
      · have t1 : decide ((jj : Int) < T) = true := by simp; omega
        have i9 : (0 : Int) ≤ jj ∧ (jj : Int) < T := by omega
        obtain ⟨g5, o5, c5, h5, hgv, hrv⟩ := HRM.out.below HB
        obtain ⟨bs, hbs⟩ : ∃ bs, M[jj]? = some bs := ⟨_, List.getElem?_eq_getElem (by omega)⟩
        obtain ⟨u5, q5, gu, cu, rfl, hgu, hcu⟩ := hrv jj bs hbs
        rw [hMk.out bs (List.mem_of_getElem? hbs)] at q5
        cases h5
        clear hcu
        go_wp2
        go_roundg (M.length - (jj + 1))
        case measure => omega
        case rel => exact ⟨jj + 1, by omega, by go_num, HB⟩
      · have t1 : decide ((jj : Int) < T) = false := by simp; omega
        have d1 : decide (x ≤ (A : Int) * 8) = true := by simp; omega
        have d2 : decide (((A : Int) - 1) * 8 < x) = true := by simp; omega
        have d3 : decide (y ≤ (B : Int) * 8) = true := by simp; omega
        have d4 : decide (((B : Int) - 1) * 8 < y) = true := by simp; omega
        have q6 := (HB.cell (p := ⟨WP.heap.size, 0, none⟩) y6).trans k6
        have q7 := (HB.cell (p := ⟨WP.heap.size, 1, none⟩) y6).trans k7
        have q9 := Nat.lt_of_lt_of_le y6 HB.size
        have hT2 : ∀ c : Int, c = B → (A : Int) * c = T := by rintro c rfl; exact hT
        have HB3 := hid2 (HBB.out.trans (HB.mono HBB.out.size))
        clear HB k6 k7 y6 A2 A3 B2 B3 hT
        go_wp2_with (first
          | (go_at_call 13; refine (known07 _).mono ?_; rintro e W9 ⟨rfl, hb9⟩; obtain ⟨hc9, hf9, hz9⟩ := bcell hb9; try simp at hz9))
        go_ret
        exact ⟨rfl, gr2 HB3.out hb9⟩
  · have hg : gridOk x y 2 := ⟨by decide, ⟨hx.1, by omega⟩, hy.1, by omega⟩
    have hw : sideW 2 = 8 ∧ sideH 2 = 8 := by decide
    obtain ⟨hw1, hw2⟩ := hw
    obtain ⟨A, hA, A1, A2, A3⟩ := ceil_ok (n := x) (d := 8) hx.1 (by omega) (by omega) (by omega)
    obtain ⟨B, hB, B1, B2, B3⟩ := ceil_ok (n := y) (d := 8) hy.1 (by omega) (by omega) (by omega)
    have hga : gridA x y 2 = A := by rw [(grid_ok hg).1, hw1, hA]
    have hgb : gridB x y 2 = B := by rw [(grid_ok hg).2, hw2, hB]
    have hxy : 1 ≤ x * y ∧ x * y ≤ 960 := ⟨by have := Int.mul_le_mul hx.1 hy.1 (by omega) (by omega); omega, by have := Int.mul_le_mul hx.2 hy.2 (by omega) (by omega); omega⟩
    obtain ⟨N, hN⟩ : ∃ N : Nat, (N : Int) = 3 * (x * y) := ⟨(3 * (x * y)).toNat, by omega⟩
    obtain ⟨T, hT⟩ : ∃ T : Nat, (A : Int) * B = T := ⟨A * B, by simp⟩
    have hT1 : 1 ≤ T ∧ T ≤ 960 := by
      have h1 := Int.mul_le_mul (show (1 : Int) ≤ A by omega) (show (1 : Int) ≤ B by omega) (by omega) (by omega)
      have h2 := Int.mul_le_mul (show (A : Int) ≤ 40 by omega) (show (B : Int) ≤ 24 by omega) (by omega) (by omega)
      omega
    have HG : Hid2 (∀ W, Calls Try.prog 11 #[.agg #[.int .i64 x, .int .i64 y, .int .i64 2, .int .i64 50, .int .i64 1, .int .i64 0]] W fun e w' => e = .returned (.tuple #[.int .i64 A, .int .i64 B]) ∧ Below W.heap.size W w') := fun W => by have h := Grid_ x y 2 50 1 0 W; rwa [hga, hgb] at h
    have HS : Hid2 (∀ W, Calls Try.prog 20 #[.int .i64 2] W fun e w' => e = .returned (.tuple #[.int .i64 8, .int .i64 8]) ∧ Below W.heap.size W w') := fun W => by have h := Side_ 2 W; rwa [hw1, hw2] at h
    have HI : Hid2 (∀ (W : World), Nums .u8 v nc C W → Calls Try.prog 16 #[.agg #[.int .i64 x, .int .i64 y, .int .i64 2, .int .i64 50, .int .i64 1, .int .i64 0], v] W fun e w' => ∃ g cap, e = .returned (.agg #[.int .i64 x, .int .i64 y, .bool true, .slice (some ⟨g, 0, none⟩) N cap]) ∧ Below W.heap.size W w' ∧ w'.ownsRow W.heap.size 5 1 (.slice (some ⟨g, 0, none⟩) N cap) N (rowU (imgI nc C) N)) := fun W h => Image_ 50 1 0 hx hy (by simpa using hN) hnm W h
    obtain ⟨M, hM⟩ : ∃ M, splitM x y 2 (partF 2 (imgI nc C)) A T = M := ⟨_, rfl⟩
    have hMl : M.length = T := by rw [← hM]; exact splitM_len _ _ _ _ _ _
    have hMk : Hid2 (∀ bs ∈ M, bs.length = 3) := by rw [← hM]; exact split_len2
    have HSP : Hid2 (∀ (W : World) (g cap : Nat), g < W.heap.size → (∀ k, k < N → W.cell? ⟨g, k, none⟩ = some (.int .u8 (imgI nc C k))) → Calls Try.prog 17 #[.agg #[.int .i64 x, .int .i64 y, .int .i64 2, .int .i64 50, .int .i64 1, .int .i64 0], .agg #[.int .i64 x, .int .i64 y, .bool true, .slice (some ⟨g, 0, none⟩) N cap]] W fun e w' => ∃ u, e = .returned u ∧ Below W.heap.size W w' ∧ RM w' u M) := fun W g cap h1 h2 => by
      have h := Split_ (q := 50) (i := 1) (c := 0) (rgb := true) (pc := cap) hg (by omega) (N := N) (by simpa using hN) (by decide) W h1 h2 (fun k => imgI_bd nc C k)
      rw [hga, hgb, hT] at h
      simp only [Int.toNat_natCast] at h
      rwa [hM] at h
    have a9 : (A : Int) ≤ 40 ∧ (B : Int) ≤ 24 := by omega
    clear hM hga hgb hA hB hg hw1 hw2 hN hxy hx hy
    go_enter Try.func7, Try.ntmps7
    go_wp2_with (first
      | (go_at_call 15; refine (HP.out _).mono ?_; rintro e WP ⟨rfl, hbP⟩; have hzP := hbP.size)
      | (refine wpList_store_row rfl _ _ _ rfl WP.heap.size #[.int .i64 x, .int .i64 y, .int .i64 2, .int .i64 50, .int .i64 1, .int .i64 0] rfl rfl 23 #[.int .i64 0, .int .i64 0, .int .i64 0, .int .i64 0, .int .i64 0, .int .i64 0] (heap_alloc_new _ _) (by kernel_rfl) rfl rfl ?_; rw [World.setRow_alloc_new])
      | (go_at_call 11; refine (HG.out _).mono ?_; rintro e W3 ⟨rfl, hb3⟩; obtain ⟨hc3, hf3, hz3⟩ := bcell hb3; try simp at hz3)
      | (go_at_call 20; refine (HS.out _).mono ?_; rintro e W4 ⟨rfl, hb4⟩; obtain ⟨hc4, hf4, hz4⟩ := bcell hb4; try simp at hz4))
    have HW : Hid2 (Below w.heap.size w W4.drew ∧ W4.drew.heap[WP.heap.size]? = some (.cells #[.int .i64 x, .int .i64 y, .int .i64 2, .int .i64 50, .int .i64 1, .int .i64 0] 23 (0, 0)) ∧ Nums .u8 v nc C W4.drew) := hid2 ⟨gr3 (gr2 (gr2 (gr1 hbP _) hb3) hb4), bh7 hb4 (bh7 hb3 (heap_alloc_new _ _)), H.below (gr3 (gr2 (gr2 (gr1 hbP _) hb3) hb4))⟩
    clear hb3 hb4 hc3 hf3 hz3 hc4 hf4 hz4
    refine wp_region_noPanic ?_
    refine wp_region_sched 6 [(0, true), (1, true), (2, true), (3, false), (4, false), (5, true)] (fun w' => w'.heap[WP.heap.size]? = some (.cells #[.int .i64 x, .int .i64 y, .int .i64 2, .int .i64 50, .int .i64 1, .int .i64 0] 23 (0, 0))) (by kernel_rfl) (by kernel_rfl) HW.out.2.1 (fun _ _ _ _ _ h => h) ?_
    refine sched_still (by rfl) (by rfl) (by
        intro w' hC
        have k0 := cells_at hC 0; have k1 := cells_at hC 1; have k2 := cells_at hC 2; have k3 := cells_at hC 3; have k4 := cells_at hC 4; have k5 := cells_at hC 5
        simp at k0 k1 k2 k3 k4 k5
        go_simp; all_goals with_reducible rfl) ?_
    simp only [Act.put, List.setIfInBounds_toArray, List.getElem_toArray, List.getElem_cons_zero, List.set_cons_succ, List.set_cons_zero]
    refine sched_still (by rfl) (by rfl) (by
        intro w' hC
        have k0 := cells_at hC 0; have k1 := cells_at hC 1; have k2 := cells_at hC 2; have k3 := cells_at hC 3; have k4 := cells_at hC 4; have k5 := cells_at hC 5
        simp at k0 k1 k2 k3 k4 k5
        go_simp; all_goals with_reducible rfl) ?_
    simp only [Act.put, List.setIfInBounds_toArray, List.getElem_toArray, List.getElem_cons_succ, List.getElem_cons_zero, List.set_cons_succ, List.set_cons_zero]
    refine sched_still (by rfl) (by rfl) (by (intro w' hC; go_simp; all_goals with_reducible rfl)) ?_
    simp only [Act.put, List.setIfInBounds_toArray, List.getElem_toArray, List.getElem_cons_succ, List.getElem_cons_zero, List.set_cons_succ, List.set_cons_zero]
    refine sched_go (by rfl) fun K hK => ?_
    go_simp
    go_at_call 16
    refine (HI.out _ HW.out.2.2).mono ?_
    rintro e W5 ⟨gi, ci, rfl, hb5, own5⟩
    have h5 := bh7 hb5 HW.out.2.1
    have g5 := (own5.lt gi rfl).2
    have c5 : ∀ k, k < N → W5.cell? ⟨gi, k, none⟩ = some (.int .u8 (imgI nc C k)) := fun k hk => own_cell own5 (by simp [rowU, hk])
    refine hK.out _ _ (fun _ => h5) ?_
    refine sched_go (by rfl) fun K hK => ?_
    go_simp
    go_at_call 17
    refine (HSP.out W5 gi ci g5 c5).mono ?_
    rintro e W6 ⟨v6, rfl, hb6, HR6⟩
    obtain ⟨gv, ov, cv, hv6, hgv, hrv⟩ := id HR6
    rw [hMl] at hv6
    subst hv6
    have h6 := bh7 hb6 h5
    refine hK.out _ _ (fun _ => h6) ?_
    refine sched_still (by rfl) (by rfl) (by (intro w' hC; go_simp; all_goals with_reducible rfl)) ?_
    simp only [Act.put, List.setIfInBounds_toArray, List.getElem_toArray, List.getElem_cons_succ, List.getElem_cons_zero, List.set_cons_succ, List.set_cons_zero]
    refine sched_nil (NoPanic.normal ?_)
    have HRM := hid2 HR6
    have HB6 := hid2 (gr2 (gr2 HW.out.1 hb5) hb6)
    have H6 := hid2 h6
    have k6 := cells_at h6 0
    have k7 := cells_at h6 1
    have k8 := cells_at h6 2
    have y6 := heap_lt h6
    simp at k6 k7 k8
    clear HR6 hgv hrv hb5 hb6 h5 g5 c5 own5 h6 hK K
    go_wp2_with (first
      | (go_at_call 21; refine (sides_2 _).mono ?_; rintro e W7 ⟨g7, rfl, hb7, hg7, hh7⟩; obtain ⟨hc7, hf7, hz7, hl7⟩ := ncell hb7 hg7 hh7; try simp at hz7; try simp at hg7))
    refine wp_loop_rounds 4 ?_
    rw [rounds_succ]
    go_wp2_with (first
      | (refine wp_region_calm (by kernel_rfl) (by kernel_rfl) ?_; repeat (first | go_big_quiet_step (fail) | quiet_step (fail))
         refine wpQuiet_nil ?_; intro u; have hzu := u.below.size; try simp at hzu))
    rw [rounds_succ]
    go_wp2_with (first
      | (refine wp_region_calm (by kernel_rfl) (by kernel_rfl) ?_; repeat (first | go_big_quiet_step (fail) | quiet_step (fail))
         refine wpQuiet_nil ?_; intro u; have hzu := u.below.size; try simp at hzu))
    rw [rounds_succ]
    go_wp2_with (first
      | (refine wp_region_calm (by kernel_rfl) (by kernel_rfl) ?_; repeat (first | go_big_quiet_step (fail) | quiet_step (fail))
         refine wpQuiet_nil ?_; intro u; have hzu := u.below.size; try simp at hzu))
    rw [rounds_succ]
    go_wp2_with (first
      | (refine wp_region_calm (by kernel_rfl) (by kernel_rfl) ?_; repeat (first | go_big_quiet_step (fail) | quiet_step (fail))
         refine wpQuiet_nil ?_; intro u; have hzu := u.below.size; try simp at hzu))
    refine wp_abs7 (fun W => Below w.heap.size w W ∧ RM W (.slice (some ⟨gv, ov, none⟩) T cv) M ∧ W.heap[WP.heap.size]? = some (.cells #[.int .i64 x, .int .i64 y, .int .i64 2, .int .i64 50, .int .i64 1, .int .i64 0] 23 (0, 0))) ⟨?_, HRM.out.below ?_, bh7 ?_ H6.out⟩ ?_
    · refine HB6.out.trans (Below.mono ?_ HB6.out.size)
      repeat (first | exact gr0 _ | refine gr1 ?_ _ | refine gr2 ?_ (Later.below _) | refine gr2 ?_ (by assumption) | refine gr3 ?_ | refine gr4 ?_ (by first | (simp; done) | (simp; omega) | omega) _)
    · repeat (first | exact gr0 _ | refine gr1 ?_ _ | refine gr2 ?_ (Later.below _) | refine gr2 ?_ (by assumption) | refine gr3 ?_ | refine gr4 ?_ (by first | (simp; done) | (simp; omega) | omega) _)
    · repeat (first | exact gr0 _ | refine gr1 ?_ _ | refine gr2 ?_ (Later.below _) | refine gr2 ?_ (by assumption) | refine gr3 ?_ | refine gr4 ?_ (by first | (simp; done) | (simp; omega) | omega) _)
    clear hb7 hg7 hh7 hc7 hf7 hz7 hl7 HRM HB6 H6 k6 k7 k8 y6 HW
    rintro W8 ⟨HB8, HR8, H8⟩
    have k6 := cells_at H8 0
    have k7 := cells_at H8 1
    have y6 := heap_lt H8
    simp at k6 k7
    have HRM := hid2 HR8
    have HBB := hid2 HB8
    clear HR8 HB8 H8
    go_loopg [18] T (fun gj ix wr => ∃ jj : Nat, jj + gj = T ∧ ix = .int .i64 jj ∧ Below W8.heap.size W8 wr)
    case atStart => exact ⟨0, by omega, rfl, gr0 _⟩
    case round =>
      obtain ⟨jj, hjj, rfl, HB⟩ := hrel
      by_cases hlt : jj < T
      · have t1 : decide ((jj : Int) < T) = true := by simp; omega
        have i9 : (0 : Int) ≤ jj ∧ (jj : Int) < T := by omega
        obtain ⟨g5, o5, c5, h5, hgv, hrv⟩ := HRM.out.below HB
        obtain ⟨bs, hbs⟩ : ∃ bs, M[jj]? = some bs := ⟨_, List.getElem?_eq_getElem (by omega)⟩
        obtain ⟨u5, q5, gu, cu, rfl, hgu, hcu⟩ := hrv jj bs hbs
        rw [hMk.out bs (List.mem_of_getElem? hbs)] at q5
        cases h5
        clear hcu
        go_wp2
        go_roundg (M.length - (jj + 1))
        case measure => omega
        case rel => exact ⟨jj + 1, by omega, by go_num, HB⟩
      · have t1 : decide ((jj : Int) < T) = false := by simp; omega
        have d1 : decide (x ≤ (A : Int) * 8) = true := by simp; omega
        have d2 : decide (((A : Int) - 1) * 8 < x) = true := by simp; omega
        have d3 : decide (y ≤ (B : Int) * 8) = true := by simp; omega
        have d4 : decide (((B : Int) - 1) * 8 < y) = true := by simp; omega
        have q6 := (HB.cell (p := ⟨WP.heap.size, 0, none⟩) y6).trans k6
        have q7 := (HB.cell (p := ⟨WP.heap.size, 1, none⟩) y6).trans k7
        have q9 := Nat.lt_of_lt_of_le y6 HB.size
        have hT2 : ∀ c : Int, c = B → (A : Int) * c = T := by rintro c rfl; exact hT
        have HB3 := hid2 (HBB.out.trans (HB.mono HBB.out.size))
        clear HB k6 k7 y6 A2 A3 B2 B3 hT
        go_wp2_with (first
          | (go_at_call 13; refine (known07 _).mono ?_; rintro e W9 ⟨rfl, hb9⟩; obtain ⟨hc9, hf9, hz9⟩ := bcell hb9; try simp at hz9))
        go_ret
        exact ⟨rfl, gr2 HB3.out hb9⟩
  · have hg : gridOk x y 3 := ⟨by decide, ⟨hx.1, by omega⟩, hy.1, by omega⟩
    have hw : sideW 3 = 16 ∧ sideH 3 = 8 := by decide
    obtain ⟨hw1, hw2⟩ := hw
    obtain ⟨A, hA, A1, A2, A3⟩ := ceil_ok (n := x) (d := 16) hx.1 (by omega) (by omega) (by omega)
    obtain ⟨B, hB, B1, B2, B3⟩ := ceil_ok (n := y) (d := 8) hy.1 (by omega) (by omega) (by omega)
    have hga : gridA x y 3 = A := by rw [(grid_ok hg).1, hw1, hA]
    have hgb : gridB x y 3 = B := by rw [(grid_ok hg).2, hw2, hB]
    have hxy : 1 ≤ x * y ∧ x * y ≤ 960 := ⟨by have := Int.mul_le_mul hx.1 hy.1 (by omega) (by omega); omega, by have := Int.mul_le_mul hx.2 hy.2 (by omega) (by omega); omega⟩
    obtain ⟨N, hN⟩ : ∃ N : Nat, (N : Int) = 3 * (x * y) := ⟨(3 * (x * y)).toNat, by omega⟩
    obtain ⟨T, hT⟩ : ∃ T : Nat, (A : Int) * B = T := ⟨A * B, by simp⟩
    have hT1 : 1 ≤ T ∧ T ≤ 960 := by
      have h1 := Int.mul_le_mul (show (1 : Int) ≤ A by omega) (show (1 : Int) ≤ B by omega) (by omega) (by omega)
      have h2 := Int.mul_le_mul (show (A : Int) ≤ 40 by omega) (show (B : Int) ≤ 24 by omega) (by omega) (by omega)
      omega
    have HG : Hid2 (∀ W, Calls Try.prog 11 #[.agg #[.int .i64 x, .int .i64 y, .int .i64 3, .int .i64 50, .int .i64 1, .int .i64 0]] W fun e w' => e = .returned (.tuple #[.int .i64 A, .int .i64 B]) ∧ Below W.heap.size W w') := fun W => by have h := Grid_ x y 3 50 1 0 W; rwa [hga, hgb] at h
    have HS : Hid2 (∀ W, Calls Try.prog 20 #[.int .i64 3] W fun e w' => e = .returned (.tuple #[.int .i64 16, .int .i64 8]) ∧ Below W.heap.size W w') := fun W => by have h := Side_ 3 W; rwa [hw1, hw2] at h
    have HI : Hid2 (∀ (W : World), Nums .u8 v nc C W → Calls Try.prog 16 #[.agg #[.int .i64 x, .int .i64 y, .int .i64 3, .int .i64 50, .int .i64 1, .int .i64 0], v] W fun e w' => ∃ g cap, e = .returned (.agg #[.int .i64 x, .int .i64 y, .bool true, .slice (some ⟨g, 0, none⟩) N cap]) ∧ Below W.heap.size W w' ∧ w'.ownsRow W.heap.size 5 1 (.slice (some ⟨g, 0, none⟩) N cap) N (rowU (imgI nc C) N)) := fun W h => Image_ 50 1 0 hx hy (by simpa using hN) hnm W h
    obtain ⟨M, hM⟩ : ∃ M, splitM x y 3 (partF 3 (imgI nc C)) A T = M := ⟨_, rfl⟩
    have hMl : M.length = T := by rw [← hM]; exact splitM_len _ _ _ _ _ _
    have hMk : Hid2 (∀ bs ∈ M, bs.length = 4) := by rw [← hM]; exact split_len3
    have HSP : Hid2 (∀ (W : World) (g cap : Nat), g < W.heap.size → (∀ k, k < N → W.cell? ⟨g, k, none⟩ = some (.int .u8 (imgI nc C k))) → Calls Try.prog 17 #[.agg #[.int .i64 x, .int .i64 y, .int .i64 3, .int .i64 50, .int .i64 1, .int .i64 0], .agg #[.int .i64 x, .int .i64 y, .bool true, .slice (some ⟨g, 0, none⟩) N cap]] W fun e w' => ∃ u, e = .returned u ∧ Below W.heap.size W w' ∧ RM w' u M) := fun W g cap h1 h2 => by
      have h := Split_ (q := 50) (i := 1) (c := 0) (rgb := true) (pc := cap) hg (by omega) (N := N) (by simpa using hN) (by decide) W h1 h2 (fun k => imgI_bd nc C k)
      rw [hga, hgb, hT] at h
      simp only [Int.toNat_natCast] at h
      rwa [hM] at h
    have a9 : (A : Int) ≤ 40 ∧ (B : Int) ≤ 24 := by omega
    clear hM hga hgb hA hB hg hw1 hw2 hN hxy hx hy
    go_enter Try.func7, Try.ntmps7
    go_wp2_with (first
      | (go_at_call 15; refine (HP.out _).mono ?_; rintro e WP ⟨rfl, hbP⟩; have hzP := hbP.size)
      | (refine wpList_store_row rfl _ _ _ rfl WP.heap.size #[.int .i64 x, .int .i64 y, .int .i64 3, .int .i64 50, .int .i64 1, .int .i64 0] rfl rfl 23 #[.int .i64 0, .int .i64 0, .int .i64 0, .int .i64 0, .int .i64 0, .int .i64 0] (heap_alloc_new _ _) (by kernel_rfl) rfl rfl ?_; rw [World.setRow_alloc_new])
      | (go_at_call 11; refine (HG.out _).mono ?_; rintro e W3 ⟨rfl, hb3⟩; obtain ⟨hc3, hf3, hz3⟩ := bcell hb3; try simp at hz3)
      | (go_at_call 20; refine (HS.out _).mono ?_; rintro e W4 ⟨rfl, hb4⟩; obtain ⟨hc4, hf4, hz4⟩ := bcell hb4; try simp at hz4))
    have HW : Hid2 (Below w.heap.size w W4.drew ∧ W4.drew.heap[WP.heap.size]? = some (.cells #[.int .i64 x, .int .i64 y, .int .i64 3, .int .i64 50, .int .i64 1, .int .i64 0] 23 (0, 0)) ∧ Nums .u8 v nc C W4.drew) := hid2 ⟨gr3 (gr2 (gr2 (gr1 hbP _) hb3) hb4), bh7 hb4 (bh7 hb3 (heap_alloc_new _ _)), H.below (gr3 (gr2 (gr2 (gr1 hbP _) hb3) hb4))⟩
    clear hb3 hb4 hc3 hf3 hz3 hc4 hf4 hz4
    refine wp_region_noPanic ?_
    refine wp_region_sched 6 [(0, true), (1, true), (2, true), (3, false), (4, false), (5, true)] (fun w' => w'.heap[WP.heap.size]? = some (.cells #[.int .i64 x, .int .i64 y, .int .i64 3, .int .i64 50, .int .i64 1, .int .i64 0] 23 (0, 0))) (by kernel_rfl) (by kernel_rfl) HW.out.2.1 (fun _ _ _ _ _ h => h) ?_
    refine sched_still (by rfl) (by rfl) (by
        intro w' hC
        have k0 := cells_at hC 0; have k1 := cells_at hC 1; have k2 := cells_at hC 2; have k3 := cells_at hC 3; have k4 := cells_at hC 4; have k5 := cells_at hC 5
        simp at k0 k1 k2 k3 k4 k5
        go_simp; all_goals with_reducible rfl) ?_
    simp only [Act.put, List.setIfInBounds_toArray, List.getElem_toArray, List.getElem_cons_zero, List.set_cons_succ, List.set_cons_zero]
    refine sched_still (by rfl) (by rfl) (by
        intro w' hC
        have k0 := cells_at hC 0; have k1 := cells_at hC 1; have k2 := cells_at hC 2; have k3 := cells_at hC 3; have k4 := cells_at hC 4; have k5 := cells_at hC 5
        simp at k0 k1 k2 k3 k4 k5
        go_simp; all_goals with_reducible rfl) ?_
    simp only [Act.put, List.setIfInBounds_toArray, List.getElem_toArray, List.getElem_cons_succ, List.getElem_cons_zero, List.set_cons_succ, List.set_cons_zero]
    refine sched_still (by rfl) (by rfl) (by (intro w' hC; go_simp; all_goals with_reducible rfl)) ?_
    simp only [Act.put, List.setIfInBounds_toArray, List.getElem_toArray, List.getElem_cons_succ, List.getElem_cons_zero, List.set_cons_succ, List.set_cons_zero]
    refine sched_go (by rfl) fun K hK => ?_
    go_simp
    go_at_call 16
    refine (HI.out _ HW.out.2.2).mono ?_
    rintro e W5 ⟨gi, ci, rfl, hb5, own5⟩
    have h5 := bh7 hb5 HW.out.2.1
    have g5 := (own5.lt gi rfl).2
    have c5 : ∀ k, k < N → W5.cell? ⟨gi, k, none⟩ = some (.int .u8 (imgI nc C k)) := fun k hk => own_cell own5 (by simp [rowU, hk])
    refine hK.out _ _ (fun _ => h5) ?_
    refine sched_go (by rfl) fun K hK => ?_
    go_simp
    go_at_call 17
    refine (HSP.out W5 gi ci g5 c5).mono ?_
    rintro e W6 ⟨v6, rfl, hb6, HR6⟩
    obtain ⟨gv, ov, cv, hv6, hgv, hrv⟩ := id HR6
    rw [hMl] at hv6
    subst hv6
    have h6 := bh7 hb6 h5
    refine hK.out _ _ (fun _ => h6) ?_
    refine sched_still (by rfl) (by rfl) (by (intro w' hC; go_simp; all_goals with_reducible rfl)) ?_
    simp only [Act.put, List.setIfInBounds_toArray, List.getElem_toArray, List.getElem_cons_succ, List.getElem_cons_zero, List.set_cons_succ, List.set_cons_zero]
    refine sched_nil (NoPanic.normal ?_)
    have HRM := hid2 HR6
    have HB6 := hid2 (gr2 (gr2 HW.out.1 hb5) hb6)
    have H6 := hid2 h6
    have k6 := cells_at h6 0
    have k7 := cells_at h6 1
    have k8 := cells_at h6 2
    have y6 := heap_lt h6
    simp at k6 k7 k8
    clear HR6 hgv hrv hb5 hb6 h5 g5 c5 own5 h6 hK K
    go_wp2_with (first
      | (go_at_call 21; refine (sides_3 _).mono ?_; rintro e W7 ⟨g7, rfl, hb7, hg7, hh7⟩; obtain ⟨hc7, hf7, hz7, hl7⟩ := ncell hb7 hg7 hh7; try simp at hz7; try simp at hg7))
    refine wp_loop_rounds 4 ?_
    rw [rounds_succ]
    go_wp2_with (first
      | (refine wp_region_calm (by kernel_rfl) (by kernel_rfl) ?_; repeat (first | go_big_quiet_step (fail) | quiet_step (fail))
         refine wpQuiet_nil ?_; intro u; have hzu := u.below.size; try simp at hzu))
    rw [rounds_succ]
    go_wp2_with (first
      | (refine wp_region_calm (by kernel_rfl) (by kernel_rfl) ?_; repeat (first | go_big_quiet_step (fail) | quiet_step (fail))
         refine wpQuiet_nil ?_; intro u; have hzu := u.below.size; try simp at hzu))
    rw [rounds_succ]
    go_wp2_with (first
      | (refine wp_region_calm (by kernel_rfl) (by kernel_rfl) ?_; repeat (first | go_big_quiet_step (fail) | quiet_step (fail))
         refine wpQuiet_nil ?_; intro u; have hzu := u.below.size; try simp at hzu))
    rw [rounds_succ]
    go_wp2_with (first
      | (refine wp_region_calm (by kernel_rfl) (by kernel_rfl) ?_; repeat (first | go_big_quiet_step (fail) | quiet_step (fail))
         refine wpQuiet_nil ?_; intro u; have hzu := u.below.size; try simp at hzu))
    refine wp_abs7 (fun W => Below w.heap.size w W ∧ RM W (.slice (some ⟨gv, ov, none⟩) T cv) M ∧ W.heap[WP.heap.size]? = some (.cells #[.int .i64 x, .int .i64 y, .int .i64 3, .int .i64 50, .int .i64 1, .int .i64 0] 23 (0, 0))) ⟨?_, HRM.out.below ?_, bh7 ?_ H6.out⟩ ?_
    · refine HB6.out.trans (Below.mono ?_ HB6.out.size)
      repeat (first | exact gr0 _ | refine gr1 ?_ _ | refine gr2 ?_ (Later.below _) | refine gr2 ?_ (by assumption) | refine gr3 ?_ | refine gr4 ?_ (by first | (simp; done) | (simp; omega) | omega) _)
    · repeat (first | exact gr0 _ | refine gr1 ?_ _ | refine gr2 ?_ (Later.below _) | refine gr2 ?_ (by assumption) | refine gr3 ?_ | refine gr4 ?_ (by first | (simp; done) | (simp; omega) | omega) _)
    · repeat (first | exact gr0 _ | refine gr1 ?_ _ | refine gr2 ?_ (Later.below _) | refine gr2 ?_ (by assumption) | refine gr3 ?_ | refine gr4 ?_ (by first | (simp; done) | (simp; omega) | omega) _)
    clear hb7 hg7 hh7 hc7 hf7 hz7 hl7 HRM HB6 H6 k6 k7 k8 y6 HW
    rintro W8 ⟨HB8, HR8, H8⟩
    have k6 := cells_at H8 0
    have k7 := cells_at H8 1
    have y6 := heap_lt H8
    simp at k6 k7
    have HRM := hid2 HR8
    have HBB := hid2 HB8
    clear HR8 HB8 H8
    go_loopg [18] T (fun gj ix wr => ∃ jj : Nat, jj + gj = T ∧ ix = .int .i64 jj ∧ Below W8.heap.size W8 wr)
    case atStart => exact ⟨0, by omega, rfl, gr0 _⟩
    case round =>
      obtain ⟨jj, hjj, rfl, HB⟩ := hrel
      by_cases hlt : jj < T
      · have t1 : decide ((jj : Int) < T) = true := by simp; omega
        have i9 : (0 : Int) ≤ jj ∧ (jj : Int) < T := by omega
        obtain ⟨g5, o5, c5, h5, hgv, hrv⟩ := HRM.out.below HB
        obtain ⟨bs, hbs⟩ : ∃ bs, M[jj]? = some bs := ⟨_, List.getElem?_eq_getElem (by omega)⟩
        obtain ⟨u5, q5, gu, cu, rfl, hgu, hcu⟩ := hrv jj bs hbs
        rw [hMk.out bs (List.mem_of_getElem? hbs)] at q5
        cases h5
        clear hcu
        go_wp2
        go_roundg (M.length - (jj + 1))
        case measure => omega
        case rel => exact ⟨jj + 1, by omega, by go_num, HB⟩
      · have t1 : decide ((jj : Int) < T) = false := by simp; omega
        have d1 : decide (x ≤ (A : Int) * 16) = true := by simp; omega
        have d2 : decide (((A : Int) - 1) * 16 < x) = true := by simp; omega
        have d3 : decide (y ≤ (B : Int) * 8) = true := by simp; omega
        have d4 : decide (((B : Int) - 1) * 8 < y) = true := by simp; omega
        have q6 := (HB.cell (p := ⟨WP.heap.size, 0, none⟩) y6).trans k6
        have q7 := (HB.cell (p := ⟨WP.heap.size, 1, none⟩) y6).trans k7
        have q9 := Nat.lt_of_lt_of_le y6 HB.size
        have hT2 : ∀ c : Int, c = B → (A : Int) * c = T := by rintro c rfl; exact hT
        have HB3 := hid2 (HBB.out.trans (HB.mono HBB.out.size))
        clear HB k6 k7 y6 A2 A3 B2 B3 hT
        go_wp2_with (first
          | (go_at_call 13; refine (known07 _).mono ?_; rintro e W9 ⟨rfl, hb9⟩; obtain ⟨hc9, hf9, hz9⟩ := bcell hb9; try simp at hz9))
        go_ret
        exact ⟨rfl, gr2 HB3.out hb9⟩
  · have hg : gridOk x y 4 := ⟨by decide, ⟨hx.1, by omega⟩, hy.1, by omega⟩
    have hw : sideW 4 = 16 ∧ sideH 4 = 16 := by decide
    obtain ⟨hw1, hw2⟩ := hw
    obtain ⟨A, hA, A1, A2, A3⟩ := ceil_ok (n := x) (d := 16) hx.1 (by omega) (by omega) (by omega)
    obtain ⟨B, hB, B1, B2, B3⟩ := ceil_ok (n := y) (d := 16) hy.1 (by omega) (by omega) (by omega)
    have hga : gridA x y 4 = A := by rw [(grid_ok hg).1, hw1, hA]
    have hgb : gridB x y 4 = B := by rw [(grid_ok hg).2, hw2, hB]
    have hxy : 1 ≤ x * y ∧ x * y ≤ 960 := ⟨by have := Int.mul_le_mul hx.1 hy.1 (by omega) (by omega); omega, by have := Int.mul_le_mul hx.2 hy.2 (by omega) (by omega); omega⟩
    obtain ⟨N, hN⟩ : ∃ N : Nat, (N : Int) = 3 * (x * y) := ⟨(3 * (x * y)).toNat, by omega⟩
    obtain ⟨T, hT⟩ : ∃ T : Nat, (A : Int) * B = T := ⟨A * B, by simp⟩
    have hT1 : 1 ≤ T ∧ T ≤ 960 := by
      have h1 := Int.mul_le_mul (show (1 : Int) ≤ A by omega) (show (1 : Int) ≤ B by omega) (by omega) (by omega)
      have h2 := Int.mul_le_mul (show (A : Int) ≤ 40 by omega) (show (B : Int) ≤ 24 by omega) (by omega) (by omega)
      omega
    have HG : Hid2 (∀ W, Calls Try.prog 11 #[.agg #[.int .i64 x, .int .i64 y, .int .i64 4, .int .i64 50, .int .i64 1, .int .i64 0]] W fun e w' => e = .returned (.tuple #[.int .i64 A, .int .i64 B]) ∧ Below W.heap.size W w') := fun W => by have h := Grid_ x y 4 50 1 0 W; rwa [hga, hgb] at h
    have HS : Hid2 (∀ W, Calls Try.prog 20 #[.int .i64 4] W fun e w' => e = .returned (.tuple #[.int .i64 16, .int .i64 16]) ∧ Below W.heap.size W w') := fun W => by have h := Side_ 4 W; rwa [hw1, hw2] at h
    have HI : Hid2 (∀ (W : World), Nums .u8 v nc C W → Calls Try.prog 16 #[.agg #[.int .i64 x, .int .i64 y, .int .i64 4, .int .i64 50, .int .i64 1, .int .i64 0], v] W fun e w' => ∃ g cap, e = .returned (.agg #[.int .i64 x, .int .i64 y, .bool true, .slice (some ⟨g, 0, none⟩) N cap]) ∧ Below W.heap.size W w' ∧ w'.ownsRow W.heap.size 5 1 (.slice (some ⟨g, 0, none⟩) N cap) N (rowU (imgI nc C) N)) := fun W h => Image_ 50 1 0 hx hy (by simpa using hN) hnm W h
    obtain ⟨M, hM⟩ : ∃ M, splitM x y 4 (partF 4 (imgI nc C)) A T = M := ⟨_, rfl⟩
    have hMl : M.length = T := by rw [← hM]; exact splitM_len _ _ _ _ _ _
    have hMk : Hid2 (∀ bs ∈ M, bs.length = 6) := by rw [← hM]; exact split_len4
    have HSP : Hid2 (∀ (W : World) (g cap : Nat), g < W.heap.size → (∀ k, k < N → W.cell? ⟨g, k, none⟩ = some (.int .u8 (imgI nc C k))) → Calls Try.prog 17 #[.agg #[.int .i64 x, .int .i64 y, .int .i64 4, .int .i64 50, .int .i64 1, .int .i64 0], .agg #[.int .i64 x, .int .i64 y, .bool true, .slice (some ⟨g, 0, none⟩) N cap]] W fun e w' => ∃ u, e = .returned u ∧ Below W.heap.size W w' ∧ RM w' u M) := fun W g cap h1 h2 => by
      have h := Split_ (q := 50) (i := 1) (c := 0) (rgb := true) (pc := cap) hg (by omega) (N := N) (by simpa using hN) (by decide) W h1 h2 (fun k => imgI_bd nc C k)
      rw [hga, hgb, hT] at h
      simp only [Int.toNat_natCast] at h
      rwa [hM] at h
    have a9 : (A : Int) ≤ 40 ∧ (B : Int) ≤ 24 := by omega
    clear hM hga hgb hA hB hg hw1 hw2 hN hxy hx hy
    go_enter Try.func7, Try.ntmps7
    go_wp2_with (first
      | (go_at_call 15; refine (HP.out _).mono ?_; rintro e WP ⟨rfl, hbP⟩; have hzP := hbP.size)
      | (refine wpList_store_row rfl _ _ _ rfl WP.heap.size #[.int .i64 x, .int .i64 y, .int .i64 4, .int .i64 50, .int .i64 1, .int .i64 0] rfl rfl 23 #[.int .i64 0, .int .i64 0, .int .i64 0, .int .i64 0, .int .i64 0, .int .i64 0] (heap_alloc_new _ _) (by kernel_rfl) rfl rfl ?_; rw [World.setRow_alloc_new])
      | (go_at_call 11; refine (HG.out _).mono ?_; rintro e W3 ⟨rfl, hb3⟩; obtain ⟨hc3, hf3, hz3⟩ := bcell hb3; try simp at hz3)
      | (go_at_call 20; refine (HS.out _).mono ?_; rintro e W4 ⟨rfl, hb4⟩; obtain ⟨hc4, hf4, hz4⟩ := bcell hb4; try simp at hz4))
    have HW : Hid2 (Below w.heap.size w W4.drew ∧ W4.drew.heap[WP.heap.size]? = some (.cells #[.int .i64 x, .int .i64 y, .int .i64 4, .int .i64 50, .int .i64 1, .int .i64 0] 23 (0, 0)) ∧ Nums .u8 v nc C W4.drew) := hid2 ⟨gr3 (gr2 (gr2 (gr1 hbP _) hb3) hb4), bh7 hb4 (bh7 hb3 (heap_alloc_new _ _)), H.below (gr3 (gr2 (gr2 (gr1 hbP _) hb3) hb4))⟩
    clear hb3 hb4 hc3 hf3 hz3 hc4 hf4 hz4
    refine wp_region_noPanic ?_
    refine wp_region_sched 6 [(0, true), (1, true), (2, true), (3, false), (4, false), (5, true)] (fun w' => w'.heap[WP.heap.size]? = some (.cells #[.int .i64 x, .int .i64 y, .int .i64 4, .int .i64 50, .int .i64 1, .int .i64 0] 23 (0, 0))) (by kernel_rfl) (by kernel_rfl) HW.out.2.1 (fun _ _ _ _ _ h => h) ?_
    refine sched_still (by rfl) (by rfl) (by
        intro w' hC
        have k0 := cells_at hC 0; have k1 := cells_at hC 1; have k2 := cells_at hC 2; have k3 := cells_at hC 3; have k4 := cells_at hC 4; have k5 := cells_at hC 5
        simp at k0 k1 k2 k3 k4 k5
        go_simp; all_goals with_reducible rfl) ?_
    simp only [Act.put, List.setIfInBounds_toArray, List.getElem_toArray, List.getElem_cons_zero, List.set_cons_succ, List.set_cons_zero]
    refine sched_still (by rfl) (by rfl) (by
        intro w' hC
        have k0 := cells_at hC 0; have k1 := cells_at hC 1; have k2 := cells_at hC 2; have k3 := cells_at hC 3; have k4 := cells_at hC 4; have k5 := cells_at hC 5
        simp at k0 k1 k2 k3 k4 k5
        go_simp; all_goals with_reducible rfl) ?_
    simp only [Act.put, List.setIfInBounds_toArray, List.getElem_toArray, List.getElem_cons_succ, List.getElem_cons_zero, List.set_cons_succ, List.set_cons_zero]
    refine sched_still (by rfl) (by rfl) (by (intro w' hC; go_simp; all_goals with_reducible rfl)) ?_
    simp only [Act.put, List.setIfInBounds_toArray, List.getElem_toArray, List.getElem_cons_succ, List.getElem_cons_zero, List.set_cons_succ, List.set_cons_zero]
    refine sched_go (by rfl) fun K hK => ?_
    go_simp
    go_at_call 16
    refine (HI.out _ HW.out.2.2).mono ?_
    rintro e W5 ⟨gi, ci, rfl, hb5, own5⟩
    have h5 := bh7 hb5 HW.out.2.1
    have g5 := (own5.lt gi rfl).2
    have c5 : ∀ k, k < N → W5.cell? ⟨gi, k, none⟩ = some (.int .u8 (imgI nc C k)) := fun k hk => own_cell own5 (by simp [rowU, hk])
    refine hK.out _ _ (fun _ => h5) ?_
    refine sched_go (by rfl) fun K hK => ?_
    go_simp
    go_at_call 17
    refine (HSP.out W5 gi ci g5 c5).mono ?_
    rintro e W6 ⟨v6, rfl, hb6, HR6⟩
    obtain ⟨gv, ov, cv, hv6, hgv, hrv⟩ := id HR6
    rw [hMl] at hv6
    subst hv6
    have h6 := bh7 hb6 h5
    refine hK.out _ _ (fun _ => h6) ?_
    refine sched_still (by rfl) (by rfl) (by (intro w' hC; go_simp; all_goals with_reducible rfl)) ?_
    simp only [Act.put, List.setIfInBounds_toArray, List.getElem_toArray, List.getElem_cons_succ, List.getElem_cons_zero, List.set_cons_succ, List.set_cons_zero]
    refine sched_nil (NoPanic.normal ?_)
    have HRM := hid2 HR6
    have HB6 := hid2 (gr2 (gr2 HW.out.1 hb5) hb6)
    have H6 := hid2 h6
    have k6 := cells_at h6 0
    have k7 := cells_at h6 1
    have k8 := cells_at h6 2
    have y6 := heap_lt h6
    simp at k6 k7 k8
    clear HR6 hgv hrv hb5 hb6 h5 g5 c5 own5 h6 hK K
    go_wp2_with (first
      | (go_at_call 21; refine (sides_4 _).mono ?_; rintro e W7 ⟨g7, rfl, hb7, hg7, hh7⟩; obtain ⟨hc7, hf7, hz7, hl7⟩ := ncell hb7 hg7 hh7; try simp at hz7; try simp at hg7))
    refine wp_loop_rounds 4 ?_
    rw [rounds_succ]
    go_wp2_with (first
      | (refine wp_region_calm (by kernel_rfl) (by kernel_rfl) ?_; repeat (first | go_big_quiet_step (fail) | quiet_step (fail))
         refine wpQuiet_nil ?_; intro u; have hzu := u.below.size; try simp at hzu))
    rw [rounds_succ]
    go_wp2_with (first
      | (refine wp_region_calm (by kernel_rfl) (by kernel_rfl) ?_; repeat (first | go_big_quiet_step (fail) | quiet_step (fail))
         refine wpQuiet_nil ?_; intro u; have hzu := u.below.size; try simp at hzu))
    rw [rounds_succ]
    go_wp2_with (first
      | (refine wp_region_calm (by kernel_rfl) (by kernel_rfl) ?_; repeat (first | go_big_quiet_step (fail) | quiet_step (fail))
         refine wpQuiet_nil ?_; intro u; have hzu := u.below.size; try simp at hzu))
    rw [rounds_succ]
    go_wp2_with (first
      | (refine wp_region_calm (by kernel_rfl) (by kernel_rfl) ?_; repeat (first | go_big_quiet_step (fail) | quiet_step (fail))
         refine wpQuiet_nil ?_; intro u; have hzu := u.below.size; try simp at hzu))
    refine wp_abs7 (fun W => Below w.heap.size w W ∧ RM W (.slice (some ⟨gv, ov, none⟩) T cv) M ∧ W.heap[WP.heap.size]? = some (.cells #[.int .i64 x, .int .i64 y, .int .i64 4, .int .i64 50, .int .i64 1, .int .i64 0] 23 (0, 0))) ⟨?_, HRM.out.below ?_, bh7 ?_ H6.out⟩ ?_
    · refine HB6.out.trans (Below.mono ?_ HB6.out.size)
      repeat (first | exact gr0 _ | refine gr1 ?_ _ | refine gr2 ?_ (Later.below _) | refine gr2 ?_ (by assumption) | refine gr3 ?_ | refine gr4 ?_ (by first | (simp; done) | (simp; omega) | omega) _)
    · repeat (first | exact gr0 _ | refine gr1 ?_ _ | refine gr2 ?_ (Later.below _) | refine gr2 ?_ (by assumption) | refine gr3 ?_ | refine gr4 ?_ (by first | (simp; done) | (simp; omega) | omega) _)
    · repeat (first | exact gr0 _ | refine gr1 ?_ _ | refine gr2 ?_ (Later.below _) | refine gr2 ?_ (by assumption) | refine gr3 ?_ | refine gr4 ?_ (by first | (simp; done) | (simp; omega) | omega) _)
    clear hb7 hg7 hh7 hc7 hf7 hz7 hl7 HRM HB6 H6 k6 k7 k8 y6 HW
    rintro W8 ⟨HB8, HR8, H8⟩
    have k6 := cells_at H8 0
    have k7 := cells_at H8 1
    have y6 := heap_lt H8
    simp at k6 k7
    have HRM := hid2 HR8
    have HBB := hid2 HB8
    clear HR8 HB8 H8
    go_loopg [18] T (fun gj ix wr => ∃ jj : Nat, jj + gj = T ∧ ix = .int .i64 jj ∧ Below W8.heap.size W8 wr)
    case atStart => exact ⟨0, by omega, rfl, gr0 _⟩
    case round =>
      obtain ⟨jj, hjj, rfl, HB⟩ := hrel
      by_cases hlt : jj < T
      · have t1 : decide ((jj : Int) < T) = true := by simp; omega
        have i9 : (0 : Int) ≤ jj ∧ (jj : Int) < T := by omega
        obtain ⟨g5, o5, c5, h5, hgv, hrv⟩ := HRM.out.below HB
        obtain ⟨bs, hbs⟩ : ∃ bs, M[jj]? = some bs := ⟨_, List.getElem?_eq_getElem (by omega)⟩
        obtain ⟨u5, q5, gu, cu, rfl, hgu, hcu⟩ := hrv jj bs hbs
        rw [hMk.out bs (List.mem_of_getElem? hbs)] at q5
        cases h5
        clear hcu
        go_wp2
        go_roundg (M.length - (jj + 1))
        case measure => omega
        case rel => exact ⟨jj + 1, by omega, by go_num, HB⟩
      · have t1 : decide ((jj : Int) < T) = false := by simp; omega
        have d1 : decide (x ≤ (A : Int) * 16) = true := by simp; omega
        have d2 : decide (((A : Int) - 1) * 16 < x) = true := by simp; omega
        have d3 : decide (y ≤ (B : Int) * 16) = true := by simp; omega
        have d4 : decide (((B : Int) - 1) * 16 < y) = true := by simp; omega
        have q6 := (HB.cell (p := ⟨WP.heap.size, 0, none⟩) y6).trans k6
        have q7 := (HB.cell (p := ⟨WP.heap.size, 1, none⟩) y6).trans k7
        have q9 := Nat.lt_of_lt_of_le y6 HB.size
        have hT2 : ∀ c : Int, c = B → (A : Int) * c = T := by rintro c rfl; exact hT
        have HB3 := hid2 (HBB.out.trans (HB.mono HBB.out.size))
        clear HB k6 k7 y6 A2 A3 B2 B3 hT
        go_wp2_with (first
          | (go_at_call 13; refine (known07 _).mono ?_; rintro e W9 ⟨rfl, hb9⟩; obtain ⟨hc9, hf9, hz9⟩ := bcell hb9; try simp at hz9))
        go_ret
        exact ⟨rfl, gr2 HB3.out hb9⟩
end Go.Proofs.Ytgegmlhpdpdnfaa
