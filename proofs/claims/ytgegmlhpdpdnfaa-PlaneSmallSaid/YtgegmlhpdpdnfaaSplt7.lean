/- An image's blocks, MCU by MCU. -/
import Derived.Test.YtgegmlhpdpdnfaaBk8
import Derived.Test.YtgegmlhpdpdnfaaSched
namespace Go.Proofs.Ytgegmlhpdpdnfaa
open Go.RowKit
def rowB (L : Nat → Int) (n : Nat) : List Value := (List.range n).map fun k => .int .i64 (L k)
theorem rowB_succ (L : Nat → Int) (n : Nat) : rowB L (n + 1) = rowB L n ++ [.int .i64 (L n)] := by simp [rowB, List.range_succ]
theorem split_pos {x y m : Int} {F : Nat → Nat → Int} {A n : Nat} : ∀ bs ∈ splitM x y m F A n, 0 < bs.length := by
  intro bs hb
  obtain ⟨i, _, rfl⟩ := List.mem_map.1 hb
  simp only [mcuM, List.length_map]
  exact plsM_pos
theorem split_len {x y m : Int} {F : Nat → Nat → Int} {A n : Nat} : ∀ bs ∈ splitM x y m F A n, bs.length ≤ 6 := by
  intro bs hb
  obtain ⟨i, _, rfl⟩ := List.mem_map.1 hb
  simp only [mcuM, List.length_map]
  exact plsM_len
set_option maxRecDepth 100000 in
set_option maxHeartbeats 4000000 in
theorem Split_ {x y m q i c : Int} (hg : gridOk x y m) (hn : x * y ≤ 300000) {N : Nat} (hN : (N : Int) = if m = 1 then x * y else 3 * (x * y)) {rgb : Bool} (hr : rgb = !decide (m = 1)) {pg pc : Nat} {L : Nat → Int} (w : World) (hpg : pg < w.heap.size) (hp : ∀ k, k < N → w.cell? ⟨pg, k, none⟩ = some (.int .u8 (L k))) (hL : ∀ k, 0 ≤ L k ∧ L k ≤ 255) :
    Calls Try.prog 17 #[.agg #[.int .i64 x, .int .i64 y, .int .i64 m, .int .i64 q, .int .i64 i, .int .i64 c], .agg #[.int .i64 x, .int .i64 y, .bool rgb, .slice (some ⟨pg, 0, none⟩) N pc]] w fun e w' => ∃ v, e = .returned v ∧ Below w.heap.size w w' ∧ RM w' v (splitM x y m (partF m L) (gridA x y m).toNat (gridA x y m * gridB x y m).toNat) := by
  have hN2 : (N : Int) ≤ 900000 := by split at hN <;> omega
  have hg1 := hg.2.1
  have hg2 := hg.2.2
  have hxy : 1 ≤ x * y := by have := Int.mul_le_mul hg1.1 hg2.1 (by omega) (by omega); omega
  have hN0 : 0 < N := by split at hN <;> omega
  have gp := grid_pos hg
  have hHS : Hid2 (∀ (W : World) (g c9 : Nat), g < W.heap.size → (∀ k, k < N → W.cell? ⟨g, k, none⟩ = some (.int .i64 (L k))) → Calls Try.prog 37 #[opsP, .agg #[.int .i64 x, .int .i64 y, .int .i64 m, .int .i64 q, .int .i64 i, .int .i64 c], .slice (some ⟨g, 0, none⟩) N c9] W fun e w' => ∃ v, e = .returned v ∧ Below W.heap.size W w' ∧ MRow w' W.heap.size 73 41 v (splitM x y m (partF m L) (gridA x y m).toNat (gridA x y m * gridB x y m).toNat)) := fun W g c9 h1 h2 => split_int hg (by omega) hN W h1 h2 hL
  obtain ⟨T, hT⟩ : ∃ T, (gridA x y m * gridB x y m).toNat = T := ⟨_, rfl⟩
  rw [hT] at hHS ⊢
  have hT0 : 0 < T := by have := Int.mul_le_mul gp.1 gp.2 (by omega) (by omega); omega
  have hT1 : T ≤ 2000000 := by
    have hAB : gridA x y m ≤ x ∧ gridB x y m ≤ y := by
      rw [(grid_ok hg).1, (grid_ok hg).2]
      have := sideW_pos hg.1
      exact ⟨ceil_le (by omega), ceil_le (by omega)⟩
    have := Int.mul_le_mul hAB.1 hAB.2 (by omega) (by omega)
    omega
  obtain ⟨M, hM⟩ : ∃ M, splitM x y m (partF m L) (gridA x y m).toNat T = M := ⟨_, rfl⟩
  have hMl : M.length = T := by rw [← hM]; exact splitM_len _ _ _ _ _ _
  have HML := hid2 hMl
  have hMp : Hid2 (∀ bs ∈ M, 0 < bs.length) := by rw [← hM]; exact split_pos
  have hM6 : Hid2 (∀ bs ∈ M, bs.length ≤ 6) := by rw [← hM]; exact split_len
  rw [hM] at hHS ⊢
  have HLB := hid2 hL
  have HPX := hid2 hp
  clear hM hT gp hg1 hg2 hxy hL hN hn hg hp
  have e1 : (x != x) = false := by simp
  have e2 : (y != y) = false := by simp
  have e4 : (rgb == (m != 1)) = true := by rw [hr]; by_cases h : m = 1 <;> simp [h]
  clear hr
  go_enter Try.func17, Try.ntmps17
  go_wp2
  refine wp_abs7 (fun W => Below w.heap.size w W ∧ W.heap[w.heap.size]? = some (.cells #[.int .i64 x, .int .i64 y, .int .i64 m, .int .i64 q, .int .i64 i, .int .i64 c] 23 (0, 0))) ?_ ?_
  · refine ⟨?_, ?_⟩
    · repeat (first | exact gr0 _ | refine gr1 ?_ _ | refine gr2 ?_ (Later.below _) | refine gr2 ?_ (by assumption) | refine gr3 ?_ | refine gr4 ?_ (by first | (simp; done) | (simp; omega) | omega) _)
    · exact bh7 (gr1 (gr0 _) _) (heap_alloc_new _ _)
  rintro W ⟨HB, h2⟩
  have HB0 := hid2 (And.intro HB h2)
  clear HB h2
  go_loopg [5, 37] N (fun gj s ix wr => ∃ jj : Nat, jj + gj = N ∧ ix = .int .i64 jj ∧ Below w.heap.size w wr ∧ wr.heap[w.heap.size]? = some (.cells #[.int .i64 x, .int .i64 y, .int .i64 m, .int .i64 q, .int .i64 i, .int .i64 c] 23 (0, 0)) ∧ wr.ownsRow w.heap.size 3 1 s jj (rowB L jj))
  case atStart => exact ⟨0, by omega, rfl, HB0.out.1, HB0.out.2, World.ownsRow_nil _ _ _ _⟩
  case round =>
    obtain ⟨jj, hjj, rfl, HB, h2, hown⟩ := hrel
    by_cases hlt : jj < N
    · have t1 : decide ((jj : Int) < N) = true := by simp; omega
      have hi9 : (0 : Int) ≤ jj ∧ (jj : Int) < N := by omega
      have z1 := HB.size
      have k1 : wr.cell? ⟨pg, jj, none⟩ = some (.int .u8 (L jj)) := (HB.cell (p := ⟨pg, jj, none⟩) hpg).trans (HPX.out jj hlt)
      have kb := HLB.out jj
      have p0 : pg < wr.heap.size := Nat.lt_of_lt_of_le hpg HB.size
      have HX := hid2 (And.intro HB h2)
      clear HB h2
      go_wp2_with (first | (at_builtin; refine wpList_pushV w.heap.size (.tmp 41) (.tmp 44) 64 3 rfl rfl Try.underlying64 infos_int (by decide) rfl (own_alloc hown) rfl (new_cell (by simp)) rfl (by omega) (by simp; omega) ?_; intro v5 w5 hown5 hs5 ho5))
      go_roundg (N - (jj + 1))
      case measure => omega
      case rel =>
        obtain ⟨HB, h2⟩ := HX.out
        refine ⟨jj + 1, by omega, by go_num, (gr1 HB _).trans (hs5.below (by simp; omega)), hs5.other (bh7 (gr1 (gr0 _) _) h2) (by decide), ?_⟩
        rw [rowB_succ]; exact hown5
    · obtain rfl : jj = N := by omega
      have t1 : decide ((jj : Int) < jj) = false := by simp
      obtain ⟨gx, cx, rfl⟩ := own_shape hown hN0
      have hgx := (hown.lt gx rfl).2
      have hcx : ∀ k, k < jj → wr.cell? ⟨gx, k, none⟩ = some (.int .i64 (L k)) := fun k hk => own_cell hown (by simp [rowB, hk])
      have HX := hid2 (And.intro HB (And.intro h2 (And.intro hgx hcx)))
      have p3 := heap_lt h2
      clear HB h2 hown hcx hgx
      go_wp2
      refine wp_region_noPanic ?_
      refine wp_region_sched 6 [(1, true), (2, true), (5, true), (0, false), (3, false), (4, false)] (fun w' => w'.heap[w.heap.size]? = some (.cells #[.int .i64 x, .int .i64 y, .int .i64 m, .int .i64 q, .int .i64 i, .int .i64 c] 23 (0, 0))) (by kernel_rfl) (by kernel_rfl) HX.out.2.1 (fun _ _ _ _ _ h => h) ?_
      refine sched_still (by rfl) (by rfl) (by
        intro w' hC
        have k0 := cells_at hC 0; have k1 := cells_at hC 1; have k2 := cells_at hC 2; have k3 := cells_at hC 3; have k4 := cells_at hC 4; have k5 := cells_at hC 5
        simp at k0 k1 k2 k3 k4 k5
        go_simp; all_goals with_reducible rfl) ?_
      simp only [Act.put, List.setIfInBounds_toArray, List.getElem_toArray, List.getElem_cons_succ, List.getElem_cons_zero, List.set_cons_succ, List.set_cons_zero]
      repeat (refine sched_still (by rfl) (by rfl) (by (intro w' hC; go_simp; all_goals with_reducible rfl)) ?_; simp only [Act.put, List.setIfInBounds_toArray, List.getElem_toArray, List.getElem_cons_succ, List.getElem_cons_zero, List.set_cons_succ, List.set_cons_zero])
      refine sched_go (by rfl) fun K hK => ?_
      go_simp
      go_at_call 38
      refine (pl_ops _).mono ?_
      rintro e W5 ⟨rfl, hb5⟩
      refine hK.out _ _ (fun _ => bh7 hb5 HX.out.2.1) ?_
      refine sched_go (by rfl) fun K hK => ?_
      go_simp
      refine (hHS.out W5 gx cx (Nat.lt_of_lt_of_le HX.out.2.2.1 hb5.size) (fun k hk => (hb5.cell (p := ⟨gx, k, none⟩) HX.out.2.2.1).trans (HX.out.2.2.2 k hk))).mono ?_
      rintro e W6 ⟨v6, rfl, hb6, HM6⟩
      have HR6 := RM.of HM6 (by omega) hMp.out
      obtain ⟨gv, ov, cv, hv6, hgv, hrv⟩ := id HR6
      rw [hMl] at hv6
      subst hv6
      have HRM := hid2 HR6
      refine hK.out _ _ (fun _ => bh7 hb6 (bh7 hb5 HX.out.2.1)) ?_
      refine sched_go (by rfl) fun K hK => ?_
      go_simp
      refine hK.out _ _ (fun _ => bh7 hb6 (bh7 hb5 HX.out.2.1)) (sched_nil (NoPanic.normal ?_))
      have HB6 := hid2 (HX.out.1.trans ((gr2 (gr2 (gr3 (gr0 _)) hb5) hb6).mono HX.out.1.size))
      clear HR6 HM6 hgv hrv hb5 hb6 HX hK K p3 HPX
      go_wp2
      go_loopg [8, 52] T (fun gj s ix wr => ∃ j2 : Nat, j2 + gj = T ∧ ix = .int .i64 j2 ∧ Below W6.heap.size W6 wr ∧ MRow wr W6.heap.size 40 42 s (M.take j2))
      case atStart => exact ⟨0, by omega, rfl, gr0 _, MRow.nil _ _ _ _⟩
      case round =>
        obtain ⟨j2, hj2, rfl, HB2, HM2⟩ := hrel
        by_cases hlt : j2 < T
        · have t1 : decide ((j2 : Int) < T) = true := by simp; omega
          have hi9 : (0 : Int) ≤ j2 ∧ (j2 : Int) < T := by omega
          obtain ⟨bs, hbs⟩ : ∃ bs, M[j2]? = some bs := ⟨_, List.getElem?_eq_getElem (by omega)⟩
          obtain ⟨g5, o5, c5, h5, hgv, hrv⟩ := HRM.out.below HB2
          cases h5
          obtain ⟨u5, k1, gu, cu, rfl, hgu, hcu⟩ := hrv j2 bs hbs
          have hbs6 := hM6.out bs (List.mem_of_getElem? hbs)
          have hbs0 := hMp.out bs (List.mem_of_getElem? hbs)
          obtain ⟨nb, hnb⟩ : ∃ nb, bs.length = nb := ⟨_, rfl⟩
          rw [hnb] at k1 hbs6 hbs0
          have HM3 := hid2 HM2
          have HB3 := hid2 HB2
          clear HM2 HB2 hrv
          go_wp2
          have HNB := hid2 hnb
          obtain ⟨wo, rfl⟩ : ∃ wo, wo = wr := ⟨_, rfl⟩
          go_loopg [11, 58] nb (fun gk s ix wr => ∃ kk : Nat, kk + gk = nb ∧ ix = .int .i64 kk ∧ Below wo.heap.size wo wr ∧ BRow wr wo.heap.size 42 s (bs.take kk))
          case atStart => exact ⟨0, by omega, rfl, gr0 _, BRow.nil _ _ _⟩
          case round =>
            obtain ⟨kk, hkk, rfl, HB4, HR4⟩ := hrel
            by_cases hlt2 : kk < nb
            · have t2 : decide ((kk : Int) < nb) = true := by simp; omega
              have hk9 : (0 : Int) ≤ kk ∧ (kk : Int) < nb := by omega
              obtain ⟨f, hf⟩ : ∃ f, bs[kk]? = some f := ⟨_, List.getElem?_eq_getElem (by rw [HNB.out]; omega)⟩
              have hcl : ∀ j, j < 64 → wr.cell? ⟨gu, kk * 64 + j, none⟩ = some (.int .i64 (f j)) := fun j hj => (HB4.cell (p := ⟨gu, kk * 64 + j, none⟩) hgu).trans (hcu kk f hf j hj)
              have hgk : gu < wr.heap.size := Nat.lt_of_lt_of_le hgu HB4.size
              have HB5 := hid2 HB4
              have HF := hid2 hf
              clear HB4 hcu hf hnb
              go_wp2_with (first
                | (refine wpList_load_at (f := f) gu (kk * 64) hcl rfl (.tmp 60) rfl rfl ?_)
                | (refine wpList_alloc_a rfl rfl ?_)
                | (refine wpList_store_a (g := f) rfl (.tmp 13) (.tmp 61) rfl rfl rfl rfl ?_)
                | (refine wpList_load_a (f := f) wr.heap.size (heap_alloc_new _ _) rfl (.tmp 13) rfl rfl ?_)
                | (refine wpList_bs_40 f (.tmp 63) rfl rfl rfl ?_)
                | (at_builtin; refine wpList_push wo.heap.size (.tmp 62) (.tmp 64) 40 42 rfl rfl Try.underlying40 infos_42 rfl (HR4.below (gr1 (gr1 (gr0 _) _) _)) rfl (heap_alloc_new _ _) (by simp; omega) (by have := HB5.out.size; simp; omega) ?_; intro v7 w7 hown7 hs7 ho7))
              go_roundg (nb - (kk + 1))
              case measure => omega
              case rel =>
                refine ⟨kk + 1, by omega, by go_num, (gr1 (gr1 HB5.out _) _).trans (hs7.below (by have := HB5.out.size; simp; omega)), ?_⟩
                rw [List.take_add_one, HF.out]
                exact hown7
            · obtain rfl : kk = nb := by omega
              have t2 : decide ((kk : Int) < kk) = false := by simp
              rw [List.take_of_length_le (by rw [HNB.out]; omega)] at HR4
              obtain ⟨gl, cl, hsl⟩ := HR4.shape (by rw [HNB.out]; omega)
              rw [HNB.out] at hsl
              subst hsl
              have HR5 := hid2 HR4
              have HB5 := hid2 HB4
              clear HR4 HB4 hnb hcu
              go_wp2_with (first
                | (at_builtin; refine wpList_pushM W6.heap.size (.tmp 67) (.tmp 69) 34 40 42 rfl rfl Try.underlying34 infos_40 (by decide) rfl ((HM3.out.below HB5.out).below (gr1 (gr0 _) _)) ((HR5.out.lower (HB3.out.size)).below (gr1 (gr0 _) _)) rfl rfl (new_cell (by simp)) (by simp; omega) (by have := HB5.out.size; have := HB3.out.size; simp; omega) ?_; intro v8 w8 hown8 hs8))
              go_roundg (M.length - (j2 + 1))
              case measure => omega
              case rel =>
                refine ⟨j2 + 1, by omega, by go_num, (HB3.out.trans ((gr1 HB5.out _).mono HB3.out.size)).trans (hs8.below (by have := HB5.out.size; have := HB3.out.size; simp; omega)), ?_⟩
                rw [List.take_add_one, hbs]
                exact hown8
        · obtain rfl : j2 = T := by omega
          have t1 : decide ((j2 : Int) < j2) = false := by simp
          rw [List.take_of_length_le (by rw [HML.out]; omega)] at HM2
          go_wp2
          go_ret
          exact ⟨_, rfl, HB6.out.trans (HB2.mono HB6.out.size), RM.of HM2 (by rw [HML.out]; omega) hMp.out⟩
end Go.Proofs.Ytgegmlhpdpdnfaa
