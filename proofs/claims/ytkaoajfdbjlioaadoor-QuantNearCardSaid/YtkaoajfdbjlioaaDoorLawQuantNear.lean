/- QuantNear: the walk: it returns true. -/
import Derived.Test.YtkaoajfdbjlioaaDoorQuantL
namespace Go.Proofs.YtkaoajfdbjlioaaDoor
open Go.RowKit

theorem near_cells {b q : Nat → Int} (hb : byteB b) (hq : ∀ i, i < 64 → 1 ≤ q i ∧ q i ≤ 255) {i : Nat} (hi : i < 64) {W : World} {gx gy gq : Nat} {t : TypeId} (H1 : W.heap[gx]? = some (.cells (blk (fwdI b)) t (0, 0))) (H3 : W.heap[gy]? = some (.cells (blk (qbI (qfI (fwdI b) q) q)) t (0, 0))) (HQ : ∀ i, i < 64 → W.cell? ⟨gq, i, none⟩ = some (.int .i64 (q i))) :
    ∃ x y d : Int, W.cell? ⟨gx, i, none⟩ = some (.int .i64 x) ∧ W.cell? ⟨gy, i, none⟩ = some (.int .i64 y) ∧ W.cell? ⟨gq, i, none⟩ = some (.int .i64 d) ∧ (-2000 ≤ x ∧ x ≤ 2000) ∧ (-2000 ≤ y ∧ y ≤ 2000) ∧ (-255 ≤ 2 * (x - y) ∧ 2 * (x - y) ≤ 255) ∧ (1 ≤ d ∧ d ≤ 255) ∧
    decide (d < 2 * (x - y)) = false ∧ decide (d < -(2 * (x - y))) = false := by
  have k1 := fwd_in hb i hi
  have k2 := (near_y hb hq hi).1
  have k3 := (rndD_near (fwdI b i) (hq i hi).1).1
  rw [← k2] at k3
  have k4 := hq i hi
  exact ⟨_, _, _, row_cell H1 hi, row_cell H3 hi, HQ i hi, by omega, by omega, by omega, by omega, by simp; omega, by simp; omega⟩
theorem near_nil {b q : Nat → Int} (hb : byteB b) (hq : ∀ i, i < 64 → 1 ≤ q i ∧ q i ≤ 255) {i : Nat} (hi : i < 64) {W : World} {gx gz gq : Nat} {t : TypeId} (H1 : W.heap[gx]? = some (.cells (blk (fwdI b)) t (0, 0))) (H2 : W.heap[gz]? = some (.cells (blk (qfI (fwdI b) q)) t (0, 0))) (HQ : ∀ i, i < 64 → W.cell? ⟨gq, i, none⟩ = some (.int .i64 (q i))) :
    ∃ x z d : Int, ∃ p : Nat, p < 64 ∧ zigI i = p ∧ W.cell? ⟨gx, p, none⟩ = some (.int .i64 x) ∧ W.cell? ⟨gz, i, none⟩ = some (.int .i64 z) ∧ W.cell? ⟨gq, p, none⟩ = some (.int .i64 d) ∧ (-2000 ≤ x ∧ x ≤ 2000) ∧ (-2000 ≤ z ∧ z ≤ 2000) ∧ (1 ≤ d ∧ d ≤ 255) ∧
    (z = 0 ↔ 2 * x < d ∧ -2 * x < d) := by
  obtain ⟨hp, hzp, _⟩ := zn_all i hi
  have k1 := fwd_in hb (zn i) hp
  have k2 := near_z hb hq hi
  have k3 := rndD_near (fwdI b (zn i)) (hq (zn i) hp).1
  have k5 := (near_y hb hq hp).2
  rw [← k2] at k3 k5
  have zr : zigI (i : Int) = (zn i : Int) := by unfold zigI; rw [if_neg (by omega), Int.toNat_natCast, hzp]
  exact ⟨_, _, _, zn i, hp, zr, row_cell H1 hp, row_cell H2 hi, HQ _ hp, by omega, by omega, hq _ hp, k3.2.2.2⟩
set_option maxRecDepth 100000 in
set_option maxHeartbeats 2000000 in
theorem walk_QuantNear (v : Value) (n : Nat) (cs : Nat → Int) (vd : Value) (m : Nat) (ds : Nat → Int) (k : Int) (w : World) (hT : Tabs w) (H : Bytes v n cs w) (Hd : Bytes vd m ds w) (hk : 0 ≤ k ∧ k ≤ 255) :
    Calls Tryd.prog 9 #[v, vd, .int .u8 k] w fun e w' => e = .returned (.bool true) ∧ Below w.heap.size w w' := by
  have hby := ch_byte H hk
  have hT0 : Hid (Tabs w) := hT
  have HB : Hid (Bytes v n cs w) := H
  have HD : Hid (Bytes vd m ds w) := Hd
  clear hT H Hd
  go_enter Tryd.func9, Tryd.ntmps9
  go_wp2_with (first | (go_at_call 22; refine (steps_ HD.out).mono ?_; rintro e W1 ⟨v1, rfl, hb1, hQ1⟩) | (go_at_call 14; refine (block_ (HB.out.below hb1) hk).mono ?_; rintro e W2 ⟨rfl, hb2⟩) | (go_at_call 15; refine (rfwd_ _ _).mono ?_; rintro e W3 ⟨rfl, hb3⟩; have hb3' := gr2 (gr2 (gr2 (gr0 _) hb1) hb2) hb3) | (go_at_call 23; refine (qfwd_ _ _ _ _ (hT0.out.below (gr1 hb3' _)) (hQ1.below (gr1 (gr2 hb2 hb3) _))).mono ?_; rintro e W4 ⟨rfl, hb4⟩; have hb4' := gr2 (gr1 hb3' _) hb4) | (go_at_call 24; refine (qbwd_ _ _ _ _ (hT0.out.below (gr1 hb4' _)) (hQ1.below (gr1 (gr2 (gr1 (gr2 hb2 hb3) _) hb4) _))).mono ?_; rintro e W5 ⟨rfl, hb5⟩; have hb5' := gr2 (gr1 hb4' _) hb5) | (refine wpList_load_b _ (heap_alloc_new _ _) rfl _ rfl rfl ?_) | (refine wpList_zero_b rfl rfl ?_) | (refine wpList_alloc_b rfl rfl ?_) | (refine wpList_store_b rfl _ _ rfl rfl rfl (by simp) ?_))
  obtain ⟨g1, hg1⟩ : ∃ g, g = W3.heap.size := ⟨_, rfl⟩
  obtain ⟨g2, hg2⟩ : ∃ g, g = W4.heap.size := ⟨_, rfl⟩
  obtain ⟨g3, hg3⟩ : ∃ g, g = W5.heap.size := ⟨_, rfl⟩
  rw [← hg1, ← hg2, ← hg3]
  refine wp_abs (fun W' => Below w.heap.size w W' ∧ W'.heap[g1]? = some (.cells (blk (fwdI (chI cs n k))) 23 (0, 0)) ∧ W'.heap[g2]? = some (.cells (blk (qfI (fwdI (chI cs n k)) (stI ds m))) 23 (0, 0)) ∧ W'.heap[g3]? = some (.cells (blk (qbI (qfI (fwdI (chI cs n k)) (stI ds m)) (stI ds m))) 23 (0, 0)) ∧ Stp v1 (stI ds m) W') ⟨gr1 hb5' _, ?_, ?_, ?_, ?_⟩ ?_
  · rw [hg1]; exact at_al (at_be (at_al (at_be (heap_alloc_new _ _) hb4)) hb5)
  · rw [hg2]; exact at_al (at_be (heap_alloc_new _ _) hb5)
  · rw [hg3]; exact heap_alloc_new _ _
  · exact hQ1.below (gr1 (gr2 (gr1 (gr2 (gr1 (gr2 hb2 hb3) _) hb4) _) hb5) _)
  clear hb1 hb2 hb3 hb4 hb5 hb3' hb4' hb5' hg1 hg2 hg3 hQ1
  intro W6 H9
  have HA : Hid (Below w.heap.size w W6 ∧ W6.heap[g1]? = some (.cells (blk (fwdI (chI cs n k))) 23 (0, 0)) ∧ W6.heap[g2]? = some (.cells (blk (qfI (fwdI (chI cs n k)) (stI ds m))) 23 (0, 0)) ∧ W6.heap[g3]? = some (.cells (blk (qbI (qfI (fwdI (chI cs n k)) (stI ds m)) (stI ds m))) 23 (0, 0)) ∧ Stp v1 (stI ds m) W6) := H9
  have hq : ∀ i, i < 64 → 1 ≤ stI ds m i ∧ stI ds m i ≤ 255 := H9.2.2.2.2.steps
  obtain ⟨gq, cq, rfl, hzq, hcq, _⟩ := H9.2.2.2.2
  have hy1 := heap_lt H9.2.1
  have hy2 := heap_lt H9.2.2.1
  have hy3 := heap_lt H9.2.2.2.1
  clear H9
  go_loopg [11] 64 (fun gj i wr => ∃ jj : Nat, jj + gj = 64 ∧ i = .int .i64 jj ∧ Below W6.heap.size W6 wr)
  case atStart => exact ⟨0, rfl, rfl, gr0 _⟩
  case round =>
    obtain ⟨i, hi, rfl, HBr⟩ := hrel
    obtain ⟨gm, rfl⟩ : ∃ gm : Nat, gm = gk := ⟨_, rfl⟩
    have hsz := HBr.size
    have hi9 : (0 : Int) ≤ i := by omega
    by_cases hlt : i < 64
    · have t1 : decide ((i : Int) < 64) = true := by simp; omega
      obtain ⟨_, H1, _, H3, _⟩ := HA.out
      obtain ⟨x, y, d, b1, b2, b3, s1, s2, s3, s4, d1, d2⟩ := near_cells hby hq hlt (at_be H1 HBr) (at_be H3 HBr) (fun j hj => (HBr.cell (p := ⟨gq, j, none⟩) hzq).trans (hcq j hj))
      have z1 : g1 < wr.heap.size := by omega
      have z3 : g3 < wr.heap.size := by omega
      have z4 : gq < wr.heap.size := by omega
      have HX : Hid (Below W6.heap.size W6 wr) := HBr
      clear HBr H1 H3 hby hq hcq
      go_wp2_with (fail)
      refine wp_region_calm (by kernel_rfl) (by kernel_rfl) ?_
      (repeat (first | go_big_quiet_step (fail) | quiet_step (fail)))
      refine wpQuiet_nil ?_
      intro u
      have hzu := u.below.size
      try simp at hzu
      go_wp2
      go_roundg (64 - (i + 1))
      case measure => omega
      case rel => exact ⟨i + 1, by omega, by go_num, gr2 HX.out u.below⟩
    · have hk64 : i = 64 := by omega
      subst hk64
      have t1 : decide (((64 : Nat) : Int) < 64) = false := rfl
      have HXo : Hid (Below W6.heap.size W6 wr) := HBr
      clear HBr hi
      obtain ⟨wo, rfl⟩ : ∃ wo : World, wo = wr := ⟨_, rfl⟩
      go_wp2
      go_loopg [13] 64 (fun gj i wr => ∃ jj : Nat, jj + gj = 64 ∧ i = .int .i64 jj ∧ Below W6.heap.size W6 wr)
      case atStart => exact ⟨0, rfl, rfl, HXo.out⟩
      case round =>
        clear HXo
        obtain ⟨i, hi, rfl, HBr⟩ := hrel
        have hsz := HBr.size
        have hi9 : (0 : Int) ≤ i := by omega
        by_cases hlt : i < 64
        · have t1 : decide ((i : Int) < 64) = true := by simp; omega
          obtain ⟨HB0, H1, H2, _, _⟩ := HA.out
          obtain ⟨x, z, d, p, hp, zr, b1, b2, b3, s1, s2, s3, hiff⟩ := near_nil hby hq hlt (at_be H1 HBr) (at_be H2 HBr) (fun j hj => (HBr.cell (p := ⟨gq, j, none⟩) hzq).trans (hcq j hj))
          have hp9 : (0 : Int) ≤ p ∧ (p : Int) < 64 := by omega
          have z1 : g1 < wr.heap.size := by omega
          have z2 : g2 < wr.heap.size := by omega
          have z4 : gq < wr.heap.size := by omega
          have hTr : Hid (Tabs wr) := (hT0.out.below HB0).below HBr
          have HX : Hid (Below W6.heap.size W6 wr) := HBr
          clear HBr HB0 H1 H2 hby hq hcq
          rcases Classical.em (2 * x < d) with h1 | h1
          · rcases Classical.em (-2 * x < d) with h2 | h2
            · have e1 : (z == 0) = true := by simp; omega
              have e2 : decide (2 * x < d) = true := by simp; omega
              have e3 : decide (-2 * x < d) = true := by simp; omega
              clear hiff
              go_wp2_with (go_at_call 25; refine (zig_ _ _ hTr.out).mono ?_; rintro e W7 ⟨rfl, hb7⟩; rw [zr]; have hzc : wr.heap.size ≤ W7.heap.size := hb7.size; have c1 := (hb7.cell (p := ⟨g1, p, none⟩) z1).trans b1; have c2 := (hb7.cell (p := ⟨g2, i, none⟩) z2).trans b2; have c3 := (hb7.cell (p := ⟨gq, p, none⟩) z4).trans b3; have HX7 : Hid (Below W6.heap.size W6 W7) := gr2 HX.out hb7; clear hb7)
              refine wp_region_calm (by kernel_rfl) (by kernel_rfl) ?_
              (repeat (first | go_big_quiet_step (fail) | quiet_step (fail)))
              refine wpQuiet_nil ?_
              intro u
              have hzu := u.below.size
              try simp at hzu
              go_wp2
              go_roundg (64 - (i + 1))
              case measure => omega
              case rel => exact ⟨i + 1, by omega, by go_num, gr2 HX7.out u.below⟩
            · have e1 : (z == 0) = false := by simp; omega
              have e2 : decide (2 * x < d) = true := by simp; omega
              have e3 : decide (-2 * x < d) = false := by simp; omega
              clear hiff
              go_wp2_with (go_at_call 25; refine (zig_ _ _ hTr.out).mono ?_; rintro e W7 ⟨rfl, hb7⟩; rw [zr]; have hzc : wr.heap.size ≤ W7.heap.size := hb7.size; have c1 := (hb7.cell (p := ⟨g1, p, none⟩) z1).trans b1; have c2 := (hb7.cell (p := ⟨g2, i, none⟩) z2).trans b2; have c3 := (hb7.cell (p := ⟨gq, p, none⟩) z4).trans b3; have HX7 : Hid (Below W6.heap.size W6 W7) := gr2 HX.out hb7; clear hb7)
              refine wp_region_calm (by kernel_rfl) (by kernel_rfl) ?_
              (repeat (first | go_big_quiet_step (fail) | quiet_step (fail)))
              refine wpQuiet_nil ?_
              intro u
              have hzu := u.below.size
              try simp at hzu
              go_wp2
              go_roundg (64 - (i + 1))
              case measure => omega
              case rel => exact ⟨i + 1, by omega, by go_num, gr2 HX7.out u.below⟩
          · have e1 : (z == 0) = false := by simp; omega
            have e2 : decide (2 * x < d) = false := by simp; omega
            clear hiff
            go_wp2_with (go_at_call 25; refine (zig_ _ _ hTr.out).mono ?_; rintro e W7 ⟨rfl, hb7⟩; rw [zr]; have hzc : wr.heap.size ≤ W7.heap.size := hb7.size; have c1 := (hb7.cell (p := ⟨g1, p, none⟩) z1).trans b1; have c2 := (hb7.cell (p := ⟨g2, i, none⟩) z2).trans b2; have c3 := (hb7.cell (p := ⟨gq, p, none⟩) z4).trans b3; have HX7 : Hid (Below W6.heap.size W6 W7) := gr2 HX.out hb7; clear hb7)
            refine wp_region_calm (by kernel_rfl) (by kernel_rfl) ?_
            (repeat (first | go_big_quiet_step (fail) | quiet_step (fail)))
            refine wpQuiet_nil ?_
            intro u
            have hzu := u.below.size
            try simp at hzu
            go_wp2
            go_roundg (64 - (i + 1))
            case measure => omega
            case rel => exact ⟨i + 1, by omega, by go_num, gr2 HX7.out u.below⟩
        · have hk64 : i = 64 := by omega
          subst hk64
          have t1 : decide (((64 : Nat) : Int) < 64) = false := rfl
          have HX : Hid (Below W6.heap.size W6 wr) := HBr
          have hTr : Hid (Tabs wr) := (hT0.out.below HA.out.1).below HBr
          clear HBr
          go_wp2_with (go_at_call 26; refine (known09 _ hTr.out).mono ?_; rintro e W9 ⟨rfl, hb9⟩)
          go_ret
          exact ⟨rfl, gr2 (gr2 HA.out.1 HX.out) hb9⟩
end Go.Proofs.YtkaoajfdbjlioaaDoor
