/- QuantEnds: the walk: it returns true. -/
import Derived.Test.YtkaoajfdbjlioaaDoorQuantL
namespace Go.Proofs.YtkaoajfdbjlioaaDoor
open Go.RowKit

def putQ (p : Nat) (v : Int) : Nat → Int := fun i => if i = p then v else 0
theorem blk_putQ (p : Nat) (v : Int) : (blk fun _ => 0).setIfInBounds p (.int .i64 v) = blk (putQ p v) := blk_put _ p v
theorem run_make (w : World) : (Instr.makeSlice 34 (.int .i64 64) (.int .i64 64)).run Tryd.prog w = .ok (.slice (some ⟨w.heap.size, 0, none⟩) 64 64) (w.alloc (.cells (blk fun _ => 0) 3)) := by kernel_rfl
theorem wpList_make {ops : Array Oper} {rest : List Oper} {o : Oper} {a : Act} {w : World} {Q : Exit → Act → World → Prop} (hg : o.guard = none) (ho : o.op = .makeSlice 34 (.const (.int .i64 64)) (.const (.int .i64 64)))
    (h : wpList Tryd.prog ops Q rest (a.put o.dst (.slice (some ⟨w.heap.size, 0, none⟩) 64 64)) (w.alloc (.cells (blk fun _ => 0) 3))) : wpList Tryd.prog ops Q (o :: rest) a w :=
  wpList_plain hg fun _ hK => by
    unfold Oper.wp execOp
    simp only [ho, Act.eval, Sem.run_bind, run_make, Result.andThen_ok]
    exact hK _ _ h
theorem modE {i : Int} (h : 0 ≤ i ∧ i ≤ 255) : ∃ j : Nat, (j < 64 ∧ (0 : Int) ≤ j ∧ (j : Int) < 64) ∧ (∀ c : Int, c = 64 → Int.tmod i c = j) := by
  refine ⟨(i % 64).toNat, by omega, ?_⟩
  · rintro c rfl; rw [Int.tmod_eq_emod_of_nonneg (by omega)]; omega
theorem end_z {j : Nat} (_ : j < 64) {y want : Int} (hy : -32767 ≤ y ∧ y ≤ 32767) (hw : clipI (leaI j) 1023 y = want) : qfI (putQ (zn j) y) (fun _ => 1) j = want := by
  unfold qfI putQ
  rw [if_pos rfl, clip_id (lo := -32767) (hi := 32767) hy.1 hy.2, rndD_1, hw]
theorem end_y {j : Nat} (hj : j < 64) {y want : Int} (hy : -32767 ≤ y ∧ y ≤ 32767) (hw : clipI (leaI j) 1023 y = want) (hb : -2048 ≤ want ∧ want ≤ 2047) : qbI (qfI (putQ (zn j) y) (fun _ => 1)) (fun _ => 1) (zn j) = want := by
  unfold qbI
  rw [(zn_all j hj).2.2, end_z hj hy hw, clip_id hb.1 hb.2, Int.mul_one]

set_option maxRecDepth 100000 in
set_option maxHeartbeats 2000000 in
theorem ends_0 (n i : Int) (j : Nat) (w : World) (hT : Tabs w) (hn : -32768 ≤ n ∧ n ≤ 32767) (hj : j < 64) (hj7 : (0 : Int) ≤ j) (hj8 : (j : Int) < 64) (r2 : ∀ c : Int, c = 64 → Int.tmod i c = j) (hr : n ≤ -1024) (hj0 : (j : Int) = 0) :
    Calls Tryd.prog 10 #[.int .i16 n, .int .u8 i] w fun e w' => e = .returned (.bool true) ∧ Below w.heap.size w w' := by
  obtain ⟨hp64, hzp, hzi⟩ := zn_all j hj
  have hl : leaI (j : Int) = -1024 := by unfold leaI; rw [if_pos hj0]
  have hw0 : clipI (leaI (j : Int)) 1023 (max n (-32767)) = -1024 := by rw [hl]; unfold clipI; (repeat' split) <;> omega
  have k1 := end_z hj (y := max n (-32767)) (want := -1024) (by omega) hw0
  have k2 := end_y hj (y := max n (-32767)) (want := -1024) (by omega) hw0 (by omega)
  have zr : zigI (j : Int) = (zn j : Int) := by unfold zigI; rw [if_neg (by omega), Int.toNat_natCast, hzp]
  have hj1 : ((j : Int) == 0) = true := by simp; omega
  obtain ⟨p, hp⟩ : ∃ p, p = zn j := ⟨_, rfl⟩
  rw [← hp] at k1 k2 zr hp64
  have hp9 : (0 : Int) ≤ p ∧ (p : Int) < 64 := by omega
  have hT0 : Hid (Tabs w) := hT
  have K1 : Hid (qfI (putQ p (max n (-32767))) (fun _ => 1) j = -1024) := k1
  have K2 : Hid (qbI (qfI (putQ p (max n (-32767))) (fun _ => 1)) (fun _ => 1) p = -1024) := k2
  clear hT hl hw0 k1 k2 hzi hzp hp hj0
  go_enter Tryd.func10, Tryd.ntmps10
  go_wp2_with (refine wpList_make rfl rfl ?_)
  refine wp_abs (fun W' => Below w.heap.size w W' ∧ W'.heap[w.heap.size]? = some (.cells (blk (upTo (fun _ => 1) 0)) 3 (0, 0))) ⟨gr1 (gr0 _) _, ?_⟩ ?_
  · rw [upTo_0]; exact heap_alloc_new _ _
  intro W0 H9
  go_loopg [6] 64 (fun gj i wr => ∃ jj : Nat, jj + gj = 64 ∧ i = .int .i64 jj ∧ Below w.heap.size w wr ∧ wr.heap[w.heap.size]? = some (.cells (blk (upTo (fun _ => 1) jj)) 3 (0, 0)))
  case atStart => exact ⟨0, rfl, rfl, H9⟩
  case round =>
    clear H9
    obtain ⟨i9, hi9, rfl, HB, H1⟩ := hrel
    have z1 := heap_lt H1
    by_cases hlt : i9 < 64
    · have t1 : decide ((i9 : Int) < 64) = true := by simp; omega
      have hi8 : (0 : Int) ≤ i9 ∧ (i9 : Int) < 64 := by omega
      have b1 := row_cell H1 hlt
      have c1 := row_free H1 i9
      have HX : Hid (Below w.heap.size w wr ∧ wr.heap[w.heap.size]? = some (.cells (blk (upTo (fun _ => 1) i9)) 3 (0, 0))) := ⟨HB, H1⟩
      clear HB H1
      go_wp2
      go_roundg (64 - (i9 + 1))
      case measure => omega
      case rel =>
        refine ⟨i9 + 1, by omega, by go_num, gr4 HX.out.1 (by simp) _, ?_⟩
        have := heap_setCell_same _ _ i9 _ _ (.int .i64 1) HX.out.2
        rw [blk_set (fun _ => 1)] at this
        exact this
    · have hk64 : i9 = 64 := by omega
      subst hk64
      have t1 : decide (((64 : Nat) : Int) < 64) = false := rfl
      rw [blk_all] at H1
      have hTr : Tabs wr := hT0.out.below HB
      have hQr : Stp (.slice (some ⟨w.heap.size, 0, none⟩) 64 64) (fun _ => 1) wr := ⟨_, _, rfl, heap_lt H1, fun k hk => row_cell H1 hk, fun _ _ => ⟨Int.le_refl 1, show (1 : Int) ≤ 255 by decide⟩⟩
      have HX : Hid (Below w.heap.size w wr) := HB
      clear HB H1
      obtain ⟨gb, hgb⟩ : ∃ gb, gb = wr.heap.size := ⟨_, rfl⟩
      go_wp2_with (first | (refine wpList_zero_b rfl rfl ?_) | (refine wpList_alloc_b rfl rfl ?_) | (refine wpList_store_b rfl _ _ rfl rfl rfl (by simp) ?_) | (go_at_call 25; refine (zig_ _ _ (hTr.below (gr1 (gr0 _) _))).mono ?_; rintro e Wz ⟨rfl, hbz⟩; rw [zr]; have HBz : Below wr.heap.size wr Wz := gr2 (gr1 (gr0 _) _) hbz; have hbk : ∀ y : Int, (Wz.setCell ⟨wr.heap.size, p, none⟩ (.int .i64 y)).heap[wr.heap.size]? = some (.cells (blk (putQ p y)) 23 (0, 0)) := (fun y => by rw [← blk_putQ]; exact heap_setCell_same _ _ _ _ _ _ (at_be (heap_alloc_new wr _) hbz)); have cb := row_cell (at_be (heap_alloc_new wr _) hbz) hp64; have fb := row_free (at_be (heap_alloc_new wr (.cells (blk fun _ => 0) 23)) hbz) p; have zb : wr.heap.size < Wz.heap.size := heap_lt (at_be (heap_alloc_new wr (.cells (blk fun _ => 0) 23)) hbz); clear hbz) | (refine wpList_load_b _ (hbk _) rfl _ rfl rfl ?_) | (go_at_call 23; refine (qfwd_ _ _ _ _ (hTr.below (gr4 HBz (Nat.le_refl _) _)) (hQr.below (gr4 HBz (Nat.le_refl _) _))).mono ?_; rintro e W3 ⟨rfl, hb3⟩; have HB3 := gr2 (gr4 HBz (p := ⟨wr.heap.size, p, none⟩) (Nat.le_refl _) _) hb3; clear hbk cb fb) | (refine wpList_load_b _ (heap_alloc_new _ _) rfl _ rfl rfl ?_) | (go_at_call 24; refine (qbwd_ _ _ _ _ (hTr.below (gr1 HB3 _)) (hQr.below (gr1 HB3 _))).mono ?_; rintro e W4 ⟨rfl, hb4⟩; have HB4 := gr2 (gr1 HB3 _) hb4) | (go_at_call 26; refine (known09 _ (hTr.below (gr1 HB4 _))).mono ?_; rintro e W5 ⟨rfl, hb5⟩; have HB5 := gr2 (gr1 HB4 _) hb5; have cz : W5.cell? ⟨W3.heap.size, j, none⟩ = some (.int .i64 (-1024)) := (row_cell (at_be (at_al (at_be (heap_alloc_new W3 _) hb4)) hb5) hj).trans (by rw [K1.out]); have cy : W5.cell? ⟨W4.heap.size, p, none⟩ = some (.int .i64 (-1024)) := (row_cell (at_be (heap_alloc_new W4 _) hb5) hp64).trans (by rw [K2.out])))
      go_ret
      exact ⟨rfl, gr2 HX.out HB5⟩

set_option maxRecDepth 100000 in
set_option maxHeartbeats 2000000 in
theorem ends_1 (n i : Int) (j : Nat) (w : World) (hT : Tabs w) (hn : -32768 ≤ n ∧ n ≤ 32767) (hj : j < 64) (hj7 : (0 : Int) ≤ j) (hj8 : (j : Int) < 64) (r2 : ∀ c : Int, c = 64 → Int.tmod i c = j) (hr : -1024 < n) (hj0 : (j : Int) = 0) :
    Calls Tryd.prog 10 #[.int .i16 n, .int .u8 i] w fun e w' => e = .returned (.bool true) ∧ Below w.heap.size w w' := by
  obtain ⟨hp64, hzp, hzi⟩ := zn_all j hj
  have hl : leaI (j : Int) = -1024 := by unfold leaI; rw [if_pos hj0]
  have hw0 : clipI (leaI (j : Int)) 1023 (max n (-32767)) = max (-1023) (min n 1023) := by rw [hl]; unfold clipI; (repeat' split) <;> omega
  have k1 := end_z hj (y := max n (-32767)) (want := max (-1023) (min n 1023)) (by omega) hw0
  have k2 := end_y hj (y := max n (-32767)) (want := max (-1023) (min n 1023)) (by omega) hw0 (by omega)
  have zr : zigI (j : Int) = (zn j : Int) := by unfold zigI; rw [if_neg (by omega), Int.toNat_natCast, hzp]
  have hj1 : ((j : Int) == 0) = true := by simp; omega
  obtain ⟨p, hp⟩ : ∃ p, p = zn j := ⟨_, rfl⟩
  rw [← hp] at k1 k2 zr hp64
  have hp9 : (0 : Int) ≤ p ∧ (p : Int) < 64 := by omega
  have hT0 : Hid (Tabs w) := hT
  have K1 : Hid (qfI (putQ p (max n (-32767))) (fun _ => 1) j = max (-1023) (min n 1023)) := k1
  have K2 : Hid (qbI (qfI (putQ p (max n (-32767))) (fun _ => 1)) (fun _ => 1) p = max (-1023) (min n 1023)) := k2
  clear hT hl hw0 k1 k2 hzi hzp hp hj0
  go_enter Tryd.func10, Tryd.ntmps10
  go_wp2_with (refine wpList_make rfl rfl ?_)
  refine wp_abs (fun W' => Below w.heap.size w W' ∧ W'.heap[w.heap.size]? = some (.cells (blk (upTo (fun _ => 1) 0)) 3 (0, 0))) ⟨gr1 (gr0 _) _, ?_⟩ ?_
  · rw [upTo_0]; exact heap_alloc_new _ _
  intro W0 H9
  go_loopg [6] 64 (fun gj i wr => ∃ jj : Nat, jj + gj = 64 ∧ i = .int .i64 jj ∧ Below w.heap.size w wr ∧ wr.heap[w.heap.size]? = some (.cells (blk (upTo (fun _ => 1) jj)) 3 (0, 0)))
  case atStart => exact ⟨0, rfl, rfl, H9⟩
  case round =>
    clear H9
    obtain ⟨i9, hi9, rfl, HB, H1⟩ := hrel
    have z1 := heap_lt H1
    by_cases hlt : i9 < 64
    · have t1 : decide ((i9 : Int) < 64) = true := by simp; omega
      have hi8 : (0 : Int) ≤ i9 ∧ (i9 : Int) < 64 := by omega
      have b1 := row_cell H1 hlt
      have c1 := row_free H1 i9
      have HX : Hid (Below w.heap.size w wr ∧ wr.heap[w.heap.size]? = some (.cells (blk (upTo (fun _ => 1) i9)) 3 (0, 0))) := ⟨HB, H1⟩
      clear HB H1
      go_wp2
      go_roundg (64 - (i9 + 1))
      case measure => omega
      case rel =>
        refine ⟨i9 + 1, by omega, by go_num, gr4 HX.out.1 (by simp) _, ?_⟩
        have := heap_setCell_same _ _ i9 _ _ (.int .i64 1) HX.out.2
        rw [blk_set (fun _ => 1)] at this
        exact this
    · have hk64 : i9 = 64 := by omega
      subst hk64
      have t1 : decide (((64 : Nat) : Int) < 64) = false := rfl
      rw [blk_all] at H1
      have hTr : Tabs wr := hT0.out.below HB
      have hQr : Stp (.slice (some ⟨w.heap.size, 0, none⟩) 64 64) (fun _ => 1) wr := ⟨_, _, rfl, heap_lt H1, fun k hk => row_cell H1 hk, fun _ _ => ⟨Int.le_refl 1, show (1 : Int) ≤ 255 by decide⟩⟩
      have HX : Hid (Below w.heap.size w wr) := HB
      clear HB H1
      obtain ⟨gb, hgb⟩ : ∃ gb, gb = wr.heap.size := ⟨_, rfl⟩
      go_wp2_with (first | (refine wpList_zero_b rfl rfl ?_) | (refine wpList_alloc_b rfl rfl ?_) | (refine wpList_store_b rfl _ _ rfl rfl rfl (by simp) ?_) | (go_at_call 25; refine (zig_ _ _ (hTr.below (gr1 (gr0 _) _))).mono ?_; rintro e Wz ⟨rfl, hbz⟩; rw [zr]; have HBz : Below wr.heap.size wr Wz := gr2 (gr1 (gr0 _) _) hbz; have hbk : ∀ y : Int, (Wz.setCell ⟨wr.heap.size, p, none⟩ (.int .i64 y)).heap[wr.heap.size]? = some (.cells (blk (putQ p y)) 23 (0, 0)) := (fun y => by rw [← blk_putQ]; exact heap_setCell_same _ _ _ _ _ _ (at_be (heap_alloc_new wr _) hbz)); have cb := row_cell (at_be (heap_alloc_new wr _) hbz) hp64; have fb := row_free (at_be (heap_alloc_new wr (.cells (blk fun _ => 0) 23)) hbz) p; have zb : wr.heap.size < Wz.heap.size := heap_lt (at_be (heap_alloc_new wr (.cells (blk fun _ => 0) 23)) hbz); clear hbz) | (refine wpList_load_b _ (hbk _) rfl _ rfl rfl ?_) | (go_at_call 23; refine (qfwd_ _ _ _ _ (hTr.below (gr4 HBz (Nat.le_refl _) _)) (hQr.below (gr4 HBz (Nat.le_refl _) _))).mono ?_; rintro e W3 ⟨rfl, hb3⟩; have HB3 := gr2 (gr4 HBz (p := ⟨wr.heap.size, p, none⟩) (Nat.le_refl _) _) hb3; clear hbk cb fb) | (refine wpList_load_b _ (heap_alloc_new _ _) rfl _ rfl rfl ?_) | (go_at_call 24; refine (qbwd_ _ _ _ _ (hTr.below (gr1 HB3 _)) (hQr.below (gr1 HB3 _))).mono ?_; rintro e W4 ⟨rfl, hb4⟩; have HB4 := gr2 (gr1 HB3 _) hb4) | (go_at_call 26; refine (known09 _ (hTr.below (gr1 HB4 _))).mono ?_; rintro e W5 ⟨rfl, hb5⟩; have HB5 := gr2 (gr1 HB4 _) hb5; have cz : W5.cell? ⟨W3.heap.size, j, none⟩ = some (.int .i64 (max (-1023) (min n 1023))) := (row_cell (at_be (at_al (at_be (heap_alloc_new W3 _) hb4)) hb5) hj).trans (by rw [K1.out]); have cy : W5.cell? ⟨W4.heap.size, p, none⟩ = some (.int .i64 (max (-1023) (min n 1023))) := (row_cell (at_be (heap_alloc_new W4 _) hb5) hp64).trans (by rw [K2.out])))
      go_ret
      exact ⟨rfl, gr2 HX.out HB5⟩

set_option maxRecDepth 100000 in
set_option maxHeartbeats 2000000 in
theorem ends_2 (n i : Int) (j : Nat) (w : World) (hT : Tabs w) (hn : -32768 ≤ n ∧ n ≤ 32767) (hj : j < 64) (hj7 : (0 : Int) ≤ j) (hj8 : (j : Int) < 64) (r2 : ∀ c : Int, c = 64 → Int.tmod i c = j) (hj0 : (j : Int) ≠ 0) :
    Calls Tryd.prog 10 #[.int .i16 n, .int .u8 i] w fun e w' => e = .returned (.bool true) ∧ Below w.heap.size w w' := by
  obtain ⟨hp64, hzp, hzi⟩ := zn_all j hj
  have hl : leaI (j : Int) = -1023 := by unfold leaI; rw [if_neg hj0]
  have hw0 : clipI (leaI (j : Int)) 1023 (max n (-32767)) = max (-1023) (min n 1023) := by rw [hl]; unfold clipI; (repeat' split) <;> omega
  have k1 := end_z hj (y := max n (-32767)) (want := max (-1023) (min n 1023)) (by omega) hw0
  have k2 := end_y hj (y := max n (-32767)) (want := max (-1023) (min n 1023)) (by omega) hw0 (by omega)
  have zr : zigI (j : Int) = (zn j : Int) := by unfold zigI; rw [if_neg (by omega), Int.toNat_natCast, hzp]
  have hj1 : ((j : Int) == 0) = false := by simp; omega
  obtain ⟨p, hp⟩ : ∃ p, p = zn j := ⟨_, rfl⟩
  rw [← hp] at k1 k2 zr hp64
  have hp9 : (0 : Int) ≤ p ∧ (p : Int) < 64 := by omega
  have hT0 : Hid (Tabs w) := hT
  have K1 : Hid (qfI (putQ p (max n (-32767))) (fun _ => 1) j = max (-1023) (min n 1023)) := k1
  have K2 : Hid (qbI (qfI (putQ p (max n (-32767))) (fun _ => 1)) (fun _ => 1) p = max (-1023) (min n 1023)) := k2
  clear hT hl hw0 k1 k2 hzi hzp hp hj0
  go_enter Tryd.func10, Tryd.ntmps10
  go_wp2_with (refine wpList_make rfl rfl ?_)
  refine wp_abs (fun W' => Below w.heap.size w W' ∧ W'.heap[w.heap.size]? = some (.cells (blk (upTo (fun _ => 1) 0)) 3 (0, 0))) ⟨gr1 (gr0 _) _, ?_⟩ ?_
  · rw [upTo_0]; exact heap_alloc_new _ _
  intro W0 H9
  go_loopg [6] 64 (fun gj i wr => ∃ jj : Nat, jj + gj = 64 ∧ i = .int .i64 jj ∧ Below w.heap.size w wr ∧ wr.heap[w.heap.size]? = some (.cells (blk (upTo (fun _ => 1) jj)) 3 (0, 0)))
  case atStart => exact ⟨0, rfl, rfl, H9⟩
  case round =>
    clear H9
    obtain ⟨i9, hi9, rfl, HB, H1⟩ := hrel
    have z1 := heap_lt H1
    by_cases hlt : i9 < 64
    · have t1 : decide ((i9 : Int) < 64) = true := by simp; omega
      have hi8 : (0 : Int) ≤ i9 ∧ (i9 : Int) < 64 := by omega
      have b1 := row_cell H1 hlt
      have c1 := row_free H1 i9
      have HX : Hid (Below w.heap.size w wr ∧ wr.heap[w.heap.size]? = some (.cells (blk (upTo (fun _ => 1) i9)) 3 (0, 0))) := ⟨HB, H1⟩
      clear HB H1
      go_wp2
      go_roundg (64 - (i9 + 1))
      case measure => omega
      case rel =>
        refine ⟨i9 + 1, by omega, by go_num, gr4 HX.out.1 (by simp) _, ?_⟩
        have := heap_setCell_same _ _ i9 _ _ (.int .i64 1) HX.out.2
        rw [blk_set (fun _ => 1)] at this
        exact this
    · have hk64 : i9 = 64 := by omega
      subst hk64
      have t1 : decide (((64 : Nat) : Int) < 64) = false := rfl
      rw [blk_all] at H1
      have hTr : Tabs wr := hT0.out.below HB
      have hQr : Stp (.slice (some ⟨w.heap.size, 0, none⟩) 64 64) (fun _ => 1) wr := ⟨_, _, rfl, heap_lt H1, fun k hk => row_cell H1 hk, fun _ _ => ⟨Int.le_refl 1, show (1 : Int) ≤ 255 by decide⟩⟩
      have HX : Hid (Below w.heap.size w wr) := HB
      clear HB H1
      obtain ⟨gb, hgb⟩ : ∃ gb, gb = wr.heap.size := ⟨_, rfl⟩
      go_wp2_with (first | (refine wpList_zero_b rfl rfl ?_) | (refine wpList_alloc_b rfl rfl ?_) | (refine wpList_store_b rfl _ _ rfl rfl rfl (by simp) ?_) | (go_at_call 25; refine (zig_ _ _ (hTr.below (gr1 (gr0 _) _))).mono ?_; rintro e Wz ⟨rfl, hbz⟩; rw [zr]; have HBz : Below wr.heap.size wr Wz := gr2 (gr1 (gr0 _) _) hbz; have hbk : ∀ y : Int, (Wz.setCell ⟨wr.heap.size, p, none⟩ (.int .i64 y)).heap[wr.heap.size]? = some (.cells (blk (putQ p y)) 23 (0, 0)) := (fun y => by rw [← blk_putQ]; exact heap_setCell_same _ _ _ _ _ _ (at_be (heap_alloc_new wr _) hbz)); have cb := row_cell (at_be (heap_alloc_new wr _) hbz) hp64; have fb := row_free (at_be (heap_alloc_new wr (.cells (blk fun _ => 0) 23)) hbz) p; have zb : wr.heap.size < Wz.heap.size := heap_lt (at_be (heap_alloc_new wr (.cells (blk fun _ => 0) 23)) hbz); clear hbz) | (refine wpList_load_b _ (hbk _) rfl _ rfl rfl ?_) | (go_at_call 23; refine (qfwd_ _ _ _ _ (hTr.below (gr4 HBz (Nat.le_refl _) _)) (hQr.below (gr4 HBz (Nat.le_refl _) _))).mono ?_; rintro e W3 ⟨rfl, hb3⟩; have HB3 := gr2 (gr4 HBz (p := ⟨wr.heap.size, p, none⟩) (Nat.le_refl _) _) hb3; clear hbk cb fb) | (refine wpList_load_b _ (heap_alloc_new _ _) rfl _ rfl rfl ?_) | (go_at_call 24; refine (qbwd_ _ _ _ _ (hTr.below (gr1 HB3 _)) (hQr.below (gr1 HB3 _))).mono ?_; rintro e W4 ⟨rfl, hb4⟩; have HB4 := gr2 (gr1 HB3 _) hb4) | (go_at_call 26; refine (known09 _ (hTr.below (gr1 HB4 _))).mono ?_; rintro e W5 ⟨rfl, hb5⟩; have HB5 := gr2 (gr1 HB4 _) hb5; have cz : W5.cell? ⟨W3.heap.size, j, none⟩ = some (.int .i64 (max (-1023) (min n 1023))) := (row_cell (at_be (at_al (at_be (heap_alloc_new W3 _) hb4)) hb5) hj).trans (by rw [K1.out]); have cy : W5.cell? ⟨W4.heap.size, p, none⟩ = some (.int .i64 (max (-1023) (min n 1023))) := (row_cell (at_be (heap_alloc_new W4 _) hb5) hp64).trans (by rw [K2.out])))
      go_ret
      exact ⟨rfl, gr2 HX.out HB5⟩

set_option maxRecDepth 100000 in
set_option maxHeartbeats 2000000 in
theorem walk_QuantEnds (n i : Int) (w : World) (hT : Tabs w) (hn : -32768 ≤ n ∧ n ≤ 32767) (hi : 0 ≤ i ∧ i ≤ 255) :
    Calls Tryd.prog 10 #[.int .i16 n, .int .u8 i] w fun e w' => e = .returned (.bool true) ∧ Below w.heap.size w w' := by
  obtain ⟨j, ⟨hj, hj7, hj8⟩, r2⟩ := modE hi
  by_cases h0 : (j : Int) = 0
  · rcases (show n ≤ -1024 ∨ -1024 < n by omega) with h | h
    · exact ends_0 n i j w hT hn hj hj7 hj8 r2 h h0
    · exact ends_1 n i j w hT hn hj hj7 hj8 r2 h h0
  · exact ends_2 n i j w hT hn hj hj7 hj8 r2 h0
end Go.Proofs.YtkaoajfdbjlioaaDoor
