/- Blocks of secrets by steps. -/
import Derived.Test.YtkaoajfdbjlioaaDoorQuantL
import Derived.Test.YtkaoajfdbjlioaaDoorDctS
import Derived.Test.YtkaoajfdbjlioaaDoorScanD
namespace Go.Proofs.YtkaoajfdbjlioaaDoor
open Go.RowKit

set_option maxRecDepth 100000 in
set_option maxHeartbeats 2000000 in
theorem qfwds_ (b q : Nat → Int) (v : Value) (w : World) (hT : Tabs w) (H : Stp v q w) (hI : ∀ i, i < 64 → I64 (b i)) :
    Calls Tryd.prog 34 #[.agg (blk b), v] w fun e w' => e = .returned (.agg (blk (qfI b q))) ∧ Below w.heap.size w w' := by
  have HS : Hid (Stp v q w) := H
  have HT : Hid (Tabs w) := hT
  clear hT
  go_enter Tryd.func34, Tryd.ntmps34
  go_wp2_with (first | (refine wpList_alloc_s rfl rfl ?_) | (go_at_call 41; refine (right_ (HS.out.below (gr1 (gr1 (gr0 _) _) _))).mono ?_; rintro e W1 ⟨rfl, hb1⟩; have hT1 := HT.out.below (gr2 (gr1 (gr1 (gr0 _) _) _) hb1); obtain ⟨hc1, hf1, hz1⟩ := bcell hb1) | (refine wpList_load_at (f := zigN) 1 0 (fun j hj => by rw [Nat.zero_add]; exact hT1.2.1 j hj) rfl _ rfl rfl ?_))
  refine wp_abs (fun W' => Below w.heap.size w W' ∧ W'.heap[w.heap.size]? = some (.cells (blk (b)) 45 (0, 0)) ∧ W'.heap[w.heap.size + 1]? = some (.cells (blk (upTo (qfI b q) 0)) 45 (0, 0))) ⟨gr2 (gr1 (gr1 (gr0 _) _) _) hb1, at_be (at_al (heap_alloc_new _ _)) hb1, ?_⟩ ?_
  · rw [upTo_0]
    exact at_be (by rw [heap_alloc_if, if_pos (by simp)]) hb1
  clear hb1 hT1 hc1 hf1 hz1
  intro W2 H9
  obtain ⟨g, c, rfl, hg1, hg2, hg3⟩ := H
  go_loopg [12] 64 (fun gj i wr => ∃ jj : Nat, jj + gj = 64 ∧ i = .int .i64 jj ∧ Below w.heap.size w wr ∧ wr.heap[w.heap.size]? = some (.cells (blk (b)) 45 (0, 0)) ∧ wr.heap[w.heap.size + 1]? = some (.cells (blk (upTo (qfI b q) jj)) 45 (0, 0)))
  case atStart => exact ⟨0, rfl, rfl, H9⟩
  case round =>
    clear H9
    obtain ⟨i, hi, rfl, HB, H0, H1⟩ := hrel
    by_cases hlt : i < 64
    · have t1 : decide ((i : Int) < 64) = true := by simp; omega
      obtain ⟨hz1, hz2, hz3⟩ := zn_all i hlt
      have hix : ∀ w, (Instr.index 22 (.agg (blk zigN)) (.int .i64 i)).run Tryd.prog w = .ok (.int .i64 (zn i : Int)) w := fun w => by rw [← hz2]; exact run_index_a w _ hlt
      have hrr : zn i = zn i := rfl
      obtain ⟨p, hp⟩ : ∃ p, p = zn i := ⟨_, rfl⟩
      rw [← hp] at hix hz1
      have hi9 : (0 : Int) ≤ i ∧ (i : Int) < 64 := by omega
      have hp9 : (0 : Int) ≤ p ∧ (p : Int) < 64 := by omega
      have bq : wr.cell? ⟨g, p, none⟩ = some (.int .i64 (q p)) := (HB.cell (p := ⟨g, p, none⟩) hg1).trans (hg2 p hz1)
      have zq : g < wr.heap.size := Nat.lt_of_lt_of_le hg1 HB.size
      have hqp := hg3 p hz1
      have zr := heap_lt H1
      have zr0 : w.heap.size < wr.heap.size := by omega
      have cb := row_cell H0 hz1
      have c1 := row_cell H1 hlt
      have f1 := row_free H1 i
      have hr0 := clip_in (lo := -32767) (hi := 32767) (b p) (by omega)
      have hr3 : -32767 ≤ clipI (-32767) 32767 (b p) ∧ clipI (-32767) 32767 (b p) ≤ 32767 := by omega
      have hnr := rndD_near (clipI (-32767) 32767 (b p)) hqp.1
      have hle := lea_in i
      have hS1 : I64 (b p) := hI p hz1
      have hS2 : I64 (-32767) := i64_of (by omega) (by omega)
      have hS3 : I64 32767 := i64_of (by omega) (by omega)
      have hS4 : I64 (roundI (clipI (-32767) 32767 (b p)) (q p)) := by
        show I64 (rndD _ _)
        rcases Int.le_total 0 (clipI (-32767) 32767 (b p)) with h | h
        · have := hnr.2.1 h; exact i64_of (by omega) (by omega)
        · have := hnr.2.2.1 h; exact i64_of (by omega) (by omega)
      have hS5 : I64 (leaI i) := i64_of (by omega) (by omega)
      have hS6 : I64 1023 := i64_of (by omega) (by omega)
      have HX : Hid ((Below w.heap.size w wr ∧ wr.heap[w.heap.size]? = some (.cells (blk (b)) 45 (0, 0)) ∧ wr.heap[w.heap.size + 1]? = some (.cells (blk (upTo (qfI b q) i)) 45 (0, 0))) ∧ clipI (leaI i) 1023 (roundI (clipI (-32767) 32767 (b p)) (q p)) = qfI b q i) := ⟨⟨HB, H0, H1⟩, by rw [hp]; rfl⟩
      clear HB H0 H1 hp hz2 hz3 hrr hg2 hg3 hr0 hI hnr hle
      go_wp2_with (fail)
      refine wp_region_calm_tail 14 (by kernel_rfl) (by kernel_rfl) ?_
      (repeat (first | go_big_quiet_step (first | (go_at_call 52; with_reducible exact calm_call (sclip_ _ _ _ _ hS1 hS2 hS3)) | (go_at_call 52; with_reducible exact calm_call (sclip_ _ _ _ _ hS4 hS5 hS6)) | (go_at_call 51; exact calm_call (sround_ _ _ _ hr3 hqp)) | (go_at_call 44; exact calm_call (least_ _ _))) | quiet_step (first | (go_at_call 52; with_reducible exact calm_call (sclip_ _ _ _ _ hS1 hS2 hS3)) | (go_at_call 52; with_reducible exact calm_call (sclip_ _ _ _ _ hS4 hS5 hS6)) | (go_at_call 51; exact calm_call (sround_ _ _ _ hr3 hqp)) | (go_at_call 44; exact calm_call (least_ _ _)))))
      refine wpQuiet_nil ?_
      intro u
      have hzu := u.below.size
      try simp at hzu
      go_wp2
      go_roundg (64 - (i + 1))
      case measure => omega
      case rel =>
        obtain ⟨⟨HB, H0, H1⟩, he⟩ := HX.out
        refine ⟨i + 1, by omega, by go_num, gr4 (gr2 HB u.below) (by simp) _, (heap_setCell_other _ _ _ _ (by first | (simp; done) | (simp; omega))).trans (at_be H0 u.below), ?_⟩
        have := heap_setCell_same _ _ i _ _ (.int .i64 (qfI b q i)) (at_be H1 u.below)
        rw [blk_set] at this
        rw [he]
        exact this
    · have hk64 : i = 64 := by omega
      subst hk64
      have t1 : decide (((64 : Nat) : Int) < 64) = false := rfl
      rw [blk_all] at H1
      go_wp2_with (first
        | (refine wpList_load_s _ H1 rfl _ rfl rfl ?_)
        | (refine wpList_store_row rfl _ _ _ rfl (w.heap.size + 1) _ rfl rfl _ _ H1 (blk_infoS _) (blk_sz _ _) (blk_one _) ?_))
      refine bodyPost_ret (results_cell_row rfl _ _ (w.heap.size + 1) _ _ _ _ rfl (setRow_heap _ _ _ _ _ _ H1) Tryd.underlying45 rfl (blk_infoS _)) rfl ⟨rfl, below_setRow HB (by omega) _⟩


set_option maxRecDepth 100000 in
set_option maxHeartbeats 2000000 in
theorem qbwds_ (b q : Nat → Int) (v : Value) (w : World) (hT : Tabs w) (H : Stp v q w) (hI : ∀ i, i < 64 → I64 (b i)) :
    Calls Tryd.prog 35 #[.agg (blk b), v] w fun e w' => e = .returned (.agg (blk (qbI b q))) ∧ Below w.heap.size w w' := by
  have HS : Hid (Stp v q w) := H
  have HT : Hid (Tabs w) := hT
  clear hT
  go_enter Tryd.func35, Tryd.ntmps35
  go_wp2_with (first | (refine wpList_alloc_s rfl rfl ?_) | (go_at_call 41; refine (right_ (HS.out.below (gr1 (gr1 (gr0 _) _) _))).mono ?_; rintro e W1 ⟨rfl, hb1⟩; have hT1 := HT.out.below (gr2 (gr1 (gr1 (gr0 _) _) _) hb1); obtain ⟨hc1, hf1, hz1⟩ := bcell hb1) | (refine wpList_load_at (f := zigN) 1 0 (fun j hj => by rw [Nat.zero_add]; exact hT1.2.1 j hj) rfl _ rfl rfl ?_))
  refine wp_abs (fun W' => Below w.heap.size w W' ∧ W'.heap[w.heap.size]? = some (.cells (blk (b)) 45 (0, 0)) ∧ W'.heap[w.heap.size + 1]? = some (.cells (blk (tmQ (qbI b q) 0)) 45 (0, 0))) ⟨gr2 (gr1 (gr1 (gr0 _) _) _) hb1, at_be (at_al (heap_alloc_new _ _)) hb1, ?_⟩ ?_
  · rw [blk_tmQ_0]
    exact at_be (by rw [heap_alloc_if, if_pos (by simp)]) hb1
  clear hb1 hT1 hc1 hf1 hz1
  intro W2 H9
  obtain ⟨g, c, rfl, hg1, hg2, hg3⟩ := H
  go_loopg [12] 64 (fun gj i wr => ∃ jj : Nat, jj + gj = 64 ∧ i = .int .i64 jj ∧ Below w.heap.size w wr ∧ wr.heap[w.heap.size]? = some (.cells (blk (b)) 45 (0, 0)) ∧ wr.heap[w.heap.size + 1]? = some (.cells (blk (tmQ (qbI b q) jj)) 45 (0, 0)))
  case atStart => exact ⟨0, rfl, rfl, H9⟩
  case round =>
    clear H9
    obtain ⟨i, hi, rfl, HB, H0, H1⟩ := hrel
    by_cases hlt : i < 64
    · have t1 : decide ((i : Int) < 64) = true := by simp; omega
      obtain ⟨hz1, hz2, hz3⟩ := zn_all i hlt
      have hix : ∀ w, (Instr.index 22 (.agg (blk zigN)) (.int .i64 i)).run Tryd.prog w = .ok (.int .i64 (zn i : Int)) w := fun w => by rw [← hz2]; exact run_index_a w _ hlt
      have hrr : zn i = zn i := rfl
      obtain ⟨p, hp⟩ : ∃ p, p = zn i := ⟨_, rfl⟩
      rw [← hp] at hix hz1
      have hi9 : (0 : Int) ≤ i ∧ (i : Int) < 64 := by omega
      have hp9 : (0 : Int) ≤ p ∧ (p : Int) < 64 := by omega
      have bq : wr.cell? ⟨g, p, none⟩ = some (.int .i64 (q p)) := (HB.cell (p := ⟨g, p, none⟩) hg1).trans (hg2 p hz1)
      have zq : g < wr.heap.size := Nat.lt_of_lt_of_le hg1 HB.size
      have hqp := hg3 p hz1
      have zr := heap_lt H1
      have zr0 : w.heap.size < wr.heap.size := by omega
      have cb := row_cell H0 hlt
      have c1 := row_cell H1 hz1
      have f1 := row_free H1 p
      have hr0 := clip_in (lo := -2048) (hi := 2047) (b i) (by omega)
      have hm := mul_bd (A := 2048) (B := 255) (a := clipI (-2048) 2047 (b i)) (b := q p) (by omega) (by omega)
      have hw : wrap64 (clipI (-2048) 2047 (b i) * q p) = clipI (-2048) 2047 (b i) * q p := w64 (by omega) (by omega)
      have hS1 : I64 (b i) := hI i hlt
      have hS2 : I64 (-2048) := i64_of (by omega) (by omega)
      have hS3 : I64 2047 := i64_of (by omega) (by omega)
      have HX : Hid ((Below w.heap.size w wr ∧ wr.heap[w.heap.size]? = some (.cells (blk (b)) 45 (0, 0)) ∧ wr.heap[w.heap.size + 1]? = some (.cells (blk (tmQ (qbI b q) i)) 45 (0, 0))) ∧ p = zn i ∧ clipI (-2048) 2047 (b i) * q p = qbI b q (zn i)) := ⟨⟨HB, H0, H1⟩, hp, by rw [qbI, hz3, hp]⟩
      clear HB H0 H1 hp hz2 hz3 hrr hg2 hg3 hr0 hm hI
      go_wp2_with (fail)
      refine wp_region_calm_tail 12 (by kernel_rfl) (by kernel_rfl) ?_
      (repeat (first | go_big_quiet_step (first | (go_at_call 52; exact calm_call (sclip_ _ _ _ _ hS1 hS2 hS3)) | (go_at_call 49; exact calm_call (sec_of _ _)) | (go_at_call 53; exact calm_call (sec_mul _ _ _))) | quiet_step (first | (go_at_call 52; exact calm_call (sclip_ _ _ _ _ hS1 hS2 hS3)) | (go_at_call 49; exact calm_call (sec_of _ _)) | (go_at_call 53; exact calm_call (sec_mul _ _ _)))))
      refine wpQuiet_nil ?_
      intro u
      have hzu := u.below.size
      try simp at hzu
      go_wp2
      go_roundg (64 - (i + 1))
      case measure => omega
      case rel =>
        obtain ⟨⟨HB, H0, H1⟩, hp, he⟩ := HX.out
        refine ⟨i + 1, by omega, by go_num, gr4 (gr2 HB u.below) (by simp) _, (heap_setCell_other _ _ _ _ (by first | (simp; done) | (simp; omega))).trans (at_be H0 u.below), ?_⟩
        have := heap_setCell_same _ _ (zn i) _ _ (.int .i64 (qbI b q (zn i))) (at_be H1 u.below)
        rw [blk_tmQ _ hlt] at this
        rw [he, hp]
        exact this
    · have hk64 : i = 64 := by omega
      subst hk64
      have t1 : decide (((64 : Nat) : Int) < 64) = false := rfl
      rw [blk_tmQ_all] at H1
      go_wp2_with (first
        | (refine wpList_load_s _ H1 rfl _ rfl rfl ?_)
        | (refine wpList_store_row rfl _ _ _ rfl (w.heap.size + 1) _ rfl rfl _ _ H1 (blk_infoS _) (blk_sz _ _) (blk_one _) ?_))
      refine bodyPost_ret (results_cell_row rfl _ _ (w.heap.size + 1) _ _ _ _ rfl (setRow_heap _ _ _ _ _ _ H1) Tryd.underlying45 rfl (blk_infoS _)) rfl ⟨rfl, below_setRow HB (by omega) _⟩


end Go.Proofs.YtkaoajfdbjlioaaDoor
