/- The chapter's own Forward and Back. -/
import Derived.Test.YtkaoajfdbjlioaaDoorQuantL
import Derived.Great.BuildSlice
namespace Go.Proofs.YtkaoajfdbjlioaaDoor
open Go.RowKit

theorem zig_blk : (zigL.map (Value.int .i64)).toArray = blk zigN := rfl
theorem wpList_flat {ops : Array Oper} {rest : List Oper} {o : Oper} {a : Act} {w : World} {Q : Exit → Act → World → Prop} {zs : List Int} {f : Nat → Int} (hz : (zs.map (Value.int .i64)).toArray = blk f) (hl : 64 = zs.length) (hg : o.guard = none) (parts : Array (Nat × Operand)) (ho : o.op = .buildSlice 34 64 parts)
    (hparts : parts.toList = (zs.zipIdx 0).map fun x => (x.2, Operand.const (Value.int .i64 x.1)))
    (h : wpList Tryd.prog ops Q rest (a.put o.dst (.slice (some ⟨w.heap.size, 0, none⟩) 64 64)) (w.alloc (.cells (blk f) 3))) : wpList Tryd.prog ops Q (o :: rest) a w :=
  wpList_buildFlat hg 34 3 64 parts ho .i64 zs Tryd.underlying34 (by kernel_rfl) (by kernel_rfl) hl (by decide) (by decide) hparts (by rw [hz]; exact h)

set_option maxRecDepth 100000 in
set_option maxHeartbeats 2000000 in
theorem rzig_ (i : Int) (w : World) :
    Calls Tryd.prog 50 #[.int .i64 i] w fun e w' => e = .returned (.int .i64 (zigI i)) ∧ Below w.heap.size w w' := by
  by_cases h0 : i < 0
  · have e : zigI i = 0 := by unfold zigI; rw [if_pos (by omega)]
    have d0 : decide (i < 0) = true := by simp; omega
    go_enter Tryd.func50, Tryd.ntmps50
    go_wp2_with (first
      | (refine wp_region_calm (by kernel_rfl) (by kernel_rfl) ?_; repeat (first | go_big_quiet_step (fail) | quiet_step (fail))
         refine wpQuiet_nil ?_; intro u; have hzu := u.below.size; try simp at hzu))
    all_goals go_ret
    all_goals refine ⟨by first | rfl | exact ret_int e.symm, ?_⟩
    all_goals (repeat (first | exact gr0 _ | refine gr1 ?_ _ | refine gr2 ?_ (Later.below _) | refine gr2 ?_ (by assumption) | refine gr3 ?_ | refine gr4 ?_ (by first | (simp; done) | (simp; omega) | omega) _))
  · skip
    by_cases h1 : 63 < i
    · have e : zigI i = 0 := by unfold zigI; rw [if_pos (by omega)]
      have d0 : decide (i < 0) = false := by simp; omega
      have d1 : decide (63 < i) = true := by simp; omega
      go_enter Tryd.func50, Tryd.ntmps50
      go_wp2_with (first
        | (refine wp_region_calm (by kernel_rfl) (by kernel_rfl) ?_; repeat (first | go_big_quiet_step (fail) | quiet_step (fail))
           refine wpQuiet_nil ?_; intro u; have hzu := u.below.size; try simp at hzu))
      all_goals go_ret
      all_goals refine ⟨by first | rfl | exact ret_int e.symm, ?_⟩
      all_goals (repeat (first | exact gr0 _ | refine gr1 ?_ _ | refine gr2 ?_ (Later.below _) | refine gr2 ?_ (by assumption) | refine gr3 ?_ | refine gr4 ?_ (by first | (simp; done) | (simp; omega) | omega) _))
    · skip
      have e : zigI i = zigN i.toNat := by unfold zigI; rw [if_neg (by omega)]
      obtain ⟨n, rfl⟩ := Int.eq_ofNat_of_zero_le (a := i) (by omega)
      have hn : n < 64 := by omega
      have hcell := blk_at (f := zigN) hn
      rw [Int.toNat_natCast] at e
      have d0 : decide ((n : Int) < 0) = false := by first | (simp; done) | (simp; omega)
      have d1 : decide (63 < (n : Int)) = false := by first | (simp; done) | (simp; omega)
      go_enter Tryd.func50, Tryd.ntmps50
      go_wp2_with (refine wpList_flat zig_blk rfl rfl _ rfl rfl ?_)
      all_goals go_ret
      all_goals refine ⟨by first | rfl | exact ret_int e.symm, ?_⟩
      all_goals (repeat (first | exact gr0 _ | refine gr1 ?_ _ | refine gr2 ?_ (Later.below _) | refine gr2 ?_ (by assumption) | refine gr3 ?_ | refine gr4 ?_ (by first | (simp; done) | (simp; omega) | omega) _))


theorem at_set {w : World} {g k : Nat} {o : Obj} {p : Nat} {v : Value} (h : w.heap[g]? = some o) (hn : g ≠ p) : (w.setCell ⟨p, k, none⟩ v).heap[g]? = some o := (heap_setCell_other _ _ _ _ hn).trans h
theorem rzigp_ {i : Int} {p : Nat} (h : zigI i = (p : Int)) (w : World) :
    Calls Tryd.prog 50 #[.int .i64 i] w fun e w' => e = .returned (.int .i64 (p : Int)) ∧ Below w.heap.size w w' := by
  rw [← h]; exact rzig_ i w

set_option maxRecDepth 100000 in
set_option maxHeartbeats 2000000 in
theorem rqbwd_ (b q : Nat → Int) (v : Value) (w : World) (H : Stp v q w) :
    Calls Tryd.prog 32 #[.agg (blk b), v] w fun e w' => e = .returned (.agg (blk (qbI b q))) ∧ Below w.heap.size w w' := by
  go_enter Tryd.func32, Tryd.ntmps32
  go_wp2_with (first | (refine wpList_zero_b rfl rfl ?_) | (refine wpList_alloc_b rfl rfl ?_) | (refine wpList_store_b rfl _ _ rfl rfl rfl (by simp) ?_))
  refine wp_abs (fun W' => Below w.heap.size w W' ∧ W'.heap[w.heap.size]? = some (.cells (blk b) 23 (0, 0)) ∧ W'.heap[w.heap.size + 1]? = some (.cells (blk fun _ => 0) 23 (0, 0)) ∧ W'.heap[w.heap.size + 1 + 1]? = some (.cells (blk (tmQ (qbI b q) 0)) 23 (0, 0))) ⟨gr1 (gr1 (gr1 (gr0 _) _) _) _, ?_, ?_, ?_⟩ ?_
  · simp only [heap_alloc_if, World.size_alloc]; repeat (first | rw [if_pos trivial] | rw [if_pos (by omega)] | rw [if_neg (by omega)])
  · simp only [heap_alloc_if, World.size_alloc]; repeat (first | rw [if_pos trivial] | rw [if_pos (by omega)] | rw [if_neg (by omega)])
  · simp only [heap_alloc_if, World.size_alloc]; repeat (first | rw [if_pos trivial] | rw [if_pos (by omega)] | rw [if_neg (by omega)])
    rw [blk_tmQ_0]
  intro W2 H9
  obtain ⟨g, c, rfl, hg1, hg2, hg3⟩ := H
  go_loopg [6] 64 (fun gj i wr => ∃ jj : Nat, jj + gj = 64 ∧ i = .int .i64 jj ∧ Below w.heap.size w wr ∧ wr.heap[w.heap.size]? = some (.cells (blk b) 23 (0, 0)) ∧ wr.heap[w.heap.size + 1]? = some (.cells (blk fun _ => 0) 23 (0, 0)) ∧ wr.heap[w.heap.size + 1 + 1]? = some (.cells (blk (tmQ (qbI b q) jj)) 23 (0, 0)))
  case atStart => exact ⟨0, rfl, rfl, H9⟩
  case round =>
    clear H9
    obtain ⟨i, hi, rfl, HB, H0, H1, H2⟩ := hrel
    by_cases hlt : i < 64
    · have t1 : decide ((i : Int) < 64) = true := by simp; omega
      obtain ⟨hz1, hz2, hz3⟩ := zn_all i hlt
      have hzp : zigI (i : Int) = (zn i : Int) := by unfold zigI; rw [if_neg (by omega), Int.toNat_natCast, hz2]
      obtain ⟨p, hp⟩ : ∃ p, p = zn i := ⟨_, rfl⟩
      rw [← hp] at hz1 hzp
      have hi9 : (0 : Int) ≤ i ∧ (i : Int) < 64 := by omega
      have hp9 : (0 : Int) ≤ p ∧ (p : Int) < 64 := by omega
      have bq : wr.cell? ⟨g, p, none⟩ = some (.int .i64 (q p)) := (HB.cell (p := ⟨g, p, none⟩) hg1).trans (hg2 p hz1)
      have zq : g < wr.heap.size := Nat.lt_of_lt_of_le hg1 HB.size
      have hqp := hg3 p hz1
      have zr := heap_lt H2
      have zr0 : w.heap.size < wr.heap.size := by omega
      have cb := row_cell H0 hlt
      have c1 := row_cell H2 hz1
      have f1 := row_free H2 p
      have hr0 := clip_in (lo := -2048) (hi := 2047) (b i) (by omega)
      have hm := mul_bd (A := 2048) (B := 255) (a := clipI (-2048) 2047 (b i)) (b := q p) (by omega) (by omega)
      have hw : wrap64 (clipI (-2048) 2047 (b i) * q p) = clipI (-2048) 2047 (b i) * q p := w64 (by omega) (by omega)
      have HX : Hid ((Below w.heap.size w wr ∧ wr.heap[w.heap.size]? = some (.cells (blk b) 23 (0, 0)) ∧ wr.heap[w.heap.size + 1]? = some (.cells (blk fun _ => 0) 23 (0, 0)) ∧ wr.heap[w.heap.size + 1 + 1]? = some (.cells (blk (tmQ (qbI b q) i)) 23 (0, 0))) ∧ p = zn i ∧ clipI (-2048) 2047 (b i) * q p = qbI b q (zn i)) := ⟨⟨HB, H0, H1, H2⟩, hp, by rw [qbI, hz3, hp]⟩
      clear HB H0 H1 H2 hp hz2 hz3 hg2 hg3 hr0 hm
      go_wp2_with (fail)
      refine wp_region_calm_tail 13 (by kernel_rfl) (by kernel_rfl) ?_
      (repeat (first | go_big_quiet_step (first | (go_at_call 50; exact calm_call (rzigp_ hzp _)) | (go_at_call 36; exact calm_call (rclip_ _ _ _ _))) | quiet_step (first | (go_at_call 50; exact calm_call (rzigp_ hzp _)) | (go_at_call 36; exact calm_call (rclip_ _ _ _ _)))))
      refine wpQuiet_nil ?_
      intro u
      have hzu := u.below.size
      try simp at hzu
      go_wp2
      go_roundg (64 - (i + 1))
      case measure => omega
      case rel =>
        obtain ⟨⟨HB, H0, H1, H2⟩, hp, he⟩ := HX.out
        refine ⟨i + 1, by omega, by go_num, gr4 (gr2 HB u.below) (by simp; omega) _, (heap_setCell_other _ _ _ _ (show w.heap.size ≠ w.heap.size + 1 + 1 by omega)).trans (at_be H0 u.below), (heap_setCell_other _ _ _ _ (show w.heap.size + 1 ≠ w.heap.size + 1 + 1 by omega)).trans (at_be H1 u.below), ?_⟩
        have := heap_setCell_same _ _ (zn i) _ _ (.int .i64 (qbI b q (zn i))) (at_be H2 u.below)
        rw [blk_tmQ _ hlt] at this
        rw [he, hp]
        exact this
    · have hk64 : i = 64 := by omega
      subst hk64
      have t1 : decide (((64 : Nat) : Int) < 64) = false := rfl
      rw [blk_tmQ_all] at H2
      clear H0
      go_wp2_with (first
        | (refine wpList_load_b _ H2 rfl _ rfl rfl ?_)
        | (refine wpList_store_row rfl _ _ _ rfl (w.heap.size + 1) _ rfl rfl _ _ H1 (blk_info _) (blk_sz _ _) (blk_one _) ?_))
      refine bodyPost_ret (results_cell_row rfl _ _ (w.heap.size + 1) _ _ _ _ rfl (setRow_heap _ _ _ _ _ _ H1) Tryd.underlying23 rfl (blk_info _)) rfl ⟨rfl, below_setRow HB (by omega) _⟩

set_option maxRecDepth 100000 in
set_option maxHeartbeats 2000000 in
theorem rqfwd_ (b q : Nat → Int) (v : Value) (w : World) (H : Stp v q w) :
    Calls Tryd.prog 31 #[.agg (blk b), v] w fun e w' => e = .returned (.agg (blk (qfI b q))) ∧ Below w.heap.size w w' := by
  go_enter Tryd.func31, Tryd.ntmps31
  go_wp2_with (first | (refine wpList_zero_b rfl rfl ?_) | (refine wpList_alloc_b rfl rfl ?_) | (refine wpList_store_b rfl _ _ rfl rfl rfl (by simp) ?_))
  refine wp_abs (fun W' => Below w.heap.size w W' ∧ W'.heap[w.heap.size]? = some (.cells (blk b) 23 (0, 0)) ∧ W'.heap[w.heap.size + 1]? = some (.cells (blk fun _ => 0) 23 (0, 0)) ∧ W'.heap[w.heap.size + 1 + 1]? = some (.cells (blk (upTo (qfI b q) 0)) 23 (0, 0))) ⟨gr1 (gr1 (gr1 (gr0 _) _) _) _, ?_, ?_, ?_⟩ ?_
  · simp only [heap_alloc_if, World.size_alloc]; repeat (first | rw [if_pos trivial] | rw [if_pos (by omega)] | rw [if_neg (by omega)])
  · simp only [heap_alloc_if, World.size_alloc]; repeat (first | rw [if_pos trivial] | rw [if_pos (by omega)] | rw [if_neg (by omega)])
  · simp only [heap_alloc_if, World.size_alloc]; repeat (first | rw [if_pos trivial] | rw [if_pos (by omega)] | rw [if_neg (by omega)])
    rw [upTo_0]
  intro W2 H9
  obtain ⟨g, c, rfl, hg1, hg2, hg3⟩ := H
  go_loopg [6] 64 (fun gj i wr => ∃ jj : Nat, jj + gj = 64 ∧ i = .int .i64 jj ∧ Below w.heap.size w wr ∧ wr.heap[w.heap.size]? = some (.cells (blk b) 23 (0, 0)) ∧ wr.heap[w.heap.size + 1]? = some (.cells (blk fun _ => 0) 23 (0, 0)) ∧ wr.heap[w.heap.size + 1 + 1]? = some (.cells (blk (upTo (qfI b q) jj)) 23 (0, 0)))
  case atStart => exact ⟨0, rfl, rfl, H9⟩
  case round =>
    clear H9
    obtain ⟨i, hi, rfl, HB, H0, H1, H2⟩ := hrel
    by_cases hlt : i < 64
    · have t1 : decide ((i : Int) < 64) = true := by simp; omega
      obtain ⟨hz1, hz2, hz3⟩ := zn_all i hlt
      have hzp : zigI (i : Int) = (zn i : Int) := by unfold zigI; rw [if_neg (by omega), Int.toNat_natCast, hz2]
      obtain ⟨p, hp⟩ : ∃ p, p = zn i := ⟨_, rfl⟩
      rw [← hp] at hz1 hzp
      have hi9 : (0 : Int) ≤ i ∧ (i : Int) < 64 := by omega
      have hp9 : (0 : Int) ≤ p ∧ (p : Int) < 64 := by omega
      have bq : wr.cell? ⟨g, p, none⟩ = some (.int .i64 (q p)) := (HB.cell (p := ⟨g, p, none⟩) hg1).trans (hg2 p hz1)
      have zq : g < wr.heap.size := Nat.lt_of_lt_of_le hg1 HB.size
      have hqp := hg3 p hz1
      have zr := heap_lt H2
      have zr0 : w.heap.size < wr.heap.size := by omega
      have cb := row_cell H0 hz1
      have c1 := row_cell H2 hlt
      have f1 := row_free H2 i
      have hr0 := clip_in (lo := -32767) (hi := 32767) (b p) (by omega)
      have hr1 : -2305843009213693952 ≤ clipI (-32767) 32767 (b p) ∧ clipI (-32767) 32767 (b p) ≤ 2305843009213693952 := by omega
      have hr2 : 1 ≤ q p ∧ q p ≤ 1099511627776 := by omega
      have HX : Hid ((Below w.heap.size w wr ∧ wr.heap[w.heap.size]? = some (.cells (blk b) 23 (0, 0)) ∧ wr.heap[w.heap.size + 1]? = some (.cells (blk fun _ => 0) 23 (0, 0)) ∧ wr.heap[w.heap.size + 1 + 1]? = some (.cells (blk (upTo (qfI b q) i)) 23 (0, 0))) ∧ clipI (leaI i) 1023 (rndD (clipI (-32767) 32767 (b p)) (q p)) = qfI b q i) := ⟨⟨HB, H0, H1, H2⟩, by rw [hp]; rfl⟩
      clear HB H0 H1 H2 hp hz2 hz3 hg2 hg3 hr0
      by_cases h0 : 0 < i
      · have e0 : ((i : Int) == 0) = false := by simp; omega
        have HL : Hid (leaI i = -1023) := by unfold leaI; exact if_neg (by omega)
        go_wp2_with (first
    | (go_at_call 50; refine (rzigp_ hzp _).mono ?_; rintro e W1 ⟨rfl, hb1⟩; obtain ⟨hc1, hf1, hz1⟩ := bcell hb1; (try simp at hz1))
    | (go_at_call 36; refine (rclip_ _ _ _ _).mono ?_; rintro e W1 ⟨rfl, hb1⟩; obtain ⟨hc1, hf1, hz1⟩ := bcell hb1; (try simp at hz1))
    | (go_at_call 37; refine (rround_ _ _ _ hr1 hr2).mono ?_; rintro e W1 ⟨rfl, hb1⟩; obtain ⟨hc1, hf1, hz1⟩ := bcell hb1; (try simp at hz1)))
        go_roundg (64 - (i + 1))
        case measure => omega
        case rel =>
          obtain ⟨⟨HB, H0, H1, H2⟩, he⟩ := HX.out
          rw [HL.out] at he
          refine ⟨i + 1, by omega, by go_num, by (repeat (first | exact HB | exact gr0 _ | refine gr1 ?_ _ | refine gr2 ?_ (Later.below _) | refine gr2 ?_ (by assumption) | refine gr3 ?_ | refine gr4 ?_ (by first | (simp; done) | (simp; omega) | omega) _)), ?_, ?_, ?_⟩
          · refine (heap_setCell_other _ _ _ _ (show w.heap.size ≠ w.heap.size + 1 + 1 by omega)).trans (at_be (at_be (at_be (at_be (at_be H0 (by assumption)) (by assumption)) (by assumption)) (by assumption)) (by assumption))
          · refine (heap_setCell_other _ _ _ _ (show w.heap.size + 1 ≠ w.heap.size + 1 + 1 by omega)).trans (at_be (at_be (at_be (at_be (at_be H1 (by assumption)) (by assumption)) (by assumption)) (by assumption)) (by assumption))
          · rw [heap_setCell_same _ _ _ _ _ _ (at_be (at_be (at_be (at_be (at_be H2 (by assumption)) (by assumption)) (by assumption)) (by assumption)) (by assumption)), he, blk_set]
      · have e0 : ((i : Int) == 0) = true := by simp; omega
        have HL : Hid (leaI i = -1024) := by unfold leaI; exact if_pos (by omega)
        have HJ : Hid (¬ 0 < i) := h0
        clear h0
        go_wp2_with (first
    | (go_at_call 50; refine (rzigp_ hzp _).mono ?_; rintro e W1 ⟨rfl, hb1⟩; obtain ⟨hc1, hf1, hz1⟩ := bcell hb1; (try simp at hz1))
    | (go_at_call 36; refine (rclip_ _ _ _ _).mono ?_; rintro e W1 ⟨rfl, hb1⟩; obtain ⟨hc1, hf1, hz1⟩ := bcell hb1; (try simp at hz1))
    | (go_at_call 37; refine (rround_ _ _ _ hr1 hr2).mono ?_; rintro e W1 ⟨rfl, hb1⟩; obtain ⟨hc1, hf1, hz1⟩ := bcell hb1; (try simp at hz1)))
        go_roundg (64 - (i + 1))
        case measure => omega
        case rel =>
          obtain ⟨⟨HB, H0, H1, H2⟩, he⟩ := HX.out
          rw [HL.out] at he
          refine ⟨i + 1, by omega, by go_num, by (repeat (first | exact HB | exact gr0 _ | refine gr1 ?_ _ | refine gr2 ?_ (Later.below _) | refine gr2 ?_ (by assumption) | refine gr3 ?_ | refine gr4 ?_ (by first | (simp; done) | (simp; omega) | omega) _)), ?_, ?_, ?_⟩
          · refine at_set (at_be (at_set (at_be (at_be (at_be (at_be (at_be H0 (by assumption)) (by assumption)) (by assumption)) (by assumption)) (by assumption)) ?_) (by assumption)) ?_
            all_goals (show w.heap.size ≠ w.heap.size + 1 + 1; omega)
          · refine at_set (at_be (at_set (at_be (at_be (at_be (at_be (at_be H1 (by assumption)) (by assumption)) (by assumption)) (by assumption)) (by assumption)) ?_) (by assumption)) ?_
            all_goals (show w.heap.size + 1 ≠ w.heap.size + 1 + 1; omega)
          · refine (heap_setCell_same _ _ _ _ _ _ (at_be (heap_setCell_same _ _ _ _ _ _ (at_be (at_be (at_be (at_be (at_be H2 (by assumption)) (by assumption)) (by assumption)) (by assumption)) (by assumption))) (by assumption))).trans ?_
            rw [Array.setIfInBounds_setIfInBounds, he, blk_set]
    · have hk64 : i = 64 := by omega
      subst hk64
      have t1 : decide (((64 : Nat) : Int) < 64) = false := rfl
      rw [blk_all] at H2
      clear H0
      go_wp2_with (first
        | (refine wpList_load_b _ H2 rfl _ rfl rfl ?_)
        | (refine wpList_store_row rfl _ _ _ rfl (w.heap.size + 1) _ rfl rfl _ _ H1 (blk_info _) (blk_sz _ _) (blk_one _) ?_))
      refine bodyPost_ret (results_cell_row rfl _ _ (w.heap.size + 1) _ _ _ _ rfl (setRow_heap _ _ _ _ _ _ H1) Tryd.underlying23 rfl (blk_info _)) rfl ⟨rfl, below_setRow HB (by omega) _⟩

end Go.Proofs.YtkaoajfdbjlioaaDoor
