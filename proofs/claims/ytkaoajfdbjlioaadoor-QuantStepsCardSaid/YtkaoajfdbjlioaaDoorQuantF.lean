/- Blocks by steps: what lies in memory. -/
import Derived.Test.YtkaoajfdbjlioaaDoorQuant
import Derived.Test.YtkaoajfdbjlioaaDoorKnown09
import Derived.Test.YtkaoajfdbjlioaaDoorApp
namespace Go.Proofs.YtkaoajfdbjlioaaDoor
open Go.RowKit

def izL : List Nat := [0, 1, 5, 6, 14, 15, 27, 28, 2, 4, 7, 13, 16, 26, 29, 42, 3, 8, 12, 17, 25, 30, 41, 43, 9, 11, 18, 24, 31, 40, 44, 53, 10, 19, 23, 32, 39, 45, 52, 54, 20, 22, 33, 38, 46, 51, 55, 60, 21, 34, 37, 47, 50, 56, 59, 61, 35, 36, 48, 49, 57, 58, 62, 63]
def iz (p : Nat) : Nat := izL.getD p 0
def zn (i : Nat) : Nat := (zigN i).toNat
theorem zn_all : ∀ i, i < 64 → zn i < 64 ∧ zigN i = (zn i : Int) ∧ iz (zn i) = i := by decide +kernel
theorem iz_all : ∀ p, p < 64 → iz p < 64 ∧ zn (iz p) = p := by decide +kernel
def leaI (i : Int) : Int := if i = 0 then -1024 else -1023
/-- By steps, in zigzag order. -/
def qfI (b q : Nat → Int) (i : Nat) : Int := clipI (leaI i) 1023 (rndD (clipI (-32767) 32767 (b (zn i))) (q (zn i)))
/-- The way back. -/
def qbI (z q : Nat → Int) (p : Nat) : Int := clipI (-2048) 2047 (z (iz p)) * q p
/-- Sixty-four steps. -/
def Stp (v : Value) (q : Nat → Int) (w : World) : Prop := ∃ g c, v = .slice (some ⟨g, 0, none⟩) 64 c ∧ g < w.heap.size ∧ (∀ i, i < 64 → w.cell? ⟨g, i, none⟩ = some (.int .i64 (q i))) ∧ (∀ i, i < 64 → 1 ≤ q i ∧ q i ≤ 255)
theorem Stp.below {v : Value} {q : Nat → Int} {w w' : World} (H : Stp v q w) (hb : Below w.heap.size w w') : Stp v q w' := by
  obtain ⟨g, c, e, h1, h2, h3⟩ := H
  exact ⟨g, c, e, Nat.lt_of_lt_of_le h1 hb.size, fun i hi => (hb.cell (p := ⟨g, i, none⟩) h1).trans (h2 i hi), h3⟩
theorem Stp.steps {v : Value} {q : Nat → Int} {w : World} (H : Stp v q w) : ∀ i, i < 64 → 1 ≤ q i ∧ q i ≤ 255 := by
  obtain ⟨_, _, _, _, _, h⟩ := H
  exact h
/-- A row of numbers. -/
def rowL (f : Nat → Int) (k : Nat) : List Value := (List.range k).map fun j => Value.int .i64 (f j)
theorem rowL_succ (f : Nat → Int) (k : Nat) : rowL f (k + 1) = rowL f k ++ [.int .i64 (f k)] := by unfold rowL; rw [List.range_succ, List.map_append]; rfl
theorem rowL_at (f : Nat → Int) {k j : Nat} (h : j < k) : (rowL f k)[j]? = some (.int .i64 (f j)) := by unfold rowL; simp [h]
theorem stp_own {b0 : Nat} {v : Value} {q : Nat → Int} {w : World} (h : w.ownsRow b0 3 1 v 64 (rowL q 64)) (hq : ∀ i, i < 64 → 1 ≤ q i ∧ q i ≤ 255) : Stp v q w := by
  have h0 := h
  rcases h.2 with ⟨_, hn⟩ | ⟨g, c, cur, rfl, _, hh, _⟩
  · exact absurd hn (by decide)
  · exact ⟨g, c, rfl, heap_lt hh, fun i hi => own_cell h0 (rowL_at q hi), hq⟩
theorem right_ {v : Value} {q : Nat → Int} {w : World} (H : Stp v q w) : Calls Tryd.prog 41 #[v] w fun e w' => e = .returned (.bool true) ∧ Below w.heap.size w w' := by
  obtain ⟨g, c, rfl, h1, h2, h3⟩ := H
  clear h1 h2 h3
  go_enter Tryd.func41, Tryd.ntmps41
  go_wp2_with (first
    | (refine wp_region_calm (by kernel_rfl) (by kernel_rfl) ?_; repeat (first | go_big_quiet_step (fail) | quiet_step (fail))
       refine wpQuiet_nil ?_; intro u; have hzu := u.below.size; try simp at hzu))
  go_ret
  refine ⟨rfl, ?_⟩
  repeat (first | exact gr0 _ | refine gr1 ?_ _ | refine gr2 ?_ (Later.below _) | refine gr2 ?_ (by assumption) | refine gr3 ?_ | refine gr4 ?_ (by first | (simp; done) | (simp; omega) | omega) _)

theorem least_ (i : Int) (w : World) :
    Calls Tryd.prog 44 #[.int .i64 i] w fun e w' => e = .returned (.int .i64 (leaI i)) ∧ Below w.heap.size w w' := by
  by_cases h : i = 0
  · have e : leaI i = -1024 := by unfold leaI; rw [if_pos h]
    have d : (i == 0) = true := by simp; exact h
    clear h
    go_enter Tryd.func44, Tryd.ntmps44
    go_wp2_with (first
      | (refine wp_region_calm (by kernel_rfl) (by kernel_rfl) ?_; repeat (first | go_big_quiet_step (fail) | quiet_step (fail))
         refine wpQuiet_nil ?_; intro u; have hzu := u.below.size; try simp at hzu))
    all_goals go_ret
    all_goals refine ⟨by first | rfl | exact ret_int e.symm, ?_⟩
    all_goals (repeat (first | exact gr0 _ | refine gr1 ?_ _ | refine gr2 ?_ (Later.below _) | refine gr2 ?_ (by assumption) | refine gr3 ?_ | refine gr4 ?_ (by first | (simp; done) | (simp; omega) | omega) _))
  · skip
    have e : leaI i = -1023 := by unfold leaI; rw [if_neg h]
    have d : (i == 0) = false := by simp; exact h
    clear h
    go_enter Tryd.func44, Tryd.ntmps44
    go_wp2_with (first
      | (refine wp_region_calm (by kernel_rfl) (by kernel_rfl) ?_; repeat (first | go_big_quiet_step (fail) | quiet_step (fail))
         refine wpQuiet_nil ?_; intro u; have hzu := u.below.size; try simp at hzu))
    all_goals go_ret
    all_goals refine ⟨by first | rfl | exact ret_int e.symm, ?_⟩
    all_goals (repeat (first | exact gr0 _ | refine gr1 ?_ _ | refine gr2 ?_ (Later.below _) | refine gr2 ?_ (by assumption) | refine gr3 ?_ | refine gr4 ?_ (by first | (simp; done) | (simp; omega) | omega) _))

set_option maxRecDepth 100000 in
set_option maxHeartbeats 2000000 in
theorem qfwd_ (b q : Nat → Int) (v : Value) (w : World) (hT : Tabs w) (H : Stp v q w) :
    Calls Tryd.prog 23 #[.agg (blk b), v] w fun e w' => e = .returned (.agg (blk (qfI b q))) ∧ Below w.heap.size w w' := by
  have HS : Hid (Stp v q w) := H
  have HT : Hid (Tabs w) := hT
  clear hT
  go_enter Tryd.func23, Tryd.ntmps23
  go_wp2_with (first | (refine wpList_alloc_b rfl rfl ?_) | (go_at_call 41; refine (right_ (HS.out.below (gr1 (gr1 (gr0 _) _) _))).mono ?_; rintro e W1 ⟨rfl, hb1⟩; have hT1 := HT.out.below (gr2 (gr1 (gr1 (gr0 _) _) _) hb1); obtain ⟨hc1, hf1, hz1⟩ := bcell hb1) | (refine wpList_load_at (f := zigN) 1 0 (fun j hj => by rw [Nat.zero_add]; exact hT1.2.1 j hj) rfl _ rfl rfl ?_))
  refine wp_abs (fun W' => Below w.heap.size w W' ∧ W'.heap[w.heap.size]? = some (.cells (blk (b)) 23 (0, 0)) ∧ W'.heap[w.heap.size + 1]? = some (.cells (blk (upTo (qfI b q) 0)) 23 (0, 0))) ⟨gr2 (gr1 (gr1 (gr0 _) _) _) hb1, at_be (at_al (heap_alloc_new _ _)) hb1, ?_⟩ ?_
  · rw [upTo_0]
    exact at_be (by rw [heap_alloc_if, if_pos (by simp)]) hb1
  clear hb1 hT1 hc1 hf1 hz1
  intro W2 H9
  obtain ⟨g, c, rfl, hg1, hg2, hg3⟩ := H
  go_loopg [12] 64 (fun gj i wr => ∃ jj : Nat, jj + gj = 64 ∧ i = .int .i64 jj ∧ Below w.heap.size w wr ∧ wr.heap[w.heap.size]? = some (.cells (blk (b)) 23 (0, 0)) ∧ wr.heap[w.heap.size + 1]? = some (.cells (blk (upTo (qfI b q) jj)) 23 (0, 0)))
  case atStart => exact ⟨0, rfl, rfl, H9⟩
  case round =>
    clear H9
    obtain ⟨i, hi, rfl, HB, H0, H1⟩ := hrel
    by_cases hlt : i < 64
    · have t1 : decide ((i : Int) < 64) = true := by simp; omega
      obtain ⟨hz1, hz2, hz3⟩ := zn_all i hlt
      have hix : ∀ w, (Instr.index 22 (.agg (blk zigN)) (.int .i64 i)).run Tryd.prog w = .ok (.int .i64 (zn i : Int)) w := fun w => by rw [← hz2]; exact run_index_a w _ hlt
      have hrr : zn i = zn i := rfl
      obtain ⟨p, hp⟩ : ∃ p, p = zn i := ⟨_, rfl⟩
      rw [← hp] at hix hz1
      have hi9 : (0 : Int) ≤ i ∧ (i : Int) < 64 := by omega
      have hp9 : (0 : Int) ≤ p ∧ (p : Int) < 64 := by omega
      have bq : wr.cell? ⟨g, p, none⟩ = some (.int .i64 (q p)) := (HB.cell (p := ⟨g, p, none⟩) hg1).trans (hg2 p hz1)
      have zq : g < wr.heap.size := Nat.lt_of_lt_of_le hg1 HB.size
      have hqp := hg3 p hz1
      have zr := heap_lt H1
      have zr0 : w.heap.size < wr.heap.size := by omega
      have cb := row_cell H0 hz1
      have c1 := row_cell H1 hlt
      have f1 := row_free H1 i
      have hr0 := clip_in (lo := -32767) (hi := 32767) (b p) (by omega)
      have hr1 : -2305843009213693952 ≤ clipI (-32767) 32767 (b p) ∧ clipI (-32767) 32767 (b p) ≤ 2305843009213693952 := by omega
      have hr2 : 1 ≤ q p ∧ q p ≤ 1099511627776 := by omega
      have HX : Hid ((Below w.heap.size w wr ∧ wr.heap[w.heap.size]? = some (.cells (blk (b)) 23 (0, 0)) ∧ wr.heap[w.heap.size + 1]? = some (.cells (blk (upTo (qfI b q) i)) 23 (0, 0))) ∧ clipI (leaI i) 1023 (rndD (clipI (-32767) 32767 (b p)) (q p)) = qfI b q i) := ⟨⟨HB, H0, H1⟩, by rw [hp]; rfl⟩
      clear HB H0 H1 hp hz2 hz3 hrr hg2 hg3 hr0
      go_wp2_with (fail)
      refine wp_region_calm_tail 14 (by kernel_rfl) (by kernel_rfl) ?_
      (repeat (first | go_big_quiet_step (first | (go_at_call 42; exact calm_call (clip_ _ _ _ _)) | (go_at_call 43; exact calm_call (round_ _ _ _ hr1 hr2)) | (go_at_call 44; exact calm_call (least_ _ _))) | quiet_step (first | (go_at_call 42; exact calm_call (clip_ _ _ _ _)) | (go_at_call 43; exact calm_call (round_ _ _ _ hr1 hr2)) | (go_at_call 44; exact calm_call (least_ _ _)))))
      refine wpQuiet_nil ?_
      intro u
      have hzu := u.below.size
      try simp at hzu
      go_wp2
      go_roundg (64 - (i + 1))
      case measure => omega
      case rel =>
        obtain ⟨⟨HB, H0, H1⟩, he⟩ := HX.out
        refine ⟨i + 1, by omega, by go_num, gr4 (gr2 HB u.below) (by simp) _, (heap_setCell_other _ _ _ _ (by first | (simp; done) | (simp; omega))).trans (at_be H0 u.below), ?_⟩
        have := heap_setCell_same _ _ i _ _ (.int .i64 (qfI b q i)) (at_be H1 u.below)
        rw [blk_set] at this
        rw [he]
        exact this
    · have hk64 : i = 64 := by omega
      subst hk64
      have t1 : decide (((64 : Nat) : Int) < 64) = false := rfl
      rw [blk_all] at H1
      go_wp2_with (first
        | (refine wpList_load_b _ H1 rfl _ rfl rfl ?_)
        | (refine wpList_store_row rfl _ _ _ rfl (w.heap.size + 1) _ rfl rfl _ _ H1 (blk_info _) (blk_sz _ _) (blk_one _) ?_))
      refine bodyPost_ret (results_cell_row rfl _ _ (w.heap.size + 1) _ _ _ _ rfl (setRow_heap _ _ _ _ _ _ H1) Tryd.underlying23 rfl (blk_info _)) rfl ⟨rfl, below_setRow HB (by omega) _⟩

def tmQ (f : Nat → Int) (k : Nat) : Nat → Int := fun p => if iz p < k then f p else 0
theorem blk_tmQ (f : Nat → Int) {k : Nat} (hk : k < 64) : (blk (tmQ f k)).setIfInBounds (zn k) (.int .i64 (f (zn k))) = blk (tmQ f (k + 1)) := by
  rw [blk_put]
  refine blk_congr fun p hp => ?_
  obtain ⟨h1, h2, h3⟩ := zn_all k hk
  obtain ⟨h4, h5⟩ := iz_all p hp
  unfold tmQ
  by_cases e : p = zn k
  · rw [if_pos e, e, h3, if_pos (by omega)]
  · rw [if_neg e]
    have : iz p ≠ k := fun h => e (by rw [← h, h5])
    by_cases h6 : iz p < k
    · rw [if_pos h6, if_pos (by omega)]
    · rw [if_neg h6, if_neg (by omega)]
theorem blk_tmQ_0 (f : Nat → Int) : blk (tmQ f 0) = blk fun _ => 0 := blk_congr fun p _ => by unfold tmQ; rw [if_neg (by omega)]
theorem blk_tmQ_all (f : Nat → Int) : blk (tmQ f 64) = blk f := blk_congr fun p hp => by unfold tmQ; rw [if_pos (iz_all p hp).1]

set_option maxRecDepth 100000 in
set_option maxHeartbeats 2000000 in
theorem qbwd_ (b q : Nat → Int) (v : Value) (w : World) (hT : Tabs w) (H : Stp v q w) :
    Calls Tryd.prog 24 #[.agg (blk b), v] w fun e w' => e = .returned (.agg (blk (qbI b q))) ∧ Below w.heap.size w w' := by
  have HS : Hid (Stp v q w) := H
  have HT : Hid (Tabs w) := hT
  clear hT
  go_enter Tryd.func24, Tryd.ntmps24
  go_wp2_with (first | (refine wpList_alloc_b rfl rfl ?_) | (go_at_call 41; refine (right_ (HS.out.below (gr1 (gr1 (gr0 _) _) _))).mono ?_; rintro e W1 ⟨rfl, hb1⟩; have hT1 := HT.out.below (gr2 (gr1 (gr1 (gr0 _) _) _) hb1); obtain ⟨hc1, hf1, hz1⟩ := bcell hb1) | (refine wpList_load_at (f := zigN) 1 0 (fun j hj => by rw [Nat.zero_add]; exact hT1.2.1 j hj) rfl _ rfl rfl ?_))
  refine wp_abs (fun W' => Below w.heap.size w W' ∧ W'.heap[w.heap.size]? = some (.cells (blk (b)) 23 (0, 0)) ∧ W'.heap[w.heap.size + 1]? = some (.cells (blk (tmQ (qbI b q) 0)) 23 (0, 0))) ⟨gr2 (gr1 (gr1 (gr0 _) _) _) hb1, at_be (at_al (heap_alloc_new _ _)) hb1, ?_⟩ ?_
  · rw [blk_tmQ_0]
    exact at_be (by rw [heap_alloc_if, if_pos (by simp)]) hb1
  clear hb1 hT1 hc1 hf1 hz1
  intro W2 H9
  obtain ⟨g, c, rfl, hg1, hg2, hg3⟩ := H
  go_loopg [12] 64 (fun gj i wr => ∃ jj : Nat, jj + gj = 64 ∧ i = .int .i64 jj ∧ Below w.heap.size w wr ∧ wr.heap[w.heap.size]? = some (.cells (blk (b)) 23 (0, 0)) ∧ wr.heap[w.heap.size + 1]? = some (.cells (blk (tmQ (qbI b q) jj)) 23 (0, 0)))
  case atStart => exact ⟨0, rfl, rfl, H9⟩
  case round =>
    clear H9
    obtain ⟨i, hi, rfl, HB, H0, H1⟩ := hrel
    by_cases hlt : i < 64
    · have t1 : decide ((i : Int) < 64) = true := by simp; omega
      obtain ⟨hz1, hz2, hz3⟩ := zn_all i hlt
      have hix : ∀ w, (Instr.index 22 (.agg (blk zigN)) (.int .i64 i)).run Tryd.prog w = .ok (.int .i64 (zn i : Int)) w := fun w => by rw [← hz2]; exact run_index_a w _ hlt
      have hrr : zn i = zn i := rfl
      obtain ⟨p, hp⟩ : ∃ p, p = zn i := ⟨_, rfl⟩
      rw [← hp] at hix hz1
      have hi9 : (0 : Int) ≤ i ∧ (i : Int) < 64 := by omega
      have hp9 : (0 : Int) ≤ p ∧ (p : Int) < 64 := by omega
      have bq : wr.cell? ⟨g, p, none⟩ = some (.int .i64 (q p)) := (HB.cell (p := ⟨g, p, none⟩) hg1).trans (hg2 p hz1)
      have zq : g < wr.heap.size := Nat.lt_of_lt_of_le hg1 HB.size
      have hqp := hg3 p hz1
      have zr := heap_lt H1
      have zr0 : w.heap.size < wr.heap.size := by omega
      have cb := row_cell H0 hlt
      have c1 := row_cell H1 hz1
      have f1 := row_free H1 p
      have hr0 := clip_in (lo := -2048) (hi := 2047) (b i) (by omega)
      have hm := mul_bd (A := 2048) (B := 255) (a := clipI (-2048) 2047 (b i)) (b := q p) (by omega) (by omega)
      have hw : wrap64 (clipI (-2048) 2047 (b i) * q p) = clipI (-2048) 2047 (b i) * q p := w64 (by omega) (by omega)
      have HX : Hid ((Below w.heap.size w wr ∧ wr.heap[w.heap.size]? = some (.cells (blk (b)) 23 (0, 0)) ∧ wr.heap[w.heap.size + 1]? = some (.cells (blk (tmQ (qbI b q) i)) 23 (0, 0))) ∧ p = zn i ∧ clipI (-2048) 2047 (b i) * q p = qbI b q (zn i)) := ⟨⟨HB, H0, H1⟩, hp, by rw [qbI, hz3, hp]⟩
      clear HB H0 H1 hp hz2 hz3 hrr hg2 hg3 hr0 hm
      go_wp2_with (fail)
      refine wp_region_calm_tail 11 (by kernel_rfl) (by kernel_rfl) ?_
      (repeat (first | go_big_quiet_step (first | (go_at_call 42; exact calm_call (clip_ _ _ _ _))) | quiet_step (first | (go_at_call 42; exact calm_call (clip_ _ _ _ _)))))
      refine wpQuiet_nil ?_
      intro u
      have hzu := u.below.size
      try simp at hzu
      go_wp2
      go_roundg (64 - (i + 1))
      case measure => omega
      case rel =>
        obtain ⟨⟨HB, H0, H1⟩, hp, he⟩ := HX.out
        refine ⟨i + 1, by omega, by go_num, gr4 (gr2 HB u.below) (by simp) _, (heap_setCell_other _ _ _ _ (by first | (simp; done) | (simp; omega))).trans (at_be H0 u.below), ?_⟩
        have := heap_setCell_same _ _ (zn i) _ _ (.int .i64 (qbI b q (zn i))) (at_be H1 u.below)
        rw [blk_tmQ _ hlt] at this
        rw [he, hp]
        exact this
    · have hk64 : i = 64 := by omega
      subst hk64
      have t1 : decide (((64 : Nat) : Int) < 64) = false := rfl
      rw [blk_tmQ_all] at H1
      go_wp2_with (first
        | (refine wpList_load_b _ H1 rfl _ rfl rfl ?_)
        | (refine wpList_store_row rfl _ _ _ rfl (w.heap.size + 1) _ rfl rfl _ _ H1 (blk_info _) (blk_sz _ _) (blk_one _) ?_))
      refine bodyPost_ret (results_cell_row rfl _ _ (w.heap.size + 1) _ _ _ _ rfl (setRow_heap _ _ _ _ _ _ H1) Tryd.underlying23 rfl (blk_info _)) rfl ⟨rfl, below_setRow HB (by omega) _⟩

end Go.Proofs.YtkaoajfdbjlioaaDoor
