/- Blocks of choices; the chapter's example. -/
import Derived.Test.YtkaoajfdbjlioaaDoorDctH
import Derived.IntWalk
import Derived.Outline
namespace Go.Proofs.YtkaoajfdbjlioaaDoor
open Go.RowKit

def Bk (h : Nat → Int) (w wr : World) : Prop := Below w.heap.size w wr ∧ wr.heap[w.heap.size]? = some (.cells (blk fun _ => 0) 23 (0, 0)) ∧ wr.heap[w.heap.size + 1]? = some (.cells (blk h) 23 (0, 0))
theorem Bk.size {h : Nat → Int} {w wr : World} (H : Bk h w wr) : w.heap.size + 1 < wr.heap.size := heap_lt H.2.2
theorem Bk.later {h : Nat → Int} {w wr W : World} (H : Bk h w wr) (hb : Below wr.heap.size wr W) : Bk h w W := by
  have hs := H.size
  obtain ⟨a0, a1, a2⟩ := H
  exact ⟨gr2 a0 hb, (hb.block _ (by omega)).trans a1, (hb.block _ (by omega)).trans a2⟩
theorem Bk.set {h : Nat → Int} {k : Nat} {w wr : World} (H : Bk (upTo h k) w wr) : Bk (upTo h (k + 1)) w (wr.setCell ⟨w.heap.size + 1, k, none⟩ (.int .i64 (h k))) := by
  obtain ⟨a0, a1, a2⟩ := H
  have ne : ∀ j, j ≠ w.heap.size + 1 → (wr.setCell ⟨w.heap.size + 1, k, none⟩ (.int .i64 (h k))).heap[j]? = wr.heap[j]? := fun j hj => heap_setCell_other _ _ _ _ hj
  refine ⟨gr4 a0 (by first | (simp; done) | (simp; omega)) _, (ne _ (by omega)).trans a1, ?_⟩
  rw [heap_setCell_same _ _ _ _ _ _ a2, blk_set]
theorem Bk.start (h : Nat → Int) (w : World) : Bk (upTo h 0) w ((w.alloc (.cells (blk fun _ => 0) 23)).alloc (.cells (blk fun _ => 0) 23)) := by
  rw [upTo_0]
  refine ⟨gr1 (gr1 (gr0 _) _) _, ?_, ?_⟩
  all_goals (simp only [heap_alloc_if, World.size_alloc]; repeat (first | rw [if_pos trivial] | rw [if_pos (by omega)] | rw [if_neg (by omega)]))
theorem Bk.all {h : Nat → Int} {w wr : World} (H : Bk (upTo h 64) w wr) : Bk h w wr := by
  unfold Bk at *
  rwa [blk_all] at H
theorem blk_put (h : Nat → Int) (i : Nat) (v : Int) : (blk h).setIfInBounds i (.int .i64 v) = blk (fun j => if j = i then v else h j) := by
  apply Array.ext_getElem?
  intro j
  rw [Array.getElem?_setIfInBounds, blk_size]
  by_cases hj : j < 64
  · rw [blk_at hj, blk_at hj]
    by_cases e : i = j
    · subst e; rw [if_pos rfl, if_pos hj, if_pos rfl]
    · rw [if_neg e, if_neg (fun h => e h.symm)]
  · have h1 : ∀ f, (blk f)[j]? = none := fun f => Array.getElem?_eq_none (by rw [blk_size]; omega)
    rw [h1, h1]
    split
    · rw [if_neg (by omega)]
    · rfl
/-- The same, one place being whatever it is. -/
def Bk2 (h : Nat → Int) (i : Nat) (w wr : World) : Prop := Below w.heap.size w wr ∧ wr.heap[w.heap.size]? = some (.cells (blk fun _ => 0) 23 (0, 0)) ∧ ∃ h', wr.heap[w.heap.size + 1]? = some (.cells (blk h') 23 (0, 0)) ∧ ∀ j, j ≠ i → h' j = upTo h i j
theorem Bk.open_ {h : Nat → Int} {k : Nat} {v : Int} {w wr : World} (H : Bk (upTo h k) w wr) : Bk2 h k w (wr.setCell ⟨w.heap.size + 1, k, none⟩ (.int .i64 v)) := by
  obtain ⟨a0, a1, a2⟩ := H
  refine ⟨gr4 a0 (by first | (simp; done) | (simp; omega)) _, (heap_setCell_other _ _ _ _ (by simp)).trans a1, fun j => if j = k then v else upTo h k j, ?_, fun j hj => if_neg hj⟩
  rw [heap_setCell_same _ _ _ _ _ _ a2, blk_put]
theorem Bk2.later {h : Nat → Int} {i : Nat} {w wr W : World} (H : Bk2 h i w wr) (hb : Below wr.heap.size wr W) : Bk2 h i w W := by
  obtain ⟨a0, a1, h', a2, a3⟩ := H
  have hs := heap_lt a2
  exact ⟨gr2 a0 hb, (hb.block _ (by omega)).trans a1, h', (hb.block _ (by omega)).trans a2, a3⟩
theorem Bk2.set {h : Nat → Int} {k : Nat} {w wr : World} (H : Bk2 h k w wr) : Bk (upTo h (k + 1)) w (wr.setCell ⟨w.heap.size + 1, k, none⟩ (.int .i64 (h k))) := by
  obtain ⟨a0, a1, h', a2, a3⟩ := H
  refine ⟨gr4 a0 (by first | (simp; done) | (simp; omega)) _, (heap_setCell_other _ _ _ _ (by simp)).trans a1, ?_⟩
  rw [heap_setCell_same _ _ _ _ _ _ a2, blk_put, blk_congr (g := upTo h (k + 1))]
  intro j _
  unfold upTo
  by_cases e : j = k
  · rw [if_pos e, if_pos (by omega), e]
  · rw [if_neg e, a3 j e]
    unfold upTo
    by_cases e2 : j < k
    · rw [if_pos e2, if_pos (by omega)]
    · rw [if_neg e2, if_neg (by omega)]
theorem nums4 {i n m d : Nat} (hi : i < 64) (hn : 0 < n) (hm : m = i % n) (hd : d = i / n) :
    ((0 : Int) ≤ m ∧ (m : Int) < n) ∧ ((0 : Int) ≤ d ∧ (d : Int) ≤ 63) ∧ (∀ c : Int, c = n → Int.tmod (i : Int) c = m) ∧ (∀ c : Int, c = n → Int.tdiv (i : Int) c = d) := by
  have h1 := Nat.mod_lt i hn
  have h2 := Nat.div_le_self i n
  refine ⟨by omega, by omega, ?_, ?_⟩
  · rintro c rfl; rw [Int.tmod_eq_emod_of_nonneg (by omega), hm]; rfl
  · rintro c rfl; rw [Int.tdiv_eq_ediv_of_nonneg (by omega), hd]; rfl
/-- A block of bytes less 128, of choices. -/
def chI (cs : Nat → Int) (n : Nat) (k : Int) (i : Nat) : Int := if n = 0 then k - 128 else (cs (i % n) + ((i / n : Nat) : Int) * k % 256) % 256 - 128
theorem nums5 {cs : Nat → Int} {i n m d : Nat} {k : Int} (hi : i < 64) (hn : 0 < n) (hm : m = i % n) (hd : d = i / n) : ∃ A B : Int, (0 ≤ B ∧ B ≤ 255) ∧ B - 128 = chI cs n k i ∧
    IntKind.i64.wrap (d : Int) = d ∧ IntKind.u8.wrap (d : Int) = d ∧ IntKind.u8.wrap ((d : Int) * k) = A ∧ IntKind.u8.wrap (cs m + A) = B ∧ IntKind.i64.wrap B = B ∧ IntKind.i64.wrap (B - 128) = B - 128 := by
  have h2 := Nat.div_le_self i n
  have u : ∀ x, IntKind.u8.wrap x = x % 256 := fun x => by simp [IntKind.wrap, IntKind.signed, IntKind.bits]
  refine ⟨(d : Int) * k % 256, (cs m + (d : Int) * k % 256) % 256, ⟨by omega, by omega⟩, ?_, IntWalk.i64_in _ (by omega), by rw [u]; omega, u _, u _, IntWalk.i64_in _ (by omega), IntWalk.i64_in _ (by omega)⟩
  unfold chI
  rw [if_neg (by omega), hm, hd]

set_option maxRecDepth 100000 in
set_option maxHeartbeats 2000000 in
theorem block_0 (p : Option Addr) (cap : Nat) (cs : Nat → Int) (kk : Int) (w : World) (hk : 0 ≤ kk ∧ kk ≤ 255) :
    Calls Tryd.prog 14 #[.slice p 0 cap, .int .u8 kk] w fun e w' => e = .returned (.agg (blk (chI cs 0 kk))) ∧ Below w.heap.size w w' := by
  go_enter Tryd.func14, Tryd.ntmps14
  go_wp2_with (first | (refine wpList_zero_b rfl rfl ?_) | (refine wpList_alloc_b rfl rfl ?_) | (refine wpList_store_b rfl _ _ rfl rfl rfl (by simp) ?_))
  refine wp_abs (fun W' => Bk (upTo (chI cs 0 kk) 0) w W') (Bk.start _ w) ?_
  intro W0 H0
  go_loopg [6] 64 (fun n i wr => ∃ k : Nat, k + n = 64 ∧ i = .int .i64 k ∧ Bk (upTo (chI cs 0 kk) k) w wr)
  case atStart => exact ⟨0, rfl, rfl, H0⟩
  case round =>
    clear H0
    obtain ⟨i, hi, rfl, HT⟩ := hrel
    by_cases hlt : i < 64
    · have t1 : decide ((i : Int) < 64) = true := by simp; omega
      have hi9 : (0 : Int) ≤ i ∧ (i : Int) < 64 := by omega
      have hz := HT.size
      have cs1 := row_cell HT.2.2 (i := i) hlt
      have fs1 := row_free HT.2.2 i
      have HH : Hid (Bk (upTo (chI cs 0 kk) i) w wr ∧ kk - 128 = chI cs 0 kk i) := ⟨HT, by unfold chI; rw [if_pos rfl]⟩
      clear HT
      go_wp2
      go_roundg (64 - (i + 1))
      case measure => omega
      case rel =>
        refine ⟨i + 1, by omega, by go_num, ?_⟩
        rw [HH.out.2]
        exact Bk.set HH.out.1
    · have hk64 : i = 64 := by omega
      subst hk64
      have t1 : decide (((64 : Nat) : Int) < 64) = false := rfl
      have H0 := Bk.all HT
      clear HT
      have HL := H0.2.2
      have HZ := H0.2.1
      have HB := H0.1
      clear H0
      go_wp2_with (first
        | (refine wpList_load_b _ HL rfl _ rfl rfl ?_)
        | (refine wpList_store_row rfl _ _ _ rfl w.heap.size _ rfl rfl _ _ HZ (blk_info _) (blk_sz _ _) (blk_one _) ?_))
      refine bodyPost_ret (results_cell_row rfl _ _ w.heap.size _ _ _ _ rfl (setRow_heap _ _ _ _ _ _ HZ) Tryd.underlying23 rfl (blk_info _)) rfl ⟨rfl, below_setRow HB (by omega) _⟩

set_option maxRecDepth 100000 in
set_option maxHeartbeats 2000000 in
theorem block_n (cb co nn cap : Nat) (cs : Nat → Int) (kk : Int) (w : World) (hk : 0 ≤ kk ∧ kk ≤ 255) (hn : 0 < nn) (hn2 : nn ≤ 9223372036854775807) (hcb : cb < w.heap.size) (hc : ∀ i, i < nn → w.cell? ⟨cb, co + i, none⟩ = some (.int .u8 (cs i))) (hcs : ∀ i, i < nn → 0 ≤ cs i ∧ cs i ≤ 255) :
    Calls Tryd.prog 14 #[.slice (some ⟨cb, co, none⟩) nn cap, .int .u8 kk] w fun e w' => e = .returned (.agg (blk (chI cs nn kk))) ∧ Below w.heap.size w w' := by
  go_enter Tryd.func14, Tryd.ntmps14
  go_wp2_with (first | (refine wpList_zero_b rfl rfl ?_) | (refine wpList_alloc_b rfl rfl ?_) | (refine wpList_store_b rfl _ _ rfl rfl rfl (by simp) ?_))
  refine wp_abs (fun W' => Bk (upTo (chI cs nn kk) 0) w W') (Bk.start _ w) ?_
  intro W0 H0
  go_loopg [6] 64 (fun n i wr => ∃ k : Nat, k + n = 64 ∧ i = .int .i64 k ∧ Bk (upTo (chI cs nn kk) k) w wr)
  case atStart => exact ⟨0, rfl, rfl, H0⟩
  case round =>
    clear H0
    obtain ⟨i, hi, rfl, HT⟩ := hrel
    by_cases hlt : i < 64
    · have t1 : decide ((i : Int) < 64) = true := by simp; omega
      have t2 : decide ((0 : Int) < nn) = true := by simp; omega
      have hi9 : (0 : Int) ≤ i ∧ (i : Int) < 64 := by omega
      have hz := HT.size
      have cs1 := row_cell HT.2.2 (i := i) hlt
      have fs1 := row_free HT.2.2 i
      obtain ⟨m, hm⟩ : ∃ m, m = i % nn := ⟨_, rfl⟩
      obtain ⟨d, hd⟩ : ∃ d, d = i / nn := ⟨_, rfl⟩
      obtain ⟨hm9, hd9, m1, d1⟩ := nums4 hlt hn hm hd
      obtain ⟨A, B, hB9, hBv, r1, r2, r3, r4, r5, r6⟩ := nums5 (cs := cs) (k := kk) hlt hn hm hd
      have HV : Hid (B - 128 = chI cs nn kk i) := hBv
      clear hBv
      have hcm := (HT.1.cell (p := ⟨cb, co + m, none⟩) hcb).trans (hc m (by omega))
      have hcm9 := hcs m (by omega)
      have n0 : ((nn : Int) == 0) = false := by simp; omega
      have hn9 : (nn : Int) ≠ 0 := by omega
      have hn7 : nn ≠ 0 := by omega
      have hn6 : (nn == 0) = false := by simp; omega
      have HH : Hid (Bk (upTo (chI cs nn kk) i) w wr) := HT
      clear HT hc hcs hm hd
      go_wp2_with (fail)
      refine wp_abs (fun W' => Bk2 (chI cs nn kk) i w W' ∧ W'.cell? ⟨cb, co + m, none⟩ = some (.int .u8 (cs m))) ⟨HH.out.open_, ?_⟩ ?_
      · rw [set_cell_if, if_neg (by omega)]; exact hcm
      clear HH cs1 fs1 hz hcm
      rintro W1 ⟨HB2, hcm⟩
      obtain ⟨a0, a1, h', a2, a3⟩ := HB2
      have hz := heap_lt a2
      have hcb1 : cb < W1.heap.size := by omega
      have cs1 := row_cell a2 (i := i) hlt
      have fs1 := row_free a2 i
      have HH : Hid (Bk2 (chI cs nn kk) i w W1) := ⟨a0, a1, h', a2, a3⟩
      clear a0 a1 a2 a3
      refine wp_region_calm_tail 19 (by kernel_rfl) (by kernel_rfl) ?_
      repeat (first | go_big_quiet_step (fail) | quiet_step (fail))
      refine wpQuiet_nil ?_
      intro u
      have hzu := u.below.size
      try simp at hzu
      go_wp2
      go_roundg (64 - (i + 1))
      case measure => omega
      case rel =>
        refine ⟨i + 1, by omega, by go_num, ?_⟩
        rw [HV.out]
        exact (HH.out.later u.below).set
    · have hk64 : i = 64 := by omega
      subst hk64
      have t1 : decide (((64 : Nat) : Int) < 64) = false := rfl
      have H0 := Bk.all HT
      clear HT
      have HL := H0.2.2
      have HZ := H0.2.1
      have HB := H0.1
      clear H0
      go_wp2_with (first
        | (refine wpList_load_b _ HL rfl _ rfl rfl ?_)
        | (refine wpList_store_row rfl _ _ _ rfl w.heap.size _ rfl rfl _ _ HZ (blk_info _) (blk_sz _ _) (blk_one _) ?_))
      refine bodyPost_ret (results_cell_row rfl _ _ w.heap.size _ _ _ _ rfl (setRow_heap _ _ _ _ _ _ HZ) Tryd.underlying23 rfl (blk_info _)) rfl ⟨rfl, below_setRow HB (by omega) _⟩

end Go.Proofs.YtkaoajfdbjlioaaDoor
