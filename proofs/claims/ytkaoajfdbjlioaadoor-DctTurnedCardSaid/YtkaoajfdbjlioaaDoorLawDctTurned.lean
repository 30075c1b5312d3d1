/- DctTurned: the walk: it returns true. -/
import Derived.Test.YtkaoajfdbjlioaaDoorDctW
import Derived.Deep.LoopGhost
namespace Go.Proofs.YtkaoajfdbjlioaaDoor
open Go.RowKit

def sigN (j : Nat) : Nat := j % 8 * 8 + j / 8
def tmN (X : Nat → Int) (k : Nat) : Nat → Int := fun j => if sigN j < k then X (sigN j) else 0
theorem sig_sig {j : Nat} (h : j < 64) : sigN (sigN j) = j := by unfold sigN; omega
theorem blk_tm (X : Nat → Int) {k : Nat} (hk : k < 64) : (blk (tmN X k)).setIfInBounds (sigN k) (.int .i64 (X k)) = blk (tmN X (k + 1)) := by
  rw [blk_put]
  refine blk_congr fun j hj => ?_
  unfold tmN
  by_cases e : j = sigN k
  · rw [if_pos e, e, sig_sig hk, if_pos (by omega)]
  · rw [if_neg e]
    have : sigN j ≠ k := fun h => e (by rw [← h, sig_sig hj])
    by_cases h2 : sigN j < k
    · rw [if_pos h2, if_pos (by omega)]
    · rw [if_neg h2, if_neg (by omega)]
theorem blk_tm_0 (X : Nat → Int) : blk (tmN X 0) = blk fun _ => 0 := blk_congr fun j _ => by unfold tmN; rw [if_neg (by omega)]
theorem blk_tm_all (X : Nat → Int) : blk (tmN X 64) = blk fun j => X (j % 8 * 8 + j / 8) := blk_congr fun j hj => by unfold tmN; rw [if_pos (by unfold sigN; omega)]; rfl
theorem nums6 {i m d e r : Nat} (hi : i < 64) (hm : m = i % 8) (hd : d = i / 8) (he : e = m * 8) (hr : r = e + d) :
    (r < 64 ∧ (0 : Int) ≤ r ∧ (r : Int) < 64) ∧ ((0 : Int) ≤ i ∧ (i : Int) < 64) ∧ ((0 : Int) ≤ m ∧ (m : Int) ≤ 7) ∧ ((0 : Int) ≤ d ∧ (d : Int) ≤ 7) ∧ ((0 : Int) ≤ e ∧ (e : Int) ≤ 56) ∧ (∀ c : Int, c = 8 → Int.tmod (i : Int) c = m) ∧ (∀ c : Int, c = 8 → Int.tdiv (i : Int) c = d) ∧ (∀ c : Int, c = 8 → (i : Int) % c = m) ∧ (∀ c : Int, c = 8 → (i : Int) / c = d) ∧
    (∀ c : Int, c = 8 → (m : Int) * c = e) ∧ (∀ c : Int, c = d → (e : Int) + c = r) ∧ r = sigN i := by
  refine ⟨by omega, by omega, by omega, by omega, by omega, ?_, ?_, ?_, ?_, ?_, ?_, by unfold sigN; omega⟩
  · rintro c rfl; rw [Int.tmod_eq_emod_of_nonneg (by omega)]; omega
  · rintro c rfl; rw [Int.tdiv_eq_ediv_of_nonneg (by omega)]; omega
  · rintro c rfl; omega
  · rintro c rfl; omega
  · rintro c rfl; omega
  · rintro c rfl; omega
theorem turn_facts {X : Nat → Int} (hX : byteB X) {i r : Nat} (hi : i < 64) (hr : r = sigN i) {W : World} {g1 g2 g3 : Nat} {t : TypeId} (H1 : W.heap[g1]? = some (.cells (blk (fwdI X)) t (0, 0))) (H2 : W.heap[g2]? = some (.cells (blk (fwdI fun k => -X k)) t (0, 0))) (H3 : W.heap[g3]? = some (.cells (blk (fwdI fun k => X (k % 8 * 8 + k / 8))) t (0, 0))) :
    ∃ f : Int, W.cell? ⟨g1, i, none⟩ = some (.int .i64 f) ∧ W.cell? ⟨g2, i, none⟩ = some (.int .i64 (-f)) ∧ W.cell? ⟨g3, r, none⟩ = some (.int .i64 f) ∧ (-1024 ≤ f ∧ f ≤ 1023) ∧ wrap64 (-f) = -f := by
  have h := fwd_in hX i hi
  refine ⟨fwdI X i, row_cell H1 hi, ?_, ?_, by omega, w64 (by omega) (by omega)⟩
  · rw [row_cell H2 hi, fwd_neg]
  · rw [row_cell H3 (by rw [hr]; unfold sigN; omega), hr]
    unfold sigN
    rw [fwd_turn X i hi]

set_option maxRecDepth 100000 in
set_option maxHeartbeats 2000000 in
theorem walk_DctTurned (v : Value) (n : Nat) (cs : Nat → Int) (k : Int) (w : World) (hL : Facs w) (H : Bytes v n cs w) (hk : 0 ≤ k ∧ k ≤ 255) :
    Calls Tryd.prog 6 #[v, .int .u8 k] w fun e w' => e = .returned (.bool true) ∧ Below w.heap.size w w' := by
  have hby := ch_byte H hk
  go_enter Tryd.func6, Tryd.ntmps6
  go_wp2_with (first | (go_at_call 14; refine (block_ H hk).mono ?_; rintro e W1 ⟨rfl, hb1⟩; obtain ⟨hc1, hf1, hz1⟩ := bcell hb1) | (refine wpList_zero_b rfl rfl ?_) | (refine wpList_alloc_b rfl rfl ?_) | (refine wpList_store_b rfl _ _ rfl rfl rfl (by simp) ?_))
  refine wp_abs (fun W' => Below w.heap.size w W' ∧ W'.heap[W1.heap.size]? = some (.cells (blk (chI cs n k)) 23 (0, 0)) ∧ W'.heap[W1.heap.size + 1]? = some (.cells (blk (upTo (fun j => -chI cs n k j) 0)) 23 (0, 0)) ∧ W'.heap[W1.heap.size + 1 + 1]? = some (.cells (blk (tmN (chI cs n k) 0)) 23 (0, 0))) ⟨gr1 (gr1 (gr1 hb1 _) _) _, at_al (at_al (heap_alloc_new _ _)), ?_, ?_⟩ ?_
  · rw [upTo_0]
    apply at_al
    rw [heap_alloc_if, if_pos (by simp)]
  · rw [blk_tm_0, heap_alloc_if, if_pos (by simp)]
  clear hc1 hf1 hz1
  have hz1 : w.heap.size ≤ W1.heap.size := hb1.size
  clear hb1
  intro W9 H9
  go_loopg [8] 64 (fun gj i wr => ∃ jj : Nat, jj + gj = 64 ∧ i = .int .i64 jj ∧ Below w.heap.size w wr ∧ wr.heap[W1.heap.size]? = some (.cells (blk (chI cs n k)) 23 (0, 0)) ∧ wr.heap[W1.heap.size + 1]? = some (.cells (blk (upTo (fun j => -chI cs n k j) jj)) 23 (0, 0)) ∧ wr.heap[W1.heap.size + 1 + 1]? = some (.cells (blk (tmN (chI cs n k) jj)) 23 (0, 0)))
  case atStart => exact ⟨0, rfl, rfl, H9⟩
  case round =>
    clear H9
    obtain ⟨i, hi, rfl, HB, H1, H2, H3⟩ := hrel
    obtain ⟨gm, rfl⟩ : ∃ gm : Nat, gm = gk := ⟨_, rfl⟩
    by_cases hlt : i < 64
    · have t1 : decide ((i : Int) < 64) = true := by simp; omega
      obtain ⟨m, hm⟩ : ∃ m, m = i % 8 := ⟨_, rfl⟩
      obtain ⟨d, hd⟩ : ∃ d, d = i / 8 := ⟨_, rfl⟩
      obtain ⟨e, he⟩ : ∃ e, e = m * 8 := ⟨_, rfl⟩
      obtain ⟨r, hr⟩ : ∃ r, r = e + d := ⟨_, rfl⟩
      obtain ⟨⟨hr64, hr7, hr8⟩, hi9, hm9, hd9, he9, m1, d1, m2, d2, p1, p2, hrs⟩ := nums6 hlt hm hd he hr
      have x9 := hby i hlt
      have b1 := row_cell H1 hlt
      have b2 := row_cell H2 hlt
      have b3 := row_cell H3 hr64
      have c2 := row_free H2 i
      have c3 := row_free H3 r
      have z3 := heap_lt H3
      have HX : Hid ((Below w.heap.size w wr ∧ wr.heap[W1.heap.size]? = some (.cells (blk (chI cs n k)) 23 (0, 0)) ∧ wr.heap[W1.heap.size + 1]? = some (.cells (blk (upTo (fun j => -chI cs n k j) i)) 23 (0, 0)) ∧ wr.heap[W1.heap.size + 1 + 1]? = some (.cells (blk (tmN (chI cs n k) i)) 23 (0, 0))) ∧ r = sigN i ∧ i < 64) := ⟨⟨HB, H1, H2, H3⟩, hrs, hlt⟩
      obtain ⟨x, hx⟩ : ∃ x, (chI cs n k) i = x := ⟨_, rfl⟩
      rw [hx] at x9 b1
      have HG : Hid (-x = (fun j => -chI cs n k j) i ∧ x = (chI cs n k) i) := by subst hx; exact ⟨rfl, rfl⟩
      clear HB H1 H2 H3 H hby hm hd he hr hrs hx
      have s1 : wrap64 (-x) = -x := w64 (by omega) (by omega)
      go_wp2
      go_roundg (64 - (i + 1))
      case measure => omega
      case rel =>
        obtain ⟨⟨HB, H1, H2, H3⟩, hrs, hlt⟩ := HX.out
        refine ⟨i + 1, by omega, by go_num, gr4 (gr4 HB (by simp; omega) _) (by simp; omega) _, ?_, ?_, ?_⟩
        · exact (heap_setCell_other _ _ _ _ (by first | (simp; done) | (simp; omega))).trans ((heap_setCell_other _ _ _ _ (by first | (simp; done) | (simp; omega))).trans H1)
        · refine (heap_setCell_other _ _ _ _ (by first | (simp; done) | (simp; omega))).trans ?_
          rw [HG.out.1]
          have := heap_setCell_same _ _ i _ _ (.int .i64 ((fun j => -chI cs n k j) i)) H2
          rw [blk_set (fun j => -chI cs n k j)] at this
          exact this
        · have h3 : (wr.setCell ⟨W1.heap.size + 1, i, none⟩ (.int .i64 (-x))).heap[W1.heap.size + 1 + 1]? = some (.cells (blk (tmN (chI cs n k) i)) 23 (0, 0)) := (heap_setCell_other _ _ _ _ (by first | (simp; done) | (simp; omega))).trans H3
          have := heap_setCell_same _ _ r _ _ (.int .i64 x) h3
          rw [hrs, HG.out.2, blk_tm _ hlt] at this
          rw [hrs, HG.out.2]
          exact this
    · have hk64 : i = 64 := by omega
      subst hk64
      have t1 : decide (((64 : Nat) : Int) < 64) = false := rfl
      rw [blk_all] at H2
      rw [blk_tm_all] at H3
      have hA : Facs wr := hL.below HB
      have hA2 : Facs wr := hA
      have HX : Hid (Below w.heap.size w wr) := HB
      clear HB
      go_wp2_with (first | (go_at_call 17; refine (fwd_ _ _ hA).mono ?_; clear hA; rintro e W2 ⟨rfl, hb2⟩; obtain ⟨hc2, hf2, hz2⟩ := bcell hb2; have hA3 := hA2.below (gr1 hb2 (.cells (blk (fwdI (chI cs n k))) 23))) | (go_at_call 17; refine (fwd_ _ _ hA3).mono ?_; clear hA3; rintro e W3 ⟨rfl, hb3⟩; obtain ⟨hc3, hf3, hz3⟩ := bcell hb3; have hA4 := hA2.below (gr1 (gr2 (gr1 hb2 (.cells (blk (fwdI (chI cs n k))) 23)) hb3) (.cells (blk (fwdI (fun j => -chI cs n k j))) 23))) | (go_at_call 17; refine (fwd_ _ _ hA4).mono ?_; clear hA4; rintro e W4 ⟨rfl, hb4⟩; obtain ⟨hc4, hf4, hz4⟩ := bcell hb4) | (refine wpList_load_b _ H1 rfl _ rfl rfl ?_) | (refine wpList_load_b _ (at_al (at_be H2 (by assumption))) rfl _ rfl rfl ?_) | (refine wpList_load_b _ (at_al (at_be (at_al (at_be H3 hb2)) hb3)) rfl _ rfl rfl ?_) | (refine wpList_zero_b rfl rfl ?_) | (refine wpList_alloc_b rfl rfl ?_) | (refine wpList_store_b rfl _ _ rfl rfl rfl (by simp) ?_))
      refine wp_abs (fun W' => Below w.heap.size w W' ∧ W'.heap[W2.heap.size]? = some (.cells (blk (fwdI (chI cs n k))) 23 (0, 0)) ∧ W'.heap[W3.heap.size]? = some (.cells (blk (fwdI (fun j => -chI cs n k j))) 23 (0, 0)) ∧ W'.heap[W4.heap.size]? = some (.cells (blk (fwdI (fun j => chI cs n k (j % 8 * 8 + j / 8)))) 23 (0, 0))) ⟨gr1 (gr2 (gr1 (gr2 (gr1 (gr2 HX.out hb2) _) hb3) _) hb4) _, at_al (at_be (at_al (at_be (heap_alloc_new _ _) hb3)) hb4), at_al (at_be (heap_alloc_new _ _) hb4), heap_alloc_new _ _⟩ ?_
      clear hb2 hc2 hf2 hz2 hb3 hc3 hf3 hz3 hb4 hc4 hf4 hz4 hA2 H1 H2 H3 HX t1 hi hlt
      intro W5 H9
      go_loopg [12] 64 (fun gj i wr => ∃ jj : Nat, jj + gj = 64 ∧ i = .int .i64 jj ∧ Below w.heap.size w wr ∧ wr.heap[W2.heap.size]? = some (.cells (blk (fwdI (chI cs n k))) 23 (0, 0)) ∧ wr.heap[W3.heap.size]? = some (.cells (blk (fwdI (fun j => -chI cs n k j))) 23 (0, 0)) ∧ wr.heap[W4.heap.size]? = some (.cells (blk (fwdI (fun j => chI cs n k (j % 8 * 8 + j / 8)))) 23 (0, 0)))
      case atStart => exact ⟨0, rfl, rfl, H9⟩
      case round =>
        clear H9
        obtain ⟨i, hi, rfl, HB, H1, H2, H3⟩ := hrel
        by_cases hlt : i < 64
        · have t1 : decide ((i : Int) < 64) = true := by simp; omega
          obtain ⟨m, hm⟩ : ∃ m, m = i % 8 := ⟨_, rfl⟩
          obtain ⟨d, hd⟩ : ∃ d, d = i / 8 := ⟨_, rfl⟩
          obtain ⟨e, he⟩ : ∃ e, e = m * 8 := ⟨_, rfl⟩
          obtain ⟨r, hr⟩ : ∃ r, r = e + d := ⟨_, rfl⟩
          obtain ⟨⟨hr64, hr7, hr8⟩, hi9, hm9, hd9, he9, m1, d1, m2, d2, p1, p2, hrs⟩ := nums6 hlt hm hd he hr
          obtain ⟨f, b1, b2, b3, f9, s1⟩ := turn_facts hby hlt hrs H1 H2 H3
          have z1 := heap_lt H1
          have z2 := heap_lt H2
          have z3 := heap_lt H3
          have HX : Hid (Below w.heap.size w wr ∧ wr.heap[W2.heap.size]? = some (.cells (blk (fwdI (chI cs n k))) 23 (0, 0)) ∧ wr.heap[W3.heap.size]? = some (.cells (blk (fwdI (fun j => -chI cs n k j))) 23 (0, 0)) ∧ wr.heap[W4.heap.size]? = some (.cells (blk (fwdI (fun j => chI cs n k (j % 8 * 8 + j / 8)))) 23 (0, 0))) := ⟨HB, H1, H2, H3⟩
          clear HB H1 H2 H3 H hby hm hd he hr hrs
          go_wp2_with (fail)
          refine wp_region_calm (by kernel_rfl) (by kernel_rfl) ?_
          (repeat (first | go_big_quiet_step (fail) | quiet_step (fail)))
          refine wpQuiet_nil ?_
          intro u
          have hzu := u.below.size
          try simp at hzu
          go_wp2
          go_roundg (64 - (i + 1))
          case measure => omega
          case rel =>
            obtain ⟨HB, H1, H2, H3⟩ := HX.out
            exact ⟨i + 1, by omega, by go_num, gr2 HB u.below, at_be H1 u.below, at_be H2 u.below, at_be H3 u.below⟩
        · skip
          have hk64 : i = 64 := by omega
          subst hk64
          have t1 : decide (((64 : Nat) : Int) < 64) = false := rfl
          have hLr : Facs wr := hL.below HB
          have HX : Hid (Below w.heap.size w wr) := HB
          clear HB H1 H2 H3
          go_wp2_with (go_at_call 16; refine (known08 _ hLr).mono ?_; rintro e W9 ⟨rfl, hb9⟩; obtain ⟨hc9, hf9, hz9⟩ := bcell hb9)
          go_ret
          exact ⟨rfl, gr2 HX.out hb9⟩
end Go.Proofs.YtkaoajfdbjlioaaDoor
