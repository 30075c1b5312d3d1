/- DctNear: the walk: it returns true. -/
import Derived.Test.YtkaoajfdbjlioaaDoorDctW
import Derived.Deep.LoopGhost
namespace Go.Proofs.YtkaoajfdbjlioaaDoor
open Go.RowKit

theorem near_facts {b : Nat → Int} (hb : byteB b) {i : Nat} (hi : i < 64) {W : World} {g1 g2 g3 : Nat} {t : TypeId} (H1 : W.heap[g1]? = some (.cells (blk b) t (0, 0))) (H2 : W.heap[g2]? = some (.cells (blk (fwdI b)) t (0, 0))) (H3 : W.heap[g3]? = some (.cells (blk (bwdI (fwdI b))) t (0, 0))) :
    ∃ x f z : Int, W.cell? ⟨g1, i, none⟩ = some (.int .i64 x) ∧ W.cell? ⟨g2, i, none⟩ = some (.int .i64 f) ∧ W.cell? ⟨g3, i, none⟩ = some (.int .i64 z) ∧ (-128 ≤ x ∧ x ≤ 127) ∧ (-132 ≤ z ∧ z ≤ 131) ∧ wrap64 (z - x) = z - x ∧ wrap64 (x - z) = x - z ∧
    decide (4 < z - x) = false ∧ decide (4 < x - z) = false ∧ decide (f < -1024) = false ∧ decide (1024 < f) = false ∧ (i ≠ 0 → decide (f < -1023) = false ∧ decide (1023 < f) = false) := by
  have k1 := hb i hi
  have k2 := fwd_in hb i hi
  have k3 := near_all hb i hi
  have b1 := row_cell H1 hi
  have b2 := row_cell H2 hi
  have b3 := row_cell H3 hi
  obtain ⟨x, hx⟩ : ∃ x, b i = x := ⟨_, rfl⟩
  obtain ⟨f, hf⟩ : ∃ x, fwdI b i = x := ⟨_, rfl⟩
  obtain ⟨z, hz⟩ : ∃ x, bwdI (fwdI b) i = x := ⟨_, rfl⟩
  rw [hx] at b1 k1 k3
  rw [hf] at b2 k2
  rw [hz] at b3 k3
  exact ⟨x, f, z, b1, b2, b3, k1, by omega, w64 (by omega) (by omega), w64 (by omega) (by omega), by simp; omega, by simp; omega, by simp; omega, by simp; omega, fun h => ⟨by simp; have := k2.2.2 h; omega, by simp; omega⟩⟩

set_option maxRecDepth 100000 in
set_option maxHeartbeats 2000000 in
theorem walk_DctNear (v : Value) (n : Nat) (cs : Nat → Int) (k : Int) (w : World) (hL : Facs w) (H : Bytes v n cs w) (hk : 0 ≤ k ∧ k ≤ 255) :
    Calls Tryd.prog 5 #[v, .int .u8 k] w fun e w' => e = .returned (.bool true) ∧ Below w.heap.size w w' := by
  have hby := ch_byte H hk
  go_enter Tryd.func5, Tryd.ntmps5
  go_wp2_with (first | (go_at_call 14; refine (block_ H hk).mono ?_; rintro e W1 ⟨rfl, hb1⟩; obtain ⟨hc1, hf1, hz1⟩ := bcell hb1) | (go_at_call 17; refine (fwd_ _ _ (hL.below (gr1 hb1 _))).mono ?_; rintro e W2 ⟨rfl, hb2⟩; obtain ⟨hc2, hf2, hz2⟩ := bcell hb2) | (go_at_call 18; refine (bwd_ _ _ (hL.below (gr1 (gr2 (gr1 hb1 _) hb2) _))).mono ?_; rintro e W3 ⟨rfl, hb3⟩; obtain ⟨hc3, hf3, hz3⟩ := bcell hb3) | (refine wpList_load_b _ (heap_alloc_new _ _) rfl _ rfl rfl ?_) | (refine wpList_zero_b rfl rfl ?_) | (refine wpList_alloc_b rfl rfl ?_) | (refine wpList_store_b rfl _ _ rfl rfl rfl (by simp) ?_))
  refine wp_abs (fun W' => Below w.heap.size w W' ∧ W'.heap[W1.heap.size]? = some (.cells (blk (chI cs n k)) 23 (0, 0)) ∧ W'.heap[W2.heap.size]? = some (.cells (blk (fwdI (chI cs n k))) 23 (0, 0)) ∧ W'.heap[W3.heap.size]? = some (.cells (blk (bwdI (fwdI (chI cs n k)))) 23 (0, 0))) ⟨gr1 (gr2 (gr1 (gr2 (gr1 hb1 _) hb2) _) hb3) _, at_al (at_be (at_al (at_be (heap_alloc_new _ _) hb2)) hb3), at_al (at_be (heap_alloc_new _ _) hb3), heap_alloc_new _ _⟩ ?_
  clear hb1 hc1 hf1 hz1 hb2 hc2 hf2 hz2 hb3 hc3 hf3 hz3
  intro W4 H9
  go_loopg [8] 64 (fun gj i wr => ∃ jj : Nat, jj + gj = 64 ∧ i = .int .i64 jj ∧ Below w.heap.size w wr ∧ wr.heap[W1.heap.size]? = some (.cells (blk (chI cs n k)) 23 (0, 0)) ∧ wr.heap[W2.heap.size]? = some (.cells (blk (fwdI (chI cs n k))) 23 (0, 0)) ∧ wr.heap[W3.heap.size]? = some (.cells (blk (bwdI (fwdI (chI cs n k)))) 23 (0, 0)))
  case atStart => exact ⟨0, rfl, rfl, H9⟩
  case round =>
    clear H9
    obtain ⟨i, hi, rfl, HB, H1, H2, H3⟩ := hrel
    obtain ⟨gm, rfl⟩ : ∃ gm : Nat, gm = gk := ⟨_, rfl⟩
    have hi9 : (0 : Int) ≤ i := by omega
    by_cases hlt : i < 64
    · by_cases h0 : 0 < i
      · skip
        have t1 : decide ((i : Int) < 64) = true := by simp; omega
        have t0 : decide ((0 : Int) < i) = true := by simp; omega
        obtain ⟨x, f, z, b1, b2, b3, s1, s2, w1, w2, d1, d2, d3, d4, d56⟩ := near_facts hby hlt H1 H2 H3
        have z1 := heap_lt H1
        have z2 := heap_lt H2
        have z3 := heap_lt H3
        have HX : Hid (Below w.heap.size w wr ∧ wr.heap[W1.heap.size]? = some (.cells (blk (chI cs n k)) 23 (0, 0)) ∧ wr.heap[W2.heap.size]? = some (.cells (blk (fwdI (chI cs n k))) 23 (0, 0)) ∧ wr.heap[W3.heap.size]? = some (.cells (blk (bwdI (fwdI (chI cs n k)))) 23 (0, 0))) := ⟨HB, H1, H2, H3⟩
        clear HB H1 H2 H3 hby H
        obtain ⟨d5, d6⟩ := d56 (by omega)
        clear d56
        go_wp2_with (fail)
        refine wp_region_calm (by kernel_rfl) (by kernel_rfl) ?_
        (repeat (first | go_big_quiet_step (fail) | quiet_step (fail)))
        refine wpQuiet_nil ?_
        intro u
        have hzu := u.below.size
        try simp at hzu
        go_wp2
        go_roundg (64 - (i + 1))
        case measure => omega
        case rel =>
          obtain ⟨HB, H1, H2, H3⟩ := HX.out
          exact ⟨i + 1, by omega, by go_num, gr2 HB u.below, at_be H1 u.below, at_be H2 u.below, at_be H3 u.below⟩
      · skip
        have t1 : decide ((i : Int) < 64) = true := by simp; omega
        have t0 : decide ((0 : Int) < i) = false := by simp; omega
        obtain ⟨x, f, z, b1, b2, b3, s1, s2, w1, w2, d1, d2, d3, d4, d56⟩ := near_facts hby hlt H1 H2 H3
        have z1 := heap_lt H1
        have z2 := heap_lt H2
        have z3 := heap_lt H3
        have HX : Hid (Below w.heap.size w wr ∧ wr.heap[W1.heap.size]? = some (.cells (blk (chI cs n k)) 23 (0, 0)) ∧ wr.heap[W2.heap.size]? = some (.cells (blk (fwdI (chI cs n k))) 23 (0, 0)) ∧ wr.heap[W3.heap.size]? = some (.cells (blk (bwdI (fwdI (chI cs n k)))) 23 (0, 0))) := ⟨HB, H1, H2, H3⟩
        clear HB H1 H2 H3 hby H
        clear d56
        go_wp2_with (fail)
        refine wp_region_calm (by kernel_rfl) (by kernel_rfl) ?_
        (repeat (first | go_big_quiet_step (fail) | quiet_step (fail)))
        refine wpQuiet_nil ?_
        intro u
        have hzu := u.below.size
        try simp at hzu
        go_wp2
        go_roundg (64 - (i + 1))
        case measure => omega
        case rel =>
          obtain ⟨HB, H1, H2, H3⟩ := HX.out
          exact ⟨i + 1, by omega, by go_num, gr2 HB u.below, at_be H1 u.below, at_be H2 u.below, at_be H3 u.below⟩
    · skip
      have hk64 : i = 64 := by omega
      subst hk64
      have t1 : decide (((64 : Nat) : Int) < 64) = false := rfl
      have hLr : Facs wr := hL.below HB
      have HX : Hid (Below w.heap.size w wr) := HB
      clear HB H1 H2 H3
      go_wp2_with (go_at_call 16; refine (known08 _ hLr).mono ?_; rintro e W9 ⟨rfl, hb9⟩; obtain ⟨hc9, hf9, hz9⟩ := bcell hb9)
      go_ret
      exact ⟨rfl, gr2 HX.out hb9⟩
end Go.Proofs.YtkaoajfdbjlioaaDoor
