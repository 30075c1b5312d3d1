/- DctSum: the walk: it returns true. -/
import Derived.Test.YtkaoajfdbjlioaaDoorDctW
import Derived.Deep.LoopGhost
namespace Go.Proofs.YtkaoajfdbjlioaaDoor
open Go.RowKit

def mixN (g h : Nat → Int) (k : Nat) : Nat → Int := fun j => if j < k then g j else h j
theorem blk_mix (g h : Nat → Int) (k : Nat) : (blk (mixN g h k)).setIfInBounds k (.int .i64 (g k)) = blk (mixN g h (k + 1)) := by
  rw [blk_put]
  refine blk_congr fun j _ => ?_
  unfold mixN
  by_cases e : j = k
  · subst e; rw [if_pos rfl, if_pos (by omega)]
  · rw [if_neg e]
    by_cases h2 : j < k
    · rw [if_pos h2, if_pos (by omega)]
    · rw [if_neg h2, if_neg (by omega)]
theorem blk_mix_all (g h : Nat → Int) : blk (mixN g h 64) = blk g := blk_congr fun j hj => by unfold mixN; rw [if_pos hj]
theorem mix_at (g h : Nat → Int) (k : Nat) : mixN g h k k = h k := by unfold mixN; rw [if_neg (by omega)]
theorem sum_step {X : Nat → Int} (hX : byteB X) {m : Int} (hm : 0 ≤ m ∧ m ≤ 255) {i : Nat} (hi : i < 64) : (-128 ≤ X i ∧ X i ≤ 127) ∧ wrap64 (sumTo i X + X i) = sumTo i X + X i ∧ wrap64 (X i + m) = X i + m := by
  have h := sumTo_cbd (c := 128) i (f := X) fun k hk => by have := hX k (by omega); omega
  have h2 := hX i hi
  exact ⟨h2, w64 (by omega) (by omega), w64 (by omega) (by omega)⟩
theorem sum_end {X : Nat → Int} (hX : byteB X) {m : Int} (hm : 0 ≤ m ∧ m ≤ 255) {W : World} {g1 g2 : Nat} {t : TypeId} (H1 : W.heap[g1]? = some (.cells (blk (fwdI X)) t (0, 0))) (H2 : W.heap[g2]? = some (.cells (blk (fwdI fun k => X k + m)) t (0, 0))) :
    ∃ f g : Int, W.cell? ⟨g1, 0, none⟩ = some (.int .i64 f) ∧ W.cell? ⟨g2, 0, none⟩ = some (.int .i64 g) ∧ wrap64 (8 * f) = 8 * f ∧ wrap64 (8 * f - sumTo 64 X) = 8 * f - sumTo 64 X ∧ decide (-5 ≤ 8 * f - sumTo 64 X) = true ∧ decide (8 * f - sumTo 64 X ≤ 5) = true ∧ decide (f ≤ g) = true := by
  have h1 := fwd_in hX 0 (by omega)
  have h2 := fwd_sum hX
  have h3 := (fwd_more hX m hm 0 (by omega)).2 rfl
  have h4 := sum_in hX
  exact ⟨_, _, row_cell H1 (by omega), row_cell H2 (by omega), w64 (by omega) (by omega), w64 (by omega) (by omega), by simpa using h2.1, by simpa using h2.2, by simpa using h3⟩

set_option maxRecDepth 100000 in
set_option maxHeartbeats 2000000 in
theorem walk_DctSum (v : Value) (n : Nat) (cs : Nat → Int) (k : Int) (m : Int) (w : World) (hL : Facs w) (H : Bytes v n cs w) (hk : 0 ≤ k ∧ k ≤ 255) (hm : 0 ≤ m ∧ m ≤ 255) :
    Calls Tryd.prog 7 #[v, .int .u8 k, .int .u8 m] w fun e w' => e = .returned (.bool true) ∧ Below w.heap.size w w' := by
  have hby := ch_byte H hk
  go_enter Tryd.func7, Tryd.ntmps7
  go_wp2_with (first | (go_at_call 14; refine (block_ H hk).mono ?_; rintro e W1 ⟨rfl, hb1⟩; obtain ⟨hc1, hf1, hz1⟩ := bcell hb1) | (refine wpList_load_b _ (heap_alloc_new _ _) rfl _ rfl rfl ?_) | (refine wpList_zero_b rfl rfl ?_) | (refine wpList_alloc_b rfl rfl ?_) | (refine wpList_store_b rfl _ _ rfl rfl rfl (by simp) ?_))
  refine wp_abs (fun W' => Below w.heap.size w W' ∧ W'.heap[W1.heap.size]? = some (.cells (blk (chI cs n k)) 23 (0, 0)) ∧ W'.heap[W1.heap.size + 1]? = some (.cells (blk (mixN (fun j => chI cs n k j + m) (chI cs n k) 0)) 23 (0, 0))) ⟨gr1 (gr1 hb1 _) _, at_al (heap_alloc_new _ _), ?_⟩ ?_
  · rw [heap_alloc_if, if_pos (by simp)]
    rfl
  clear hc1 hf1 hz1
  have hz1 : w.heap.size ≤ W1.heap.size := hb1.size
  clear hb1
  intro W4 H9
  go_loopg [8, 10] 64 (fun gj s i wr => ∃ jj : Nat, jj + gj = 64 ∧ i = .int .i64 jj ∧ s = .int .i64 (sumTo jj (chI cs n k)) ∧ Below w.heap.size w wr ∧ wr.heap[W1.heap.size]? = some (.cells (blk (chI cs n k)) 23 (0, 0)) ∧ wr.heap[W1.heap.size + 1]? = some (.cells (blk (mixN (fun j => chI cs n k j + m) (chI cs n k) jj)) 23 (0, 0)))
  case atStart => exact ⟨0, rfl, rfl, rfl, H9⟩
  case round =>
    clear H9
    obtain ⟨i, hi, rfl, rfl, HB, H1, H2⟩ := hrel
    obtain ⟨gm, rfl⟩ : ∃ gm : Nat, gm = gk := ⟨_, rfl⟩
    have hi9 : (0 : Int) ≤ i := by omega
    by_cases hlt : i < 64
    · have t1 : decide ((i : Int) < 64) = true := by simp; omega
      obtain ⟨x9, s1, s2⟩ := sum_step hby hm hlt
      have b1 := row_cell H1 hlt
      have b2 := row_cell H2 hlt
      have b3 := row_free H2 i
      rw [mix_at] at b2
      have z2 := heap_lt H2
      have HX : Hid ((Below w.heap.size w wr ∧ wr.heap[W1.heap.size]? = some (.cells (blk (chI cs n k)) 23 (0, 0)) ∧ wr.heap[W1.heap.size + 1]? = some (.cells (blk (mixN (fun j => chI cs n k j + m) (chI cs n k) i)) 23 (0, 0))) ∧ sumTo (i + 1) (chI cs n k) = sumTo i (chI cs n k) + (chI cs n k) i) := ⟨⟨HB, H1, H2⟩, rfl⟩
      have HG : Hid ((chI cs n k) i + m = (fun j => chI cs n k j + m) i) := rfl
      clear HB H1 H2 H hby
      generalize sumTo i (chI cs n k) = S at s1 HX ⊢
      generalize (chI cs n k) i = x at x9 s1 s2 b1 b2 HX HG
      go_wp2
      go_roundg (64 - (i + 1))
      case measure => omega
      case rel =>
        obtain ⟨⟨HB, H1, H2⟩, h3⟩ := HX.out
        refine ⟨i + 1, by omega, by go_num, by rw [h3], gr4 HB (by simp; omega) _, (heap_setCell_other _ _ _ _ (by simp)).trans H1, ?_⟩
        rw [HG.out]
        have := heap_setCell_same _ _ i _ _ (.int .i64 ((fun j => chI cs n k j + m) i)) H2
        rw [blk_mix (fun j => chI cs n k j + m)] at this
        exact this
    · have hk64 : i = 64 := by omega
      subst hk64
      have t1 : decide (((64 : Nat) : Int) < 64) = false := rfl
      rw [blk_mix_all] at H2
      have hA : Facs wr := hL.below HB
      have hA2 : Facs wr := hA
      have HX : Hid (Below w.heap.size w wr) := HB
      clear HB
      go_wp2_with (first | (go_at_call 17; refine (fwd_ _ _ hA).mono ?_; clear hA; rintro e W2 ⟨rfl, hb2⟩; obtain ⟨hc2, hf2, hz2⟩ := bcell hb2; have hA3 := hA2.below (gr1 hb2 (.cells (blk (fwdI (chI cs n k))) 23))) | (go_at_call 17; refine (fwd_ _ _ hA3).mono ?_; clear hA3; rintro e W3 ⟨rfl, hb3⟩; obtain ⟨hc3, hf3, hz3⟩ := bcell hb3) | (refine wpList_load_b _ H1 rfl _ rfl rfl ?_) | (refine wpList_load_b _ (at_al (at_be H2 (by assumption))) rfl _ rfl rfl ?_) | (refine wpList_zero_b rfl rfl ?_) | (refine wpList_alloc_b rfl rfl ?_) | (refine wpList_store_b rfl _ _ rfl rfl rfl (by simp) ?_))
      refine wp_abs (fun W' => Below w.heap.size w W' ∧ W'.heap[W2.heap.size]? = some (.cells (blk (fwdI (chI cs n k))) 23 (0, 0)) ∧ W'.heap[W3.heap.size]? = some (.cells (blk (fwdI (fun j => chI cs n k j + m))) 23 (0, 0))) ⟨gr1 (gr2 (gr1 (gr2 HX.out hb2) _) hb3) _, at_al (at_be (heap_alloc_new _ _) hb3), heap_alloc_new _ _⟩ ?_
      clear hb2 hc2 hf2 hz2 hb3 hc3 hf3 hz3 hA2 H1 H2 HX t1 hi hi9 hlt
      intro W5 H9
      go_loopg [13] 63 (fun gj i wr => ∃ jj : Nat, jj + gj = 64 ∧ 1 ≤ jj ∧ i = .int .i64 jj ∧ Below w.heap.size w wr ∧ wr.heap[W2.heap.size]? = some (.cells (blk (fwdI (chI cs n k))) 23 (0, 0)) ∧ wr.heap[W3.heap.size]? = some (.cells (blk (fwdI (fun j => chI cs n k j + m))) 23 (0, 0)))
      case atStart => exact ⟨1, rfl, Nat.le_refl _, rfl, H9⟩
      case round =>
        clear H9
        obtain ⟨i, hi, hi1, rfl, HB, H1, H2⟩ := hrel
        have hi9 : (0 : Int) ≤ i := by omega
        by_cases hlt : i < 64
        · have t1 : decide ((i : Int) < 64) = true := by simp; omega
          have b1 := row_cell H1 hlt
          have b2 := row_cell H2 hlt
          have e := (fwd_more hby m hm i hlt).1 (by omega)
          rw [e] at b2
          have z1 := heap_lt H1
          have z2 := heap_lt H2
          have HX : Hid (Below w.heap.size w wr ∧ wr.heap[W2.heap.size]? = some (.cells (blk (fwdI (chI cs n k))) 23 (0, 0)) ∧ wr.heap[W3.heap.size]? = some (.cells (blk (fwdI (fun j => chI cs n k j + m))) 23 (0, 0))) := ⟨HB, H1, H2⟩
          clear HB H1 H2 H hby e
          generalize fwdI (chI cs n k) i = f at b1 b2
          go_wp2_with (fail)
          refine wp_region_calm (by kernel_rfl) (by kernel_rfl) ?_
          (repeat (first | go_big_quiet_step (fail) | quiet_step (fail)))
          refine wpQuiet_nil ?_
          intro u
          have hzu := u.below.size
          try simp at hzu
          go_wp2
          go_roundg (64 - (i + 1))
          case measure => omega
          case rel =>
            obtain ⟨HB, H1, H2⟩ := HX.out
            exact ⟨i + 1, by omega, by omega, by go_num, gr2 HB u.below, at_be H1 u.below, at_be H2 u.below⟩
        · have hk64 : i = 64 := by omega
          subst hk64
          have t1 : decide (((64 : Nat) : Int) < 64) = false := rfl
          obtain ⟨f, g, b1, b2, d1, d2, d3, d4, d5⟩ := sum_end hby hm H1 H2
          have z1 := heap_lt H1
          have z2 := heap_lt H2
          have hLr : Facs wr := hL.below HB
          have HX : Hid (Below w.heap.size w wr) := HB
          clear HB H1 H2 H hby
          generalize sumTo 64 (chI cs n k) = S at d2 d3 d4 ⊢
          go_wp2_with (go_at_call 16; refine (known08 _ hLr).mono ?_; rintro e W9 ⟨rfl, hb9⟩; obtain ⟨hc9, hf9, hz9⟩ := bcell hb9)
          go_ret
          exact ⟨rfl, gr2 HX.out hb9⟩
end Go.Proofs.YtkaoajfdbjlioaaDoor
