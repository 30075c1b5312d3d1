/- The chapter's own Forward and Back. -/
import Derived.Test.YtkaoajfdbjlioaaDoorBlk
import Derived.Test.YtkaoajfdbjlioaaDoorDctG
import Derived.Deep.LoopGhost
namespace Go.Proofs.YtkaoajfdbjlioaaDoor
open Go.RowKit

def Rf (b h : Nat → Int) (w wr : World) : Prop :=
  Below w.heap.size w wr ∧ wr.heap[w.heap.size]? = some (.cells (blk b) 23 (0, 0)) ∧ wr.heap[w.heap.size + 1]? = some (.cells (blk fun _ => 0) 23 (0, 0)) ∧ wr.heap[w.heap.size + 1 + 1]? = some (.cells (blk h) 23 (0, 0))
theorem Rf.size {b h : Nat → Int} {w wr : World} (H : Rf b h w wr) : w.heap.size + 1 + 1 < wr.heap.size := heap_lt H.2.2.2
theorem Rf.later {b h : Nat → Int} {w wr W : World} (H : Rf b h w wr) (hb : Below wr.heap.size wr W) : Rf b h w W := by
  have hs := H.size
  obtain ⟨a0, a1, a2, a3⟩ := H
  exact ⟨gr2 a0 hb, (hb.block _ (by omega)).trans a1, (hb.block _ (by omega)).trans a2, (hb.block _ (by omega)).trans a3⟩
theorem Rf.set {b h : Nat → Int} {k : Nat} {w wr : World} (H : Rf b (upTo h k) w wr) : Rf b (upTo h (k + 1)) w (wr.setCell ⟨w.heap.size + 1 + 1, k, none⟩ (.int .i64 (h k))) := by
  obtain ⟨a0, a1, a2, a3⟩ := H
  have ne : ∀ j, j ≠ w.heap.size + 1 + 1 → (wr.setCell ⟨w.heap.size + 1 + 1, k, none⟩ (.int .i64 (h k))).heap[j]? = wr.heap[j]? := fun j hj => heap_setCell_other _ _ _ _ hj
  refine ⟨gr4 a0 (by simp; omega) _, (ne _ (by omega)).trans a1, (ne _ (by omega)).trans a2, ?_⟩
  rw [heap_setCell_same _ _ _ _ _ _ a3, blk_set]
theorem Rf.start (b h : Nat → Int) (w : World) : Rf b (upTo h 0) w (((w.alloc (.cells (blk b) 23)).alloc (.cells (blk fun _ => 0) 23)).alloc (.cells (blk fun _ => 0) 23)) := by
  rw [upTo_0]
  refine ⟨gr1 (gr1 (gr1 (gr0 _) _) _) _, ?_, ?_, ?_⟩
  all_goals (simp only [heap_alloc_if, World.size_alloc]; repeat (first | rw [if_pos trivial] | rw [if_pos (by omega)] | rw [if_neg (by omega)]))
theorem Rf.all {b h : Nat → Int} {w wr : World} (H : Rf b (upTo h 64) w wr) : Rf b h w wr := by
  unfold Rf at *
  rwa [blk_all] at H
theorem nums3 {k m d : Nat} (hk : k < 64) (hm : m = k % 8) (hd : d = k / 8) :
    ((0 : Int) ≤ k ∧ (k : Int) < 64) ∧ ((0 : Int) ≤ m ∧ (m : Int) ≤ 7) ∧ ((0 : Int) ≤ d ∧ (d : Int) ≤ 7) ∧ (∀ c : Int, c = 8 → Int.tmod (k : Int) c = m) ∧ (∀ c : Int, c = 8 → Int.tdiv (k : Int) c = d) ∧ (∀ c : Int, c = 8 → (k : Int) % c = m) ∧ (∀ c : Int, c = 8 → (k : Int) / c = d) := by
  refine ⟨by omega, by omega, by omega, ?_, ?_, ?_, ?_⟩
  · rintro c rfl; rw [Int.tmod_eq_emod_of_nonneg (by omega)]; omega
  · rintro c rfl; rw [Int.tdiv_eq_ediv_of_nonneg (by omega)]; omega
  · rintro c rfl; omega
  · rintro c rfl; omega
theorem step3 {F : Nat → Nat → Int} {lo hi : Int} (hF : bdF F) (h1 : -32768 ≤ lo) (h2 : hi ≤ 32768) (h : lo ≤ hi) (b : Nat → Int) {i k m d p e : Nat} (hi64 : i < 64) (hk : k < 64) (hm : m = i % 8) (hd : d = i / 8) (hp : p = k % 8) (he : e = k / 8) :
    sumTo (k + 1) (fun t => clipI lo hi (b t) * F m (t % 8) * F d (t / 8)) = sumTo k (fun t => clipI lo hi (b t) * F m (t % 8) * F d (t / 8)) + clipI lo hi (b k) * F m p * F d e ∧
    wrap64 (clipI lo hi (b k) * F m p) = clipI lo hi (b k) * F m p ∧ wrap64 (clipI lo hi (b k) * F m p * F d e) = clipI lo hi (b k) * F m p * F d e ∧
    wrap64 (sumTo k (fun t => clipI lo hi (b t) * F m (t % 8) * F d (t / 8)) + clipI lo hi (b k) * F m p * F d e) = sumTo k (fun t => clipI lo hi (b t) * F m (t % 8) * F d (t / 8)) + clipI lo hi (b k) * F m p * F d e := by
  have e1 : sumTo (k + 1) (fun t => clipI lo hi (b t) * F m (t % 8) * F d (t / 8)) = sumTo k (fun t => clipI lo hi (b t) * F m (t % 8) * F d (t / 8)) + clipI lo hi (b k) * F m p * F d e := by rw [sumTo, hp, he]
  have hb := def_bd hF h1 h2 h b i (k + 1) hi64 (by omega)
  have ht := term_bd hF h1 h2 h b i k hi64 hk
  rw [← hm, ← hd, ← hp, ← he] at ht
  rw [← hm, ← hd, e1] at hb
  exact ⟨e1, w64 (by omega) (by omega), w64 (by omega) (by omega), w64 (by omega) (by omega)⟩
theorem def_in {F : Nat → Nat → Int} {lo hi : Int} (hF : bdF F) (h1 : -32768 ≤ lo) (h2 : hi ≤ 32768) (h : lo ≤ hi) (b : Nat → Int) {i m d : Nat} (hi64 : i < 64) (hm : m = i % 8) (hd : d = i / 8) :
    -2305843009213693952 ≤ sumTo 64 (fun t => clipI lo hi (b t) * F m (t % 8) * F d (t / 8)) ∧ sumTo 64 (fun t => clipI lo hi (b t) * F m (t % 8) * F d (t / 8)) ≤ 2305843009213693952 := by
  have hb := def_bd hF h1 h2 h b i 64 hi64 (Nat.le_refl _)
  rw [← hm, ← hd] at hb
  omega

set_option maxRecDepth 100000 in
set_option maxHeartbeats 2000000 in
theorem rfwd_ (b : Nat → Int) (w : World) :
    Calls Tryd.prog 15 #[.agg (blk b)] w fun e w' => e = .returned (.agg (blk (fwdI b))) ∧ Below w.heap.size w w' := by
  have hF : bdF facN := fun _ _ h1 h2 => fac_bd h1 h2
  go_enter Tryd.func15, Tryd.ntmps15
  go_wp2_with (first | (refine wpList_zero_b rfl rfl ?_) | (refine wpList_alloc_b rfl rfl ?_) | (refine wpList_store_b rfl _ _ rfl rfl rfl (by simp) ?_))
  refine wp_abs (fun W' => Rf b (upTo (fwdI b) 0) w W') (Rf.start b _ w) ?_
  intro W0 H0
  go_loopg [4] 64 (fun n i wr => ∃ k : Nat, k + n = 64 ∧ i = .int .i64 k ∧ Rf b (upTo (fwdI b) k) w wr)
  case atStart => exact ⟨0, rfl, rfl, H0⟩
  case round =>
    clear H0
    obtain ⟨i, hi, rfl, HT⟩ := hrel
    obtain ⟨wo, rfl⟩ : ∃ wo : World, wo = wr := ⟨_, rfl⟩
    obtain ⟨gn, rfl⟩ : ∃ gn : Nat, gn = gk := ⟨_, rfl⟩
    by_cases hlt : i < 64
    · have t1 : decide ((i : Int) < 64) = true := by simp; omega
      obtain ⟨m, hm⟩ : ∃ m, m = i % 8 := ⟨_, rfl⟩
      obtain ⟨d, hd⟩ : ∃ d, d = i / 8 := ⟨_, rfl⟩
      have HH : Hid (Rf b (upTo (fwdI b) i) w wo ∧ m = i % 8 ∧ d = i / 8) := ⟨HT, hm, hd⟩
      clear HT hm hd
      go_wp2_with fail
      obtain ⟨HT, hm, hd⟩ := HH.out
      clear HH t1
      go_loopg [5, 6] 64 (fun n s j wr => ∃ k : Nat, k + n = 64 ∧ j = .int .i64 k ∧ s = .int .i64 (sumTo k (fun t => clipI (-4096) 4096 (b t) * facN m (t % 8) * facN d (t / 8))) ∧ Rf b (upTo (fwdI b) i) w wr)
      case atStart => exact ⟨0, rfl, rfl, rfl, HT⟩
      case round =>
        clear HT
        obtain ⟨k, hk, rfl, rfl, HT⟩ := hrel
        have hz := HT.size
        by_cases hlk : k < 64
        · have t1 : decide ((k : Int) < 64) = true := by simp; omega
          obtain ⟨p, hp⟩ : ∃ p, p = k % 8 := ⟨_, rfl⟩
          obtain ⟨e, he⟩ : ∃ e, e = k / 8 := ⟨_, rfl⟩
          obtain ⟨hi9, hm9, hd9, m1, d1, m2, d2⟩ := nums3 hlt hm hd
          obtain ⟨hk9, hp9, he9, m3, d3, m4, d4⟩ := nums3 hlk hp he
          have f1 : facI (m : Int) (p : Int) = facN m p := facI_nn hm9 hp9
          have f2 : facI (d : Int) (e : Int) = facN d e := facI_nn hd9 he9
          have cb := row_cell HT.2.1 hlk
          obtain ⟨e1, g1, g2, g3⟩ := step3 hF (by omega) (by omega) (by omega) b (lo := (-4096)) (hi := 4096) hlt hlk hm hd hp he
          have HE : Hid (sumTo (k + 1) (fun t => clipI (-4096) 4096 (b t) * facN m (t % 8) * facN d (t / 8)) = sumTo k (fun t => clipI (-4096) 4096 (b t) * facN m (t % 8) * facN d (t / 8)) + clipI (-4096) 4096 (b k) * facN m p * facN d e) := e1
          have HH : Hid (Rf b (upTo (fwdI b) i) w wr) := HT
          clear e1 HT hm hd hp he hF hi
          generalize sumTo k (fun t => clipI (-4096) 4096 (b t) * facN m (t % 8) * facN d (t / 8)) = S at g3 HE ⊢
          go_wp2_with (first
      | (go_at_call 36; refine (rclip_ _ _ _ _).mono ?_; rintro e W1 ⟨rfl, hb1⟩; obtain ⟨hc1, hf1, hz1⟩ := bcell hb1; try simp at hz1)
      | (go_at_call 21; refine (rfactor_ _ _ _).mono ?_; rintro e W1 ⟨rfl, hb1⟩; obtain ⟨hc1, hf1, hz1⟩ := bcell hb1; try simp at hz1))
          go_roundg (64 - (k + 1))
          case measure => omega
          case rel =>
            refine ⟨k + 1, by omega, by go_num, ?_, ?_⟩
            · rw [HE.out, g3]
            · refine HH.out.later ?_
              repeat (first | exact gr0 _ | refine gr1 ?_ _ | refine gr2 ?_ (Later.below _) | refine gr2 ?_ (by assumption) | refine gr3 ?_ | refine gr4 ?_ (by first | (simp; done) | (simp; omega) | omega) _)
        · have hk64 : k = 64 := by omega
          subst hk64
          have t1 : decide (((64 : Nat) : Int) < 64) = false := rfl
          have hi9 : (0 : Int) ≤ i ∧ (i : Int) < 64 := by omega
          have cs := row_cell HT.2.2.2 (i := i) hlt
          have fs := row_free HT.2.2.2 i
          have HE : Hid (rndD (sumTo 64 (fun t => clipI (-4096) 4096 (b t) * facN m (t % 8) * facN d (t / 8))) 1099511627776 = fwdI b i) := by rw [hm, hd]; rfl
          have hS9 := def_in hF (by omega) (by omega) (by omega) b (lo := (-4096)) (hi := 4096) hlt hm hd
          have HH : Hid (Rf b (upTo (fwdI b) i) w wr) := HT
          clear HT hm hd hF
          generalize sumTo 64 (fun t => clipI (-4096) 4096 (b t) * facN m (t % 8) * facN d (t / 8)) = S at hS9 HE ⊢
          go_wp2_with (first
      | (go_at_call 37; refine (rround_ _ _ _ hS9 ⟨by omega, by omega⟩).mono ?_; rintro e W1 ⟨rfl, hb1⟩; obtain ⟨hc1, hf1, hz1⟩ := bcell hb1; try simp at hz1))
          go_roundg (64 - (i + 1))
          case measure => omega
          case rel =>
            refine ⟨i + 1, by omega, by go_num, ?_⟩
            rw [HE.out]
            exact Rf.set (HH.out.later (by assumption))
    · have hk64 : i = 64 := by omega
      subst hk64
      have t1 : decide (((64 : Nat) : Int) < 64) = false := rfl
      have H0 := Rf.all HT
      clear HT
      have HL := H0.2.2.2
      have HZ := H0.2.2.1
      have HB := H0.1
      clear H0
      go_wp2_with (first
        | (refine wpList_load_b _ HL rfl _ rfl rfl ?_)
        | (refine wpList_store_row rfl _ _ _ rfl (w.heap.size + 1) _ rfl rfl _ _ HZ (blk_info _) (blk_sz _ _) (blk_one _) ?_))
      refine bodyPost_ret (results_cell_row rfl _ _ (w.heap.size + 1) _ _ _ _ rfl (setRow_heap _ _ _ _ _ _ HZ) Tryd.underlying23 rfl (blk_info _)) rfl ⟨rfl, below_setRow HB (by omega) _⟩

set_option maxRecDepth 100000 in
set_option maxHeartbeats 2000000 in
theorem rbwd_ (b : Nat → Int) (w : World) :
    Calls Tryd.prog 19 #[.agg (blk b)] w fun e w' => e = .returned (.agg (blk (bwdI b))) ∧ Below w.heap.size w w' := by
  have hF : bdF facT := fun _ _ h1 h2 => facT_bd h1 h2
  go_enter Tryd.func19, Tryd.ntmps19
  go_wp2_with (first | (refine wpList_zero_b rfl rfl ?_) | (refine wpList_alloc_b rfl rfl ?_) | (refine wpList_store_b rfl _ _ rfl rfl rfl (by simp) ?_))
  refine wp_abs (fun W' => Rf b (upTo (bwdI b) 0) w W') (Rf.start b _ w) ?_
  intro W0 H0
  go_loopg [4] 64 (fun n i wr => ∃ k : Nat, k + n = 64 ∧ i = .int .i64 k ∧ Rf b (upTo (bwdI b) k) w wr)
  case atStart => exact ⟨0, rfl, rfl, H0⟩
  case round =>
    clear H0
    obtain ⟨i, hi, rfl, HT⟩ := hrel
    obtain ⟨wo, rfl⟩ : ∃ wo : World, wo = wr := ⟨_, rfl⟩
    obtain ⟨gn, rfl⟩ : ∃ gn : Nat, gn = gk := ⟨_, rfl⟩
    by_cases hlt : i < 64
    · have t1 : decide ((i : Int) < 64) = true := by simp; omega
      obtain ⟨m, hm⟩ : ∃ m, m = i % 8 := ⟨_, rfl⟩
      obtain ⟨d, hd⟩ : ∃ d, d = i / 8 := ⟨_, rfl⟩
      have HH : Hid (Rf b (upTo (bwdI b) i) w wo ∧ m = i % 8 ∧ d = i / 8) := ⟨HT, hm, hd⟩
      clear HT hm hd
      go_wp2_with fail
      obtain ⟨HT, hm, hd⟩ := HH.out
      clear HH t1
      go_loopg [5, 6] 64 (fun n s j wr => ∃ k : Nat, k + n = 64 ∧ j = .int .i64 k ∧ s = .int .i64 (sumTo k (fun t => clipI (-32768) 32767 (b t) * facT m (t % 8) * facT d (t / 8))) ∧ Rf b (upTo (bwdI b) i) w wr)
      case atStart => exact ⟨0, rfl, rfl, rfl, HT⟩
      case round =>
        clear HT
        obtain ⟨k, hk, rfl, rfl, HT⟩ := hrel
        have hz := HT.size
        by_cases hlk : k < 64
        · have t1 : decide ((k : Int) < 64) = true := by simp; omega
          obtain ⟨p, hp⟩ : ∃ p, p = k % 8 := ⟨_, rfl⟩
          obtain ⟨e, he⟩ : ∃ e, e = k / 8 := ⟨_, rfl⟩
          obtain ⟨hi9, hm9, hd9, m1, d1, m2, d2⟩ := nums3 hlt hm hd
          obtain ⟨hk9, hp9, he9, m3, d3, m4, d4⟩ := nums3 hlk hp he
          have f1 : facI (p : Int) (m : Int) = facT m p := facI_nn hp9 hm9
          have f2 : facI (e : Int) (d : Int) = facT d e := facI_nn he9 hd9
          have cb := row_cell HT.2.1 hlk
          obtain ⟨e1, g1, g2, g3⟩ := step3 hF (by omega) (by omega) (by omega) b (lo := (-32768)) (hi := 32767) hlt hlk hm hd hp he
          have HE : Hid (sumTo (k + 1) (fun t => clipI (-32768) 32767 (b t) * facT m (t % 8) * facT d (t / 8)) = sumTo k (fun t => clipI (-32768) 32767 (b t) * facT m (t % 8) * facT d (t / 8)) + clipI (-32768) 32767 (b k) * facT m p * facT d e) := e1
          have HH : Hid (Rf b (upTo (bwdI b) i) w wr) := HT
          clear e1 HT hm hd hp he hF hi
          generalize sumTo k (fun t => clipI (-32768) 32767 (b t) * facT m (t % 8) * facT d (t / 8)) = S at g3 HE ⊢
          go_wp2_with (first
      | (go_at_call 36; refine (rclip_ _ _ _ _).mono ?_; rintro e W1 ⟨rfl, hb1⟩; obtain ⟨hc1, hf1, hz1⟩ := bcell hb1; try simp at hz1)
      | (go_at_call 21; refine (rfactor_ _ _ _).mono ?_; rintro e W1 ⟨rfl, hb1⟩; obtain ⟨hc1, hf1, hz1⟩ := bcell hb1; try simp at hz1))
          go_roundg (64 - (k + 1))
          case measure => omega
          case rel =>
            refine ⟨k + 1, by omega, by go_num, ?_, ?_⟩
            · rw [HE.out, g3]
            · refine HH.out.later ?_
              repeat (first | exact gr0 _ | refine gr1 ?_ _ | refine gr2 ?_ (Later.below _) | refine gr2 ?_ (by assumption) | refine gr3 ?_ | refine gr4 ?_ (by first | (simp; done) | (simp; omega) | omega) _)
        · have hk64 : k = 64 := by omega
          subst hk64
          have t1 : decide (((64 : Nat) : Int) < 64) = false := rfl
          have hi9 : (0 : Int) ≤ i ∧ (i : Int) < 64 := by omega
          have cs := row_cell HT.2.2.2 (i := i) hlt
          have fs := row_free HT.2.2.2 i
          have HE : Hid (rndD (sumTo 64 (fun t => clipI (-32768) 32767 (b t) * facT m (t % 8) * facT d (t / 8))) 1099511627776 = bwdI b i) := by rw [hm, hd]; rfl
          have hS9 := def_in hF (by omega) (by omega) (by omega) b (lo := (-32768)) (hi := 32767) hlt hm hd
          have HH : Hid (Rf b (upTo (bwdI b) i) w wr) := HT
          clear HT hm hd hF
          generalize sumTo 64 (fun t => clipI (-32768) 32767 (b t) * facT m (t % 8) * facT d (t / 8)) = S at hS9 HE ⊢
          go_wp2_with (first
      | (go_at_call 37; refine (rround_ _ _ _ hS9 ⟨by omega, by omega⟩).mono ?_; rintro e W1 ⟨rfl, hb1⟩; obtain ⟨hc1, hf1, hz1⟩ := bcell hb1; try simp at hz1))
          go_roundg (64 - (i + 1))
          case measure => omega
          case rel =>
            refine ⟨i + 1, by omega, by go_num, ?_⟩
            rw [HE.out]
            exact Rf.set (HH.out.later (by assumption))
    · have hk64 : i = 64 := by omega
      subst hk64
      have t1 : decide (((64 : Nat) : Int) < 64) = false := rfl
      have H0 := Rf.all HT
      clear HT
      have HL := H0.2.2.2
      have HZ := H0.2.2.1
      have HB := H0.1
      clear H0
      go_wp2_with (first
        | (refine wpList_load_b _ HL rfl _ rfl rfl ?_)
        | (refine wpList_store_row rfl _ _ _ rfl (w.heap.size + 1) _ rfl rfl _ _ HZ (blk_info _) (blk_sz _ _) (blk_one _) ?_))
      refine bodyPost_ret (results_cell_row rfl _ _ (w.heap.size + 1) _ _ _ _ rfl (setRow_heap _ _ _ _ _ _ HZ) Tryd.underlying23 rfl (blk_info _)) rfl ⟨rfl, below_setRow HB (by omega) _⟩

end Go.Proofs.YtkaoajfdbjlioaaDoor
