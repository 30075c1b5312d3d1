/- The chapter's example; what choices are. -/
import Derived.Test.YtkaoajfdbjlioaaDoorDctK
import Derived.Test.YtkaoajfdbjlioaaDoorDctN
namespace Go.Proofs.YtkaoajfdbjlioaaDoor
open Go.RowKit

theorem def_congr {F : Nat → Nat → Int} {lo hi : Int} {b c : Nat → Int} (h : ∀ k, k < 64 → b k = c k) (i : Nat) : defI F lo hi b i = defI F lo hi c i := sumTo_congr 64 fun k hk => by rw [h k hk]
theorem fwd_congr {b c : Nat → Int} (h : ∀ k, k < 64 → b k = c k) (i : Nat) : fwdI b i = fwdI c i := by unfold fwdI; rw [def_congr h]
theorem bwd_congr {b c : Nat → Int} (h : ∀ k, k < 64 → b k = c k) (i : Nat) : bwdI b i = bwdI c i := by unfold bwdI; rw [def_congr h]
def one64 (n : Int) : Nat → Int := fun i => if i = 0 then n else 0
theorem kn1 : ∀ i, i < 64 → fwdI (fun _ => 8) i = one64 64 i := by decide +kernel
theorem kn2 : ∀ i, i < 64 → bwdI (fwdI fun _ => 8) i = (fun _ => (8 : Int)) i := by
  have h : ∀ i, i < 64 → bwdI (one64 64) i = 8 := by decide +kernel
  intro i hi
  rw [bwd_congr kn1]
  exact h i hi
theorem kn3 : Tryd.prog.built 23 [(0, .int .i64 64)] = some (blk (one64 64)) := by kernel_rfl
theorem kn4 : facI 0 0 = 370728 ∧ facI 8 0 = 0 := by decide +kernel
theorem at_al {w : World} {g : Nat} {o x : Obj} (h : w.heap[g]? = some o) : (w.alloc x).heap[g]? = some o := by
  have := heap_lt h
  rw [heap_alloc_if, if_neg (by omega)]; exact h
theorem at_be {w w' : World} {g : Nat} {o : Obj} (h : w.heap[g]? = some o) (hb : Below w.heap.size w w') : w'.heap[g]? = some o := (hb.block g (heap_lt h)).trans h
/-- The bytes of a slice. -/
def Bytes (v : Value) (n : Nat) (cs : Nat → Int) (w : World) : Prop := (∀ i, i < n → 0 ≤ cs i ∧ cs i ≤ 255) ∧ n ≤ 9223372036854775807 ∧
  ((n = 0 ∧ ∃ p cap, v = .slice p 0 cap) ∨ (0 < n ∧ ∃ cb co cap, v = .slice (some ⟨cb, co, none⟩) n cap ∧ cb < w.heap.size ∧ ∀ i, i < n → w.cell? ⟨cb, co + i, none⟩ = some (.int .u8 (cs i))))
theorem Bytes.below {v : Value} {n : Nat} {cs : Nat → Int} {w w' : World} (H : Bytes v n cs w) (hb : Below w.heap.size w w') : Bytes v n cs w' := by
  obtain ⟨h1, h2, h3⟩ := H
  refine ⟨h1, h2, ?_⟩
  rcases h3 with h | ⟨h, cb, co, cap, e, hl, hc⟩
  · exact .inl h
  · exact .inr ⟨h, cb, co, cap, e, Nat.lt_of_lt_of_le hl hb.size, fun i hi => (hb.cell (p := ⟨cb, co + i, none⟩) hl).trans (hc i hi)⟩
theorem block_ {v : Value} {n : Nat} {cs : Nat → Int} {k : Int} {w : World} (H : Bytes v n cs w) (hk : 0 ≤ k ∧ k ≤ 255) :
    Calls Tryd.prog 14 #[v, .int .u8 k] w fun e w' => e = .returned (.agg (blk (chI cs n k))) ∧ Below w.heap.size w w' := by
  obtain ⟨h1, h2, h3⟩ := H
  rcases h3 with ⟨rfl, p, cap, rfl⟩ | ⟨h, cb, co, cap, rfl, hl, hc⟩
  · exact block_0 p cap cs k w hk
  · exact block_n cb co n cap cs k w hk h h2 hl hc h1
theorem ch_byte {v : Value} {n : Nat} {cs : Nat → Int} {k : Int} {w : World} (_ : Bytes v n cs w) (hk : 0 ≤ k ∧ k ≤ 255) : byteB (chI cs n k) := by
  intro i _
  unfold chI
  split <;> omega

set_option maxRecDepth 100000 in
set_option maxHeartbeats 2000000 in
theorem known08 (w : World) (hL : Facs w) :
    Calls Tryd.prog 16 #[] w fun e w' => e = .returned (.bool true) ∧ Below w.heap.size w w' := by
  go_enter Tryd.func16, Tryd.ntmps16
  go_wp2_with (first | (refine wpList_zero_b rfl rfl ?_) | (refine wpList_alloc_b rfl rfl ?_) | (refine wpList_store_b rfl _ _ rfl rfl rfl (by simp) ?_))
  refine wp_abs (fun W' => Below w.heap.size w W' ∧ W'.heap[w.heap.size]? = some (.cells (blk (upTo (fun _ => 8) 0)) 23 (0, 0))) ⟨gr1 (gr0 _) _, ?_⟩ ?_
  · rw [upTo_0]; exact heap_alloc_new _ _
  rintro W0 H0
  go_loopg [2] 64 (fun n i wr => ∃ k : Nat, k + n = 64 ∧ i = .int .i64 k ∧ Below w.heap.size w wr ∧ wr.heap[w.heap.size]? = some (.cells (blk (upTo (fun _ => 8) k)) 23 (0, 0)))
  case atStart => exact ⟨0, rfl, rfl, H0⟩
  case round =>
    clear H0
    obtain ⟨i, hi, rfl, HB, HT⟩ := hrel
    have hz := heap_lt HT
    by_cases hlt : i < 64
    · have t1 : decide ((i : Int) < 64) = true := by simp; omega
      have hi9 : (0 : Int) ≤ i ∧ (i : Int) < 64 := by omega
      have cs1 := row_cell HT (i := i) hlt
      have fs1 := row_free HT i
      have HH : Hid (Below w.heap.size w wr ∧ wr.heap[w.heap.size]? = some (.cells (blk (upTo (fun _ => 8) i)) 23 (0, 0))) := ⟨HB, HT⟩
      clear HT HB
      go_wp2
      go_roundg (64 - (i + 1))
      case measure => omega
      case rel =>
        refine ⟨i + 1, by omega, by go_num, gr4 HH.out.1 (by first | (simp; done) | (simp; omega)) _, ?_⟩
        have := heap_setCell_same _ _ i _ _ (.int .i64 8) HH.out.2
        rw [blk_set (fun _ => 8)] at this
        exact this
    · have hk64 : i = 64 := by omega
      subst hk64
      have t1 : decide (((64 : Nat) : Int) < 64) = false := rfl
      rw [blk_all] at HT
      have hLr : Facs wr := hL.below HB
      have HH : Hid (Below w.heap.size w wr) := HB
      clear HB
      go_wp2_with (first
        | (refine wpList_load_b _ HT rfl _ rfl rfl ?_)
        | (go_at_call 17; refine (fwd_ _ _ hLr).mono ?_; rintro e W1 ⟨rfl, hb1⟩; obtain ⟨hc1, hf1, hz1⟩ := bcell hb1) | (refine wpList_zero_b rfl rfl ?_) | (refine wpList_alloc_b rfl rfl ?_) | (refine wpList_store_b rfl _ _ rfl rfl rfl (by simp) ?_))
      obtain ⟨g, hg⟩ : ∃ g, g = W1.heap.size := ⟨_, rfl⟩
      rw [← hg]
      refine wp_abs (fun W' => Below w.heap.size w W' ∧ W'.heap[w.heap.size]? = some (.cells (blk fun _ => 8) 23 (0, 0)) ∧ W'.heap[g]? = some (.cells (blk (fwdI fun _ => 8)) 23 (0, 0))) ⟨gr1 (gr2 HH.out hb1) _, ?_, ?_⟩ ?_
      · rw [heap_alloc_if, if_neg (by omega)]; exact (hb1.block _ hz).trans HT
      · rw [heap_alloc_if, if_pos hg]
      clear HH HT hz hLr hb1 hc1 hf1 hz1 hg
      rintro W2 ⟨HB, H1, H2⟩
      have hLr : Facs W2 := hL.below HB
      obtain ⟨k4, k5⟩ := kn4
      have K1 := kn1
      have K2 := kn2
      generalize fwdI (fun _ => 8) = F1 at H2 K1 K2 ⊢
      refine wp_region_calm (by kernel_rfl) (by kernel_rfl) ?_
      (repeat (first | (refine wpQuiet_load_b _ (later_heap H1) rfl _ rfl rfl ?_; simp only [Act.put, List.setIfInBounds_toArray, List.set_cons_succ, List.set_cons_zero]) | (refine wpQuiet_load_b _ (later_heap H2) rfl _ rfl rfl ?_; simp only [Act.put, List.setIfInBounds_toArray, List.set_cons_succ, List.set_cons_zero]) | (refine wpQuiet_build1 kn3 rfl rfl ?_; simp only [Act.put, List.setIfInBounds_toArray, List.set_cons_succ, List.set_cons_zero]) | (refine wpQuiet_eql_b K1 rfl _ _ _ rfl rfl rfl ?_; simp only [Act.put, List.setIfInBounds_toArray, List.set_cons_succ, List.set_cons_zero]) | (refine wpQuiet_eql_b K2 rfl _ _ _ rfl rfl rfl ?_; simp only [Act.put, List.setIfInBounds_toArray, List.set_cons_succ, List.set_cons_zero]) | go_big_quiet_step ((first | (go_at_call 18; exact calm_call (bwd_ _ _ (hLr.below (Later.below _)))) | (go_at_call 20; exact calm_call (factor_ _ _ _ (hLr.below (Later.below _)))))) | quiet_step ((first | (go_at_call 18; exact calm_call (bwd_ _ _ (hLr.below (Later.below _)))) | (go_at_call 20; exact calm_call (factor_ _ _ _ (hLr.below (Later.below _))))))))
      refine wpQuiet_nil ?_
      intro u
      have HB3 := gr2 HB u.below
      go_wp2
      go_ret
      exact ⟨rfl, HB3⟩

end Go.Proofs.YtkaoajfdbjlioaaDoor
