/- QuantSteps: the walk: it returns true. -/
import Derived.Test.YtkaoajfdbjlioaaDoorQuantP
import Derived.Test.YtkaoajfdbjlioaaDoorQuantZ
import Derived.Test.YtkaoajfdbjlioaaDoorKnown09
namespace Go.Proofs.YtkaoajfdbjlioaaDoor
open Go.RowKit

set_option maxRecDepth 100000 in
set_option maxHeartbeats 4000000 in
theorem walk_QuantSteps (b : Nat → Int) (v : Value) (n : Nat) (cs : Nat → Int) (vd : Value) (m : Nat) (ds : Nat → Int) (k : Int) (w : World) (hT : Tabs w) (_hb : ∀ i, i < 64 → (Lit.int .i64 (b i)).wf = true) (H : Bytes v n cs w) (Hd : Bytes vd m ds w) (hk : 0 ≤ k ∧ k ≤ 255) :
    Calls Tryd.prog 13 #[.agg (blk b), v, vd, .int .u8 k] w fun e w' => e = .returned (.bool true) ∧ Below w.heap.size w w' := by
  have hIb : ∀ i, i < 64 → I64 (b i) := fun i hi => by
    have h := _hb i hi
    have hmin : IntKind.i64.min = -9223372036854775808 := rfl
    have hmax : IntKind.i64.max = 9223372036854775807 := rfl
    simp only [Lit.wf, Bool.and_eq_true, decide_eq_true_eq] at h
    exact i64_of (by omega) (by omega)
  have hby := ch_byte H hk
  have hIx : ∀ i, i < 64 → I64 (fwdI (chI cs n k) i) := fun i hi => by have := fwd_in hby i hi; exact i64_of (by omega) (by omega)
  clear hby _hb
  go_enter Tryd.func13, Tryd.ntmps13
  go_wp2_with (first
    | (go_at_call 22; refine (steps_ (Hd.below (gr1 (gr0 _) _))).mono ?_; rintro e W1 ⟨v1, rfl, hb1, hQ1⟩)
    | (go_at_call 14; refine (block_ (H.below (gr2 (gr1 (gr0 _) _) hb1)) hk).mono ?_; rintro e W2 ⟨rfl, hb2⟩)
    | (go_at_call 15; refine (rfwd_ _ _).mono ?_; rintro e W3 ⟨rfl, hb3⟩)
    | (go_at_call 31; refine (rqfwd_ _ _ _ _ (hQ1.below (gr1 (gr2 hb2 hb3) _))).mono ?_; rintro e W4 ⟨rfl, hb4⟩)
    | (refine wpList_load_b _ (heap_alloc_new _ _) rfl _ rfl rfl ?_) | (refine wpList_zero_b rfl rfl ?_) | (refine wpList_alloc_b rfl rfl ?_) | (refine wpList_store_b rfl _ _ rfl rfl rfl (by simp) ?_))
  obtain ⟨g1, hg1⟩ : ∃ g, g = W3.heap.size := ⟨_, rfl⟩
  obtain ⟨g2, hg2⟩ : ∃ g, g = W4.heap.size := ⟨_, rfl⟩
  rw [← hg1, ← hg2]
  refine wp_abs (fun W' => Below w.heap.size w W' ∧ W'.heap[w.heap.size]? = some (.cells (blk b) 23 (0, 0)) ∧ W'.heap[g1]? = some (.cells (blk (fwdI (chI cs n k))) 23 (0, 0)) ∧ W'.heap[g2]? = some (.cells (blk (qfI (fwdI (chI cs n k)) (stI ds m))) 23 (0, 0)) ∧ Stp v1 (stI ds m) W') ⟨gr1 (gr2 (gr1 (gr2 (gr2 (gr2 (gr1 (gr0 _) _) hb1) hb2) hb3) _) hb4) _, ?_, ?_, ?_, ?_⟩ ?_
  · exact at_al (at_be (at_al (at_be (at_be (at_be (heap_alloc_new _ _) hb1) hb2) hb3)) hb4)
  · rw [hg1]; exact at_al (at_be (heap_alloc_new _ _) hb4)
  · rw [hg2]; exact heap_alloc_new _ _
  · exact hQ1.below (gr1 (gr2 (gr1 (gr2 hb2 hb3) _) hb4) _)
  clear hb1 hb2 hb3 hb4 hg1 hg2 hQ1
  rintro W5 ⟨HB, H1, H2, H3, hQr⟩
  have hTr : Tabs W5 := hT.below HB
  refine wp_region_calm (by kernel_rfl) (by kernel_rfl) ?_
  (repeat (first | (refine wpQuiet_load_b _ (later_heap H1) rfl _ rfl rfl ?_; simp only [Act.put, List.setIfInBounds_toArray, List.set_cons_succ, List.set_cons_zero]) | (refine wpQuiet_load_b _ (later_heap H2) rfl _ rfl rfl ?_; simp only [Act.put, List.setIfInBounds_toArray, List.set_cons_succ, List.set_cons_zero]) | (refine wpQuiet_load_b _ (later_heap H3) rfl _ rfl rfl ?_; simp only [Act.put, List.setIfInBounds_toArray, List.set_cons_succ, List.set_cons_zero]) | (refine wpQuiet_eql_b (fun _ _ => rfl) rfl _ _ _ rfl rfl rfl ?_; simp only [Act.put, List.setIfInBounds_toArray, List.set_cons_succ, List.set_cons_zero]) | go_big_quiet_step ((first | (go_at_call 26; with_reducible exact calm_call (known09 _ (hTr.below (Later.below _)))) | (go_at_call 29; with_reducible exact calm_call (hide_ _ _)) | (go_at_call 23; with_reducible exact calm_call (qfwd_ _ _ _ _ (hTr.below (Later.below _)) (hQr.below (Later.below _)))) | (go_at_call 24; with_reducible exact calm_call (qbwd_ _ _ _ _ (hTr.below (Later.below _)) (hQr.below (Later.below _)))) | (go_at_call 31; with_reducible exact calm_call (rqfwd_ _ _ _ _ (hQr.below (Later.below _)))) | (go_at_call 32; with_reducible exact calm_call (rqbwd_ _ _ _ _ (hQr.below (Later.below _)))) | (go_at_call 34; with_reducible exact calm_call (qfwds_ _ _ _ _ (hTr.below (Later.below _)) (hQr.below (Later.below _)) hIb)) | (go_at_call 34; with_reducible exact calm_call (qfwds_ _ _ _ _ (hTr.below (Later.below _)) (hQr.below (Later.below _)) hIx)) | (go_at_call 35; with_reducible exact calm_call (qbwds_ _ _ _ _ (hTr.below (Later.below _)) (hQr.below (Later.below _)) hIb)) | (go_at_call 33; with_reducible exact calm_call (same9_ _ _)))) | quiet_step ((first | (go_at_call 26; with_reducible exact calm_call (known09 _ (hTr.below (Later.below _)))) | (go_at_call 29; with_reducible exact calm_call (hide_ _ _)) | (go_at_call 23; with_reducible exact calm_call (qfwd_ _ _ _ _ (hTr.below (Later.below _)) (hQr.below (Later.below _)))) | (go_at_call 24; with_reducible exact calm_call (qbwd_ _ _ _ _ (hTr.below (Later.below _)) (hQr.below (Later.below _)))) | (go_at_call 31; with_reducible exact calm_call (rqfwd_ _ _ _ _ (hQr.below (Later.below _)))) | (go_at_call 32; with_reducible exact calm_call (rqbwd_ _ _ _ _ (hQr.below (Later.below _)))) | (go_at_call 34; with_reducible exact calm_call (qfwds_ _ _ _ _ (hTr.below (Later.below _)) (hQr.below (Later.below _)) hIb)) | (go_at_call 34; with_reducible exact calm_call (qfwds_ _ _ _ _ (hTr.below (Later.below _)) (hQr.below (Later.below _)) hIx)) | (go_at_call 35; with_reducible exact calm_call (qbwds_ _ _ _ _ (hTr.below (Later.below _)) (hQr.below (Later.below _)) hIb)) | (go_at_call 33; with_reducible exact calm_call (same9_ _ _))))))
  refine wpQuiet_nil ?_
  intro u
  go_wp2
  refine wp_abs (fun W' => Below w.heap.size w W' ∧ W'.heap[w.heap.size]? = some (.cells (blk b) 23 (0, 0)) ∧ W'.heap[g1]? = some (.cells (blk (fwdI (chI cs n k))) 23 (0, 0)) ∧ W'.heap[g2]? = some (.cells (blk (qfI (fwdI (chI cs n k)) (stI ds m))) 23 (0, 0)) ∧ Stp v1 (stI ds m) W') ⟨gr2 HB u.below, at_be H1 u.below, at_be H2 u.below, at_be H3 u.below, hQr.below u.below⟩ ?_
  clear HB H1 H2 H3 hQr u hTr
  rintro W6 ⟨HB, H1, H2, H3, hQr⟩
  go_wp2
  have hTr : Tabs W6 := hT.below HB
  refine wp_region_calm (by kernel_rfl) (by kernel_rfl) ?_
  (repeat (first | (refine wpQuiet_load_b _ (later_heap H1) rfl _ rfl rfl ?_; simp only [Act.put, List.setIfInBounds_toArray, List.set_cons_succ, List.set_cons_zero]) | (refine wpQuiet_load_b _ (later_heap H2) rfl _ rfl rfl ?_; simp only [Act.put, List.setIfInBounds_toArray, List.set_cons_succ, List.set_cons_zero]) | (refine wpQuiet_load_b _ (later_heap H3) rfl _ rfl rfl ?_; simp only [Act.put, List.setIfInBounds_toArray, List.set_cons_succ, List.set_cons_zero]) | (refine wpQuiet_eql_b (fun _ _ => rfl) rfl _ _ _ rfl rfl rfl ?_; simp only [Act.put, List.setIfInBounds_toArray, List.set_cons_succ, List.set_cons_zero]) | go_big_quiet_step ((first | (go_at_call 26; with_reducible exact calm_call (known09 _ (hTr.below (Later.below _)))) | (go_at_call 29; with_reducible exact calm_call (hide_ _ _)) | (go_at_call 23; with_reducible exact calm_call (qfwd_ _ _ _ _ (hTr.below (Later.below _)) (hQr.below (Later.below _)))) | (go_at_call 24; with_reducible exact calm_call (qbwd_ _ _ _ _ (hTr.below (Later.below _)) (hQr.below (Later.below _)))) | (go_at_call 31; with_reducible exact calm_call (rqfwd_ _ _ _ _ (hQr.below (Later.below _)))) | (go_at_call 32; with_reducible exact calm_call (rqbwd_ _ _ _ _ (hQr.below (Later.below _)))) | (go_at_call 34; with_reducible exact calm_call (qfwds_ _ _ _ _ (hTr.below (Later.below _)) (hQr.below (Later.below _)) hIb)) | (go_at_call 34; with_reducible exact calm_call (qfwds_ _ _ _ _ (hTr.below (Later.below _)) (hQr.below (Later.below _)) hIx)) | (go_at_call 35; with_reducible exact calm_call (qbwds_ _ _ _ _ (hTr.below (Later.below _)) (hQr.below (Later.below _)) hIb)) | (go_at_call 33; with_reducible exact calm_call (same9_ _ _)))) | quiet_step ((first | (go_at_call 26; with_reducible exact calm_call (known09 _ (hTr.below (Later.below _)))) | (go_at_call 29; with_reducible exact calm_call (hide_ _ _)) | (go_at_call 23; with_reducible exact calm_call (qfwd_ _ _ _ _ (hTr.below (Later.below _)) (hQr.below (Later.below _)))) | (go_at_call 24; with_reducible exact calm_call (qbwd_ _ _ _ _ (hTr.below (Later.below _)) (hQr.below (Later.below _)))) | (go_at_call 31; with_reducible exact calm_call (rqfwd_ _ _ _ _ (hQr.below (Later.below _)))) | (go_at_call 32; with_reducible exact calm_call (rqbwd_ _ _ _ _ (hQr.below (Later.below _)))) | (go_at_call 34; with_reducible exact calm_call (qfwds_ _ _ _ _ (hTr.below (Later.below _)) (hQr.below (Later.below _)) hIb)) | (go_at_call 34; with_reducible exact calm_call (qfwds_ _ _ _ _ (hTr.below (Later.below _)) (hQr.below (Later.below _)) hIx)) | (go_at_call 35; with_reducible exact calm_call (qbwds_ _ _ _ _ (hTr.below (Later.below _)) (hQr.below (Later.below _)) hIb)) | (go_at_call 33; with_reducible exact calm_call (same9_ _ _))))))
  refine wpQuiet_nil ?_
  intro u
  go_wp2
  refine wp_abs (fun W' => Below w.heap.size w W' ∧ W'.heap[w.heap.size]? = some (.cells (blk b) 23 (0, 0)) ∧ W'.heap[g1]? = some (.cells (blk (fwdI (chI cs n k))) 23 (0, 0)) ∧ W'.heap[g2]? = some (.cells (blk (qfI (fwdI (chI cs n k)) (stI ds m))) 23 (0, 0)) ∧ Stp v1 (stI ds m) W') ⟨gr2 HB u.below, at_be H1 u.below, at_be H2 u.below, at_be H3 u.below, hQr.below u.below⟩ ?_
  clear HB H1 H2 H3 hQr u hTr
  rintro W7 ⟨HB, H1, H2, H3, hQr⟩
  go_wp2
  have hTr : Tabs W7 := hT.below HB
  refine wp_region_calm (by kernel_rfl) (by kernel_rfl) ?_
  (repeat (first | (refine wpQuiet_load_b _ (later_heap H1) rfl _ rfl rfl ?_; simp only [Act.put, List.setIfInBounds_toArray, List.set_cons_succ, List.set_cons_zero]) | (refine wpQuiet_load_b _ (later_heap H2) rfl _ rfl rfl ?_; simp only [Act.put, List.setIfInBounds_toArray, List.set_cons_succ, List.set_cons_zero]) | (refine wpQuiet_load_b _ (later_heap H3) rfl _ rfl rfl ?_; simp only [Act.put, List.setIfInBounds_toArray, List.set_cons_succ, List.set_cons_zero]) | (refine wpQuiet_eql_b (fun _ _ => rfl) rfl _ _ _ rfl rfl rfl ?_; simp only [Act.put, List.setIfInBounds_toArray, List.set_cons_succ, List.set_cons_zero]) | go_big_quiet_step ((first | (go_at_call 26; with_reducible exact calm_call (known09 _ (hTr.below (Later.below _)))) | (go_at_call 29; with_reducible exact calm_call (hide_ _ _)) | (go_at_call 23; with_reducible exact calm_call (qfwd_ _ _ _ _ (hTr.below (Later.below _)) (hQr.below (Later.below _)))) | (go_at_call 24; with_reducible exact calm_call (qbwd_ _ _ _ _ (hTr.below (Later.below _)) (hQr.below (Later.below _)))) | (go_at_call 31; with_reducible exact calm_call (rqfwd_ _ _ _ _ (hQr.below (Later.below _)))) | (go_at_call 32; with_reducible exact calm_call (rqbwd_ _ _ _ _ (hQr.below (Later.below _)))) | (go_at_call 34; with_reducible exact calm_call (qfwds_ _ _ _ _ (hTr.below (Later.below _)) (hQr.below (Later.below _)) hIb)) | (go_at_call 34; with_reducible exact calm_call (qfwds_ _ _ _ _ (hTr.below (Later.below _)) (hQr.below (Later.below _)) hIx)) | (go_at_call 35; with_reducible exact calm_call (qbwds_ _ _ _ _ (hTr.below (Later.below _)) (hQr.below (Later.below _)) hIb)) | (go_at_call 33; with_reducible exact calm_call (same9_ _ _)))) | quiet_step ((first | (go_at_call 26; with_reducible exact calm_call (known09 _ (hTr.below (Later.below _)))) | (go_at_call 29; with_reducible exact calm_call (hide_ _ _)) | (go_at_call 23; with_reducible exact calm_call (qfwd_ _ _ _ _ (hTr.below (Later.below _)) (hQr.below (Later.below _)))) | (go_at_call 24; with_reducible exact calm_call (qbwd_ _ _ _ _ (hTr.below (Later.below _)) (hQr.below (Later.below _)))) | (go_at_call 31; with_reducible exact calm_call (rqfwd_ _ _ _ _ (hQr.below (Later.below _)))) | (go_at_call 32; with_reducible exact calm_call (rqbwd_ _ _ _ _ (hQr.below (Later.below _)))) | (go_at_call 34; with_reducible exact calm_call (qfwds_ _ _ _ _ (hTr.below (Later.below _)) (hQr.below (Later.below _)) hIb)) | (go_at_call 34; with_reducible exact calm_call (qfwds_ _ _ _ _ (hTr.below (Later.below _)) (hQr.below (Later.below _)) hIx)) | (go_at_call 35; with_reducible exact calm_call (qbwds_ _ _ _ _ (hTr.below (Later.below _)) (hQr.below (Later.below _)) hIb)) | (go_at_call 33; with_reducible exact calm_call (same9_ _ _))))))
  refine wpQuiet_nil ?_
  intro u
  have HB3 := gr2 HB u.below
  go_wp2
  go_ret
  exact ⟨rfl, HB3⟩
end Go.Proofs.YtkaoajfdbjlioaaDoor
