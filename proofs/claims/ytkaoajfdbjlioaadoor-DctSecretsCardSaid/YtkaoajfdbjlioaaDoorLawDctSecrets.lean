/- DctSecrets: the walk: it returns true. -/
import Derived.Test.YtkaoajfdbjlioaaDoorDctS
import Derived.Deep.LoopGhost
namespace Go.Proofs.YtkaoajfdbjlioaaDoor
open Go.RowKit

set_option maxRecDepth 100000 in
set_option maxHeartbeats 2000000 in
theorem walk_DctSecrets (b : Nat → Int) (v : Value) (n : Nat) (cs : Nat → Int) (k : Int) (w : World) (hL : Facs w) (_hb : ∀ i, i < 64 → (Lit.int .i64 (b i)).wf = true) (H : Bytes v n cs w) (hk : 0 ≤ k ∧ k ≤ 255) :
    Calls Tryd.prog 12 #[.agg (blk b), v, .int .u8 k] w fun e w' => e = .returned (.bool true) ∧ Below w.heap.size w w' := by
  have hIb : ∀ i, i < 64 → I64 (b i) := fun i hi => by
    have h := _hb i hi
    have hmin : IntKind.i64.min = -9223372036854775808 := rfl
    have hmax : IntKind.i64.max = 9223372036854775807 := rfl
    simp only [Lit.wf, Bool.and_eq_true, decide_eq_true_eq] at h
    exact i64_of (by omega) (by omega)
  have hby := ch_byte H hk
  have hIx : ∀ i, i < 64 → I64 (chI cs n k i) := fun i hi => by have := hby i hi; exact i64_of (by omega) (by omega)
  have hIy : ∀ i, i < 64 → I64 (fwdI (chI cs n k) i) := fun i hi => by have := fwd_in hby i hi; exact i64_of (by omega) (by omega)
  go_enter Tryd.func12, Tryd.ntmps12
  go_wp2_with (first | (go_at_call 14; refine (block_ (H.below (gr1 (gr0 _) _)) hk).mono ?_; rintro e W1 ⟨rfl, hb1⟩; obtain ⟨hc1, hf1, hz1⟩ := bcell hb1) | (go_at_call 15; refine (rfwd_ _ _).mono ?_; rintro e W2 ⟨rfl, hb2⟩; obtain ⟨hc2, hf2, hz2⟩ := bcell hb2) | (refine wpList_load_b _ (heap_alloc_new _ _) rfl _ rfl rfl ?_) | (refine wpList_zero_b rfl rfl ?_) | (refine wpList_alloc_b rfl rfl ?_) | (refine wpList_store_b rfl _ _ rfl rfl rfl (by simp) ?_))
  refine wp_abs (fun W' => Below w.heap.size w W' ∧ W'.heap[w.heap.size]? = some (.cells (blk (b)) 23 (0, 0)) ∧ W'.heap[W1.heap.size]? = some (.cells (blk (chI cs n k)) 23 (0, 0)) ∧ W'.heap[W2.heap.size]? = some (.cells (blk (fwdI (chI cs n k))) 23 (0, 0))) ⟨gr1 (gr2 (gr1 (gr2 (gr1 (gr0 _) _) hb1) _) hb2) _, at_al (at_be (at_al (at_be (heap_alloc_new _ _) hb1)) hb2), at_al (at_be (heap_alloc_new _ _) hb2), heap_alloc_new _ _⟩ ?_
  clear hb1 hc1 hf1 hz1 hb2 hc2 hf2 hz2
  rintro W3 ⟨HB, H1, H2, H3⟩
  have hLr : Facs W3 := hL.below HB
  refine wp_region_calm (by kernel_rfl) (by kernel_rfl) ?_
  (repeat (first | (refine wpQuiet_load_b _ (later_heap H1) rfl _ rfl rfl ?_; simp only [Act.put, List.setIfInBounds_toArray, List.set_cons_succ, List.set_cons_zero]) | (refine wpQuiet_load_b _ (later_heap H2) rfl _ rfl rfl ?_; simp only [Act.put, List.setIfInBounds_toArray, List.set_cons_succ, List.set_cons_zero]) | (refine wpQuiet_load_b _ (later_heap H3) rfl _ rfl rfl ?_; simp only [Act.put, List.setIfInBounds_toArray, List.set_cons_succ, List.set_cons_zero]) | go_big_quiet_step ((first | (go_at_call 16; with_reducible exact calm_call (known08 _ (hLr.below (Later.below _)))) | (go_at_call 29; with_reducible exact calm_call (hide_ _ _)) | (go_at_call 28; with_reducible exact calm_call (fwds_ _ _ (hLr.below (Later.below _)) hIb)) | (go_at_call 28; with_reducible exact calm_call (fwds_ _ _ (hLr.below (Later.below _)) hIx)) | (go_at_call 30; with_reducible exact calm_call (bwds_ _ _ (hLr.below (Later.below _)) hIb)) | (go_at_call 30; with_reducible exact calm_call (bwds_ _ _ (hLr.below (Later.below _)) hIy)) | (go_at_call 15; with_reducible exact calm_call (rfwd_ _ _)) | (go_at_call 19; with_reducible exact calm_call (rbwd_ _ _)) | (go_at_call 27; with_reducible exact calm_call (same8_ _ _)))) | quiet_step ((first | (go_at_call 16; with_reducible exact calm_call (known08 _ (hLr.below (Later.below _)))) | (go_at_call 29; with_reducible exact calm_call (hide_ _ _)) | (go_at_call 28; with_reducible exact calm_call (fwds_ _ _ (hLr.below (Later.below _)) hIb)) | (go_at_call 28; with_reducible exact calm_call (fwds_ _ _ (hLr.below (Later.below _)) hIx)) | (go_at_call 30; with_reducible exact calm_call (bwds_ _ _ (hLr.below (Later.below _)) hIb)) | (go_at_call 30; with_reducible exact calm_call (bwds_ _ _ (hLr.below (Later.below _)) hIy)) | (go_at_call 15; with_reducible exact calm_call (rfwd_ _ _)) | (go_at_call 19; with_reducible exact calm_call (rbwd_ _ _)) | (go_at_call 27; with_reducible exact calm_call (same8_ _ _))))))
  refine wpQuiet_nil ?_
  intro u
  have HB3 := gr2 HB u.below
  go_wp2
  go_ret
  exact ⟨rfl, HB3⟩
end Go.Proofs.YtkaoajfdbjlioaaDoor
