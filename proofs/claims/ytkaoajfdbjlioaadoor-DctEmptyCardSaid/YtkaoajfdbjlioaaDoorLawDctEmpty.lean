/- DctEmpty: the walk: it returns true. -/
import Derived.Test.YtkaoajfdbjlioaaDoorDctW
import Derived.Deep.LoopGhost
namespace Go.Proofs.YtkaoajfdbjlioaaDoor
open Go.RowKit

theorem emp_max {n : Int} (hn : -2147483648 ≤ n ∧ n ≤ 2147483647) : ∃ z : Int, (0 ≤ z ∧ z ≤ 2147483647) ∧ (∀ c : Int, c = 1 → wrap32 (wrap32 (-n) - c) = -n - 1) ∧ max n (-n - 1) = z := by
  refine ⟨max n (-n - 1), by omega, ?_, rfl⟩
  rintro c rfl
  unfold wrap32
  omega
def putN (j : Nat) (v : Int) : Nat → Int := fun i => if i = j then v else 0
theorem blk_put0 (j : Nat) (v : Int) : (blk fun _ => 0).setIfInBounds j (.int .i64 v) = blk (putN j v) := blk_put _ j v
theorem emp_f {z : Int} (h : 0 ≤ z) (j : Nat) : ∀ i, i < 64 → fwdI (putN j (4097 + z)) i = fwdI (putN j 4096) i := by
  intro i _
  unfold fwdI defI
  congr 1
  refine sumTo_congr 64 fun k _ => ?_
  have : clipI (-4096) 4096 (putN j (4097 + z) k) = clipI (-4096) 4096 (putN j 4096 k) := by
    unfold putN
    split
    · unfold clipI; rw [if_neg (by omega), if_pos (by omega)]; rfl
    · rfl
  rw [this]
theorem emp_b {z : Int} (h : 0 ≤ z) (j : Nat) : ∀ i, i < 64 → bwdI (putN j (-32769 - z)) i = bwdI (putN j (-32768)) i := by
  intro i _
  unfold bwdI defI
  congr 1
  refine sumTo_congr 64 fun k _ => ?_
  have : clipI (-32768) 32767 (putN j (-32769 - z) k) = clipI (-32768) 32767 (putN j (-32768) k) := by
    unfold putN
    split
    · unfold clipI; rw [if_pos (by omega)]; rfl
    · rfl
  rw [this]
theorem emp_0 : ∀ i, i < 64 → fwdI (fun _ => 0) i = (fun _ => (0 : Int)) i := by decide +kernel
theorem emp_1 : ∀ i, i < 64 → bwdI (fun _ => 0) i = (fun _ => (0 : Int)) i := by decide +kernel
theorem mod64 {i : Int} (h : 0 ≤ i ∧ i ≤ 255) : ∃ j : Nat, (j < 64 ∧ (0 : Int) ≤ j ∧ (j : Int) < 64) ∧ (∀ c : Int, c = 64 → i % c = j) ∧ (∀ c : Int, c = 64 → Int.tmod i c = j) := by
  refine ⟨(i % 64).toNat, by omega, ?_, ?_⟩
  · rintro c rfl; omega
  · rintro c rfl; rw [Int.tmod_eq_emod_of_nonneg (by omega)]; omega

set_option maxRecDepth 100000 in
set_option maxHeartbeats 2000000 in
theorem walk_DctEmpty (n i : Int) (w : World) (hL : Facs w) (hn : -2147483648 ≤ n ∧ n ≤ 2147483647) (hi : 0 ≤ i ∧ i ≤ 255) :
    Calls Tryd.prog 8 #[.int .i32 n, .int .u8 i] w fun e w' => e = .returned (.bool true) ∧ Below w.heap.size w w' := by
  obtain ⟨j, ⟨hj, hj7, hj8⟩, r1, r2⟩ := mod64 hi
  obtain ⟨z, hz9, hmx, hmz⟩ := emp_max hn
  have hb0 := blk_at (f := fun _ => (0 : Int)) hj
  clear hi
  go_enter Tryd.func8, Tryd.ntmps8
  go_wp2_with (first | (fail) | (refine wpList_zero_b rfl rfl ?_) | (refine wpList_alloc_b rfl rfl ?_) | (refine wpList_store_b rfl _ _ rfl rfl rfl (by simp) ?_))
  refine wp_abs (fun W' => Below w.heap.size w W' ∧ W'.heap[w.heap.size]? = some (.cells (blk (putN j (4097 + z))) 23 (0, 0)) ∧ W'.heap[w.heap.size + 1]? = some (.cells (blk (putN j 4096)) 23 (0, 0)) ∧ W'.heap[w.heap.size + 1 + 1]? = some (.cells (blk (putN j (-32769 - z))) 23 (0, 0)) ∧ W'.heap[w.heap.size + 1 + 1 + 1]? = some (.cells (blk (putN j (-32768))) 23 (0, 0))) ⟨gr1 (gr1 (gr1 (gr1 (gr0 _) _) _) _) _, ?_, ?_, ?_, ?_⟩ ?_
  all_goals try (rw [← blk_put0]; simp only [heap_alloc_if, World.size_alloc]; (repeat (first | rw [if_pos trivial] | rw [if_pos (by omega)] | rw [if_neg (by omega)])); done)
  rintro W3 ⟨HB, H1, H2, H3, H4⟩
  have hLr : Facs W3 := hL.below HB
  refine wp_region_calm (by kernel_rfl) (by kernel_rfl) ?_
  (repeat (first | (refine wpQuiet_load_b _ (later_heap H1) rfl _ rfl rfl ?_; simp only [Act.put, List.setIfInBounds_toArray, List.set_cons_succ, List.set_cons_zero]) | (refine wpQuiet_load_b _ (later_heap H2) rfl _ rfl rfl ?_; simp only [Act.put, List.setIfInBounds_toArray, List.set_cons_succ, List.set_cons_zero]) | (refine wpQuiet_load_b _ (later_heap H3) rfl _ rfl rfl ?_; simp only [Act.put, List.setIfInBounds_toArray, List.set_cons_succ, List.set_cons_zero]) | (refine wpQuiet_load_b _ (later_heap H4) rfl _ rfl rfl ?_; simp only [Act.put, List.setIfInBounds_toArray, List.set_cons_succ, List.set_cons_zero]) | (refine wpQuiet_build0 rfl rfl ?_; simp only [Act.put, List.setIfInBounds_toArray, List.set_cons_succ, List.set_cons_zero]) | (refine wpQuiet_eql_b ?_ rfl _ _ _ rfl rfl rfl ?_; (focus (first | with_reducible exact emp_0 | with_reducible exact emp_1 | with_reducible exact emp_f hz9.1 j | with_reducible exact emp_b hz9.1 j)); simp only [Act.put, List.setIfInBounds_toArray, List.set_cons_succ, List.set_cons_zero]) | go_big_quiet_step (first | (go_at_call 16; exact calm_call (known08 _ (hLr.below (Later.below _)))) | (go_at_call 17; exact calm_call (fwd_ _ _ (hLr.below (Later.below _)))) | (go_at_call 18; exact calm_call (bwd_ _ _ (hLr.below (Later.below _)))) | (go_at_call 15; exact calm_call (rfwd_ _ _)) | (go_at_call 19; exact calm_call (rbwd_ _ _))) | quiet_step (first | (go_at_call 16; exact calm_call (known08 _ (hLr.below (Later.below _)))) | (go_at_call 17; exact calm_call (fwd_ _ _ (hLr.below (Later.below _)))) | (go_at_call 18; exact calm_call (bwd_ _ _ (hLr.below (Later.below _)))) | (go_at_call 15; exact calm_call (rfwd_ _ _)) | (go_at_call 19; exact calm_call (rbwd_ _ _)))))
  refine wpQuiet_nil ?_
  intro u
  have HB3 := gr2 HB u.below
  go_wp2
  go_ret
  exact ⟨rfl, HB3⟩
end Go.Proofs.YtkaoajfdbjlioaaDoor
