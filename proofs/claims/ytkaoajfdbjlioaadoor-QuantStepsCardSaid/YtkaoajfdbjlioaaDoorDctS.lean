/- Blocks of secrets: hidden, told, and their frequencies. -/
import Derived.Test.YtkaoajfdbjlioaaDoorDctY
import Derived.Test.YtkaoajfdbjlioaaDoorDctZ
import Derived.Test.YtkaoajfdbjlioaaDoorDctW
import Derived.Deep.LoopGhost
namespace Go.Proofs.YtkaoajfdbjlioaaDoor
open Go.RowKit

theorem blk_infoS (f : Nat → Int) : (Tryd.prog.info? 45).map (·.size) = some (blk f).size := by rw [blk_size]; kernel_rfl

section
variable {ops : Array Oper} {rest : List Oper} {o : Oper} {a : Act} {w : World} {Q : Exit → Act → World → Prop} {C : World → Prop} {R : Act → Prop}
theorem wpList_build_s (f : Nat → Int) (hg : o.guard = none) (parts : Array (Nat × Operand)) (ho : o.op = .build 45 parts) (hf : Tryd.prog.built 45 (parts.map fun (i, x) => (i, a.eval x)).toList = some (blk f))
    (h : wpList Tryd.prog ops Q rest (a.put o.dst (.agg (blk f))) w) : wpList Tryd.prog ops Q (o :: rest) a w := wpList_buildTo hg _ parts ho o.dst rfl _ hf h
theorem built_0s : Tryd.prog.built 45 [] = some (blk fun _ => 0) := by kernel_rfl
theorem wpList_zero_s (hg : o.guard = none) (ho : o.op = .build 45 #[]) (h : wpList Tryd.prog ops Q rest (a.put o.dst (.agg (blk fun _ => 0))) w) : wpList Tryd.prog ops Q (o :: rest) a w :=
  wpList_build_s (fun _ => 0) hg #[] ho (by rw [Array.map_empty]; exact built_0s) h
theorem run_alloc_s (w : World) : (Instr.alloc 45 true (.tuple #[])).run Tryd.prog w = .ok (.pointer (some ⟨w.heap.size, 0, none⟩)) (w.alloc (.cells (blk fun _ => 0) 45)) := by kernel_rfl
theorem wpList_alloc_s (hg : o.guard = none) (ho : o.op = .alloc 45) (h : wpList Tryd.prog ops Q rest (a.put o.dst (.pointer (some ⟨w.heap.size, 0, none⟩))) (w.alloc (.cells (blk fun _ => 0) 45))) : wpList Tryd.prog ops Q (o :: rest) a w :=
  wpList_plain hg fun _ hK => by
    unfold Oper.wp execOp
    simp only [ho, Sem.run_bind, run_alloc_s, Result.andThen_ok]
    exact hK _ _ h
theorem wpList_store_s {f g : Nat → Int} {n : Nat} (hg : o.guard = none) (x y : Operand) (ho : o.op = .store 45 x y) (hx : a.eval x = .pointer (some ⟨n, 0, none⟩)) (hy : a.eval y = .agg (blk g)) (hn : n = w.heap.size)
    (h : wpList Tryd.prog ops Q rest (a.put o.dst undef) (w.alloc (.cells (blk g) 45))) : wpList Tryd.prog ops Q (o :: rest) a (w.alloc (.cells (blk f) 45)) := by
  subst hn
  exact wpList_store_row hg _ x y ho w.heap.size _ hx hy _ _ (heap_alloc_new w _) (blk_infoS _) (blk_sz _ _) (blk_one _) (by rw [World.setRow_alloc_new]; exact h)
theorem wpList_load_s {f : Nat → Int} {t : TypeId} (g : Nat) (hh : w.heap[g]? = some (.cells (blk f) t (0, 0))) (hgd : o.guard = none) (x : Operand) (ho : o.op = .load 45 x) (hx : a.eval x = .pointer (some ⟨g, 0, none⟩))
    (h : wpList Tryd.prog ops Q rest (a.put o.dst (.agg (blk f))) w) : wpList Tryd.prog ops Q (o :: rest) a w :=
  wpList_load_row hgd _ x ho g hx _ _ _ _ hh Tryd.underlying45 rfl (blk_infoS _) h
end

set_option maxRecDepth 100000 in
set_option maxHeartbeats 2000000 in
theorem fwds_ (b : Nat → Int) (w : World) (hL : Facs w) (hI : ∀ i, i < 64 → I64 (b i)) :
    Calls Tryd.prog 28 #[.agg (blk b)] w fun e w' => e = .returned (.agg (blk (fwdI b))) ∧ Below w.heap.size w w' := by
  go_enter Tryd.func28, Tryd.ntmps28
  go_wp2
  refine wp_abs (fun W' => Below w.heap.size w W' ∧ W'.heap[w.heap.size]? = some (.cells (blk b) 45 (0, 0)) ∧ W'.heap[w.heap.size + 1]? = some (.cells (blk fun _ => 0) 45 (0, 0))) ⟨gr1 (gr1 (gr0 _) _) _, ?_, ?_⟩ ?_
  · simp only [heap_alloc_if, World.size_alloc]; repeat (first | rw [if_pos trivial] | rw [if_pos (by omega)] | rw [if_neg (by omega)])
  · simp only [heap_alloc_if, World.size_alloc]; repeat (first | rw [if_pos trivial] | rw [if_pos (by omega)] | rw [if_neg (by omega)])
    rfl
  rintro wr ⟨HB, H1, H2⟩
  have hLr : Facs wr := hL.below HB
  have hz := heap_lt H2
  refine wp_region_calm_tail 3 (by kernel_rfl) (by kernel_rfl) ?_
  repeat (first | (refine wpQuiet_load_row rfl _ _ rfl w.heap.size rfl _ _ _ _ (later_heap H1) Tryd.underlying45 rfl (blk_infoS _) ?_; simp only [Act.put, List.setIfInBounds_toArray, List.set_cons_succ, List.set_cons_zero]) | go_big_quiet_step ((first | (go_at_call 48; exact calm_call (hidden_ _)) | (go_at_call 47; exact calm_call (ts_f _ _ _ _ (hLr.below (Later.below _)) hI (by omega) (by omega) (by omega))))) | quiet_step ((first | (go_at_call 48; exact calm_call (hidden_ _)) | (go_at_call 47; exact calm_call (ts_f _ _ _ _ (hLr.below (Later.below _)) hI (by omega) (by omega) (by omega))))))
  refine wpQuiet_nil ?_
  intro u
  have H3 := later_heap H2 _ ⟨u, rfl⟩
  have HB3 := gr2 HB u.below
  simp only [List.drop_succ_cons, List.drop_zero]
  refine wpList_store_row rfl _ _ _ rfl (w.heap.size + 1) _ rfl rfl _ _ H3 (blk_infoS _) (blk_sz _ _) (blk_one _) ?_
  go_wp2
  refine bodyPost_ret (results_cell_row rfl _ _ (w.heap.size + 1) _ _ _ _ rfl (setRow_heap _ _ _ _ _ _ H3) Tryd.underlying45 rfl (blk_infoS _)) rfl ⟨?_, below_setRow HB3 (by omega) _⟩
  rw [blk_congr (g := fwdI b) fun i hi => by unfold fwdI; rw [full_eq _ _ _ _ _ hi]]

set_option maxRecDepth 100000 in
set_option maxHeartbeats 2000000 in
theorem bwds_ (b : Nat → Int) (w : World) (hL : Facs w) (hI : ∀ i, i < 64 → I64 (b i)) :
    Calls Tryd.prog 30 #[.agg (blk b)] w fun e w' => e = .returned (.agg (blk (bwdI b))) ∧ Below w.heap.size w w' := by
  go_enter Tryd.func30, Tryd.ntmps30
  go_wp2
  refine wp_abs (fun W' => Below w.heap.size w W' ∧ W'.heap[w.heap.size]? = some (.cells (blk b) 45 (0, 0)) ∧ W'.heap[w.heap.size + 1]? = some (.cells (blk fun _ => 0) 45 (0, 0))) ⟨gr1 (gr1 (gr0 _) _) _, ?_, ?_⟩ ?_
  · simp only [heap_alloc_if, World.size_alloc]; repeat (first | rw [if_pos trivial] | rw [if_pos (by omega)] | rw [if_neg (by omega)])
  · simp only [heap_alloc_if, World.size_alloc]; repeat (first | rw [if_pos trivial] | rw [if_pos (by omega)] | rw [if_neg (by omega)])
    rfl
  rintro wr ⟨HB, H1, H2⟩
  have hLr : Facs wr := hL.below HB
  have hz := heap_lt H2
  refine wp_region_calm_tail 3 (by kernel_rfl) (by kernel_rfl) ?_
  repeat (first | (refine wpQuiet_load_row rfl _ _ rfl w.heap.size rfl _ _ _ _ (later_heap H1) Tryd.underlying45 rfl (blk_infoS _) ?_; simp only [Act.put, List.setIfInBounds_toArray, List.set_cons_succ, List.set_cons_zero]) | go_big_quiet_step ((first | (go_at_call 48; exact calm_call (hidden_ _)) | (go_at_call 47; exact calm_call (ts_b _ _ _ _ (hLr.below (Later.below _)) hI (by omega) (by omega) (by omega))))) | quiet_step ((first | (go_at_call 48; exact calm_call (hidden_ _)) | (go_at_call 47; exact calm_call (ts_b _ _ _ _ (hLr.below (Later.below _)) hI (by omega) (by omega) (by omega))))))
  refine wpQuiet_nil ?_
  intro u
  have H3 := later_heap H2 _ ⟨u, rfl⟩
  have HB3 := gr2 HB u.below
  simp only [List.drop_succ_cons, List.drop_zero]
  refine wpList_store_row rfl _ _ _ rfl (w.heap.size + 1) _ rfl rfl _ _ H3 (blk_infoS _) (blk_sz _ _) (blk_one _) ?_
  go_wp2
  refine bodyPost_ret (results_cell_row rfl _ _ (w.heap.size + 1) _ _ _ _ rfl (setRow_heap _ _ _ _ _ _ H3) Tryd.underlying45 rfl (blk_infoS _)) rfl ⟨?_, below_setRow HB3 (by omega) _⟩
  rw [blk_congr (g := bwdI b) fun i hi => by unfold bwdI; rw [full_eq _ _ _ _ _ hi]]

set_option maxRecDepth 100000 in
set_option maxHeartbeats 2000000 in
theorem hide_ (b : Nat → Int) (w : World) :
    Calls Tryd.prog 29 #[.agg (blk b)] w fun e w' => e = .returned (.agg (blk b)) ∧ Below w.heap.size w w' := by
  go_enter Tryd.func29, Tryd.ntmps29
  go_wp2_with (first | (refine wpList_zero_s rfl rfl ?_) | (refine wpList_alloc_s rfl rfl ?_) | (refine wpList_store_s rfl _ _ rfl rfl rfl (by simp) ?_))
  refine wp_abs (fun W' => Below w.heap.size w W' ∧ W'.heap[w.heap.size]? = some (.cells (blk b) 23 (0, 0)) ∧ W'.heap[w.heap.size + 1]? = some (.cells (blk fun _ => 0) 45 (0, 0)) ∧ W'.heap[w.heap.size + 1 + 1]? = some (.cells (blk (upTo b 0)) 45 (0, 0))) ⟨gr1 (gr1 (gr1 (gr0 _) _) _) _, ?_, ?_, ?_⟩ ?_
  · simp only [heap_alloc_if, World.size_alloc]; repeat (first | rw [if_pos trivial] | rw [if_pos (by omega)] | rw [if_neg (by omega)])
  · simp only [heap_alloc_if, World.size_alloc]; repeat (first | rw [if_pos trivial] | rw [if_pos (by omega)] | rw [if_neg (by omega)])
    try rfl
  · simp only [heap_alloc_if, World.size_alloc]; repeat (first | rw [if_pos trivial] | rw [if_pos (by omega)] | rw [if_neg (by omega)])
    rw [upTo_0]
  intro W1 H9
  go_loopg [4] 64 (fun gj i wr => ∃ jj : Nat, jj + gj = 64 ∧ i = .int .i64 jj ∧ Below w.heap.size w wr ∧ wr.heap[w.heap.size]? = some (.cells (blk b) 23 (0, 0)) ∧ wr.heap[w.heap.size + 1]? = some (.cells (blk fun _ => 0) 45 (0, 0)) ∧ wr.heap[w.heap.size + 1 + 1]? = some (.cells (blk (upTo b jj)) 45 (0, 0)))
  case atStart => exact ⟨0, rfl, rfl, H9⟩
  case round =>
    clear H9
    obtain ⟨i, hi, rfl, HB, H1, H2, H3⟩ := hrel
    have z3 := heap_lt H3
    by_cases hlt : i < 64
    · have t1 : decide ((i : Int) < 64) = true := by simp; omega
      have hi9 : (0 : Int) ≤ i ∧ (i : Int) < 64 := by omega
      have b1 := row_cell H1 hlt
      have b3 := row_cell H3 hlt
      have c3 := row_free H3 i
      have HX : Hid (Below w.heap.size w wr ∧ wr.heap[w.heap.size]? = some (.cells (blk b) 23 (0, 0)) ∧ wr.heap[w.heap.size + 1]? = some (.cells (blk fun _ => 0) 45 (0, 0)) ∧ wr.heap[w.heap.size + 1 + 1]? = some (.cells (blk (upTo b i)) 45 (0, 0))) := ⟨HB, H1, H2, H3⟩
      have HY : Hid (b i = b i) := rfl
      clear HB H1 H2 H3
      go_wp2_with (go_at_call 49; refine (sec_of _ _).mono ?_; rintro e W5 ⟨rfl, hb5⟩; obtain ⟨hc5, hf5, hz5⟩ := bcell hb5)
      go_roundg (64 - (i + 1))
      case measure => omega
      case rel =>
        obtain ⟨HB, H1, H2, H3⟩ := HX.out
        refine ⟨i + 1, by omega, by go_num, gr4 (gr2 HB (by assumption)) (by simp; omega) _, (heap_setCell_other _ _ _ _ (show w.heap.size ≠ w.heap.size + 1 + 1 by omega)).trans (at_be H1 (by assumption)), (heap_setCell_other _ _ _ _ (show w.heap.size + 1 ≠ w.heap.size + 1 + 1 by omega)).trans (at_be H2 (by assumption)), ?_⟩
        rw [heap_setCell_same _ _ _ _ _ _ (at_be H3 (by assumption)), blk_set]
    · have hk64 : i = 64 := by omega
      subst hk64
      have t1 : decide (((64 : Nat) : Int) < 64) = false := rfl
      rw [blk_all] at H3
      clear H1
      go_wp2_with (first
            | (refine wpList_load_row rfl _ _ rfl (w.heap.size + 1 + 1) rfl _ _ _ _ H3 Tryd.underlying45 rfl (by rw [blk_size]; kernel_rfl) ?_)
            | (refine wpList_store_row rfl _ _ _ rfl (w.heap.size + 1) _ rfl rfl _ _ H2 (by rw [blk_size]; kernel_rfl) (by rw [blk_size, blk_size]) (blk_one _) ?_))
      refine bodyPost_ret (results_cell_row rfl _ _ (w.heap.size + 1) _ _ _ _ rfl (setRow_heap _ _ _ _ _ _ H2) Tryd.underlying45 rfl (by rw [blk_size]; kernel_rfl)) rfl ⟨rfl, below_setRow HB (by omega) _⟩

set_option maxRecDepth 100000 in
set_option maxHeartbeats 2000000 in
theorem same8_ (b : Nat → Int) (w : World) :
    Calls Tryd.prog 27 #[.agg (blk b), .agg (blk b)] w fun e w' => e = .returned (.bool true) ∧ Below w.heap.size w w' := by
  go_enter Tryd.func27, Tryd.ntmps27
  go_wp2
  refine wp_abs (fun W' => Below w.heap.size w W' ∧ W'.heap[w.heap.size]? = some (.cells (blk b) 45 (0, 0)) ∧ W'.heap[w.heap.size + 1]? = some (.cells (blk b) 23 (0, 0))) ⟨gr1 (gr1 (gr0 _) _) _, ?_, ?_⟩ ?_
  · simp only [heap_alloc_if, World.size_alloc]; repeat (first | rw [if_pos trivial] | rw [if_pos (by omega)] | rw [if_neg (by omega)])
  · simp only [heap_alloc_if, World.size_alloc]; repeat (first | rw [if_pos trivial] | rw [if_pos (by omega)] | rw [if_neg (by omega)])
  intro W1 H9
  go_loopg [5] 64 (fun gj i wr => ∃ jj : Nat, jj + gj = 64 ∧ i = .int .i64 jj ∧ Below w.heap.size w wr ∧ wr.heap[w.heap.size]? = some (.cells (blk b) 45 (0, 0)) ∧ wr.heap[w.heap.size + 1]? = some (.cells (blk b) 23 (0, 0)))
  case atStart => exact ⟨0, rfl, rfl, H9⟩
  case round =>
    clear H9
    obtain ⟨i, hi, rfl, HB, H1, H2⟩ := hrel
    have z1 := heap_lt H1
    have z2 := heap_lt H2
    by_cases hlt : i < 64
    · have t1 : decide ((i : Int) < 64) = true := by simp; omega
      have hi9 : (0 : Int) ≤ i ∧ (i : Int) < 64 := by omega
      have b1 := row_cell H1 hlt
      have b2 := row_cell H2 hlt
      have HX : Hid (Below w.heap.size w wr ∧ wr.heap[w.heap.size]? = some (.cells (blk b) 45 (0, 0)) ∧ wr.heap[w.heap.size + 1]? = some (.cells (blk b) 23 (0, 0))) := ⟨HB, H1, H2⟩
      clear HB H1 H2
      generalize b i = y at b1 b2
      go_wp2_with (fail)
      refine wp_region_calm (by kernel_rfl) (by kernel_rfl) ?_
      (repeat (first | go_big_quiet_step ((go_at_call 46; exact calm_call (sec_open_nil _ _))) | quiet_step ((go_at_call 46; exact calm_call (sec_open_nil _ _)))))
      refine wpQuiet_nil ?_
      intro u
      have hzu := u.below.size
      try simp at hzu
      go_wp2
      go_roundg (64 - (i + 1))
      case measure => omega
      case rel =>
        obtain ⟨HB, H1, H2⟩ := HX.out
        exact ⟨i + 1, by omega, by go_num, gr2 HB u.below, at_be H1 u.below, at_be H2 u.below⟩
    · have hk64 : i = 64 := by omega
      subst hk64
      have t1 : decide (((64 : Nat) : Int) < 64) = false := rfl
      have HX : Hid (Below w.heap.size w wr) := HB
      clear HB H1 H2
      go_wp2
      go_ret
      exact ⟨rfl, HX.out⟩

set_option maxRecDepth 100000 in
set_option maxHeartbeats 2000000 in
theorem same9_ (b : Nat → Int) (w : World) :
    Calls Tryd.prog 33 #[.agg (blk b), .agg (blk b)] w fun e w' => e = .returned (.bool true) ∧ Below w.heap.size w w' := by
  go_enter Tryd.func33, Tryd.ntmps33
  go_wp2
  refine wp_abs (fun W' => Below w.heap.size w W' ∧ W'.heap[w.heap.size]? = some (.cells (blk b) 45 (0, 0)) ∧ W'.heap[w.heap.size + 1]? = some (.cells (blk b) 23 (0, 0))) ⟨gr1 (gr1 (gr0 _) _) _, ?_, ?_⟩ ?_
  · simp only [heap_alloc_if, World.size_alloc]; repeat (first | rw [if_pos trivial] | rw [if_pos (by omega)] | rw [if_neg (by omega)])
  · simp only [heap_alloc_if, World.size_alloc]; repeat (first | rw [if_pos trivial] | rw [if_pos (by omega)] | rw [if_neg (by omega)])
  intro W1 H9
  go_loopg [5] 64 (fun gj i wr => ∃ jj : Nat, jj + gj = 64 ∧ i = .int .i64 jj ∧ Below w.heap.size w wr ∧ wr.heap[w.heap.size]? = some (.cells (blk b) 45 (0, 0)) ∧ wr.heap[w.heap.size + 1]? = some (.cells (blk b) 23 (0, 0)))
  case atStart => exact ⟨0, rfl, rfl, H9⟩
  case round =>
    clear H9
    obtain ⟨i, hi, rfl, HB, H1, H2⟩ := hrel
    have z1 := heap_lt H1
    have z2 := heap_lt H2
    by_cases hlt : i < 64
    · have t1 : decide ((i : Int) < 64) = true := by simp; omega
      have hi9 : (0 : Int) ≤ i ∧ (i : Int) < 64 := by omega
      have b1 := row_cell H1 hlt
      have b2 := row_cell H2 hlt
      have HX : Hid (Below w.heap.size w wr ∧ wr.heap[w.heap.size]? = some (.cells (blk b) 45 (0, 0)) ∧ wr.heap[w.heap.size + 1]? = some (.cells (blk b) 23 (0, 0))) := ⟨HB, H1, H2⟩
      clear HB H1 H2
      generalize b i = y at b1 b2
      go_wp2_with (fail)
      refine wp_region_calm (by kernel_rfl) (by kernel_rfl) ?_
      (repeat (first | go_big_quiet_step ((go_at_call 46; exact calm_call (sec_open_nil _ _))) | quiet_step ((go_at_call 46; exact calm_call (sec_open_nil _ _)))))
      refine wpQuiet_nil ?_
      intro u
      have hzu := u.below.size
      try simp at hzu
      go_wp2
      go_roundg (64 - (i + 1))
      case measure => omega
      case rel =>
        obtain ⟨HB, H1, H2⟩ := HX.out
        exact ⟨i + 1, by omega, by go_num, gr2 HB u.below, at_be H1 u.below, at_be H2 u.below⟩
    · have hk64 : i = 64 := by omega
      subst hk64
      have t1 : decide (((64 : Nat) : Int) < 64) = false := rfl
      have HX : Hid (Below w.heap.size w wr) := HB
      clear HB H1 H2
      go_wp2
      go_ret
      exact ⟨rfl, HX.out⟩
end Go.Proofs.YtkaoajfdbjlioaaDoor
