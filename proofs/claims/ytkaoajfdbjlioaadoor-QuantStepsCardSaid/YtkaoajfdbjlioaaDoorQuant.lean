/- Zigzag order, and tables of steps. -/
import Derived.Test.YtkaoajfdbjlioaaDoorDctW
import Derived.ChangeKeysEq
import Derived.Deep.MidRow
import Derived.Deep.WholeRow
import Derived.Deep.LoopGhost
namespace Go.Proofs.YtkaoajfdbjlioaaDoor
open Go.RowKit

def zigL : List Int := [0, 1, 8, 16, 9, 2, 3, 10, 17, 24, 32, 25, 18, 11, 4, 5, 12, 19, 26, 33, 40, 48, 41, 34, 27, 20, 13, 6, 7, 14, 21, 28, 35, 42, 49, 56, 57, 50, 43, 36, 29, 22, 15, 23, 30, 37, 44, 51, 58, 59, 52, 45, 38, 31, 39, 46, 53, 60, 61, 54, 47, 55, 62, 63]
def bas0 : List Int := [16, 11, 10, 16, 24, 40, 51, 61, 12, 12, 14, 19, 26, 58, 60, 55, 14, 13, 16, 24, 40, 57, 69, 56, 14, 17, 22, 29, 51, 87, 80, 62, 18, 22, 37, 56, 68, 109, 103, 77, 24, 35, 55, 64, 81, 104, 113, 92, 49, 64, 78, 87, 103, 121, 120, 101, 72, 92, 95, 98, 112, 100, 103, 99]
def bas1 : List Int := [17, 18, 24, 47, 99, 99, 99, 99, 18, 21, 26, 66, 99, 99, 99, 99, 24, 26, 56, 99, 99, 99, 99, 99, 47, 66, 99, 99, 99, 99, 99, 99, 99, 99, 99, 99, 99, 99, 99, 99, 99, 99, 99, 99, 99, 99, 99, 99, 99, 99, 99, 99, 99, 99, 99, 99, 99, 99, 99, 99, 99, 99, 99, 99]
def zigN (i : Nat) : Int := zigL.getD i 0
def zigI (i : Int) : Int := if i < 0 ∨ 63 < i then 0 else zigN i.toNat
def basF0 (j : Nat) : Int := bas0.getD j 0
def basF1 (j : Nat) : Int := bas1.getD j 0
def basN (part : Int) (j : Nat) : Int := if part = 0 then basF0 j else basF1 j
def scI (q : Int) : Int := if q < 50 then 5000 / q else 2 * (100 - q)
def tabI (part quality : Int) (j : Nat) : Int := clipI 1 255 ((basN part j * scI (clipI 1 100 quality) + 50) / 100)
theorem bas_all : ∀ j, j < 64 → (10 ≤ basF0 j ∧ basF0 j ≤ 121) ∧ 10 ≤ basF1 j ∧ basF1 j ≤ 121 := by decide +kernel
theorem zig_all : ∀ j, j < 64 → 0 ≤ zigN j ∧ zigN j ≤ 63 := by decide +kernel
theorem bas_in (part : Int) {j : Nat} (h : j < 64) : 10 ≤ basN part j ∧ basN part j ≤ 121 := by
  have := bas_all j h
  unfold basN; split
  · exact this.1
  · exact this.2
theorem sc_in {q : Int} (h : 1 ≤ q ∧ q ≤ 100) : 0 ≤ scI q ∧ scI q ≤ 5000 := by
  unfold scI; split
  · exact ⟨Int.ediv_nonneg (by omega) (by omega), Int.ediv_le_self _ (by omega)⟩
  · omega
/-- The tables lie in their blocks. -/
def Tabs (w : World) : Prop := (1 < w.heap.size ∧ 2 < w.heap.size) ∧ (∀ i, i < 64 → w.cell? ⟨1, i, none⟩ = some (.int .i64 (zigN i))) ∧
  (∀ i, i < 64 → w.cell? ⟨2, 0 + i, none⟩ = some (.int .i64 (basF0 i))) ∧ (∀ i, i < 64 → w.cell? ⟨2, 64 + i, none⟩ = some (.int .i64 (basF1 i)))
theorem Tabs.below {w w' : World} (h : Tabs w) (hb : Below w.heap.size w w') : Tabs w' := by
  obtain ⟨⟨h1, h2⟩, h3, h4, h5⟩ := h
  exact ⟨⟨Nat.lt_of_lt_of_le h1 hb.size, Nat.lt_of_lt_of_le h2 hb.size⟩, fun i hi => (hb.cell (p := ⟨_, i, none⟩) h1).trans (h3 i hi), fun i hi => (hb.cell (p := ⟨_, 0 + i, none⟩) h2).trans (h4 i hi), fun i hi => (hb.cell (p := ⟨_, 64 + i, none⟩) h2).trans (h5 i hi)⟩
theorem blk_info_a (f : Nat → Int) : (Tryd.prog.info? 22).map (·.size) = some (blk f).size := by rw [blk_size]; kernel_rfl
theorem run_alloc_a (w : World) : (Instr.alloc 22 true (.tuple #[])).run Tryd.prog w = .ok (.pointer (some ⟨w.heap.size, 0, none⟩)) (w.alloc (.cells (blk fun _ => 0) 22)) := by kernel_rfl
theorem run_index_a (w : World) (f : Nat → Int) {i : Nat} (hi : i < 64) : (Instr.index 22 (.agg (blk f)) (.int .i64 i)).run Tryd.prog w = .ok (.int .i64 (f i)) w := by
  have h : (0 : Int) ≤ i ∧ (i : Int) < (64 : Nat) := by omega
  obtain ⟨ie, hie⟩ := Option.isSome_iff_exists.1 (show (Tryd.prog.info? 3).isSome = true by kernel_rfl)
  have hc : Tryd.prog.cellsOf 3 = 1 := by kernel_rfl
  have hk : Tryd.prog.plainKey 3 = true := by kernel_rfl
  have hp := run_part_plain w hk (xs := blk f) (off := i * 1) (by rw [Nat.mul_one]; exact blk_at hi)
  have hs := run_sizeOf w hie
  rw [hc] at hs
  simp only [Instr.index, asIntOf, Sem.run_bind, Sem.run_pure, Result.andThen_ok, run_underlying Tryd.underlying22, if_pos h, hs, Int.toNat_natCast, hp]
section
variable {ops : Array Oper} {rest : List Oper} {o : Oper} {a : Act} {w : World} {Q : Exit → Act → World → Prop}
theorem wpList_alloc_a (hg : o.guard = none) (ho : o.op = .alloc 22) (h : wpList Tryd.prog ops Q rest (a.put o.dst (.pointer (some ⟨w.heap.size, 0, none⟩))) (w.alloc (.cells (blk fun _ => 0) 22))) : wpList Tryd.prog ops Q (o :: rest) a w :=
  wpList_plain hg fun _ hK => by
    unfold Oper.wp execOp
    simp only [ho, Sem.run_bind, run_alloc_a, Result.andThen_ok]
    exact hK _ _ h
theorem wpList_store_a {f g : Nat → Int} {n : Nat} (hg : o.guard = none) (x y : Operand) (ho : o.op = .store 22 x y) (hx : a.eval x = .pointer (some ⟨n, 0, none⟩)) (hy : a.eval y = .agg (blk g)) (hn : n = w.heap.size)
    (h : wpList Tryd.prog ops Q rest (a.put o.dst undef) (w.alloc (.cells (blk g) 22))) : wpList Tryd.prog ops Q (o :: rest) a (w.alloc (.cells (blk f) 22)) := by
  subst hn
  exact wpList_store_row hg _ x y ho w.heap.size _ hx hy _ _ (heap_alloc_new w _) (blk_info_a _) (blk_sz _ _) (blk_one _) (by rw [World.setRow_alloc_new]; exact h)
theorem wpList_load_a {f : Nat → Int} {t : TypeId} (g : Nat) (hh : w.heap[g]? = some (.cells (blk f) t (0, 0))) (hgd : o.guard = none) (x : Operand) (ho : o.op = .load 22 x) (hx : a.eval x = .pointer (some ⟨g, 0, none⟩))
    (h : wpList Tryd.prog ops Q rest (a.put o.dst (.agg (blk f))) w) : wpList Tryd.prog ops Q (o :: rest) a w :=
  wpList_load_row hgd _ x ho g hx _ _ _ _ hh Tryd.underlying22 rfl (blk_info_a _) h
theorem wpList_load_at {f : Nat → Int} (g k : Nat) (hh : ∀ j, j < 64 → w.cell? ⟨g, k + j, none⟩ = some (.int .i64 (f j))) (hgd : o.guard = none) (x : Operand) (ho : o.op = .load 22 x) (hx : a.eval x = .pointer (some ⟨g, k, none⟩))
    (h : wpList Tryd.prog ops Q rest (a.put o.dst (.agg (blk f))) w) : wpList Tryd.prog ops Q (o :: rest) a w :=
  wpList_load_mid hgd _ x ho g k hx ((List.range 64).map fun i => Value.int .i64 (f i)) _ (fun j v hv => by
    have hj : j < 64 := by have := (List.getElem?_eq_some_iff.1 hv).1; simpa using this
    rw [hh j hj, ← hv]
    simp [hj]) Tryd.underlying22 rfl (by rw [List.length_map, List.length_range]; kernel_rfl) h
end

set_option maxHeartbeats 2000000 in
theorem zig_ (i : Int) (w : World) (hT : Tabs w) :
    Calls Tryd.prog 25 #[.int .i64 i] w fun e w' => e = .returned (.int .i64 (zigI i)) ∧ Below w.heap.size w w' := by
  by_cases h0 : i < 0
  · have e : zigI i = 0 := by unfold zigI; rw [if_pos (by omega)]
    have d0 : decide (i < 0) = true := by simp; omega
    clear hT
    go_enter Tryd.func25, Tryd.ntmps25
    go_wp2_with (first
      | (refine wp_region_calm (by kernel_rfl) (by kernel_rfl) ?_; repeat (first | go_big_quiet_step (fail) | quiet_step (fail))
         refine wpQuiet_nil ?_; intro u; have hzu := u.below.size; try simp at hzu))
    all_goals go_ret
    all_goals refine ⟨by first | rfl | exact ret_int e.symm, ?_⟩
    all_goals (repeat (first | exact gr0 _ | refine gr1 ?_ _ | refine gr2 ?_ (Later.below _) | refine gr2 ?_ (by assumption) | refine gr3 ?_ | refine gr4 ?_ (by first | (simp; done) | (simp; omega) | omega) _))
  · skip
    by_cases h1 : 64 ≤ i
    · have e : zigI i = 0 := by unfold zigI; rw [if_pos (by omega)]
      have d0 : decide (i < 0) = false := by simp; omega
      have d1 : decide (64 ≤ i) = true := by simp; omega
      clear hT
      go_enter Tryd.func25, Tryd.ntmps25
      go_wp2_with (first
        | (refine wp_region_calm (by kernel_rfl) (by kernel_rfl) ?_; repeat (first | go_big_quiet_step (fail) | quiet_step (fail))
           refine wpQuiet_nil ?_; intro u; have hzu := u.below.size; try simp at hzu))
      all_goals go_ret
      all_goals refine ⟨by first | rfl | exact ret_int e.symm, ?_⟩
      all_goals (repeat (first | exact gr0 _ | refine gr1 ?_ _ | refine gr2 ?_ (Later.below _) | refine gr2 ?_ (by assumption) | refine gr3 ?_ | refine gr4 ?_ (by first | (simp; done) | (simp; omega) | omega) _))
    · skip
      have e : zigI i = zigN i.toNat := by unfold zigI; rw [if_neg (by omega)]
      obtain ⟨n, rfl⟩ := Int.eq_ofNat_of_zero_le (a := i) (by omega)
      have hn : n < 64 := by omega
      have hcell := hT.2.1 n hn
      have hz := hT.1.1
      rw [Int.toNat_natCast] at e
      clear hT
      have d0 : decide ((n : Int) < 0) = false := by first | (simp; done) | (simp; omega)
      have d1 : decide (64 ≤ (n : Int)) = false := by first | (simp; done) | (simp; omega)
      go_enter Tryd.func25, Tryd.ntmps25
      go_wp2_with (first
        | (refine wp_region_calm (by kernel_rfl) (by kernel_rfl) ?_; repeat (first | go_big_quiet_step (fail) | quiet_step (fail))
           refine wpQuiet_nil ?_; intro u; have hzu := u.below.size; try simp at hzu))
      all_goals go_ret
      all_goals refine ⟨by first | rfl | exact ret_int e.symm, ?_⟩
      all_goals (repeat (first | exact gr0 _ | refine gr1 ?_ _ | refine gr2 ?_ (Later.below _) | refine gr2 ?_ (by assumption) | refine gr3 ?_ | refine gr4 ?_ (by first | (simp; done) | (simp; omega) | omega) _))

def mixQ (g h : Nat → Int) (k : Nat) : Nat → Int := fun j => if j < k then g j else h j
theorem blk_mixQ (g h : Nat → Int) (k : Nat) : (blk (mixQ g h k)).setIfInBounds k (.int .i64 (g k)) = blk (mixQ g h (k + 1)) := by
  rw [blk_put]
  refine blk_congr fun j _ => ?_
  unfold mixQ
  by_cases e : j = k
  · subst e; rw [if_pos rfl, if_pos (by omega)]
  · rw [if_neg e]
    by_cases h2 : j < k
    · rw [if_pos h2, if_pos (by omega)]
    · rw [if_neg h2, if_neg (by omega)]
theorem blk_mixQ_all (g h : Nat → Int) : blk (mixQ g h 64) = blk g := blk_congr fun j hj => by unfold mixQ; rw [if_pos hj]
theorem blk_mixQ_0 (g h : Nat → Int) : blk (mixQ g h 0) = blk h := blk_congr fun j _ => by unfold mixQ; rw [if_neg (by omega)]

set_option maxRecDepth 100000 in
set_option maxHeartbeats 2000000 in
theorem table_00 (part quality q s : Int) (w : World) (hT : Tabs w) (hq : clipI 1 100 quality = q) (hs : scI q = s) (hp : part = 0) (hqq : q < 50) :
    Calls Tryd.prog 45 #[.int .i64 part, .int .i64 quality] w fun e w' => ∃ g, e = .returned (.slice (some ⟨g, 0, none⟩) 64 64) ∧ Below w.heap.size w w' ∧ w.heap.size ≤ g ∧ w'.heap[g]? = some (.cells (blk (tabI part quality)) 22 (0, 0)) := by
  have hq1 := clip_in (lo := 1) (hi := 100) quality (by omega)
  rw [hq] at hq1
  have hsc := sc_in hq1
  have hse : scI q = s := hs
  rw [hse] at hsc
  have q0 : q ≠ 0 := by omega
  have t0 : decide (q < 50) = true := by simp; omega
  have r0 : ∀ c : Int, c = q → Int.tdiv 5000 c = s := by rintro c rfl; rw [← hse, scI, if_pos ‹_›]; exact Int.tdiv_eq_ediv_of_nonneg (by omega)
  have p0 : (part == 0) = true := by simp; omega
  have HT : Hid (Tabs w) := hT
  have HS : Hid (scI q = s ∧ clipI 1 100 quality = q) := ⟨hse, hq⟩
  have hq9 : Hid (clipI 1 100 quality = q) := hq
  clear hs hse hT hq 
  go_enter Tryd.func45, Tryd.ntmps45
  go_wp2_with (first | (go_at_call 42; (with_reducible refine (clip_ quality 1 100 _).mono ?_); rw [hq9.out]; rintro e W1 ⟨rfl, hb1⟩; have hT1 := HT.out.below hb1; obtain ⟨hc1, hf1, hz1⟩ := bcell hb1) | (refine wpList_load_at (f := basF1) 2 64 hT1.2.2.2 rfl _ rfl rfl ?_) | (refine wpList_load_at (f := basF0) 2 0 (hT1.below (gr1 (gr0 _) _)).2.2.1 rfl _ rfl rfl ?_) | (refine wpList_alloc_a rfl rfl ?_) | (refine wpList_store_a rfl _ _ rfl rfl rfl (by simp) ?_) | (refine wpList_load_a _ (heap_alloc_new _ _) rfl _ rfl rfl ?_))
  obtain ⟨g, hg⟩ : ∃ g, g = W1.heap.size := ⟨_, rfl⟩
  rw [← hg]
  refine wp_abs (fun W' => Below w.heap.size w W' ∧ w.heap.size ≤ g ∧ W'.heap[g]? = some (.cells (blk (mixQ (tabI part quality) basF0 0)) 22 (0, 0))) ⟨gr1 hb1 _, by rw [hg]; exact hb1.size, ?_⟩ ?_
  · rw [blk_mixQ_0, heap_alloc_if, if_pos hg]
  clear hb1 hT1 hc1 hf1 hz1 hg HT
  intro W2 H9
  go_loopg [25] 64 (fun gj i wr => ∃ jj : Nat, jj + gj = 64 ∧ i = .int .i64 jj ∧ Below w.heap.size w wr ∧ w.heap.size ≤ g ∧ wr.heap[g]? = some (.cells (blk (mixQ (tabI part quality) basF0 jj)) 22 (0, 0)))
  case atStart => exact ⟨0, rfl, rfl, H9⟩
  case round =>
    clear H9
    obtain ⟨i, hi, rfl, HB, hg, H1⟩ := hrel
    by_cases hlt : i < 64
    · have t1 : decide ((i : Int) < 64) = true := by simp; omega
      have hi9 : (0 : Int) ≤ i ∧ (i : Int) < 64 := by omega
      have hix : ∀ w, (Instr.index 22 (.agg (blk basF0)) (.int .i64 i)).run Tryd.prog w = .ok (.int .i64 (basF0 i)) w := fun w => run_index_a w _ hlt
      have hv : 10 ≤ basF0 i ∧ basF0 i ≤ 121 := (bas_all i hlt).1
      obtain ⟨v, hve⟩ : ∃ v, basF0 i = v := ⟨_, rfl⟩
      rw [hve] at hix hv
      have m1 : 0 ≤ v * s := Int.mul_nonneg (by omega) hsc.1
      have m2 : v * s ≤ 121 * 5000 := Int.mul_le_mul hv.2 hsc.2 hsc.1 (by omega)
      have b1 := row_cell H1 hlt
      have c1 := row_free H1 i
      have z1 := heap_lt H1
      have HX : Hid ((Below w.heap.size w wr ∧ w.heap.size ≤ g ∧ wr.heap[g]? = some (.cells (blk (mixQ (tabI part quality) basF0 i)) 22 (0, 0))) ∧ clipI 1 255 ((v * s + 50) / 100) = tabI part quality i) := ⟨⟨HB, hg, H1⟩, by rw [← hve, ← HS.out.1]; unfold tabI basN; rw [if_pos ‹part = 0›, HS.out.2]⟩
      have hgw : w.heap.size ≤ g := hg
      clear HB hg H1 hve
      go_wp2_with (go_at_call 42; refine (clip_ _ _ _ _).mono ?_; rintro e W3 ⟨rfl, hb3⟩; obtain ⟨hc3, hf3, hz3⟩ := bcell hb3)
      go_roundg (64 - (i + 1))
      case measure => omega
      case rel =>
        obtain ⟨⟨HB, hg, H1⟩, he⟩ := HX.out
        refine ⟨i + 1, by omega, by go_num, gr4 (gr2 HB hb3) (by simpa using hg) _, hg, ?_⟩
        have := heap_setCell_same _ _ i _ _ (.int .i64 (tabI part quality i)) (at_be H1 hb3)
        rw [blk_mixQ] at this
        rw [he]
        exact this
    · have hk64 : i = 64 := by omega
      subst hk64
      have t1 : decide (((64 : Nat) : Int) < 64) = false := rfl
      rw [blk_mixQ_all] at H1
      go_wp2
      go_ret
      exact ⟨g, rfl, HB, hg, H1⟩

set_option maxRecDepth 100000 in
set_option maxHeartbeats 2000000 in
theorem table_01 (part quality q s : Int) (w : World) (hT : Tabs w) (hq : clipI 1 100 quality = q) (hs : scI q = s) (hp : part = 0) (hqq : ¬ q < 50) :
    Calls Tryd.prog 45 #[.int .i64 part, .int .i64 quality] w fun e w' => ∃ g, e = .returned (.slice (some ⟨g, 0, none⟩) 64 64) ∧ Below w.heap.size w w' ∧ w.heap.size ≤ g ∧ w'.heap[g]? = some (.cells (blk (tabI part quality)) 22 (0, 0)) := by
  have hq1 := clip_in (lo := 1) (hi := 100) quality (by omega)
  rw [hq] at hq1
  have hsc := sc_in hq1
  have hse : scI q = s := hs
  rw [hse] at hsc
  have q0 : q ≠ 0 := by omega
  have t0 : decide (q < 50) = false := by simp; omega
  have r0 : ∀ c : Int, c = 100 - q → 2 * c = s := by rintro c rfl; rw [← hse, scI, if_neg ‹_›]
  have p0 : (part == 0) = true := by simp; omega
  have HT : Hid (Tabs w) := hT
  have HS : Hid (scI q = s ∧ clipI 1 100 quality = q) := ⟨hse, hq⟩
  have hq9 : Hid (clipI 1 100 quality = q) := hq
  clear hs hse hT hq 
  go_enter Tryd.func45, Tryd.ntmps45
  go_wp2_with (first | (go_at_call 42; (with_reducible refine (clip_ quality 1 100 _).mono ?_); rw [hq9.out]; rintro e W1 ⟨rfl, hb1⟩; have hT1 := HT.out.below hb1; obtain ⟨hc1, hf1, hz1⟩ := bcell hb1) | (refine wpList_load_at (f := basF1) 2 64 hT1.2.2.2 rfl _ rfl rfl ?_) | (refine wpList_load_at (f := basF0) 2 0 (hT1.below (gr1 (gr0 _) _)).2.2.1 rfl _ rfl rfl ?_) | (refine wpList_alloc_a rfl rfl ?_) | (refine wpList_store_a rfl _ _ rfl rfl rfl (by simp) ?_) | (refine wpList_load_a _ (heap_alloc_new _ _) rfl _ rfl rfl ?_))
  obtain ⟨g, hg⟩ : ∃ g, g = W1.heap.size := ⟨_, rfl⟩
  rw [← hg]
  refine wp_abs (fun W' => Below w.heap.size w W' ∧ w.heap.size ≤ g ∧ W'.heap[g]? = some (.cells (blk (mixQ (tabI part quality) basF0 0)) 22 (0, 0))) ⟨gr1 hb1 _, by rw [hg]; exact hb1.size, ?_⟩ ?_
  · rw [blk_mixQ_0, heap_alloc_if, if_pos hg]
  clear hb1 hT1 hc1 hf1 hz1 hg HT
  intro W2 H9
  go_loopg [25] 64 (fun gj i wr => ∃ jj : Nat, jj + gj = 64 ∧ i = .int .i64 jj ∧ Below w.heap.size w wr ∧ w.heap.size ≤ g ∧ wr.heap[g]? = some (.cells (blk (mixQ (tabI part quality) basF0 jj)) 22 (0, 0)))
  case atStart => exact ⟨0, rfl, rfl, H9⟩
  case round =>
    clear H9
    obtain ⟨i, hi, rfl, HB, hg, H1⟩ := hrel
    by_cases hlt : i < 64
    · have t1 : decide ((i : Int) < 64) = true := by simp; omega
      have hi9 : (0 : Int) ≤ i ∧ (i : Int) < 64 := by omega
      have hix : ∀ w, (Instr.index 22 (.agg (blk basF0)) (.int .i64 i)).run Tryd.prog w = .ok (.int .i64 (basF0 i)) w := fun w => run_index_a w _ hlt
      have hv : 10 ≤ basF0 i ∧ basF0 i ≤ 121 := (bas_all i hlt).1
      obtain ⟨v, hve⟩ : ∃ v, basF0 i = v := ⟨_, rfl⟩
      rw [hve] at hix hv
      have m1 : 0 ≤ v * s := Int.mul_nonneg (by omega) hsc.1
      have m2 : v * s ≤ 121 * 5000 := Int.mul_le_mul hv.2 hsc.2 hsc.1 (by omega)
      have b1 := row_cell H1 hlt
      have c1 := row_free H1 i
      have z1 := heap_lt H1
      have HX : Hid ((Below w.heap.size w wr ∧ w.heap.size ≤ g ∧ wr.heap[g]? = some (.cells (blk (mixQ (tabI part quality) basF0 i)) 22 (0, 0))) ∧ clipI 1 255 ((v * s + 50) / 100) = tabI part quality i) := ⟨⟨HB, hg, H1⟩, by rw [← hve, ← HS.out.1]; unfold tabI basN; rw [if_pos ‹part = 0›, HS.out.2]⟩
      have hgw : w.heap.size ≤ g := hg
      clear HB hg H1 hve
      go_wp2_with (go_at_call 42; refine (clip_ _ _ _ _).mono ?_; rintro e W3 ⟨rfl, hb3⟩; obtain ⟨hc3, hf3, hz3⟩ := bcell hb3)
      go_roundg (64 - (i + 1))
      case measure => omega
      case rel =>
        obtain ⟨⟨HB, hg, H1⟩, he⟩ := HX.out
        refine ⟨i + 1, by omega, by go_num, gr4 (gr2 HB hb3) (by simpa using hg) _, hg, ?_⟩
        have := heap_setCell_same _ _ i _ _ (.int .i64 (tabI part quality i)) (at_be H1 hb3)
        rw [blk_mixQ] at this
        rw [he]
        exact this
    · have hk64 : i = 64 := by omega
      subst hk64
      have t1 : decide (((64 : Nat) : Int) < 64) = false := rfl
      rw [blk_mixQ_all] at H1
      go_wp2
      go_ret
      exact ⟨g, rfl, HB, hg, H1⟩

set_option maxRecDepth 100000 in
set_option maxHeartbeats 2000000 in
theorem table_10 (part quality q s : Int) (w : World) (hT : Tabs w) (hq : clipI 1 100 quality = q) (hs : scI q = s) (hp : part ≠ 0) (hqq : q < 50) :
    Calls Tryd.prog 45 #[.int .i64 part, .int .i64 quality] w fun e w' => ∃ g, e = .returned (.slice (some ⟨g, 0, none⟩) 64 64) ∧ Below w.heap.size w w' ∧ w.heap.size ≤ g ∧ w'.heap[g]? = some (.cells (blk (tabI part quality)) 22 (0, 0)) := by
  have hq1 := clip_in (lo := 1) (hi := 100) quality (by omega)
  rw [hq] at hq1
  have hsc := sc_in hq1
  have hse : scI q = s := hs
  rw [hse] at hsc
  have q0 : q ≠ 0 := by omega
  have t0 : decide (q < 50) = true := by simp; omega
  have r0 : ∀ c : Int, c = q → Int.tdiv 5000 c = s := by rintro c rfl; rw [← hse, scI, if_pos ‹_›]; exact Int.tdiv_eq_ediv_of_nonneg (by omega)
  have p0 : (part == 0) = false := by simp; omega
  have HT : Hid (Tabs w) := hT
  have HS : Hid (scI q = s ∧ clipI 1 100 quality = q) := ⟨hse, hq⟩
  have hq9 : Hid (clipI 1 100 quality = q) := hq
  clear hs hse hT hq 
  go_enter Tryd.func45, Tryd.ntmps45
  go_wp2_with (first | (go_at_call 42; (with_reducible refine (clip_ quality 1 100 _).mono ?_); rw [hq9.out]; rintro e W1 ⟨rfl, hb1⟩; have hT1 := HT.out.below hb1; obtain ⟨hc1, hf1, hz1⟩ := bcell hb1) | (refine wpList_load_at (f := basF1) 2 64 hT1.2.2.2 rfl _ rfl rfl ?_) | (refine wpList_alloc_a rfl rfl ?_) | (refine wpList_store_a rfl _ _ rfl rfl rfl (by simp) ?_) | (refine wpList_load_a _ (heap_alloc_new _ _) rfl _ rfl rfl ?_))
  obtain ⟨g, hg⟩ : ∃ g, g = W1.heap.size := ⟨_, rfl⟩
  rw [← hg]
  refine wp_abs (fun W' => Below w.heap.size w W' ∧ w.heap.size ≤ g ∧ W'.heap[g]? = some (.cells (blk (mixQ (tabI part quality) basF1 0)) 22 (0, 0))) ⟨gr1 hb1 _, by rw [hg]; exact hb1.size, ?_⟩ ?_
  · rw [blk_mixQ_0, heap_alloc_if, if_pos hg]
  clear hb1 hT1 hc1 hf1 hz1 hg HT
  intro W2 H9
  go_loopg [25] 64 (fun gj i wr => ∃ jj : Nat, jj + gj = 64 ∧ i = .int .i64 jj ∧ Below w.heap.size w wr ∧ w.heap.size ≤ g ∧ wr.heap[g]? = some (.cells (blk (mixQ (tabI part quality) basF1 jj)) 22 (0, 0)))
  case atStart => exact ⟨0, rfl, rfl, H9⟩
  case round =>
    clear H9
    obtain ⟨i, hi, rfl, HB, hg, H1⟩ := hrel
    by_cases hlt : i < 64
    · have t1 : decide ((i : Int) < 64) = true := by simp; omega
      have hi9 : (0 : Int) ≤ i ∧ (i : Int) < 64 := by omega
      have hix : ∀ w, (Instr.index 22 (.agg (blk basF1)) (.int .i64 i)).run Tryd.prog w = .ok (.int .i64 (basF1 i)) w := fun w => run_index_a w _ hlt
      have hv : 10 ≤ basF1 i ∧ basF1 i ≤ 121 := (bas_all i hlt).2
      obtain ⟨v, hve⟩ : ∃ v, basF1 i = v := ⟨_, rfl⟩
      rw [hve] at hix hv
      have m1 : 0 ≤ v * s := Int.mul_nonneg (by omega) hsc.1
      have m2 : v * s ≤ 121 * 5000 := Int.mul_le_mul hv.2 hsc.2 hsc.1 (by omega)
      have b1 := row_cell H1 hlt
      have c1 := row_free H1 i
      have z1 := heap_lt H1
      have HX : Hid ((Below w.heap.size w wr ∧ w.heap.size ≤ g ∧ wr.heap[g]? = some (.cells (blk (mixQ (tabI part quality) basF1 i)) 22 (0, 0))) ∧ clipI 1 255 ((v * s + 50) / 100) = tabI part quality i) := ⟨⟨HB, hg, H1⟩, by rw [← hve, ← HS.out.1]; unfold tabI basN; rw [if_neg ‹part ≠ 0›, HS.out.2]⟩
      have hgw : w.heap.size ≤ g := hg
      clear HB hg H1 hve
      go_wp2_with (go_at_call 42; refine (clip_ _ _ _ _).mono ?_; rintro e W3 ⟨rfl, hb3⟩; obtain ⟨hc3, hf3, hz3⟩ := bcell hb3)
      go_roundg (64 - (i + 1))
      case measure => omega
      case rel =>
        obtain ⟨⟨HB, hg, H1⟩, he⟩ := HX.out
        refine ⟨i + 1, by omega, by go_num, gr4 (gr2 HB hb3) (by simpa using hg) _, hg, ?_⟩
        have := heap_setCell_same _ _ i _ _ (.int .i64 (tabI part quality i)) (at_be H1 hb3)
        rw [blk_mixQ] at this
        rw [he]
        exact this
    · have hk64 : i = 64 := by omega
      subst hk64
      have t1 : decide (((64 : Nat) : Int) < 64) = false := rfl
      rw [blk_mixQ_all] at H1
      go_wp2
      go_ret
      exact ⟨g, rfl, HB, hg, H1⟩

set_option maxRecDepth 100000 in
set_option maxHeartbeats 2000000 in
theorem table_11 (part quality q s : Int) (w : World) (hT : Tabs w) (hq : clipI 1 100 quality = q) (hs : scI q = s) (hp : part ≠ 0) (hqq : ¬ q < 50) :
    Calls Tryd.prog 45 #[.int .i64 part, .int .i64 quality] w fun e w' => ∃ g, e = .returned (.slice (some ⟨g, 0, none⟩) 64 64) ∧ Below w.heap.size w w' ∧ w.heap.size ≤ g ∧ w'.heap[g]? = some (.cells (blk (tabI part quality)) 22 (0, 0)) := by
  have hq1 := clip_in (lo := 1) (hi := 100) quality (by omega)
  rw [hq] at hq1
  have hsc := sc_in hq1
  have hse : scI q = s := hs
  rw [hse] at hsc
  have q0 : q ≠ 0 := by omega
  have t0 : decide (q < 50) = false := by simp; omega
  have r0 : ∀ c : Int, c = 100 - q → 2 * c = s := by rintro c rfl; rw [← hse, scI, if_neg ‹_›]
  have p0 : (part == 0) = false := by simp; omega
  have HT : Hid (Tabs w) := hT
  have HS : Hid (scI q = s ∧ clipI 1 100 quality = q) := ⟨hse, hq⟩
  have hq9 : Hid (clipI 1 100 quality = q) := hq
  clear hs hse hT hq 
  go_enter Tryd.func45, Tryd.ntmps45
  go_wp2_with (first | (go_at_call 42; (with_reducible refine (clip_ quality 1 100 _).mono ?_); rw [hq9.out]; rintro e W1 ⟨rfl, hb1⟩; have hT1 := HT.out.below hb1; obtain ⟨hc1, hf1, hz1⟩ := bcell hb1) | (refine wpList_load_at (f := basF1) 2 64 hT1.2.2.2 rfl _ rfl rfl ?_) | (refine wpList_alloc_a rfl rfl ?_) | (refine wpList_store_a rfl _ _ rfl rfl rfl (by simp) ?_) | (refine wpList_load_a _ (heap_alloc_new _ _) rfl _ rfl rfl ?_))
  obtain ⟨g, hg⟩ : ∃ g, g = W1.heap.size := ⟨_, rfl⟩
  rw [← hg]
  refine wp_abs (fun W' => Below w.heap.size w W' ∧ w.heap.size ≤ g ∧ W'.heap[g]? = some (.cells (blk (mixQ (tabI part quality) basF1 0)) 22 (0, 0))) ⟨gr1 hb1 _, by rw [hg]; exact hb1.size, ?_⟩ ?_
  · rw [blk_mixQ_0, heap_alloc_if, if_pos hg]
  clear hb1 hT1 hc1 hf1 hz1 hg HT
  intro W2 H9
  go_loopg [25] 64 (fun gj i wr => ∃ jj : Nat, jj + gj = 64 ∧ i = .int .i64 jj ∧ Below w.heap.size w wr ∧ w.heap.size ≤ g ∧ wr.heap[g]? = some (.cells (blk (mixQ (tabI part quality) basF1 jj)) 22 (0, 0)))
  case atStart => exact ⟨0, rfl, rfl, H9⟩
  case round =>
    clear H9
    obtain ⟨i, hi, rfl, HB, hg, H1⟩ := hrel
    by_cases hlt : i < 64
    · have t1 : decide ((i : Int) < 64) = true := by simp; omega
      have hi9 : (0 : Int) ≤ i ∧ (i : Int) < 64 := by omega
      have hix : ∀ w, (Instr.index 22 (.agg (blk basF1)) (.int .i64 i)).run Tryd.prog w = .ok (.int .i64 (basF1 i)) w := fun w => run_index_a w _ hlt
      have hv : 10 ≤ basF1 i ∧ basF1 i ≤ 121 := (bas_all i hlt).2
      obtain ⟨v, hve⟩ : ∃ v, basF1 i = v := ⟨_, rfl⟩
      rw [hve] at hix hv
      have m1 : 0 ≤ v * s := Int.mul_nonneg (by omega) hsc.1
      have m2 : v * s ≤ 121 * 5000 := Int.mul_le_mul hv.2 hsc.2 hsc.1 (by omega)
      have b1 := row_cell H1 hlt
      have c1 := row_free H1 i
      have z1 := heap_lt H1
      have HX : Hid ((Below w.heap.size w wr ∧ w.heap.size ≤ g ∧ wr.heap[g]? = some (.cells (blk (mixQ (tabI part quality) basF1 i)) 22 (0, 0))) ∧ clipI 1 255 ((v * s + 50) / 100) = tabI part quality i) := ⟨⟨HB, hg, H1⟩, by rw [← hve, ← HS.out.1]; unfold tabI basN; rw [if_neg ‹part ≠ 0›, HS.out.2]⟩
      have hgw : w.heap.size ≤ g := hg
      clear HB hg H1 hve
      go_wp2_with (go_at_call 42; refine (clip_ _ _ _ _).mono ?_; rintro e W3 ⟨rfl, hb3⟩; obtain ⟨hc3, hf3, hz3⟩ := bcell hb3)
      go_roundg (64 - (i + 1))
      case measure => omega
      case rel =>
        obtain ⟨⟨HB, hg, H1⟩, he⟩ := HX.out
        refine ⟨i + 1, by omega, by go_num, gr4 (gr2 HB hb3) (by simpa using hg) _, hg, ?_⟩
        have := heap_setCell_same _ _ i _ _ (.int .i64 (tabI part quality i)) (at_be H1 hb3)
        rw [blk_mixQ] at this
        rw [he]
        exact this
    · have hk64 : i = 64 := by omega
      subst hk64
      have t1 : decide (((64 : Nat) : Int) < 64) = false := rfl
      rw [blk_mixQ_all] at H1
      go_wp2
      go_ret
      exact ⟨g, rfl, HB, hg, H1⟩

theorem table_ (part quality : Int) (w : World) (hT : Tabs w) :
    Calls Tryd.prog 45 #[.int .i64 part, .int .i64 quality] w fun e w' => ∃ g, e = .returned (.slice (some ⟨g, 0, none⟩) 64 64) ∧ Below w.heap.size w w' ∧ w.heap.size ≤ g ∧ w'.heap[g]? = some (.cells (blk (tabI part quality)) 22 (0, 0)) := by
  by_cases h : part = 0 <;> by_cases h2 : clipI 1 100 quality < 50
  · exact table_00 part quality _ _ w hT rfl rfl h h2
  · exact table_01 part quality _ _ w hT rfl rfl h h2
  · exact table_10 part quality _ _ w hT rfl rfl h h2
  · exact table_11 part quality _ _ w hT rfl rfl h h2

end Go.Proofs.YtkaoajfdbjlioaaDoor
