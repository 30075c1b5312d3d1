/- The chapter's own tables. -/
import Derived.Test.YtgegmlhpdpdnfaaDoorQuant
import Derived.Test.YtgegmlhpdpdnfaaDoorApp
import Derived.Great.BuildSlice
namespace Go.Proofs.YtgegmlhpdpdnfaaDoor
open Go.RowKit

theorem zig_blk : (zigL.map (Value.int .i64)).toArray = blk zigN := rfl
theorem bas0_blk : (bas0.map (Value.int .i64)).toArray = blk basF0 := rfl
theorem bas1_blk : (bas1.map (Value.int .i64)).toArray = blk basF1 := rfl
theorem wpList_flat {ops : Array Oper} {rest : List Oper} {o : Oper} {a : Act} {w : World} {Q : Exit → Act → World → Prop} {zs : List Int} {f : Nat → Int} (hz : (zs.map (Value.int .i64)).toArray = blk f) (hl : 64 = zs.length) (hg : o.guard = none) (parts : Array (Nat × Operand)) (ho : o.op = .buildSlice 26 64 parts)
    (hparts : parts.toList = (zs.zipIdx 0).map fun x => (x.2, Operand.const (Value.int .i64 x.1)))
    (h : wpList Tryd.prog ops Q rest (a.put o.dst (.slice (some ⟨w.heap.size, 0, none⟩) 64 64)) (w.alloc (.cells (blk f) 3))) : wpList Tryd.prog ops Q (o :: rest) a w :=
  wpList_buildFlat hg 26 3 64 parts ho .i64 zs Tryd.underlying26 (by kernel_rfl) (by kernel_rfl) hl (by decide) (by decide) hparts (by rw [hz]; exact h)
/-- A row of numbers. -/
def rowL (f : Nat → Int) (k : Nat) : List Value := (List.range k).map fun j => Value.int .i64 (f j)
theorem rowL_succ (f : Nat → Int) (k : Nat) : rowL f (k + 1) = rowL f k ++ [.int .i64 (f k)] := by unfold rowL; rw [List.range_succ, List.map_append]; rfl
theorem rowL_at (f : Nat → Int) {k j : Nat} (h : j < k) : (rowL f k)[j]? = some (.int .i64 (f j)) := by unfold rowL; simp [h]

set_option maxRecDepth 100000 in
set_option maxHeartbeats 2000000 in
theorem rzig_ (i : Int) (w : World) :
    Calls Tryd.prog 7 #[.int .i64 i] w fun e w' => e = .returned (.int .i64 (zigI i)) ∧ Below w.heap.size w w' := by
  by_cases h0 : i < 0
  · have e : zigI i = 0 := by unfold zigI; rw [if_pos (by omega)]
    have d0 : decide (i < 0) = true := by simp; omega
    go_enter Tryd.func7, Tryd.ntmps7
    go_wp2_with (first
      | (refine wp_region_calm (by kernel_rfl) (by kernel_rfl) ?_; repeat (first | go_big_quiet_step (fail) | quiet_step (fail))
         refine wpQuiet_nil ?_; intro u; have hzu := u.below.size; try simp at hzu))
    all_goals go_ret
    all_goals refine ⟨by first | rfl | exact ret_int e.symm, ?_⟩
    all_goals (repeat (first | exact gr0 _ | refine gr1 ?_ _ | refine gr2 ?_ (Later.below _) | refine gr2 ?_ (by assumption) | refine gr3 ?_ | refine gr4 ?_ (by first | (simp; done) | (simp; omega) | omega) _))
  · skip
    by_cases h1 : 63 < i
    · have e : zigI i = 0 := by unfold zigI; rw [if_pos (by omega)]
      have d0 : decide (i < 0) = false := by simp; omega
      have d1 : decide (63 < i) = true := by simp; omega
      go_enter Tryd.func7, Tryd.ntmps7
      go_wp2_with (first
        | (refine wp_region_calm (by kernel_rfl) (by kernel_rfl) ?_; repeat (first | go_big_quiet_step (fail) | quiet_step (fail))
           refine wpQuiet_nil ?_; intro u; have hzu := u.below.size; try simp at hzu))
      all_goals go_ret
      all_goals refine ⟨by first | rfl | exact ret_int e.symm, ?_⟩
      all_goals (repeat (first | exact gr0 _ | refine gr1 ?_ _ | refine gr2 ?_ (Later.below _) | refine gr2 ?_ (by assumption) | refine gr3 ?_ | refine gr4 ?_ (by first | (simp; done) | (simp; omega) | omega) _))
    · skip
      have e : zigI i = zigN i.toNat := by unfold zigI; rw [if_neg (by omega)]
      obtain ⟨n, rfl⟩ := Int.eq_ofNat_of_zero_le (a := i) (by omega)
      have hn : n < 64 := by omega
      have hcell := blk_at (f := zigN) hn
      rw [Int.toNat_natCast] at e
      have d0 : decide ((n : Int) < 0) = false := by first | (simp; done) | (simp; omega)
      have d1 : decide (63 < (n : Int)) = false := by first | (simp; done) | (simp; omega)
      go_enter Tryd.func7, Tryd.ntmps7
      go_wp2_with (refine wpList_flat zig_blk rfl rfl _ rfl rfl ?_)
      all_goals go_ret
      all_goals refine ⟨by first | rfl | exact ret_int e.symm, ?_⟩
      all_goals (repeat (first | exact gr0 _ | refine gr1 ?_ _ | refine gr2 ?_ (Later.below _) | refine gr2 ?_ (by assumption) | refine gr3 ?_ | refine gr4 ?_ (by first | (simp; done) | (simp; omega) | omega) _))

set_option maxRecDepth 100000 in
set_option maxHeartbeats 2000000 in
theorem rbase_0 (part : Int) (w : World) (hp : part = 0) :
    Calls Tryd.prog 13 #[.int .i64 part] w fun e w' => ∃ g, e = .returned (.slice (some ⟨g, 0, none⟩) 64 64) ∧ Below w.heap.size w w' ∧ w.heap.size ≤ g ∧ w'.heap[g]? = some (.cells (blk basF0) 3 (0, 0)) := by
  have p0 : (part == 0) = true := by simp; omega
  clear hp
  go_enter Tryd.func13, Tryd.ntmps13
  go_wp2_with (refine wpList_flat bas0_blk rfl rfl _ rfl rfl ?_)
  go_ret
  exact ⟨_, rfl, gr1 (gr0 _) _, Nat.le_refl _, heap_alloc_new _ _⟩

set_option maxRecDepth 100000 in
set_option maxHeartbeats 2000000 in
theorem rbase_1 (part : Int) (w : World) (hp : part ≠ 0) :
    Calls Tryd.prog 13 #[.int .i64 part] w fun e w' => ∃ g, e = .returned (.slice (some ⟨g, 0, none⟩) 64 64) ∧ Below w.heap.size w w' ∧ w.heap.size ≤ g ∧ w'.heap[g]? = some (.cells (blk basF1) 3 (0, 0)) := by
  have p0 : (part == 0) = false := by simp; omega
  clear hp
  go_enter Tryd.func13, Tryd.ntmps13
  go_wp2_with (refine wpList_flat bas1_blk rfl rfl _ rfl rfl ?_)
  go_ret
  exact ⟨_, rfl, gr1 (gr0 _) _, Nat.le_refl _, heap_alloc_new _ _⟩

set_option maxRecDepth 100000 in
set_option maxHeartbeats 2000000 in
theorem rtable_00 (part quality q s : Int) (w : World) (hq : clipI 1 100 quality = q) (hs : scI q = s) (hp : part = 0) (hqq : q < 50) :
    Calls Tryd.prog 10 #[.int .i64 part, .int .i64 quality] w fun e w' => ∃ v, e = .returned v ∧ Below w.heap.size w w' ∧ w'.ownsRow w.heap.size 3 1 v 64 (rowL (tabI part quality) 64) := by
  have hq1 := clip_in (lo := 1) (hi := 100) quality (by omega)
  rw [hq] at hq1
  have hsc := sc_in hq1
  have hse : scI q = s := hs
  rw [hse] at hsc
  have q0 : q ≠ 0 := by omega
  have t0 : decide (q < 50) = true := by simp; omega
  have r0 : ∀ c : Int, c = q → Int.tdiv 5000 c = s := by rintro c rfl; rw [← hse, scI, if_pos ‹_›]; exact Int.tdiv_eq_ediv_of_nonneg (by omega)
  have HS : Hid (scI q = s ∧ clipI 1 100 quality = q) := ⟨hse, hq⟩
  have hq9 : Hid (clipI 1 100 quality = q) := hq
  have hp9 : Hid (part = 0) := hp
  clear hs hse hq hp
  go_enter Tryd.func10, Tryd.ntmps10
  go_wp2_with (first | (go_at_call 12; (with_reducible refine (rclip_ quality 1 100 _).mono ?_); rw [hq9.out]; rintro e W1 ⟨rfl, hb1⟩; obtain ⟨hc1, hf1, hz1⟩ := bcell hb1) | (go_at_call 13; refine (rbase_0 _ _ hp9.out).mono ?_; rintro e W2 ⟨g, rfl, hb2, hg2, hh2⟩; obtain ⟨hc2, hf2, hz2⟩ := bcell hb2))
  have HB0 : Below w.heap.size w W2 := gr2 hb1 hb2
  clear hc1 hf1 hz1 hc2 hf2 hz2 hb1 hb2
  go_loopg [8, 9] 64 (fun gj v i wr => ∃ jj : Nat, jj + gj = 64 ∧ i = .int .i64 jj ∧ Below W2.heap.size W2 wr ∧ wr.ownsRow W2.heap.size 3 1 v jj (rowL (tabI part quality) jj))
  case atStart => exact ⟨0, rfl, rfl, Below.refl _ _, World.ownsRow_nil _ _ _ _⟩
  case round =>
    obtain ⟨i, hi, rfl, HB, hown⟩ := hrel
    by_cases hlt : i < 64
    · have t1 : decide ((i : Int) < 64) = true := by simp; omega
      have hi9 : (0 : Int) ≤ i ∧ (i : Int) < 64 := by omega
      have hv : 10 ≤ basF0 i ∧ basF0 i ≤ 121 := (bas_all i hlt).1
      obtain ⟨v0, hve⟩ : ∃ v0, basF0 i = v0 := ⟨_, rfl⟩
      rw [hve] at hv
      have m1 : 0 ≤ v0 * s := Int.mul_nonneg (by omega) hsc.1
      have m2 : v0 * s ≤ 121 * 5000 := Int.mul_le_mul hv.2 hsc.2 hsc.1 (by omega)
      rcases hown.2 with ⟨hn, hn0⟩ | ⟨g9, c9, cur9, hv9, hn9⟩
      · subst hn
        clear hn0
        have b1 : wr.cell? ⟨g, i, none⟩ = some (.int .i64 v0) := (HB.cell (p := ⟨g, i, none⟩) (heap_lt hh2)).trans ((row_cell hh2 hlt).trans (by rw [hve]))
        have z1 := HB.size
        have z2 := heap_lt hh2
        have HX : Hid (Below W2.heap.size W2 wr ∧ clipI 1 255 ((v0 * s + 50) / 100) = tabI part quality i) := ⟨HB, by rw [← hve, ← HS.out.1]; unfold tabI basN; rw [if_pos hp9.out, HS.out.2]⟩
        clear HB hve
        go_wp2_with (first | (go_at_call 12; refine (rclip_ _ _ _ _).mono ?_; rintro e W3 ⟨rfl, hb3⟩; obtain ⟨hc3, hf3, hz3⟩ := bcell hb3) | (at_builtin; apply append_int W2.heap.size (.tmp 25) (.tmp 35) rfl rfl (hs := rfl) (hx := rfl); (case hown => exact own_alloc (own_below hown hb3)); (case hgv => first | exact .inl rfl | exact .inr ⟨rfl, rfl⟩); (case hu => exact new_cell (by simp)); (case hn => omega); (case hbase => (try simp); omega); intro g5 c5 w5 hown5 hbg5 hl5 hs5 ho5 hlow5 hc5 hf5; (try simp at hs5)))
        go_roundg (64 - (i + 1))
        case measure => omega
        case rel =>
          obtain ⟨HB, he⟩ := HX.out
          refine ⟨i + 1, by omega, by go_num, gr6 hlow5 (Nat.le_refl _) (gr1 (gr2 HB hb3) _), ?_⟩
          rw [rowL_succ, ← he]
          exact hown5
      · subst hv9
        clear hn9
        have b1 : wr.cell? ⟨g, i, none⟩ = some (.int .i64 v0) := (HB.cell (p := ⟨g, i, none⟩) (heap_lt hh2)).trans ((row_cell hh2 hlt).trans (by rw [hve]))
        have z1 := HB.size
        have z2 := heap_lt hh2
        have HX : Hid (Below W2.heap.size W2 wr ∧ clipI 1 255 ((v0 * s + 50) / 100) = tabI part quality i) := ⟨HB, by rw [← hve, ← HS.out.1]; unfold tabI basN; rw [if_pos hp9.out, HS.out.2]⟩
        clear HB hve
        go_wp2_with (first | (go_at_call 12; refine (rclip_ _ _ _ _).mono ?_; rintro e W3 ⟨rfl, hb3⟩; obtain ⟨hc3, hf3, hz3⟩ := bcell hb3) | (at_builtin; apply append_int W2.heap.size (.tmp 25) (.tmp 35) rfl rfl (hs := rfl) (hx := rfl); (case hown => exact own_alloc (own_below hown hb3)); (case hgv => first | exact .inl rfl | exact .inr ⟨rfl, rfl⟩); (case hu => exact new_cell (by simp)); (case hn => omega); (case hbase => (try simp); omega); intro g5 c5 w5 hown5 hbg5 hl5 hs5 ho5 hlow5 hc5 hf5; (try simp at hs5)))
        go_roundg (64 - (i + 1))
        case measure => omega
        case rel =>
          obtain ⟨HB, he⟩ := HX.out
          refine ⟨i + 1, by omega, by go_num, gr6 hlow5 (Nat.le_refl _) (gr1 (gr2 HB hb3) _), ?_⟩
          rw [rowL_succ, ← he]
          exact hown5
    · have hk64 : i = 64 := by omega
      subst hk64
      have t1 : decide (((64 : Nat) : Int) < 64) = false := rfl
      go_wp2
      go_ret
      refine ⟨_, rfl, gr2 HB0 HB, hown.1, ?_⟩
      rcases hown.2 with hn | ⟨g9, c9, cur9, hv9, hb9, h9⟩
      · exact .inl hn
      · exact .inr ⟨g9, c9, cur9, hv9, Nat.le_trans HB0.size hb9, h9⟩

set_option maxRecDepth 100000 in
set_option maxHeartbeats 2000000 in
theorem rtable_01 (part quality q s : Int) (w : World) (hq : clipI 1 100 quality = q) (hs : scI q = s) (hp : part = 0) (hqq : ¬ q < 50) :
    Calls Tryd.prog 10 #[.int .i64 part, .int .i64 quality] w fun e w' => ∃ v, e = .returned v ∧ Below w.heap.size w w' ∧ w'.ownsRow w.heap.size 3 1 v 64 (rowL (tabI part quality) 64) := by
  have hq1 := clip_in (lo := 1) (hi := 100) quality (by omega)
  rw [hq] at hq1
  have hsc := sc_in hq1
  have hse : scI q = s := hs
  rw [hse] at hsc
  have q0 : q ≠ 0 := by omega
  have t0 : decide (q < 50) = false := by simp; omega
  have r0 : ∀ c : Int, c = 2 * q → 200 - c = s := by rintro c rfl; rw [← hse, scI, if_neg ‹_›]; omega
  have HS : Hid (scI q = s ∧ clipI 1 100 quality = q) := ⟨hse, hq⟩
  have hq9 : Hid (clipI 1 100 quality = q) := hq
  have hp9 : Hid (part = 0) := hp
  clear hs hse hq hp
  go_enter Tryd.func10, Tryd.ntmps10
  go_wp2_with (first | (go_at_call 12; (with_reducible refine (rclip_ quality 1 100 _).mono ?_); rw [hq9.out]; rintro e W1 ⟨rfl, hb1⟩; obtain ⟨hc1, hf1, hz1⟩ := bcell hb1) | (go_at_call 13; refine (rbase_0 _ _ hp9.out).mono ?_; rintro e W2 ⟨g, rfl, hb2, hg2, hh2⟩; obtain ⟨hc2, hf2, hz2⟩ := bcell hb2))
  have HB0 : Below w.heap.size w W2 := gr2 hb1 hb2
  clear hc1 hf1 hz1 hc2 hf2 hz2 hb1 hb2
  go_loopg [8, 9] 64 (fun gj v i wr => ∃ jj : Nat, jj + gj = 64 ∧ i = .int .i64 jj ∧ Below W2.heap.size W2 wr ∧ wr.ownsRow W2.heap.size 3 1 v jj (rowL (tabI part quality) jj))
  case atStart => exact ⟨0, rfl, rfl, Below.refl _ _, World.ownsRow_nil _ _ _ _⟩
  case round =>
    obtain ⟨i, hi, rfl, HB, hown⟩ := hrel
    by_cases hlt : i < 64
    · have t1 : decide ((i : Int) < 64) = true := by simp; omega
      have hi9 : (0 : Int) ≤ i ∧ (i : Int) < 64 := by omega
      have hv : 10 ≤ basF0 i ∧ basF0 i ≤ 121 := (bas_all i hlt).1
      obtain ⟨v0, hve⟩ : ∃ v0, basF0 i = v0 := ⟨_, rfl⟩
      rw [hve] at hv
      have m1 : 0 ≤ v0 * s := Int.mul_nonneg (by omega) hsc.1
      have m2 : v0 * s ≤ 121 * 5000 := Int.mul_le_mul hv.2 hsc.2 hsc.1 (by omega)
      rcases hown.2 with ⟨hn, hn0⟩ | ⟨g9, c9, cur9, hv9, hn9⟩
      · subst hn
        clear hn0
        have b1 : wr.cell? ⟨g, i, none⟩ = some (.int .i64 v0) := (HB.cell (p := ⟨g, i, none⟩) (heap_lt hh2)).trans ((row_cell hh2 hlt).trans (by rw [hve]))
        have z1 := HB.size
        have z2 := heap_lt hh2
        have HX : Hid (Below W2.heap.size W2 wr ∧ clipI 1 255 ((v0 * s + 50) / 100) = tabI part quality i) := ⟨HB, by rw [← hve, ← HS.out.1]; unfold tabI basN; rw [if_pos hp9.out, HS.out.2]⟩
        clear HB hve
        go_wp2_with (first | (go_at_call 12; refine (rclip_ _ _ _ _).mono ?_; rintro e W3 ⟨rfl, hb3⟩; obtain ⟨hc3, hf3, hz3⟩ := bcell hb3) | (at_builtin; apply append_int W2.heap.size (.tmp 25) (.tmp 35) rfl rfl (hs := rfl) (hx := rfl); (case hown => exact own_alloc (own_below hown hb3)); (case hgv => first | exact .inl rfl | exact .inr ⟨rfl, rfl⟩); (case hu => exact new_cell (by simp)); (case hn => omega); (case hbase => (try simp); omega); intro g5 c5 w5 hown5 hbg5 hl5 hs5 ho5 hlow5 hc5 hf5; (try simp at hs5)))
        go_roundg (64 - (i + 1))
        case measure => omega
        case rel =>
          obtain ⟨HB, he⟩ := HX.out
          refine ⟨i + 1, by omega, by go_num, gr6 hlow5 (Nat.le_refl _) (gr1 (gr2 HB hb3) _), ?_⟩
          rw [rowL_succ, ← he]
          exact hown5
      · subst hv9
        clear hn9
        have b1 : wr.cell? ⟨g, i, none⟩ = some (.int .i64 v0) := (HB.cell (p := ⟨g, i, none⟩) (heap_lt hh2)).trans ((row_cell hh2 hlt).trans (by rw [hve]))
        have z1 := HB.size
        have z2 := heap_lt hh2
        have HX : Hid (Below W2.heap.size W2 wr ∧ clipI 1 255 ((v0 * s + 50) / 100) = tabI part quality i) := ⟨HB, by rw [← hve, ← HS.out.1]; unfold tabI basN; rw [if_pos hp9.out, HS.out.2]⟩
        clear HB hve
        go_wp2_with (first | (go_at_call 12; refine (rclip_ _ _ _ _).mono ?_; rintro e W3 ⟨rfl, hb3⟩; obtain ⟨hc3, hf3, hz3⟩ := bcell hb3) | (at_builtin; apply append_int W2.heap.size (.tmp 25) (.tmp 35) rfl rfl (hs := rfl) (hx := rfl); (case hown => exact own_alloc (own_below hown hb3)); (case hgv => first | exact .inl rfl | exact .inr ⟨rfl, rfl⟩); (case hu => exact new_cell (by simp)); (case hn => omega); (case hbase => (try simp); omega); intro g5 c5 w5 hown5 hbg5 hl5 hs5 ho5 hlow5 hc5 hf5; (try simp at hs5)))
        go_roundg (64 - (i + 1))
        case measure => omega
        case rel =>
          obtain ⟨HB, he⟩ := HX.out
          refine ⟨i + 1, by omega, by go_num, gr6 hlow5 (Nat.le_refl _) (gr1 (gr2 HB hb3) _), ?_⟩
          rw [rowL_succ, ← he]
          exact hown5
    · have hk64 : i = 64 := by omega
      subst hk64
      have t1 : decide (((64 : Nat) : Int) < 64) = false := rfl
      go_wp2
      go_ret
      refine ⟨_, rfl, gr2 HB0 HB, hown.1, ?_⟩
      rcases hown.2 with hn | ⟨g9, c9, cur9, hv9, hb9, h9⟩
      · exact .inl hn
      · exact .inr ⟨g9, c9, cur9, hv9, Nat.le_trans HB0.size hb9, h9⟩

set_option maxRecDepth 100000 in
set_option maxHeartbeats 2000000 in
theorem rtable_10 (part quality q s : Int) (w : World) (hq : clipI 1 100 quality = q) (hs : scI q = s) (hp : part ≠ 0) (hqq : q < 50) :
    Calls Tryd.prog 10 #[.int .i64 part, .int .i64 quality] w fun e w' => ∃ v, e = .returned v ∧ Below w.heap.size w w' ∧ w'.ownsRow w.heap.size 3 1 v 64 (rowL (tabI part quality) 64) := by
  have hq1 := clip_in (lo := 1) (hi := 100) quality (by omega)
  rw [hq] at hq1
  have hsc := sc_in hq1
  have hse : scI q = s := hs
  rw [hse] at hsc
  have q0 : q ≠ 0 := by omega
  have t0 : decide (q < 50) = true := by simp; omega
  have r0 : ∀ c : Int, c = q → Int.tdiv 5000 c = s := by rintro c rfl; rw [← hse, scI, if_pos ‹_›]; exact Int.tdiv_eq_ediv_of_nonneg (by omega)
  have HS : Hid (scI q = s ∧ clipI 1 100 quality = q) := ⟨hse, hq⟩
  have hq9 : Hid (clipI 1 100 quality = q) := hq
  have hp9 : Hid (part ≠ 0) := hp
  clear hs hse hq hp
  go_enter Tryd.func10, Tryd.ntmps10
  go_wp2_with (first | (go_at_call 12; (with_reducible refine (rclip_ quality 1 100 _).mono ?_); rw [hq9.out]; rintro e W1 ⟨rfl, hb1⟩; obtain ⟨hc1, hf1, hz1⟩ := bcell hb1) | (go_at_call 13; refine (rbase_1 _ _ hp9.out).mono ?_; rintro e W2 ⟨g, rfl, hb2, hg2, hh2⟩; obtain ⟨hc2, hf2, hz2⟩ := bcell hb2))
  have HB0 : Below w.heap.size w W2 := gr2 hb1 hb2
  clear hc1 hf1 hz1 hc2 hf2 hz2 hb1 hb2
  go_loopg [8, 9] 64 (fun gj v i wr => ∃ jj : Nat, jj + gj = 64 ∧ i = .int .i64 jj ∧ Below W2.heap.size W2 wr ∧ wr.ownsRow W2.heap.size 3 1 v jj (rowL (tabI part quality) jj))
  case atStart => exact ⟨0, rfl, rfl, Below.refl _ _, World.ownsRow_nil _ _ _ _⟩
  case round =>
    obtain ⟨i, hi, rfl, HB, hown⟩ := hrel
    by_cases hlt : i < 64
    · have t1 : decide ((i : Int) < 64) = true := by simp; omega
      have hi9 : (0 : Int) ≤ i ∧ (i : Int) < 64 := by omega
      have hv : 10 ≤ basF1 i ∧ basF1 i ≤ 121 := (bas_all i hlt).2
      obtain ⟨v0, hve⟩ : ∃ v0, basF1 i = v0 := ⟨_, rfl⟩
      rw [hve] at hv
      have m1 : 0 ≤ v0 * s := Int.mul_nonneg (by omega) hsc.1
      have m2 : v0 * s ≤ 121 * 5000 := Int.mul_le_mul hv.2 hsc.2 hsc.1 (by omega)
      rcases hown.2 with ⟨hn, hn0⟩ | ⟨g9, c9, cur9, hv9, hn9⟩
      · subst hn
        clear hn0
        have b1 : wr.cell? ⟨g, i, none⟩ = some (.int .i64 v0) := (HB.cell (p := ⟨g, i, none⟩) (heap_lt hh2)).trans ((row_cell hh2 hlt).trans (by rw [hve]))
        have z1 := HB.size
        have z2 := heap_lt hh2
        have HX : Hid (Below W2.heap.size W2 wr ∧ clipI 1 255 ((v0 * s + 50) / 100) = tabI part quality i) := ⟨HB, by rw [← hve, ← HS.out.1]; unfold tabI basN; rw [if_neg hp9.out, HS.out.2]⟩
        clear HB hve
        go_wp2_with (first | (go_at_call 12; refine (rclip_ _ _ _ _).mono ?_; rintro e W3 ⟨rfl, hb3⟩; obtain ⟨hc3, hf3, hz3⟩ := bcell hb3) | (at_builtin; apply append_int W2.heap.size (.tmp 25) (.tmp 35) rfl rfl (hs := rfl) (hx := rfl); (case hown => exact own_alloc (own_below hown hb3)); (case hgv => first | exact .inl rfl | exact .inr ⟨rfl, rfl⟩); (case hu => exact new_cell (by simp)); (case hn => omega); (case hbase => (try simp); omega); intro g5 c5 w5 hown5 hbg5 hl5 hs5 ho5 hlow5 hc5 hf5; (try simp at hs5)))
        go_roundg (64 - (i + 1))
        case measure => omega
        case rel =>
          obtain ⟨HB, he⟩ := HX.out
          refine ⟨i + 1, by omega, by go_num, gr6 hlow5 (Nat.le_refl _) (gr1 (gr2 HB hb3) _), ?_⟩
          rw [rowL_succ, ← he]
          exact hown5
      · subst hv9
        clear hn9
        have b1 : wr.cell? ⟨g, i, none⟩ = some (.int .i64 v0) := (HB.cell (p := ⟨g, i, none⟩) (heap_lt hh2)).trans ((row_cell hh2 hlt).trans (by rw [hve]))
        have z1 := HB.size
        have z2 := heap_lt hh2
        have HX : Hid (Below W2.heap.size W2 wr ∧ clipI 1 255 ((v0 * s + 50) / 100) = tabI part quality i) := ⟨HB, by rw [← hve, ← HS.out.1]; unfold tabI basN; rw [if_neg hp9.out, HS.out.2]⟩
        clear HB hve
        go_wp2_with (first | (go_at_call 12; refine (rclip_ _ _ _ _).mono ?_; rintro e W3 ⟨rfl, hb3⟩; obtain ⟨hc3, hf3, hz3⟩ := bcell hb3) | (at_builtin; apply append_int W2.heap.size (.tmp 25) (.tmp 35) rfl rfl (hs := rfl) (hx := rfl); (case hown => exact own_alloc (own_below hown hb3)); (case hgv => first | exact .inl rfl | exact .inr ⟨rfl, rfl⟩); (case hu => exact new_cell (by simp)); (case hn => omega); (case hbase => (try simp); omega); intro g5 c5 w5 hown5 hbg5 hl5 hs5 ho5 hlow5 hc5 hf5; (try simp at hs5)))
        go_roundg (64 - (i + 1))
        case measure => omega
        case rel =>
          obtain ⟨HB, he⟩ := HX.out
          refine ⟨i + 1, by omega, by go_num, gr6 hlow5 (Nat.le_refl _) (gr1 (gr2 HB hb3) _), ?_⟩
          rw [rowL_succ, ← he]
          exact hown5
    · have hk64 : i = 64 := by omega
      subst hk64
      have t1 : decide (((64 : Nat) : Int) < 64) = false := rfl
      go_wp2
      go_ret
      refine ⟨_, rfl, gr2 HB0 HB, hown.1, ?_⟩
      rcases hown.2 with hn | ⟨g9, c9, cur9, hv9, hb9, h9⟩
      · exact .inl hn
      · exact .inr ⟨g9, c9, cur9, hv9, Nat.le_trans HB0.size hb9, h9⟩

set_option maxRecDepth 100000 in
set_option maxHeartbeats 2000000 in
theorem rtable_11 (part quality q s : Int) (w : World) (hq : clipI 1 100 quality = q) (hs : scI q = s) (hp : part ≠ 0) (hqq : ¬ q < 50) :
    Calls Tryd.prog 10 #[.int .i64 part, .int .i64 quality] w fun e w' => ∃ v, e = .returned v ∧ Below w.heap.size w w' ∧ w'.ownsRow w.heap.size 3 1 v 64 (rowL (tabI part quality) 64) := by
  have hq1 := clip_in (lo := 1) (hi := 100) quality (by omega)
  rw [hq] at hq1
  have hsc := sc_in hq1
  have hse : scI q = s := hs
  rw [hse] at hsc
  have q0 : q ≠ 0 := by omega
  have t0 : decide (q < 50) = false := by simp; omega
  have r0 : ∀ c : Int, c = 2 * q → 200 - c = s := by rintro c rfl; rw [← hse, scI, if_neg ‹_›]; omega
  have HS : Hid (scI q = s ∧ clipI 1 100 quality = q) := ⟨hse, hq⟩
  have hq9 : Hid (clipI 1 100 quality = q) := hq
  have hp9 : Hid (part ≠ 0) := hp
  clear hs hse hq hp
  go_enter Tryd.func10, Tryd.ntmps10
  go_wp2_with (first | (go_at_call 12; (with_reducible refine (rclip_ quality 1 100 _).mono ?_); rw [hq9.out]; rintro e W1 ⟨rfl, hb1⟩; obtain ⟨hc1, hf1, hz1⟩ := bcell hb1) | (go_at_call 13; refine (rbase_1 _ _ hp9.out).mono ?_; rintro e W2 ⟨g, rfl, hb2, hg2, hh2⟩; obtain ⟨hc2, hf2, hz2⟩ := bcell hb2))
  have HB0 : Below w.heap.size w W2 := gr2 hb1 hb2
  clear hc1 hf1 hz1 hc2 hf2 hz2 hb1 hb2
  go_loopg [8, 9] 64 (fun gj v i wr => ∃ jj : Nat, jj + gj = 64 ∧ i = .int .i64 jj ∧ Below W2.heap.size W2 wr ∧ wr.ownsRow W2.heap.size 3 1 v jj (rowL (tabI part quality) jj))
  case atStart => exact ⟨0, rfl, rfl, Below.refl _ _, World.ownsRow_nil _ _ _ _⟩
  case round =>
    obtain ⟨i, hi, rfl, HB, hown⟩ := hrel
    by_cases hlt : i < 64
    · have t1 : decide ((i : Int) < 64) = true := by simp; omega
      have hi9 : (0 : Int) ≤ i ∧ (i : Int) < 64 := by omega
      have hv : 10 ≤ basF1 i ∧ basF1 i ≤ 121 := (bas_all i hlt).2
      obtain ⟨v0, hve⟩ : ∃ v0, basF1 i = v0 := ⟨_, rfl⟩
      rw [hve] at hv
      have m1 : 0 ≤ v0 * s := Int.mul_nonneg (by omega) hsc.1
      have m2 : v0 * s ≤ 121 * 5000 := Int.mul_le_mul hv.2 hsc.2 hsc.1 (by omega)
      rcases hown.2 with ⟨hn, hn0⟩ | ⟨g9, c9, cur9, hv9, hn9⟩
      · subst hn
        clear hn0
        have b1 : wr.cell? ⟨g, i, none⟩ = some (.int .i64 v0) := (HB.cell (p := ⟨g, i, none⟩) (heap_lt hh2)).trans ((row_cell hh2 hlt).trans (by rw [hve]))
        have z1 := HB.size
        have z2 := heap_lt hh2
        have HX : Hid (Below W2.heap.size W2 wr ∧ clipI 1 255 ((v0 * s + 50) / 100) = tabI part quality i) := ⟨HB, by rw [← hve, ← HS.out.1]; unfold tabI basN; rw [if_neg hp9.out, HS.out.2]⟩
        clear HB hve
        go_wp2_with (first | (go_at_call 12; refine (rclip_ _ _ _ _).mono ?_; rintro e W3 ⟨rfl, hb3⟩; obtain ⟨hc3, hf3, hz3⟩ := bcell hb3) | (at_builtin; apply append_int W2.heap.size (.tmp 25) (.tmp 35) rfl rfl (hs := rfl) (hx := rfl); (case hown => exact own_alloc (own_below hown hb3)); (case hgv => first | exact .inl rfl | exact .inr ⟨rfl, rfl⟩); (case hu => exact new_cell (by simp)); (case hn => omega); (case hbase => (try simp); omega); intro g5 c5 w5 hown5 hbg5 hl5 hs5 ho5 hlow5 hc5 hf5; (try simp at hs5)))
        go_roundg (64 - (i + 1))
        case measure => omega
        case rel =>
          obtain ⟨HB, he⟩ := HX.out
          refine ⟨i + 1, by omega, by go_num, gr6 hlow5 (Nat.le_refl _) (gr1 (gr2 HB hb3) _), ?_⟩
          rw [rowL_succ, ← he]
          exact hown5
      · subst hv9
        clear hn9
        have b1 : wr.cell? ⟨g, i, none⟩ = some (.int .i64 v0) := (HB.cell (p := ⟨g, i, none⟩) (heap_lt hh2)).trans ((row_cell hh2 hlt).trans (by rw [hve]))
        have z1 := HB.size
        have z2 := heap_lt hh2
        have HX : Hid (Below W2.heap.size W2 wr ∧ clipI 1 255 ((v0 * s + 50) / 100) = tabI part quality i) := ⟨HB, by rw [← hve, ← HS.out.1]; unfold tabI basN; rw [if_neg hp9.out, HS.out.2]⟩
        clear HB hve
        go_wp2_with (first | (go_at_call 12; refine (rclip_ _ _ _ _).mono ?_; rintro e W3 ⟨rfl, hb3⟩; obtain ⟨hc3, hf3, hz3⟩ := bcell hb3) | (at_builtin; apply append_int W2.heap.size (.tmp 25) (.tmp 35) rfl rfl (hs := rfl) (hx := rfl); (case hown => exact own_alloc (own_below hown hb3)); (case hgv => first | exact .inl rfl | exact .inr ⟨rfl, rfl⟩); (case hu => exact new_cell (by simp)); (case hn => omega); (case hbase => (try simp); omega); intro g5 c5 w5 hown5 hbg5 hl5 hs5 ho5 hlow5 hc5 hf5; (try simp at hs5)))
        go_roundg (64 - (i + 1))
        case measure => omega
        case rel =>
          obtain ⟨HB, he⟩ := HX.out
          refine ⟨i + 1, by omega, by go_num, gr6 hlow5 (Nat.le_refl _) (gr1 (gr2 HB hb3) _), ?_⟩
          rw [rowL_succ, ← he]
          exact hown5
    · have hk64 : i = 64 := by omega
      subst hk64
      have t1 : decide (((64 : Nat) : Int) < 64) = false := rfl
      go_wp2
      go_ret
      refine ⟨_, rfl, gr2 HB0 HB, hown.1, ?_⟩
      rcases hown.2 with hn | ⟨g9, c9, cur9, hv9, hb9, h9⟩
      · exact .inl hn
      · exact .inr ⟨g9, c9, cur9, hv9, Nat.le_trans HB0.size hb9, h9⟩

theorem rtable_ (part quality : Int) (w : World) :
    Calls Tryd.prog 10 #[.int .i64 part, .int .i64 quality] w fun e w' => ∃ v, e = .returned v ∧ Below w.heap.size w w' ∧ w'.ownsRow w.heap.size 3 1 v 64 (rowL (tabI part quality) 64) := by
  by_cases h : part = 0 <;> by_cases h2 : clipI 1 100 quality < 50
  · exact rtable_00 part quality _ _ w rfl rfl h h2
  · exact rtable_01 part quality _ _ w rfl rfl h h2
  · exact rtable_10 part quality _ _ w rfl rfl h h2
  · exact rtable_11 part quality _ _ w rfl rfl h h2

end Go.Proofs.YtgegmlhpdpdnfaaDoor
