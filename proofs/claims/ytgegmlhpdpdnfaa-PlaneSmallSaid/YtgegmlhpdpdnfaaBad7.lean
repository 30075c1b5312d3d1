/- What does not fit: no blocks, no image. -/
import Derived.Test.YtgegmlhpdpdnfaaSplt7
import Derived.Test.YtgegmlhpdpdnfaaSidesL
import Derived.Test.YtgegmlhpdpdnfaaLawh
namespace Go.Proofs.Ytgegmlhpdpdnfaa
open Go.RowKit
theorem run_bs_73 (f : Nat → Int) (w : World) : (Instr.buildSlice 73 1 #[(0, .agg (blk f))]).run Try.prog w = .ok (.slice (some ⟨w.heap.size, 0, none⟩) 1 1) (w.alloc (.cells (blk f) 41)) := by kernel_rfl
theorem wpList_bs_73 {ops : Array Oper} {rest : List Oper} {o : Oper} {a : Act} {w : World} {Q : Exit → Act → World → Prop} (f : Nat → Int) (x : Operand) (hg : o.guard = none) (ho : o.op = .buildSlice 73 1 #[(0, x)]) (hx : a.eval x = .agg (blk f))
    (h : wpList Try.prog ops Q rest (a.put o.dst (.slice (some ⟨w.heap.size, 0, none⟩) 1 1)) (w.alloc (.cells (blk f) 41))) : wpList Try.prog ops Q (o :: rest) a w :=
  wpList_plain hg fun _ hK => by
    unfold Oper.wp execOp
    simp only [ho, List.map_toArray, List.map_cons, List.map_nil, hx, Sem.run_bind, run_bs_73, Result.andThen_ok]
    exact hK _ _ h
theorem wpList_store_k {ops : Array Oper} {rest : List Oper} {o : Oper} {a : Act} {w : World} {Q : Exit → Act → World → Prop} {f g : Nat → Int} {n : Nat} (hg : o.guard = none) (x y : Operand) (ho : o.op = .store 42 x y) (hx : a.eval x = .pointer (some ⟨n, 0, none⟩)) (hy : a.eval y = .agg (blk g)) (hn : n = w.heap.size)
    (h : wpList Try.prog ops Q rest (a.put o.dst undef) (w.alloc (.cells (blk g) 42))) : wpList Try.prog ops Q (o :: rest) a (w.alloc (.cells (blk f) 42)) := by
  subst hn
  exact wpList_store_row hg _ x y ho w.heap.size _ hx hy _ _ (heap_alloc_new w _) (blk_info_k _) (by rw [blk_size, blk_size]) (blk_one _) (by rw [World.setRow_alloc_new]; exact h)
theorem wpList_load_k {ops : Array Oper} {rest : List Oper} {o : Oper} {a : Act} {w : World} {Q : Exit → Act → World → Prop} {f : Nat → Int} {t : TypeId} (g : Nat) (hh : w.heap[g]? = some (.cells (blk f) t (0, 0))) (hgd : o.guard = none) (x : Operand) (ho : o.op = .load 42 x) (hx : a.eval x = .pointer (some ⟨g, 0, none⟩))
    (h : wpList Try.prog ops Q rest (a.put o.dst (.agg (blk f))) w) : wpList Try.prog ops Q (o :: rest) a w :=
  wpList_load_row hgd _ x ho g hx _ _ _ _ hh Try.underlying42 rfl (blk_info_k _) h
set_option maxRecDepth 100000 in
set_option maxHeartbeats 4000000 in
theorem split_bad {x y m q i c : Int} (hg : gridOk x y m) (hn : x * y ≤ 1048576) {n : Int} (hn2 : n = if m = 1 then x * y else 3 * (x * y)) {N : Nat} (hne : (N : Int) ≠ n) (qv : Option Addr) (pc : Nat) (w : World) :
    Calls Try.prog 37 #[opsP, .agg #[.int .i64 x, .int .i64 y, .int .i64 m, .int .i64 q, .int .i64 i, .int .i64 c], .slice qv N pc] w fun e w' => e = .returned (.slice none 0 0) ∧ Below w.heap.size w w' := by
  have HR : Hid2 (∀ w, Calls Try.prog 52 #[.agg #[.int .i64 x, .int .i64 y, .int .i64 m, .int .i64 q, .int .i64 i, .int .i64 c]] w fun e w' => e = .returned (.tuple #[.int .i64 n, .bool true]) ∧ Below w.heap.size w w') := fun w => right_ok q i c w hg hn n hn2
  have e1 : ((N : Int) != n) = true := by simp; exact hne
  have e2 : ((N : Int) == n) = false := by simp; exact hne
  have hb : 0 ≤ n ∧ n ≤ 4000000 := by
    have h1 := Int.mul_nonneg (show 0 ≤ x by have := hg.2.1.1; omega) (show 0 ≤ y by have := hg.2.2.1; omega)
    rw [hn2]; split <;> omega
  clear hg hn hn2
  go_enter Try.func37, Try.ntmps37
  go_wp2_with (first
    | (go_at_call 52; refine (HR.out _).mono ?_; rintro e W1 ⟨rfl, hb1⟩; obtain ⟨hc1, hf1, hz1⟩ := bcell hb1; try simp at hz1))
  go_ret
  exact ⟨rfl, by repeat (first | exact gr0 _ | refine gr1 ?_ _ | refine gr2 ?_ (Later.below _) | refine gr2 ?_ (by assumption) | refine gr3 ?_ | refine gr4 ?_ (by first | (simp; done) | (simp; omega) | omega) _)⟩
set_option maxRecDepth 100000 in
set_option maxHeartbeats 4000000 in
theorem join_bad {x y m q i c : Int} (hg : gridOk x y m) (hn : x * y ≤ 1048576) {A B : Nat} (hA : gridA x y m = A) (hB : gridB x y m = B) (hAB : A ≤ 1000 ∧ B ≤ 1000) {T T2 : Nat} (hT : A * B = T) (hne : T2 ≠ T) (qv : Option Addr) (pc : Nat) (w : World) :
    Calls Try.prog 39 #[opsP, .agg #[.int .i64 x, .int .i64 y, .int .i64 m, .int .i64 q, .int .i64 i, .int .i64 c], .slice qv T2 pc] w fun e w' => e = .returned (.slice none 0 0) ∧ Below w.heap.size w w' := by
  obtain ⟨n, hn2⟩ : ∃ n, n = if m = 1 then x * y else 3 * (x * y) := ⟨_, rfl⟩
  have HR : Hid2 (∀ w, Calls Try.prog 52 #[.agg #[.int .i64 x, .int .i64 y, .int .i64 m, .int .i64 q, .int .i64 i, .int .i64 c]] w fun e w' => e = .returned (.tuple #[.int .i64 n, .bool true]) ∧ Below w.heap.size w w') := fun w => right_ok q i c w hg hn n hn2
  have HG : Hid2 (∀ W, Calls Try.prog 11 #[.agg #[.int .i64 x, .int .i64 y, .int .i64 m, .int .i64 q, .int .i64 i, .int .i64 c]] W fun e w' => e = .returned (.tuple #[.int .i64 A, .int .i64 B]) ∧ Below W.heap.size W w') := fun W => by have h := Grid_ x y m q i c W; rwa [hA, hB] at h
  have hTi : ∀ c : Int, c = B → (A : Int) * c = T := by rintro c rfl; rw [← hT]; simp
  have hT9 : T ≤ 1000000 := by rw [← hT]; exact Nat.mul_le_mul hAB.1 hAB.2
  have e1 : ((T2 : Int) == T) = false := by simp; omega
  have e2 : (T2 == T) = false := by simp; omega
  have e3 : ((T2 : Int) != T) = true := by simp; omega
  have hb : 0 ≤ n ∧ n ≤ 4000000 := by
    have h1 := Int.mul_nonneg (show 0 ≤ x by have := hg.2.1.1; omega) (show 0 ≤ y by have := hg.2.2.1; omega)
    rw [hn2]; split <;> omega
  clear hg hn hn2 hA hB hT hne
  go_enter Try.func39, Try.ntmps39
  go_wp2_with (first
    | (go_at_call 52; refine (HR.out _).mono ?_; rintro e W1 ⟨rfl, hb1⟩; obtain ⟨hc1, hf1, hz1⟩ := bcell hb1; try simp at hz1)
    | (go_at_call 11; refine (HG.out _).mono ?_; rintro e W2 ⟨rfl, hb2⟩; obtain ⟨hc2, hf2, hz2⟩ := bcell hb2; try simp at hz2))
  have hz6 : w.heap.size + 1 + 1 < W1.heap.size := by have := hb1.size; simp at this; omega
  have z0 : W2.cell? ⟨w.heap.size + 1 + 1, 0, none⟩ = some (.slice none 0 0) := (hb2.cell (p := ⟨w.heap.size + 1 + 1, 0, none⟩) hz6).trans ((hb1.cell (p := ⟨w.heap.size + 1 + 1, 0, none⟩) (by simp)).trans (cells_at (heap_alloc_at (by simp)) 0))
  refine bodyPost_ret (v := .slice none 0 0) (by simp [results, Try.results39, go_sem, z0] <;> rfl) rfl ⟨rfl, ?_⟩
  repeat (first | exact gr0 _ | refine gr1 ?_ _ | refine gr2 ?_ (Later.below _) | refine gr2 ?_ (by assumption) | refine gr3 ?_ | refine gr4 ?_ (by first | (simp; done) | (simp; omega) | omega) _)
set_option maxRecDepth 100000 in
set_option maxHeartbeats 4000000 in
theorem Split_bad1 {x y m q i c x2 y2 : Int} {rgb : Bool} {pv : Value} (hv : pv.oneCell' = true) (h : (x2 ≠ x ∨ y2 ≠ y) ∨ rgb ≠ !decide (m = 1)) (hs : ∃ a b c, pv = .slice a b c) (w : World) :
    Calls Try.prog 17 #[.agg #[.int .i64 x, .int .i64 y, .int .i64 m, .int .i64 q, .int .i64 i, .int .i64 c], .agg #[.int .i64 x2, .int .i64 y2, .bool rgb, pv]] w fun e w' => e = .returned (.slice none 0 0) ∧ Below w.heap.size w w' := by
  obtain ⟨pa, pn, pc, rfl⟩ := hs
  by_cases h1 : x2 = x
  · have e1 : (x2 != x) = false := by simp [h1]
    have e1' : (x2 == x) = true := by simp [h1]
    by_cases h2 : y2 = y
    · have e2 : (y2 != y) = false := by simp [h2]
      have e2' : (y2 == y) = true := by simp [h2]
      have h3 : rgb ≠ !decide (m = 1) := by rcases h with h | h; · omega
                                            · exact h
      have e3 : (rgb == (m != 1)) = false := by
        cases rgb <;> by_cases hm : m = 1 <;> simp [hm] at h3 ⊢
      clear h h1 h2 h3 hv
      go_enter Try.func17, Try.ntmps17
      go_wp2
      go_ret
      exact ⟨rfl, by repeat (first | exact gr0 _ | refine gr1 ?_ _ | refine gr2 ?_ (Later.below _) | refine gr2 ?_ (by assumption) | refine gr3 ?_ | refine gr4 ?_ (by first | (simp; done) | (simp; omega) | omega) _)⟩
    · have e2 : (y2 != y) = true := by simp [h2]
      have e2' : (y2 == y) = false := by simp [h2]
      clear h h1 h2 hv
      go_enter Try.func17, Try.ntmps17
      go_wp2
      go_ret
      exact ⟨rfl, by repeat (first | exact gr0 _ | refine gr1 ?_ _ | refine gr2 ?_ (Later.below _) | refine gr2 ?_ (by assumption) | refine gr3 ?_ | refine gr4 ?_ (by first | (simp; done) | (simp; omega) | omega) _)⟩
  · have e1 : (x2 != x) = true := by simp [h1]
    have e1' : (x2 == x) = false := by simp [h1]
    clear h h1 hv
    go_enter Try.func17, Try.ntmps17
    go_wp2
    go_ret
    exact ⟨rfl, by repeat (first | exact gr0 _ | refine gr1 ?_ _ | refine gr2 ?_ (Later.below _) | refine gr2 ?_ (by assumption) | refine gr3 ?_ | refine gr4 ?_ (by first | (simp; done) | (simp; omega) | omega) _)⟩
set_option maxRecDepth 100000 in
set_option maxHeartbeats 4000000 in
theorem Split_bad2 {x y m q i c : Int} (hg : gridOk x y m) (hn : x * y ≤ 300000) {n : Int} (hn2 : n = if m = 1 then x * y else 3 * (x * y)) {N : Nat} (hne : (N : Int) ≠ n) (hN2 : N ≤ 900000) {rgb : Bool} (hr : rgb = !decide (m = 1)) {pg po pc : Nat} {L : Nat → Int} (w : World) (hpg : pg < w.heap.size) (hp : ∀ k, k < N → w.cell? ⟨pg, po + k, none⟩ = some (.int .u8 (L k))) (hL : ∀ k, 0 ≤ L k ∧ L k ≤ 255) :
    Calls Try.prog 17 #[.agg #[.int .i64 x, .int .i64 y, .int .i64 m, .int .i64 q, .int .i64 i, .int .i64 c], .agg #[.int .i64 x, .int .i64 y, .bool rgb, .slice (some ⟨pg, po, none⟩) N pc]] w fun e w' => e = .returned (.slice none 0 0) ∧ Below w.heap.size w w' := by
  have HS : Hid2 (∀ (W : World) (qv : Option Addr) (c9 : Nat), Calls Try.prog 37 #[opsP, .agg #[.int .i64 x, .int .i64 y, .int .i64 m, .int .i64 q, .int .i64 i, .int .i64 c], .slice qv N c9] W fun e w' => e = .returned (.slice none 0 0) ∧ Below W.heap.size W w') := fun W qv c9 => split_bad hg (by omega) hn2 hne qv c9 W
  have HLB := hid2 hL
  have HPX := hid2 hp
  clear hL hn hg hp hn2 hne
  have e1 : (x != x) = false := by simp
  have e2 : (y != y) = false := by simp
  have e4 : (rgb == (m != 1)) = true := by rw [hr]; by_cases h : m = 1 <;> simp [h]
  clear hr
  go_enter Try.func17, Try.ntmps17
  go_wp2
  refine wp_abs7 (fun W => Below w.heap.size w W ∧ W.heap[w.heap.size]? = some (.cells #[.int .i64 x, .int .i64 y, .int .i64 m, .int .i64 q, .int .i64 i, .int .i64 c] 23 (0, 0))) ?_ ?_
  · refine ⟨?_, ?_⟩
    · repeat (first | exact gr0 _ | refine gr1 ?_ _ | refine gr2 ?_ (Later.below _) | refine gr2 ?_ (by assumption) | refine gr3 ?_ | refine gr4 ?_ (by first | (simp; done) | (simp; omega) | omega) _)
    · exact bh7 (gr1 (gr0 _) _) (heap_alloc_new _ _)
  rintro W ⟨HB, h2⟩
  have HB0 := hid2 (And.intro HB h2)
  clear HB h2
  go_loopg [5, 37] N (fun gj s ix wr => ∃ jj : Nat, jj + gj = N ∧ ix = .int .i64 jj ∧ Below w.heap.size w wr ∧ wr.heap[w.heap.size]? = some (.cells #[.int .i64 x, .int .i64 y, .int .i64 m, .int .i64 q, .int .i64 i, .int .i64 c] 23 (0, 0)) ∧ wr.ownsRow w.heap.size 3 1 s jj (rowB L jj))
  case atStart => exact ⟨0, by omega, rfl, HB0.out.1, HB0.out.2, World.ownsRow_nil _ _ _ _⟩
  case round =>
    obtain ⟨jj, hjj, rfl, HB, h2, hown⟩ := hrel
    by_cases hlt : jj < N
    · have t1 : decide ((jj : Int) < N) = true := by simp; omega
      have hi9 : (0 : Int) ≤ jj ∧ (jj : Int) < N := by omega
      have z1 := HB.size
      have k1 : wr.cell? ⟨pg, po + jj, none⟩ = some (.int .u8 (L jj)) := (HB.cell (p := ⟨pg, po + jj, none⟩) hpg).trans (HPX.out jj hlt)
      have kb := HLB.out jj
      have p0 : pg < wr.heap.size := Nat.lt_of_lt_of_le hpg HB.size
      have HX := hid2 (And.intro HB h2)
      clear HB h2
      go_wp2_with (first | (at_builtin; refine wpList_pushV w.heap.size (.tmp 41) (.tmp 44) 64 3 rfl rfl Try.underlying64 infos_int (by decide) rfl (own_alloc hown) rfl (new_cell (by simp)) rfl (by omega) (by simp; omega) ?_; intro v5 w5 hown5 hs5 ho5))
      go_roundg (N - (jj + 1))
      case measure => omega
      case rel =>
        obtain ⟨HB, h2⟩ := HX.out
        refine ⟨jj + 1, by omega, by go_num, (gr1 HB _).trans (hs5.below (by simp; omega)), hs5.other (bh7 (gr1 (gr0 _) _) h2) (by decide), ?_⟩
        rw [rowB_succ]; exact hown5
    · obtain rfl : jj = N := by omega
      have t1 : decide ((jj : Int) < jj) = false := by simp
      obtain ⟨gx, cx, rfl⟩ : ∃ gx cx, u5 = .slice gx jj cx := by
        rcases hown.2 with ⟨h1, h3⟩ | ⟨g, cc, _, h1, _⟩
        · exact ⟨none, 0, by rw [h1, h3]⟩
        · exact ⟨_, _, h1⟩
      have HX := hid2 (And.intro HB h2)
      have p3 := heap_lt h2
      clear HB h2 hown
      go_wp2
      refine wp_region_noPanic ?_
      refine wp_region_sched 6 [(1, true), (2, true), (5, true), (0, false), (3, false), (4, false)] (fun w' => w'.heap[w.heap.size]? = some (.cells #[.int .i64 x, .int .i64 y, .int .i64 m, .int .i64 q, .int .i64 i, .int .i64 c] 23 (0, 0))) (by kernel_rfl) (by kernel_rfl) HX.out.2 (fun _ _ _ _ _ h => h) ?_
      refine sched_still (by rfl) (by rfl) (by
        intro w' hC
        have k0 := cells_at hC 0; have k1 := cells_at hC 1; have k2 := cells_at hC 2; have k3 := cells_at hC 3; have k4 := cells_at hC 4; have k5 := cells_at hC 5; simp at k0 k1 k2 k3 k4 k5
        go_simp; all_goals with_reducible rfl) ?_
      simp only [Act.put, List.setIfInBounds_toArray, List.getElem_toArray, List.getElem_cons_succ, List.getElem_cons_zero, List.set_cons_succ, List.set_cons_zero]
      repeat (refine sched_still (by rfl) (by rfl) (by (intro w' hC; go_simp; all_goals with_reducible rfl)) ?_; simp only [Act.put, List.setIfInBounds_toArray, List.getElem_toArray, List.getElem_cons_succ, List.getElem_cons_zero, List.set_cons_succ, List.set_cons_zero])
      refine sched_go (by rfl) fun K hK => ?_
      go_simp
      go_at_call 38
      refine (pl_ops _).mono ?_
      rintro e W5 ⟨rfl, hb5⟩
      refine hK.out _ _ (fun _ => bh7 hb5 HX.out.2) ?_
      refine sched_go (by rfl) fun K hK => ?_
      go_simp
      refine (HS.out W5 gx cx).mono ?_
      rintro e W6 ⟨rfl, hb6⟩
      refine hK.out _ _ (fun _ => bh7 hb6 (bh7 hb5 HX.out.2)) ?_
      refine sched_go (by rfl) fun K hK => ?_
      go_simp
      refine hK.out _ _ (fun _ => bh7 hb6 (bh7 hb5 HX.out.2)) (sched_nil (NoPanic.normal ?_))
      have HB6 := hid2 (gr2 (gr2 (gr3 HX.out.1) hb5) hb6)
      clear hb5 hb6 HX hK K p3 HPX
      go_wp2
      refine wp_loop_rounds 1 ?_
      rw [rounds_succ]
      go_wp2
      go_ret
      exact ⟨rfl, HB6.out⟩
set_option maxRecDepth 100000 in
set_option maxHeartbeats 4000000 in
theorem Join_bad0 {x y m q i c : Int} (hg : gridOk x y m) (hn : x * y ≤ 1048576) {A B : Nat} (hA : gridA x y m = A) (hB : gridB x y m = B) (hAB : A ≤ 1000 ∧ B ≤ 1000) {T : Nat} (hT : A * B = T) (hne : 0 ≠ T) (qv : Option Addr) (pc : Nat) (w : World) :
    Calls Try.prog 19 #[.agg #[.int .i64 x, .int .i64 y, .int .i64 m, .int .i64 q, .int .i64 i, .int .i64 c], .slice qv 0 pc] w fun e w' => e = .returned (.agg #[.int .i64 0, .int .i64 0, .bool false, .slice none 0 0]) ∧ Below w.heap.size w w' := by
  have HJ : Hid2 (∀ (W : World) (qv : Option Addr) (c9 : Nat), Calls Try.prog 39 #[opsP, .agg #[.int .i64 x, .int .i64 y, .int .i64 m, .int .i64 q, .int .i64 i, .int .i64 c], .slice qv 0 c9] W fun e w' => e = .returned (.slice none 0 0) ∧ Below W.heap.size W w') := fun W qv c9 => by
    have h := join_bad (q := q) (i := i) (c := c) hg hn hA hB hAB hT hne qv c9 W
    exact h
  clear hg hn hA hB hT hne hAB
  go_enter Try.func19, Try.ntmps19
  go_wp2
  refine wp_loop_rounds 1 ?_
  rw [rounds_succ]
  go_wp2
  refine wp_abs7 (fun W => Below w.heap.size w W ∧ W.heap[w.heap.size]? = some (.cells #[.int .i64 x, .int .i64 y, .int .i64 m, .int .i64 q, .int .i64 i, .int .i64 c] 23 (0, 0)) ∧ W.heap[w.heap.size + 1]? = some (.cells #[.int .i64 0, .int .i64 0, .bool false, .slice none 0 0] 32 (0, 0))) ?_ ?_
  · refine ⟨?_, ?_, ?_⟩
    · repeat (first | exact gr0 _ | refine gr1 ?_ _ | refine gr2 ?_ (Later.below _) | refine gr2 ?_ (by assumption) | refine gr3 ?_ | refine gr4 ?_ (by first | (simp; done) | (simp; omega) | omega) _)
    · exact bh7 (gr1 (gr0 _) _) (heap_alloc_new _ _)
    · exact heap_alloc_at (by simp)
  rintro wr HX0
  have HX := hid2 HX0
  clear HX0
  go_wp2
  refine wp_region_noPanic ?_
  refine wp_region_sched 5 [(1, true), (2, true), (0, false), (3, false), (4, false)] (fun w' => w'.heap[w.heap.size]? = some (.cells #[.int .i64 x, .int .i64 y, .int .i64 m, .int .i64 q, .int .i64 i, .int .i64 c] 23 (0, 0)) ∧ w'.heap[w.heap.size + 1]? = some (.cells #[.int .i64 0, .int .i64 0, .bool false, .slice none 0 0] 32 (0, 0))) (by kernel_rfl) (by kernel_rfl) HX.out.2 (fun _ _ _ _ _ h => h) ?_
  refine sched_still (by rfl) (by rfl) (by
    intro w' hC0
    have hC := hC0.1
    have k0 := cells_at hC 0; have k1 := cells_at hC 1; have k2 := cells_at hC 2; have k3 := cells_at hC 3; have k4 := cells_at hC 4; have k5 := cells_at hC 5; simp at k0 k1 k2 k3 k4 k5
    go_simp; all_goals with_reducible rfl) ?_
  simp only [Act.put, List.setIfInBounds_toArray, List.getElem_toArray, List.getElem_cons_succ, List.getElem_cons_zero, List.set_cons_succ, List.set_cons_zero]
  repeat (refine sched_still (by rfl) (by rfl) (by (intro w' hC; go_simp; all_goals with_reducible rfl)) ?_; simp only [Act.put, List.setIfInBounds_toArray, List.getElem_toArray, List.getElem_cons_succ, List.getElem_cons_zero, List.set_cons_succ, List.set_cons_zero])
  refine sched_go (by rfl) fun K hK => ?_
  go_simp
  go_at_call 38
  refine (pl_ops _).mono ?_
  rintro e W5 ⟨rfl, hb5⟩
  refine hK.out _ _ (fun _ => ⟨bh7 hb5 HX.out.2.1, bh7 hb5 HX.out.2.2⟩) ?_
  refine sched_go (by rfl) fun K hK => ?_
  go_simp
  refine (HJ.out W5 _ _).mono ?_
  rintro e W6 ⟨rfl, hb6⟩
  have hI6 := bh7 hb6 (bh7 hb5 HX.out.2.2)
  refine hK.out _ _ (fun _ => ⟨bh7 hb6 (bh7 hb5 HX.out.2.1), hI6⟩) ?_
  refine sched_go (by rfl) fun K hK => ?_
  go_simp
  refine hK.out _ _ (fun _ => ⟨bh7 hb6 (bh7 hb5 HX.out.2.1), hI6⟩) (sched_nil (NoPanic.normal ?_))
  have HB6 := hid2 (gr2 (gr2 (gr3 HX.out.1) hb5) hb6)
  have z0 := cells_at hI6 0
  have z1 := cells_at hI6 1
  have z2 := cells_at hI6 2
  have z3 := cells_at hI6 3
  have zf := row_free hI6
  have zl := heap_lt hI6
  simp at z0 z1 z2 z3
  clear hb5 hb6 HX hK K hI6
  have qn : ∀ w, (binOp .eql 64 (.slice none 0 0) (.slice none 0 0)).run Try.prog w = .ok (.bool true) w := fun _ => by kernel_rfl
  go_wp2
  refine bodyPost_ret (v := .agg #[.int .i64 0, .int .i64 0, .bool false, .slice none 0 0]) (by simp [results, Try.results19, go_sem, z0, z1, z2, z3] <;> rfl) rfl ⟨rfl, ?_⟩
  exact gr4 (gr4 (gr4 (gr4 HB6.out (by simp) _) (by simp) _) (by simp) _) (by simp) _
set_option maxRecDepth 100000 in
set_option maxHeartbeats 4000000 in
theorem Join_badR {x y m q i c : Int} (hg : gridOk x y m) (hn : x * y ≤ 1048576) {A B : Nat} (hA : gridA x y m = A) (hB : gridB x y m = B) (hAB : A ≤ 1000 ∧ B ≤ 1000) {T : Nat} (hT : A * B = T) {M : List (List (Nat → Int))} {T2 : Nat} (hl : M.length = T2) (hne : T2 ≠ T) (hT2 : T2 ≤ 1000000) (h6 : ∀ b ∈ M, b.length ≤ 1000) {g o pc : Nat} (w : World) (hR : RM w (.slice (some ⟨g, o, none⟩) T2 pc) M) :
    Calls Try.prog 19 #[.agg #[.int .i64 x, .int .i64 y, .int .i64 m, .int .i64 q, .int .i64 i, .int .i64 c], .slice (some ⟨g, o, none⟩) T2 pc] w fun e w' => e = .returned (.agg #[.int .i64 0, .int .i64 0, .bool false, .slice none 0 0]) ∧ Below w.heap.size w w' := by
  have HJ : Hid2 (∀ (W : World) (qv : Option Addr) (c9 : Nat), Calls Try.prog 39 #[opsP, .agg #[.int .i64 x, .int .i64 y, .int .i64 m, .int .i64 q, .int .i64 i, .int .i64 c], .slice qv T2 c9] W fun e w' => e = .returned (.slice none 0 0) ∧ Below W.heap.size W w') := fun W qv c9 => join_bad (q := q) (i := i) (c := c) hg hn hA hB hAB hT hne qv c9 W
  have HML := hid2 hl
  have hM6 := hid2 h6
  have HR0 := hid2 hR
  clear hg hn hA hB hT hne hAB hl h6 hR
  go_enter Try.func19, Try.ntmps19
  go_wp2
  refine wp_abs7 (fun W => Below w.heap.size w W ∧ W.heap[w.heap.size]? = some (.cells #[.int .i64 x, .int .i64 y, .int .i64 m, .int .i64 q, .int .i64 i, .int .i64 c] 23 (0, 0)) ∧ W.heap[w.heap.size + 1]? = some (.cells #[.int .i64 0, .int .i64 0, .bool false, .slice none 0 0] 32 (0, 0))) ?_ ?_
  · refine ⟨?_, ?_, ?_⟩
    · repeat (first | exact gr0 _ | refine gr1 ?_ _ | refine gr2 ?_ (Later.below _) | refine gr2 ?_ (by assumption) | refine gr3 ?_ | refine gr4 ?_ (by first | (simp; done) | (simp; omega) | omega) _)
    · exact bh7 (gr1 (gr0 _) _) (heap_alloc_new _ _)
    · exact heap_alloc_at (by simp)
  rintro W6 HX0
  have HXX := hid2 HX0
  have HRM := hid2 (HR0.out.below HX0.1)
  clear HX0
  go_loopg [5, 17] T2 (fun gj s ix wr => ∃ j2 : Nat, j2 + gj = T2 ∧ ix = .int .i64 j2 ∧ Below W6.heap.size W6 wr ∧ MRow wr W6.heap.size 73 41 s (M.take j2))
  case atStart => exact ⟨0, by omega, rfl, gr0 _, MRow.nil _ _ _ _⟩
  case round =>
    obtain ⟨j2, hj2, rfl, HB2, HM2⟩ := hrel
    by_cases hlt : j2 < T2
    · have t1 : decide ((j2 : Int) < T2) = true := by simp; omega
      have hi9 : (0 : Int) ≤ j2 ∧ (j2 : Int) < T2 := by omega
      obtain ⟨bs, hbs⟩ : ∃ bs, M[j2]? = some bs := ⟨_, List.getElem?_eq_getElem (by rw [HML.out]; omega)⟩
      obtain ⟨g5, o5, c5, h5, hgv, hrv⟩ := HRM.out.below HB2
      rw [HML.out] at h5
      cases h5
      obtain ⟨u5, k1, gu, cu, rfl, hgu, hcu⟩ := hrv j2 bs hbs
      have hbs6 := hM6.out bs (List.mem_of_getElem? hbs)
      obtain ⟨nb, hnb⟩ : ∃ nb, bs.length = nb := ⟨_, rfl⟩
      rw [hnb] at k1 hbs6
      have HM3 := hid2 HM2
      have HB3 := hid2 HB2
      clear HM2 HB2 hrv
      go_wp2
      have HNB := hid2 hnb
      obtain ⟨wo, rfl⟩ : ∃ wo, wo = wr := ⟨_, rfl⟩
      go_loopg [8, 23] nb (fun gk s ix wr => ∃ kk : Nat, kk + gk = nb ∧ ix = .int .i64 kk ∧ Below wo.heap.size wo wr ∧ BRow wr wo.heap.size 41 s (bs.take kk))
      case atStart => exact ⟨0, by omega, rfl, gr0 _, BRow.nil _ _ _⟩
      case round =>
        obtain ⟨kk, hkk, rfl, HB4, HR4⟩ := hrel
        by_cases hlt2 : kk < nb
        · have t2 : decide ((kk : Int) < nb) = true := by simp; omega
          have hk9 : (0 : Int) ≤ kk ∧ (kk : Int) < nb := by omega
          obtain ⟨f, hf⟩ : ∃ f, bs[kk]? = some f := ⟨_, List.getElem?_eq_getElem (by rw [HNB.out]; omega)⟩
          have hcl : ∀ j, j < 64 → wr.cell? ⟨gu, kk * 64 + j, none⟩ = some (.int .i64 (f j)) := fun j hj => (HB4.cell (p := ⟨gu, kk * 64 + j, none⟩) hgu).trans (hcu kk f hf j hj)
          have hgk : gu < wr.heap.size := Nat.lt_of_lt_of_le hgu HB4.size
          have HB5 := hid2 HB4
          have HF := hid2 hf
          clear HB4 hcu hf hnb
          go_wp2_with (first
            | (refine wpList_load_bt (f := f) gu (kk * 64) hcl rfl (.tmp 25) rfl rfl ?_)
            | (refine wpList_alloc_k rfl rfl ?_)
            | (refine wpList_store_k (g := f) rfl (.tmp 10) (.tmp 26) rfl rfl rfl rfl ?_)
            | (refine wpList_load_k (f := f) wr.heap.size (heap_alloc_new _ _) rfl (.tmp 10) rfl rfl ?_)
            | (refine wpList_bs_73 f (.tmp 28) rfl rfl rfl ?_)
            | (at_builtin; refine wpList_push wo.heap.size (.tmp 27) (.tmp 29) 73 41 rfl rfl Try.underlying73 infos_41 rfl (HR4.below (gr1 (gr1 (gr0 _) _) _)) rfl (heap_alloc_new _ _) (by simp; omega) (by have := HB5.out.size; simp; omega) ?_; intro v7 w7 hown7 hs7 ho7))
          go_roundg (nb - (kk + 1))
          case measure => omega
          case rel =>
            refine ⟨kk + 1, by omega, by go_num, (gr1 (gr1 HB5.out _) _).trans (hs7.below (by have := HB5.out.size; simp; omega)), ?_⟩
            rw [List.take_add_one, HF.out]
            exact hown7
        · obtain rfl : kk = nb := by omega
          have t2 : decide ((kk : Int) < kk) = false := by simp
          rw [List.take_of_length_le (by rw [HNB.out]; omega)] at HR4
          obtain ⟨gl, cl, hsl⟩ : ∃ gl cl, u8 = .slice gl kk cl := by
            have h0 := HR4
            unfold BRow at h0
            rw [HNB.out] at h0
            rcases h0.2 with ⟨h1, h3⟩ | ⟨g, cc, _, h1, _⟩
            · exact ⟨none, 0, by rw [h1, h3]⟩
            · exact ⟨_, _, h1⟩
          subst hsl
          have HR5 := hid2 HR4
          have HB5 := hid2 HB4
          clear HR4 HB4 hnb hcu
          go_wp2_with (first
            | (at_builtin; refine wpList_pushM W6.heap.size (.tmp 32) (.tmp 34) 65 73 41 rfl rfl Try.underlying65 infos_73 (by decide) rfl ((HM3.out.below HB5.out).below (gr1 (gr0 _) _)) ((HR5.out.lower (HB3.out.size)).below (gr1 (gr0 _) _)) rfl rfl (new_cell (by simp)) (by simp; omega) (by have := HB5.out.size; have := HB3.out.size; simp; omega) ?_; intro v8 w8 hown8 hs8))
          go_roundg (T2 - (j2 + 1))
          case measure => omega
          case rel =>
            refine ⟨j2 + 1, by omega, by go_num, (HB3.out.trans ((gr1 HB5.out _).mono HB3.out.size)).trans (hs8.below (by have := HB5.out.size; have := HB3.out.size; simp; omega)), ?_⟩
            rw [List.take_add_one, hbs]
            exact hown8
    · obtain rfl : j2 = T2 := by omega
      have t1 : decide ((j2 : Int) < j2) = false := by simp
      rw [List.take_of_length_le (by rw [HML.out]; omega)] at HM2
      obtain ⟨gx, cx, hsx⟩ : ∃ gx cx, u5 = .slice gx j2 cx := by
        obtain ⟨vs, h0, _⟩ := HM2
        rw [HML.out] at h0
        rcases h0.2 with ⟨h1, h3⟩ | ⟨g, cc, _, h1, _⟩
        · exact ⟨none, 0, by rw [h1, h3]⟩
        · exact ⟨_, _, h1⟩
      subst hsx
      have HX := hid2 (And.intro (HXX.out.1.trans (HB2.mono HXX.out.1.size)) (And.intro (bh7 HB2 HXX.out.2.1) (bh7 HB2 HXX.out.2.2)))
      clear HM2 HB2
      go_wp2
      refine wp_region_noPanic ?_
      refine wp_region_sched 5 [(1, true), (2, true), (0, false), (3, false), (4, false)] (fun w' => w'.heap[w.heap.size]? = some (.cells #[.int .i64 x, .int .i64 y, .int .i64 m, .int .i64 q, .int .i64 i, .int .i64 c] 23 (0, 0)) ∧ w'.heap[w.heap.size + 1]? = some (.cells #[.int .i64 0, .int .i64 0, .bool false, .slice none 0 0] 32 (0, 0))) (by kernel_rfl) (by kernel_rfl) HX.out.2 (fun _ _ _ _ _ h => h) ?_
      refine sched_still (by rfl) (by rfl) (by
        intro w' hC0
        have hC := hC0.1
        have k0 := cells_at hC 0; have k1 := cells_at hC 1; have k2 := cells_at hC 2; have k3 := cells_at hC 3; have k4 := cells_at hC 4; have k5 := cells_at hC 5; simp at k0 k1 k2 k3 k4 k5
        go_simp; all_goals with_reducible rfl) ?_
      simp only [Act.put, List.setIfInBounds_toArray, List.getElem_toArray, List.getElem_cons_succ, List.getElem_cons_zero, List.set_cons_succ, List.set_cons_zero]
      repeat (refine sched_still (by rfl) (by rfl) (by (intro w' hC; go_simp; all_goals with_reducible rfl)) ?_; simp only [Act.put, List.setIfInBounds_toArray, List.getElem_toArray, List.getElem_cons_succ, List.getElem_cons_zero, List.set_cons_succ, List.set_cons_zero])
      refine sched_go (by rfl) fun K hK => ?_
      go_simp
      go_at_call 38
      refine (pl_ops _).mono ?_
      rintro e W5 ⟨rfl, hb5⟩
      refine hK.out _ _ (fun _ => ⟨bh7 hb5 HX.out.2.1, bh7 hb5 HX.out.2.2⟩) ?_
      refine sched_go (by rfl) fun K hK => ?_
      go_simp
      refine (HJ.out W5 _ _).mono ?_
      rintro e W6 ⟨rfl, hb6⟩
      have hI6 := bh7 hb6 (bh7 hb5 HX.out.2.2)
      refine hK.out _ _ (fun _ => ⟨bh7 hb6 (bh7 hb5 HX.out.2.1), hI6⟩) ?_
      refine sched_go (by rfl) fun K hK => ?_
      go_simp
      refine hK.out _ _ (fun _ => ⟨bh7 hb6 (bh7 hb5 HX.out.2.1), hI6⟩) (sched_nil (NoPanic.normal ?_))
      have HB6 := hid2 (gr2 (gr2 (gr3 HX.out.1) hb5) hb6)
      have z0 := cells_at hI6 0
      have z1 := cells_at hI6 1
      have z2 := cells_at hI6 2
      have z3 := cells_at hI6 3
      have zf := row_free hI6
      have zl := heap_lt hI6
      simp at z0 z1 z2 z3
      clear hb5 hb6 HX hK K hI6
      have qn : ∀ w, (binOp .eql 64 (.slice none 0 0) (.slice none 0 0)).run Try.prog w = .ok (.bool true) w := fun _ => by kernel_rfl
      go_wp2
      refine bodyPost_ret (v := .agg #[.int .i64 0, .int .i64 0, .bool false, .slice none 0 0]) (by simp [results, Try.results19, go_sem, z0, z1, z2, z3] <;> rfl) rfl ⟨rfl, ?_⟩
      exact gr4 (gr4 (gr4 (gr4 HB6.out (by simp) _) (by simp) _) (by simp) _) (by simp) _
end Go.Proofs.Ytgegmlhpdpdnfaa
