/- How many of a kind; all events. -/
import Derived.Test.YtbdnnkokkgdhnaaTraceE
namespace Go.Proofs.Ytbdnnkokkgdhnaa
open Go.RowKit Go.Shelf
attribute [local go_sem] Oper.semAt_some

theorem cel_al {W : World} {b i : Nat} {v : Value} {o : Obj} (h : W.cell? ⟨b, i, none⟩ = some v ∧ W.frozen? ⟨b, i, none⟩ = false) : (W.alloc o).cell? ⟨b, i, none⟩ = some v ∧ (W.alloc o).frozen? ⟨b, i, none⟩ = false := by
  have hb := World.block_lt_of_cell? W _ h.1
  have hB := gr1 (gr0 W) o
  exact ⟨(hB.cell (p := ⟨b, i, none⟩) hb).trans h.1, (hB.frozen (p := ⟨b, i, none⟩) hb).trans h.2⟩
theorem cel_set {W : World} {b i b' i' : Nat} {v u : Value} (h : W.cell? ⟨b, i, none⟩ = some v ∧ W.frozen? ⟨b, i, none⟩ = false) (hn : b ≠ b') : (W.setCell ⟨b', i', none⟩ u).cell? ⟨b, i, none⟩ = some v ∧ (W.setCell ⟨b', i', none⟩ u).frozen? ⟨b, i, none⟩ = false := by
  have hh := heap_setCell_other W ⟨b', i', none⟩ b u hn
  exact ⟨(World.cell?_of_block (a := ⟨b, i, none⟩) hh).trans h.1, (World.frozen?_of_block (a := ⟨b, i, none⟩) hh).trans h.2⟩
theorem cel_same {W : World} {b i : Nat} {v u : Value} (h : W.cell? ⟨b, i, none⟩ = some v ∧ W.frozen? ⟨b, i, none⟩ = false) : (W.setCell ⟨b, i, none⟩ u).cell? ⟨b, i, none⟩ = some u ∧ (W.setCell ⟨b, i, none⟩ u).frozen? ⟨b, i, none⟩ = false :=
  ⟨World.cell?_setCell_same' _ _ _ (by rw [h.1]; rfl), by rw [World.frozen?_setCell]; exact h.2⟩
/-- A cell of the call's own, that may be written. -/
def Cel (W : World) (b i : Nat) (v : Value) : Prop := W.cell? ⟨b, i, none⟩ = some v ∧ W.frozen? ⟨b, i, none⟩ = false
theorem Cel.kept {W W' : World} {b i : Nat} {v : Value} {row : Option Nat} (h : Cel W b i v) (hg : W.grownBy W' row) (hr : ∀ r, row = some r → ∃ o : Obj, W.heap[r]? = some o ∧ o.isCells = false) : Cel W' b i v :=
  ⟨cell_kept h.1 hg hr, (frozen_kept h.1 hg hr).trans h.2⟩

set_option maxRecDepth 100000 in
set_option maxHeartbeats 4000000 in
theorem count_ {w : World} {p : Option Addr} {S : St} (hR : Rn w p S) (hS : S.length ≤ 1000000) (hE : (evs S).length ≤ 100000000) (k : Int) :
    Calls Try.prog 42 #[.pointer p, .int .i64 k] w fun e w' => e = .returned (.int .i64 (cnt (evs S) k : Nat)) ∧ Below w.heap.size w w' := by
  refine (callsIn_wide (n := 9)).1 ?_
  refine callsIn_of_wp_marks Try.func42 rfl trivial ?_ rfl
  simp only [Try.ntmps42, List.size_toArray, List.length_cons, List.length_nil, Nat.reduceAdd, Nat.reduceSub, Array.replicate_succ, Array.replicate_zero, List.push_toArray, List.append_toArray, List.nil_append, List.cons_append]
  gi_wp2
  have hB0 : Below w.heap.size w ((w.alloc (.cells #[.int .i64 k] 3)).alloc (.cells #[.int .i64 0] 3)) := ((Below.refl _ w).alloc (Nat.le_refl _) _).alloc (by simp) _
  refine range_all rfl (by omega) (gf := 52) (bd := #[.pointer p]) (lb := #[]) rfl trivial (enters_of Try.func52 (by kernel_rfl) rfl) (each_of hR hB0 hS _ (by omega)) belowK_t (belowK_b (by simp; omega)) (Below.refl _ _) (fun _ => rfl)
    (fun pre W => Cel W w.heap.size 0 (.int .i64 k) ∧ Cel W (w.heap.size + 1) 0 (.int .i64 (cnt pre k : Nat)) ∧ Below w.heap.size w W)
    (fun pre x a' W => ∃ Bx, Bx ≠ w.heap.size + 1 ∧ a' = { tmps := #[.pointer p, .int .i64 k, undef, .pointer (some ⟨w.heap.size, 0, none⟩), .int .i64 0, .pointer (some ⟨w.heap.size + 1, 0, none⟩), .pointer (some ⟨Bx, 0, none⟩), .pointer p, .func (.func 52) #[.pointer p] #[], .agg #[.int .i64 x.1, .int .i64 x.2], undef, undef, undef, undef, undef, undef, undef], defers := [] } ∧ Cel W Bx 0 (.int .i64 x.1) ∧ Cel W w.heap.size 0 (.int .i64 k) ∧ Cel W (w.heap.size + 1) 0 (.int .i64 (cnt pre k : Nat)) ∧ Below w.heap.size w W)
    ?own ?ownA ?h0 ?assign ?body ?done
  case own => exact fun s A B row ⟨h1, h2, h3⟩ hg hr => ⟨h1.kept hg fun r e => (hr r e).2, h2.kept hg fun r e => (hr r e).2, ownFrom_below (β := Unit) (Nat.le_refl _) (by simp; omega) () A B row h3 hg hr⟩
  case ownA => exact fun pre x s A B row ⟨Bx, h0, h1, h2, h3, h4, h5⟩ hg hr => ⟨Bx, h0, h1, h2.kept hg fun r e => (hr r e).2, h3.kept hg fun r e => (hr r e).2, h4.kept hg fun r e => (hr r e).2, ownFrom_below (β := Unit) (Nat.le_refl _) (by simp; omega) () A B row h5 hg hr⟩
  case h0 => exact ⟨⟨by simp [alloc_cell_if], by simp [alloc_frozen_if]⟩, ⟨by simp [alloc_cell_if, cnt], by simp [alloc_frozen_if]⟩, hB0⟩
  case assign =>
    rintro l pre ⟨x1, x2⟩ W ⟨hk, hc, hb⟩ hpre
    simp only [enE]
    have hz := hb.size
    have z1 := World.block_lt_of_cell? W _ hc.1
    gi_wp2
    refine ⟨KeepsOthers.alloc _ _, (Below.refl _ W).alloc hz _, W.heap.size, by omega, rfl, ⟨by simp [alloc_cell_if], by simp [alloc_frozen_if]⟩, cel_al hk, cel_al hc, hb.alloc hz _⟩
  case body =>
    rintro l pre ⟨x1, x2⟩ a' W ⟨Bx, hne, rfl, hx, hk, hc, hb⟩ hpre
    have hz := hb.size
    have hlen := cnt_le pre k
    have hpl : (pre ++ [(x1, x2)]).length ≤ (evs S).length := hpre.length_le
    rw [List.length_append, List.length_singleton] at hpl
    have hcn := cnt_snoc pre (x1, x2) k
    obtain ⟨c, hcc⟩ : ∃ c, c = cnt pre k := ⟨_, rfl⟩
    rw [← hcc] at hc hlen hcn
    have hc1 : (c : Int) ≤ 100000000 := by omega
    clear hcc
    obtain ⟨hx1, hx2⟩ := hx
    obtain ⟨hk1, hk2⟩ := hk
    obtain ⟨hc1', hc2⟩ := hc
    by_cases hxk : x1 = k
    · subst hxk
      rw [if_pos rfl] at hcn
      have HCN : Hid2 _ := hcn
      clear hcn
      gi_wp2
      refine ⟨KeepsOthers.setCell _ _ _, (Below.refl _ W).setCell (Nat.le_succ _) _, ?_, ?_, hb.setCell (Nat.le_succ _) _⟩
      · exact cel_set ⟨hk1, hk2⟩ (by omega)
      · rw [HCN.out]; exact cel_same ⟨hc1', hc2⟩
    · have e1 : (x1 == k) = false := by simpa using hxk
      have e2 : decide (x1 = k) = false := by simpa using hxk
      rw [if_neg hxk] at hcn
      have HCN : Hid2 _ := hcn
      clear hcn
      gi_wp2
      refine ⟨KeepsOthers.refl _, Below.refl _ W, ⟨hk1, hk2⟩, ?_⟩
      rw [HCN.out]; exact ⟨hc1', hc2⟩
  case done =>
    rintro D W hD ⟨hk, hc, hb⟩ hK
    obtain ⟨hc1, hc2⟩ := hc
    gi_wp2
    refine ⟨by simp, .inl ⟨_, _, rfl, run_takeDeferred hK, ?_⟩⟩
    exact ⟨_, results_tmp rfl _ _ _, rfl, hb.trans (belowK_b (w := w) (Nat.le_refl _) W D _ _ (by simp at hD; omega) hK rfl rfl)⟩

theorem info_ev : (Try.prog.info? 81).map (fun i => (i.zero, i.size, i.bytes)) = some (some (.agg #[.int .i64 0, .int .i64 0]), 2, 16) := by kernel_rfl
/-- The cells of events. -/
def evc (E : List Ev) : List Value := E.flatMap fun e => [.int .i64 e.1, .int .i64 e.2]
theorem evc_len (E : List Ev) : (evc E).length = E.length * 2 := by
  induction E with
  | nil => rfl
  | cons e E ih => simp only [evc, List.flatMap_cons, List.length_append, List.length_cons, List.length_nil] at ih ⊢; omega
theorem evc_snoc (E : List Ev) (e : Ev) : evc (E ++ [e]) = evc E ++ [.int .i64 e.1, .int .i64 e.2] := by simp [evc]
/-- A slice of events, in blocks from n0 on. -/
def Evs (n0 : Nat) (W : World) (v : Value) (E : List Ev) : Prop := W.ownsRow n0 81 2 v E.length (evc E)

set_option maxRecDepth 100000 in
set_option maxHeartbeats 4000000 in
theorem events_ {w : World} {p : Option Addr} {S : St} (hR : Rn w p S) (hS : S.length ≤ 1000000) (hE : (evs S).length ≤ 1000000) :
    Calls Try.prog 22 #[.pointer p] w fun e w' => ∃ v, e = .returned v ∧ Evs w.heap.size w' v (evs S) ∧ Below w.heap.size w w' := by
  obtain ⟨i0, hi, hz0, hz1, hz2⟩ := info_parts info_ev
  refine (callsIn_wide (n := 9)).1 ?_
  refine callsIn_of_wp_marks Try.func22 rfl trivial ?_ rfl
  simp only [Try.ntmps22, List.size_toArray, List.length_cons, List.length_nil, Nat.reduceAdd, Nat.reduceSub, Array.replicate_succ, Array.replicate_zero, List.push_toArray, List.append_toArray, List.nil_append, List.cons_append]
  gi_wp2
  have hB0 : Below w.heap.size w (w.alloc (.cells #[.slice none 0 0] 32)) := (Below.refl _ w).alloc (Nat.le_refl _) _
  refine range_all rfl (by omega) (gf := 52) (bd := #[.pointer p]) (lb := #[]) rfl trivial (enters_of Try.func52 (by kernel_rfl) rfl) (each_of hR hB0 hS _ (by omega)) belowK_t (belowK_b (by simp)) (Below.refl _ _) (fun _ => rfl)
    (fun pre W => (∃ v, Boxed W w.heap.size 32 v ∧ W.ownsRow w.heap.size 81 2 v pre.length (evc pre) ∧ True) ∧ Below w.heap.size w W)
    (fun pre x a' W => ∃ Bx, Bx ≠ w.heap.size ∧ a' = { tmps := #[.pointer p, undef, .slice none 0 0, .pointer (some ⟨w.heap.size, 0, none⟩), .pointer (some ⟨Bx, 0, none⟩), .pointer p, .func (.func 52) #[.pointer p] #[], .agg #[.int .i64 x.1, .int .i64 x.2], undef, undef, undef, undef, undef], defers := [] } ∧ Cel W Bx 0 (.int .i64 x.1) ∧ Cel W Bx 1 (.int .i64 x.2) ∧ (∃ v, Boxed W w.heap.size 32 v ∧ W.ownsRow w.heap.size 81 2 v pre.length (evc pre) ∧ True) ∧ Below w.heap.size w W)
    ?own ?ownA ?h0 ?assign ?body ?done
  case own =>
    exact OwnFrom.and (Own.from (holdsRow_own w.heap.size w.heap.size 32 81 2 (fun pre : List Ev => pre.length) (fun pre => evc pre) (fun _ _ => True)) _) (ownFrom_below (Nat.le_refl _) (by simp))
  case ownA =>
    exact fun pre x s A B row ⟨Bx, h0, h1, h2, h3, h4, h5⟩ hg hr => ⟨Bx, h0, h1, h2.kept hg fun r e => (hr r e).2, h3.kept hg fun r e => (hr r e).2,
      (holdsRow_own w.heap.size w.heap.size 32 81 2 (fun _ : Unit => pre.length) (fun _ => evc pre) (fun _ _ => True)) () A B row h4 hg fun r e => (hr r e).2, ownFrom_below (β := Unit) (Nat.le_refl _) (by simp) () A B row h5 hg hr⟩
  case h0 => exact ⟨⟨_, Boxed.new w _ _, World.ownsRow_nil _ _ _ _, trivial⟩, hB0⟩
  case assign =>
    rintro l pre ⟨x1, x2⟩ W ⟨⟨v, hv, hrow, _⟩, hb⟩ hpre
    simp only [enE]
    have hz := hb.size
    have z1 := hv.lt
    gi_wp2
    refine ⟨KeepsOthers.alloc _ _, (Below.refl _ W).alloc hz _, W.heap.size, by omega, rfl, ⟨by simp [alloc_cell_if], by simp [alloc_frozen_if]⟩, ⟨by simp [alloc_cell_if], by simp [alloc_frozen_if]⟩, ⟨v, hv.alloc _, hrow.alloc _, trivial⟩, hb.alloc hz _⟩
  case body =>
    rintro l pre ⟨x1, x2⟩ a' W ⟨Bx, hne, rfl, ⟨hx1, hx2⟩, ⟨hy1, hy2⟩, ⟨v, hv, hrow, _⟩, hb⟩ hpre
    have hz := hb.size
    have hpl : (pre ++ [(x1, x2)]).length ≤ (evs S).length := hpre.length_le
    rw [List.length_append, List.length_singleton] at hpl
    have hc := hv.cell
    have hf := hv.frozen
    have z1 := hv.lt
    gi_wp2_with (gi_at_builtin; refine wpListIn_append_own _ rfl _ _ 32 rfl w.heap.size 81 i0 _ 2 16 Try.underlying32 hi hz0 hz1 hz2 rfl (by decide) v pre.length (evc pre) rfl (hrow.alloc _) ⟨W.heap.size, 0, none⟩ 1 1 [.int .i64 x1, .int .i64 x2] rfl rfl (World.news_of_block (cs := #[.int .i64 x1, .int .i64 x2]) (heap_alloc_new _ _)) (by simp [Value.oneCell']) (by unfold maxLen; omega) (by omega) (by simp; omega) ?_; intro v' w1 hown' hgrow _; obtain ⟨g', cap', rfl⟩ := ownsRow_succ hown'; obtain ⟨hv1, hv2, hr2, hk2, hb2⟩ := hv.appended (by decide) hrow hb.size (Nat.le_refl _) hown' hgrow; have hc1 := hv1.cell; have hf1 := hv1.frozen)
    refine ⟨⟨_, hv2, ?_⟩, hb.trans hb2⟩
    rw [evc_snoc]
    exact hr2
  case done =>
    rintro D W hD ⟨⟨v, hv, hrow, _⟩, hb⟩ hK
    obtain ⟨pv, cv, hpv⟩ : ∃ pv cv, v = .slice pv (evs S).length cv := by
      rcases hrow.2 with ⟨rfl, h0⟩ | ⟨g, cap, cur, rfl, _⟩
      · exact ⟨none, 0, by rw [h0]⟩
      · exact ⟨_, _, rfl⟩
    subst hpv
    have hc := hv.cell
    have hf := hv.frozen
    gi_wp2
    refine ⟨by simp, .inl ⟨_, _, rfl, run_takeDeferred hK, ?_⟩⟩
    exact ⟨.slice pv (evs S).length cv, by rw [results_tmp Try.results22]; rfl, .slice pv (evs S).length cv, rfl, ownsRow_putObj hrow _ hK rfl, hb.trans (belowK_b (w := w) (Nat.le_refl _) W D _ _ (by simp at hD; omega) hK rfl rfl)⟩

end Go.Proofs.Ytbdnnkokkgdhnaa
