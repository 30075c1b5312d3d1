/- The blocks of pixels. -/
import Derived.Test.YtgegmlhpdpdnfaaPart7
import Derived.Deep.WholeRow
import Derived.Deep.LoopGhost
import Derived.Test.YtgegmlhpdpdnfaaDs7
import Derived.RangeFuncCalls
namespace Go.Proofs.Ytgegmlhpdpdnfaa
open Go.RowKit
attribute [local go_sem] Oper.semAt_some

/-- What split knows behind its start. -/
structure SpK (w0 : World) (x y m q i c : Int) (b3 b4 b9 : Nat) (v0 v1 v2 : Value) (L : Nat → Int) (W : World) : Prop where
  h3 : W.heap[b3]? = some (.cells #[Value.func (.func 56) #[] #[], Value.func (.func 57) #[] #[], Value.func (.func 58) #[] #[], Value.func (.func 59) #[] #[], Value.func (.func 60) #[] #[], Value.func (.func 61) #[] #[]] 71 (0, 0))
  h4 : W.heap[b4]? = some (.cells #[Value.int .i64 x, Value.int .i64 y, Value.int .i64 m, Value.int .i64 q, Value.int .i64 i, Value.int .i64 c] 23 (0, 0))
  h9 : W.heap[b9]? = some (.cells #[v0, v1, v2] 96 (0, 0))
  rows : PRows W m (x * y).toNat L v0 v1 v2
theorem SpK.below {w0 : World} {x y m q i c : Int} {b3 b4 b9 : Nat} {v0 v1 v2 : Value} {L : Nat → Int} {W W' : World} (h : SpK w0 x y m q i c b3 b4 b9 v0 v1 v2 L W) (k : Below W.heap.size W W') : SpK w0 x y m q i c b3 b4 b9 v0 v1 v2 L W' :=
  ⟨(k.block _ (heap_lt h.h3)).trans h.h3, (k.block _ (heap_lt h.h4)).trans h.h4, (k.block _ (heap_lt h.h9)).trans h.h9, h.rows.below k⟩
theorem bh {W W' : World} (hb : Below W.heap.size W W') {k : Nat} {o : Obj} (h : W.heap[k]? = some o) : W'.heap[k]? = some o := (hb.block k (heap_lt h)).trans h
theorem hai (w : World) (o : Obj) (k : Nat) (x : Obj) : (k = w.heap.size → o = x) → (k ≠ w.heap.size → w.heap[k]? = some x) → (w.alloc o).heap[k]? = some x := fun h1 h2 => by
  rw [heap_alloc_if]; split
  · rename_i e; rw [h1 e]
  · rename_i e; exact h2 e

theorem kp2_b {X : List Nat} {n : Nat} (hX : ∀ b ∈ X, b < n) (W : World) (l : Nat) (o o' : Obj) (hl : n ≤ l) (ho : W.heap[l]? = some o) (hc : o.isCells = false) (_ : o.isWalk = false) : Kp2 X W (W.putObj l o') :=
  ⟨fun b hb => World.putObj_heap_other (by have := hX b hb; omega), fun b c f hb => World.putObj_heap_other (fun e => by subst e; rw [ho] at hb; cases hb; cases hc), by simp⟩
theorem cells_keep {W W' : World} {row : Option Nat} (hg : W.grownBy W' row) {n : Nat} (hr : ∀ r, row = some r → n ≤ r ∧ ∃ o : Obj, W.heap[r]? = some o ∧ o.isCells = false) {b : Nat} {c : Array Value} {t : TypeId} {f : Nat × Nat} (h : W.heap[b]? = some (.cells c t f)) : W'.heap[b]? = some (.cells c t f) :=
  (hg.block b (heap_lt h) (fun e => by obtain ⟨_, o, h1, h2⟩ := hr b e.symm; rw [h] at h1; cases h1; cases h2)).trans h
/-- Between two rounds over an MCU's places. -/
def SpI (wr : World) (X : List Nat) (bf : Pl → Nat → Int) (pre : List Pl) (W : World) : Prop := Below wr.heap.size wr W ∧ (∀ b ∈ X, ∃ c f, W.heap[b]? = some (Obj.cells c 3 f)) ∧ ∃ v, v.oneCell' = true ∧ W.heap[wr.heap.size]? = some (.cells #[v] 73 (0, 0)) ∧ BRow W wr.heap.size 41 v (pre.map bf)
theorem spI_own (wr : World) (X : List Nat) (bf : Pl → Nat → Int) {B : Nat} (hB : wr.heap.size ≤ B) : OwnFrom B (SpI wr X bf) := by
  rintro pre W W' row ⟨h1, hz, v, h2, h3, h4⟩ hg hr
  refine ⟨h1.trans ⟨hg.os, hg.tape, hg.output, hg.size, fun k hk => hg.block k (Nat.lt_of_lt_of_le hk h1.size) (fun e => by have := (hr k e.symm).1; omega)⟩, fun b hb => (by obtain ⟨c, f, h5⟩ := hz b hb; exact ⟨c, f, cells_keep hg hr h5⟩), v, h2, cells_keep hg hr h3, own_of_block h4 fun g hg2 => ?_⟩
  obtain ⟨_, c, f, h5⟩ := own_tag h4 hg2
  rw [cells_keep hg hr h5, h5]
def SpAx (wr : World) (X : List Nat) (bf : Pl → Nat → Int) (act : Pl → Nat → Act) (pre : List Pl) (p : Pl) (a : Act) (W : World) : Prop :=
  ∃ b15, a = act p b15 ∧ W.heap[b15]? = some (.cells #[.int .i64 p.part, .int .i64 p.x, .int .i64 p.y, .int .i64 p.across, .int .i64 p.down] 102 (0, 0)) ∧ wr.heap.size < b15 ∧ SpI wr X bf pre W
theorem spAx_own (wr : World) (X : List Nat) (bf : Pl → Nat → Int) (act : Pl → Nat → Act) {B : Nat} (hB : wr.heap.size ≤ B) : ∀ (pre : List Pl) (p : Pl), OwnFrom B (SpAx wr X bf act pre p) := by
  rintro pre p a W W' row ⟨b15, h1, h2, h3, h4⟩ hg hr
  exact ⟨b15, h1, cells_keep hg hr h2, h3, spI_own wr X bf hB pre W W' row h4 hg hr⟩
theorem SpI.below {wr : World} {X : List Nat} {bf : Pl → Nat → Int} {pre : List Pl} {W W' : World} (h : SpI wr X bf pre W) (k : Below W.heap.size W W') : SpI wr X bf pre W' := by
  obtain ⟨h1, hz, v, h2, h3, h4⟩ := h
  exact ⟨gr2 h1 k, fun b hb => (by obtain ⟨c, f, h5⟩ := hz b hb; exact ⟨c, f, bh k h5⟩), v, h2, bh k h3, h4.below k⟩
theorem kp2_below {X : List Nat} {W W' : World} (hX : ∀ b ∈ X, b < W.heap.size) (k : Below W.heap.size W W') : Kp2 X W W' :=
  ⟨fun b hb => k.block b (hX b hb), fun b _ _ hb => k.block b (heap_lt hb), k.size⟩
theorem kp2_sub {X : List Nat} {n0 : Nat} {ts : List TypeId} {W W' : World} (_ : ∀ b ∈ X, b < W.heap.size) (h2 : 47 ∉ ts) (hX2 : ∀ b ∈ X, ∃ c t f, W.heap[b]? = some (.cells c t f) ∧ t ∉ ts) (k : Sub n0 ts W W') : Kp2 X W W' :=
  ⟨fun b hb => (by obtain ⟨c, t, f, h1, h3⟩ := hX2 b hb; rw [k.other h1 h3, h1]), fun b _ _ hb => by rw [k.other hb h2, hb], k.size⟩
/-- What a round over one block's numbers reads. -/
structure RB (x y m q i c : Int) (b3 b4 b9 b15 g cp n : Nat) (p : Pl) (F : Nat → Int) (W : World) : Prop where
  h3 : W.heap[b3]? = some (.cells #[Value.func (.func 56) #[] #[], Value.func (.func 57) #[] #[], Value.func (.func 58) #[] #[], Value.func (.func 59) #[] #[], Value.func (.func 60) #[] #[], Value.func (.func 61) #[] #[]] 71 (0, 0))
  h4 : W.heap[b4]? = some (.cells #[Value.int .i64 x, Value.int .i64 y, Value.int .i64 m, Value.int .i64 q, Value.int .i64 i, Value.int .i64 c] 23 (0, 0))
  h15 : W.heap[b15]? = some (.cells #[.int .i64 p.part, .int .i64 p.x, .int .i64 p.y, .int .i64 p.across, .int .i64 p.down] 102 (0, 0))
  hg : g < W.heap.size
  h9 : b9 < W.heap.size
  c9 : W.cell? ⟨b9, p.part.toNat, none⟩ = some (.slice (some ⟨g, 0, none⟩) n cp)
  row : ∀ k, k < n → W.cell? ⟨g, k, none⟩ = some (.int .i64 (F k))
theorem RB.below {x y m q i c : Int} {b3 b4 b9 b15 g cp n : Nat} {p : Pl} {F : Nat → Int} {W W' : World} (h : RB x y m q i c b3 b4 b9 b15 g cp n p F W) (k : Below W.heap.size W W') : RB x y m q i c b3 b4 b9 b15 g cp n p F W' :=
  ⟨bh k h.h3, bh k h.h4, bh k h.h15, Nat.lt_of_lt_of_le h.hg k.size, Nat.lt_of_lt_of_le h.h9 k.size, (k.cell (p := ⟨b9, p.part.toNat, none⟩) h.h9).trans h.c9, fun j hj => (k.cell (p := ⟨g, j, none⟩) h.hg).trans (h.row j hj)⟩
theorem SpK.rb {w0 : World} {x y m q i c : Int} {b3 b4 b9 b15 : Nat} {v0 v1 v2 : Value} {L : Nat → Int} {W : World} (h : SpK w0 x y m q i c b3 b4 b9 v0 v1 v2 L W) {p : Pl} (hp : PlOk m p)
    (h15 : W.heap[b15]? = some (.cells #[.int .i64 p.part, .int .i64 p.x, .int .i64 p.y, .int .i64 p.across, .int .i64 p.down] 102 (0, 0))) :
    ∃ g cp, RB x y m q i c b3 b4 b9 b15 g cp (x * y).toNat p (partF m L p.part.toNat) W := by
  have hc := cells_at h.h9
  obtain ⟨⟨⟨a1, a2⟩, a3⟩, _⟩ := hp
  have h9 := heap_lt h.h9
  by_cases e0 : p.part = 0
  · obtain ⟨g, cp, rfl, r2, r3⟩ := h.rows.1
    exact ⟨g, cp, h.h3, h.h4, h15, r2, h9, by rw [hc, e0]; rfl, by rw [e0]; exact r3⟩
  · have hm : m ≠ 1 := fun e => e0 (a3 e)
    by_cases e1 : p.part = 1
    · obtain ⟨g, cp, rfl, r2, r3⟩ := (h.rows.2 hm).1
      exact ⟨g, cp, h.h3, h.h4, h15, r2, h9, by rw [hc, e1]; rfl, by rw [e1]; exact r3⟩
    · have e2 : p.part = 2 := by omega
      obtain ⟨g, cp, rfl, r2, r3⟩ := (h.rows.2 hm).2
      exact ⟨g, cp, h.h3, h.h4, h15, r2, h9, by rw [hc, e2]; rfl, by rw [e2]; exact r3⟩
theorem run_alloc_41 (w : World) : (Instr.alloc 41 true (.tuple #[])).run Try.prog w = .ok (.pointer (some ⟨w.heap.size, 0, none⟩)) (w.alloc (.cells (blk fun _ => 0) 41)) := by kernel_rfl
theorem wpListIn_alloc_41 {F : Fence} {n : Nat} {ops : Array Oper} {rest : List Oper} {o : Oper} {a : Act} {w : World} {Q : Exit → Act → World → Prop} (hg : o.guard = none) (ho : o.op = .alloc 41)
    (h : wpListIn F n Try.prog ops Q rest (a.put o.dst (.pointer (some ⟨w.heap.size, 0, none⟩))) (w.alloc (.cells (blk fun _ => 0) 41))) : wpListIn F n Try.prog ops Q (o :: rest) a w :=
  wpListIn_val hg (by rw [ho]; intro c e; cases e) (by simp [Oper.about, ho]) (by
    unfold execOp
    simp only [ho, Sem.run_bind, run_alloc_41, Result.andThen_ok]
    rfl) h
/-- What some slots hold. -/
abbrev FrC : List (Nat × Value) → Array Value → Prop
  | [], _ => True
  | p :: r, t => t[p.1]? = some p.2 ∧ FrC r t
theorem explode150 (t : Array Value) (h : t.size = 150) : ∃ u : Nat → Value, t = #[u 0, u 1, u 2, u 3, u 4, u 5, u 6, u 7, u 8, u 9, u 10, u 11, u 12, u 13, u 14, u 15, u 16, u 17, u 18, u 19, u 20, u 21, u 22, u 23, u 24, u 25, u 26, u 27, u 28, u 29, u 30, u 31, u 32, u 33, u 34, u 35, u 36, u 37, u 38, u 39, u 40, u 41, u 42, u 43, u 44, u 45, u 46, u 47, u 48, u 49, u 50, u 51, u 52, u 53, u 54, u 55, u 56, u 57, u 58, u 59, u 60, u 61, u 62, u 63, u 64, u 65, u 66, u 67, u 68, u 69, u 70, u 71, u 72, u 73, u 74, u 75, u 76, u 77, u 78, u 79, u 80, u 81, u 82, u 83, u 84, u 85, u 86, u 87, u 88, u 89, u 90, u 91, u 92, u 93, u 94, u 95, u 96, u 97, u 98, u 99, u 100, u 101, u 102, u 103, u 104, u 105, u 106, u 107, u 108, u 109, u 110, u 111, u 112, u 113, u 114, u 115, u 116, u 117, u 118, u 119, u 120, u 121, u 122, u 123, u 124, u 125, u 126, u 127, u 128, u 129, u 130, u 131, u 132, u 133, u 134, u 135, u 136, u 137, u 138, u 139, u 140, u 141, u 142, u 143, u 144, u 145, u 146, u 147, u 148, u 149] := by
  refine ⟨fun n => (t[n]?).getD undef, ?_⟩
  have : t.toList = (List.range 150).map (fun n => (t[n]?).getD undef) := by
    apply List.ext_getElem?
    intro n
    simp only [List.getElem?_map, Array.getElem?_toList]
    by_cases hn : n < 150
    · rw [List.getElem?_range hn]
      simp [h, hn]
    · rw [List.getElem?_eq_none (by simp; omega), Array.getElem?_eq_none (by omega)]
      rfl
  exact Array.ext' this
theorem idx7_ok {x y X Y : Int} {n : Nat} (hx : 1 ≤ x) (hy : 1 ≤ y) (hX : 0 ≤ X) (hY : 0 ≤ Y) (hn : (n : Int) = x * y) (hn2 : x * y ≤ 1048576) :
    ∃ mx my pr : Int, ∃ id : Nat, (if x - 1 < X then x - 1 else X) = mx ∧ (if y - 1 < Y then y - 1 else Y) = my ∧ my * x = pr ∧ pr + mx = id ∧ id < n ∧ idx7 x y X Y = id ∧ (0 ≤ mx ∧ mx ≤ x - 1) ∧ (0 ≤ my ∧ my ≤ y - 1) ∧ 0 ≤ pr ∧ pr ≤ 1048576 := by
  have a1 : 0 ≤ mn X (x - 1) := mn_lo hX (by omega)
  have a2 : mn X (x - 1) ≤ x - 1 := mn_le
  have b1 : 0 ≤ mn Y (y - 1) := mn_lo hY (by omega)
  have b2 : mn Y (y - 1) ≤ y - 1 := mn_le
  have c1 : 0 ≤ mn Y (y - 1) * x := Int.mul_nonneg b1 (by omega)
  have c2 : mn Y (y - 1) * x ≤ (y - 1) * x := Int.mul_le_mul_of_nonneg_right b2 (by omega)
  have c3 : (y - 1) * x = x * y - x := by rw [Int.sub_mul, Int.mul_comm]; omega
  exact ⟨_, _, _, idx7 x y X Y, rfl, rfl, rfl, by show mn Y (y - 1) * x + mn X (x - 1) = _; unfold idx7; omega, by unfold idx7; omega, rfl, ⟨a1, a2⟩, ⟨b1, b2⟩, c1, by show mn Y (y - 1) * x ≤ _; omega⟩
theorem run_bs_41 (f : Nat → Int) (w : World) : (Instr.buildSlice 73 1 #[(0, .agg (blk f))]).run Try.prog w = .ok (.slice (some ⟨w.heap.size, 0, none⟩) 1 1) (w.alloc (.cells (blk f) 41)) := by kernel_rfl
theorem wpListIn_bs_41 {F : Fence} {n : Nat} {ops : Array Oper} {rest : List Oper} {o : Oper} {a : Act} {w : World} {Q : Exit → Act → World → Prop} (f : Nat → Int) (x : Operand) (hg : o.guard = none) (ho : o.op = .buildSlice 73 1 #[(0, x)]) (hx : a.eval x = .agg (blk f))
    (h : wpListIn F n Try.prog ops Q rest (a.put o.dst (.slice (some ⟨w.heap.size, 0, none⟩) 1 1)) (w.alloc (.cells (blk f) 41))) : wpListIn F n Try.prog ops Q (o :: rest) a w :=
  wpListIn_val hg (by rw [ho]; intro c e; cases e) (by simp [Oper.about, ho]) (by
    unfold execOp
    simp only [ho, List.map_toArray, List.map_cons, List.map_nil, hx, Sem.run_bind, run_bs_41, Result.andThen_ok]
    rfl) h
theorem pl_addb (a b : Int) (w : World) (h : -1000000 ≤ a + b ∧ a + b ≤ 1000000) :
    Calls Try.prog 57 #[.int .i64 a, .int .i64 b] w fun e w' => e = .returned (.int .i64 (a + b)) ∧ Below w.heap.size w w' := by
  have := pl_add a b w
  rwa [w64 (by omega) (by omega)] at this
theorem infos_41 : Infos Try.prog 41 64 512 := by unfold Infos; kernel_rfl
theorem infos_73 : Infos Try.prog 73 1 24 := by unfold Infos; kernel_rfl
theorem Sub.more {n0 n1 : Nat} {ts us : List TypeId} {W W' : World} (h : Sub n0 ts W W') (hn : n1 ≤ n0) (hs : ∀ t ∈ ts, t ∈ us) : Sub n1 us W W' :=
  ⟨h.os, h.tape, h.output, h.size, fun b hb => by
    rcases h.block b hb with e | ⟨h1, c, t, f, h2, h3⟩
    · exact .inl e
    · exact .inr ⟨Nat.le_trans hn h1, c, t, f, h2, hs t h3⟩⟩
theorem BRow.shape {w : World} {base : Nat} {t : TypeId} {v : Value} {bs : List (Nat → Int)} (h : BRow w base t v bs) (hb : 0 < bs.length) : ∃ g c, v = .slice (some ⟨g, 0, none⟩) bs.length c := by
  rcases h.2 with ⟨_, h1⟩ | ⟨g, c, _, h1, _⟩
  · omega
  · exact ⟨g, c, h1⟩
theorem own_lower {w : World} {base b2 : Nat} {e : TypeId} {size : Nat} {v : Value} {n : Nat} {xs : List Value} (h : w.ownsRow base e size v n xs) (hb : b2 ≤ base) : w.ownsRow b2 e size v n xs := by
  refine ⟨h.1, ?_⟩
  rcases h.2 with h1 | ⟨g, c, cur, h1, h2, h3⟩
  · exact .inl h1
  · exact .inr ⟨g, c, cur, h1, Nat.le_trans hb h2, h3⟩
theorem BRow.lower {w : World} {base b2 : Nat} {t : TypeId} {v : Value} {bs : List (Nat → Int)} (h : BRow w base t v bs) (hb : b2 ≤ base) : BRow w b2 t v bs := own_lower h hb
theorem MRow.lower {w : World} {base b2 : Nat} {t1 t : TypeId} {v : Value} {M : List (List (Nat → Int))} (h : MRow w base t1 t v M) (hb : b2 ≤ base) : MRow w b2 t1 t v M := by
  obtain ⟨vs, h1, h2⟩ := h
  exact ⟨vs, own_lower h1 hb, fun i bs hi => let ⟨u, a, a2, b⟩ := h2 i bs hi; ⟨u, a, a2, b.lower hb⟩⟩
theorem BRow.marks {w w' : World} {n1 base : Nat} {t : TypeId} {v : Value} {bs : List (Nat → Int)} (h : BRow w base t v bs) (k : Marks n1 w w') : BRow w' base t v bs :=
  own_of_block h fun g hg => by
    obtain ⟨_, c, f, h2⟩ := own_tag h hg
    rw [k.cells _ _ _ _ h2, h2]
theorem MRow.marks {w w' : World} {n1 base : Nat} {t1 t : TypeId} {v : Value} {M : List (List (Nat → Int))} (h : MRow w base t1 t v M) (k : Marks n1 w w') : MRow w' base t1 t v M := by
  obtain ⟨vs, h1, h2⟩ := h
  refine ⟨vs, own_of_block h1 fun g hg => ?_, fun i bs hi => let ⟨u, a, a2, b⟩ := h2 i bs hi; ⟨u, a, a2, b.marks k⟩⟩
  obtain ⟨_, c, f, h3⟩ := own_tag h1 hg
  rw [k.cells _ _ _ _ h3, h3]
theorem plsM_pos {m x y : Int} : 0 < (plsM m x y).length := by unfold plsM; split; exact (by decide : 0 < 1); split; exact (by decide : 0 < 3); split; exact (by decide : 0 < 4); exact (by decide : 0 < 6)
def intOf : Value → Int | .int _ n => n | _ => 0

set_option maxRecDepth 100000 in
set_option maxHeartbeats 4000000 in
theorem split_int {x y m q i c : Int} (hg : gridOk x y m) (hn : x * y ≤ 1048576) {N : Nat} (hN : (N : Int) = if m = 1 then x * y else 3 * (x * y)) {pg pc : Nat} {L : Nat → Int} (w : World) (hpg : pg < w.heap.size) (hp : ∀ k, k < N → w.cell? ⟨pg, k, none⟩ = some (.int .i64 (L k))) (hL : ∀ k, 0 ≤ L k ∧ L k ≤ 255) :
    Calls Try.prog 37 #[opsP, .agg #[.int .i64 x, .int .i64 y, .int .i64 m, .int .i64 q, .int .i64 i, .int .i64 c], .slice (some ⟨pg, 0, none⟩) N pc] w fun e w' => ∃ v, e = .returned v ∧ Below w.heap.size w w' ∧ MRow w' w.heap.size 73 41 v (splitM x y m (partF m L) (gridA x y m).toNat (gridA x y m * gridB x y m).toNat) := by
  have hN2 : (N : Int) ≤ 3145728 := by split at hN <;> omega
  have gp := grid_pos hg
  have hm := sideW_pos hg.1
  obtain ⟨A, hA⟩ : ∃ A : Nat, gridA x y m = A := ⟨(gridA x y m).toNat, by omega⟩
  obtain ⟨B, hB⟩ : ∃ B : Nat, gridB x y m = B := ⟨(gridB x y m).toNat, by omega⟩
  have hAB : (A : Int) ≤ x ∧ (B : Int) ≤ y := by
    rw [← hA, ← hB, (grid_ok hg).1, (grid_ok hg).2]
    exact ⟨ceil_le (by have := hg.2.1.1; omega), ceil_le (by have := hg.2.2.1; omega)⟩
  rw [hA, hB] at gp ⊢
  have hT : (A : Int) * B ≤ 1048576 := Int.le_trans (Int.mul_le_mul hAB.1 hAB.2 (by omega) (by have := hg.2.1.1; omega)) hn
  have hT0 : 0 ≤ (A : Int) * B := Int.mul_nonneg (by omega) (by omega)
  obtain ⟨T, hTe⟩ : ∃ T : Nat, (A : Int) * B = T := ⟨((A : Int) * B).toNat, by omega⟩
  rw [hTe] at hT ⊢
  have HR : Hid2 (∀ w, Calls Try.prog 52 #[.agg #[.int .i64 x, .int .i64 y, .int .i64 m, .int .i64 q, .int .i64 i, .int .i64 c]] w fun e w' => e = .returned (.tuple #[.int .i64 N, .bool true]) ∧ Below w.heap.size w w') := fun w => right_ok q i c w hg hn N hN
  have HG : Hid2 (∀ w, Calls Try.prog 11 #[.agg #[.int .i64 x, .int .i64 y, .int .i64 m, .int .i64 q, .int .i64 i, .int .i64 c]] w fun e w' => e = .returned (.tuple #[.int .i64 A, .int .i64 B]) ∧ Below w.heap.size w w') := fun w => by have := Grid_ x y m q i c w; rwa [hA, hB] at this
  have HP : Hid2 (∀ W, Below w.heap.size w W → Calls Try.prog 53 #[opsP, .agg #[.int .i64 x, .int .i64 y, .int .i64 m, .int .i64 q, .int .i64 i, .int .i64 c], .slice (some ⟨pg, 0, none⟩) N pc] W fun e w' => ∃ v0 v1 v2, e = .returned (.agg #[v0, v1, v2]) ∧ Below W.heap.size W w' ∧ PRows w' m (x * y).toNat L v0 v1 v2 ∧ v0.oneCell' = true ∧ v1.oneCell' = true ∧ v2.oneCell' = true) := fun W hb => parts_int hg hn hN W (Nat.lt_of_lt_of_le hpg hb.size) (fun k hk => (hb.cell (p := ⟨pg, k, none⟩) hpg).trans (hp k hk))
  have HL := hid2 hL
  have HM := hid2 hm
  have HGG := hid2 hg
  have HTE := hid2 hTe
  have HAB := hid2 hAB
  have hA0 : (A : Int) ≠ 0 := by omega
  have hA9 : (A : Int) ≤ 65535 := by have := hg.2.1.2; omega
  have hB9 : (B : Int) ≤ 65535 := by have := hg.2.2.2; omega
  clear hN hp hL hm hg hA hB hAB
  refine (callsIn_wide (n := 14)).1 ?_
  refine callsIn_of_wp_marks Try.func37 rfl trivial ?_ rfl
  simp only [Try.ntmps37, List.size_toArray, List.length_cons, List.length_nil, Nat.reduceAdd, Nat.reduceSub, Array.replicate_succ, Array.replicate_zero, List.push_toArray, List.append_toArray, List.nil_append, List.cons_append]
  refine wpIn_wide.2 ?_
  go_wp2_with (first
    | (go_at_call 52; refine (HR.out _).mono ?_; rintro e W1 ⟨rfl, hb1⟩; obtain ⟨hc1, hf1, hz1⟩ := bcell hb1; try simp at hz1)
    | (go_at_call 11; refine (HG.out _).mono ?_; rintro e W3 ⟨rfl, hb3⟩; obtain ⟨hc3, hf3, hz3⟩ := bcell hb3; try simp at hz3)
    | (go_at_call 53; refine (HP.out _ (by repeat (first | exact gr0 _ | refine gr1 ?_ _ | refine gr2 ?_ (Later.below _) | refine gr2 ?_ (by assumption) | refine gr3 ?_ | refine gr4 ?_ (by first | (simp; done) | (simp; omega) | omega) _))).mono ?_; rintro e W2 ⟨v0, v1, v2, rfl, hb2, hrows, o0, o1, o2⟩; obtain ⟨hc2, hf2, hz2⟩ := bcell hb2; try simp at hz2)
    | (refine wpList_store_row rfl _ _ _ rfl W2.heap.size #[v0, v1, v2] rfl rfl 96 #[.slice none 0 0, .slice none 0 0, .slice none 0 0] (heap_alloc_new _ _) (by kernel_rfl) rfl (by simp [o0, o1, o2]) ?_; rw [World.setRow_alloc_new]))
  have HB3 : Below w.heap.size w W3 := by repeat (first | exact gr0 _ | refine gr1 ?_ _ | refine gr2 ?_ (Later.below _) | refine gr2 ?_ (by assumption) | refine gr3 ?_ | refine gr4 ?_ (by first | (simp; done) | (simp; omega) | omega) _)
  have k3 := bh hb3 (bh (gr1 (gr0 _) _) (bh hb2 (bh hb1 (bh (gr1 (gr0 _) _) (heap_alloc_new w (.cells #[Value.func (.func 56) #[] #[], Value.func (.func 57) #[] #[], Value.func (.func 58) #[] #[], Value.func (.func 59) #[] #[], Value.func (.func 60) #[] #[], Value.func (.func 61) #[] #[]] 71))))))
  have k4 := bh hb3 (bh (gr1 (gr0 _) _) (bh hb2 (bh hb1 (heap_alloc_new _ (.cells #[Value.int .i64 x, Value.int .i64 y, Value.int .i64 m, Value.int .i64 q, Value.int .i64 i, Value.int .i64 c] 23)))))
  have k9 := bh hb3 (heap_alloc_new W2 (.cells #[v0, v1, v2] 96))
  rw [World.size_alloc] at k4
  obtain ⟨b9, hb9⟩ : ∃ b9, W2.heap.size = b9 := ⟨_, rfl⟩
  rw [hb9] at k9 ⊢
  have SP := hid2 (⟨k3, k4, k9, (hrows.below (gr1 (gr0 _) _)).below hb3⟩ : SpK w x y m q i c w.heap.size (w.heap.size + 1) b9 v0 v1 v2 L W3)
  clear hc1 hf1 hc2 hf2 hc3 hf3 hb1 hb2 hb3 hz1 hz2 hz3 k3 k4 k9 hrows o0 o1 o2 hb9 HR HG HP
  have n1 := HB3.size
  have HB3 := hid2 HB3
  refine wp_loop (I := fun a wr => ∃ (jj : Nat) (vo : Value), jj ≤ T ∧ a.tmps.size = 150 ∧ FrC [(0, opsP), (1, Value.agg #[Value.int IntKind.i64 x, Value.int IntKind.i64 y, Value.int IntKind.i64 m, Value.int IntKind.i64 q, Value.int IntKind.i64 i, Value.int IntKind.i64 c]), (2, Value.slice (some { block := pg, off := 0 }) N pc), (3, Value.pointer (some { block := w.heap.size, off := 0 })), (4, Value.pointer (some { block := w.heap.size + 1, off := 0 })), (5, undef), (6, Value.slice none 0 0), (7, Value.int IntKind.i64 ↑N), (8, Value.bool true), (9, Value.pointer (some { block := b9, off := 0 })), (10, Value.int IntKind.i64 ↑A), (11, Value.int IntKind.i64 ↑B), (23, Value.tuple #[Value.int IntKind.i64 ↑N, Value.bool true]), (24, Value.agg #[Value.int IntKind.i64 x, Value.int IntKind.i64 y, Value.int IntKind.i64 m, Value.int IntKind.i64 q, Value.int IntKind.i64 i, Value.int IntKind.i64 c]), (25, Value.tuple #[Value.int IntKind.i64 ↑N, Value.bool true]), (26, Value.int IntKind.i64 ↑N), (27, Value.bool true), (28, Value.bool true), (29, Value.bool false), (30, Value.bool false), (31, Value.slice (some { block := pg, off := 0 }) N pc), (32, Value.int IntKind.i64 ↑N), (33, Value.int IntKind.i64 ↑N), (34, Value.bool false), (35, Value.bool false), (36, Value.agg #[Value.func (Fn.func 56) #[] #[], Value.func (Fn.func 57) #[] #[], Value.func (Fn.func 58) #[] #[], Value.func (Fn.func 59) #[] #[], Value.func (Fn.func 60) #[] #[], Value.func (Fn.func 61) #[] #[]]), (37, Value.agg #[Value.int IntKind.i64 x, Value.int IntKind.i64 y, Value.int IntKind.i64 m, Value.int IntKind.i64 q, Value.int IntKind.i64 i, Value.int IntKind.i64 c]), (38, Value.slice (some { block := pg, off := 0 }) N pc), (39, Value.agg #[v0, v1, v2]), (40, Value.tuple #[Value.int IntKind.i64 ↑A, Value.int IntKind.i64 ↑B]), (41, Value.agg #[Value.int IntKind.i64 x, Value.int IntKind.i64 y, Value.int IntKind.i64 m, Value.int IntKind.i64 q, Value.int IntKind.i64 i, Value.int IntKind.i64 c]), (42, Value.tuple #[Value.int IntKind.i64 ↑A, Value.int IntKind.i64 ↑B]), (43, Value.int IntKind.i64 ↑A), (44, Value.int IntKind.i64 ↑B), (45, Value.int IntKind.i64 ↑A), (46, Value.int IntKind.i64 ↑B), (47, Value.int IntKind.i64 ↑T), (60, undef), (149, undef), (12, vo), (48, Value.int .i64 jj)] a.tmps ∧ Below W3.heap.size W3 wr ∧ MRow wr W3.heap.size 73 41 vo (splitM x y m (partF m L) A jj) ∧ DsOk W3.heap.size a.defers wr) (μ := fun a _ => T - (intOf ((a.tmps[48]?).getD undef)).toNat) ⟨0, _, by omega, rfl, ⟨rfl, rfl, rfl, rfl, rfl, rfl, rfl, rfl, rfl, rfl, rfl, rfl, rfl, rfl, rfl, rfl, rfl, rfl, rfl, rfl, rfl, rfl, rfl, rfl, rfl, rfl, rfl, rfl, rfl, rfl, rfl, rfl, rfl, rfl, rfl, rfl, rfl, rfl, rfl, rfl, rfl, trivial⟩, gr0 _, MRow.nil _ _ _ _, trivial⟩ ?_
  focus
    rintro ⟨tm, ds⟩ wr ⟨j, vo, hj, hsz, hC, HB, HM4, HD⟩
    simp only at hsz hC HD
    obtain ⟨fu, rfl⟩ := explode150 tm hsz
    obtain ⟨ec, hC⟩ := hC
    have e0 : fu 0 = _ := Option.some.inj ec
    clear ec; rw [e0]; clear e0
    obtain ⟨ec, hC⟩ := hC
    have e1 : fu 1 = _ := Option.some.inj ec
    clear ec; rw [e1]; clear e1
    obtain ⟨ec, hC⟩ := hC
    have e2 : fu 2 = _ := Option.some.inj ec
    clear ec; rw [e2]; clear e2
    obtain ⟨ec, hC⟩ := hC
    have e3 : fu 3 = _ := Option.some.inj ec
    clear ec; rw [e3]; clear e3
    obtain ⟨ec, hC⟩ := hC
    have e4 : fu 4 = _ := Option.some.inj ec
    clear ec; rw [e4]; clear e4
    obtain ⟨ec, hC⟩ := hC
    have e5 : fu 5 = _ := Option.some.inj ec
    clear ec; rw [e5]; clear e5
    obtain ⟨ec, hC⟩ := hC
    have e6 : fu 6 = _ := Option.some.inj ec
    clear ec; rw [e6]; clear e6
    obtain ⟨ec, hC⟩ := hC
    have e7 : fu 7 = _ := Option.some.inj ec
    clear ec; rw [e7]; clear e7
    obtain ⟨ec, hC⟩ := hC
    have e8 : fu 8 = _ := Option.some.inj ec
    clear ec; rw [e8]; clear e8
    obtain ⟨ec, hC⟩ := hC
    have e9 : fu 9 = _ := Option.some.inj ec
    clear ec; rw [e9]; clear e9
    obtain ⟨ec, hC⟩ := hC
    have e10 : fu 10 = _ := Option.some.inj ec
    clear ec; rw [e10]; clear e10
    obtain ⟨ec, hC⟩ := hC
    have e11 : fu 11 = _ := Option.some.inj ec
    clear ec; rw [e11]; clear e11
    obtain ⟨ec, hC⟩ := hC
    have e23 : fu 23 = _ := Option.some.inj ec
    clear ec; rw [e23]; clear e23
    obtain ⟨ec, hC⟩ := hC
    have e24 : fu 24 = _ := Option.some.inj ec
    clear ec; rw [e24]; clear e24
    obtain ⟨ec, hC⟩ := hC
    have e25 : fu 25 = _ := Option.some.inj ec
    clear ec; rw [e25]; clear e25
    obtain ⟨ec, hC⟩ := hC
    have e26 : fu 26 = _ := Option.some.inj ec
    clear ec; rw [e26]; clear e26
    obtain ⟨ec, hC⟩ := hC
    have e27 : fu 27 = _ := Option.some.inj ec
    clear ec; rw [e27]; clear e27
    obtain ⟨ec, hC⟩ := hC
    have e28 : fu 28 = _ := Option.some.inj ec
    clear ec; rw [e28]; clear e28
    obtain ⟨ec, hC⟩ := hC
    have e29 : fu 29 = _ := Option.some.inj ec
    clear ec; rw [e29]; clear e29
    obtain ⟨ec, hC⟩ := hC
    have e30 : fu 30 = _ := Option.some.inj ec
    clear ec; rw [e30]; clear e30
    obtain ⟨ec, hC⟩ := hC
    have e31 : fu 31 = _ := Option.some.inj ec
    clear ec; rw [e31]; clear e31
    obtain ⟨ec, hC⟩ := hC
    have e32 : fu 32 = _ := Option.some.inj ec
    clear ec; rw [e32]; clear e32
    obtain ⟨ec, hC⟩ := hC
    have e33 : fu 33 = _ := Option.some.inj ec
    clear ec; rw [e33]; clear e33
    obtain ⟨ec, hC⟩ := hC
    have e34 : fu 34 = _ := Option.some.inj ec
    clear ec; rw [e34]; clear e34
    obtain ⟨ec, hC⟩ := hC
    have e35 : fu 35 = _ := Option.some.inj ec
    clear ec; rw [e35]; clear e35
    obtain ⟨ec, hC⟩ := hC
    have e36 : fu 36 = _ := Option.some.inj ec
    clear ec; rw [e36]; clear e36
    obtain ⟨ec, hC⟩ := hC
    have e37 : fu 37 = _ := Option.some.inj ec
    clear ec; rw [e37]; clear e37
    obtain ⟨ec, hC⟩ := hC
    have e38 : fu 38 = _ := Option.some.inj ec
    clear ec; rw [e38]; clear e38
    obtain ⟨ec, hC⟩ := hC
    have e39 : fu 39 = _ := Option.some.inj ec
    clear ec; rw [e39]; clear e39
    obtain ⟨ec, hC⟩ := hC
    have e40 : fu 40 = _ := Option.some.inj ec
    clear ec; rw [e40]; clear e40
    obtain ⟨ec, hC⟩ := hC
    have e41 : fu 41 = _ := Option.some.inj ec
    clear ec; rw [e41]; clear e41
    obtain ⟨ec, hC⟩ := hC
    have e42 : fu 42 = _ := Option.some.inj ec
    clear ec; rw [e42]; clear e42
    obtain ⟨ec, hC⟩ := hC
    have e43 : fu 43 = _ := Option.some.inj ec
    clear ec; rw [e43]; clear e43
    obtain ⟨ec, hC⟩ := hC
    have e44 : fu 44 = _ := Option.some.inj ec
    clear ec; rw [e44]; clear e44
    obtain ⟨ec, hC⟩ := hC
    have e45 : fu 45 = _ := Option.some.inj ec
    clear ec; rw [e45]; clear e45
    obtain ⟨ec, hC⟩ := hC
    have e46 : fu 46 = _ := Option.some.inj ec
    clear ec; rw [e46]; clear e46
    obtain ⟨ec, hC⟩ := hC
    have e47 : fu 47 = _ := Option.some.inj ec
    clear ec; rw [e47]; clear e47
    obtain ⟨ec, hC⟩ := hC
    have e60 : fu 60 = _ := Option.some.inj ec
    clear ec; rw [e60]; clear e60
    obtain ⟨ec, hC⟩ := hC
    have e149 : fu 149 = _ := Option.some.inj ec
    clear ec; rw [e149]; clear e149
    obtain ⟨ec, hC⟩ := hC
    have e12 : fu 12 = _ := Option.some.inj ec
    clear ec; rw [e12]; clear e12
    obtain ⟨ec, hC⟩ := hC
    have e48 : fu 48 = _ := Option.some.inj ec
    clear ec; rw [e48]; clear e48
    clear hC hsz
    by_cases hlt : j < T
    · have t1 : decide ((j : Int) < T) = true := by simp; omega
      have hj9 : (0 : Int) ≤ j ∧ (j : Int) ≤ 1048576 := by omega
      have r1 : Int.tmod (j : Int) (A : Int) = ((j % A : Nat) : Int) := by rw [Int.tmod_eq_emod_of_nonneg (by omega)]; omega
      have r2 : Int.tdiv (j : Int) (A : Int) = ((j / A : Nat) : Int) := by rw [Int.tdiv_eq_ediv_of_nonneg (by omega)]; omega
      have r3 : ((j % A : Nat) : Int) ≤ 65535 := by have := Nat.mod_lt j (show 0 < A by omega); omega
      have r4 : ((j / A : Nat) : Int) ≤ 65535 := by
        have : j / A < B := Nat.div_lt_of_lt_mul (by have h : ((A * B : Nat) : Int) = T := by rw [← hTe]; simp
                                                     omega)
        omega
      obtain ⟨px, hpx⟩ : ∃ px, j % A = px := ⟨_, rfl⟩
      obtain ⟨py, hpy⟩ : ∃ py, j / A = py := ⟨_, rfl⟩
      rw [hpx] at r1 r3
      rw [hpy] at r2 r4
      have HPX := hid2 hpx
      have HPY := hid2 hpy
      have sp := hid2 (SP.out.below HB)
      have HBr := hid2 HB
      have HMr := hid2 HM4
      have HDr := hid2 HD
      have z4 := heap_lt sp.out.h4
      have q4 := cells_at sp.out.h4 2
      simp at q4
      clear HB HM4 HD hpx hpy
      go_wp2_with (refine wp_region_calm_tail 8 (by kernel_rfl) (by kernel_rfl) ?_; simp only [List.take_succ_cons, List.take_zero, List.drop_succ_cons, List.drop_zero])
      (repeat (first | go_big_quiet_step (fail) | quiet_step (fail)))
      refine wpQuiet_nil ?_
      intro u
      have g14 := bh u.below (heap_alloc_new wr (.cells #[.slice none 0 0] 73))
      obtain ⟨s, hs⟩ : ∃ s, u.at_.heap.size = s := ⟨_, rfl⟩
      have hpl := places_ m px py u.at_
      rw [hs] at hpl
      go_wp2_with (go_at_call 54; refine hpl.mono ?_; rintro e W5 ⟨rfl, h5⟩; have hW5 := hid2 h5; clear h5)
      have p0 : W5.heap[s]? = some (.cells #[.int .i64 m] 3 (0, 0)) := by rw [hW5.out]; exact bh (gr1 (gr1 (gr0 _) _) _) (heap_alloc_at hs.symm)
      have p1 : W5.heap[s + 1]? = some (.cells #[.int .i64 px] 3 (0, 0)) := by rw [hW5.out]; exact bh (gr1 (gr0 _) _) (heap_alloc_at (by simp [hs]))
      have p2 : W5.heap[s + 2]? = some (.cells #[.int .i64 py] 3 (0, 0)) := by rw [hW5.out]; exact heap_alloc_at (by simp [hs])
      have B5 : Below (wr.alloc (.cells #[.slice none 0 0] 73)).heap.size (wr.alloc (.cells #[.slice none 0 0] 73)) W5 := by rw [hW5.out]; exact gr1 (gr1 (gr1 u.below _) _) _
      have g14 : W5.heap[wr.heap.size]? = some (.cells #[.slice none 0 0] 73 (0, 0)) := bh B5 (heap_alloc_new _ _)
      have B5 := hid2 (gr2 (gr1 (gr0 wr) _) B5)
      clear hpl hW5 hs q4 z4
      refine (wpIn_wide (n := 12)).1 ?_
      refine range_all (en := enP) (Kp := Kp2 [s, s + 1, s + 2]) rfl (by omega) (gf := 73) (bd := #[]) (lb := #[.pointer (some ⟨s, 0, none⟩), .pointer (some ⟨s + 1, 0, none⟩), .pointer (some ⟨s + 2, 0, none⟩)]) rfl trivial (enters_of Try.func73 (by kernel_rfl) rfl) (each_pls HM.out ⟨by omega, r3⟩ ⟨by omega, r4⟩ p0 p1 p2 (gr0 W5) _ (by omega)) Kp2.trans (kp2_b (by have := heap_lt p2; simp; omega)) (gr0 W5) (fun _ => rfl)
        (SpI wr [s, s + 1, s + 2] (blkOf x y (partF m L))) (SpAx wr [s, s + 1, s + 2] (blkOf x y (partF m L)) (fun p b15 => { tmps := #[opsP, Value.agg #[Value.int IntKind.i64 x, Value.int IntKind.i64 y, Value.int IntKind.i64 m, Value.int IntKind.i64 q, Value.int IntKind.i64 i, Value.int IntKind.i64 c], Value.slice (some { block := pg, off := 0 }) N pc, Value.pointer (some { block := w.heap.size, off := 0 }), Value.pointer (some { block := w.heap.size + 1, off := 0 }), undef, Value.slice none 0 0, Value.int IntKind.i64 ↑N, Value.bool true, Value.pointer (some { block := b9, off := 0 }), Value.int IntKind.i64 ↑A, Value.int IntKind.i64 ↑B, vo, Value.int IntKind.i64 ↑j, Value.pointer (some { block := wr.heap.size, off := 0 }), Value.pointer (some ⟨b15, 0, none⟩), fu 16, fu 17, fu 18, fu 19, fu 20, fu 21, fu 22, Value.tuple #[Value.int IntKind.i64 ↑N, Value.bool true], Value.agg #[Value.int IntKind.i64 x, Value.int IntKind.i64 y, Value.int IntKind.i64 m, Value.int IntKind.i64 q, Value.int IntKind.i64 i, Value.int IntKind.i64 c], Value.tuple #[Value.int IntKind.i64 ↑N, Value.bool true], Value.int IntKind.i64 ↑N, Value.bool true, Value.bool true, Value.bool false, Value.bool false, Value.slice (some { block := pg, off := 0 }) N pc, Value.int IntKind.i64 ↑N, Value.int IntKind.i64 ↑N, Value.bool false, Value.bool false, Value.agg #[Value.func (Fn.func 56) #[] #[], Value.func (Fn.func 57) #[] #[], Value.func (Fn.func 58) #[] #[], Value.func (Fn.func 59) #[] #[], Value.func (Fn.func 60) #[] #[], Value.func (Fn.func 61) #[] #[]], Value.agg #[Value.int IntKind.i64 x, Value.int IntKind.i64 y, Value.int IntKind.i64 m, Value.int IntKind.i64 q, Value.int IntKind.i64 i, Value.int IntKind.i64 c], Value.slice (some { block := pg, off := 0 }) N pc, Value.agg #[v0, v1, v2], Value.tuple #[Value.int IntKind.i64 ↑A, Value.int IntKind.i64 ↑B], Value.agg #[Value.int IntKind.i64 x, Value.int IntKind.i64 y, Value.int IntKind.i64 m, Value.int IntKind.i64 q, Value.int IntKind.i64 i, Value.int IntKind.i64 c], Value.tuple #[Value.int IntKind.i64 ↑A, Value.int IntKind.i64 ↑B], Value.int IntKind.i64 ↑A, Value.int IntKind.i64 ↑B, Value.int IntKind.i64 ↑A, Value.int IntKind.i64 ↑B, Value.int IntKind.i64 ↑T, Value.int IntKind.i64 ↑j, Value.bool true, Value.int IntKind.i64 ↑j, Value.pointer (some { block := w.heap.size + 1, off := 2 }), Value.int IntKind.i64 m, Value.int IntKind.i64 ↑j, Value.int IntKind.i64 ↑A, Value.int IntKind.i64 ↑px, Value.int IntKind.i64 ↑j, Value.int IntKind.i64 ↑A, Value.int IntKind.i64 ↑py, Value.func (Fn.func 73) #[] #[Value.pointer (some { block := s, off := 0 }), Value.pointer (some { block := s + 1, off := 0 }), Value.pointer (some { block := s + 2, off := 0 })], Value.agg #[Value.int .i64 p.part, Value.int .i64 p.x, Value.int .i64 p.y, Value.int .i64 p.across, Value.int .i64 p.down], fu 61, fu 62, fu 63, fu 64, fu 65, fu 66, fu 67, fu 68, fu 69, fu 70, fu 71, fu 72, fu 73, fu 74, fu 75, fu 76, fu 77, fu 78, fu 79, fu 80, fu 81, fu 82, fu 83, fu 84, fu 85, fu 86, fu 87, fu 88, fu 89, fu 90, fu 91, fu 92, fu 93, fu 94, fu 95, fu 96, fu 97, fu 98, fu 99, fu 100, fu 101, fu 102, fu 103, fu 104, fu 105, fu 106, fu 107, fu 108, fu 109, fu 110, fu 111, fu 112, fu 113, fu 114, fu 115, fu 116, fu 117, fu 118, fu 119, fu 120, fu 121, fu 122, fu 123, fu 124, fu 125, fu 126, fu 127, fu 128, fu 129, fu 130, fu 131, fu 132, fu 133, fu 134, fu 135, fu 136, fu 137, fu 138, fu 139, fu 140, fu 141, fu 142, fu 143, fu 144, fu 145, fu 146, fu 147, fu 148, undef], defers := [] })) (spI_own _ _ _ B5.out.size) (spAx_own _ _ _ _ B5.out.size) ⟨B5.out, fun b hb => (by simp only [List.mem_cons, List.not_mem_nil, or_false] at hb; rcases hb with rfl | rfl | rfl; exact ⟨_, _, p0⟩; exact ⟨_, _, p1⟩; exact ⟨_, _, p2⟩), _, rfl, g14, BRow.nil _ _ _⟩ ?assign ?body ?done
      case assign =>
        rintro l pre ⟨pa, pX, pY, pac, pdn⟩ W hI hpre
        have zs : s + 2 < W.heap.size := by obtain ⟨_, _, h⟩ := hI.2.1 (s + 2) (by simp); exact heap_lt h
        have hI := hid2 hI
        simp only [enP]
        gi_wp2
        exact ⟨KeepsOthers.alloc _ _, kp2_below (by simp; omega) (gr1 (gr0 _) _), W.heap.size, rfl, heap_alloc_new _ _, by obtain ⟨_, _, _, _, h3, _⟩ := hI.out; exact heap_lt h3, hI.out.below (gr1 (gr0 _) _)⟩
      case body =>
        rintro l pre p a' W ⟨b15, rfl, h15, hb15, hI⟩ hpre
        have hok := plsM_ok HM.out (x := px) (y := py) ⟨by omega, r3⟩ ⟨by omega, r4⟩ p (hpre.subset (by simp))
        have zs : s + 2 < W.heap.size := by obtain ⟨_, _, h⟩ := hI.2.1 (s + 2) (by simp); exact heap_lt h
        obtain ⟨g, cp, rb⟩ := (sp.out.below hI.1).rb hok h15
        have RBW := rb
        have HI := hid2 hI
        have HOK := hid2 hok
        have hnn : (((x * y).toNat : Nat) : Int) = x * y := Int.toNat_of_nonneg (Int.mul_nonneg (by have := HGG.out.2.1.1; omega) (by have := HGG.out.2.2.1; omega))
        obtain ⟨nn, hnn0⟩ : ∃ nn, (x * y).toNat = nn := ⟨_, rfl⟩
        rw [hnn0] at hnn RBW
        have hnn9 : (nn : Int) ≤ 1048576 := by omega
        have RBW := hid2 RBW
        clear hnn0
        obtain ⟨⟨⟨k1, k2⟩, -⟩, ⟨k3, k4⟩, ⟨k5, k6⟩, hcase⟩ := hok
        have e0 := cells_at h15 0
        have e3 := cells_at h15 3
        have e4 := cells_at h15 4
        simp at e0 e3 e4
        have z15 := heap_lt h15
        clear hI rb h15
        obtain ⟨pa, pX, pY, pac, pdn⟩ := p
        simp only at k1 k2 k3 k4 k5 k6 hcase e0 e3 e4
        have hLO : ∀ (a9 : Act) (w9 : World), ¬ (Exit.outgrown = Exit.normal ∧ KeepsOthers W w9 ∧ Kp2 [s, s + 1, s + 2] W w9 ∧ SpI wr [s, s + 1, s + 2] (blkOf x y (partF m L)) (pre ++ [⟨pa, pX, pY, pac, pdn⟩]) w9) := fun _ _ h => nomatch h.1
        obtain ⟨wo, hwo⟩ : ∃ wo, wo = wr := ⟨_, rfl⟩
        subst hwo
        rcases hcase with ⟨rfl, rfl⟩ | ⟨rfl, rfl⟩ | ⟨rfl, rfl⟩
        · have hx1 := HGG.out.2.1.1
          have hy1 := HGG.out.2.2.1
          have hx9 := HGG.out.2.1.2
          have hy9 := HGG.out.2.2.2
          gi_wp2_with (first | (refine wpListIn_alloc_41 rfl rfl ?_))
          generalize (Value.agg #[Value.int .i64 x, Value.int .i64 y, Value.int .i64 m, Value.int .i64 q, Value.int .i64 i, Value.int .i64 c]) = zP
          generalize (Value.agg #[Value.func (.func 56) #[] #[], Value.func (.func 57) #[] #[], Value.func (.func 58) #[] #[], Value.func (.func 59) #[] #[], Value.func (.func 60) #[] #[], Value.func (.func 61) #[] #[]]) = zO
          gi_loopw [66] (fun t wk => ∃ k : Nat, k ≤ 64 ∧ t = .int .i64 k ∧ Below W.heap.size W wk ∧ wk.heap[W.heap.size]? = some (.cells (blk (upTo (blkOf x y (partF m L) ⟨pa, pX, pY, 1, 1⟩) k)) 41 (0, 0))) (fun t _ => 64 - (intOf t).toNat)
          case atStart => exact ⟨0, by omega, rfl, gr1 (gr0 _) _, by rw [upTo_0]; exact heap_alloc_new _ _⟩
          case round =>
            obtain ⟨k, hk, rfl, HBk, Hk⟩ := hrel
            by_cases hlt : k < 64
            · clear hpg hN2 gp hT0 hT hTe HTE HAB HM hA0 hA9 hB9 SP n1 HB3 hj9 r1 r2 r3 r4 HPX HPY p0 p1 p2 zs z15 e0 e3 e4 sp HBr HMr HDr g14 hb15 HI hpre HOK t1
              have t1 : decide ((k : Int) < 64) = true := by simp; omega
              have hk9 : (0 : Int) ≤ k ∧ (k : Int) < 64 := by omega
              obtain ⟨km, hkm⟩ : ∃ km, k % 8 = km := ⟨_, rfl⟩
              obtain ⟨kd, hkd⟩ : ∃ kd, k / 8 = kd := ⟨_, rfl⟩
              have u1 : ∀ c : Int, c = 8 → Int.tmod (k : Int) c = km := by rintro c rfl; rw [Int.tmod_eq_emod_of_nonneg (by omega)]; omega
              have u2 : ∀ c : Int, c = 8 → Int.tdiv (k : Int) c = kd := by rintro c rfl; rw [Int.tdiv_eq_ediv_of_nonneg (by omega)]; omega
              have u3 : (0 : Int) ≤ km ∧ (km : Int) ≤ 7 := by omega
              have u4 : (0 : Int) ≤ kd ∧ (kd : Int) ≤ 7 := by omega
              have u5 : (k : Int) % 8 = km := by omega
              have u6 : (k : Int) / 8 = kd := by omega
              obtain ⟨mx0, my0, pr0, id0, hmx0, hmy0, hpr0, hie0, hlt0, hix0, bx0, by0, bp0⟩ := idx7_ok (X := (8 * pX + km)) (Y := (8 * pY + kd)) hx1 hy1 (by omega) (by omega) hnn hn
              obtain ⟨s0, hs0⟩ : ∃ s, partF m L pa.toNat id0 = s := ⟨_, rfl⟩
              have bs0 := partF_bd (m := m) HL.out pa.toNat id0
              rw [hs0] at bs0
              have hli0 : (0 : Int) ≤ id0 ∧ (id0 : Int) < nn := by omega
              have HV : Hid2 (blkOf x y (partF m L) ⟨pa, pX, pY, 1, 1⟩ k = s0) := by
                show bsum x y (partF m L pa.toNat) pX pY 1 1 k 1 / _ = _
                simp only [bsum]
                simp [u5, u6, hix0, hs0]
              have HBk0 := hid2 HBk
              have Hk0 := hid2 Hk
              have RBa := hid2 (RBW.out.below HBk)
              have HBa := hid2 (gr0 wr)
              clear HBk Hk hkm hkd
              have HJ0 := hid2 (And.intro hmx0 (And.intro hmy0 (And.intro hpr0 (And.intro hie0 (And.intro bx0 (And.intro by0 (And.intro bp0 (And.intro bs0 hli0))))))))
              have HS0 := hid2 hs0
              have HLT0 := hid2 hlt0
              clear hmx0 hmy0 hpr0 hie0 bx0 by0 bp0 bs0 hli0 hix0 hs0 hlt0
              have HKK := hid2 (And.intro (And.intro k1 k2) (And.intro hx1 (And.intro hy1 (And.intro hx9 hy9))))
              clear k1 k2 hx1 hy1 hx9 hy9 hnn hnn9 hn u5 u6
              have y3 := heap_lt RBa.out.h3
              have o0 := cells_at RBa.out.h3 0
              simp at o0
              gi_wp2_with (first | (refine ⟨trivial, (callsIn_of (pl_of _ _)).mono ?_⟩; rintro e Xb ⟨rfl, hb⟩))
              clear y3 o0
              have RBb := hid2 (RBa.out.below hb)
              have HBb := hid2 (gr2 HBa.out hb)
              clear HBa RBa
              clear hb
              gi_wp2
              refine wpIn_loop_rounds 2 ?_
              rw [roundsIn_succ]
              have y15 := heap_lt RBb.out.h15
              have q1 := cells_at RBb.out.h15 1
              have q3 := cells_at RBb.out.h15 3
              simp at q1 q3
              gi_wp2_with (refine wpIn_region_calm_tail 14 (by kernel_rfl) (by kernel_rfl) (fun ⟨a9, w9, h9⟩ => hLO a9 w9 h9) ?_)
              simp only [List.take_succ_cons, List.take_zero, List.drop_succ_cons, List.drop_zero]
              (repeat (first | go_big_quiet_step (fail) | quiet_step (fail)))
              refine wpQuiet_nil ?_
              intro u
              obtain ⟨Xc, hb⟩ := u
              simp only
              clear y15 q1 q3
              have RBc := hid2 (RBb.out.below hb)
              have HBc := hid2 (gr2 HBb.out hb)
              clear HBb RBb
              clear hb
              go_wp2
              have y15 := heap_lt RBc.out.h15
              have q2 := cells_at RBc.out.h15 2
              have q4 := cells_at RBc.out.h15 4
              have q3 := cells_at RBc.out.h15 3
              simp at q2 q4 q3
              gi_wp2_with (refine wpIn_region_calm_tail 14 (by kernel_rfl) (by kernel_rfl) (fun ⟨a9, w9, h9⟩ => hLO a9 w9 h9) ?_)
              simp only [List.take_succ_cons, List.take_zero, List.drop_succ_cons, List.drop_zero]
              (repeat (first | go_big_quiet_step (fail) | quiet_step (fail)))
              refine wpQuiet_nil ?_
              intro u
              obtain ⟨Xd, hb⟩ := u
              simp only
              clear y15 q2 q4 q3
              have RBd := hid2 (RBc.out.below hb)
              have HBd := hid2 (gr2 HBc.out hb)
              clear HBc RBc
              clear hb
              go_wp2
              obtain ⟨hmx, hmy, hpr, hid, bx, by_, bp, bs, hli⟩ := HJ0.out
              obtain ⟨⟨k1, k2⟩, hx1, hy1, hx9, hy9⟩ := HKK.out
              have w0 := RBd.out.row id0 HLT0.out
              rw [HS0.out] at w0
              have y3 := heap_lt RBd.out.h3
              have y4 := heap_lt RBd.out.h4
              have y9 := RBd.out.h9
              have y15 := heap_lt RBd.out.h15
              have yg := RBd.out.hg
              have o1 := cells_at RBd.out.h3 1
              have q0 := cells_at RBd.out.h15 0
              have c9 := RBd.out.c9
              have f0 := cells_at RBd.out.h4 0
              have f1 := cells_at RBd.out.h4 1
              simp at o1 q0 c9 f0 f1
              gi_wp2_with (refine wpIn_region_calm_tail 24 (by kernel_rfl) (by kernel_rfl) (fun ⟨a9, w9, h9⟩ => hLO a9 w9 h9) ?_)
              simp only [List.take_succ_cons, List.take_zero, List.drop_succ_cons, List.drop_zero]
              (repeat (first | go_big_quiet_step ((go_at_call 57; exact calm_call (pl_addb _ _ _ (by omega)))) | quiet_step ((go_at_call 57; exact calm_call (pl_addb _ _ _ (by omega))))))
              refine wpQuiet_nil ?_
              intro u
              obtain ⟨Xe, hb⟩ := u
              simp only
              clear w0 hmx hmy hpr hid bx by_ bp hli k1 k2 hx1 hy1 hx9 hy9
              clear y3 y4 y9 y15 yg o1 q0 c9 f0 f1
              have RBe := hid2 (RBd.out.below hb)
              have HBe := hid2 (gr2 HBd.out hb)
              clear HBd RBd
              clear hb
              go_wp2
              gi_wp2
              rw [roundsIn_succ]
              have y3 := heap_lt RBe.out.h3
              have o2 := cells_at RBe.out.h3 2
              simp at o2
              gi_wp2_with (refine wpIn_region_calm_tail 8 (by kernel_rfl) (by kernel_rfl) (fun ⟨a9, w9, h9⟩ => hLO a9 w9 h9) ?_)
              simp only [List.take_succ_cons, List.take_zero, List.drop_succ_cons, List.drop_zero]
              (repeat (first | go_big_quiet_step ((first | (go_at_call 55; exact calm_call (log_1 _)) | (go_at_call 58; exact calm_call (pl_shr0 _ _)))) | quiet_step ((first | (go_at_call 55; exact calm_call (log_1 _)) | (go_at_call 58; exact calm_call (pl_shr0 _ _))))))
              refine wpQuiet_nil ?_
              intro u
              obtain ⟨Xf, hb⟩ := u
              simp only
              clear y3 o2
              have RBf := hid2 (RBe.out.below hb)
              have HBf := hid2 (gr2 HBe.out hb)
              clear HBe RBe
              clear hb
              have Hkn := bh HBf.out Hk0.out
              have b1 := row_cell Hkn hlt
              have b2 := row_free Hkn k
              have b3 := heap_lt Hkn
              clear Hkn
              go_wp2
              gi_wp2
              go_roundw
              case measure => simp [intOf]; omega
              case rel => exact ⟨k + 1, by omega, by go_num, gr4 (gr2 HBk0.out HBf.out) (by simp) _, by have hv := HV.out; (try simp only [Int.zero_add] at hv ⊢); rw [heap_setCell_same _ _ _ _ _ _ (bh HBf.out Hk0.out), ← hv, blk_set]⟩
            · have hk64 : k = 64 := by omega
              subst hk64
              have t1 : decide (((64 : Nat) : Int) < 64) = false := rfl
              rw [blk_all] at Hk
              obtain ⟨hBw, hX, v, h1c, h14, hrow⟩ := HI.out.below HBk
              have d14 := cells_at h14 0
              simp at d14
              have y14 := heap_lt h14
              have y16 := heap_lt Hk
              have HBk0 := hid2 HBk
              have HROW := hid2 hrow
              have HX := hid2 hX
              have HPRE := hid2 hpre
              have h14a := hid2 h14
              have hBw0 := hid2 hBw.size
              clear hBw hX hrow HBk hpre p0 p1 p2 e0 e3 e4
              gi_wp2_with (first | (refine wpListIn_load_row rfl _ _ rfl W.heap.size rfl 41 _ (0, 0) _ Hk Try.underlying41 rfl (by rw [blk_size]; kernel_rfl) ?_) | (refine wpListIn_bs_41 _ _ rfl rfl rfl ?_) | (gi_at_builtin; refine wpListIn_push wo.heap.size (.tmp 140) (.tmp 142) 73 41 rfl rfl Try.underlying73 infos_41 rfl (HROW.out.below (gr1 (gr0 _) _)) rfl (heap_alloc_new _ _) (by have := HROW.out; simp only [List.length_map]; have h9 := HPRE.out.length_le; have h8 := plsM_len (m := m) (x := px) (y := py); simp at h9; omega) (by have := hBw0.out; simp; omega) ?_; rintro v2 w2 hrow2 hsub _; obtain ⟨g2, c2, rfl⟩ := hrow2.shape (by simp); have h14b := hsub.other (bh (gr1 (gr0 _) _) h14a.out) (by decide); have d14b := cells_at h14b 0; have f14b := row_free h14b 0; have y14b := heap_lt h14b; simp at d14b; have HR2 := hid2 hrow2; have HS2 := hid2 hsub; have H14b := hid2 h14b; clear hrow2 hsub h14b))
              have SB := ((((Sub.of_below HBk0.out).trans (Sub.of_below (gr1 (gr0 wr) _))).trans (HS2.out.more (Nat.le_refl _) (by simp))).trans (Sub.set (i := 0) (Nat.le_refl _) H14b.out (by simp) (Value.slice (some ⟨g2, 0, none⟩) (pre.length + 1) c2)) : Sub wo.heap.size [41, 73] W _)
              have hr := HR2.out
              simp only [List.length_append, List.length_map, List.length_singleton] at hr
              refine ⟨SB.others, kp2_sub (fun b hb => by obtain ⟨_, _, h⟩ := HI.out.2.1 b hb; exact heap_lt h) (by decide) (fun b hb => by obtain ⟨c, f, h⟩ := HI.out.2.1 b hb; exact ⟨c, _, f, h, by decide⟩) SB, HI.out.1.trans (SB.below HI.out.1.size), fun b hb => (by obtain ⟨c, f, h⟩ := HI.out.2.1 b hb; exact ⟨c, f, SB.other h (by decide)⟩), _, rfl, heap_setCell_same _ _ _ _ _ _ H14b.out, ?_⟩
              rw [List.map_append]
              exact hr.sub (Sub.set (n0 := wo.heap.size) (ts := [73]) (Nat.le_refl _) H14b.out (by simp) _) (by decide)
        · have hx1 := HGG.out.2.1.1
          have hy1 := HGG.out.2.2.1
          have hx9 := HGG.out.2.1.2
          have hy9 := HGG.out.2.2.2
          gi_wp2_with (first | (refine wpListIn_alloc_41 rfl rfl ?_))
          generalize (Value.agg #[Value.int .i64 x, Value.int .i64 y, Value.int .i64 m, Value.int .i64 q, Value.int .i64 i, Value.int .i64 c]) = zP
          generalize (Value.agg #[Value.func (.func 56) #[] #[], Value.func (.func 57) #[] #[], Value.func (.func 58) #[] #[], Value.func (.func 59) #[] #[], Value.func (.func 60) #[] #[], Value.func (.func 61) #[] #[]]) = zO
          gi_loopw [66] (fun t wk => ∃ k : Nat, k ≤ 64 ∧ t = .int .i64 k ∧ Below W.heap.size W wk ∧ wk.heap[W.heap.size]? = some (.cells (blk (upTo (blkOf x y (partF m L) ⟨pa, pX, pY, 2, 1⟩) k)) 41 (0, 0))) (fun t _ => 64 - (intOf t).toNat)
          case atStart => exact ⟨0, by omega, rfl, gr1 (gr0 _) _, by rw [upTo_0]; exact heap_alloc_new _ _⟩
          case round =>
            obtain ⟨k, hk, rfl, HBk, Hk⟩ := hrel
            by_cases hlt : k < 64
            · clear hpg hN2 gp hT0 hT hTe HTE HAB HM hA0 hA9 hB9 SP n1 HB3 hj9 r1 r2 r3 r4 HPX HPY p0 p1 p2 zs z15 e0 e3 e4 sp HBr HMr HDr g14 hb15 HI hpre HOK t1
              have t1 : decide ((k : Int) < 64) = true := by simp; omega
              have hk9 : (0 : Int) ≤ k ∧ (k : Int) < 64 := by omega
              obtain ⟨km, hkm⟩ : ∃ km, k % 8 = km := ⟨_, rfl⟩
              obtain ⟨kd, hkd⟩ : ∃ kd, k / 8 = kd := ⟨_, rfl⟩
              have u1 : ∀ c : Int, c = 8 → Int.tmod (k : Int) c = km := by rintro c rfl; rw [Int.tmod_eq_emod_of_nonneg (by omega)]; omega
              have u2 : ∀ c : Int, c = 8 → Int.tdiv (k : Int) c = kd := by rintro c rfl; rw [Int.tdiv_eq_ediv_of_nonneg (by omega)]; omega
              have u3 : (0 : Int) ≤ km ∧ (km : Int) ≤ 7 := by omega
              have u4 : (0 : Int) ≤ kd ∧ (kd : Int) ≤ 7 := by omega
              have u5 : (k : Int) % 8 = km := by omega
              have u6 : (k : Int) / 8 = kd := by omega
              obtain ⟨mx0, my0, pr0, id0, hmx0, hmy0, hpr0, hie0, hlt0, hix0, bx0, by0, bp0⟩ := idx7_ok (X := (8 * pX + km) * 2) (Y := (8 * pY + kd)) hx1 hy1 (by omega) (by omega) hnn hn
              obtain ⟨s0, hs0⟩ : ∃ s, partF m L pa.toNat id0 = s := ⟨_, rfl⟩
              have bs0 := partF_bd (m := m) HL.out pa.toNat id0
              rw [hs0] at bs0
              have hli0 : (0 : Int) ≤ id0 ∧ (id0 : Int) < nn := by omega
              obtain ⟨mx1, my1, pr1, id1, hmx1, hmy1, hpr1, hie1, hlt1, hix1, bx1, by1, bp1⟩ := idx7_ok (X := (8 * pX + km) * 2 + 1) (Y := (8 * pY + kd)) hx1 hy1 (by omega) (by omega) hnn hn
              obtain ⟨s1, hs1⟩ : ∃ s, partF m L pa.toNat id1 = s := ⟨_, rfl⟩
              have bs1 := partF_bd (m := m) HL.out pa.toNat id1
              rw [hs1] at bs1
              have hli1 : (0 : Int) ≤ id1 ∧ (id1 : Int) < nn := by omega
              have HV : Hid2 (blkOf x y (partF m L) ⟨pa, pX, pY, 2, 1⟩ k = (1 + s0 + s1) / 2) := by
                show bsum x y (partF m L pa.toNat) pX pY 2 1 k 2 / _ = _
                simp only [bsum]
                simp [u5, u6, hix0, hs0, hix1, hs1]
              have HBk0 := hid2 HBk
              have Hk0 := hid2 Hk
              have RBa := hid2 (RBW.out.below HBk)
              have HBa := hid2 (gr0 wr)
              clear HBk Hk hkm hkd
              have HJ0 := hid2 (And.intro hmx0 (And.intro hmy0 (And.intro hpr0 (And.intro hie0 (And.intro bx0 (And.intro by0 (And.intro bp0 (And.intro bs0 hli0))))))))
              have HS0 := hid2 hs0
              have HLT0 := hid2 hlt0
              clear hmx0 hmy0 hpr0 hie0 bx0 by0 bp0 bs0 hli0 hix0 hs0 hlt0
              have HJ1 := hid2 (And.intro hmx1 (And.intro hmy1 (And.intro hpr1 (And.intro hie1 (And.intro bx1 (And.intro by1 (And.intro bp1 (And.intro bs1 hli1))))))))
              have HS1 := hid2 hs1
              have HLT1 := hid2 hlt1
              clear hmx1 hmy1 hpr1 hie1 bx1 by1 bp1 bs1 hli1 hix1 hs1 hlt1
              have HKK := hid2 (And.intro (And.intro k1 k2) (And.intro hx1 (And.intro hy1 (And.intro hx9 hy9))))
              clear k1 k2 hx1 hy1 hx9 hy9 hnn hnn9 hn u5 u6
              have y3 := heap_lt RBa.out.h3
              have o0 := cells_at RBa.out.h3 0
              simp at o0
              gi_wp2_with (first | (refine ⟨trivial, (callsIn_of (pl_of _ _)).mono ?_⟩; rintro e Xb ⟨rfl, hb⟩))
              clear y3 o0
              have RBb := hid2 (RBa.out.below hb)
              have HBb := hid2 (gr2 HBa.out hb)
              clear HBa RBa
              clear hb
              gi_wp2
              refine wpIn_loop_rounds 3 ?_
              rw [roundsIn_succ]
              have y15 := heap_lt RBb.out.h15
              have q1 := cells_at RBb.out.h15 1
              have q3 := cells_at RBb.out.h15 3
              simp at q1 q3
              gi_wp2_with (refine wpIn_region_calm_tail 14 (by kernel_rfl) (by kernel_rfl) (fun ⟨a9, w9, h9⟩ => hLO a9 w9 h9) ?_)
              simp only [List.take_succ_cons, List.take_zero, List.drop_succ_cons, List.drop_zero]
              (repeat (first | go_big_quiet_step (fail) | quiet_step (fail)))
              refine wpQuiet_nil ?_
              intro u
              obtain ⟨Xc, hb⟩ := u
              simp only
              clear y15 q1 q3
              have RBc := hid2 (RBb.out.below hb)
              have HBc := hid2 (gr2 HBb.out hb)
              clear HBb RBb
              clear hb
              go_wp2
              have y15 := heap_lt RBc.out.h15
              have q2 := cells_at RBc.out.h15 2
              have q4 := cells_at RBc.out.h15 4
              have q3 := cells_at RBc.out.h15 3
              simp at q2 q4 q3
              gi_wp2_with (refine wpIn_region_calm_tail 14 (by kernel_rfl) (by kernel_rfl) (fun ⟨a9, w9, h9⟩ => hLO a9 w9 h9) ?_)
              simp only [List.take_succ_cons, List.take_zero, List.drop_succ_cons, List.drop_zero]
              (repeat (first | go_big_quiet_step (fail) | quiet_step (fail)))
              refine wpQuiet_nil ?_
              intro u
              obtain ⟨Xd, hb⟩ := u
              simp only
              clear y15 q2 q4 q3
              have RBd := hid2 (RBc.out.below hb)
              have HBd := hid2 (gr2 HBc.out hb)
              clear HBc RBc
              clear hb
              go_wp2
              obtain ⟨hmx, hmy, hpr, hid, bx, by_, bp, bs, hli⟩ := HJ0.out
              obtain ⟨⟨k1, k2⟩, hx1, hy1, hx9, hy9⟩ := HKK.out
              have w0 := RBd.out.row id0 HLT0.out
              rw [HS0.out] at w0
              have y3 := heap_lt RBd.out.h3
              have y4 := heap_lt RBd.out.h4
              have y9 := RBd.out.h9
              have y15 := heap_lt RBd.out.h15
              have yg := RBd.out.hg
              have o1 := cells_at RBd.out.h3 1
              have q0 := cells_at RBd.out.h15 0
              have c9 := RBd.out.c9
              have f0 := cells_at RBd.out.h4 0
              have f1 := cells_at RBd.out.h4 1
              simp at o1 q0 c9 f0 f1
              gi_wp2_with (refine wpIn_region_calm_tail 24 (by kernel_rfl) (by kernel_rfl) (fun ⟨a9, w9, h9⟩ => hLO a9 w9 h9) ?_)
              simp only [List.take_succ_cons, List.take_zero, List.drop_succ_cons, List.drop_zero]
              (repeat (first | go_big_quiet_step ((go_at_call 57; exact calm_call (pl_addb _ _ _ (by omega)))) | quiet_step ((go_at_call 57; exact calm_call (pl_addb _ _ _ (by omega))))))
              refine wpQuiet_nil ?_
              intro u
              obtain ⟨Xe, hb⟩ := u
              simp only
              clear w0 hmx hmy hpr hid bx by_ bp hli k1 k2 hx1 hy1 hx9 hy9
              clear y3 y4 y9 y15 yg o1 q0 c9 f0 f1
              have RBe := hid2 (RBd.out.below hb)
              have HBe := hid2 (gr2 HBd.out hb)
              clear HBd RBd
              clear hb
              go_wp2
              gi_wp2
              rw [roundsIn_succ]
              have y15 := heap_lt RBe.out.h15
              have q1 := cells_at RBe.out.h15 1
              have q3 := cells_at RBe.out.h15 3
              simp at q1 q3
              gi_wp2_with (refine wpIn_region_calm_tail 14 (by kernel_rfl) (by kernel_rfl) (fun ⟨a9, w9, h9⟩ => hLO a9 w9 h9) ?_)
              simp only [List.take_succ_cons, List.take_zero, List.drop_succ_cons, List.drop_zero]
              (repeat (first | go_big_quiet_step (fail) | quiet_step (fail)))
              refine wpQuiet_nil ?_
              intro u
              obtain ⟨Xf, hb⟩ := u
              simp only
              clear y15 q1 q3
              have RBf := hid2 (RBe.out.below hb)
              have HBf := hid2 (gr2 HBe.out hb)
              clear HBe RBe
              clear hb
              go_wp2
              have y15 := heap_lt RBf.out.h15
              have q2 := cells_at RBf.out.h15 2
              have q4 := cells_at RBf.out.h15 4
              have q3 := cells_at RBf.out.h15 3
              simp at q2 q4 q3
              gi_wp2_with (refine wpIn_region_calm_tail 14 (by kernel_rfl) (by kernel_rfl) (fun ⟨a9, w9, h9⟩ => hLO a9 w9 h9) ?_)
              simp only [List.take_succ_cons, List.take_zero, List.drop_succ_cons, List.drop_zero]
              (repeat (first | go_big_quiet_step (fail) | quiet_step (fail)))
              refine wpQuiet_nil ?_
              intro u
              obtain ⟨Xg, hb⟩ := u
              simp only
              clear y15 q2 q4 q3
              have RBg := hid2 (RBf.out.below hb)
              have HBg := hid2 (gr2 HBf.out hb)
              clear HBf RBf
              clear hb
              go_wp2
              obtain ⟨hmx, hmy, hpr, hid, bx, by_, bp, bs, hli⟩ := HJ1.out
              obtain ⟨⟨k1, k2⟩, hx1, hy1, hx9, hy9⟩ := HKK.out
              have w1 := RBg.out.row id1 HLT1.out
              rw [HS1.out] at w1
              have y3 := heap_lt RBg.out.h3
              have y4 := heap_lt RBg.out.h4
              have y9 := RBg.out.h9
              have y15 := heap_lt RBg.out.h15
              have yg := RBg.out.hg
              have o1 := cells_at RBg.out.h3 1
              have q0 := cells_at RBg.out.h15 0
              have c9 := RBg.out.c9
              have f0 := cells_at RBg.out.h4 0
              have f1 := cells_at RBg.out.h4 1
              simp at o1 q0 c9 f0 f1
              gi_wp2_with (refine wpIn_region_calm_tail 24 (by kernel_rfl) (by kernel_rfl) (fun ⟨a9, w9, h9⟩ => hLO a9 w9 h9) ?_)
              simp only [List.take_succ_cons, List.take_zero, List.drop_succ_cons, List.drop_zero]
              (repeat (first | go_big_quiet_step ((go_at_call 57; exact calm_call (pl_addb _ _ _ (by omega)))) | quiet_step ((go_at_call 57; exact calm_call (pl_addb _ _ _ (by omega))))))
              refine wpQuiet_nil ?_
              intro u
              obtain ⟨Xh, hb⟩ := u
              simp only
              clear w1 hmx hmy hpr hid bx by_ bp hli k1 k2 hx1 hy1 hx9 hy9
              clear y3 y4 y9 y15 yg o1 q0 c9 f0 f1
              have RBh := hid2 (RBg.out.below hb)
              have HBh := hid2 (gr2 HBg.out hb)
              clear HBg RBg
              clear hb
              go_wp2
              gi_wp2
              rw [roundsIn_succ]
              have y3 := heap_lt RBh.out.h3
              have o2 := cells_at RBh.out.h3 2
              simp at o2
              gi_wp2_with (refine wpIn_region_calm_tail 8 (by kernel_rfl) (by kernel_rfl) (fun ⟨a9, w9, h9⟩ => hLO a9 w9 h9) ?_)
              simp only [List.take_succ_cons, List.take_zero, List.drop_succ_cons, List.drop_zero]
              (repeat (first | go_big_quiet_step ((first | (go_at_call 55; exact calm_call (log_2 _)) | (go_at_call 58; exact calm_call (pl_shr1 _ _)))) | quiet_step ((first | (go_at_call 55; exact calm_call (log_2 _)) | (go_at_call 58; exact calm_call (pl_shr1 _ _))))))
              refine wpQuiet_nil ?_
              intro u
              obtain ⟨Xi, hb⟩ := u
              simp only
              clear y3 o2
              have RBi := hid2 (RBh.out.below hb)
              have HBi := hid2 (gr2 HBh.out hb)
              clear HBh RBh
              clear hb
              have Hkn := bh HBi.out Hk0.out
              have b1 := row_cell Hkn hlt
              have b2 := row_free Hkn k
              have b3 := heap_lt Hkn
              clear Hkn
              go_wp2
              gi_wp2
              go_roundw
              case measure => simp [intOf]; omega
              case rel => exact ⟨k + 1, by omega, by go_num, gr4 (gr2 HBk0.out HBi.out) (by simp) _, by have hv := HV.out; (try simp only [Int.zero_add] at hv ⊢); rw [heap_setCell_same _ _ _ _ _ _ (bh HBi.out Hk0.out), ← hv, blk_set]⟩
            · have hk64 : k = 64 := by omega
              subst hk64
              have t1 : decide (((64 : Nat) : Int) < 64) = false := rfl
              rw [blk_all] at Hk
              obtain ⟨hBw, hX, v, h1c, h14, hrow⟩ := HI.out.below HBk
              have d14 := cells_at h14 0
              simp at d14
              have y14 := heap_lt h14
              have y16 := heap_lt Hk
              have HBk0 := hid2 HBk
              have HROW := hid2 hrow
              have HX := hid2 hX
              have HPRE := hid2 hpre
              have h14a := hid2 h14
              have hBw0 := hid2 hBw.size
              clear hBw hX hrow HBk hpre p0 p1 p2 e0 e3 e4
              gi_wp2_with (first | (refine wpListIn_load_row rfl _ _ rfl W.heap.size rfl 41 _ (0, 0) _ Hk Try.underlying41 rfl (by rw [blk_size]; kernel_rfl) ?_) | (refine wpListIn_bs_41 _ _ rfl rfl rfl ?_) | (gi_at_builtin; refine wpListIn_push wo.heap.size (.tmp 140) (.tmp 142) 73 41 rfl rfl Try.underlying73 infos_41 rfl (HROW.out.below (gr1 (gr0 _) _)) rfl (heap_alloc_new _ _) (by have := HROW.out; simp only [List.length_map]; have h9 := HPRE.out.length_le; have h8 := plsM_len (m := m) (x := px) (y := py); simp at h9; omega) (by have := hBw0.out; simp; omega) ?_; rintro v2 w2 hrow2 hsub _; obtain ⟨g2, c2, rfl⟩ := hrow2.shape (by simp); have h14b := hsub.other (bh (gr1 (gr0 _) _) h14a.out) (by decide); have d14b := cells_at h14b 0; have f14b := row_free h14b 0; have y14b := heap_lt h14b; simp at d14b; have HR2 := hid2 hrow2; have HS2 := hid2 hsub; have H14b := hid2 h14b; clear hrow2 hsub h14b))
              have SB := ((((Sub.of_below HBk0.out).trans (Sub.of_below (gr1 (gr0 wr) _))).trans (HS2.out.more (Nat.le_refl _) (by simp))).trans (Sub.set (i := 0) (Nat.le_refl _) H14b.out (by simp) (Value.slice (some ⟨g2, 0, none⟩) (pre.length + 1) c2)) : Sub wo.heap.size [41, 73] W _)
              have hr := HR2.out
              simp only [List.length_append, List.length_map, List.length_singleton] at hr
              refine ⟨SB.others, kp2_sub (fun b hb => by obtain ⟨_, _, h⟩ := HI.out.2.1 b hb; exact heap_lt h) (by decide) (fun b hb => by obtain ⟨c, f, h⟩ := HI.out.2.1 b hb; exact ⟨c, _, f, h, by decide⟩) SB, HI.out.1.trans (SB.below HI.out.1.size), fun b hb => (by obtain ⟨c, f, h⟩ := HI.out.2.1 b hb; exact ⟨c, f, SB.other h (by decide)⟩), _, rfl, heap_setCell_same _ _ _ _ _ _ H14b.out, ?_⟩
              rw [List.map_append]
              exact hr.sub (Sub.set (n0 := wo.heap.size) (ts := [73]) (Nat.le_refl _) H14b.out (by simp) _) (by decide)
        · have hx1 := HGG.out.2.1.1
          have hy1 := HGG.out.2.2.1
          have hx9 := HGG.out.2.1.2
          have hy9 := HGG.out.2.2.2
          gi_wp2_with (first | (refine wpListIn_alloc_41 rfl rfl ?_))
          generalize (Value.agg #[Value.int .i64 x, Value.int .i64 y, Value.int .i64 m, Value.int .i64 q, Value.int .i64 i, Value.int .i64 c]) = zP
          generalize (Value.agg #[Value.func (.func 56) #[] #[], Value.func (.func 57) #[] #[], Value.func (.func 58) #[] #[], Value.func (.func 59) #[] #[], Value.func (.func 60) #[] #[], Value.func (.func 61) #[] #[]]) = zO
          gi_loopw [66] (fun t wk => ∃ k : Nat, k ≤ 64 ∧ t = .int .i64 k ∧ Below W.heap.size W wk ∧ wk.heap[W.heap.size]? = some (.cells (blk (upTo (blkOf x y (partF m L) ⟨pa, pX, pY, 2, 2⟩) k)) 41 (0, 0))) (fun t _ => 64 - (intOf t).toNat)
          case atStart => exact ⟨0, by omega, rfl, gr1 (gr0 _) _, by rw [upTo_0]; exact heap_alloc_new _ _⟩
          case round =>
            obtain ⟨k, hk, rfl, HBk, Hk⟩ := hrel
            by_cases hlt : k < 64
            · clear hpg hN2 gp hT0 hT hTe HTE HAB HM hA0 hA9 hB9 SP n1 HB3 hj9 r1 r2 r3 r4 HPX HPY p0 p1 p2 zs z15 e0 e3 e4 sp HBr HMr HDr g14 hb15 HI hpre HOK t1
              have t1 : decide ((k : Int) < 64) = true := by simp; omega
              have hk9 : (0 : Int) ≤ k ∧ (k : Int) < 64 := by omega
              obtain ⟨km, hkm⟩ : ∃ km, k % 8 = km := ⟨_, rfl⟩
              obtain ⟨kd, hkd⟩ : ∃ kd, k / 8 = kd := ⟨_, rfl⟩
              have u1 : ∀ c : Int, c = 8 → Int.tmod (k : Int) c = km := by rintro c rfl; rw [Int.tmod_eq_emod_of_nonneg (by omega)]; omega
              have u2 : ∀ c : Int, c = 8 → Int.tdiv (k : Int) c = kd := by rintro c rfl; rw [Int.tdiv_eq_ediv_of_nonneg (by omega)]; omega
              have u3 : (0 : Int) ≤ km ∧ (km : Int) ≤ 7 := by omega
              have u4 : (0 : Int) ≤ kd ∧ (kd : Int) ≤ 7 := by omega
              have u5 : (k : Int) % 8 = km := by omega
              have u6 : (k : Int) / 8 = kd := by omega
              obtain ⟨mx0, my0, pr0, id0, hmx0, hmy0, hpr0, hie0, hlt0, hix0, bx0, by0, bp0⟩ := idx7_ok (X := (8 * pX + km) * 2) (Y := (8 * pY + kd) * 2) hx1 hy1 (by omega) (by omega) hnn hn
              obtain ⟨s0, hs0⟩ : ∃ s, partF m L pa.toNat id0 = s := ⟨_, rfl⟩
              have bs0 := partF_bd (m := m) HL.out pa.toNat id0
              rw [hs0] at bs0
              have hli0 : (0 : Int) ≤ id0 ∧ (id0 : Int) < nn := by omega
              obtain ⟨mx1, my1, pr1, id1, hmx1, hmy1, hpr1, hie1, hlt1, hix1, bx1, by1, bp1⟩ := idx7_ok (X := (8 * pX + km) * 2 + 1) (Y := (8 * pY + kd) * 2) hx1 hy1 (by omega) (by omega) hnn hn
              obtain ⟨s1, hs1⟩ : ∃ s, partF m L pa.toNat id1 = s := ⟨_, rfl⟩
              have bs1 := partF_bd (m := m) HL.out pa.toNat id1
              rw [hs1] at bs1
              have hli1 : (0 : Int) ≤ id1 ∧ (id1 : Int) < nn := by omega
              obtain ⟨mx2, my2, pr2, id2, hmx2, hmy2, hpr2, hie2, hlt2, hix2, bx2, by2, bp2⟩ := idx7_ok (X := (8 * pX + km) * 2) (Y := (8 * pY + kd) * 2 + 1) hx1 hy1 (by omega) (by omega) hnn hn
              obtain ⟨s2, hs2⟩ : ∃ s, partF m L pa.toNat id2 = s := ⟨_, rfl⟩
              have bs2 := partF_bd (m := m) HL.out pa.toNat id2
              rw [hs2] at bs2
              have hli2 : (0 : Int) ≤ id2 ∧ (id2 : Int) < nn := by omega
              obtain ⟨mx3, my3, pr3, id3, hmx3, hmy3, hpr3, hie3, hlt3, hix3, bx3, by3, bp3⟩ := idx7_ok (X := (8 * pX + km) * 2 + 1) (Y := (8 * pY + kd) * 2 + 1) hx1 hy1 (by omega) (by omega) hnn hn
              obtain ⟨s3, hs3⟩ : ∃ s, partF m L pa.toNat id3 = s := ⟨_, rfl⟩
              have bs3 := partF_bd (m := m) HL.out pa.toNat id3
              rw [hs3] at bs3
              have hli3 : (0 : Int) ≤ id3 ∧ (id3 : Int) < nn := by omega
              have HV : Hid2 (blkOf x y (partF m L) ⟨pa, pX, pY, 2, 2⟩ k = (2 + s0 + s1 + s2 + s3) / 4) := by
                show bsum x y (partF m L pa.toNat) pX pY 2 2 k 4 / _ = _
                simp only [bsum]
                simp [u5, u6, hix0, hs0, hix1, hs1, hix2, hs2, hix3, hs3]
              have HBk0 := hid2 HBk
              have Hk0 := hid2 Hk
              have RBa := hid2 (RBW.out.below HBk)
              have HBa := hid2 (gr0 wr)
              clear HBk Hk hkm hkd
              have HJ0 := hid2 (And.intro hmx0 (And.intro hmy0 (And.intro hpr0 (And.intro hie0 (And.intro bx0 (And.intro by0 (And.intro bp0 (And.intro bs0 hli0))))))))
              have HS0 := hid2 hs0
              have HLT0 := hid2 hlt0
              clear hmx0 hmy0 hpr0 hie0 bx0 by0 bp0 bs0 hli0 hix0 hs0 hlt0
              have HJ1 := hid2 (And.intro hmx1 (And.intro hmy1 (And.intro hpr1 (And.intro hie1 (And.intro bx1 (And.intro by1 (And.intro bp1 (And.intro bs1 hli1))))))))
              have HS1 := hid2 hs1
              have HLT1 := hid2 hlt1
              clear hmx1 hmy1 hpr1 hie1 bx1 by1 bp1 bs1 hli1 hix1 hs1 hlt1
              have HJ2 := hid2 (And.intro hmx2 (And.intro hmy2 (And.intro hpr2 (And.intro hie2 (And.intro bx2 (And.intro by2 (And.intro bp2 (And.intro bs2 hli2))))))))
              have HS2 := hid2 hs2
              have HLT2 := hid2 hlt2
              clear hmx2 hmy2 hpr2 hie2 bx2 by2 bp2 bs2 hli2 hix2 hs2 hlt2
              have HJ3 := hid2 (And.intro hmx3 (And.intro hmy3 (And.intro hpr3 (And.intro hie3 (And.intro bx3 (And.intro by3 (And.intro bp3 (And.intro bs3 hli3))))))))
              have HS3 := hid2 hs3
              have HLT3 := hid2 hlt3
              clear hmx3 hmy3 hpr3 hie3 bx3 by3 bp3 bs3 hli3 hix3 hs3 hlt3
              have HKK := hid2 (And.intro (And.intro k1 k2) (And.intro hx1 (And.intro hy1 (And.intro hx9 hy9))))
              clear k1 k2 hx1 hy1 hx9 hy9 hnn hnn9 hn u5 u6
              have y3 := heap_lt RBa.out.h3
              have o0 := cells_at RBa.out.h3 0
              simp at o0
              gi_wp2_with (first | (refine ⟨trivial, (callsIn_of (pl_of _ _)).mono ?_⟩; rintro e Xb ⟨rfl, hb⟩))
              clear y3 o0
              have RBb := hid2 (RBa.out.below hb)
              have HBb := hid2 (gr2 HBa.out hb)
              clear HBa RBa
              clear hb
              gi_wp2
              refine wpIn_loop_rounds 5 ?_
              rw [roundsIn_succ]
              have y15 := heap_lt RBb.out.h15
              have q1 := cells_at RBb.out.h15 1
              have q3 := cells_at RBb.out.h15 3
              simp at q1 q3
              gi_wp2_with (refine wpIn_region_calm_tail 14 (by kernel_rfl) (by kernel_rfl) (fun ⟨a9, w9, h9⟩ => hLO a9 w9 h9) ?_)
              simp only [List.take_succ_cons, List.take_zero, List.drop_succ_cons, List.drop_zero]
              (repeat (first | go_big_quiet_step (fail) | quiet_step (fail)))
              refine wpQuiet_nil ?_
              intro u
              obtain ⟨Xc, hb⟩ := u
              simp only
              clear y15 q1 q3
              have RBc := hid2 (RBb.out.below hb)
              have HBc := hid2 (gr2 HBb.out hb)
              clear HBb RBb
              clear hb
              go_wp2
              have y15 := heap_lt RBc.out.h15
              have q2 := cells_at RBc.out.h15 2
              have q4 := cells_at RBc.out.h15 4
              have q3 := cells_at RBc.out.h15 3
              simp at q2 q4 q3
              gi_wp2_with (refine wpIn_region_calm_tail 14 (by kernel_rfl) (by kernel_rfl) (fun ⟨a9, w9, h9⟩ => hLO a9 w9 h9) ?_)
              simp only [List.take_succ_cons, List.take_zero, List.drop_succ_cons, List.drop_zero]
              (repeat (first | go_big_quiet_step (fail) | quiet_step (fail)))
              refine wpQuiet_nil ?_
              intro u
              obtain ⟨Xd, hb⟩ := u
              simp only
              clear y15 q2 q4 q3
              have RBd := hid2 (RBc.out.below hb)
              have HBd := hid2 (gr2 HBc.out hb)
              clear HBc RBc
              clear hb
              go_wp2
              obtain ⟨hmx, hmy, hpr, hid, bx, by_, bp, bs, hli⟩ := HJ0.out
              obtain ⟨⟨k1, k2⟩, hx1, hy1, hx9, hy9⟩ := HKK.out
              have w0 := RBd.out.row id0 HLT0.out
              rw [HS0.out] at w0
              have y3 := heap_lt RBd.out.h3
              have y4 := heap_lt RBd.out.h4
              have y9 := RBd.out.h9
              have y15 := heap_lt RBd.out.h15
              have yg := RBd.out.hg
              have o1 := cells_at RBd.out.h3 1
              have q0 := cells_at RBd.out.h15 0
              have c9 := RBd.out.c9
              have f0 := cells_at RBd.out.h4 0
              have f1 := cells_at RBd.out.h4 1
              simp at o1 q0 c9 f0 f1
              gi_wp2_with (refine wpIn_region_calm_tail 24 (by kernel_rfl) (by kernel_rfl) (fun ⟨a9, w9, h9⟩ => hLO a9 w9 h9) ?_)
              simp only [List.take_succ_cons, List.take_zero, List.drop_succ_cons, List.drop_zero]
              (repeat (first | go_big_quiet_step ((go_at_call 57; exact calm_call (pl_addb _ _ _ (by omega)))) | quiet_step ((go_at_call 57; exact calm_call (pl_addb _ _ _ (by omega))))))
              refine wpQuiet_nil ?_
              intro u
              obtain ⟨Xe, hb⟩ := u
              simp only
              clear w0 hmx hmy hpr hid bx by_ bp hli k1 k2 hx1 hy1 hx9 hy9
              clear y3 y4 y9 y15 yg o1 q0 c9 f0 f1
              have RBe := hid2 (RBd.out.below hb)
              have HBe := hid2 (gr2 HBd.out hb)
              clear HBd RBd
              clear hb
              go_wp2
              gi_wp2
              rw [roundsIn_succ]
              have y15 := heap_lt RBe.out.h15
              have q1 := cells_at RBe.out.h15 1
              have q3 := cells_at RBe.out.h15 3
              simp at q1 q3
              gi_wp2_with (refine wpIn_region_calm_tail 14 (by kernel_rfl) (by kernel_rfl) (fun ⟨a9, w9, h9⟩ => hLO a9 w9 h9) ?_)
              simp only [List.take_succ_cons, List.take_zero, List.drop_succ_cons, List.drop_zero]
              (repeat (first | go_big_quiet_step (fail) | quiet_step (fail)))
              refine wpQuiet_nil ?_
              intro u
              obtain ⟨Xf, hb⟩ := u
              simp only
              clear y15 q1 q3
              have RBf := hid2 (RBe.out.below hb)
              have HBf := hid2 (gr2 HBe.out hb)
              clear HBe RBe
              clear hb
              go_wp2
              have y15 := heap_lt RBf.out.h15
              have q2 := cells_at RBf.out.h15 2
              have q4 := cells_at RBf.out.h15 4
              have q3 := cells_at RBf.out.h15 3
              simp at q2 q4 q3
              gi_wp2_with (refine wpIn_region_calm_tail 14 (by kernel_rfl) (by kernel_rfl) (fun ⟨a9, w9, h9⟩ => hLO a9 w9 h9) ?_)
              simp only [List.take_succ_cons, List.take_zero, List.drop_succ_cons, List.drop_zero]
              (repeat (first | go_big_quiet_step (fail) | quiet_step (fail)))
              refine wpQuiet_nil ?_
              intro u
              obtain ⟨Xg, hb⟩ := u
              simp only
              clear y15 q2 q4 q3
              have RBg := hid2 (RBf.out.below hb)
              have HBg := hid2 (gr2 HBf.out hb)
              clear HBf RBf
              clear hb
              go_wp2
              obtain ⟨hmx, hmy, hpr, hid, bx, by_, bp, bs, hli⟩ := HJ1.out
              obtain ⟨⟨k1, k2⟩, hx1, hy1, hx9, hy9⟩ := HKK.out
              have w1 := RBg.out.row id1 HLT1.out
              rw [HS1.out] at w1
              have y3 := heap_lt RBg.out.h3
              have y4 := heap_lt RBg.out.h4
              have y9 := RBg.out.h9
              have y15 := heap_lt RBg.out.h15
              have yg := RBg.out.hg
              have o1 := cells_at RBg.out.h3 1
              have q0 := cells_at RBg.out.h15 0
              have c9 := RBg.out.c9
              have f0 := cells_at RBg.out.h4 0
              have f1 := cells_at RBg.out.h4 1
              simp at o1 q0 c9 f0 f1
              gi_wp2_with (refine wpIn_region_calm_tail 24 (by kernel_rfl) (by kernel_rfl) (fun ⟨a9, w9, h9⟩ => hLO a9 w9 h9) ?_)
              simp only [List.take_succ_cons, List.take_zero, List.drop_succ_cons, List.drop_zero]
              (repeat (first | go_big_quiet_step ((go_at_call 57; exact calm_call (pl_addb _ _ _ (by omega)))) | quiet_step ((go_at_call 57; exact calm_call (pl_addb _ _ _ (by omega))))))
              refine wpQuiet_nil ?_
              intro u
              obtain ⟨Xh, hb⟩ := u
              simp only
              clear w1 hmx hmy hpr hid bx by_ bp hli k1 k2 hx1 hy1 hx9 hy9
              clear y3 y4 y9 y15 yg o1 q0 c9 f0 f1
              have RBh := hid2 (RBg.out.below hb)
              have HBh := hid2 (gr2 HBg.out hb)
              clear HBg RBg
              clear hb
              go_wp2
              gi_wp2
              rw [roundsIn_succ]
              have y15 := heap_lt RBh.out.h15
              have q1 := cells_at RBh.out.h15 1
              have q3 := cells_at RBh.out.h15 3
              simp at q1 q3
              gi_wp2_with (refine wpIn_region_calm_tail 14 (by kernel_rfl) (by kernel_rfl) (fun ⟨a9, w9, h9⟩ => hLO a9 w9 h9) ?_)
              simp only [List.take_succ_cons, List.take_zero, List.drop_succ_cons, List.drop_zero]
              (repeat (first | go_big_quiet_step (fail) | quiet_step (fail)))
              refine wpQuiet_nil ?_
              intro u
              obtain ⟨Xi, hb⟩ := u
              simp only
              clear y15 q1 q3
              have RBi := hid2 (RBh.out.below hb)
              have HBi := hid2 (gr2 HBh.out hb)
              clear HBh RBh
              clear hb
              go_wp2
              have y15 := heap_lt RBi.out.h15
              have q2 := cells_at RBi.out.h15 2
              have q4 := cells_at RBi.out.h15 4
              have q3 := cells_at RBi.out.h15 3
              simp at q2 q4 q3
              gi_wp2_with (refine wpIn_region_calm_tail 14 (by kernel_rfl) (by kernel_rfl) (fun ⟨a9, w9, h9⟩ => hLO a9 w9 h9) ?_)
              simp only [List.take_succ_cons, List.take_zero, List.drop_succ_cons, List.drop_zero]
              (repeat (first | go_big_quiet_step (fail) | quiet_step (fail)))
              refine wpQuiet_nil ?_
              intro u
              obtain ⟨Xj, hb⟩ := u
              simp only
              clear y15 q2 q4 q3
              have RBj := hid2 (RBi.out.below hb)
              have HBj := hid2 (gr2 HBi.out hb)
              clear HBi RBi
              clear hb
              go_wp2
              obtain ⟨hmx, hmy, hpr, hid, bx, by_, bp, bs, hli⟩ := HJ2.out
              obtain ⟨⟨k1, k2⟩, hx1, hy1, hx9, hy9⟩ := HKK.out
              have w2 := RBj.out.row id2 HLT2.out
              rw [HS2.out] at w2
              have y3 := heap_lt RBj.out.h3
              have y4 := heap_lt RBj.out.h4
              have y9 := RBj.out.h9
              have y15 := heap_lt RBj.out.h15
              have yg := RBj.out.hg
              have o1 := cells_at RBj.out.h3 1
              have q0 := cells_at RBj.out.h15 0
              have c9 := RBj.out.c9
              have f0 := cells_at RBj.out.h4 0
              have f1 := cells_at RBj.out.h4 1
              simp at o1 q0 c9 f0 f1
              gi_wp2_with (refine wpIn_region_calm_tail 24 (by kernel_rfl) (by kernel_rfl) (fun ⟨a9, w9, h9⟩ => hLO a9 w9 h9) ?_)
              simp only [List.take_succ_cons, List.take_zero, List.drop_succ_cons, List.drop_zero]
              (repeat (first | go_big_quiet_step ((go_at_call 57; exact calm_call (pl_addb _ _ _ (by omega)))) | quiet_step ((go_at_call 57; exact calm_call (pl_addb _ _ _ (by omega))))))
              refine wpQuiet_nil ?_
              intro u
              obtain ⟨Xk, hb⟩ := u
              simp only
              clear w2 hmx hmy hpr hid bx by_ bp hli k1 k2 hx1 hy1 hx9 hy9
              clear y3 y4 y9 y15 yg o1 q0 c9 f0 f1
              have RBk := hid2 (RBj.out.below hb)
              have HBk := hid2 (gr2 HBj.out hb)
              clear HBj RBj
              clear hb
              go_wp2
              gi_wp2
              rw [roundsIn_succ]
              have y15 := heap_lt RBk.out.h15
              have q1 := cells_at RBk.out.h15 1
              have q3 := cells_at RBk.out.h15 3
              simp at q1 q3
              gi_wp2_with (refine wpIn_region_calm_tail 14 (by kernel_rfl) (by kernel_rfl) (fun ⟨a9, w9, h9⟩ => hLO a9 w9 h9) ?_)
              simp only [List.take_succ_cons, List.take_zero, List.drop_succ_cons, List.drop_zero]
              (repeat (first | go_big_quiet_step (fail) | quiet_step (fail)))
              refine wpQuiet_nil ?_
              intro u
              obtain ⟨Xl, hb⟩ := u
              simp only
              clear y15 q1 q3
              have RBl := hid2 (RBk.out.below hb)
              have HBl := hid2 (gr2 HBk.out hb)
              clear HBk RBk
              clear hb
              go_wp2
              have y15 := heap_lt RBl.out.h15
              have q2 := cells_at RBl.out.h15 2
              have q4 := cells_at RBl.out.h15 4
              have q3 := cells_at RBl.out.h15 3
              simp at q2 q4 q3
              gi_wp2_with (refine wpIn_region_calm_tail 14 (by kernel_rfl) (by kernel_rfl) (fun ⟨a9, w9, h9⟩ => hLO a9 w9 h9) ?_)
              simp only [List.take_succ_cons, List.take_zero, List.drop_succ_cons, List.drop_zero]
              (repeat (first | go_big_quiet_step (fail) | quiet_step (fail)))
              refine wpQuiet_nil ?_
              intro u
              obtain ⟨Xm, hb⟩ := u
              simp only
              clear y15 q2 q4 q3
              have RBm := hid2 (RBl.out.below hb)
              have HBm := hid2 (gr2 HBl.out hb)
              clear HBl RBl
              clear hb
              go_wp2
              obtain ⟨hmx, hmy, hpr, hid, bx, by_, bp, bs, hli⟩ := HJ3.out
              obtain ⟨⟨k1, k2⟩, hx1, hy1, hx9, hy9⟩ := HKK.out
              have w3 := RBm.out.row id3 HLT3.out
              rw [HS3.out] at w3
              have y3 := heap_lt RBm.out.h3
              have y4 := heap_lt RBm.out.h4
              have y9 := RBm.out.h9
              have y15 := heap_lt RBm.out.h15
              have yg := RBm.out.hg
              have o1 := cells_at RBm.out.h3 1
              have q0 := cells_at RBm.out.h15 0
              have c9 := RBm.out.c9
              have f0 := cells_at RBm.out.h4 0
              have f1 := cells_at RBm.out.h4 1
              simp at o1 q0 c9 f0 f1
              gi_wp2_with (refine wpIn_region_calm_tail 24 (by kernel_rfl) (by kernel_rfl) (fun ⟨a9, w9, h9⟩ => hLO a9 w9 h9) ?_)
              simp only [List.take_succ_cons, List.take_zero, List.drop_succ_cons, List.drop_zero]
              (repeat (first | go_big_quiet_step ((go_at_call 57; exact calm_call (pl_addb _ _ _ (by omega)))) | quiet_step ((go_at_call 57; exact calm_call (pl_addb _ _ _ (by omega))))))
              refine wpQuiet_nil ?_
              intro u
              obtain ⟨Xn, hb⟩ := u
              simp only
              clear w3 hmx hmy hpr hid bx by_ bp hli k1 k2 hx1 hy1 hx9 hy9
              clear y3 y4 y9 y15 yg o1 q0 c9 f0 f1
              have RBn := hid2 (RBm.out.below hb)
              have HBn := hid2 (gr2 HBm.out hb)
              clear HBm RBm
              clear hb
              go_wp2
              gi_wp2
              rw [roundsIn_succ]
              have y3 := heap_lt RBn.out.h3
              have o2 := cells_at RBn.out.h3 2
              simp at o2
              gi_wp2_with (refine wpIn_region_calm_tail 8 (by kernel_rfl) (by kernel_rfl) (fun ⟨a9, w9, h9⟩ => hLO a9 w9 h9) ?_)
              simp only [List.take_succ_cons, List.take_zero, List.drop_succ_cons, List.drop_zero]
              (repeat (first | go_big_quiet_step ((first | (go_at_call 55; exact calm_call (log_4 _)) | (go_at_call 58; exact calm_call (pl_shr2 _ _)))) | quiet_step ((first | (go_at_call 55; exact calm_call (log_4 _)) | (go_at_call 58; exact calm_call (pl_shr2 _ _))))))
              refine wpQuiet_nil ?_
              intro u
              obtain ⟨Xo, hb⟩ := u
              simp only
              clear y3 o2
              have RBo := hid2 (RBn.out.below hb)
              have HBo := hid2 (gr2 HBn.out hb)
              clear HBn RBn
              clear hb
              have Hkn := bh HBo.out Hk0.out
              have b1 := row_cell Hkn hlt
              have b2 := row_free Hkn k
              have b3 := heap_lt Hkn
              clear Hkn
              go_wp2
              gi_wp2
              go_roundw
              case measure => simp [intOf]; omega
              case rel => exact ⟨k + 1, by omega, by go_num, gr4 (gr2 HBk0.out HBo.out) (by simp) _, by have hv := HV.out; (try simp only [Int.zero_add] at hv ⊢); rw [heap_setCell_same _ _ _ _ _ _ (bh HBo.out Hk0.out), ← hv, blk_set]⟩
            · have hk64 : k = 64 := by omega
              subst hk64
              have t1 : decide (((64 : Nat) : Int) < 64) = false := rfl
              rw [blk_all] at Hk
              obtain ⟨hBw, hX, v, h1c, h14, hrow⟩ := HI.out.below HBk
              have d14 := cells_at h14 0
              simp at d14
              have y14 := heap_lt h14
              have y16 := heap_lt Hk
              have HBk0 := hid2 HBk
              have HROW := hid2 hrow
              have HX := hid2 hX
              have HPRE := hid2 hpre
              have h14a := hid2 h14
              have hBw0 := hid2 hBw.size
              clear hBw hX hrow HBk hpre p0 p1 p2 e0 e3 e4
              gi_wp2_with (first | (refine wpListIn_load_row rfl _ _ rfl W.heap.size rfl 41 _ (0, 0) _ Hk Try.underlying41 rfl (by rw [blk_size]; kernel_rfl) ?_) | (refine wpListIn_bs_41 _ _ rfl rfl rfl ?_) | (gi_at_builtin; refine wpListIn_push wo.heap.size (.tmp 140) (.tmp 142) 73 41 rfl rfl Try.underlying73 infos_41 rfl (HROW.out.below (gr1 (gr0 _) _)) rfl (heap_alloc_new _ _) (by have := HROW.out; simp only [List.length_map]; have h9 := HPRE.out.length_le; have h8 := plsM_len (m := m) (x := px) (y := py); simp at h9; omega) (by have := hBw0.out; simp; omega) ?_; rintro v2 w2 hrow2 hsub _; obtain ⟨g2, c2, rfl⟩ := hrow2.shape (by simp); have h14b := hsub.other (bh (gr1 (gr0 _) _) h14a.out) (by decide); have d14b := cells_at h14b 0; have f14b := row_free h14b 0; have y14b := heap_lt h14b; simp at d14b; have HR2 := hid2 hrow2; have HS2 := hid2 hsub; have H14b := hid2 h14b; clear hrow2 hsub h14b))
              have SB := ((((Sub.of_below HBk0.out).trans (Sub.of_below (gr1 (gr0 wr) _))).trans (HS2.out.more (Nat.le_refl _) (by simp))).trans (Sub.set (i := 0) (Nat.le_refl _) H14b.out (by simp) (Value.slice (some ⟨g2, 0, none⟩) (pre.length + 1) c2)) : Sub wo.heap.size [41, 73] W _)
              have hr := HR2.out
              simp only [List.length_append, List.length_map, List.length_singleton] at hr
              refine ⟨SB.others, kp2_sub (fun b hb => by obtain ⟨_, _, h⟩ := HI.out.2.1 b hb; exact heap_lt h) (by decide) (fun b hb => by obtain ⟨c, f, h⟩ := HI.out.2.1 b hb; exact ⟨c, _, f, h, by decide⟩) SB, HI.out.1.trans (SB.below HI.out.1.size), fun b hb => (by obtain ⟨c, f, h⟩ := HI.out.2.1 b hb; exact ⟨c, f, SB.other h (by decide)⟩), _, rfl, heap_setCell_same _ _ _ _ _ _ H14b.out, ?_⟩
              rw [List.map_append]
              exact hr.sub (Sub.set (n0 := wo.heap.size) (ts := [73]) (Nat.le_refl _) H14b.out (by simp) _) (by decide)
      case done =>
        rintro D W hD hI hK
        obtain ⟨hBw, -, v, h1c, h14, hrow⟩ := hI
        have hlen : 0 < (List.map (blkOf x y (partF m L)) (plsM m px py)).length := by simpa using plsM_pos
        obtain ⟨g2, c2, rfl⟩ := hrow.shape hlen
        generalize hbs : List.map (blkOf x y (partF m L)) (plsM m px py) = bs at hrow hlen h14
        generalize hnb : bs.length = nb at hrow hlen h14
        have hmc : mcuM x y m (partF m L) A j = bs := by unfold mcuM; rw [HPX.out, HPY.out]; exact hbs
        have d14 := cells_at h14 0
        simp at d14
        have y14 := heap_lt h14
        have HBW := hid2 hBw
        have HMC := hid2 hmc
        have HROW := hid2 hrow
        have HK := hid2 hK
        have HD2 := hid2 hD
        have hM0 := hid2 (HMr.out.below hBw)
        have hW3 : W3.heap.size ≤ W.heap.size := Nat.le_trans HBr.out.size hBw.size
        have hj2 : (j : Int) + 1 ≤ 1048576 := by omega
        clear hBw hrow hmc hbs hnb hlen hK hD h14 p0 p1 p2 g14 h1c
        dsimp only
        go_wp2_with (first | (at_builtin; refine wpList_pushM W3.heap.size (.tmp 144) (.tmp 146) 65 73 41 rfl rfl Try.underlying65 infos_73 (by decide) rfl (hM0.out.below (gr1 (gr0 _) _)) ((HROW.out.lower HBr.out.size).below (gr1 (gr0 _) _)) rfl rfl (new_cell rfl) (by rw [splitM_len]; omega) (by simp; omega) ?_; rintro v4 w4 hM4 hS4; have HM5 := hid2 hM4; have HS5 := hid2 hS4; clear hM4 hS4))
        refine ⟨⟨j + 1, v4, by omega, rfl, ⟨rfl, rfl, rfl, rfl, rfl, rfl, rfl, rfl, rfl, rfl, rfl, rfl, rfl, rfl, rfl, rfl, rfl, rfl, rfl, rfl, rfl, rfl, rfl, rfl, rfl, rfl, rfl, rfl, rfl, rfl, rfl, rfl, rfl, rfl, rfl, rfl, rfl, rfl, rfl, rfl, rfl, trivial⟩, ?_, ?_, ?_⟩, ?_⟩
        · exact (HBr.out.trans ((HBW.out.mono HBr.out.size).trans ((gr1 (gr0 W) _).mono hW3))).trans (HS5.out.below (by simp; omega))
        · rw [splitM_succ, HMC.out]; exact HM5.out
        · refine DsOk.more (n := wr.heap.size) (DsOk.keep (fun D' _ h2 => HS5.out.others.same _ _ (bh (gr1 (gr0 _) _) (bh HBW.out h2)) rfl) HDr.out) (fun e he => HDr.out.lt e he) ?_ ?_ (HS5.out.others.same _ _ (bh (gr1 (gr0 _) _) HK.out) rfl)
          · have := HD2.out; have := B5.out.size; have := HBr.out.size; omega
          · have := HD2.out; have := B5.out.size; omega
        · show T - (intOf (Value.int .i64 ((j : Int) + 1))).toNat < T - (intOf (Value.int .i64 (j : Int))).toNat
          simp only [intOf]
          omega
    · have hjT : j = T := by omega
      subst hjT
      have t1 : decide ((j : Int) < j) = false := by simp
      have HBr := hid2 HB
      have HMr := hid2 HM4
      have HDr := hid2 HD
      clear HB HM4 HD
      go_wp2
      refine leaves_all HDr.out (fun w' hm => ⟨vo, by simp [results, Try.results37, go_sem], vo, rfl, ?_, ?_⟩)
      · exact (HB3.out.trans (HBr.out.mono n1)).trans ⟨hm.os, hm.tape, hm.output, Nat.le_of_eq hm.size.symm, fun k hk => hm.low k (by omega)⟩
      · exact (HMr.out.lower n1).marks hm

end Go.Proofs.Ytgegmlhpdpdnfaa
