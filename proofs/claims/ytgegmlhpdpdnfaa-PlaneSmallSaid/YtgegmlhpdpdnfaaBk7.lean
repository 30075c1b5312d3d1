/- Rows of blocks of 64 numbers. -/
import Derived.Test.YtgegmlhpdpdnfaaWide
import Derived.Test.YtgegmlhpdpdnfaaSides
import Derived.Test.YtgegmlhpdpdnfaaApp
import Derived.Laws.CopyOwn
import Derived.Laws.Tables
import Derived.Great.BuildSlice
import Derived.OwnWalkIn
import Derived.Maps.OwnIn
namespace Go.Proofs.Ytgegmlhpdpdnfaa
open Go.RowKit

def blk (f : Nat → Int) : Array Value := ((List.range 64).map fun i => Value.int .i64 (f i)).toArray
theorem blk_size (f : Nat → Int) : (blk f).size = 64 := by simp [blk]
theorem blk_at {f : Nat → Int} {i : Nat} (h : i < 64) : (blk f)[i]? = some (.int .i64 (f i)) := by simp [blk, h]
theorem blk_congr {f g : Nat → Int} (h : ∀ i, i < 64 → f i = g i) : blk f = blk g := by
  unfold blk
  congr 1
  exact List.map_congr_left fun i hi => by rw [h i (List.mem_range.1 hi)]
def upTo (f : Nat → Int) (k : Nat) : Nat → Int := fun i => if i < k then f i else 0
theorem blk_all (f : Nat → Int) : blk (upTo f 64) = blk f := blk_congr fun i hi => by unfold upTo; rw [if_pos hi]
theorem blk_set (f : Nat → Int) (k : Nat) : (blk (upTo f k)).setIfInBounds k (.int .i64 (f k)) = blk (upTo f (k + 1)) := by
  apply Array.ext_getElem?
  intro i
  rw [Array.getElem?_setIfInBounds, blk_size]
  by_cases hi : i < 64
  · rw [blk_at hi, blk_at hi]
    by_cases hk : k = i
    · subst hk; rw [if_pos rfl, if_pos hi]; unfold upTo; rw [if_pos (by omega)]
    · rw [if_neg hk]; unfold upTo
      by_cases h2 : i < k
      · rw [if_pos h2, if_pos (by omega)]
      · rw [if_neg h2, if_neg (by omega)]
  · have h1 : (blk (upTo f k))[i]? = none := Array.getElem?_eq_none (by rw [blk_size]; omega)
    have h2 : (blk (upTo f (k + 1)))[i]? = none := Array.getElem?_eq_none (by rw [blk_size]; omega)
    rw [h1, h2]
    split
    · rw [if_neg (by omega)]
    · rfl

theorem blk_put (h : Nat → Int) (i : Nat) (v : Int) : (blk h).setIfInBounds i (.int .i64 v) = blk (fun j => if j = i then v else h j) := by
  apply Array.ext_getElem?
  intro j
  rw [Array.getElem?_setIfInBounds, blk_size]
  by_cases hj : j < 64
  · rw [blk_at hj, blk_at hj]
    by_cases e : i = j
    · subst e; rw [if_pos rfl, if_pos hj, if_pos rfl]
    · rw [if_neg e, if_neg (fun h => e h.symm)]
  · have h1 : ∀ f, (blk f)[j]? = none := fun f => Array.getElem?_eq_none (by rw [blk_size]; omega)
    rw [h1, h1]
    split
    · rw [if_neg (by omega)]
    · rfl
theorem blk_one (f : Nat → Int) : (blk f).all (·.oneCell') = true := by
  rw [Array.all_eq_true]
  intro i hi
  have := blk_at (f := f) (i := i) (by rwa [blk_size] at hi)
  rw [Array.getElem?_eq_getElem hi] at this
  rw [Option.some.inj this]; rfl
theorem heap_alloc_if (w : World) (o : Obj) (k : Nat) : (w.alloc o).heap[k]? = if k = w.heap.size then some o else w.heap[k]? := by
  show (w.heap.push o)[k]? = _
  rw [Array.getElem?_push]
theorem upTo_0 (f : Nat → Int) : upTo f 0 = fun _ => 0 := by funext i; unfold upTo; rw [if_neg (by omega)]
theorem row_cell {w : World} {g : Nat} {f : Nat → Int} {t : TypeId} (h : w.heap[g]? = some (.cells (blk f) t (0, 0))) {i : Nat} (hi : i < 64) : w.cell? ⟨g, i, none⟩ = some (.int .i64 (f i)) := by
  rw [cell_of_row _ _ _ _ _ _ h, blk_at hi]
theorem row_free {w : World} {g : Nat} {c : Array Value} {t : TypeId} (h : w.heap[g]? = some (.cells c t (0, 0))) (i : Nat) : w.frozen? ⟨g, i, none⟩ = false := frozen_of_row _ _ _ _ _ h

/-- Only blocks of some types, from some place on, may have changed. -/
structure Sub (n0 : Nat) (ts : List TypeId) (W W' : World) : Prop where
  os : W'.os = W.os
  tape : W'.tape = W.tape
  output : W'.output = W.output
  size : W.heap.size ≤ W'.heap.size
  block : ∀ b, b < W.heap.size → W'.heap[b]? = W.heap[b]? ∨ (n0 ≤ b ∧ ∃ c t f, W.heap[b]? = some (.cells c t f) ∧ t ∈ ts)
theorem Sub.refl (n0 : Nat) (ts : List TypeId) (W : World) : Sub n0 ts W W := ⟨rfl, rfl, rfl, Nat.le_refl _, fun _ _ => .inl rfl⟩
theorem Sub.trans {n0 : Nat} {ts : List TypeId} {A B C : World} (h : Sub n0 ts A B) (k : Sub n0 ts B C) : Sub n0 ts A C := by
  refine ⟨k.os.trans h.os, k.tape.trans h.tape, k.output.trans h.output, Nat.le_trans h.size k.size, fun b hb => ?_⟩
  rcases h.block b hb with e | e
  · rcases k.block b (Nat.lt_of_lt_of_le hb h.size) with e2 | ⟨h1, c, t, f, h2, h3⟩
    · exact .inl (e2.trans e)
    · exact .inr ⟨h1, c, t, f, e ▸ h2, h3⟩
  · exact .inr e
theorem Sub.of_below {n0 : Nat} {ts : List TypeId} {W W' : World} (h : Below W.heap.size W W') : Sub n0 ts W W' := ⟨h.os, h.tape, h.output, h.size, fun b hb => .inl (h.block b hb)⟩
theorem Sub.of_grown {n0 : Nat} {ts : List TypeId} {W W' : World} {row : Option Nat} (h : W.grownBy W' row) (hr : ∀ g, row = some g → n0 ≤ g ∧ ∃ c t f, W.heap[g]? = some (.cells c t f) ∧ t ∈ ts) : Sub n0 ts W W' :=
  ⟨h.os, h.tape, h.output, h.size, fun b hb => by
    by_cases e : some b = row
    · exact .inr (hr b e.symm)
    · exact .inl (h.block b hb e)⟩
theorem Sub.set {n0 : Nat} {ts : List TypeId} {W : World} {b i : Nat} {c : Array Value} {t : TypeId} {f : Nat × Nat} (hb : n0 ≤ b) (h : W.heap[b]? = some (.cells c t f)) (ht : t ∈ ts) (v : Value) : Sub n0 ts W (W.setCell ⟨b, i, none⟩ v) :=
  ⟨rfl, rfl, rfl, by simp, fun k _ => by
    by_cases e : k = b
    · subst e; exact .inr ⟨hb, c, t, f, h, ht⟩
    · exact .inl (heap_setCell_other _ _ _ _ e)⟩
theorem Sub.row {n0 : Nat} {ts : List TypeId} {W : World} {b : Nat} {c : Array Value} {t : TypeId} {f : Nat × Nat} (hb : n0 ≤ b) (h : W.heap[b]? = some (.cells c t f)) (ht : t ∈ ts) (cs : Array Value) : Sub n0 ts W (W.setRow b cs) :=
  have k := below_setRow (B := b) (g := b) (Below.refl b W) (Nat.le_refl _) cs
  ⟨k.os, k.tape, k.output, k.size, fun j _ => by
    by_cases e : j = b
    · subst e; exact .inr ⟨hb, c, t, f, h, ht⟩
    · refine .inl ?_
      unfold World.setRow
      simp only [Array.getElem?_modify]
      rw [if_neg (fun e2 => e e2.symm)]⟩
theorem Sub.below {n0 : Nat} {ts : List TypeId} {W W' : World} (h : Sub n0 ts W W') (hn : n0 ≤ W.heap.size) : Below n0 W W' :=
  ⟨h.os, h.tape, h.output, h.size, fun b hb => by
    rcases h.block b (by omega) with e | ⟨h1, _⟩
    · exact e
    · omega⟩
theorem Sub.others {n0 : Nat} {ts : List TypeId} {W W' : World} (h : Sub n0 ts W W') : KeepsOthers W W' :=
  ⟨h.size, fun k o hk ho => by
    rcases h.block k (heap_lt hk) with e | ⟨_, c, t, f, h2, _⟩
    · exact e.trans hk
    · rw [hk] at h2; cases h2; cases ho⟩
theorem Sub.other {n0 : Nat} {ts : List TypeId} {W W' : World} (h : Sub n0 ts W W') {b : Nat} {c : Array Value} {t : TypeId} {f : Nat × Nat} (hb : W.heap[b]? = some (.cells c t f)) (ht : t ∉ ts) : W'.heap[b]? = some (.cells c t f) := by
  rcases h.block b (heap_lt hb) with e | ⟨_, c', t', f', h2, h3⟩
  · exact e.trans hb
  · rw [hb] at h2; cases h2; exact absurd h3 ht
theorem Sub.low {n0 : Nat} {ts : List TypeId} {W W' : World} (h : Sub n0 ts W W') {b : Nat} (hb : b < n0) (hs : b < W.heap.size) : W'.heap[b]? = W.heap[b]? := by
  rcases h.block b hs with e | ⟨h1, _⟩
  · exact e
  · omega

section
variable {F : Fence} {n : Nat} {P : Program} {ops : Array Oper} {rest : List Oper} {o : Oper} {a : Act} {w : World} {Q : Exit → Act → World → Prop}
theorem wpListIn_val {v : Value} {w' : World} (hg : o.guard = none) (hd : ∀ c, o.op ≠ .defer c) (hab : o.about P w a.eval = none) (hr : (execOp a.eval o).run P w = .ok (.value v) w') (h : wpListIn F n P ops Q rest (a.put o.dst v) w') : wpListIn F n P ops Q (o :: rest) a w :=
  wpListIn_plain hg fun K hK => by
    unfold Oper.wpIn
    refine ⟨fun f hf => (by rw [hab] at hf; cases hf), ?_⟩
    rw [Oper.semAt_plain F _ _ hd, hr]
    exact hK _ _ h
theorem wpListIn_load_row (hgd : o.guard = none) (ty : TypeId) (x : Operand) (ho : o.op = .load ty x) (g : Nat) (hx : a.eval x = .pointer (some ⟨g, 0, none⟩)) (t : TypeId) (cs : Array Value) (fr : Nat × Nat) (d : TypeDesc) (hg : w.heap[g]? = some (.cells cs t fr))
    (hu : P.underlying ty = some d) (hd : (match d with | .struct _ | .array _ _ => true | _ => false) = true) (hi : (P.info? ty).map (·.size) = some cs.size)
    (h : wpListIn F n P ops Q rest (a.put o.dst (.agg cs)) w) : wpListIn F n P ops Q (o :: rest) a w :=
  wpListIn_val hgd (by rw [ho]; intro c e; cases e) (by simp [Oper.about, ho]) (by
    unfold execOp
    simp only [ho, hx, Instr.loadAt, Instr.sureAddr, Sem.run_bind, Sem.run_pure, Result.andThen_ok, run_loadVar_row w g t ty cs fr d hg hu hd hi]) h
theorem wpListIn_buildSlice (hg : o.guard = none) (t e : TypeId) (len : Nat) (parts : Array (Nat × Operand)) (ho : o.op = .buildSlice t len parts)
    (cells : Array Value) (ie : TypeInfo) (z : Value)
    (hu : P.underlying t = some (.slice e)) (hie : P.info? e = some ie) (hz : ie.zero = some z) (hsmall : ¬ len * ie.size > 2 ^ 24) (hpos : ¬ len * ie.size = 0)
    (hf : Instr.fill (fun i => some (i * ie.size, ie.size)) ((Array.range (len * ie.size)).map (z.cells[· % z.cells.size]!)) (parts.map fun (i, x) => (i, a.eval x)).toList = some cells)
    (h : wpListIn F n P ops Q rest (a.put o.dst (.slice (some ⟨w.heap.size, 0, none⟩) len len)) (w.alloc (.cells cells e))) : wpListIn F n P ops Q (o :: rest) a w :=
  wpListIn_val hg (by rw [ho]; intro c e; cases e) (by simp [Oper.about, ho]) (by
    unfold execOp
    simp only [ho, Sem.run_bind, run_buildSlice w t e len _ cells ie z hu hie hz hsmall hpos hf, Result.andThen_ok]
    rfl) h
end

/-- What the blocks of a row hold, one behind the other. -/
def bcells : List (Nat → Int) → List Value
  | [] => []
  | f :: bs => (blk f).toList ++ bcells bs
theorem bcells_snoc (bs : List (Nat → Int)) (f : Nat → Int) : bcells (bs ++ [f]) = bcells bs ++ (blk f).toList := by
  induction bs with
  | nil => simp [bcells]
  | cons g bs ih => simp [bcells, ih]
theorem bcells_len (bs : List (Nat → Int)) : (bcells bs).length = bs.length * 64 := by
  induction bs with
  | nil => rfl
  | cons g bs ih => simp only [bcells, List.length_append, Array.length_toList, blk_size, ih, List.length_cons]; omega
theorem bcells_at : ∀ (bs : List (Nat → Int)) {i : Nat} {f : Nat → Int} (_ : bs[i]? = some f) {j : Nat} (_ : j < 64), (bcells bs)[i * 64 + j]? = some (.int .i64 (f j))
  | [], i, f, h, _, _ => by simp at h
  | g :: bs, 0, f, h, j, hj => by
    simp at h
    subst h
    simp only [bcells, Nat.zero_mul, Nat.zero_add]
    rw [List.getElem?_append_left (by simp [blk_size]; exact hj)]
    simpa using blk_at (f := g) hj
  | g :: bs, i + 1, f, h, j, hj => by
    simp only [bcells]
    rw [List.getElem?_append_right (by simp [blk_size]; omega), show (i + 1) * 64 + j - (blk g).toList.length = i * 64 + j by simp [blk_size]; omega]
    exact bcells_at bs (by simpa using h) hj
/-- A row of blocks of the call's own. -/
def BRow (w : World) (base : Nat) (t : TypeId) (v : Value) (bs : List (Nat → Int)) : Prop := w.ownsRow base t 64 v bs.length (bcells bs)
theorem BRow.nil (w : World) (base : Nat) (t : TypeId) : BRow w base t (.slice none 0 0) [] := World.ownsRow_nil _ _ _ _
theorem BRow.cell {w : World} {base g n c : Nat} {t : TypeId} {bs : List (Nat → Int)} (h : BRow w base t (.slice (some ⟨g, 0, none⟩) n c) bs) {i : Nat} {f : Nat → Int} (hi : bs[i]? = some f) {j : Nat} (hj : j < 64) : w.cell? ⟨g, i * 64 + j, none⟩ = some (.int .i64 (f j)) := by
  rcases h.2 with ⟨h1, _⟩ | ⟨g', cap, cur, hv, _, hh, _, _, hs, ht⟩
  · exact nomatch h1
  · cases hv
    have h1 := bcells_at bs hi hj
    rw [← ht, List.getElem?_take] at h1
    simp only [World.cell?, hh]
    split at h1
    · simpa using h1
    · exact nomatch h1
end Go.Proofs.Ytgegmlhpdpdnfaa
