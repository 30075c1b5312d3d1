/- What a recorder is in memory; what leaves it as it is; an append where there is room. -/
import Derived.Test.YtbdnnkokkgdhnaaTraceM
import Derived.Test.YtbdnnkokkgdhnaaCalm
import Derived.Deep.AppendLies
namespace Go.Proofs.Ytbdnnkokkgdhnaa
open Go.RowKit

theorem heap_lt {w : World} {g : Nat} {o : Obj} (h : w.heap[g]? = some o) : g < w.heap.size := by
  rcases Nat.lt_or_ge g w.heap.size with h1 | h1
  · exact h1
  · rw [Array.getElem?_eq_none h1] at h; cases h
theorem heap_alloc_if (w : World) (o : Obj) (k : Nat) : (w.alloc o).heap[k]? = if k = w.heap.size then some o else w.heap[k]? := by
  show (w.heap.push o)[k]? = _
  rw [Array.getElem?_push]
theorem wp_abs {c : Code} {P : Program} {Q : Exit → Act → World → Prop} {a : Act} {W : World} (F : World → Prop) (h1 : F W) (h2 : ∀ W, F W → c.wp P Q a W) : c.wp P Q a W := h2 W h1
/-- Nothing but these blocks turned. -/
structure Moved (fp : List Nat) (w w' : World) : Prop where
  os : w'.os = w.os
  tape : w'.tape = w.tape
  output : w'.output = w.output
  size : w.heap.size ≤ w'.heap.size
  block : ∀ k, k < w.heap.size → k ∉ fp → w'.heap[k]? = w.heap[k]?
/-- A footprint that has grown: by new blocks alone. -/
def Fresh (w : World) (fp fp' : List Nat) : Prop := ∀ x ∈ fp', x ∈ fp ∨ w.heap.size ≤ x
theorem Fresh.refl (w : World) (fp : List Nat) : Fresh w fp fp := fun _ h => .inl h
theorem Fresh.trans {w w' : World} {a b c : List Nat} (h : Fresh w a b) (hs : w.heap.size ≤ w'.heap.size) (k : Fresh w' b c) : Fresh w a c := fun x hx => by
  rcases k x hx with h1 | h1
  · exact h x h1
  · exact .inr (Nat.le_trans hs h1)
theorem Moved.refl (fp : List Nat) (w : World) : Moved fp w w := ⟨rfl, rfl, rfl, Nat.le_refl _, fun _ _ _ => rfl⟩
theorem Moved.trans {w w1 w2 : World} {fp fp1 : List Nat} (h : Moved fp w w1) (hf : Fresh w fp fp1) (k : Moved fp1 w1 w2) : Moved fp w w2 :=
  ⟨k.os.trans h.os, k.tape.trans h.tape, k.output.trans h.output, Nat.le_trans h.size k.size, fun i hi hn => (k.block i (Nat.lt_of_lt_of_le hi h.size) (fun hx => by
    rcases hf i hx with h1 | h1
    · exact hn h1
    · omega)).trans (h.block i hi hn)⟩
theorem Moved.below {w w' : World} (h : Below w.heap.size w w') (fp : List Nat) : Moved fp w w' := ⟨h.os, h.tape, h.output, h.size, fun k hk _ => h.block k hk⟩
theorem Moved.toBelow {n : Nat} {w w' : World} {fp : List Nat} (h : Moved fp w w') (hn : n ≤ w.heap.size) (hf : ∀ x ∈ fp, n ≤ x) : Below n w w' :=
  ⟨h.os, h.tape, h.output, h.size, fun k hk => h.block k (by omega) (fun hx => by have := hf k hx; omega)⟩
theorem Moved.cell {w w' : World} {fp : List Nat} (h : Moved fp w w') {b o : Nat} {v : Value} (hc : w.cell? ⟨b, o, none⟩ = some v) (hn : b ∉ fp) : w'.cell? ⟨b, o, none⟩ = some v :=
  (World.cell?_of_block (a := ⟨b, o, none⟩) (h.block b (World.block_lt_of_cell? w _ hc) hn)).trans hc
theorem Moved.at_ {w w' : World} {fp : List Nat} (h : Moved fp w w') {b : Nat} {o : Obj} (hc : w.heap[b]? = some o) (hn : b ∉ fp) : w'.heap[b]? = some o := (h.block b (heap_lt hc) hn).trans hc
theorem moved_alloc (fp : List Nat) (w : World) (o : Obj) : Moved fp w (w.alloc o) := Moved.below (gr1 (gr0 _) o) fp
theorem moved_set {fp : List Nat} {w w' : World} (h : Moved fp w w') {b i : Nat} (hb : b ∈ fp ∨ w.heap.size ≤ b) (v : Value) : Moved fp w (w'.setCell ⟨b, i, none⟩ v) :=
  ⟨h.os, h.tape, h.output, by show _ ≤ (w'.heap.modify _ _).size; rw [Array.size_modify]; exact h.size, fun k hk hn => (heap_setCell_other _ ⟨b, i, none⟩ k v (fun e => by
    have e : k = b := e
    subst e
    rcases hb with h1 | h1
    · exact hn h1
    · omega)).trans (h.block k hk hn)⟩
theorem moved_grown {fp : List Nat} {w w1 w2 : World} (h : Moved fp w w1) {row : Option Nat} (hg : w1.grownBy w2 row) (hr : ∀ k, row = some k → k ∈ fp ∨ w.heap.size ≤ k) : Moved fp w w2 :=
  ⟨hg.os.trans h.os, hg.tape.trans h.tape, hg.output.trans h.output, Nat.le_trans h.size hg.size, fun k hk hn => (hg.block k (Nat.lt_of_lt_of_le hk h.size) (fun e => by
    rcases hr k e.symm with h1 | h1
    · exact hn h1
    · omega)).trans (h.block k hk hn)⟩

/-! A recorder. -/
def pcell (b : Nat) (p : Part) : Value := .slice (some ⟨b, 0, none⟩) (encs p.1).length p.2
def u32s (l : List Int) : List Value := l.map (Value.int .u32)
def prow (p : Part) : Array Value := (u32s (encs p.1) ++ List.replicate (p.2 - (encs p.1).length) (Value.int .u32 0)).toArray
structure Rec (w : World) (g : Nat) (S : St) (v : Value) (bs : List Nat) : Prop where
  len : bs.length = S.length
  head : w.heap[g]? = some (.cells #[v] 84 (0, 0))
  row : w.ownsRow 0 100 1 v S.length (List.zipWith pcell bs S)
  part : ∀ (j b : Nat) (p : Part), bs[j]? = some b → S[j]? = some p → w.heap[b]? = some (.cells (prow p) 103 (0, 0))
  ok : ∀ p ∈ S, PartOk p
  nodup : (g :: (v.ownBlock.toList ++ bs)).Nodup
def Rc (w : World) (g : Nat) (S : St) (fp : List Nat) : Prop := ∃ v bs, Rec w g S v bs ∧ fp = g :: (v.ownBlock.toList ++ bs)
theorem own_at {w w' : World} {base : Nat} {e : TypeId} {size : Nat} {v : Value} {n : Nat} {xs : List Value} (h : w.ownsRow base e size v n xs) (hb : ∀ g, v.ownBlock = some g → w'.heap[g]? = w.heap[g]?) : w'.ownsRow base e size v n xs := by
  refine ⟨h.1, ?_⟩
  rcases h.2 with hn | ⟨g, cap, cur, hv, h1, h2, h3⟩
  · exact .inl hn
  · exact .inr ⟨g, cap, cur, hv, h1, (hb g (by rw [hv]; rfl)).trans h2, h3⟩
theorem Rec.frame {w w' : World} {g : Nat} {S : St} {v : Value} {bs : List Nat} (h : Rec w g S v bs) (hk : ∀ x ∈ g :: (v.ownBlock.toList ++ bs), w'.heap[x]? = w.heap[x]?) : Rec w' g S v bs :=
  ⟨h.len, (hk g (by simp)).trans h.head, own_at h.row (fun x hx => hk x (by simp [hx])), fun j b p hb hp => (hk b (by have := List.mem_of_getElem? hb; simp [this])).trans (h.part j b p hb hp), h.ok, h.nodup⟩
theorem Rec.lt {w : World} {g : Nat} {S : St} {v : Value} {bs : List Nat} (h : Rec w g S v bs) : ∀ x ∈ g :: (v.ownBlock.toList ++ bs), x < w.heap.size := by
  intro x hx
  simp only [List.mem_cons, List.mem_append, Option.mem_toList] at hx
  rcases hx with rfl | hx | hx
  · exact heap_lt h.head
  · exact (h.row.lt x hx).2
  · obtain ⟨j, hj, e⟩ := List.getElem_of_mem hx
    have hj2 : j < S.length := by rw [← h.len]; exact hj
    exact heap_lt (h.part j x S[j] (by rw [List.getElem?_eq_getElem hj, e]) (List.getElem?_eq_getElem hj2))
theorem Rc.lt {w : World} {g : Nat} {S : St} {fp : List Nat} (h : Rc w g S fp) : ∀ x ∈ fp, x < w.heap.size := by
  obtain ⟨v, bs, h, rfl⟩ := h; exact h.lt
theorem Rc.frame {w w' : World} {g : Nat} {S : St} {fp : List Nat} (h : Rc w g S fp) (hk : ∀ x ∈ fp, w'.heap[x]? = w.heap[x]?) : Rc w' g S fp := by
  obtain ⟨v, bs, h, rfl⟩ := h; exact ⟨v, bs, h.frame hk, rfl⟩
theorem Rc.below {w w' : World} {g : Nat} {S : St} {fp : List Nat} (h : Rc w g S fp) (hb : Below w.heap.size w w') : Rc w' g S fp := h.frame fun x hx => hb.block x (h.lt x hx)
theorem Rc.moved {w w' : World} {g : Nat} {S : St} {fp fp2 : List Nat} (h : Rc w g S fp) (hm : Moved fp2 w w') (hd : ∀ x ∈ fp, x ∉ fp2) : Rc w' g S fp := h.frame fun x hx => hm.block x (h.lt x hx) (hd x hx)
theorem rc_new (w : World) : Rc (w.alloc (.cells #[.slice none 0 0] 84)) w.heap.size [] [w.heap.size] :=
  ⟨.slice none 0 0, [], ⟨rfl, heap_alloc_new _ _, World.ownsRow_nil _ _ _ _, by simp, by simp, by simp [Value.ownBlock]⟩, by simp [Value.ownBlock]⟩

/-! An append where there is room, as one step of a region that draws its order. -/
section
variable {P : Program}
theorem step_append_in {ops : Array Oper} {o : Oper} {a : Act} {w : World} {K : Act → World → Prop} {Q : Exit → Act → World → Prop} {E : Prop} (hgd : o.guard = none) (s x : Operand) (t : TypeId)
    (ho : o.op = .call { callee := .builtin .append, args := #[s, x], argTypes := #[t, t] })
    (e : TypeId) (i : TypeInfo) (ht : P.underlying t = some (.slice e)) (hi : P.info? e = some i) (hsize : i.size = 1)
    {b n cap : Nat} {z : Value} {ws : List Value} (hb : w.heap[b]? = some (.cells (ws ++ List.replicate (cap - n) z).toArray e (0, 0))) (hn : ws.length = n) (hs : a.eval s = .slice (some ⟨b, 0, none⟩) n cap)
    {H m c : Nat} {news : List Value} {t' : TypeId} (hx : a.eval x = .slice (some ⟨H, 0, none⟩) m c) (hnw : w.heap[H]? = some (.cells news.toArray t' (0, 0))) (hl : news.length = m) (h1 : ∀ u ∈ news, u.oneCell' = true)
    (hroom : n + m ≤ cap)
    (h : ∀ w1 : World, w1.heap[b]? = some (.cells (ws ++ news ++ List.replicate (cap - (n + m)) z).toArray e (0, 0)) → w.grownBy w1 (some b) → w1.heap.size = w.heap.size → K (a.put o.dst (.slice (some ⟨b, 0, none⟩) (n + m) cap)) w1) :
    if Region.wanted o (yielded ops a.tmps) = true then Oper.wp P o a w K Q else E := by
  have hw : Region.wanted o (yielded ops a.tmps) = true := by simp [Region.wanted, hgd]
  rw [if_pos hw]
  subst hn
  have hr := run_append_room (P := P) w t o.type e i ht hi b ws.length cap _ hb ⟨H, 0, none⟩ m c news (by rw [hl, hsize, Nat.mul_one]) (fun j u hu => World.news_of_block (cs := news.toArray) hnw j u (by simpa using hu)) h1 hroom (by
    rw [hsize]; simp only [List.size_toArray, List.length_append, List.length_replicate]; omega)
  unfold Oper.wp execOp
  simp only [ho, resolve, invoke, builtin, Sem.run_bind, Sem.run_pure, Result.andThen_ok, List.map_toArray, List.map_cons, List.map_nil, hs, hx, hr]
  refine h _ ?_ ⟨rfl, rfl, rfl, by simp, fun k _ hk => setRow_other w b k _ (fun e => hk (by rw [e]))⟩ (by simp)
  rw [setRow_heap w b _ _ e _ hb]
  congr 3
  have e1 : ∀ R : List Value, (ws ++ R).drop (ws.length + m) = R.drop m := fun R => by rw [← List.drop_drop, List.drop_left]
  have e2 : cap - ws.length - m = cap - (ws.length + m) := by omega
  rw [hsize]
  simp only [Nat.mul_one, List.take_left, hl, e1, List.drop_replicate, e2]
end
theorem far_cell {w w1 : World} {row b o : Nat} {v : Value} (hg : w.grownBy w1 (some row)) (hc : w.cell? ⟨b, o, none⟩ = some v) (hn : b ≠ row) : w1.cell? ⟨b, o, none⟩ = some v :=
  (hg.cell_far ⟨b, o, none⟩ (World.block_lt_of_cell? w _ hc) (fun e => hn (Option.some.inj e))).trans hc
theorem far_free {w w1 : World} {row b o : Nat} (hg : w.grownBy w1 (some row)) (hb : b < w.heap.size) (hc : w.frozen? ⟨b, o, none⟩ = false) (hn : b ≠ row) : w1.frozen? ⟨b, o, none⟩ = false :=
  (hg.frozen_far ⟨b, o, none⟩ hb (fun e => hn (Option.some.inj e))).trans hc
theorem grow_al {w w1 : World} {k : Nat} {o : Obj} {row : Option Nat} (h : ((w.drewN k).alloc o).grownBy w1 row) : w.grownBy w1 row :=
  ⟨h.os, h.tape, h.output, Nat.le_trans (by show w.heap.size ≤ (w.heap.push o).size; simp) h.size, fun i hi hn => (h.block i (by show i < (w.heap.push o).size; simp; omega) hn).trans (heap_alloc_old (w.drewN k) o hi)⟩
theorem news_at {W : World} {N : Nat} (hN : W.heap.size = N) (x : Value) (t : TypeId) : ∀ j u, [x][j]? = some u → (W.alloc (.cells #[x] t)).cell? ((⟨N, 0, none⟩ : Addr).add j) = some u := by
  subst hN; exact cell_one_new W x t
theorem grow_two {w w1 : World} {k : Nat} {o o2 : Obj} {row : Option Nat} (h : (((w.drewN k).alloc o).alloc o2).grownBy w1 row) : w.grownBy w1 row := by
  refine grow_al (o := o) (k := k) ⟨h.os, h.tape, h.output, Nat.le_trans (by show ((w.drewN k).alloc o).heap.size ≤ (((w.drewN k).alloc o).heap.push o2).size; rw [Array.size_push]; omega) h.size, fun i hi hn => (h.block i (by show i < (((w.drewN k).alloc o).heap.push o2).size; rw [Array.size_push]; omega) hn).trans (heap_alloc_old _ o2 hi)⟩
theorem none_cell {w w1 : World} {b o : Nat} {v : Value} (hg : w.grownBy w1 none) (hc : w.cell? ⟨b, o, none⟩ = some v) : w1.cell? ⟨b, o, none⟩ = some v :=
  (hg.cell_far ⟨b, o, none⟩ (World.block_lt_of_cell? w _ hc) (fun e => nomatch e)).trans hc
theorem none_free {w w1 : World} {b o : Nat} (hg : w.grownBy w1 none) (hb : b < w.heap.size) (hc : w.frozen? ⟨b, o, none⟩ = false) : w1.frozen? ⟨b, o, none⟩ = false :=
  (hg.frozen_far ⟨b, o, none⟩ hb (fun e => nomatch e)).trans hc
end Go.Proofs.Ytbdnnkokkgdhnaa
