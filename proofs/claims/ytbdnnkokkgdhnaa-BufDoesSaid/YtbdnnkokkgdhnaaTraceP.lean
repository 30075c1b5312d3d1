/- A recorder's memory behind a new part, and behind an event. -/
import Derived.Test.YtbdnnkokkgdhnaaTraceG
namespace Go.Proofs.Ytbdnnkokkgdhnaa
open Go.RowKit

theorem cell_al {w : World} {q b o : Nat} {v : Value} {x : Obj} (h : w.cell? ⟨b, o, none⟩ = some v) : ((w.drewN q).alloc x).cell? ⟨b, o, none⟩ = some v :=
  (World.cell?_of_block (a := ⟨b, o, none⟩) (w := w.drewN q) (w' := (w.drewN q).alloc x) (heap_alloc_old (w.drewN q) x (World.block_lt_of_cell? w _ h))).trans h
theorem cell_al2 {w : World} {q b o : Nat} {v : Value} {x y : Obj} (h : w.cell? ⟨b, o, none⟩ = some v) : (((w.drewN q).alloc x).alloc y).cell? ⟨b, o, none⟩ = some v := by
  have h1 := cell_al (q := q) (x := x) h
  exact (World.cell?_of_block (a := ⟨b, o, none⟩) (w := (w.drewN q).alloc x) (w' := ((w.drewN q).alloc x).alloc y) (heap_alloc_old _ y (World.block_lt_of_cell? _ _ h1))).trans h1
theorem size_set (w : World) (a : Addr) (v : Value) : (w.setCell a v).heap.size = w.heap.size := by show (w.heap.modify _ _).size = _; rw [Array.size_modify]
theorem own_set_in {w : World} {base : Nat} {e : TypeId} {g n c : Nat} {xs : List Value} (h : w.ownsRow base e 1 (.slice (some ⟨g, 0, none⟩) n c) n xs) (k : Nat) (x : Value) :
    (w.setCell ⟨g, k, none⟩ x).ownsRow base e 1 (.slice (some ⟨g, 0, none⟩) n c) n (xs.set k x) := by
  refine ⟨by rw [List.length_set]; exact h.1, ?_⟩
  rcases h.2 with ⟨h1, _⟩ | ⟨g', cap, cur, hv, h1, h2, h3, h4, h5, h6⟩
  · cases h1
  · cases hv
    refine .inr ⟨g, c, cur.setIfInBounds k x, rfl, h1, heap_setCell_same _ _ _ _ _ _ h2, h3, h4, by simpa using h5, ?_⟩
    rw [Array.toList_setIfInBounds, List.take_set, h6]
theorem own_cell_at {w : World} {base : Nat} {e : TypeId} {g n c : Nat} {xs : List Value} (h : w.ownsRow base e 1 (.slice (some ⟨g, 0, none⟩) n c) n xs) {j : Nat} {x : Value} (hj : xs[j]? = some x) : w.cell? ⟨g, j, none⟩ = some x := by
  have := h.cells (g := g) rfl j x hj
  have hadd : (⟨g, 0, none⟩ : Addr).add j = ⟨g, j, none⟩ := by unfold Addr.add; split <;> simp_all
  rwa [hadd] at this
theorem own_free_at {w : World} {base : Nat} {e : TypeId} {g n c : Nat} {xs : List Value} (h : w.ownsRow base e 1 (.slice (some ⟨g, 0, none⟩) n c) n xs) (j : Nat) : w.frozen? ⟨g, j, none⟩ = false := by
  rcases h.2 with ⟨h1, _⟩ | ⟨g', cap, cur, hv, _, h2, _⟩
  · cases h1
  · cases hv; exact frozen_of_row _ _ _ _ _ h2
theorem zip_snoc {bs : List Nat} {S : St} (h : bs.length = S.length) (b : Nat) (p : Part) : List.zipWith pcell (bs ++ [b]) (S ++ [p]) = List.zipWith pcell bs S ++ [pcell b p] := by
  rw [List.zipWith_append h]; rfl
theorem zip_len {bs : List Nat} {S : St} (h : bs.length = S.length) : (List.zipWith pcell bs S).length = S.length := by rw [List.length_zipWith, h, Nat.min_self]
theorem get_snoc {α : Type} {l : List α} {j : Nat} {x y : α} (h : (l ++ [x])[j]? = some y) : (j < l.length ∧ l[j]? = some y) ∨ (j = l.length ∧ x = y) := by
  rcases Nat.lt_or_ge j l.length with h1 | h1
  · rw [List.getElem?_append_left h1] at h; exact .inl ⟨h1, h⟩
  · rw [List.getElem?_append_right h1] at h
    rcases Nat.eq_or_lt_of_le h1 with h2 | h2
    · subst h2; simp at h; exact .inr ⟨rfl, h⟩
    · rw [List.getElem?_eq_none (by simp; omega)] at h; cases h
/-- What the walk sees of a recorder that has a part. -/
theorem rec_last {w : World} {g : Nat} {I : St} {p : Part} {v : Value} {bs : List Nat} (h : Rec w g (I ++ [p]) v bs) :
    ∃ gp c B b, v = .slice (some ⟨gp, 0, none⟩) (I.length + 1) c ∧ bs = B ++ [b] ∧ B.length = I.length ∧ w.cell? ⟨g, 0, none⟩ = some v ∧ w.cell? ⟨gp, I.length, none⟩ = some (pcell b p) ∧ w.frozen? ⟨gp, I.length, none⟩ = false ∧
      w.heap[b]? = some (.cells (prow p) 103 (0, 0)) ∧ g ≠ gp ∧ g ≠ b ∧ gp ≠ b ∧ PartOk p := by
  have hl := h.len
  have hr := h.row
  rcases snoc_or bs with rfl | ⟨B, b, rfl⟩
  · simp at hl
  · have hB : B.length = I.length := by simpa using hl
    rw [zip_snoc hB] at hr
    obtain ⟨gp, c, rfl, _, _⟩ := hr.form (by simp)
    rw [List.length_append, List.length_singleton] at hr
    have hn := h.nodup
    simp only [Value.ownBlock, Option.toList, List.cons_append, List.nil_append, List.nodup_cons, List.mem_cons, List.mem_append, List.not_mem_nil, or_false, not_or] at hn
    refine ⟨gp, c, B, b, by simp, rfl, hB, by rw [cell_of_row _ _ _ _ _ _ h.head]; rfl, own_cell_at hr ?_, own_free_at hr _, ?_, hn.1.1, hn.1.2.2, hn.2.1.2, h.ok p (by simp)⟩
    · rw [List.getElem?_append_right (by rw [zip_len hB]; omega), zip_len hB, Nat.sub_self]; rfl
    · exact h.part B.length b p (by simp) (by rw [hB]; simp)
theorem rec_put {w w4 : World} {g : Nat} {I : St} {p : Part} {v : Value} {bs : List Nat} {gp c b : Nat} {B : List Nat} (e : Ev) (h : Rec w g (I ++ [p]) v bs) (hv : v = .slice (some ⟨gp, 0, none⟩) (I.length + 1) c) (hb : bs = B ++ [b]) (he : EvOk e)
    (hroom : (encs p.1).length + 3 ≤ p.2)
    (h4 : w4.heap[b]? = some (.cells (u32s (encs p.1) ++ u32s (enc e) ++ List.replicate (p.2 - ((encs p.1).length + (enc e).length)) (Value.int .u32 0)).toArray 103 (0, 0))) (hg : w.grownBy w4 (some b)) :
    Rec (w4.setCell ⟨gp, I.length, none⟩ (.slice (some ⟨b, 0, none⟩) ((encs p.1).length + (enc e).length) p.2)) g (I ++ [addP p e]) v bs ∧
      Moved (g :: (v.ownBlock.toList ++ bs)) w (w4.setCell ⟨gp, I.length, none⟩ (.slice (some ⟨b, 0, none⟩) ((encs p.1).length + (enc e).length) p.2)) := by
  subst hv hb
  have hl := h.len
  have hB : B.length = I.length := by simpa using hl
  have hn := h.nodup
  have hlt := h.lt
  simp only [Value.ownBlock, Option.toList, List.cons_append, List.nil_append, List.nodup_cons, List.mem_cons, List.mem_append, List.not_mem_nil, or_false, not_or, List.nodup_append] at hn
  obtain ⟨⟨n1, n2, n3⟩, ⟨n4, n5⟩, n6, _, n7⟩ := hn
  have hx : (encs (addP p e).1).length = (encs p.1).length + (enc e).length := by show (encs (p.1 ++ [e])).length = _; rw [encs_snoc, List.length_append]
  have keep : ∀ x, x ≠ b → x ≠ gp → x < w.heap.size → (w4.setCell ⟨gp, I.length, none⟩ (.slice (some ⟨b, 0, none⟩) ((encs p.1).length + (enc e).length) p.2)).heap[x]? = w.heap[x]? := fun x h1 h2 h3 =>
    (heap_setCell_other _ ⟨gp, _, none⟩ x _ h2).trans (hg.block x h3 (fun e => h1 (Option.some.inj e)))
  refine ⟨⟨by simp [hB], ?_, ?_, ?_, ?_, h.nodup⟩, ?_⟩
  · rw [keep g n3 n1 (hlt g (by simp))]; exact h.head
  · have hr := h.row
    rw [List.length_append, List.length_singleton] at hr ⊢
    rw [zip_snoc hB] at hr ⊢
    have hr4 : w4.ownsRow 0 100 1 (.slice (some ⟨gp, 0, none⟩) (I.length + 1) c) (I.length + 1) (List.zipWith pcell B I ++ [pcell b p]) := own_at hr (fun x hx => by
      cases hx; exact hg.block gp (hlt gp (by simp [Value.ownBlock])) (fun e => n5 (Option.some.inj e)))
    have := own_set_in hr4 I.length (.slice (some ⟨b, 0, none⟩) ((encs p.1).length + (enc e).length) p.2)
    rw [List.set_append_right _ _ (by rw [zip_len hB]; omega), zip_len hB, Nat.sub_self] at this
    unfold pcell at this ⊢
    rw [hx]
    exact this
  · intro j b' p' hb' hp'
    rcases get_snoc hb' with ⟨h1, h2⟩ | ⟨h1, h2⟩
    · have h3 : j < I.length := by omega
      rw [List.getElem?_append_left h3] at hp'
      have hm := List.mem_of_getElem? h2
      rw [keep b' (fun e => n7 b' hm b (by simp) e) (fun e => n4 (e ▸ hm)) (hlt b' (by simp [hm]))]
      exact h.part j b' p' (by rw [List.getElem?_append_left h1]; exact h2) (by rw [List.getElem?_append_left h3]; exact hp')
    · subst h2
      have hj : j = I.length := by omega
      subst hj
      rw [List.getElem?_append_right (Nat.le_refl _), Nat.sub_self] at hp'
      simp at hp'
      subst hp'
      rw [heap_setCell_other _ ⟨gp, _, none⟩ b _ (fun e => n5 e.symm), h4]
      congr 3
      rw [hx]
      show _ = (u32s (encs (p.1 ++ [e])) ++ _)
      rw [encs_snoc]
      unfold u32s
      rw [List.map_append]
      rfl
  · intro q hq
    rcases List.mem_append.1 hq with hq | hq
    · exact h.ok q (by simp [hq])
    · simp at hq; subst hq
      obtain ⟨k1, k2, k3⟩ := h.ok p (by simp)
      refine ⟨fun x hx => ?_, ?_, k3⟩
      · rcases List.mem_append.1 hx with hx | hx
        · exact k1 x hx
        · simp at hx; subst hx; exact he
      · rw [hx]; have := enc_len e; show _ ≤ p.2; omega
  · refine moved_set (moved_grown (Moved.refl _ _) hg (fun k hk => .inl ?_)) (.inl ?_) _
    · cases hk; simp
    · simp [Value.ownBlock]
theorem rec_open {w w1 : World} {g : Nat} {S : St} {v : Value} {bs : List Nat} {gg cap1 cN q : Nat} {o2 : Obj} (h : Rec w g S v bs) (hc : 64 ≤ cN ∧ cN ≤ 65536)
    (hown : w1.ownsRow 0 100 1 (.slice (some ⟨gg, 0, none⟩) (S.length + 1) cap1) (S.length + 1) (List.zipWith pcell bs S ++ [.slice (some ⟨w.heap.size, 0, none⟩) 0 cN]))
    (hg : (((w.drewN q).alloc (.cells (room0 cN) 103)).alloc o2).grownBy w1 v.ownBlock) (hat : v.ownBlock = some gg ∨ gg = w.heap.size + 2) :
    Rec (w1.setCell ⟨g, 0, none⟩ (.slice (some ⟨gg, 0, none⟩) (S.length + 1) cap1)) g (S ++ [([], cN)]) (.slice (some ⟨gg, 0, none⟩) (S.length + 1) cap1) (bs ++ [w.heap.size]) ∧
      Moved (g :: (v.ownBlock.toList ++ bs)) w (w1.setCell ⟨g, 0, none⟩ (.slice (some ⟨gg, 0, none⟩) (S.length + 1) cap1)) ∧
      Fresh w (g :: (v.ownBlock.toList ++ bs)) (g :: ((Value.slice (some ⟨gg, 0, none⟩) (S.length + 1) cap1).ownBlock.toList ++ (bs ++ [w.heap.size]))) := by
  have hG := grow_two hg
  have hlt := h.lt
  have hn := h.nodup
  have hl := h.len
  simp only [List.nodup_cons, List.mem_append, not_or, List.nodup_append, Option.mem_toList] at hn
  obtain ⟨⟨n1, n2⟩, n3, n4, n5⟩ := hn
  have gl : g < w.heap.size := hlt g (by simp)
  have bl : ∀ x ∈ bs, x < w.heap.size := fun x hx => hlt x (by simp [hx])
  have vl : ∀ x, v.ownBlock = some x → x < w.heap.size := fun x hx => hlt x (by simp [hx])
  have g1 : g ≠ gg := by
    rcases hat with h1 | h1
    · intro e; exact n1 (by rw [h1, e])
    · omega
  have g2 : ∀ x ∈ bs, x ≠ gg := fun x hx => by
    rcases hat with h1 | h1
    · intro e; exact n5 gg h1 x hx e.symm
    · have := bl x hx; omega
  have g3 : gg ≠ w.heap.size := by
    rcases hat with h1 | h1
    · have := vl gg h1; omega
    · omega
  have keep : ∀ x, x < w.heap.size → v.ownBlock ≠ some x → w1.heap[x]? = w.heap[x]? := fun x hx hv => hG.block x hx (fun e => hv e.symm)
  refine ⟨⟨by simp [hl], ?_, ?_, ?_, ?_, ?_⟩, ?_, ?_⟩
  · have := heap_setCell_same w1 g 0 _ _ (.slice (some ⟨gg, 0, none⟩) (S.length + 1) cap1) ((keep g gl n1).trans h.head)
    exact this
  · rw [zip_snoc hl, List.length_append, List.length_singleton]
    exact own_at hown (fun x hx => by cases hx; exact heap_setCell_other _ ⟨g, 0, none⟩ gg _ (Ne.symm g1))
  · intro j b' p' hb' hp'
    rcases get_snoc hb' with ⟨h1, h2⟩ | ⟨h1, h2⟩
    · have h3 : j < S.length := by omega
      rw [List.getElem?_append_left h3] at hp'
      have hm := List.mem_of_getElem? h2
      rw [heap_setCell_other _ ⟨g, 0, none⟩ b' _ (fun e => n2 (by have e : b' = g := e; rw [← e]; exact hm)), keep b' (bl b' hm) (fun e => n5 b' e b' hm rfl)]
      exact h.part j b' p' h2 hp'
    · subst h2
      have hj : j = S.length := by omega
      subst hj
      rw [List.getElem?_append_right (Nat.le_refl _), Nat.sub_self] at hp'
      simp at hp'
      subst hp'
      rw [heap_setCell_other _ ⟨g, 0, none⟩ w.heap.size _ (fun e => by have e : w.heap.size = g := e; omega)]
      rw [hg.block w.heap.size (by show _ < (((w.drewN q).heap.push _).push o2).size; rw [Array.size_push, Array.size_push]; show w.heap.size < w.heap.size + 1 + 1; omega) (fun e => by have := vl _ e.symm; omega)]
      show (((w.drewN q).heap.push _).push o2)[w.heap.size]? = _
      rw [Array.getElem?_push, if_neg (by rw [Array.size_push]; show w.heap.size ≠ w.heap.size + 1; omega), Array.getElem?_push]
      exact if_pos rfl
  · intro p hp
    rcases List.mem_append.1 hp with hp | hp
    · exact h.ok p hp
    · simp at hp; subst hp
      exact ⟨by simp, by simp [encs], hc.2⟩
  · simp only [Value.ownBlock, Option.toList, List.cons_append, List.nil_append, List.nodup_cons, List.mem_cons, List.mem_append, List.not_mem_nil, or_false, not_or, List.nodup_append]
    exact ⟨⟨g1, n2, by omega⟩, ⟨fun hm => g2 gg hm rfl, g3⟩, n4, by simp, fun x hx y hy => by subst hy; have := bl x hx; omega⟩
  · refine moved_set (moved_grown (Moved.refl _ _) hG (fun k hk => .inl ?_)) (.inl (by simp)) _
    rw [hk]; simp
  · intro x hx
    rw [show (Value.slice (some ⟨gg, 0, none⟩) (S.length + 1) cap1).ownBlock = some gg from rfl] at hx
    simp only [List.mem_cons, List.mem_append, List.not_mem_nil, or_false, Option.mem_toList] at hx ⊢
    rcases hx with rfl | hx | hx | rfl
    · exact .inl (.inl rfl)
    · cases hx
      rcases hat with h1 | h1
      · exact .inl (.inr (.inl h1))
      · right; omega
    · exact .inl (.inr (.inr hx))
    · exact .inr (Nat.le_refl _)
end Go.Proofs.Ytbdnnkokkgdhnaa
