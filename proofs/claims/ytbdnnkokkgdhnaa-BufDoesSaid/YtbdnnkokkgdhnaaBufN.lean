/- Buffers that are made: New, Of, From; Words; Open. -/
import Derived.Test.YtbdnnkokkgdhnaaBufF
import Derived.Test.YtbdnnkokkgdhnaaHeld
import Derived.Deep.AppendLies
import Derived.BigQuiet
namespace Go.Proofs.Ytbdnnkokkgdhnaa
open Go.RowKit

theorem info_sec : (Try.prog.info? 29).map (fun i => (i.zero, i.size, i.bytes)) = some (some (.agg #[.int .i64 0]), 1, 8) := by kernel_rfl
/-- A word more, behind an append. -/
theorem Bufc.grown {W w1 : World} {b : Nat} {o : Option Nat} {v v' : Value} {L : List Int} {x : Int} (h : Bufc W b o v L) (hb : b ∉ vb v) (hown : w1.ownsRow 0 29 1 v' (L.length + 1) (L.map (Value.int .i64) ++ [.int .i64 x])) (hg : W.grownBy w1 v.ownBlock)
    (hv : ∀ g, v'.ownBlock = some g → g ≠ b) : Bufc (w1.setCell ⟨b, 1, none⟩ v') b o v' (L ++ [x]) := by
  have h1 : w1.heap[b]? = some (.cells #[rp o, v] 86 (0, 0)) := (hg.block b (heap_lt h.head) (fun e => hb (by simp [vb, ← e]))).trans h.head
  refine ⟨heap_setCell_same _ _ _ _ _ _ h1, ?_⟩
  rw [List.length_append, List.length_singleton, List.map_append]
  exact own_at hown fun g hg => heap_setCell_other _ ⟨b, 1, none⟩ g _ (hv g hg)
/-- A buffer that was made since W. -/
def NewB (W wr : World) (b : Nat) (o : Option Nat) (L : List Int) : Prop := ∃ v, Bufc wr b o v L ∧ b ∉ vb v ∧ (∀ x ∈ vb v, W.heap.size ≤ x) ∧ W.heap.size ≤ b ∧ Below W.heap.size W wr
theorem NewB.one {w0 W wr : World} {b : Nat} {o : Option Nat} {L : List Int} (h : NewB W wr b o L) {E : List Ev} {fr X : List Nat} (r : Ro W o E fr) (t : T2 w0 W fr [] X) : B1 w0 wr b o E L X := by
  obtain ⟨v, h1, h2, h3, h4, h5⟩ := h
  have hs := t.below.size
  have l1 := heap_lt h1.head
  have l2 := fun x hx => (vb_lt h1.row x hx).2
  have r1 : ∀ x ∈ fr, x < W.heap.size := fun x hx => t.lt x (.inl hx)
  have x1 : ∀ x ∈ X, x < W.heap.size := fun x hx => t.lt x (.inr (.inr hx))
  have z := h5.size
  refine ⟨b :: (vb v ++ fr), ⟨fr, v, r.below h5, h1, rfl, ?_, fun x hx hy => ?_⟩, ⟨fun x hx => ?_, fun x _ hy => (nomatch hy), fun x hx => ⟨fun hy => ?_, fun hy => (nomatch hy)⟩, fun x hx => ?_, gr2 t.below h5⟩⟩
  · simp only [List.mem_append, not_or]
    exact ⟨h2, fun hy => by have := r1 b hy; omega⟩
  · have := h3 x hx; have := r1 x hy; omega
  · simp only [List.mem_cons, List.mem_append, List.not_mem_nil, or_false] at hx
    rcases hx with rfl | hx | hx
    · omega
    · have := h3 x hx; omega
    · exact t.low x (.inl hx)
  · simp only [List.mem_cons, List.mem_append] at hy
    have h7 := x1 x hx
    rcases hy with rfl | hy | hy
    · omega
    · have := h3 x hy; omega
    · exact (t.px x hx).1 hy
  · simp only [List.mem_cons, List.mem_append, List.not_mem_nil, false_or] at hx
    rcases hx with (rfl | hx | hx) | hx
    · exact l1
    · exact l2 x hx
    · have := r1 x hx; omega
    · have := x1 x hx; omega
theorem Bufc.calm {W W' : World} {b : Nat} {o : Option Nat} {v : Value} {L : List Int} (h : Bufc W b o v L) (hb : Below W.heap.size W W') : Bufc W' b o v L :=
  h.frame (hb.block b (heap_lt h.head)) fun x hx => hb.block x (vb_lt h.row x hx).2
theorem cellA {w : World} {b o : Nat} {v : Value} {x : Obj} (h : w.cell? ⟨b, o, none⟩ = some v) : (w.alloc x).cell? ⟨b, o, none⟩ = some v :=
  ((gr1 (gr0 w) x).cell (p := ⟨b, o, none⟩) (World.block_lt_of_cell? w _ h)).trans h
theorem below_undrew {w w' : World} (h : Below w.drew.heap.size w.drew w') : Below w.heap.size w w' := ⟨h.os, h.tape, h.output, h.size, h.block⟩
theorem Bufc.undrew {w : World} {b : Nat} {o : Option Nat} {v : Value} {L : List Int} (h : Bufc w b o v L) : Bufc w.drew b o v L := ⟨h.head, h.row⟩
set_option maxRecDepth 100000 in
set_option maxHeartbeats 4000000 in
theorem bnew_ (o : Option Nat) (W : World) (n : Nat) (hn : n ≤ 1048576) :
    Calls Try.prog 17 #[rp o, .int .i64 n] W fun e W' => ∃ b, e = .returned (.pointer (some ⟨b, 0, none⟩)) ∧ NewB W W' b o (List.replicate n 0) := by
  obtain ⟨i0, hi, hz0, hz1, hz2⟩ := info_parts info_sec
  have t0 : decide ((n : Int) < 0) = false := by simp
  have t1 : decide ((1048576 : Int) < (n : Int)) = false := by simp; omega
  have hn9 : (0 : Int) ≤ n := by omega
  have hn8 : (n : Int) ≤ 1048576 := by omega
  have H0 : NewB W (W.alloc (.cells #[rp o, .slice none 0 0] 86)) W.heap.size o [] := ⟨.slice none 0 0, ⟨heap_alloc_new _ _, World.ownsRow_nil _ _ _ _⟩, by simp [vb, Value.ownBlock], by simp [vb, Value.ownBlock], Nat.le_refl _, gr1 (gr0 W) _⟩
  have hro : ∃ r, rp o = .pointer r := ⟨_, rfl⟩
  obtain ⟨r, hr⟩ := hro
  rw [hr] at H0 ⊢
  go_enter Try.func17, Try.ntmps17
  go_wp2
  obtain ⟨b, hb⟩ : ∃ b, b = W.heap.size := ⟨_, rfl⟩
  rw [← hb] at H0 ⊢
  clear hb
  go_loopg [16] n (fun gj i wr => ∃ jj : Nat, jj + gj = n ∧ i = .int .i64 jj ∧ NewB W wr b o (List.replicate jj 0))
  case atStart => exact ⟨0, Nat.zero_add _, rfl, H0⟩
  case round =>
    clear H0
    obtain ⟨j, hj, rfl, HN⟩ := hrel
    have hj9 : (0 : Int) ≤ j := by omega
    have hj7 : (j : Int) ≤ 1048576 := by omega
    by_cases hlt : j < n
    · have t2 : decide ((j : Int) < n) = true := by simp; omega
      have hj8 : (j : Int) < n := by omega
      obtain ⟨v, B1', B2', B3', B4', B5'⟩ := HN
      have HBv := hid2 B2'
      have HBx := hid2 B3'
      have HBl := hid2 B4'
      have HBb := hid2 B5'
      obtain ⟨l1, _, l3⟩ := B1'.look
      obtain ⟨q, c, hv, _⟩ := B1'.form
      rw [List.length_replicate] at hv
      subst hv
      have HBc := hid2 B1'
      have HLn := hid2 (List.length_replicate (n := j) (a := (0 : Int)))
      clear B1' B2' B3' B4' B5'
      go_wp2
      refine wp_region_noPanic ?_
      refine wp_region_held_rest 5 (fun w' => w'.cell? ⟨b, 1, none⟩ = some (.slice q j c)) (by kernel_rfl) (by kernel_rfl) l3 (fun _ _ _ _ _ h => h) ?_
      simp only [List.take_succ_cons, List.take_zero, List.drop_succ_cons, List.drop_zero]
      repeat (refine still_cons (by rfl) (by (intro w' hC; obtain hC1 := hC; go_simp; all_goals with_reducible rfl)) ?_; try simp only [Act.put, List.setIfInBounds_toArray, List.set_cons_zero, List.set_cons_succ])
      refine still_nil ?_
      refine rest_cons fun K hK => ?_
      go_simp
      go_at_call 19
      refine (sec_of 0 _).mono ?_
      rintro e w2 ⟨rfl, hb2'⟩
      have hb2 := below_undrew hb2'
      clear hb2'
      have c2 := (hb2.cell (p := ⟨b, 1, none⟩) l1).trans l3
      have h2 := HBc.out.calm hb2
      have z2 := hb2.size
      refine hK.out _ _ (fun _ => c2) ?_
      refine rest_cons fun K hK => ?_
      go_simp
      refine hK.out _ _ (fun _ => cellA c2) ?_
      refine rest_cons fun K hK => ?_
      have h3 := h2.calm (gr1 (gr0 w2) (.cells #[.int .i64 0] 29))
      have h3r := h3.row
      rw [HLn.out] at h3r
      refine step_append_lies _ (by rfl) _ _ 37 (by rfl) 0 29 i0 _ 1 8 Try.underlying37 hi hz0 hz1 hz2 rfl (by omega) _ j _ (by rfl) h3r ⟨w2.heap.size, 0, none⟩ 1 1 [.int .i64 0] (by rfl) (by rfl) (World.news_of_block (cs := #[.int .i64 0]) (heap_alloc_new w2 _)) (by simp [Value.oneCell']) (by omega) (by unfold maxLen; omega) (by omega) (Nat.zero_le _) (w2.heap.size + 1) (by simp) ?_
      intro gg cap1 w4 hown4 hgrow4 hat4 hlt4
      have hbv := HBv.out
      have z3 : b < w2.heap.size := Nat.lt_of_lt_of_le l1 z2
      have hq : ∀ y, (Value.slice q j c).ownBlock = some y → y ≠ b ∧ W.heap.size ≤ y := fun y hy => ⟨fun e => hbv (by simp [vb, hy, e]), HBx.out y (by simp [vb, hy])⟩
      have hne : gg ≠ b := by
        rcases hat4 with h | h
        · exact (hq gg h).1
        · omega
      have hge : W.heap.size ≤ gg := by
        have := HBb.out.size
        rcases hat4 with h | h
        · exact (hq gg h).2
        · omega
      have h5 : w4.heap[b]? = some (.cells #[rp o, .slice q j c] 86 (0, 0)) := (hgrow4.block b (heap_lt h3.head) (fun e => (hq b e.symm).1 rfl)).trans h3.head
      have hbb : Below W.heap.size W w4 := ((HBb.out.trans (hb2.mono HBb.out.size)).alloc (by have := HBb.out.size; omega) _).trans ⟨hgrow4.os, hgrow4.tape, hgrow4.output, hgrow4.size, fun k hk => hgrow4.block k (by have := HBb.out.size; simp; omega) (fun e => by have := (hq k e.symm).2; omega)⟩
      have hN := hid2 (h3.grown hbv (by rw [HLn.out]; exact hown4) hgrow4 (fun g hg => by cases hg; exact hne))
      have hNb := hid2 (show Below W.heap.size W (w4.setCell ⟨b, 1, none⟩ (.slice (some ⟨gg, 0, none⟩) (j + 1) cap1)) from gr4 hbb HBl.out _)
      have c4 : w4.cell? ⟨b, 1, none⟩ = some (.slice q j c) := cell_of_row _ _ _ _ _ _ h5
      have f4 : w4.frozen? ⟨b, 1, none⟩ = false := frozen_of_row _ _ _ _ _ h5
      have z4 := World.block_lt_of_cell? w4 _ c4
      clear hbb h3 h3r h2 hown4 hgrow4 hat4 h5 hq c2
      refine hK.out _ _ (fun _ => c4) ?_
      refine rest_cons fun K hK => ?_
      go_simp
      refine hK.out _ _ (fun _ => c4) ?_
      refine rest_cons fun K hK => ?_
      go_simp
      refine hK.out _ _ (fun _ => c4) ?_
      refine rest_cons fun K hK => ?_
      go_simp
      refine hK.out _ _ (fun h => absurd rfl h) (rest_nil (NoPanic.normal ?_))
      go_wp2
      go_roundg (n - (j + 1))
      case measure => omega
      case rel => exact ⟨j + 1, by omega, by go_num, .slice (some ⟨gg, 0, none⟩) (j + 1) cap1, by rw [List.replicate_succ']; exact hN.out, by simp [vb, Value.ownBlock, hne.symm], by simp [vb, Value.ownBlock, hge], HBl.out, hNb.out⟩
    · have hjn : j = n := by omega
      have t2 : decide ((j : Int) < n) = false := by simp; omega
      subst hjn
      go_wp2
      go_ret
      exact ⟨b, rfl, HN⟩
end Go.Proofs.Ytbdnnkokkgdhnaa
