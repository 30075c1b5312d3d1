/- Buffers: Len, has, Get, Set, Trace, each by what it does. -/
import Derived.Test.YtbdnnkokkgdhnaaBufM
import Derived.Test.YtbdnnkokkgdhnaaSec
namespace Go.Proofs.Ytbdnnkokkgdhnaa
open Go.RowKit

theorem Bufc.form {W : World} {b : Nat} {o : Option Nat} {v : Value} {L : List Int} (h : Bufc W b o v L) : ∃ q c, v = .slice q L.length c ∧ ∀ (j : Nat) (x : Int), L[j]? = some x → ∃ g, q = some ⟨g, 0, none⟩ ∧ vb v = [g] ∧ g < W.heap.size ∧ W.cell? ⟨g, j, none⟩ = some (.int .i64 x) ∧ W.frozen? ⟨g, j, none⟩ = false := by
  have hr := h.row
  rcases h.row.2 with ⟨rfl, h0⟩ | ⟨g, cap, cur, rfl, _, hh, _⟩
  · refine ⟨none, 0, by rw [h0], fun j x hj => ?_⟩
    have : j < L.length := (List.getElem?_eq_some_iff.1 hj).1
    omega
  · refine ⟨some ⟨g, 0, none⟩, cap, rfl, fun j x hj => ⟨g, rfl, rfl, heap_lt hh, ?_, frozen_of_row _ _ _ _ _ hh⟩⟩
    have := World.ownsRow.cells hr (g := g) rfl j (.int .i64 x) (by simp [hj])
    rwa [show (⟨g, 0, none⟩ : Addr).add j = ⟨g, j, none⟩ by unfold Addr.add; split <;> simp_all] at this
/-- What the walk sees of a buffer. -/
theorem Bufc.look {W : World} {b : Nat} {o : Option Nat} {v : Value} {L : List Int} (h : Bufc W b o v L) : b < W.heap.size ∧ W.cell? ⟨b, 0, none⟩ = some (rp o) ∧ W.cell? ⟨b, 1, none⟩ = some v :=
  ⟨heap_lt h.head, cell_of_row _ _ _ _ _ _ h.head, cell_of_row _ _ _ _ _ _ h.head⟩
theorem B1.look {w0 W : World} {b : Nat} {o : Option Nat} {E : List Ev} {L : List Int} {X : List Nat} (k : B1 w0 W b o E L X) : ∃ q c, b < W.heap.size ∧ W.cell? ⟨b, 0, none⟩ = some (rp o) ∧ W.cell? ⟨b, 1, none⟩ = some (.slice q L.length c) ∧
    ∀ (j : Nat) (x : Int), L[j]? = some x → ∃ g, q = some ⟨g, 0, none⟩ ∧ g < W.heap.size ∧ g ∉ X ∧ w0.heap.size ≤ g ∧ W.cell? ⟨g, j, none⟩ = some (.int .i64 x) ∧ W.frozen? ⟨g, j, none⟩ = false := by
  obtain ⟨fp, ⟨fr, v, h1, h2, rfl, h3, h4⟩, t⟩ := k
  obtain ⟨l1, l2, l3⟩ := h2.look
  obtain ⟨q, c, rfl, hf⟩ := h2.form
  refine ⟨q, c, l1, l2, l3, fun j x hj => ?_⟩
  obtain ⟨g, rfl, hv, hg, k1, k2⟩ := hf j x hj
  exact ⟨g, rfl, hg, fun hx => (t.px g hx).1 (by simp [hv]), t.low g (.inl (by simp [hv])), k1, k2⟩
theorem B1.ltX {w0 W : World} {b : Nat} {o : Option Nat} {E : List Ev} {L : List Int} {X : List Nat} (k : B1 w0 W b o E L X) : ∀ x ∈ X, x < W.heap.size := by
  obtain ⟨fp, _, t⟩ := k; exact fun x hx => t.lt x (.inr (.inr hx))
theorem Kept.refl (X : List Nat) (W : World) : Kept X W W := ⟨fun _ _ => rfl, Nat.le_refl _⟩
theorem Kept.trans {X : List Nat} {A B C : World} (h : Kept X A B) (k : Kept X B C) : Kept X A C := ⟨fun x hx => (k.1 x hx).trans (h.1 x hx), Nat.le_trans h.2 k.2⟩
theorem Kept.less {X Y : List Nat} {A B : World} (h : Kept X A B) (hY : ∀ x ∈ Y, x ∈ X) : Kept Y A B := ⟨fun x hx => h.1 x (hY x hx), h.2⟩
theorem Kept.calm {X : List Nat} {W W' : World} (hX : ∀ x ∈ X, x < W.heap.size) (hb : Below W.heap.size W W') : Kept X W W' := ⟨fun x hx => hb.block x (hX x hx), hb.size⟩
theorem Kept.al {X : List Nat} {W W' : World} {ob : Obj} (hX : ∀ x ∈ X, x < W.heap.size) (h : Kept (W.heap.size :: X) (W.alloc ob) W') : Kept X W W' :=
  ⟨fun x hx => (h.1 x (by simp [hx])).trans (heap_alloc_old W ob (hX x hx)), Nat.le_trans (by simp) h.2⟩
theorem Kept.set {X : List Nat} {W W' : World} (h : Kept X W W') {x i : Nat} (hx : x ∉ X) (v : Value) : Kept X W (W'.setCell ⟨x, i, none⟩ v) :=
  ⟨fun y hy => (heap_setCell_other _ ⟨x, i, none⟩ y _ (fun e => hx (by have e : y = x := e; rw [← e]; exact hy))).trans (h.1 y hy), by rw [size_set]; exact h.2⟩
theorem does_rec {W W' : World} {b : Nat} {o : Option Nat} {v : Value} {E' : List Ev} {L : List Int} {fr fr' : List Nat} (h2 : Bufc W b o v L) (hd : b ∉ vb v ++ fr) (hv : ∀ x ∈ vb v, x ∉ fr) (r : Ro W' o E' fr') (m : Moved fr W W') (f : Fresh W fr fr') :
    Does W W' b o E' L (b :: (vb v ++ fr)) := by
  have lb := heap_lt h2.head
  have lv := fun x hx => (vb_lt h2.row x hx).2
  have nn : ∀ x, x < W.heap.size → x ∉ fr → x ∉ fr' := fun x hx hn hy => by
    rcases f x hy with h | h
    · exact hn h
    · omega
  have hd1 : b ∉ vb v ∧ b ∉ fr := by simpa using hd
  refine ⟨b :: (vb v ++ fr'), ⟨fr', v, r, h2.frame (m.block b lb hd1.2) (fun x hx => m.block x (lv x hx) (hv x hx)), rfl, by simp [hd1.1, nn b lb hd1.2], fun x hx => nn x (lv x hx) (hv x hx)⟩,
    ⟨m.os, m.tape, m.output, m.size, fun x hx hn => m.block x hx (fun hy => hn (by simp [hy]))⟩, fun x hx => ?_⟩
  simp only [List.mem_cons, List.mem_append] at hx ⊢
  rcases hx with h | h | h
  · exact .inl (.inl h)
  · exact .inl (.inr (.inl h))
  · rcases f x h with h | h
    · exact .inl (.inr (.inr h))
    · exact .inr h
/-- A word is laid. -/
theorem B1.put {w0 W : World} {b : Nat} {o : Option Nat} {E : List Ev} {L : List Int} {X : List Nat} (k : B1 w0 W b o E L X) {g n c : Nat} (hc : W.cell? ⟨b, 1, none⟩ = some (.slice (some ⟨g, 0, none⟩) n c)) (i : Nat) (x : Int) :
    B1 w0 (W.setCell ⟨g, i, none⟩ (.int .i64 x)) b o E (L.set i x) X := by
  obtain ⟨fp, ⟨fr, v, h1, h2, rfl, h3, h4⟩, t⟩ := k
  have hv : v = .slice (some ⟨g, 0, none⟩) n c := Option.some.inj (h2.look.2.2.symm.trans hc)
  subst hv
  have hvb : vb (.slice (some ⟨g, 0, none⟩) n c) = [g] := rfl
  have h3' : b ∉ vb (.slice (some ⟨g, 0, none⟩) n c) ∧ b ∉ fr := by simpa using h3
  have hg1 : g ∉ fr := h4 g (by simp [hvb])
  have hbg : b ≠ g := fun e => h3'.1 (by rw [e, hvb]; simp)
  have hn : n = L.length := by
    obtain ⟨q, c', e, _⟩ := h2.form
    cases e; rfl
  refine ⟨_, ⟨fr, .slice (some ⟨g, 0, none⟩) n c, h1.frame fun y hy => heap_setCell_other _ ⟨g, i, none⟩ y _ (fun e => hg1 (by have e : y = g := e; rw [← e]; exact hy)), ⟨(heap_setCell_other _ ⟨g, i, none⟩ b _ hbg).trans h2.head, ?_⟩, rfl, h3, h4⟩, ?_⟩
  · rw [List.map_set, List.length_set]
    subst hn
    exact own_set_in h2.row i _
  · exact T2.set t (t.low g (.inl (by simp [hvb]))) _

theorem blen_ {W : World} {b : Nat} {o : Option Nat} {v : Value} {L : List Int} (h : Bufc W b o v L) :
    Calls Try.prog 23 #[.pointer (some ⟨b, 0, none⟩)] W fun e W' => e = .returned (.int .i64 L.length) ∧ Below W.heap.size W W' := by
  obtain ⟨l1, l2, l3⟩ := h.look
  obtain ⟨q, c, rfl, _⟩ := h.form
  clear h
  go_enter Try.func23, Try.ntmps23
  go_wp2
  go_ret
  exact ⟨rfl, gr0 _⟩
theorem blen_none (W : World) :
    Calls Try.prog 23 #[.pointer none] W fun e W' => e = .returned (.int .i64 0) ∧ Below W.heap.size W W' := by
  go_enter Try.func23, Try.ntmps23
  go_wp2
  go_ret
  exact ⟨rfl, gr0 _⟩
theorem btrace_ {W : World} {b : Nat} {o : Option Nat} {v : Value} {L : List Int} (h : Bufc W b o v L) :
    Calls Try.prog 32 #[.pointer (some ⟨b, 0, none⟩)] W fun e W' => e = .returned (rp o) ∧ Below W.heap.size W W' := by
  obtain ⟨l1, l2, l3⟩ := h.look
  clear h
  unfold rp at *
  generalize (o.map fun g => (⟨g, 0, none⟩ : Addr)) = r at *
  go_enter Try.func32, Try.ntmps32
  go_wp2
  go_ret
  exact ⟨rfl, gr0 _⟩

theorem bhas_ {w0 W : World} {b : Nat} {o : Option Nat} {E : List Ev} {L : List Int} {X : List Nat} (k : B1 w0 W b o E L X) (hE : E.length ≤ 1000000) (hL : L.length ≤ 1048576) (i : Int) :
    Calls Try.prog 50 #[.pointer (some ⟨b, 0, none⟩), .int .i64 i] W fun e W' => e = .returned (.bool (decide (inL L i))) ∧ B1 w0 W' b o (seeL o E L i) L X ∧ Kept X W W' := by
  have hX := k.ltX
  by_cases h0 : i < 0
  · have hd : decide (inL L i) = false := decide_eq_false (fun h => by unfold inL at h; omega)
    have hs : seeL o E L i = E := by unfold seeL; exact if_neg (of_decide_eq_false hd)
    have t0 : decide (i < 0) = true := by simp; omega
    rw [hd, hs]
    clear hd hs
    go_enter Try.func50, Try.ntmps50
    go_wp2
    go_ret
    exact ⟨rfl, k, Kept.refl _ _⟩
  · have t0 : decide (i < 0) = false := by simp; omega
    by_cases h1 : (L.length : Int) ≤ i
    · have hd : decide (inL L i) = false := decide_eq_false (fun h => by unfold inL at h; omega)
      have hs : seeL o E L i = E := by unfold seeL; exact if_neg (of_decide_eq_false hd)
      have t1 : decide ((L.length : Int) ≤ i) = true := by simp; omega
      rw [hd, hs]
      clear hd hs
      obtain ⟨_, ⟨_, _, _, c, _⟩, _⟩ := id k
      go_enter Try.func50, Try.ntmps50
      go_wp2_with (go_at_call 23; refine (blen_ c).mono ?_; rintro e W1 ⟨rfl, hb1⟩)
      go_ret
      exact ⟨rfl, k.calm hb1, Kept.calm hX hb1⟩
    · have hd : decide (inL L i) = true := decide_eq_true (by unfold inL; omega)
      have hs : seeL o E L i = addO o E [(1, i)] := by unfold seeL; exact if_pos (of_decide_eq_true hd)
      have t1 : decide ((L.length : Int) ≤ i) = false := by simp; omega
      have hI : I64 i := ⟨by omega, by omega⟩
      rw [hd, hs]
      clear hd hs
      obtain ⟨_, ⟨_, _, _, c, _⟩, _⟩ := id k
      unfold rp at *
      go_enter Try.func50, Try.ntmps50
      go_wp2_with (first
        | (go_at_call 23; refine (blen_ c).mono ?_; rintro e W1 ⟨rfl, hb1⟩; obtain ⟨fp, ⟨fr, v, r, c1, rfl, d1, d2⟩, t⟩ := k.calm hb1; obtain ⟨l1, l2, l3⟩ := c1.look; unfold rp at l2)
        | (go_at_call 76; refine (ridx_ r hE i hI).mono ?_; rintro e W2 ⟨rfl, fr', r', m, f⟩; have HD := (does_rec c1 d1 d2 r' m f).one t))
      go_ret
      exact ⟨rfl, HD.1, (Kept.calm hX hb1).trans HD.2⟩
theorem bhas_none (i : Int) (W : World) :
    Calls Try.prog 50 #[.pointer none, .int .i64 i] W fun e W' => e = .returned (.bool false) ∧ Below W.heap.size W W' := by
  by_cases h0 : i < 0
  · have t0 : decide (i < 0) = true := by simp; omega
    go_enter Try.func50, Try.ntmps50
    go_wp2
    go_ret
    exact ⟨rfl, gr0 _⟩
  · have t0 : decide (i < 0) = false := by simp; omega
    have t1 : decide ((0 : Int) ≤ i) = true := by simp; omega
    go_enter Try.func50, Try.ntmps50
    go_wp2_with (go_at_call 23; refine (blen_none W).mono ?_; rintro e W1 ⟨rfl, hb1⟩)
    go_ret
    exact ⟨rfl, hb1⟩

theorem getL_in {L : List Int} {i : Int} (h : inL L i) : ∃ j : Nat, i = j ∧ j < L.length ∧ L[j]? = some (getL L i) := by
  obtain ⟨h1, h2⟩ := h
  refine ⟨i.toNat, by omega, by omega, ?_⟩
  unfold getL
  rw [if_pos ⟨h1, h2⟩, List.getElem?_eq_getElem (by omega)]
  simp [List.getD, List.getElem?_eq_getElem (show i.toNat < L.length by omega)]
theorem bget_ {w0 W : World} {b : Nat} {o : Option Nat} {E : List Ev} {L : List Int} {X : List Nat} (k : B1 w0 W b o E L X) (hE : E.length ≤ 1000000) (hL : L.length ≤ 1048576) (i : Int) :
    Calls Try.prog 20 #[.pointer (some ⟨b, 0, none⟩), .int .i64 i] W fun e W' => e = .returned (.agg #[.int .i64 (getL L i)]) ∧ B1 w0 W' b o (seeL o E L i) L X ∧ Kept X W W' := by
  have hX := k.ltX
  have hW := k.below.size
  have K := k.more (gr1 (gr0 W) (.cells #[.int .i64 0] 29)) W.heap.size (Nat.le_refl _) (by simp)
  by_cases hin : inL L i
  · have hd : decide (inL L i) = true := decide_eq_true hin
    obtain ⟨j, rfl, hj, hx⟩ := getL_in hin
    have hj0 : (0 : Int) ≤ j := by omega
    have hj1 : (j : Int) < L.length := by omega
    generalize getL L (j : Int) = x at *
    clear hin
    go_enter Try.func20, Try.ntmps20
    go_wp2_with (go_at_call 50; refine (bhas_ K hE hL j).mono ?_; rintro e W2 ⟨rfl, k2, kx⟩; rw [hd]; obtain ⟨q, c, l1, _, l3, hf⟩ := k2.look; obtain ⟨g, rfl, hg, hgX, _, l4, _⟩ := hf j x hx; have hgne : g ≠ W.heap.size := (fun e => hgX (by simp [e])); have r1 := kx.cell (b := W.heap.size) (o := 0) (v := .int .i64 0) (by simp) (by simp [alloc_cell_if]); have r2 := kx.free (b := W.heap.size) (o := 0) (by simp) (by simp [alloc_frozen_if]); have r3 := World.block_lt_of_cell? W2 _ r1; clear hf)
    have r4 : (W2.setCell ⟨W.heap.size, 0, none⟩ (.int .i64 x)).cell? ⟨W.heap.size, 0, none⟩ = some (.int .i64 x) := World.cell?_setCell_same' _ _ _ (by rw [r1]; rfl)
    exact bodyPost_ret (by simp [results, Try.results20, go_sem, r4] <;> rfl) rfl ⟨rfl, (k2.set (x := W.heap.size) (i := 0) (by simp) hW (.int .i64 x)).less (fun x hx => by simp [hx]), (Kept.al hX kx).set (fun h => by have := hX _ h; omega) _⟩
  · have hd : decide (inL L i) = false := decide_eq_false hin
    have hx : getL L i = 0 := by unfold getL; exact if_neg hin
    rw [hx]
    clear hx hin
    go_enter Try.func20, Try.ntmps20
    go_wp2_with (first
      | (go_at_call 50; refine (bhas_ K hE hL i).mono ?_; rintro e W2 ⟨rfl, k2, kx⟩; rw [hd]; have r1 := kx.cell (b := W.heap.size) (o := 0) (v := .int .i64 0) (by simp) (by simp [alloc_cell_if]); have r2 := kx.free (b := W.heap.size) (o := 0) (by simp) (by simp [alloc_frozen_if]); have r3 := World.block_lt_of_cell? W2 _ r1)
      | (go_at_call 19; refine (sec_of 0 _).mono ?_; rintro e W3 ⟨rfl, hb3⟩; have k3 := k2.calm hb3; have r5 := (hb3.cell (p := ⟨W.heap.size, 0, none⟩) r3).trans r1; have r6 := (hb3.frozen (p := ⟨W.heap.size, 0, none⟩) r3).trans r2; have r7 := World.block_lt_of_cell? W3 _ r5))
    have r4 : (W3.setCell ⟨W.heap.size, 0, none⟩ (.int .i64 0)).cell? ⟨W.heap.size, 0, none⟩ = some (.int .i64 0) := World.cell?_setCell_same' _ _ _ (by rw [r5]; rfl)
    exact bodyPost_ret (by simp [results, Try.results20, go_sem, r4] <;> rfl) rfl ⟨rfl, (k3.set (x := W.heap.size) (i := 0) (by simp) hW (.int .i64 0)).less (fun x hx => by simp [hx]), (Kept.al hX (kx.trans (Kept.calm k2.ltX hb3))).set (fun h => by have := hX _ h; omega) _⟩
theorem bget_none (i : Int) (W : World) :
    Calls Try.prog 20 #[.pointer none, .int .i64 i] W fun e W' => e = .returned (.agg #[.int .i64 0]) ∧ Below W.heap.size W W' := by
  go_enter Try.func20, Try.ntmps20
  go_wp2_with (first
    | (go_at_call 50; refine (bhas_none i _).mono ?_; rintro e W2 ⟨rfl, hb2⟩; have r1 : W2.cell? ⟨W.heap.size, 0, none⟩ = some (.int .i64 0) := (hb2.cell (p := ⟨W.heap.size, 0, none⟩) (by simp)).trans (by simp [alloc_cell_if]); have r2 : W2.frozen? ⟨W.heap.size, 0, none⟩ = false := (hb2.frozen (p := ⟨W.heap.size, 0, none⟩) (by simp)).trans (by simp [alloc_frozen_if]); have r3 := World.block_lt_of_cell? W2 _ r1)
    | (go_at_call 19; refine (sec_of 0 _).mono ?_; rintro e W3 ⟨rfl, hb3⟩; have r5 := (hb3.cell (p := ⟨W.heap.size, 0, none⟩) r3).trans r1; have r6 := (hb3.frozen (p := ⟨W.heap.size, 0, none⟩) r3).trans r2; have r7 := World.block_lt_of_cell? W3 _ r5))
  have r4 : (W3.setCell ⟨W.heap.size, 0, none⟩ (.int .i64 0)).cell? ⟨W.heap.size, 0, none⟩ = some (.int .i64 0) := World.cell?_setCell_same' _ _ _ (by rw [r5]; rfl)
  exact bodyPost_ret (by simp [results, Try.results20, go_sem, r4] <;> rfl) rfl ⟨rfl, gr4 (gr2 (gr2 (gr1 (gr0 _) _) hb2) hb3) (by simp) _⟩

theorem setL_in {L : List Int} {j : Nat} (h : inL L (j : Int)) (x : Int) : setL L (j : Int) x = L.set j x := by unfold setL; rw [if_pos h]; rfl
theorem bset_ {w0 W : World} {b : Nat} {o : Option Nat} {E : List Ev} {L : List Int} {X : List Nat} (k : B1 w0 W b o E L X) (hE : E.length ≤ 1000000) (hL : L.length ≤ 1048576) (i x : Int) :
    Calls Try.prog 18 #[.pointer (some ⟨b, 0, none⟩), .int .i64 i, .agg #[.int .i64 x]] W fun e W' => e = .returned (.tuple #[]) ∧ B1 w0 W' b o (seeL o E L i) (setL L i x) X ∧ Kept X W W' := by
  have hX := k.ltX
  have hW := k.below.size
  have K := k.more (gr1 (gr0 W) (.cells #[.int .i64 x] 29)) W.heap.size (Nat.le_refl _) (by simp)
  by_cases hin : inL L i
  · have hd : decide (inL L i) = true := decide_eq_true hin
    obtain ⟨j, rfl, hj, hx⟩ := getL_in hin
    have hj0 : (0 : Int) ≤ j := by omega
    have hj1 : (j : Int) < L.length := by omega
    rw [setL_in hin]
    generalize getL L (j : Int) = y at *
    clear hin
    go_enter Try.func18, Try.ntmps18
    go_wp2_with (first
      | (go_at_call 50; refine (bhas_ K hE hL j).mono ?_; rintro e W2 ⟨rfl, k2, kx⟩; rw [hd]; obtain ⟨q, c, l1, _, l3, hf⟩ := k2.look; obtain ⟨g, rfl, hg, hgX, hgw, l4, l5⟩ := hf j y hx; have hgne : g ≠ W.heap.size := (fun e => hgX (by simp [e])); have r1 := kx.cell (b := W.heap.size) (o := 0) (v := .int .i64 x) (by simp) (by simp [alloc_cell_if]); have r2 := kx.free (b := W.heap.size) (o := 0) (by simp) (by simp [alloc_frozen_if]); have r3 := World.block_lt_of_cell? W2 _ r1; clear hf))
    refine wp_region_calm_tail 7 (by kernel_rfl) (by kernel_rfl) ?_
    simp only [List.take_succ_cons, List.take_zero, List.drop_succ_cons, List.drop_zero]
    (repeat (first | go_big_quiet_step (fail) | quiet_step (fail)))
    refine wpQuiet_nil ?_
    intro u
    have ku := k2.calm u.below
    have r5 := (u.below.cell (p := ⟨g, j, none⟩) hg).trans l4
    have r6 := (u.below.frozen (p := ⟨g, j, none⟩) hg).trans l5
    have r7 := World.block_lt_of_cell? u.at_ _ r5
    have r8 := (u.below.cell (p := ⟨b, 1, none⟩) l1).trans l3
    have kk := Kept.al hX (kx.trans (Kept.calm k2.ltX u.below))
    generalize u.at_ = W3 at *
    clear k2 l1 l3 l4 l5 r1 r2 r3 hg
    go_wp2
    exact ⟨rfl, .tuple #[], by simp [results, Try.results18], rfl, (ku.less (Y := X) (fun y hy => by simp [hy])).put r8 j x, kk.set (fun h => hgX (by simp [h])) _⟩
  · have hd : decide (inL L i) = false := decide_eq_false hin
    have hs : setL L i x = L := by unfold setL; exact if_neg hin
    rw [hs]
    clear hs hin
    go_enter Try.func18, Try.ntmps18
    go_wp2_with (go_at_call 50; refine (bhas_ K hE hL i).mono ?_; rintro e W2 ⟨rfl, k2, kx⟩; rw [hd])
    exact ⟨rfl, .tuple #[], by simp [results, Try.results18], rfl, k2.less (fun y hy => by simp [hy]), Kept.al hX kx⟩
theorem bset_none (i x : Int) (W : World) :
    Calls Try.prog 18 #[.pointer none, .int .i64 i, .agg #[.int .i64 x]] W fun e W' => e = .returned (.tuple #[]) ∧ Below W.heap.size W W' := by
  go_enter Try.func18, Try.ntmps18
  go_wp2_with (go_at_call 50; refine (bhas_none i _).mono ?_; rintro e W2 ⟨rfl, hb2⟩)
  exact ⟨rfl, .tuple #[], by simp [results, Try.results18], rfl, gr2 (gr1 (gr0 _) _) hb2⟩
end Go.Proofs.Ytbdnnkokkgdhnaa
