/- Buffers of bytes: From; of too many: New; of none: Open; what comes in: numbers. -/
import Derived.Test.YtbdnnkokkgdhnaaBufW
namespace Go.Proofs.Ytbdnnkokkgdhnaa
open Go.RowKit

/-- A slice of numbers that came in. -/
def Nums (k : IntKind) (v : Value) (n : Nat) (f : Nat → Int) (W : World) : Prop := (∀ i, i < n → (Lit.int k (f i)).wf = true) ∧ ∃ q c, v = .slice q n c ∧ ∀ i, i < n → ∃ cb co, q = some ⟨cb, co, none⟩ ∧ cb < W.heap.size ∧ W.cell? ⟨cb, co + i, none⟩ = some (.int k (f i))
theorem Nums.below {k : IntKind} {v : Value} {n : Nat} {f : Nat → Int} {w w' : World} (h : Nums k v n f w) (hb : Below w.heap.size w w') : Nums k v n f w' := by
  obtain ⟨h1, q, c, hv, h2⟩ := h
  refine ⟨h1, q, c, hv, fun i hi => ?_⟩
  obtain ⟨cb, co, hq, hz, h3⟩ := h2 i hi
  exact ⟨cb, co, hq, Nat.lt_of_lt_of_le hz hb.size, (hb.cell (p := ⟨cb, co + i, none⟩) hz).trans h3⟩
theorem Nums.form {k : IntKind} {v : Value} {n : Nat} {f : Nat → Int} {w : World} (h : Nums k v n f w) : ∃ q c, v = .slice q n c := by
  obtain ⟨_, q, c, hv, _⟩ := h; exact ⟨q, c, hv⟩
theorem Nums.at_ {k : IntKind} {v : Value} {n : Nat} {f : Nat → Int} {w : World} (h : Nums k v n f w) {q : Option Addr} {c : Nat} (hv : v = .slice q n c) : ∀ i, i < n → ∃ cb co, q = some ⟨cb, co, none⟩ ∧ cb < w.heap.size ∧ w.cell? ⟨cb, co + i, none⟩ = some (.int k (f i)) := by
  obtain ⟨_, q', c', hv', h2⟩ := h
  rw [hv] at hv'; cases hv'; exact h2
theorem wfU8 {x : Int} (h : (Lit.int .u8 x).wf = true) : 0 ≤ x ∧ x ≤ 255 := by
  have hmin : IntKind.u8.min = 0 := rfl
  have hmax : IntKind.u8.max = 255 := rfl
  simp only [Lit.wf, Bool.and_eq_true, decide_eq_true_eq] at h; omega
theorem wfI64 {x : Int} (h : (Lit.int .i64 x).wf = true) : -9223372036854775808 ≤ x ∧ x ≤ 9223372036854775807 := by
  have hmin : IntKind.i64.min = -9223372036854775808 := rfl
  have hmax : IntKind.i64.max = 9223372036854775807 := rfl
  simp only [Lit.wf, Bool.and_eq_true, decide_eq_true_eq] at h; omega
def lst (f : Nat → Int) (n : Nat) : List Int := (List.range n).map f
theorem lst_len (f : Nat → Int) (n : Nat) : (lst f n).length = n := by simp [lst]
theorem lst_succ (f : Nat → Int) (n : Nat) : lst f (n + 1) = lst f n ++ [f n] := by simp [lst, List.range_succ]
theorem lst_at (f : Nat → Int) {n j : Nat} (h : j < n) : (lst f n)[j]? = some (f j) := by simp [lst, h]

theorem bnew_nil (o : Option Nat) (W : World) (n : Int) (hn : n < 0 ∨ 1048576 < n) :
    Calls Try.prog 17 #[rp o, .int .i64 n] W fun e W' => e = .returned (.pointer none) ∧ Below W.heap.size W W' := by
  by_cases h0 : n < 0
  · have t0 : decide (n < 0) = true := by simp; omega
    go_enter Try.func17, Try.ntmps17
    go_wp2
    go_ret
    exact ⟨rfl, gr0 _⟩
  · have t0 : decide (n < 0) = false := by simp; omega
    have t1 : decide ((1048576 : Int) < n) = true := by simp; omega
    go_enter Try.func17, Try.ntmps17
    go_wp2
    go_ret
    exact ⟨rfl, gr0 _⟩
theorem bopen_none (W : World) :
    Calls Try.prog 26 #[.pointer none] W fun e W' => e = .returned (.slice none 0 0) ∧ Below W.heap.size W W' := by
  go_enter Try.func26, Try.ntmps26
  go_wp2_with (go_at_call 25; refine (bwords_none W).mono ?_; rintro e w1 ⟨rfl, hb1⟩)
  go_loopg [4, 10] 0 (fun gj vo i wr => vo = .slice none 0 0 ∧ i = .int .i64 0 ∧ Below W.heap.size W wr)
  case atStart => exact ⟨rfl, rfl, hb1⟩
  case round =>
    obtain ⟨rfl, rfl, hb⟩ := hrel
    go_wp2
    go_ret
    exact ⟨rfl, hb⟩
set_option maxRecDepth 100000 in
set_option maxHeartbeats 4000000 in
theorem bfrom_ (o : Option Nat) {W : World} {v : Value} {n : Nat} {f : Nat → Int} (h : Nums .u8 v n f W) (hn : n ≤ 1048576) :
    Calls Try.prog 27 #[rp o, v] W fun e W' => ∃ b, e = .returned (.pointer (some ⟨b, 0, none⟩)) ∧ NewB W W' b o (lst f n) := by
  obtain ⟨i0, hi, hz0, hz1, hz2⟩ := info_parts info_sec
  obtain ⟨qv, cv, rfl⟩ := h.form
  have HF := hid2 h.1
  have HA := hid2 (h.at_ rfl)
  clear h
  have t1 : decide ((1048576 : Int) < (n : Int)) = false := by simp; omega
  have hn9 : (0 : Int) ≤ n := by omega
  have hn8 : (n : Int) ≤ 1048576 := by omega
  have H0 : NewB W (W.alloc (.cells #[rp o, .slice none 0 0] 86)) W.heap.size o [] := ⟨.slice none 0 0, ⟨heap_alloc_new _ _, World.ownsRow_nil _ _ _ _⟩, by simp [vb, Value.ownBlock], by simp [vb, Value.ownBlock], Nat.le_refl _, gr1 (gr0 W) _⟩
  have hro : ∃ r, rp o = .pointer r := ⟨_, rfl⟩
  obtain ⟨r, hr⟩ := hro
  rw [hr] at H0 ⊢
  go_enter Try.func27, Try.ntmps27
  go_wp2
  obtain ⟨b, hb⟩ : ∃ b, b = W.heap.size := ⟨_, rfl⟩
  rw [← hb] at H0 ⊢
  clear hb
  go_loopg [16] n (fun gj i wr => ∃ jj : Nat, jj + gj = n ∧ i = .int .i64 jj ∧ NewB W wr b o (lst f jj))
  case atStart => exact ⟨0, Nat.zero_add _, rfl, H0⟩
  case round =>
    clear H0
    obtain ⟨j, hj, rfl, HN⟩ := hrel
    have hj9 : (0 : Int) ≤ j := by omega
    have hj7 : (j : Int) ≤ 1048576 := by omega
    by_cases hlt : j < n
    · have t2 : decide ((j : Int) < n) = true := by simp; omega
      have hj8 : (j : Int) < n := by omega
      obtain ⟨v, B1', B2', B3', B4', B5'⟩ := HN
      obtain ⟨cb, co, rfl, hz, a1⟩ := HA.out j hlt
      have a2 := (B5'.cell (p := ⟨cb, co + j, none⟩) hz).trans a1
      have a3 := World.block_lt_of_cell? wr _ a2
      obtain ⟨hx0, hx1⟩ := wfU8 (HF.out j hlt)
      have HS := hid2 (lst_succ f j)
      generalize hxx : f j = x at *
      clear hxx a1
      have HBv := hid2 B2'
      have HBx := hid2 B3'
      have HBl := hid2 B4'
      have HBb := hid2 B5'
      obtain ⟨l1, _, l3⟩ := B1'.look
      obtain ⟨q, c, hv, _⟩ := B1'.form
      rw [lst_len] at hv
      subst hv
      have HBc := hid2 B1'
      have HLn := hid2 (lst_len f j)
      clear B1' B2' B3' B4' B5'
      go_wp2
      refine wp_region_noPanic ?_
      refine wp_region_held_rest 7 (fun w' => w'.cell? ⟨b, 1, none⟩ = some (.slice q j c)) (by kernel_rfl) (by kernel_rfl) l3 (fun _ _ _ _ _ h => h) ?_
      simp only [List.take_succ_cons, List.take_zero, List.drop_succ_cons, List.drop_zero]
      repeat (refine still_cons (by rfl) (by (intro w' hC; obtain hC1 := hC; go_simp; all_goals with_reducible rfl)) ?_; try simp only [Act.put, List.setIfInBounds_toArray, List.set_cons_zero, List.set_cons_succ])
      refine still_nil ?_
      refine rest_cons fun K hK => ?_
      go_simp
      go_at_call 19
      rw [show IntKind.i64.wrap x = x from by rw [IntKind.wrap_i64]; omega]
      refine (sec_of x _).mono ?_
      rintro e w2 ⟨rfl, hb2'⟩
      have hb2 := below_undrew hb2'
      clear hb2'
      have c2 := (hb2.cell (p := ⟨b, 1, none⟩) l1).trans l3
      have h2 := HBc.out.calm hb2
      have z2 := hb2.size
      refine hK.out _ _ (fun _ => c2) ?_
      refine rest_cons fun K hK => ?_
      go_simp
      refine hK.out _ _ (fun _ => cellA c2) ?_
      refine rest_cons fun K hK => ?_
      have h3 := h2.calm (gr1 (gr0 w2) (.cells #[.int .i64 x] 29))
      have h3r := h3.row
      rw [HLn.out] at h3r
      refine step_append_lies _ (by rfl) _ _ 37 (by rfl) 0 29 i0 _ 1 8 Try.underlying37 hi hz0 hz1 hz2 rfl (by omega) _ j _ (by rfl) h3r ⟨w2.heap.size, 0, none⟩ 1 1 [.int .i64 x] (by rfl) (by rfl) (World.news_of_block (cs := #[.int .i64 x]) (heap_alloc_new w2 _)) (by simp [Value.oneCell']) (by omega) (by unfold maxLen; omega) (by omega) (Nat.zero_le _) (w2.heap.size + 1) (by simp) ?_
      intro gg cap1 w4 hown4 hgrow4 hat4 hlt4
      have hbv := HBv.out
      have z3 : b < w2.heap.size := Nat.lt_of_lt_of_le l1 z2
      have hq : ∀ y, (Value.slice q j c).ownBlock = some y → y ≠ b ∧ W.heap.size ≤ y := fun y hy => ⟨fun e => hbv (by simp [vb, hy, e]), HBx.out y (by simp [vb, hy])⟩
      have hne : gg ≠ b := by
        rcases hat4 with h | h
        · exact (hq gg h).1
        · omega
      have hge : W.heap.size ≤ gg := by
        have := HBb.out.size
        rcases hat4 with h | h
        · exact (hq gg h).2
        · omega
      have h5 : w4.heap[b]? = some (.cells #[rp o, .slice q j c] 86 (0, 0)) := (hgrow4.block b (heap_lt h3.head) (fun e => (hq b e.symm).1 rfl)).trans h3.head
      have hbb : Below W.heap.size W w4 := ((HBb.out.trans (hb2.mono HBb.out.size)).alloc (by have := HBb.out.size; omega) _).trans ⟨hgrow4.os, hgrow4.tape, hgrow4.output, hgrow4.size, fun k hk => hgrow4.block k (by have := HBb.out.size; simp; omega) (fun e => by have := (hq k e.symm).2; omega)⟩
      have hN := hid2 (h3.grown hbv (by rw [HLn.out]; exact hown4) hgrow4 (fun g hg => by cases hg; exact hne))
      have hNb := hid2 (show Below W.heap.size W (w4.setCell ⟨b, 1, none⟩ (.slice (some ⟨gg, 0, none⟩) (j + 1) cap1)) from gr4 hbb HBl.out _)
      have c4 : w4.cell? ⟨b, 1, none⟩ = some (.slice q j c) := cell_of_row _ _ _ _ _ _ h5
      have f4 : w4.frozen? ⟨b, 1, none⟩ = false := frozen_of_row _ _ _ _ _ h5
      have z4 := World.block_lt_of_cell? w4 _ c4
      clear hbb h3 h3r h2 hown4 hgrow4 hat4 h5 hq c2
      refine hK.out _ _ (fun _ => c4) ?_
      refine rest_cons fun K hK => ?_
      go_simp
      refine hK.out _ _ (fun _ => c4) ?_
      refine rest_cons fun K hK => ?_
      go_simp
      refine hK.out _ _ (fun _ => c4) ?_
      refine rest_cons fun K hK => ?_
      go_simp
      refine hK.out _ _ (fun h => absurd rfl h) (rest_nil (NoPanic.normal ?_))
      go_wp2
      go_roundg (n - (j + 1))
      case measure => omega
      case rel => exact ⟨j + 1, by omega, by go_num, .slice (some ⟨gg, 0, none⟩) (j + 1) cap1, by rw [HS.out]; exact hN.out, by simp [vb, Value.ownBlock, hne.symm], by simp [vb, Value.ownBlock, hge], HBl.out, hNb.out⟩
    · have hjn : j = n := by omega
      have t2 : decide ((j : Int) < n) = false := by simp; omega
      subst hjn
      go_wp2
      go_ret
      exact ⟨b, rfl, HN⟩
theorem bnew_0 (W : World) (n : Nat) (hn : n ≤ 1048576) : Calls Try.prog 17 #[.pointer none, .int .i64 n] W fun e W' => ∃ b, e = .returned (.pointer (some ⟨b, 0, none⟩)) ∧ B1 W W' b none [] (List.replicate n 0) [] :=
  (bnew_ none W n hn).mono fun _ _ ⟨b, h1, h2⟩ => ⟨b, h1, h2.one (ro_none W) (t2_none (gr0 W))⟩
theorem bnew_0n (W : World) (n : Int) (hn : n < 0 ∨ 1048576 < n) : Calls Try.prog 17 #[.pointer none, .int .i64 n] W fun e W' => e = .returned (.pointer none) ∧ Below W.heap.size W W' := bnew_nil none W n hn
theorem bfrom_0 {W : World} {v : Value} {n : Nat} {f : Nat → Int} (h : Nums .u8 v n f W) (hn : n ≤ 1048576) : Calls Try.prog 27 #[.pointer none, v] W fun e W' => ∃ b, e = .returned (.pointer (some ⟨b, 0, none⟩)) ∧ B1 W W' b none [] (lst f n) [] :=
  (bfrom_ none h hn).mono fun _ _ ⟨b, h1, h2⟩ => ⟨b, h1, h2.one (ro_none W) (t2_none (gr0 W))⟩
theorem bof_0 {n0 : Nat} {W : World} {v : Value} {L : List Int} (h : Secs n0 W v L) (hL : L.length ≤ 1048576) : Calls Try.prog 24 #[.pointer none, v] W fun e W' => ∃ b, e = .returned (.pointer (some ⟨b, 0, none⟩)) ∧ B1 W W' b none [] L [] :=
  (bof_ none h hL).mono fun _ _ ⟨b, h1, h2⟩ => ⟨b, h1, h2.one (ro_none W) (t2_none (gr0 W))⟩
theorem Ints.keep {n0 : Nat} {W W' : World} {v : Value} {L : List Int} (h : Ints n0 W v L) (hk : ∀ x ∈ vb v, W'.heap[x]? = W.heap[x]?) : Ints n0 W' v L := own_at h fun g hg => hk g (by simp [vb, hg])
theorem Ints.below {n0 : Nat} {W W' : World} {v : Value} {L : List Int} (h : Ints n0 W v L) (hb : Below W.heap.size W W') : Ints n0 W' v L := h.keep fun x hx => hb.block x (vb_lt h x hx).2
theorem Ints.form {n0 : Nat} {W : World} {v : Value} {L : List Int} (h : Ints n0 W v L) : ∃ q c, v = .slice q L.length c ∧ ∀ (j : Nat) (x : Int), L[j]? = some x → ∃ g, q = some ⟨g, 0, none⟩ ∧ vb v = [g] ∧ n0 ≤ g ∧ g < W.heap.size ∧ W.cell? ⟨g, j, none⟩ = some (.int .i64 x) ∧ W.frozen? ⟨g, j, none⟩ = false := by
  have hr := h
  rcases h.2 with ⟨rfl, h0⟩ | ⟨g, cap, cur, rfl, hb, hh, _⟩
  · refine ⟨none, 0, by rw [h0], fun j x hj => ?_⟩
    have : j < L.length := (List.getElem?_eq_some_iff.1 hj).1
    omega
  · refine ⟨some ⟨g, 0, none⟩, cap, rfl, fun j x hj => ⟨g, rfl, rfl, hb, heap_lt hh, ?_, frozen_of_row _ _ _ _ _ hh⟩⟩
    have := World.ownsRow.cells hr (g := g) rfl j (.int .i64 x) (by simp [hj])
    rwa [show (⟨g, 0, none⟩ : Addr).add j = ⟨g, j, none⟩ by unfold Addr.add; split <;> simp_all] at this
end Go.Proofs.Ytbdnnkokkgdhnaa
