/- Look: a table's number at a secret place, and at a public one. -/
import Derived.Test.YtbdnnkokkgdhnaaScanL
namespace Go.Proofs.Ytbdnnkokkgdhnaa
open Go.RowKit

theorem lst_I64 {f : Nat → Int} {n : Nat} (h : ∀ i, i < n → (Lit.int .i64 (f i)).wf = true) : ∀ x ∈ lst f n, I64 x := fun x hx => by
  simp only [lst, List.mem_map, List.mem_range] at hx
  obtain ⟨i, hi, rfl⟩ := hx
  have := wfI64 (h i hi)
  unfold I64; omega
theorem outAt_full (L : List Int) (p : Int) {n : Nat} (hn : n = L.length) : outAt L p 0 n = getL L p := by
  subst hn
  unfold outAt
  split
  · rfl
  · rename_i h
    unfold getL
    rw [if_neg (fun h2 => h ⟨by have := h2.1; omega, h2.2⟩)]
set_option maxRecDepth 100000 in
set_option maxHeartbeats 4000000 in
theorem slook_ {w : World} {v : Value} {n : Nat} {f : Nat → Int} (h : Nums .i64 v n f w) (hn : n ≤ 1000) (p : Int) (hp : I64 p) :
    Calls Try.prog 36 #[v, .agg #[.int .i64 p]] w fun e w' => e = .returned (.agg #[.int .i64 (getL (lst f n) p)]) ∧ Below w.heap.size w w' := by
  have HI := hid2 (lst_I64 h.1)
  obtain ⟨qv, cv, rfl⟩ := h.form
  have HA := hid2 (h.at_ rfl)
  clear h
  have hn9 : (0 : Int) ≤ n := by omega
  have hn8 : (n : Int) ≤ 1000 := by omega
  have q0 : ((w.alloc (.cells #[.int .i64 p] 29)).alloc (.cells #[.int .i64 0] 29)).cell? ⟨w.heap.size, 0, none⟩ = some (.int .i64 p) := by simp [alloc_cell_if]
  have q1 : ((w.alloc (.cells #[.int .i64 p] 29)).alloc (.cells #[.int .i64 0] 29)).cell? ⟨w.heap.size + 1, 0, none⟩ = some (.int .i64 0) := by simp [alloc_cell_if]
  have q2 : ((w.alloc (.cells #[.int .i64 p] 29)).alloc (.cells #[.int .i64 0] 29)).frozen? ⟨w.heap.size + 1, 0, none⟩ = false := by simp [alloc_frozen_if]
  go_enter Try.func36, Try.ntmps36
  go_wp2_with (first
    | (go_at_call 19; (with_reducible refine (sec_of 0 _).mono ?_); rintro e w1 ⟨rfl, hb1⟩; have hz1 := hb1.size; (try simp at hz1); have r0 := cellA (x := .cells #[.int .i64 0] 29) ((hb1.cell (p := ⟨w.heap.size, 0, none⟩) (by simp; omega)).trans q0); have r1 := cellA (x := .cells #[.int .i64 0] 29) ((hb1.cell (p := ⟨w.heap.size + 1, 0, none⟩) (by simp)).trans q1); have r2 : (w1.alloc (.cells #[.int .i64 0] 29)).cell? ⟨w1.heap.size, 0, none⟩ = some (.int .i64 0) := (by simp [alloc_cell_if]); have f1 : (w1.alloc (.cells #[.int .i64 0] 29)).frozen? ⟨w.heap.size + 1, 0, none⟩ = false := (((gr1 (gr0 w1) _).frozen (p := ⟨w.heap.size + 1, 0, none⟩) (by show w.heap.size + 1 < _; omega)).trans ((hb1.frozen (p := ⟨w.heap.size + 1, 0, none⟩) (by simp)).trans q2)); have f2 : (w1.alloc (.cells #[.int .i64 0] 29)).frozen? ⟨w1.heap.size, 0, none⟩ = false := (by simp [alloc_frozen_if]); have hbw : Below w.heap.size w (w1.alloc (.cells #[.int .i64 0] 29)) := gr1 (gr2 (gr1 (gr1 (gr0 w) _) _) hb1) _))
  obtain ⟨sz, hsz⟩ : ∃ sz, sz = w1.heap.size := ⟨_, rfl⟩
  obtain ⟨s0, hs0⟩ : ∃ s0, s0 = w.heap.size := ⟨_, rfl⟩
  rw [← hsz] at r2 f2 ⊢
  rw [← hs0] at r0 r1 f1 ⊢
  have HS := hid2 hs0
  have hz9 : s0 + 2 ≤ sz := by omega
  clear q0 q1 q2 hb1 hsz hs0 hz1
  go_loopg [11] n (fun gj i wr => ∃ jj : Nat, jj + gj = n ∧ i = .int .i64 jj ∧ wr.cell? ⟨s0, 0, none⟩ = some (.int .i64 p) ∧ (wr.cell? ⟨s0 + 1, 0, none⟩ = some (.int .i64 0) ∧ wr.frozen? ⟨s0 + 1, 0, none⟩ = false) ∧ (wr.cell? ⟨sz, 0, none⟩ = some (.int .i64 (outAt (lst f n) p 0 jj)) ∧ wr.frozen? ⟨sz, 0, none⟩ = false) ∧ Below w.heap.size w wr)
  case atStart => exact ⟨0, Nat.zero_add _, rfl, r0, ⟨r1, f1⟩, ⟨by rw [outAt_zero]; exact r2, f2⟩, hbw⟩
  case round =>
    clear r0 r1 r2 f1 f2 hbw
    obtain ⟨j, hj, rfl, h3, ⟨h4, h5⟩, ⟨h6, h7⟩, hb⟩ := hrel
    have hj9 : (0 : Int) ≤ j := by omega
    have hj7 : (j : Int) ≤ 1000 := by omega
    have z3 := World.block_lt_of_cell? wr _ h3
    have z4 := World.block_lt_of_cell? wr _ h4
    have z6 := World.block_lt_of_cell? wr _ h6
    simp only at z3 z4 z6
    by_cases hlt : j < n
    · have t2 : decide ((j : Int) < n) = true := by simp; omega
      have hj8 : (j : Int) < n := by omega
      obtain ⟨cb, co, rfl, hz, a1⟩ := HA.out j hlt
      have a2 := (hb.cell (p := ⟨cb, co + j, none⟩) hz).trans a1
      have a3 := World.block_lt_of_cell? wr _ a2
      have hsucc := outAt_succ HI.out hp (Nat.zero_le j) (by omega) (lst_at f hlt)
      have HB := hid2 hb
      have HX := hid2 hsucc
      generalize outAt (lst f n) p 0 j = oj at *
      generalize hxx : f j = x at *
      clear hb a1 hsucc hxx
      go_wp2_with (fail)
      refine wp_region_calm_tail 7 (by kernel_rfl) (by kernel_rfl) ?_
      simp only [List.take_succ_cons, List.take_zero, List.drop_succ_cons, List.drop_zero]
      (repeat (first | go_big_quiet_step ((first | (go_at_call 56; exact calm_call (sis_ _ _ _)) | (go_at_call 19; exact calm_call (sec_of _ _)) | (go_at_call 55; exact calm_call (sec_select _ _ _ _)))) | quiet_step ((first | (go_at_call 56; exact calm_call (sis_ _ _ _)) | (go_at_call 19; exact calm_call (sec_of _ _)) | (go_at_call 55; exact calm_call (sec_select _ _ _ _))))))
      refine wpQuiet_nil ?_
      intro u
      have u3 := (u.below.cell (p := ⟨s0, 0, none⟩) z3).trans h3
      have u4 := (u.below.cell (p := ⟨s0 + 1, 0, none⟩) z4).trans h4
      have u5 := (u.below.frozen (p := ⟨s0 + 1, 0, none⟩) z4).trans h5
      have u6 := (u.below.cell (p := ⟨sz, 0, none⟩) z6).trans h6
      have u7 := (u.below.frozen (p := ⟨sz, 0, none⟩) z6).trans h7
      have hbu := hid2 (gr2 HB.out u.below)
      have zu := World.block_lt_of_cell? u.at_ _ u6
      simp only at zu
      generalize u.at_ = W2 at *
      clear h3 h4 h5 h6 h7 z3 z4 z6
      go_wp2
      have c3 : Cel (W2.setCell ⟨sz, 0, none⟩ (.int .i64 (secSelect (secEqual p j) x oj))) sz 0 (.int .i64 (secSelect (secEqual p j) x oj)) := cel_same ⟨u6, u7⟩
      have far : ∀ {q : Nat} {v : Value}, W2.cell? ⟨q, 0, none⟩ = some v → q ≠ sz → (W2.setCell ⟨sz, 0, none⟩ (.int .i64 (secSelect (secEqual p j) x oj))).cell? ⟨q, 0, none⟩ = some v := fun {q v} h hne => (World.cell?_of_block (a := ⟨q, 0, none⟩) (heap_setCell_other _ ⟨sz, 0, none⟩ q _ hne)).trans h
      go_roundg (n - (j + 1))
      case measure => omega
      case rel =>
        refine ⟨j + 1, by omega, by go_num, far u3 (by omega), ⟨far u4 (by omega), by rw [World.frozen?_setCell]; exact u5⟩, ?_, gr4 hbu.out (by have := HS.out; show _ ≤ sz; omega) _⟩
        rw [← HX.out]; exact c3
    · have hjn : j = n := by omega
      have t2 : decide ((j : Int) < n) = false := by simp; omega
      have HB := hid2 hb
      have HF := hid2 (outAt_full (lst f n) p (lst_len f n).symm)
      clear hb
      go_wp2
      rw [hjn, HF.out]
      have r4 : (wr.setCell ⟨s0 + 1, 0, none⟩ (.int .i64 (getL (lst f n) p))).cell? ⟨s0 + 1, 0, none⟩ = some (.int .i64 (getL (lst f n) p)) := World.cell?_setCell_same' _ _ _ (by rw [h4]; rfl)
      exact bodyPost_ret (by simp [results, Try.results36, go_sem, r4] <;> rfl) rfl ⟨rfl, gr4 HB.out (by have := HS.out; show _ ≤ s0 + 1; omega) _⟩
set_option maxRecDepth 100000 in
set_option maxHeartbeats 4000000 in
theorem rlook_ {w : World} {v : Value} {n : Nat} {f : Nat → Int} (h : Nums .i64 v n f w) (hn : n ≤ 1000) (p : Int) :
    Calls Try.prog 37 #[v, .int .i64 p] w fun e w' => e = .returned (.int .i64 (getL (lst f n) p)) ∧ Below w.heap.size w w' := by
  obtain ⟨qv, cv, rfl⟩ := h.form
  have HA := hid2 (h.at_ rfl)
  clear h
  have hn9 : (0 : Int) ≤ n := by omega
  have hn8 : (n : Int) ≤ 1000 := by omega
  by_cases hin : inL (lst f n) p
  · obtain ⟨j, rfl, hj, hx⟩ := getL_in hin
    rw [lst_len] at hj
    have t0 : decide ((j : Int) < 0) = false := by simp
    have t1 : decide ((n : Int) ≤ j) = false := by simp; omega
    have hj0 : (0 : Int) ≤ j := by omega
    have hj1 : (j : Int) < n := by omega
    obtain ⟨cb, co, rfl, hz, a1⟩ := HA.out j hj
    have hfx : f j = getL (lst f n) (j : Int) := Option.some.inj ((lst_at f hj).symm.trans hx)
    rw [← hfx]
    clear hfx hx hin
    go_enter Try.func37, Try.ntmps37
    go_wp2
    go_ret
    exact ⟨rfl, gr0 _⟩
  · have hg : getL (lst f n) p = 0 := by unfold getL; exact if_neg hin
    rw [hg]
    have hni : ¬(0 ≤ p ∧ p < n) := fun h => hin ⟨h.1, by rw [lst_len]; exact h.2⟩
    clear hg hin
    by_cases h0 : p < 0
    · have t0 : decide (p < 0) = true := by simp; omega
      go_enter Try.func37, Try.ntmps37
      go_wp2
      go_ret
      exact ⟨rfl, gr0 _⟩
    · have t0 : decide (p < 0) = false := by simp; omega
      have t1 : decide ((n : Int) ≤ p) = true := by simp; omega
      go_enter Try.func37, Try.ntmps37
      go_wp2
      go_ret
      exact ⟨rfl, gr0 _⟩
end Go.Proofs.Ytbdnnkokkgdhnaa
