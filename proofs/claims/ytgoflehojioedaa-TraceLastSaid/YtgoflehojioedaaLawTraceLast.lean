/- TraceLast: the walk: it returns true. -/
import Derived.Test.YtgoflehojioedaaLayW
namespace Go.Proofs.Ytgoflehojioedaa
open Go.RowKit

theorem ne_snoc {α : Type} [DecidableEq α] (A : List α) (x : α) : decide (A ++ [x] = A) = false := decide_eq_false fun h => by
  have := congrArg List.length h
  simp at this
/-- A row that may be written. -/
def Blk (W : World) (g N : Nat) : Prop := ∃ cur, W.heap[g]? = some (.cells cur 49 (0, 0)) ∧ N ≤ cur.size
theorem Evs.blk {n0 : Nat} {W : World} {v : Value} {E : List Ev} (h : Evs n0 W v E) (hE : 0 < E.length) : ∃ g c, v = .slice (some ⟨g, 0, none⟩) E.length c ∧ vb v = [g] ∧ n0 ≤ g ∧ Blk W g (E.length * 2) := by
  rcases h.2 with ⟨_, h0⟩ | ⟨g, cap, cur, rfl, hb, hh, hc, _, hs, _⟩
  · omega
  · exact ⟨g, cap, rfl, rfl, hb, cur, hh, by rw [hs]; exact Nat.mul_le_mul_right 2 hc⟩
theorem Blk.set {W : World} {g N : Nat} (h : Blk W g N) (i : Nat) (v : Value) : Blk (W.setCell ⟨g, i, none⟩ v) g N := by
  obtain ⟨cur, hh, hs⟩ := h
  exact ⟨_, heap_setCell_same _ _ _ _ _ _ hh, by simpa using hs⟩
theorem Blk.cell {W : World} {g N : Nat} (h : Blk W g N) {i : Nat} (hi : i < N) : ∃ u, W.cell? ⟨g, i, none⟩ = some u ∧ W.frozen? ⟨g, i, none⟩ = false := by
  obtain ⟨cur, hh, hs⟩ := h
  refine ⟨cur[i], ?_, frozen_of_row _ _ _ _ _ hh⟩
  rw [cell_of_row _ _ _ _ _ _ hh, Array.getElem?_eq_getElem (by omega)]

set_option maxRecDepth 100000 in
set_option maxHeartbeats 4000000 in
theorem walk_TraceLast (va : Value) (n : Nat) (ka na : Nat → Int) (x : Int) (w : World) (Ha : Sns va n ka na w) (_bx : -9223372036854775808 ≤ x ∧ x ≤ 9223372036854775807) :
    Calls Try.prog 11 #[va, .int .i64 x] w fun e w' => e = .returned (.bool true) ∧ Below w.heap.size w w' := by
  have hI : I64 x := _bx
  have HA := hid2 Ha
  obtain ⟨qa, ca, rfl⟩ := Ha.form
  clear Ha
  have hn0 : (0 : Int) ≤ n := by omega
  by_cases hle : n ≤ 100
  · have t1 : decide ((100 : Int) < (n : Int)) = false := by simp; omega
    go_enter Try.func11, Try.ntmps11
    go_wp2_with (first
      | (go_at_call 41; (with_reducible refine (lay_ (HA.out.below H1.below) hle).mono ?_); rintro e w2 ⟨vf, rfl, H2, F2⟩; have T1 := (two_of_ones H1 H2 (fun x hx => (F2.lt x hx).1)).less (Y := []) (fun x hx => (nomatch hx)); clear H1 H2 E1 F2; generalize hAe : sev ka na n = A at *; have la : A.length ≤ 999999 := (by rw [← hAe, sev_len]; omega); have la2 : A.length ≤ 1000000 := Nat.le_trans la (by omega); have oa : ∀ e ∈ A, EvOk e := (by rw [← hAe]; exact sev_ok fun i hi => (HA.out.1 i hi).2); obtain ⟨hh, hhh⟩ : ∃ g, g = w1.heap.size := ⟨_, rfl⟩; obtain ⟨gg, hgg⟩ : ∃ g, g = w.heap.size := ⟨_, rfl⟩; have HG := hid2 hgg; rw [← hhh] at T1 ⊢; rw [← hgg] at T1 ⊢; clear hhh hgg hAe)
      | (go_at_call 41; (with_reducible refine (lay_ HA.out hle).mono ?_); rintro e w1 ⟨ve, rfl, H1, E1⟩)
      | (go_at_call 47; (with_reducible refine (samep_ T3.rn.1 T3.rn.2 lb la2 ob oa).mono ?_); rintro e w5 ⟨rfl, hb5⟩; have T4 := T3.calm hb5; have d2 := ne_snoc A ((1 : Int), x))
      | (go_at_call 47; (with_reducible refine (samep_ T1.rn.1 T1.rn.2 la2 la2 oa oa).mono ?_); rintro e w3 ⟨rfl, hb3⟩; have T2 := T1.calm hb3; have d1 : decide (A = A) = true := decide_eq_true rfl)
      | (go_at_call 48; (with_reducible refine (idxp_l T2 la2 x hI).mono ?_); rintro e w4 ⟨rfl, T3, _⟩; have lb : (A ++ [((1 : Int), x)]).length ≤ 1000000 := (by simp; omega); have ob : ∀ e ∈ (A ++ [((1 : Int), x)]), EvOk e := fun e he => (by rcases List.mem_append.1 he with h | h; exact oa e h; simp at h; subst h; exact ⟨⟨(by decide : (0 : Int) ≤ 1), (by decide : (1 : Int) ≤ 3)⟩, hI⟩))
      | (go_at_call 42; (with_reducible refine (eventsp_ T4.rn.1 lb).mono ?_); rintro e w6 ⟨v6, rfl, V6, hb6⟩; have T5 := two_vb T4 hb6 V6; obtain ⟨g6, c6, hv6, hvb, hl6, B6⟩ := V6.blk (by simp); rw [hvb] at T5; subst hv6; obtain ⟨L, hL⟩ : ∃ L, L = (A ++ [((1 : Int), x)]).length := ⟨_, rfl⟩; rw [← hL] at B6 ⊢; have hL1 : L ≤ 1000000 := (by rw [hL]; exact lb); have hg6 : w.heap.size ≤ g6 := Nat.le_trans T4.below.size hl6; clear V6 hvb hL))
    have hL0 : (L : Int) ≤ 1000000 := by omega
    have T5 : Two w w6 gg (pst (A ++ [((1 : Int), x)])) hh (pst A) [g6] := T5
    clear T1 T2 T3 T4 hb3 hb5 hb6 hl6
    go_loopg [12] L (fun gj i wr => ∃ jj : Nat, jj + gj = L ∧ i = .int .i64 jj ∧ Two w wr gg (pst (A ++ [((1 : Int), x)])) hh (pst A) [g6] ∧ Blk wr g6 (L * 2))
    case atStart => exact ⟨0, Nat.zero_add _, rfl, T5, B6⟩
    case round =>
      clear T5 B6
      obtain ⟨i, hi, rfl, HT, HBk⟩ := hrel
      have hi9 : (0 : Int) ≤ i := by omega
      have hi7 : (i : Int) ≤ 1000000 := by omega
      have HT2 := hid2 HT
      have HBk2 := hid2 HBk
      by_cases hlt : i < L
      · have t1 : decide ((i : Int) < L) = true := by simp; omega
        have hi8 : (i : Int) < L := by omega
        obtain ⟨u, hu, hf⟩ := HBk.cell (i := i * 2 + 1) (by omega)
        have z1 := World.block_lt_of_cell? wr _ hu
        clear HT HBk
        go_wp2
        go_roundg (L - (i + 1))
        case measure => omega
        case rel => exact ⟨i + 1, by omega, by go_num, HT2.out.set (by simp) hg6 _, HBk2.out.set _ _⟩
      · have t1 : decide ((i : Int) < L) = false := by simp; omega
        have hin : i = L := by omega
        clear HT HBk
        go_wp2_with (first
          | (go_at_call 48; (with_reducible refine (idxp_r HT2.out la2 x hI).mono ?_); rintro e w7 ⟨rfl, T7, _⟩)
          | (go_at_call 40; (with_reducible refine (known02 _).mono ?_); rintro e w8 ⟨rfl, hb8⟩; have T8 := T7.calm hb8)
          | (go_at_call 47; (with_reducible refine (samep_ T8.rn.1 T8.rn.2 lb lb ob ob).mono ?_); rintro e w9 ⟨rfl, hb9⟩; have T9 := T8.calm hb9; have d3 : decide ((A ++ [((1 : Int), x)]) = (A ++ [((1 : Int), x)])) = true := decide_eq_true rfl))
        go_ret
        exact ⟨rfl, T9.below⟩
  · have t1 : decide ((100 : Int) < (n : Int)) = true := by simp; omega
    go_enter Try.func11, Try.ntmps11
    go_wp2_with (first
      | (go_at_call 40; (with_reducible refine (known02 w).mono ?_); rintro e w0 ⟨rfl, hb0⟩))
    go_ret
    exact ⟨rfl, hb0⟩
end Go.Proofs.Ytgoflehojioedaa
