/- Chapter 4's example. -/
import Derived.Test.YtbdnnkokkgdhnaaBufN
namespace Go.Proofs.Ytbdnnkokkgdhnaa
open Go.RowKit

theorem B1.rn {w0 W : World} {b g : Nat} {E : List Ev} {L : List Int} {X : List Nat} (k : B1 w0 W b (some g) E L X) : Rn W (some ⟨g, 0, none⟩) (pst E) := by
  obtain ⟨_, ⟨_, _, r, _⟩, _⟩ := k; exact r.rn
theorem B1.bufc {w0 W : World} {b : Nat} {o : Option Nat} {E : List Ev} {L : List Int} {X : List Nat} (k : B1 w0 W b o E L X) : ∃ v, Bufc W b o v L := by
  obtain ⟨_, ⟨_, v, _, c, _⟩, _⟩ := k; exact ⟨v, c⟩
theorem One.ro {w0 W : World} {g : Nat} {E : List Ev} {X : List Nat} (h : One w0 W g (pst E) X) : ∃ fr, Ro W (some g) E fr ∧ T2 w0 W fr [] X := h
theorem sopen_none (a : Int) (W : World) :
    Calls Try.prog 21 #[.agg #[.int .i64 a], .pointer none] W fun e W' => e = .returned (.int .i64 a) ∧ Below W.heap.size W W' := by
  refine (sopen_ro (W := W) (o := none) (E := []) (fp := []) rfl (by simp) a).mono ?_
  rintro e W' ⟨rfl, fp', _, m, _⟩
  exact ⟨rfl, m.toBelow (Nat.le_refl _) (fun x hx => nomatch hx)⟩
theorem ro_none (W : World) : Ro W none [] [] := rfl
theorem t2_none {w0 W : World} (hb : Below w0.heap.size w0 W) : T2 w0 W [] [] [] := ⟨fun x hx => by simp at hx, fun x hx => (nomatch hx), fun x hx => (nomatch hx), fun x hx => by simp at hx, hb⟩

set_option maxRecDepth 100000 in
set_option maxHeartbeats 4000000 in
theorem known04 (w : World) :
    Calls Try.prog 15 #[] w fun e w' => e = .returned (.bool true) ∧ Below w.heap.size w w' := by
  go_enter Try.func15, Try.ntmps15
  go_wp2_with (first
    | (go_at_call 16; (with_reducible refine (new_ w).mono ?_); rintro e w1 ⟨rfl, hw1⟩; have H1 := one_new w; rw [← hw1] at H1; clear hw1; obtain ⟨fr, r1, t1⟩ := One.ro (E := []) H1; clear H1)
    | (go_at_call 17; (refine (bnew_ (some w.heap.size) w1 2 (by omega)).mono ?_); rintro e w2 ⟨b, rfl, hN⟩; have K2 := hN.one r1 t1; clear hN r1 t1)
    | (go_at_call 19; (with_reducible refine (sec_of 7 _).mono ?_); rintro e w3 ⟨rfl, hb3⟩; have K3 := K2.calm hb3; clear K2)
    | (go_at_call 18; (with_reducible refine (bset_ K3 (by simp) (by simp) 1 7).mono ?_); rintro e w4 ⟨rfl, K4, _⟩; clear K3)
    | (go_at_call 20; (with_reducible refine (bget_ K4 (Nat.le_trans (seeL_len _ _ _ _) (by simp)) (by decide) 1).mono ?_); rintro e w5 ⟨rfl, K5, _⟩; clear K4; have hg : getL (setL (List.replicate 2 0) 1 7) 1 = 7 := (by decide); rw [hg]; have K6 := K5.more (gr1 (gr0 w5) (.cells #[.int .i64 7] 29)) w5.heap.size (Nat.le_refl _) (by simp); clear hg K5; have hE : seeL (some w.heap.size) (seeL (some w.heap.size) [] (List.replicate 2 0) 1) (setL (List.replicate 2 0) 1 7) 1 = [(1, 1), (1, 1)] := rfl; rw [hE] at K6; clear hE)
    | (go_at_call 22; (with_reducible refine (eventsp_ K6.rn (by decide)).mono ?_); rintro e w7 ⟨v, rfl, hv, hb7⟩; obtain ⟨q, c, hq5, hv5⟩ := hv.form; subst hq5; have h0 := hv5 0 ((1 : Int), (1 : Int)) rfl; have h1 := hv5 1 ((1 : Int), (1 : Int)) rfl; clear hv5 hv; obtain ⟨g, rfl, _, z1, c1, c2⟩ := h0; obtain ⟨_, hq, _, _, c3, c4⟩ := h1; cases hq; have K7 := K6.calm hb7; obtain ⟨v7, B7⟩ := K7.bufc; have hx7 := (hb7.cell (p := ⟨w5.heap.size, 0, none⟩) (by simp)).trans (show _ = some (.int .i64 7) by simp [alloc_cell_if]); have zx7 := World.block_lt_of_cell? w7 _ hx7; clear K6)
    | (go_at_call 23; (with_reducible refine (blen_ B7).mono ?_); rintro e w8 ⟨rfl, hb8⟩; have hx8 := (hb8.cell (p := ⟨w5.heap.size, 0, none⟩) zx7).trans hx7; have zx8 := World.block_lt_of_cell? w8 _ hx8; have d1 := (hb8.cell (p := ⟨g, 0, none⟩) z1).trans c1; have d2 := (hb8.cell (p := ⟨g, 1, none⟩) z1).trans c2; have d3 := (hb8.cell (p := ⟨g, 2, none⟩) z1).trans c3; have d4 := (hb8.cell (p := ⟨g, 3, none⟩) z1).trans c4; have z8 := World.block_lt_of_cell? w8 _ d1; have hl : (setL (List.replicate 2 0) 1 7).length = 2 := rfl; rw [hl])
    | (go_at_call 21; (with_reducible refine (sopen_none 7 _).mono ?_); rintro e w9 ⟨rfl, hb9⟩; have e1 := (hb9.cell (p := ⟨g, 0, none⟩) z8).trans d1; have e2 := (hb9.cell (p := ⟨g, 1, none⟩) z8).trans d2; have e3 := (hb9.cell (p := ⟨g, 2, none⟩) z8).trans d3; have e4 := (hb9.cell (p := ⟨g, 3, none⟩) z8).trans d4; have z9 := World.block_lt_of_cell? w9 _ e1))
  go_ret
  exact ⟨rfl, gr2 (gr2 K7.below hb8) hb9⟩
end Go.Proofs.Ytbdnnkokkgdhnaa
