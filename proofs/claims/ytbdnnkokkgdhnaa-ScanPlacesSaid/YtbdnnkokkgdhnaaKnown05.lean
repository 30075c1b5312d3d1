/- Chapter 5's example. -/
import Derived.Test.YtbdnnkokkgdhnaaScanL
namespace Go.Proofs.Ytbdnnkokkgdhnaa
open Go.RowKit

theorem secs_two (w : World) : Secs w.heap.size (w.alloc (.cells #[.int .i64 5, .int .i64 7] 29)) (.slice (some ⟨w.heap.size, 0, none⟩) 2 2) [5, 7] := ⟨rfl, .inr ⟨_, 2, #[.int .i64 5, .int .i64 7], rfl, Nat.le_refl _, heap_alloc_new _ _, Nat.le_refl _, by unfold maxLen; omega, rfl, rfl⟩⟩
set_option maxRecDepth 100000 in
set_option maxHeartbeats 4000000 in
theorem known05 (w : World) :
    Calls Try.prog 35 #[] w fun e w' => e = .returned (.bool true) ∧ Below w.heap.size w w' := by
  go_enter Try.func35, Try.ntmps35
  go_wp2_with (first
    | (go_at_call 16; (with_reducible refine (new_ w).mono ?_); rintro e w1 ⟨rfl, hw1⟩; have H1 := one_new w; rw [← hw1] at H1; clear hw1)
    | (go_at_call 19; (with_reducible refine (sec_of 5 _).mono ?_); rintro e w2 ⟨rfl, hb2⟩; have H2 := H1.calm hb2; clear H1)
    | (go_at_call 19; (with_reducible refine (sec_of 7 _).mono ?_); rintro e w3 ⟨rfl, hb3⟩; have H3 := (H2.calm hb3).calm (gr1 (gr0 w3) (.cells #[.int .i64 5, .int .i64 7] 29)); clear H2; obtain ⟨fr, r1, t1⟩ := One.ro (E := []) H3; clear H3)
    | (go_at_call 24; (refine (bof_ (some w.heap.size) (secs_two w3) (by decide)).mono ?_); rintro e w4 ⟨b, rfl, hN⟩; have K4 := hN.one r1 t1; clear hN r1 t1)
    | (go_at_call 19; (with_reducible refine (sec_of 1 _).mono ?_); rintro e w5 ⟨rfl, hb5⟩; have K5 := K4.calm hb5; clear K4)
    | (go_at_call 41; (with_reducible refine (sload_ K5 (by simp) (by decide) (fun x hx => by simp at hx; rcases hx with rfl | rfl <;> (unfold I64; omega)) 1 0 2 (by unfold I64; omega)).mono ?_); rintro e w6 ⟨rfl, k6, _⟩; have ho : outAt [5, 7] 1 (clipN [(5 : Int), 7].length 0) (max (clipN [(5 : Int), 7].length 0) (clipN [(5 : Int), 7].length 2)) = 7 := (by decide); rw [ho]; have hE : addO (some w.heap.size) [] (winE (clipN [(5 : Int), 7].length 0) (clipN [(5 : Int), 7].length 2) (max (clipN [(5 : Int), 7].length 0) (clipN [(5 : Int), 7].length 2))) = [(2, 2), (1, 0), (1, 1)] := rfl; rw [hE] at k6; have K6 := k6.more (gr1 (gr0 w6) (.cells #[.int .i64 7] 29)) w6.heap.size (Nat.le_refl _) (by simp); clear ho hE k6 K5)
    | (go_at_call 22; (with_reducible refine (eventsp_ K6.rn (by simp)).mono ?_); rintro e w7 ⟨v, rfl, hv, hb7⟩; obtain ⟨q, c, hq5, hv5⟩ := hv.form; subst hq5; have h0 := hv5 0 ((2 : Int), (2 : Int)) rfl; have h2 := hv5 2 ((1 : Int), (1 : Int)) rfl; clear hv5 hv; obtain ⟨g, rfl, _, z1, c1, c2⟩ := h0; obtain ⟨_, hq, _, _, c3, c4⟩ := h2; cases hq; have K7 := K6.calm hb7; have hx7 := (hb7.cell (p := ⟨w6.heap.size, 0, none⟩) (by simp)).trans (show _ = some (.int .i64 7) by simp [alloc_cell_if]); have zx7 := World.block_lt_of_cell? w7 _ hx7; clear K6)
    | (go_at_call 21; (with_reducible refine (sopen_none 7 _).mono ?_); rintro e w9 ⟨rfl, hb9⟩; have e1 := (hb9.cell (p := ⟨g, 0, none⟩) z1).trans c1; have e2 := (hb9.cell (p := ⟨g, 1, none⟩) z1).trans c2; have e3 := (hb9.cell (p := ⟨g, 4, none⟩) z1).trans c3; have e4 := (hb9.cell (p := ⟨g, 5, none⟩) z1).trans c4; have z9 := World.block_lt_of_cell? w9 _ e1))
  go_ret
  exact ⟨rfl, gr2 K7.below hb9⟩
end Go.Proofs.Ytbdnnkokkgdhnaa
