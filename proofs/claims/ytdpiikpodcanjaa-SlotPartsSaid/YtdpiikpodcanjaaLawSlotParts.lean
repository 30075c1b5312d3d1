/- SlotParts: the walk: it returns true. -/
import Derived.Test.YtdpiikpodcanjaaSlotL
namespace Go.Proofs.Ytdpiikpodcanjaa
open Go.RowKit

set_option maxRecDepth 100000 in
set_option maxHeartbeats 2000000 in
theorem walkp_1 (md : Int) (w : World) (_b : 0 ≤ md ∧ md ≤ 255) (hm : md % 4 = 0) :
    Calls Try.prog 10 #[.int .u8 md] w fun e w' => e = .returned (.bool true) ∧ Below w.heap.size w w' := by
  have r1 : ∀ c : Int, c = 4 → md % c = 0 := by rintro c rfl; omega
  have r2 : ∀ c : Int, c = 4 → Int.tmod md c = 0 := by rintro c rfl; rw [Int.tmod_eq_emod_of_nonneg (by omega)]; omega
  clear _b hm
  go_enter Try.func10, Try.ntmps10
  go_wp2_with (go_at_call 30; refine (parts_1 _).mono ?_; rintro e W2 ⟨v, rfl, hb2, ho2⟩; rcases ho2.2 with ⟨_, hn⟩ | ⟨g2, c2, cur2, rfl, _, hh2, _⟩; (focus exact absurd hn (by decide)); have a0 : W2.cell? ⟨g2, 0, none⟩ = some (.int .i64 0) := own_cell ho2 rfl; have hl2 := lt_of_heap hh2; clear ho2 hh2; obtain ⟨hc2, hf2, hz2⟩ := bcell hb2)
  refine wp_loop_rounds 2 ?_
  rw [rounds_succ]
  go_wp2_with (first | (go_at_call 23; refine (known14 _).mono ?_; rintro e W3 ⟨rfl, hb3⟩; obtain ⟨hc3, hf3, hz3⟩ := bcell hb3) | (go_at_call 30; (with_reducible refine (parts_0 0 _ (by decide) (by decide) (by decide) (by decide)).mono ?_); rintro e W4 ⟨rfl, hb4⟩; obtain ⟨hc4, hf4, hz4⟩ := bcell hb4) | (go_at_call 30; (with_reducible refine (parts_0 5 _ (by decide) (by decide) (by decide) (by decide)).mono ?_); rintro e W5 ⟨rfl, hb5⟩; obtain ⟨hc5, hf5, hz5⟩ := bcell hb5))
  rw [rounds_succ]
  go_wp2_with (first | (go_at_call 23; refine (known14 _).mono ?_; rintro e W3 ⟨rfl, hb3⟩; obtain ⟨hc3, hf3, hz3⟩ := bcell hb3) | (go_at_call 30; (with_reducible refine (parts_0 0 _ (by decide) (by decide) (by decide) (by decide)).mono ?_); rintro e W4 ⟨rfl, hb4⟩; obtain ⟨hc4, hf4, hz4⟩ := bcell hb4) | (go_at_call 30; (with_reducible refine (parts_0 5 _ (by decide) (by decide) (by decide) (by decide)).mono ?_); rintro e W5 ⟨rfl, hb5⟩; obtain ⟨hc5, hf5, hz5⟩ := bcell hb5))
  go_ret
  refine ⟨rfl, ?_⟩
  repeat (first | exact gr0 _ | refine gr6 (by assumption) (Nat.le_refl _) ?_ | exact gr0 _ | refine gr1 ?_ _ | refine gr2 ?_ (Later.below _) | refine gr2 ?_ (by assumption) | refine gr3 ?_ | refine gr4 ?_ (by first | (simp; done) | (simp; omega) | omega) _)

set_option maxRecDepth 100000 in
set_option maxHeartbeats 2000000 in
theorem walkp_2 (md : Int) (w : World) (_b : 0 ≤ md ∧ md ≤ 255) (hm : md % 4 = 1) :
    Calls Try.prog 10 #[.int .u8 md] w fun e w' => e = .returned (.bool true) ∧ Below w.heap.size w w' := by
  have r1 : ∀ c : Int, c = 4 → md % c = 1 := by rintro c rfl; omega
  have r2 : ∀ c : Int, c = 4 → Int.tmod md c = 1 := by rintro c rfl; rw [Int.tmod_eq_emod_of_nonneg (by omega)]; omega
  clear _b hm
  go_enter Try.func10, Try.ntmps10
  go_wp2_with (go_at_call 30; refine (parts_2 _).mono ?_; rintro e W2 ⟨v, rfl, hb2, ho2⟩; rcases ho2.2 with ⟨_, hn⟩ | ⟨g2, c2, cur2, rfl, _, hh2, _⟩; (focus exact absurd hn (by decide)); have a0 : W2.cell? ⟨g2, 0, none⟩ = some (.int .i64 0) := own_cell ho2 rfl; have a1 : W2.cell? ⟨g2, 1, none⟩ = some (.int .i64 1) := own_cell ho2 rfl; have a2 : W2.cell? ⟨g2, 2, none⟩ = some (.int .i64 2) := own_cell ho2 rfl; have hl2 := lt_of_heap hh2; clear ho2 hh2; obtain ⟨hc2, hf2, hz2⟩ := bcell hb2)
  refine wp_loop_rounds 4 ?_
  rw [rounds_succ]
  go_wp2_with (first | (go_at_call 23; refine (known14 _).mono ?_; rintro e W3 ⟨rfl, hb3⟩; obtain ⟨hc3, hf3, hz3⟩ := bcell hb3) | (go_at_call 30; (with_reducible refine (parts_0 0 _ (by decide) (by decide) (by decide) (by decide)).mono ?_); rintro e W4 ⟨rfl, hb4⟩; obtain ⟨hc4, hf4, hz4⟩ := bcell hb4) | (go_at_call 30; (with_reducible refine (parts_0 5 _ (by decide) (by decide) (by decide) (by decide)).mono ?_); rintro e W5 ⟨rfl, hb5⟩; obtain ⟨hc5, hf5, hz5⟩ := bcell hb5))
  rw [rounds_succ]
  go_wp2_with (first | (go_at_call 23; refine (known14 _).mono ?_; rintro e W3 ⟨rfl, hb3⟩; obtain ⟨hc3, hf3, hz3⟩ := bcell hb3) | (go_at_call 30; (with_reducible refine (parts_0 0 _ (by decide) (by decide) (by decide) (by decide)).mono ?_); rintro e W4 ⟨rfl, hb4⟩; obtain ⟨hc4, hf4, hz4⟩ := bcell hb4) | (go_at_call 30; (with_reducible refine (parts_0 5 _ (by decide) (by decide) (by decide) (by decide)).mono ?_); rintro e W5 ⟨rfl, hb5⟩; obtain ⟨hc5, hf5, hz5⟩ := bcell hb5))
  rw [rounds_succ]
  go_wp2_with (first | (go_at_call 23; refine (known14 _).mono ?_; rintro e W3 ⟨rfl, hb3⟩; obtain ⟨hc3, hf3, hz3⟩ := bcell hb3) | (go_at_call 30; (with_reducible refine (parts_0 0 _ (by decide) (by decide) (by decide) (by decide)).mono ?_); rintro e W4 ⟨rfl, hb4⟩; obtain ⟨hc4, hf4, hz4⟩ := bcell hb4) | (go_at_call 30; (with_reducible refine (parts_0 5 _ (by decide) (by decide) (by decide) (by decide)).mono ?_); rintro e W5 ⟨rfl, hb5⟩; obtain ⟨hc5, hf5, hz5⟩ := bcell hb5))
  rw [rounds_succ]
  go_wp2_with (first | (go_at_call 23; refine (known14 _).mono ?_; rintro e W3 ⟨rfl, hb3⟩; obtain ⟨hc3, hf3, hz3⟩ := bcell hb3) | (go_at_call 30; (with_reducible refine (parts_0 0 _ (by decide) (by decide) (by decide) (by decide)).mono ?_); rintro e W4 ⟨rfl, hb4⟩; obtain ⟨hc4, hf4, hz4⟩ := bcell hb4) | (go_at_call 30; (with_reducible refine (parts_0 5 _ (by decide) (by decide) (by decide) (by decide)).mono ?_); rintro e W5 ⟨rfl, hb5⟩; obtain ⟨hc5, hf5, hz5⟩ := bcell hb5))
  go_ret
  refine ⟨rfl, ?_⟩
  repeat (first | exact gr0 _ | refine gr6 (by assumption) (Nat.le_refl _) ?_ | exact gr0 _ | refine gr1 ?_ _ | refine gr2 ?_ (Later.below _) | refine gr2 ?_ (by assumption) | refine gr3 ?_ | refine gr4 ?_ (by first | (simp; done) | (simp; omega) | omega) _)

set_option maxRecDepth 100000 in
set_option maxHeartbeats 2000000 in
theorem walkp_3 (md : Int) (w : World) (_b : 0 ≤ md ∧ md ≤ 255) (hm : md % 4 = 2) :
    Calls Try.prog 10 #[.int .u8 md] w fun e w' => e = .returned (.bool true) ∧ Below w.heap.size w w' := by
  have r1 : ∀ c : Int, c = 4 → md % c = 2 := by rintro c rfl; omega
  have r2 : ∀ c : Int, c = 4 → Int.tmod md c = 2 := by rintro c rfl; rw [Int.tmod_eq_emod_of_nonneg (by omega)]; omega
  clear _b hm
  go_enter Try.func10, Try.ntmps10
  go_wp2_with (go_at_call 30; refine (parts_3 _).mono ?_; rintro e W2 ⟨v, rfl, hb2, ho2⟩; rcases ho2.2 with ⟨_, hn⟩ | ⟨g2, c2, cur2, rfl, _, hh2, _⟩; (focus exact absurd hn (by decide)); have a0 : W2.cell? ⟨g2, 0, none⟩ = some (.int .i64 0) := own_cell ho2 rfl; have a1 : W2.cell? ⟨g2, 1, none⟩ = some (.int .i64 0) := own_cell ho2 rfl; have a2 : W2.cell? ⟨g2, 2, none⟩ = some (.int .i64 1) := own_cell ho2 rfl; have a3 : W2.cell? ⟨g2, 3, none⟩ = some (.int .i64 2) := own_cell ho2 rfl; have hl2 := lt_of_heap hh2; clear ho2 hh2; obtain ⟨hc2, hf2, hz2⟩ := bcell hb2)
  refine wp_loop_rounds 5 ?_
  rw [rounds_succ]
  go_wp2_with (first | (go_at_call 23; refine (known14 _).mono ?_; rintro e W3 ⟨rfl, hb3⟩; obtain ⟨hc3, hf3, hz3⟩ := bcell hb3) | (go_at_call 30; (with_reducible refine (parts_0 0 _ (by decide) (by decide) (by decide) (by decide)).mono ?_); rintro e W4 ⟨rfl, hb4⟩; obtain ⟨hc4, hf4, hz4⟩ := bcell hb4) | (go_at_call 30; (with_reducible refine (parts_0 5 _ (by decide) (by decide) (by decide) (by decide)).mono ?_); rintro e W5 ⟨rfl, hb5⟩; obtain ⟨hc5, hf5, hz5⟩ := bcell hb5))
  rw [rounds_succ]
  go_wp2_with (first | (go_at_call 23; refine (known14 _).mono ?_; rintro e W3 ⟨rfl, hb3⟩; obtain ⟨hc3, hf3, hz3⟩ := bcell hb3) | (go_at_call 30; (with_reducible refine (parts_0 0 _ (by decide) (by decide) (by decide) (by decide)).mono ?_); rintro e W4 ⟨rfl, hb4⟩; obtain ⟨hc4, hf4, hz4⟩ := bcell hb4) | (go_at_call 30; (with_reducible refine (parts_0 5 _ (by decide) (by decide) (by decide) (by decide)).mono ?_); rintro e W5 ⟨rfl, hb5⟩; obtain ⟨hc5, hf5, hz5⟩ := bcell hb5))
  rw [rounds_succ]
  go_wp2_with (first | (go_at_call 23; refine (known14 _).mono ?_; rintro e W3 ⟨rfl, hb3⟩; obtain ⟨hc3, hf3, hz3⟩ := bcell hb3) | (go_at_call 30; (with_reducible refine (parts_0 0 _ (by decide) (by decide) (by decide) (by decide)).mono ?_); rintro e W4 ⟨rfl, hb4⟩; obtain ⟨hc4, hf4, hz4⟩ := bcell hb4) | (go_at_call 30; (with_reducible refine (parts_0 5 _ (by decide) (by decide) (by decide) (by decide)).mono ?_); rintro e W5 ⟨rfl, hb5⟩; obtain ⟨hc5, hf5, hz5⟩ := bcell hb5))
  rw [rounds_succ]
  go_wp2_with (first | (go_at_call 23; refine (known14 _).mono ?_; rintro e W3 ⟨rfl, hb3⟩; obtain ⟨hc3, hf3, hz3⟩ := bcell hb3) | (go_at_call 30; (with_reducible refine (parts_0 0 _ (by decide) (by decide) (by decide) (by decide)).mono ?_); rintro e W4 ⟨rfl, hb4⟩; obtain ⟨hc4, hf4, hz4⟩ := bcell hb4) | (go_at_call 30; (with_reducible refine (parts_0 5 _ (by decide) (by decide) (by decide) (by decide)).mono ?_); rintro e W5 ⟨rfl, hb5⟩; obtain ⟨hc5, hf5, hz5⟩ := bcell hb5))
  rw [rounds_succ]
  go_wp2_with (first | (go_at_call 23; refine (known14 _).mono ?_; rintro e W3 ⟨rfl, hb3⟩; obtain ⟨hc3, hf3, hz3⟩ := bcell hb3) | (go_at_call 30; (with_reducible refine (parts_0 0 _ (by decide) (by decide) (by decide) (by decide)).mono ?_); rintro e W4 ⟨rfl, hb4⟩; obtain ⟨hc4, hf4, hz4⟩ := bcell hb4) | (go_at_call 30; (with_reducible refine (parts_0 5 _ (by decide) (by decide) (by decide) (by decide)).mono ?_); rintro e W5 ⟨rfl, hb5⟩; obtain ⟨hc5, hf5, hz5⟩ := bcell hb5))
  go_ret
  refine ⟨rfl, ?_⟩
  repeat (first | exact gr0 _ | refine gr6 (by assumption) (Nat.le_refl _) ?_ | exact gr0 _ | refine gr1 ?_ _ | refine gr2 ?_ (Later.below _) | refine gr2 ?_ (by assumption) | refine gr3 ?_ | refine gr4 ?_ (by first | (simp; done) | (simp; omega) | omega) _)

set_option maxRecDepth 100000 in
set_option maxHeartbeats 2000000 in
theorem walkp_4 (md : Int) (w : World) (_b : 0 ≤ md ∧ md ≤ 255) (hm : md % 4 = 3) :
    Calls Try.prog 10 #[.int .u8 md] w fun e w' => e = .returned (.bool true) ∧ Below w.heap.size w w' := by
  have r1 : ∀ c : Int, c = 4 → md % c = 3 := by rintro c rfl; omega
  have r2 : ∀ c : Int, c = 4 → Int.tmod md c = 3 := by rintro c rfl; rw [Int.tmod_eq_emod_of_nonneg (by omega)]; omega
  clear _b hm
  go_enter Try.func10, Try.ntmps10
  go_wp2_with (go_at_call 30; refine (parts_4 _).mono ?_; rintro e W2 ⟨v, rfl, hb2, ho2⟩; rcases ho2.2 with ⟨_, hn⟩ | ⟨g2, c2, cur2, rfl, _, hh2, _⟩; (focus exact absurd hn (by decide)); have a0 : W2.cell? ⟨g2, 0, none⟩ = some (.int .i64 0) := own_cell ho2 rfl; have a1 : W2.cell? ⟨g2, 1, none⟩ = some (.int .i64 0) := own_cell ho2 rfl; have a2 : W2.cell? ⟨g2, 2, none⟩ = some (.int .i64 0) := own_cell ho2 rfl; have a3 : W2.cell? ⟨g2, 3, none⟩ = some (.int .i64 0) := own_cell ho2 rfl; have a4 : W2.cell? ⟨g2, 4, none⟩ = some (.int .i64 1) := own_cell ho2 rfl; have a5 : W2.cell? ⟨g2, 5, none⟩ = some (.int .i64 2) := own_cell ho2 rfl; have hl2 := lt_of_heap hh2; clear ho2 hh2; obtain ⟨hc2, hf2, hz2⟩ := bcell hb2)
  refine wp_loop_rounds 7 ?_
  rw [rounds_succ]
  go_wp2_with (first | (go_at_call 23; refine (known14 _).mono ?_; rintro e W3 ⟨rfl, hb3⟩; obtain ⟨hc3, hf3, hz3⟩ := bcell hb3) | (go_at_call 30; (with_reducible refine (parts_0 0 _ (by decide) (by decide) (by decide) (by decide)).mono ?_); rintro e W4 ⟨rfl, hb4⟩; obtain ⟨hc4, hf4, hz4⟩ := bcell hb4) | (go_at_call 30; (with_reducible refine (parts_0 5 _ (by decide) (by decide) (by decide) (by decide)).mono ?_); rintro e W5 ⟨rfl, hb5⟩; obtain ⟨hc5, hf5, hz5⟩ := bcell hb5))
  rw [rounds_succ]
  go_wp2_with (first | (go_at_call 23; refine (known14 _).mono ?_; rintro e W3 ⟨rfl, hb3⟩; obtain ⟨hc3, hf3, hz3⟩ := bcell hb3) | (go_at_call 30; (with_reducible refine (parts_0 0 _ (by decide) (by decide) (by decide) (by decide)).mono ?_); rintro e W4 ⟨rfl, hb4⟩; obtain ⟨hc4, hf4, hz4⟩ := bcell hb4) | (go_at_call 30; (with_reducible refine (parts_0 5 _ (by decide) (by decide) (by decide) (by decide)).mono ?_); rintro e W5 ⟨rfl, hb5⟩; obtain ⟨hc5, hf5, hz5⟩ := bcell hb5))
  rw [rounds_succ]
  go_wp2_with (first | (go_at_call 23; refine (known14 _).mono ?_; rintro e W3 ⟨rfl, hb3⟩; obtain ⟨hc3, hf3, hz3⟩ := bcell hb3) | (go_at_call 30; (with_reducible refine (parts_0 0 _ (by decide) (by decide) (by decide) (by decide)).mono ?_); rintro e W4 ⟨rfl, hb4⟩; obtain ⟨hc4, hf4, hz4⟩ := bcell hb4) | (go_at_call 30; (with_reducible refine (parts_0 5 _ (by decide) (by decide) (by decide) (by decide)).mono ?_); rintro e W5 ⟨rfl, hb5⟩; obtain ⟨hc5, hf5, hz5⟩ := bcell hb5))
  rw [rounds_succ]
  go_wp2_with (first | (go_at_call 23; refine (known14 _).mono ?_; rintro e W3 ⟨rfl, hb3⟩; obtain ⟨hc3, hf3, hz3⟩ := bcell hb3) | (go_at_call 30; (with_reducible refine (parts_0 0 _ (by decide) (by decide) (by decide) (by decide)).mono ?_); rintro e W4 ⟨rfl, hb4⟩; obtain ⟨hc4, hf4, hz4⟩ := bcell hb4) | (go_at_call 30; (with_reducible refine (parts_0 5 _ (by decide) (by decide) (by decide) (by decide)).mono ?_); rintro e W5 ⟨rfl, hb5⟩; obtain ⟨hc5, hf5, hz5⟩ := bcell hb5))
  rw [rounds_succ]
  go_wp2_with (first | (go_at_call 23; refine (known14 _).mono ?_; rintro e W3 ⟨rfl, hb3⟩; obtain ⟨hc3, hf3, hz3⟩ := bcell hb3) | (go_at_call 30; (with_reducible refine (parts_0 0 _ (by decide) (by decide) (by decide) (by decide)).mono ?_); rintro e W4 ⟨rfl, hb4⟩; obtain ⟨hc4, hf4, hz4⟩ := bcell hb4) | (go_at_call 30; (with_reducible refine (parts_0 5 _ (by decide) (by decide) (by decide) (by decide)).mono ?_); rintro e W5 ⟨rfl, hb5⟩; obtain ⟨hc5, hf5, hz5⟩ := bcell hb5))
  rw [rounds_succ]
  go_wp2_with (first | (go_at_call 23; refine (known14 _).mono ?_; rintro e W3 ⟨rfl, hb3⟩; obtain ⟨hc3, hf3, hz3⟩ := bcell hb3) | (go_at_call 30; (with_reducible refine (parts_0 0 _ (by decide) (by decide) (by decide) (by decide)).mono ?_); rintro e W4 ⟨rfl, hb4⟩; obtain ⟨hc4, hf4, hz4⟩ := bcell hb4) | (go_at_call 30; (with_reducible refine (parts_0 5 _ (by decide) (by decide) (by decide) (by decide)).mono ?_); rintro e W5 ⟨rfl, hb5⟩; obtain ⟨hc5, hf5, hz5⟩ := bcell hb5))
  rw [rounds_succ]
  go_wp2_with (first | (go_at_call 23; refine (known14 _).mono ?_; rintro e W3 ⟨rfl, hb3⟩; obtain ⟨hc3, hf3, hz3⟩ := bcell hb3) | (go_at_call 30; (with_reducible refine (parts_0 0 _ (by decide) (by decide) (by decide) (by decide)).mono ?_); rintro e W4 ⟨rfl, hb4⟩; obtain ⟨hc4, hf4, hz4⟩ := bcell hb4) | (go_at_call 30; (with_reducible refine (parts_0 5 _ (by decide) (by decide) (by decide) (by decide)).mono ?_); rintro e W5 ⟨rfl, hb5⟩; obtain ⟨hc5, hf5, hz5⟩ := bcell hb5))
  go_ret
  refine ⟨rfl, ?_⟩
  repeat (first | exact gr0 _ | refine gr6 (by assumption) (Nat.le_refl _) ?_ | exact gr0 _ | refine gr1 ?_ _ | refine gr2 ?_ (Later.below _) | refine gr2 ?_ (by assumption) | refine gr3 ?_ | refine gr4 ?_ (by first | (simp; done) | (simp; omega) | omega) _)

theorem walk_SlotParts (md : Int) (w : World) (_b : 0 ≤ md ∧ md ≤ 255) :
    Calls Try.prog 10 #[.int .u8 md] w fun e w' => e = .returned (.bool true) ∧ Below w.heap.size w w' := by
  rcases (show md % 4 = 0 ∨ md % 4 = 1 ∨ md % 4 = 2 ∨ md % 4 = 3 by omega) with h | h | h | h
  · exact walkp_1 md w _b h
  · exact walkp_2 md w _b h
  · exact walkp_3 md w _b h
  · exact walkp_4 md w _b h

end Go.Proofs.Ytdpiikpodcanjaa
