/- SecBounds: the walk: it returns true. -/
import Derived.Test.YtgoflehojioedaaKnown03
namespace Go.Proofs.Ytgoflehojioedaa
open Go.RowKit

set_option maxHeartbeats 2000000 in
theorem walk_SecBounds (a : Int) (x : Int) (y : Int) (n : Int) (k : Int) (w : World) (_ba : -9223372036854775808 ≤ a ∧ a ≤ 9223372036854775807) (_bx : -2147483648 ≤ x ∧ x ≤ 2147483647) (_by : -2147483648 ≤ y ∧ y ≤ 2147483647) (_bn : -2147483648 ≤ n ∧ n ≤ 2147483647) (_bk : 0 ≤ k ∧ k ≤ 255) :
    Calls Try.prog 6 #[.int .i64 a, .int .i32 x, .int .i32 y, .int .i32 n, .int .u8 k] w fun e w' => e = .returned (.bool true) ∧ Below w.heap.size w w' := by
  have ia : I64 a := by unfold I64; omega
  have h1 : secShr (secShl n (k % 32)) (k % 32) = n := shl_shr (by omega) (by omega)
  obtain ⟨s, hs⟩ : ∃ s, s = (if a < min x y then min x y else if max x y < a then max x y else a) := ⟨_, rfl⟩
  have g1 : (if y < x then y else x) = min x y := by split <;> omega
  have g2 : (if x < y then y else x) = max x y := by split <;> omega
  have h2 : secClip a (min x y) (max x y) = s := by rw [hs]; exact secClip_eq ia (by unfold I64; omega) (by unfold I64; omega)
  have h3 : min x y ≤ s := by rw [hs]; split; omega; split <;> omega
  have h4 : s ≤ max x y := by rw [hs]; split; omega; split <;> omega
  have h5 : (a < min x y ∨ max x y < a) ∨ s = a := by rw [hs]; split; omega; split <;> omega
  clear hs ia
  obtain ⟨l, hl⟩ : ∃ l, l = min x y := ⟨_, rfl⟩
  obtain ⟨u, hu⟩ : ∃ u, u = max x y := ⟨_, rfl⟩
  rw [← hl, ← hu] at *
  clear hl hu
  rcases h5 with (h5 | h5) | rfl
  all_goals (
    go_enter Try.func6, Try.ntmps6
    go_wp2_with (first
      | (go_at_call 15; refine (sec_of _ _).mono ?_; rintro e W1 ⟨rfl, hb1⟩; obtain ⟨hc1, hf1, hz1⟩ := bcell hb1; try simp at hz1)
      | (go_at_call 16; refine (known03 _).mono ?_; rintro e W1 ⟨rfl, hb1⟩; obtain ⟨hc1, hf1, hz1⟩ := bcell hb1; try simp at hz1)
      | (go_at_call 17; refine (law_open _ _).mono ?_; rintro e W1 ⟨rfl, hb1⟩; obtain ⟨hc1, hf1, hz1⟩ := bcell hb1; try simp at hz1)
      | (go_at_call 32; refine (sec_clip _ _ _ _).mono ?_; rintro e W1 ⟨rfl, hb1⟩; obtain ⟨hc1, hf1, hz1⟩ := bcell hb1; try simp at hz1)
      | (go_at_call 18; refine (sec_shl _ _ _).mono ?_; rintro e W1 ⟨rfl, hb1⟩; obtain ⟨hc1, hf1, hz1⟩ := bcell hb1; try simp at hz1)
      | (go_at_call 20; refine (sec_shr _ _ _).mono ?_; rintro e W1 ⟨rfl, hb1⟩; obtain ⟨hc1, hf1, hz1⟩ := bcell hb1; try simp at hz1))
    all_goals go_ret
    all_goals refine ⟨rfl, ?_⟩
    all_goals (repeat (first | exact gr0 _ | refine gr1 ?_ _ | refine gr2 ?_ (Later.below _) | refine gr2 ?_ (by assumption) | refine gr3 ?_)))
end Go.Proofs.Ytgoflehojioedaa
