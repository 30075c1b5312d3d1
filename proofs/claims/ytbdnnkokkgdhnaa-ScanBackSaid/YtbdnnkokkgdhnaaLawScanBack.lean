/- ScanBack: the walk: it returns true. -/
import Derived.Test.YtbdnnkokkgdhnaaKnown05
import Derived.Test.YtbdnnkokkgdhnaaScanT
namespace Go.Proofs.Ytbdnnkokkgdhnaa
open Go.RowKit

set_option maxRecDepth 100000 in
set_option maxHeartbeats 4000000 in
theorem walk_ScanBack (a s n : Int) (w : World) (_ba : 0 ≤ a ∧ a ≤ 255) (_bs : -9223372036854775808 ≤ s ∧ s ≤ 9223372036854775807) (_bn : 0 ≤ n ∧ n ≤ 255) :
    Calls Try.prog 13 #[.int .u8 a, .int .i64 s, .int .u8 n] w fun e w' => e = .returned (.bool true) ∧ Below w.heap.size w w' := by
  obtain ⟨p, hp⟩ : ∃ p : Nat, (p : Int) = a % 50 := ⟨(a % 50).toNat, by omega⟩
  obtain ⟨c, hc⟩ : ∃ c : Nat, (c : Int) = n % 8 := ⟨(n % 8).toNat, by omega⟩
  have hp1 : ∀ d : Int, d = 50 → Int.tmod a d = p := by rintro d rfl; rw [Int.tmod_eq_emod_of_nonneg (by omega), hp]
  have hp2 : ∀ d : Int, d = 50 → a % d = p := by rintro d rfl; exact hp.symm
  have hc1 : ∀ d : Int, d = 8 → Int.tmod n d = c := by rintro d rfl; rw [Int.tmod_eq_emod_of_nonneg (by omega), hc]
  have hc2 : ∀ d : Int, d = 8 → n % d = c := by rintro d rfl; exact hc.symm
  have hp3 : (p : Int) ≤ 49 := by omega
  have hp4 : (0 : Int) ≤ p := by omega
  have hc3 : (c : Int) ≤ 7 := by omega
  have hc4 : (0 : Int) ≤ c := by omega
  have hc8 : clipN 8 (c : Int) = c := by unfold clipN; rw [if_neg (by omega), if_neg (by omega)]; omega
  have h60 : clipN 60 60 = 60 := by decide
  have h00 : clipN 60 0 = 0 := by decide
  have hT := hid2 (take_all (p := p) s (n := c) (by omega) (by omega))
  have HC := hid2 hc8
  have HH := hid2 (And.intro h60 h00)
  clear hp hc hc8 h60 h00
  go_enter Try.func13, Try.ntmps13
  go_wp2_with (first
    | (go_at_call 17; (refine (bnew_0 w 60 (by omega)).mono ?_); rintro e w1 ⟨b, rfl, K1⟩)
    | (go_at_call 48; (with_reducible refine (sput_ K3 (by simp) (by simp) p s c 0 60).mono ?_); rintro e w4 ⟨rfl, k4, _⟩; rw [List.length_replicate, HC.out, HH.out.1, HH.out.2, show max 0 60 - 0 = 60 from rfl] at k4; have K4 := k4; clear k4 K3)
    | (go_at_call 49; (with_reducible refine (stake_ K5 (Nat.le_trans (addO_len _ _ _) (by rw [setE_len]; simp)) (by rw [putL_len]; simp) p c 0 60).mono ?_); rintro e w6 ⟨rfl, k6, _⟩; simp only [putL_len, List.length_replicate, HC.out, HH.out.1, HH.out.2, show max 0 60 - 0 = 60 from rfl] at k6 ⊢; rw [hT.out]; obtain ⟨r, hr⟩ : ∃ r, r = bits .and .i64 s (2 ^ (8 * c) - 1) := ⟨_, rfl⟩; rw [← hr]; have HR := hid2 hr; have K6 := hid2 (k6.more (gr1 (gr0 w6) (.cells #[.int .i64 r] 29)) w6.heap.size (Nat.le_refl _) (by simp)); clear k6 K5 hr)
    | (go_at_call 19; (with_reducible refine (sec_of s w2).mono ?_); rintro e w3 ⟨rfl, hb3⟩; have K3 := K2.calm hb3; clear K2)
    | (go_at_call 19; (with_reducible refine (sec_of p w4).mono ?_); rintro e w5 ⟨rfl, hb5⟩; have K5 := K4.calm hb5; clear K4)
    | (go_at_call 19; (with_reducible refine (sec_of p w1).mono ?_); rintro e w2 ⟨rfl, hb2⟩; have K2 := K1.calm hb2; clear K1)
    | (go_at_call 35; (with_reducible refine (known05 _).mono ?_); rintro e w7 ⟨rfl, hb7⟩; have Y7 := Cel.below (W := w6.alloc (.cells #[.int .i64 r] 29)) (b := w6.heap.size) (i := 0) (v := .int .i64 r) ⟨by simp [alloc_cell_if], by simp [alloc_frozen_if]⟩ hb7; have y7 := Y7.1; have z7 := World.block_lt_of_cell? w7 _ y7; have K7 := hid2 (K6.out.calm hb7); clear Y7)
    | (go_at_call 21; (with_reducible refine (sopen_none r w7).mono ?_); rintro e w8 ⟨rfl, hb8⟩))
  have hq : (2 : Int) ^ (8 * c) ≤ 2 ^ 56 := by
    have := Nat.pow_le_pow_right (show 2 > 0 by omega) (show 8 * c ≤ 56 by omega)
    have h2 : ((2 ^ (8 * c) : Nat) : Int) ≤ ((2 ^ 56 : Nat) : Int) := by exact_mod_cast this
    simpa using h2
  have hq0 : (0 : Int) < 2 ^ (8 * c) := Int.pow_pos (by omega)
  have e1 : wrap64 ((2 : Int) ^ (8 * c)) = 2 ^ (8 * c) := wrap64_eq (by unfold I64; omega)
  have e2 : wrap64 ((2 : Int) ^ (8 * c) - 1) = 2 ^ (8 * c) - 1 := wrap64_eq (by unfold I64; omega)
  rw [e1, e2, ← HR.out, beq_self_eq_true]
  go_ret
  exact ⟨rfl, gr2 K7.out.below hb8⟩
end Go.Proofs.Ytbdnnkokkgdhnaa
