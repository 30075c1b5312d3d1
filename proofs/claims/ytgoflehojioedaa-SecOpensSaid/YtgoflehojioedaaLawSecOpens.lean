/- SecOpens: the walk: it returns true. -/
import Derived.Test.YtgoflehojioedaaTraceO
import Derived.Test.YtgoflehojioedaaKnown03
namespace Go.Proofs.Ytgoflehojioedaa
open Go.RowKit

set_option maxRecDepth 100000 in
set_option maxHeartbeats 4000000 in
theorem walk_SecOpens (a b n : Int) (w : World) (_ba : -9223372036854775808 ≤ a ∧ a ≤ 9223372036854775807) (_bb : -9223372036854775808 ≤ b ∧ b ≤ 9223372036854775807) (_bn : 0 ≤ n ∧ n ≤ 255) :
    Calls Try.prog 14 #[.int .i64 a, .int .i64 b, .int .u8 n] w fun e w' => e = .returned (.bool true) ∧ Below w.heap.size w w' := by
  obtain ⟨m, hm⟩ : ∃ m : Nat, (m : Int) = n % 20 := ⟨(n % 20).toNat, by omega⟩
  have hm1 : ∀ c : Int, c = 20 → Int.tmod n c = m := by rintro c rfl; rw [Int.tmod_eq_emod_of_nonneg (by omega), hm]
  have hm2 : ∀ c : Int, c = 20 → n % c = m := by rintro c rfl; exact hm.symm
  have hm3 : (m : Int) ≤ 19 := by omega
  clear hm
  go_enter Try.func14, Try.ntmps14
  go_wp2_with (first
    | (go_at_call 50; with_reducible refine (new_ _).mono ?_; rintro e w2 ⟨rfl, hw2⟩; have H2 := two_new H1; rw [← hw2] at H2; have hz2 : w1.heap.size < w2.heap.size := by rw [hw2]; simp
       clear hw2)
    | (go_at_call 50; with_reducible refine (new_ w).mono ?_; rintro e w1 ⟨rfl, hw1⟩; have H1 := one_new w; rw [← hw1] at H1; clear hw1)
    | (go_at_call 15; with_reducible refine (sec_of a _).mono ?_; rintro e w3 ⟨rfl, hb3⟩; have H3 := H2.calm hb3; have H4 := H3.more (gr1 (gr0 w3) (.cells #[.int .i64 a] 23)) w3.heap.size (Nat.le_refl _) (by simp))
    | (go_at_call 15; with_reducible refine (sec_of b _).mono ?_; rintro e w4 ⟨rfl, hb4⟩; have H5 := H4.calm hb4; have H6 := H5.more (gr1 (gr0 w4) (.cells #[.int .i64 b] 23)) w4.heap.size (Nat.le_refl _) (by simp)))
  obtain ⟨gx, hgx⟩ : ∃ g, g = w3.heap.size := ⟨_, rfl⟩
  obtain ⟨gy, hgy⟩ : ∃ g, g = w4.heap.size := ⟨_, rfl⟩
  obtain ⟨g, hg⟩ : ∃ g, g = w.heap.size := ⟨_, rfl⟩
  obtain ⟨h, hh⟩ : ∃ g, g = w1.heap.size := ⟨_, rfl⟩
  have H6 : Two w (w4.alloc (.cells #[.int .i64 b] 23)) g (pst (reps 0)) h (pst (reps 0)) [gy, gx] := by rw [hgx, hgy, hg, hh]; exact H6
  have hs3 := H3.below.size
  have hs4 := hb4.size
  have hcx : ((w3.alloc (.cells #[.int .i64 a] 23)).cell? ⟨gx, 0, none⟩ = some (.int .i64 a)) := by rw [hgx]; simp [alloc_cell_if]
  rw [← hgx, ← hgy, ← hg, ← hh]
  refine wp_abs (fun W => Two w W g (pst (reps 0)) h (pst (reps 0)) [gy, gx] ∧ W.cell? ⟨gx, 0, none⟩ = some (.int .i64 a) ∧ W.cell? ⟨gy, 0, none⟩ = some (.int .i64 b)) ⟨H6, ?_, ?_⟩ ?_
  · have h1 := (hb4.cell (p := ⟨gx, 0, none⟩) (World.block_lt_of_cell? _ _ hcx)).trans hcx
    exact ((gr1 (gr0 w4) (.cells #[.int .i64 b] 23)).cell (p := ⟨gx, 0, none⟩) (World.block_lt_of_cell? _ _ h1)).trans h1
  · rw [hgy]; simp [alloc_cell_if]
  clear hgx hgy hg hh hcx hs3 hs4 H6 H5 H4 H3 H2 H1 hb3 hb4 hz2
  intro W9 H9
  go_loopg [11] m (fun gj i wr => ∃ jj : Nat, jj + gj = m ∧ i = .int .i64 jj ∧ Two w wr g (pst (reps jj)) h (pst (reps jj)) [gy, gx] ∧ wr.cell? ⟨gx, 0, none⟩ = some (.int .i64 a) ∧ wr.cell? ⟨gy, 0, none⟩ = some (.int .i64 b))
  case atStart => exact ⟨0, Nat.zero_add _, rfl, H9⟩
  case round =>
    clear H9
    obtain ⟨i, hi, rfl, HT, hcx, hcy⟩ := hrel
    have hi0 : (0 : Int) ≤ i := by omega
    have hi1 : (i : Int) ≤ 19 := by omega
    by_cases hlt : i < m
    · have t1 : decide ((i : Int) < m) = true := by simp; omega
      have hle : (reps i).length ≤ 1000000 := by rw [reps_len]; omega
      have HT2 := hid2 HT
      clear HT
      go_wp2_with (first
        | (go_at_call 51; with_reducible refine (sopen_l HT2.out hle a).mono ?_; rintro e w5 ⟨rfl, H5, k5⟩; have hcx5 := k5.cell (by simp) hcx; have hcy5 := k5.cell (by simp) hcy)
        | (go_at_call 51; with_reducible refine (sopen_r H5 hle b).mono ?_; rintro e w6 ⟨rfl, H6, k6⟩; have hcx6 := k6.cell (by simp) hcx5; have hcy6 := k6.cell (by simp) hcy5))
      go_roundg (m - (i + 1))
      case measure => omega
      case rel => exact ⟨i + 1, by omega, by go_num, by rw [reps_succ]; exact H6, hcx6, hcy6⟩
    · have him : i = m := by omega
      have t1 : decide ((i : Int) < m) = false := by simp; omega
      have HT2 := hid2 HT
      have HIM : Hid2 (i = m) := him
      have q0 : cnt (reps i) 3 = m := by rw [cnt_reps, him]
      have hle : (reps i).length ≤ 1000000 := by rw [reps_len]; omega
      clear HT him
      go_wp2_with (first
        | (go_at_call 16; with_reducible refine (known03 _).mono ?_; rintro e w7 ⟨rfl, hb7⟩; have H7 := HT2.out.calm hb7)
        | (go_at_call 44; with_reducible refine (countp_ H7.rn.1 hle 3).mono ?_; rintro e w8 ⟨rfl, hb8⟩; have H8 := H7.calm hb8)
        | (go_at_call 47; with_reducible refine (samep_ H8.rn.1 H8.rn.2 hle hle (reps_ok _) (reps_ok _)).mono ?_; rintro e w9 ⟨rfl, hb9⟩; have H9 := H8.calm hb9))
      go_ret
      exact ⟨rfl, H9.below⟩
end Go.Proofs.Ytgoflehojioedaa
