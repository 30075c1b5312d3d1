/- A quotient rounded to the nearest, as the document has it. -/
import Derived.Test.YtbdnnkokkgdhnaaScanD
import Derived.Test.YtbdnnkokkgdhnaaCalm
namespace Go.Proofs.Ytbdnnkokkgdhnaa
open Go.RowKit

theorem w64 {n : Int} (h1 : -9223372036854775808 ≤ n) (h2 : n ≤ 9223372036854775807) : wrap64 n = n := by unfold wrap64; omega
def rndD (n d : Int) : Int := if n < 0 then -((-n + d / 2) / d) else (n + d / 2) / d
theorem rnd_q {n d : Int} (_ : 0 ≤ n) (hd : 1 ≤ d) : (n + d / 2) / d = if d ≤ 2 * (n - n / d * d) then n / d + 1 else n / d := by
  have h2 := Int.mul_ediv_add_emod n d
  have h3 := Int.emod_nonneg n (by omega : d ≠ 0)
  have h4 := Int.emod_lt_of_pos n (by omega : 0 < d)
  rw [Int.mul_comm] at h2
  have e : n - n / d * d = n % d := by omega
  rw [e]
  generalize n / d = q at *
  generalize n % d = r at *
  have e2 : n + d / 2 = d * q + (r + d / 2) := by rw [Int.mul_comm d q]; omega
  rw [e2, Int.add_comm, Int.add_mul_ediv_left _ _ (by omega : d ≠ 0)]
  split
  · have : (r + d / 2) / d = 1 := by
      rw [show r + d / 2 = (r + d / 2 - d) + d * 1 by omega, Int.add_mul_ediv_left _ _ (by omega : d ≠ 0), Int.ediv_eq_zero_of_lt (by omega) (by omega)]; rfl
    omega
  · rw [Int.ediv_eq_zero_of_lt (by omega) (by omega)]; omega
theorem quo_bd {n d : Int} (h0 : 0 ≤ n) (hd : 1 ≤ d) : (0 ≤ n / d ∧ n / d ≤ n) ∧ (0 ≤ n / d * d ∧ n / d * d ≤ n) := by
  have h2 := Int.mul_ediv_add_emod n d
  have h3 := Int.emod_nonneg n (by omega : d ≠ 0)
  rw [Int.mul_comm] at h2
  have h5 : 0 ≤ n / d := Int.ediv_nonneg h0 (by omega)
  have h6 : n / d ≤ n / d * d := by
    have : n / d * 1 ≤ n / d * d := Int.mul_le_mul_of_nonneg_left hd h5
    rw [Int.mul_one] at this
    exact this
  omega

set_option maxHeartbeats 2000000 in
theorem rround_nn (n d : Int) (w : World) (_b1 : 0 ≤ n ∧ n ≤ 2305843009213693952) (_b2 : 1 ≤ d ∧ d ≤ 1099511627776) :
    Calls Try.prog 70 #[.int .i64 n, .int .i64 d] w fun e w' => e = .returned (.int .i64 (rndD n d)) ∧ Below w.heap.size w w' := by
  have h1 : ¬ n < 0 := by omega
  have q := quo_bd (n := n) (d := d) (by omega) (by omega)
  have t1 : decide (4611686018427387904 < n) = false := by simp; omega
  have t2 : decide (n < -4611686018427387904) = false := by simp; omega
  have t3 : decide (d < 1) = false := by simp; omega
  have t4 : decide (1152921504606846976 < d) = false := by simp; omega
  have t5 : decide (n < 0) = false := by simp; omega
  have d0 : d ≠ 0 := by omega
  have k1 : Int.tdiv n d = n / d := Int.tdiv_eq_ediv_of_nonneg (by omega)
  have k2 : wrap64 (n / d) = n / d := w64 (by omega) (by omega)
  have k3 : wrap64 (n / d * d) = n / d * d := w64 (by omega) (by omega)
  have k4 : wrap64 (n - n / d * d) = n - n / d * d := w64 (by omega) (by omega)
  have k5 : wrap64 (2 * (n - n / d * d)) = 2 * (n - n / d * d) := w64 (by omega) (by omega)
  have k6 : wrap64 (n / d + 1) = n / d + 1 := w64 (by omega) (by omega)
  by_cases h2 : d ≤ 2 * (n - n / d * d)
  · have e : rndD n d = n / d + 1 := by unfold rndD; rw [if_neg h1, rnd_q (by omega) (by omega), if_pos h2]
    have t6 : decide (d ≤ 2 * (n - n / d * d)) = true := by simp; omega
    go_enter Try.func70, Try.ntmps70
    go_wp2_with (first
      | (refine wp_region_calm (by kernel_rfl) (by kernel_rfl) ?_; repeat (first | go_big_quiet_step (fail) | quiet_step (fail))
         refine wpQuiet_nil ?_; intro u; have hzu := u.below.size; try simp at hzu))
    all_goals go_ret
    all_goals refine ⟨by first | rfl | exact ret_int e.symm, ?_⟩
    all_goals (repeat (first | exact gr0 _ | refine gr1 ?_ _ | refine gr2 ?_ (Later.below _) | refine gr2 ?_ (by assumption) | refine gr3 ?_ | refine gr4 ?_ (by first | (simp; done) | (simp; omega) | omega) _))
  · skip
    have e : rndD n d = n / d := by unfold rndD; rw [if_neg h1, rnd_q (by omega) (by omega), if_neg h2]
    have t6 : decide (d ≤ 2 * (n - n / d * d)) = false := by simp; omega
    go_enter Try.func70, Try.ntmps70
    go_wp2_with (first
      | (refine wp_region_calm (by kernel_rfl) (by kernel_rfl) ?_; repeat (first | go_big_quiet_step (fail) | quiet_step (fail))
         refine wpQuiet_nil ?_; intro u; have hzu := u.below.size; try simp at hzu))
    all_goals go_ret
    all_goals refine ⟨by first | rfl | exact ret_int e.symm, ?_⟩
    all_goals (repeat (first | exact gr0 _ | refine gr1 ?_ _ | refine gr2 ?_ (Later.below _) | refine gr2 ?_ (by assumption) | refine gr3 ?_ | refine gr4 ?_ (by first | (simp; done) | (simp; omega) | omega) _))

set_option maxHeartbeats 2000000 in
theorem rround_ (n d : Int) (w : World) (_b1 : -2305843009213693952 ≤ n ∧ n ≤ 2305843009213693952) (_b2 : 1 ≤ d ∧ d ≤ 1099511627776) :
    Calls Try.prog 70 #[.int .i64 n, .int .i64 d] w fun e w' => e = .returned (.int .i64 (rndD n d)) ∧ Below w.heap.size w w' := by
  by_cases h1 : n < 0
  · have e : rndD n d = -(rndD (-n) d) := by unfold rndD; rw [if_pos h1, if_neg (by omega)]
    have t1 : decide (4611686018427387904 < n) = false := by simp; omega
    have t2 : decide (n < -4611686018427387904) = false := by simp; omega
    have t3 : decide (d < 1) = false := by simp; omega
    have t4 : decide (1152921504606846976 < d) = false := by simp; omega
    have t5 : decide (n < 0) = true := by simp; omega
    have k0 : wrap64 (-n) = -n := w64 (by omega) (by omega)
    have hb : 0 ≤ rndD (-n) d ∧ rndD (-n) d ≤ 4611686018427387904 := by
      have q := quo_bd (n := -n + d / 2) (d := d) (by omega) (by omega)
      unfold rndD; rw [if_neg (by omega)]; omega
    have k1 : wrap64 (-(rndD (-n) d)) = -(rndD (-n) d) := w64 (by omega) (by omega)
    go_enter Try.func70, Try.ntmps70
    go_wp2_with (first
      | (go_at_call 70; refine (rround_nn _ _ _ ⟨by omega, by omega⟩ _b2).mono ?_; rintro e W1 ⟨rfl, hb1⟩; obtain ⟨hc1, hf1, hz1⟩ := bcell hb1; try simp at hz1)
      | (refine wp_region_calm (by kernel_rfl) (by kernel_rfl) ?_; repeat (first | go_big_quiet_step ((first | (go_at_call 70; exact calm_call (rround_nn _ _ _ ⟨by omega, by omega⟩ _b2)))) | quiet_step ((first | (go_at_call 70; exact calm_call (rround_nn _ _ _ ⟨by omega, by omega⟩ _b2)))))
         refine wpQuiet_nil ?_; intro u; have hzu := u.below.size; try simp at hzu))
    all_goals go_ret
    all_goals refine ⟨by first | rfl | exact ret_int e.symm, ?_⟩
    all_goals (repeat (first | exact gr0 _ | refine gr1 ?_ _ | refine gr2 ?_ (Later.below _) | refine gr2 ?_ (by assumption) | refine gr3 ?_ | refine gr4 ?_ (by first | (simp; done) | (simp; omega) | omega) _))
  · skip
    exact rround_nn n d w ⟨by omega, _b1.2⟩ _b2

theorem rdiv_ (n d : Int) (w : World) (hn : 0 ≤ n ∧ n ≤ 65535) (hd : 1 ≤ d ∧ d ≤ 65535) :
    Calls Try.prog 45 #[.int .i64 n, .int .i64 d] w fun e w' => e = .returned (.int .i64 (n / d)) ∧ Below w.heap.size w w' := by
  have k1 : ∀ c : Int, c = d → Int.tdiv n c = n / d := by rintro c rfl; exact Int.tdiv_eq_ediv_of_nonneg (by omega)
  have k0 : 0 ≤ n / d := Int.ediv_nonneg (by omega) (by omega)
  have k2 : n / d ≤ n := Int.ediv_le_self _ (by omega)
  have k3 : ∀ c : Int, c = d → n / c = n / d := by rintro c rfl; rfl
  generalize n / d = q at *
  have d0 : d ≠ 0 := by omega
  go_enter Try.func45, Try.ntmps45
  go_wp2
  all_goals go_ret
  all_goals exact ⟨rfl, gr0 _⟩
theorem rround5_ (n d : Int) (w : World) (hn : -32767 ≤ n ∧ n ≤ 32767) (hd : 1 ≤ d ∧ d ≤ 255) :
    Calls Try.prog 47 #[.int .i64 n, .int .i64 d] w fun e w' => e = .returned (.int .i64 (roundI n d)) ∧ Below w.heap.size w w' := by
  go_enter Try.func47, Try.ntmps47
  go_wp2_with (go_at_call 70; refine (rround_ n d w ⟨by omega, by omega⟩ ⟨by omega, by omega⟩).mono ?_; rintro e w1 ⟨rfl, hb1⟩)
  go_ret
  exact ⟨rfl, hb1⟩
end Go.Proofs.Ytbdnnkokkgdhnaa
