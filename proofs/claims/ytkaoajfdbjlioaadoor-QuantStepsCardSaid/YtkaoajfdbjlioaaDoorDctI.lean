/- Clip, Round, and the factors. -/
import Derived.Test.YtkaoajfdbjlioaaDoorProg
import Derived.Test.YtkaoajfdbjlioaaDoorCalm
import Derived.Test.YtkaoajfdbjlioaaDoorDctM
namespace Go.Proofs.YtkaoajfdbjlioaaDoor
open Go.RowKit

theorem w64 {n : Int} (h1 : -9223372036854775808 ≤ n) (h2 : n ≤ 9223372036854775807) : wrap64 n = n := by unfold wrap64; omega
/-- A quotient, rounded to the nearest. -/
def rndD (n d : Int) : Int := if n < 0 then -((-n + d / 2) / d) else (n + d / 2) / d
theorem rnd_D (n : Int) : rndD n 1099511627776 = rnd n := rfl
theorem rnd_q {n d : Int} (_ : 0 ≤ n) (hd : 1 ≤ d) : (n + d / 2) / d = if d ≤ 2 * (n - n / d * d) then n / d + 1 else n / d := by
  have h2 := Int.mul_ediv_add_emod n d
  have h3 := Int.emod_nonneg n (by omega : d ≠ 0)
  have h4 := Int.emod_lt_of_pos n (by omega : 0 < d)
  rw [Int.mul_comm] at h2
  have e : n - n / d * d = n % d := by omega
  rw [e]
  generalize n / d = q at *
  generalize n % d = r at *
  have e2 : n + d / 2 = d * q + (r + d / 2) := by rw [Int.mul_comm d q]; omega
  rw [e2, Int.add_comm, Int.add_mul_ediv_left _ _ (by omega : d ≠ 0)]
  split
  · have : (r + d / 2) / d = 1 := by
      rw [show r + d / 2 = (r + d / 2 - d) + d * 1 by omega, Int.add_mul_ediv_left _ _ (by omega : d ≠ 0), Int.ediv_eq_zero_of_lt (by omega) (by omega)]; rfl
    omega
  · rw [Int.ediv_eq_zero_of_lt (by omega) (by omega)]; omega
theorem quo_bd {n d : Int} (h0 : 0 ≤ n) (hd : 1 ≤ d) : (0 ≤ n / d ∧ n / d ≤ n) ∧ (0 ≤ n / d * d ∧ n / d * d ≤ n) := by
  have h2 := Int.mul_ediv_add_emod n d
  have h3 := Int.emod_nonneg n (by omega : d ≠ 0)
  rw [Int.mul_comm] at h2
  have h5 : 0 ≤ n / d := Int.ediv_nonneg h0 (by omega)
  have h6 : n / d ≤ n / d * d := by
    have : n / d * 1 ≤ n / d * d := Int.mul_le_mul_of_nonneg_left hd h5
    rw [Int.mul_one] at this
    exact this
  omega

theorem clip_ (n lo hi : Int) (w : World) :
    Calls Tryd.prog 42 #[.int .i64 n, .int .i64 lo, .int .i64 hi] w fun e w' => e = .returned (.int .i64 (clipI lo hi n)) ∧ Below w.heap.size w w' := by
  by_cases h1 : n < lo
  · have e : clipI lo hi n = lo := by unfold clipI; rw [if_pos h1]
    have d1 : decide (n < lo) = true := by simp; omega
    go_enter Tryd.func42, Tryd.ntmps42
    go_wp2_with (first
      | (refine wp_region_calm (by kernel_rfl) (by kernel_rfl) ?_; repeat (first | go_big_quiet_step (fail) | quiet_step (fail))
         refine wpQuiet_nil ?_; intro u; have hzu := u.below.size; try simp at hzu))
    all_goals go_ret
    all_goals refine ⟨by first | rfl | exact ret_int e.symm, ?_⟩
    all_goals (repeat (first | exact gr0 _ | refine gr1 ?_ _ | refine gr2 ?_ (Later.below _) | refine gr2 ?_ (by assumption) | refine gr3 ?_ | refine gr4 ?_ (by first | (simp; done) | (simp; omega) | omega) _))
  · skip
    by_cases h2 : hi < n
    · have e : clipI lo hi n = hi := by unfold clipI; rw [if_neg h1, if_pos h2]
      have d1 : decide (n < lo) = false := by simp; omega
      have d2 : decide (hi < n) = true := by simp; omega
      go_enter Tryd.func42, Tryd.ntmps42
      go_wp2_with (first
        | (refine wp_region_calm (by kernel_rfl) (by kernel_rfl) ?_; repeat (first | go_big_quiet_step (fail) | quiet_step (fail))
           refine wpQuiet_nil ?_; intro u; have hzu := u.below.size; try simp at hzu))
      all_goals go_ret
      all_goals refine ⟨by first | rfl | exact ret_int e.symm, ?_⟩
      all_goals (repeat (first | exact gr0 _ | refine gr1 ?_ _ | refine gr2 ?_ (Later.below _) | refine gr2 ?_ (by assumption) | refine gr3 ?_ | refine gr4 ?_ (by first | (simp; done) | (simp; omega) | omega) _))
    · skip
      have e : clipI lo hi n = n := by unfold clipI; rw [if_neg h1, if_neg h2]
      have d1 : decide (n < lo) = false := by simp; omega
      have d2 : decide (hi < n) = false := by simp; omega
      go_enter Tryd.func42, Tryd.ntmps42
      go_wp2_with (first
        | (refine wp_region_calm (by kernel_rfl) (by kernel_rfl) ?_; repeat (first | go_big_quiet_step (fail) | quiet_step (fail))
           refine wpQuiet_nil ?_; intro u; have hzu := u.below.size; try simp at hzu))
      all_goals go_ret
      all_goals refine ⟨by first | rfl | exact ret_int e.symm, ?_⟩
      all_goals (repeat (first | exact gr0 _ | refine gr1 ?_ _ | refine gr2 ?_ (Later.below _) | refine gr2 ?_ (by assumption) | refine gr3 ?_ | refine gr4 ?_ (by first | (simp; done) | (simp; omega) | omega) _))

theorem rclip_ (n lo hi : Int) (w : World) :
    Calls Tryd.prog 36 #[.int .i64 n, .int .i64 lo, .int .i64 hi] w fun e w' => e = .returned (.int .i64 (clipI lo hi n)) ∧ Below w.heap.size w w' := by
  by_cases h1 : n < lo
  · have e : clipI lo hi n = lo := by unfold clipI; rw [if_pos h1]
    have d1 : decide (n < lo) = true := by simp; omega
    go_enter Tryd.func36, Tryd.ntmps36
    go_wp2_with (first
      | (refine wp_region_calm (by kernel_rfl) (by kernel_rfl) ?_; repeat (first | go_big_quiet_step (fail) | quiet_step (fail))
         refine wpQuiet_nil ?_; intro u; have hzu := u.below.size; try simp at hzu))
    all_goals go_ret
    all_goals refine ⟨by first | rfl | exact ret_int e.symm, ?_⟩
    all_goals (repeat (first | exact gr0 _ | refine gr1 ?_ _ | refine gr2 ?_ (Later.below _) | refine gr2 ?_ (by assumption) | refine gr3 ?_ | refine gr4 ?_ (by first | (simp; done) | (simp; omega) | omega) _))
  · skip
    by_cases h2 : hi < n
    · have e : clipI lo hi n = hi := by unfold clipI; rw [if_neg h1, if_pos h2]
      have d1 : decide (n < lo) = false := by simp; omega
      have d2 : decide (hi < n) = true := by simp; omega
      go_enter Tryd.func36, Tryd.ntmps36
      go_wp2_with (first
        | (refine wp_region_calm (by kernel_rfl) (by kernel_rfl) ?_; repeat (first | go_big_quiet_step (fail) | quiet_step (fail))
           refine wpQuiet_nil ?_; intro u; have hzu := u.below.size; try simp at hzu))
      all_goals go_ret
      all_goals refine ⟨by first | rfl | exact ret_int e.symm, ?_⟩
      all_goals (repeat (first | exact gr0 _ | refine gr1 ?_ _ | refine gr2 ?_ (Later.below _) | refine gr2 ?_ (by assumption) | refine gr3 ?_ | refine gr4 ?_ (by first | (simp; done) | (simp; omega) | omega) _))
    · skip
      have e : clipI lo hi n = n := by unfold clipI; rw [if_neg h1, if_neg h2]
      have d1 : decide (n < lo) = false := by simp; omega
      have d2 : decide (hi < n) = false := by simp; omega
      go_enter Tryd.func36, Tryd.ntmps36
      go_wp2_with (first
        | (refine wp_region_calm (by kernel_rfl) (by kernel_rfl) ?_; repeat (first | go_big_quiet_step (fail) | quiet_step (fail))
           refine wpQuiet_nil ?_; intro u; have hzu := u.below.size; try simp at hzu))
      all_goals go_ret
      all_goals refine ⟨by first | rfl | exact ret_int e.symm, ?_⟩
      all_goals (repeat (first | exact gr0 _ | refine gr1 ?_ _ | refine gr2 ?_ (Later.below _) | refine gr2 ?_ (by assumption) | refine gr3 ?_ | refine gr4 ?_ (by first | (simp; done) | (simp; omega) | omega) _))

set_option maxHeartbeats 2000000 in
theorem round_ (n d : Int) (w : World) (_b1 : -2305843009213693952 ≤ n ∧ n ≤ 2305843009213693952) (_b2 : 1 ≤ d ∧ d ≤ 1099511627776) :
    Calls Tryd.prog 43 #[.int .i64 n, .int .i64 d] w fun e w' => e = .returned (.int .i64 (rndD n d)) ∧ Below w.heap.size w w' := by
  by_cases h1 : n < 0
  · have e : rndD n d = -((-n + d / 2) / d) := by unfold rndD; rw [if_pos h1]
    have t1 : decide (4611686018427387904 < n) = false := by simp; omega
    have t2 : decide (n < -4611686018427387904) = false := by simp; omega
    have t3 : decide (d < 1) = false := by simp; omega
    have t4 : decide (1152921504606846976 < d) = false := by simp; omega
    have t5 : decide (n < 0) = true := by simp; omega
    have k0 : Int.tdiv d 2 = d / 2 := Int.tdiv_eq_ediv_of_nonneg (by omega)
    have k1 : Int.tdiv (-n + d / 2) d = (-n + d / 2) / d := Int.tdiv_eq_ediv_of_nonneg (by omega)
    have q := quo_bd (n := -n + d / 2) (d := d) (by omega) (by omega)
    have d0 : d ≠ 0 := by omega
    have k2 : wrap64 ((-n + d / 2) / d) = (-n + d / 2) / d := w64 (by omega) (by omega)
    have k3 : wrap64 (-((-n + d / 2) / d)) = -((-n + d / 2) / d) := w64 (by omega) (by omega)
    go_enter Tryd.func43, Tryd.ntmps43
    go_wp2_with (first
      | (refine wp_region_calm (by kernel_rfl) (by kernel_rfl) ?_; repeat (first | go_big_quiet_step (fail) | quiet_step (fail))
         refine wpQuiet_nil ?_; intro u; have hzu := u.below.size; try simp at hzu))
    all_goals go_ret
    all_goals refine ⟨by first | rfl | exact ret_int e.symm, ?_⟩
    all_goals (repeat (first | exact gr0 _ | refine gr1 ?_ _ | refine gr2 ?_ (Later.below _) | refine gr2 ?_ (by assumption) | refine gr3 ?_ | refine gr4 ?_ (by first | (simp; done) | (simp; omega) | omega) _))
  · skip
    have e : rndD n d = (n + d / 2) / d := by unfold rndD; rw [if_neg h1]
    have t1 : decide (4611686018427387904 < n) = false := by simp; omega
    have t2 : decide (n < -4611686018427387904) = false := by simp; omega
    have t3 : decide (d < 1) = false := by simp; omega
    have t4 : decide (1152921504606846976 < d) = false := by simp; omega
    have t5 : decide (n < 0) = false := by simp; omega
    have k0 : Int.tdiv d 2 = d / 2 := Int.tdiv_eq_ediv_of_nonneg (by omega)
    have k1 : Int.tdiv (n + d / 2) d = (n + d / 2) / d := Int.tdiv_eq_ediv_of_nonneg (by omega)
    have q := quo_bd (n := n + d / 2) (d := d) (by omega) (by omega)
    have d0 : d ≠ 0 := by omega
    have k2 : wrap64 ((n + d / 2) / d) = (n + d / 2) / d := w64 (by omega) (by omega)
    go_enter Tryd.func43, Tryd.ntmps43
    go_wp2_with (first
      | (refine wp_region_calm (by kernel_rfl) (by kernel_rfl) ?_; repeat (first | go_big_quiet_step (fail) | quiet_step (fail))
         refine wpQuiet_nil ?_; intro u; have hzu := u.below.size; try simp at hzu))
    all_goals go_ret
    all_goals refine ⟨by first | rfl | exact ret_int e.symm, ?_⟩
    all_goals (repeat (first | exact gr0 _ | refine gr1 ?_ _ | refine gr2 ?_ (Later.below _) | refine gr2 ?_ (by assumption) | refine gr3 ?_ | refine gr4 ?_ (by first | (simp; done) | (simp; omega) | omega) _))

set_option maxHeartbeats 2000000 in
theorem rround_nn (n d : Int) (w : World) (_b1 : 0 ≤ n ∧ n ≤ 2305843009213693952) (_b2 : 1 ≤ d ∧ d ≤ 1099511627776) :
    Calls Tryd.prog 37 #[.int .i64 n, .int .i64 d] w fun e w' => e = .returned (.int .i64 (rndD n d)) ∧ Below w.heap.size w w' := by
  have h1 : ¬ n < 0 := by omega
  have q := quo_bd (n := n) (d := d) (by omega) (by omega)
  have t1 : decide (4611686018427387904 < n) = false := by simp; omega
  have t2 : decide (n < -4611686018427387904) = false := by simp; omega
  have t3 : decide (d < 1) = false := by simp; omega
  have t4 : decide (1152921504606846976 < d) = false := by simp; omega
  have t5 : decide (n < 0) = false := by simp; omega
  have d0 : d ≠ 0 := by omega
  have k1 : Int.tdiv n d = n / d := Int.tdiv_eq_ediv_of_nonneg (by omega)
  have k2 : wrap64 (n / d) = n / d := w64 (by omega) (by omega)
  have k3 : wrap64 (n / d * d) = n / d * d := w64 (by omega) (by omega)
  have k4 : wrap64 (n - n / d * d) = n - n / d * d := w64 (by omega) (by omega)
  have k5 : wrap64 (2 * (n - n / d * d)) = 2 * (n - n / d * d) := w64 (by omega) (by omega)
  have k6 : wrap64 (n / d + 1) = n / d + 1 := w64 (by omega) (by omega)
  by_cases h2 : d ≤ 2 * (n - n / d * d)
  · have e : rndD n d = n / d + 1 := by unfold rndD; rw [if_neg h1, rnd_q (by omega) (by omega), if_pos h2]
    have t6 : decide (d ≤ 2 * (n - n / d * d)) = true := by simp; omega
    go_enter Tryd.func37, Tryd.ntmps37
    go_wp2_with (first
      | (refine wp_region_calm (by kernel_rfl) (by kernel_rfl) ?_; repeat (first | go_big_quiet_step (fail) | quiet_step (fail))
         refine wpQuiet_nil ?_; intro u; have hzu := u.below.size; try simp at hzu))
    all_goals go_ret
    all_goals refine ⟨by first | rfl | exact ret_int e.symm, ?_⟩
    all_goals (repeat (first | exact gr0 _ | refine gr1 ?_ _ | refine gr2 ?_ (Later.below _) | refine gr2 ?_ (by assumption) | refine gr3 ?_ | refine gr4 ?_ (by first | (simp; done) | (simp; omega) | omega) _))
  · skip
    have e : rndD n d = n / d := by unfold rndD; rw [if_neg h1, rnd_q (by omega) (by omega), if_neg h2]
    have t6 : decide (d ≤ 2 * (n - n / d * d)) = false := by simp; omega
    go_enter Tryd.func37, Tryd.ntmps37
    go_wp2_with (first
      | (refine wp_region_calm (by kernel_rfl) (by kernel_rfl) ?_; repeat (first | go_big_quiet_step (fail) | quiet_step (fail))
         refine wpQuiet_nil ?_; intro u; have hzu := u.below.size; try simp at hzu))
    all_goals go_ret
    all_goals refine ⟨by first | rfl | exact ret_int e.symm, ?_⟩
    all_goals (repeat (first | exact gr0 _ | refine gr1 ?_ _ | refine gr2 ?_ (Later.below _) | refine gr2 ?_ (by assumption) | refine gr3 ?_ | refine gr4 ?_ (by first | (simp; done) | (simp; omega) | omega) _))

set_option maxHeartbeats 2000000 in
theorem rround_ (n d : Int) (w : World) (_b1 : -2305843009213693952 ≤ n ∧ n ≤ 2305843009213693952) (_b2 : 1 ≤ d ∧ d ≤ 1099511627776) :
    Calls Tryd.prog 37 #[.int .i64 n, .int .i64 d] w fun e w' => e = .returned (.int .i64 (rndD n d)) ∧ Below w.heap.size w w' := by
  by_cases h1 : n < 0
  · have e : rndD n d = -(rndD (-n) d) := by unfold rndD; rw [if_pos h1, if_neg (by omega)]
    have t1 : decide (4611686018427387904 < n) = false := by simp; omega
    have t2 : decide (n < -4611686018427387904) = false := by simp; omega
    have t3 : decide (d < 1) = false := by simp; omega
    have t4 : decide (1152921504606846976 < d) = false := by simp; omega
    have t5 : decide (n < 0) = true := by simp; omega
    have k0 : wrap64 (-n) = -n := w64 (by omega) (by omega)
    have hb : 0 ≤ rndD (-n) d ∧ rndD (-n) d ≤ 4611686018427387904 := by
      have q := quo_bd (n := -n + d / 2) (d := d) (by omega) (by omega)
      unfold rndD; rw [if_neg (by omega)]; omega
    have k1 : wrap64 (-(rndD (-n) d)) = -(rndD (-n) d) := w64 (by omega) (by omega)
    go_enter Tryd.func37, Tryd.ntmps37
    go_wp2_with (first
      | (go_at_call 37; refine (rround_nn _ _ _ ⟨by omega, by omega⟩ _b2).mono ?_; rintro e W1 ⟨rfl, hb1⟩; obtain ⟨hc1, hf1, hz1⟩ := bcell hb1; try simp at hz1)
      | (refine wp_region_calm (by kernel_rfl) (by kernel_rfl) ?_; repeat (first | go_big_quiet_step ((first | (go_at_call 37; exact calm_call (rround_nn _ _ _ ⟨by omega, by omega⟩ _b2)))) | quiet_step ((first | (go_at_call 37; exact calm_call (rround_nn _ _ _ ⟨by omega, by omega⟩ _b2)))))
         refine wpQuiet_nil ?_; intro u; have hzu := u.below.size; try simp at hzu))
    all_goals go_ret
    all_goals refine ⟨by first | rfl | exact ret_int e.symm, ?_⟩
    all_goals (repeat (first | exact gr0 _ | refine gr1 ?_ _ | refine gr2 ?_ (Later.below _) | refine gr2 ?_ (by assumption) | refine gr3 ?_ | refine gr4 ?_ (by first | (simp; done) | (simp; omega) | omega) _))
  · skip
    exact rround_nn n d w ⟨by omega, _b1.2⟩ _b2

/-- The table of factors lies in the first block. -/
def Facs (w : World) : Prop := 0 < w.heap.size ∧ ∀ i, i < 64 → w.cell? ⟨0, i, none⟩ = some (.int .i64 (facL.getD i 0))
theorem Facs.below {w w' : World} (h : Facs w) (hb : Below w.heap.size w w') : Facs w' := ⟨Nat.lt_of_lt_of_le h.1 hb.size, fun i hi => (hb.cell (p := ⟨0, i, none⟩) h.1).trans (h.2 i hi)⟩
theorem Facs.alloc {w : World} (h : Facs w) (o : Obj) : Facs (w.alloc o) := h.below (gr1 (gr0 _) o)
theorem facI_in {u x : Int} (h1 : 0 ≤ u ∧ u ≤ 7) (h2 : 0 ≤ x ∧ x ≤ 7) : facI u x = facN u.toNat x.toNat := by unfold facI; rw [if_neg (by omega)]
theorem facI_bd (u x : Int) : -514214 ≤ facI u x ∧ facI u x ≤ 514214 := by
  unfold facI; split
  · omega
  · exact fac_bd (by omega) (by omega)
theorem facI_out {u x : Int} (h : u < 0 ∨ 7 < u ∨ x < 0 ∨ 7 < x) : facI u x = 0 := by unfold facI; rw [if_pos h]

set_option maxHeartbeats 2000000 in
theorem factor_ (u x : Int) (w : World) (hL : Facs w) :
    Calls Tryd.prog 20 #[.int .i64 u, .int .i64 x] w fun e w' => e = .returned (.int .i64 (facI u x)) ∧ Below w.heap.size w w' := by
  by_cases h0 : u < 0
  · have e : facI u x = 0 := facI_out (by omega)
    have d0 : decide (u < 0) = true := by simp; omega
    clear hL
    go_enter Tryd.func20, Tryd.ntmps20
    go_wp2_with (first
      | (refine wp_region_calm (by kernel_rfl) (by kernel_rfl) ?_; repeat (first | go_big_quiet_step (fail) | quiet_step (fail))
         refine wpQuiet_nil ?_; intro u; have hzu := u.below.size; try simp at hzu))
    all_goals go_ret
    all_goals refine ⟨by first | rfl | exact ret_int e.symm, ?_⟩
    all_goals (repeat (first | exact gr0 _ | refine gr1 ?_ _ | refine gr2 ?_ (Later.below _) | refine gr2 ?_ (by assumption) | refine gr3 ?_ | refine gr4 ?_ (by first | (simp; done) | (simp; omega) | omega) _))
  · skip
    by_cases h1 : 8 ≤ u
    · have e : facI u x = 0 := facI_out (by omega)
      have d0 : decide (u < 0) = false := by simp; omega
      have d1 : decide (8 ≤ u) = true := by simp; omega
      clear hL
      go_enter Tryd.func20, Tryd.ntmps20
      go_wp2_with (first
        | (refine wp_region_calm (by kernel_rfl) (by kernel_rfl) ?_; repeat (first | go_big_quiet_step (fail) | quiet_step (fail))
           refine wpQuiet_nil ?_; intro u; have hzu := u.below.size; try simp at hzu))
      all_goals go_ret
      all_goals refine ⟨by first | rfl | exact ret_int e.symm, ?_⟩
      all_goals (repeat (first | exact gr0 _ | refine gr1 ?_ _ | refine gr2 ?_ (Later.below _) | refine gr2 ?_ (by assumption) | refine gr3 ?_ | refine gr4 ?_ (by first | (simp; done) | (simp; omega) | omega) _))
    · skip
      by_cases h2 : x < 0
      · have e : facI u x = 0 := facI_out (by omega)
        have d0 : decide (u < 0) = false := by simp; omega
        have d1 : decide (8 ≤ u) = false := by simp; omega
        have d2 : decide (x < 0) = true := by simp; omega
        clear hL
        go_enter Tryd.func20, Tryd.ntmps20
        go_wp2_with (first
          | (refine wp_region_calm (by kernel_rfl) (by kernel_rfl) ?_; repeat (first | go_big_quiet_step (fail) | quiet_step (fail))
             refine wpQuiet_nil ?_; intro u; have hzu := u.below.size; try simp at hzu))
        all_goals go_ret
        all_goals refine ⟨by first | rfl | exact ret_int e.symm, ?_⟩
        all_goals (repeat (first | exact gr0 _ | refine gr1 ?_ _ | refine gr2 ?_ (Later.below _) | refine gr2 ?_ (by assumption) | refine gr3 ?_ | refine gr4 ?_ (by first | (simp; done) | (simp; omega) | omega) _))
      · skip
        by_cases h3 : 8 ≤ x
        · have e : facI u x = 0 := facI_out (by omega)
          have d0 : decide (u < 0) = false := by simp; omega
          have d1 : decide (8 ≤ u) = false := by simp; omega
          have d2 : decide (x < 0) = false := by simp; omega
          have d3 : decide (8 ≤ x) = true := by simp; omega
          clear hL
          go_enter Tryd.func20, Tryd.ntmps20
          go_wp2_with (first
            | (refine wp_region_calm (by kernel_rfl) (by kernel_rfl) ?_; repeat (first | go_big_quiet_step (fail) | quiet_step (fail))
               refine wpQuiet_nil ?_; intro u; have hzu := u.below.size; try simp at hzu))
          all_goals go_ret
          all_goals refine ⟨by first | rfl | exact ret_int e.symm, ?_⟩
          all_goals (repeat (first | exact gr0 _ | refine gr1 ?_ _ | refine gr2 ?_ (Later.below _) | refine gr2 ?_ (by assumption) | refine gr3 ?_ | refine gr4 ?_ (by first | (simp; done) | (simp; omega) | omega) _))
        · skip
          have e := facI_in (u := u) (x := x) (by omega) (by omega)
          obtain ⟨h0, hc⟩ := hL
          obtain ⟨n, rfl⟩ := Int.eq_ofNat_of_zero_le (a := u) (by omega)
          obtain ⟨m, rfl⟩ := Int.eq_ofNat_of_zero_le (a := x) (by omega)
          have hcell := hc (n * 8 + m) (by omega)
          have h8 : n < 8 := by omega
          have h9 : m < 8 := by omega
          simp only [Int.toNat_natCast] at e
          rw [show facL.getD (n * 8 + m) 0 = facN n m from rfl] at hcell
          clear hc
          have d0 : decide ((n : Int) < 0) = false := by first | (simp; done) | (simp; omega)
          have d1 : decide (8 ≤ (n : Int)) = false := by first | (simp; done) | (simp; omega)
          have d2 : decide ((m : Int) < 0) = false := by first | (simp; done) | (simp; omega)
          have d3 : decide (8 ≤ (m : Int)) = false := by first | (simp; done) | (simp; omega)
          go_enter Tryd.func20, Tryd.ntmps20
          go_wp2_with (first
            | (refine wp_region_calm (by kernel_rfl) (by kernel_rfl) ?_; repeat (first | go_big_quiet_step (fail) | quiet_step (fail))
               refine wpQuiet_nil ?_; intro u; have hzu := u.below.size; try simp at hzu))
          all_goals go_ret
          all_goals refine ⟨by first | rfl | exact ret_int e.symm, ?_⟩
          all_goals (repeat (first | exact gr0 _ | refine gr1 ?_ _ | refine gr2 ?_ (Later.below _) | refine gr2 ?_ (by assumption) | refine gr3 ?_ | refine gr4 ?_ (by first | (simp; done) | (simp; omega) | omega) _))

set_option maxHeartbeats 2000000 in
theorem turned_ (u x : Int) (w : World) (hL : Facs w) :
    Calls Tryd.prog 40 #[.int .i64 u, .int .i64 x] w fun e w' => e = .returned (.int .i64 (facI x u)) ∧ Below w.heap.size w w' := by
  go_enter Tryd.func40, Tryd.ntmps40
  go_wp2_with (first
    | (go_at_call 20; refine (factor_ _ _ _ ‹_›).mono ?_; rintro e W1 ⟨rfl, hb1⟩; obtain ⟨hc1, hf1, hz1⟩ := bcell hb1; try simp at hz1)
    | (refine wp_region_calm (by kernel_rfl) (by kernel_rfl) ?_; repeat (first | go_big_quiet_step ((first | (go_at_call 20; exact calm_call (factor_ _ _ _ ‹_›)))) | quiet_step ((first | (go_at_call 20; exact calm_call (factor_ _ _ _ ‹_›)))))
       refine wpQuiet_nil ?_; intro u; have hzu := u.below.size; try simp at hzu))
  go_ret
  refine ⟨rfl, ?_⟩
  repeat (first | exact gr0 _ | refine gr1 ?_ _ | refine gr2 ?_ (Later.below _) | refine gr2 ?_ (by assumption) | refine gr3 ?_ | refine gr4 ?_ (by first | (simp; done) | (simp; omega) | omega) _)

end Go.Proofs.YtkaoajfdbjlioaaDoor
