/- Quotients of secrets. -/
import Derived.Test.YtbdnnkokkgdhnaaSec
namespace Go.Proofs.Ytbdnnkokkgdhnaa
open Go.RowKit

theorem shrS32 (a : Int) : secShr a 32 = a / 4294967296 := by
  unfold secShr
  rw [show 2 ^ min (shiftOf 32).toNat 64 = (4294967296 : Int) by decide]
/-- A product and a shift are a quotient. -/
theorem div_by {n d : Int} (hn : 0 ≤ n ∧ n ≤ 65535) (hd : 1 ≤ d ∧ d ≤ 65535) : n * (4294967296 / d + 1) / 4294967296 = n / d := by
  have k1 := Int.mul_ediv_add_emod 4294967296 d
  have k2 := Int.emod_nonneg 4294967296 (by omega : d ≠ 0)
  have k3 := Int.emod_lt_of_pos 4294967296 (by omega : 0 < d)
  have n1 := Int.mul_ediv_add_emod n d
  have n2 := Int.emod_nonneg n (by omega : d ≠ 0)
  have n3 := Int.emod_lt_of_pos n (by omega : 0 < d)
  generalize 4294967296 / d = a at *
  generalize 4294967296 % d = r at *
  generalize n / d = q at *
  generalize n % d = s at *
  have dn : (d - r) * n ≤ 65535 * 65535 := Int.mul_le_mul (by omega) hn.2 hn.1 (by omega)
  have dn0 : 0 ≤ (d - r) * n := Int.mul_nonneg (by omega) hn.1
  have sk : s * 4294967296 ≤ (d - 1) * 4294967296 := Int.mul_le_mul_of_nonneg_right (by omega) (by omega)
  have sk0 : 0 ≤ s * 4294967296 := Int.mul_nonneg n2 (by omega)
  -- what is left over, d times
  have e1 : d * (n * (a + 1) - q * 4294967296) = (d - r) * n + s * 4294967296 := by
    have a1 : d * (n * (a + 1)) = n * (d * a) + n * d := by
      rw [Int.mul_left_comm, Int.mul_add, Int.mul_one, Int.mul_add]
    have a2 : d * a = 4294967296 - r := by omega
    have a3 : d * (q * 4294967296) = (n - s) * 4294967296 := by rw [← Int.mul_assoc]; congr 1; omega
    rw [Int.mul_sub, a1, a2, a3, Int.mul_sub, Int.sub_mul, Int.sub_mul, Int.mul_comm n d, Int.mul_comm n r]
    omega
  have t0 : 0 ≤ n * (a + 1) - q * 4294967296 := by
    refine Decidable.byContradiction fun h => ?_
    have : d * (n * (a + 1) - q * 4294967296) ≤ d * (-1) := Int.mul_le_mul_of_nonneg_left (by omega) (by omega)
    omega
  have t1 : n * (a + 1) - q * 4294967296 < 4294967296 := by
    refine Decidable.byContradiction fun h => ?_
    have : d * 4294967296 ≤ d * (n * (a + 1) - q * 4294967296) := Int.mul_le_mul_of_nonneg_left (by omega) (by omega)
    omega
  omega
def roundI (n d : Int) : Int := if n < 0 then -((-n + d / 2) / d) else (n + d / 2) / d
theorem wrap_in {n : Int} (h1 : -9223372036854775808 ≤ n) (h2 : n ≤ 9223372036854775807) : wrap64 n = n := by unfold wrap64; omega
theorem kdiv {d : Int} (hd : 1 ≤ d ∧ d ≤ 65535) : ∃ a : Int, a = 4294967296 / d ∧ (0 ≤ a ∧ a ≤ 4294967296) ∧ (∀ c : Int, c = d → Int.tdiv 4294967296 c = a) ∧ (∀ c : Int, c = d → 4294967296 / c = a) := by
  have h0 : 0 ≤ 4294967296 / d := Int.ediv_nonneg (by omega) (by omega)
  have h1 : 4294967296 / d ≤ 4294967296 := Int.ediv_le_self _ (by omega)
  exact ⟨_, rfl, ⟨h0, h1⟩, by rintro c rfl; exact Int.tdiv_eq_ediv_of_nonneg (by omega), by rintro c rfl; rfl⟩
theorem half_d {d : Int} (hd : 1 ≤ d ∧ d ≤ 65535) : ∃ h : Int, h = d / 2 ∧ (0 ≤ h ∧ h ≤ 32767) ∧ (∀ c : Int, c = 2 → Int.tdiv d c = h) ∧ (∀ c : Int, c = 2 → d / c = h) :=
  ⟨d / 2, rfl, by omega, by rintro c rfl; rw [Int.tdiv_eq_ediv_of_nonneg (by omega)], by rintro c rfl; rfl⟩

set_option maxRecDepth 100000 in
set_option maxHeartbeats 2000000 in
theorem sdiv_ (n d : Int) (w : World) (hn : 0 ≤ n ∧ n ≤ 65535) (hd : 1 ≤ d ∧ d ≤ 65535) :
    Calls Try.prog 44 #[.agg #[.int .i64 n], .int .i64 d] w fun e w' => e = .returned (.agg #[.int .i64 (n / d)]) ∧ Below w.heap.size w w' := by
  obtain ⟨a, ha, ha1, ha2, ha3⟩ := kdiv hd
  have he := div_by hn hd
  rw [← ha] at he
  have d1 : decide (d < 1) = false := by simp; omega
  have d0 : d ≠ 0 := by omega
  have m0 : 0 ≤ n * (a + 1) := Int.mul_nonneg hn.1 (by omega)
  have m1 : n * (a + 1) ≤ 65535 * 4294967297 := Int.mul_le_mul hn.2 (by omega) (by omega) (by omega)
  have w1 : wrap64 (n * (a + 1)) = n * (a + 1) := wrap_in (by omega) (by omega)
  obtain ⟨m, hm⟩ : ∃ m, m = n * (a + 1) := ⟨_, rfl⟩
  rw [← hm] at w1 he
  have wm : ∀ c e : Int, c = n → e = a + 1 → wrap64 (c * e) = m := by rintro c e rfl rfl; exact hm ▸ w1
  have hs : secShr m 32 = n / d := (shrS32 m).trans he
  clear ha he m0 m1 w1 hm
  go_enter Try.func44, Try.ntmps44
  go_wp2_with fail
  refine wp_region_calm_tail 7 (by kernel_rfl) (by kernel_rfl) ?_
  simp only [List.take_succ_cons, List.take_zero, List.drop_succ_cons, List.drop_zero]
  repeat (first | go_big_quiet_step ((first | (go_at_call 19; exact calm_call (sec_of _ _)) | (go_at_call 64; exact calm_call (sec_mul _ _ _)) | (go_at_call 65; exact calm_call (sec_shr _ _ _)))) | quiet_step ((first | (go_at_call 19; exact calm_call (sec_of _ _)) | (go_at_call 64; exact calm_call (sec_mul _ _ _)) | (go_at_call 65; exact calm_call (sec_shr _ _ _)))))
  refine wpQuiet_nil ?_
  intro u
  have hzu := u.below.size
  try simp at hzu
  go_wp2
  refine bodyPost_ret (by simp [results, Try.results44, go_sem, *] <;> rfl) rfl ⟨rfl, by repeat (first | exact gr0 _ | refine gr1 ?_ _ | refine gr2 ?_ (Later.below _) | refine gr2 ?_ (by assumption) | refine gr3 ?_ | refine gr4 ?_ (by first | (simp; done) | (simp; omega) | omega) _)⟩

set_option maxRecDepth 100000 in
set_option maxHeartbeats 2000000 in
theorem sround_ (x d : Int) (w : World) (hx : -32767 ≤ x ∧ x ≤ 32767) (hd : 1 ≤ d ∧ d ≤ 255) :
    Calls Try.prog 46 #[.agg #[.int .i64 x], .int .i64 d] w fun e w' => e = .returned (.agg #[.int .i64 (roundI x d)]) ∧ Below w.heap.size w w' := by
  have hI : I64 x := ⟨by omega, by omega⟩
  obtain ⟨h, hh, hh1, hh2, hh3⟩ := half_d (d := d) (by omega)
  obtain ⟨m, hm⟩ : ∃ m, m = (if x < 0 then -x else x) + h := ⟨_, rfl⟩
  have hm1 : 0 ≤ m ∧ m ≤ 65535 := by rw [hm]; split <;> omega
  have e1 : wrap64 (secAbs x + h) = m := by
    rw [secAbs_eq hI, hm]
    split
    · rw [wrap_in (n := -x) (by omega) (by omega)]; exact wrap_in (by omega) (by omega)
    · exact wrap_in (by omega) (by omega)
  have q0 : 0 ≤ m / d ∧ m / d ≤ m := ⟨Int.ediv_nonneg hm1.1 (by omega), Int.ediv_le_self _ hm1.1⟩
  have e2 : secSelect (secLess x 0) (secNeg (m / d)) (m / d) = roundI x d := by
    rw [secLess_eq hI ⟨by omega, by omega⟩, secSelect_mask (secNeg_I64 _) ⟨by omega, by omega⟩]
    unfold roundI secNeg
    rw [← hh]
    by_cases hn : x < 0
    · rw [if_pos (by simpa using hn), if_pos hn, wrap_in (by omega) (by omega)]
      rw [if_pos hn] at hm
      rw [hm]
    · rw [if_neg (by simpa using hn), if_neg hn]
      rw [if_neg hn] at hm
      rw [hm]
  have hd5 : 1 ≤ d ∧ d ≤ 65535 := by omega
  clear hI hh hm q0
  go_enter Try.func46, Try.ntmps46
  go_wp2_with (first
    | (go_at_call 66; refine (sec_abs _ _).mono ?_; rintro e W1 ⟨rfl, hb1⟩; obtain ⟨hc1, hf1, hz1⟩ := bcell hb1; try simp at hz1)
    | (go_at_call 19; refine (sec_of _ _).mono ?_; rintro e W1 ⟨rfl, hb1⟩; obtain ⟨hc1, hf1, hz1⟩ := bcell hb1; try simp at hz1)
    | (go_at_call 67; refine (sec_add _ _ _).mono ?_; rintro e W1 ⟨rfl, hb1⟩; rw [e1]; obtain ⟨hc1, hf1, hz1⟩ := bcell hb1; try simp at hz1)
    | (go_at_call 44; refine (sdiv_ _ _ _ hm1 hd5).mono ?_; rintro e W1 ⟨rfl, hb1⟩; obtain ⟨hc1, hf1, hz1⟩ := bcell hb1; try simp at hz1))
  refine wp_region_calm_tail 7 (by kernel_rfl) (by kernel_rfl) ?_
  simp only [List.take_succ_cons, List.take_zero, List.drop_succ_cons, List.drop_zero]
  repeat (first | go_big_quiet_step ((first | (go_at_call 19; exact calm_call (sec_of _ _)) | (go_at_call 68; exact calm_call (sec_less _ _ _)) | (go_at_call 69; exact calm_call (sec_neg _ _)) | (go_at_call 55; exact calm_call (sec_select _ _ _ _)))) | quiet_step ((first | (go_at_call 19; exact calm_call (sec_of _ _)) | (go_at_call 68; exact calm_call (sec_less _ _ _)) | (go_at_call 69; exact calm_call (sec_neg _ _)) | (go_at_call 55; exact calm_call (sec_select _ _ _ _)))))
  refine wpQuiet_nil ?_
  intro u
  have hzu := u.below.size
  try simp at hzu
  go_wp2
  refine bodyPost_ret (by simp [results, Try.results46, go_sem, *, ↓IntWalk.iteOmega] <;> rfl) rfl ⟨rfl, by repeat (first | exact gr0 _ | refine gr1 ?_ _ | refine gr2 ?_ (Later.below _) | refine gr2 ?_ (by assumption) | refine gr3 ?_ | refine gr4 ?_ (by first | (simp; done) | (simp; omega) | omega) _)⟩

end Go.Proofs.Ytbdnnkokkgdhnaa
