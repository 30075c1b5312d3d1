/- How great an MCU is, and how many there are. -/
import Derived.Test.YtgegmlhpdpdnfaaProg
import Derived.Test.YtgegmlhpdpdnfaaCalm
namespace Go.Proofs.Ytgegmlhpdpdnfaa
open Go.RowKit

def ceilI (n d : Int) : Int := if n < 0 ∨ 1099511627776 < n ∨ d < 1 ∨ 1099511627776 < d then 0 else (n + d - 1) / d
theorem ceil_0 {n d : Int} (h : n < 0 ∨ 1099511627776 < n ∨ d < 1 ∨ 1099511627776 < d) : ceilI n d = 0 := by unfold ceilI; rw [if_pos h]
theorem ceil_q {n d : Int} (h : ¬ (n < 0 ∨ 1099511627776 < n ∨ d < 1 ∨ 1099511627776 < d)) : ceilI n d = (n + d - 1) / d := by unfold ceilI; rw [if_neg h]
theorem ceil_r {n d : Int} (h : ¬ (n < 0 ∨ 1099511627776 < n ∨ d < 1 ∨ 1099511627776 < d)) : ceilI n d = if n / d * d < n then n / d + 1 else n / d := by
  rw [ceil_q h]
  have h1 : 0 < d := by omega
  have h2 := Int.mul_ediv_add_emod n d
  have h3 := Int.emod_nonneg n (by omega : d ≠ 0)
  have h4 := Int.emod_lt_of_pos n h1
  rw [Int.mul_comm] at h2
  generalize n / d = q at *
  generalize n % d = r at *
  split
  · have e : n + d - 1 = d * (q + 1) + (r - 1) := by rw [Int.mul_add, Int.mul_comm d q]; omega
    rw [e, Int.add_comm, Int.add_mul_ediv_left _ _ (by omega : d ≠ 0), Int.ediv_eq_zero_of_lt (by omega) (by omega)]; omega
  · have e : n + d - 1 = d * q + (r + d - 1) := by rw [Int.mul_comm d q]; omega
    rw [e, Int.add_comm, Int.add_mul_ediv_left _ _ (by omega : d ≠ 0), Int.ediv_eq_zero_of_lt (by omega) (by omega)]; omega
theorem heap_alloc_at {w : World} {o : Obj} {g : Nat} (h : g = w.heap.size) : (w.alloc o).heap[g]? = some o := by rw [h]; exact heap_alloc_new w o
theorem w64 {n : Int} (h1 : -9223372036854775808 ≤ n) (h2 : n ≤ 9223372036854775807) : wrap64 n = n := by unfold wrap64; omega
theorem ceil_lo (n d : Int) : 0 ≤ ceilI n d := by
  unfold ceilI; split
  · exact Int.le_refl _
  · exact Int.ediv_nonneg (by omega) (by omega)
theorem ceil_le {n d : Int} (h : 0 ≤ n) : ceilI n d ≤ n := by
  unfold ceilI; split
  · exact h
  · rename_i h1
    have hd : 0 < d := by omega
    rcases Int.lt_or_le n 1 with h2 | h2
    · have : n = 0 := by omega
      subst this
      rw [Int.ediv_eq_zero_of_lt (by omega) (by omega)]; exact Int.le_refl _
    · apply Int.ediv_le_of_le_mul hd
      have : n + d - 1 ≤ n * d := by
        have e : n * d = (n - 1) * (d - 1) + n + d - 1 := by rw [Int.sub_mul, Int.mul_sub, Int.mul_sub]; omega
        have := Int.mul_nonneg (by omega : 0 ≤ n - 1) (by omega : 0 ≤ d - 1)
        omega
      exact this

set_option maxHeartbeats 2000000 in
theorem num_ceil (n d : Int) (w : World) :
    Calls Try.prog 33 #[.int .i64 n, .int .i64 d] w fun e w' => e = .returned (.int .i64 (ceilI n d)) ∧ Below w.heap.size w w' := by
  by_cases h1 : n < 0
  · have e := ceil_0 (n := n) (d := d) (by omega)
    go_enter Try.func33, Try.ntmps33
    go_wp2_with (first
      | (refine wp_region_calm (by kernel_rfl) (by kernel_rfl) ?_; repeat (first | go_big_quiet_step (fail) | quiet_step (fail))
         refine wpQuiet_nil ?_; intro u; have hzu := u.below.size; try simp at hzu))
    go_ret
    exact ⟨by first | rfl | exact ret_int e.symm, gr0 _⟩
  · skip
    by_cases h2 : 1099511627776 < n
    · have e := ceil_0 (n := n) (d := d) (by omega)
      go_enter Try.func33, Try.ntmps33
      go_wp2_with (first
        | (refine wp_region_calm (by kernel_rfl) (by kernel_rfl) ?_; repeat (first | go_big_quiet_step (fail) | quiet_step (fail))
           refine wpQuiet_nil ?_; intro u; have hzu := u.below.size; try simp at hzu))
      go_ret
      exact ⟨by first | rfl | exact ret_int e.symm, gr0 _⟩
    · skip
      by_cases h3 : d < 1
      · have e := ceil_0 (n := n) (d := d) (by omega)
        go_enter Try.func33, Try.ntmps33
        go_wp2_with (first
          | (refine wp_region_calm (by kernel_rfl) (by kernel_rfl) ?_; repeat (first | go_big_quiet_step (fail) | quiet_step (fail))
             refine wpQuiet_nil ?_; intro u; have hzu := u.below.size; try simp at hzu))
        go_ret
        exact ⟨by first | rfl | exact ret_int e.symm, gr0 _⟩
      · skip
        by_cases h4 : 1099511627776 < d
        · have e := ceil_0 (n := n) (d := d) (by omega)
          go_enter Try.func33, Try.ntmps33
          go_wp2_with (first
            | (refine wp_region_calm (by kernel_rfl) (by kernel_rfl) ?_; repeat (first | go_big_quiet_step (fail) | quiet_step (fail))
               refine wpQuiet_nil ?_; intro u; have hzu := u.below.size; try simp at hzu))
          go_ret
          exact ⟨by first | rfl | exact ret_int e.symm, gr0 _⟩
        · skip
          have e := ceil_q (n := n) (d := d) (by omega)
          have k0 : d ≠ 0 := by omega
          have k1 : wrap64 (n + d) = n + d := w64 (by omega) (by omega)
          have k2 : wrap64 (n + d - 1) = n + d - 1 := w64 (by omega) (by omega)
          have k3 : Int.tdiv (n + d - 1) d = (n + d - 1) / d := Int.tdiv_eq_ediv_of_nonneg (by omega)
          have k4 : wrap64 ((n + d - 1) / d) = (n + d - 1) / d := by have a := ceil_lo n d; have b := ceil_le (n := n) (d := d) (by omega); rw [e] at a b; exact w64 (by omega) (by omega)
          go_enter Try.func33, Try.ntmps33
          go_wp2_with (first
            | (refine wp_region_calm (by kernel_rfl) (by kernel_rfl) ?_; repeat (first | go_big_quiet_step (fail) | quiet_step (fail))
               refine wpQuiet_nil ?_; intro u; have hzu := u.below.size; try simp at hzu))
          go_ret
          exact ⟨by first | rfl | exact ret_int e.symm, gr0 _⟩

set_option maxHeartbeats 2000000 in
theorem ref01_ceil (n d : Int) (w : World) :
    Calls Try.prog 35 #[.int .i64 n, .int .i64 d] w fun e w' => e = .returned (.int .i64 (ceilI n d)) ∧ Below w.heap.size w w' := by
  by_cases h1 : n < 0
  · have e := ceil_0 (n := n) (d := d) (by omega)
    go_enter Try.func35, Try.ntmps35
    go_wp2_with (first
      | (refine wp_region_calm (by kernel_rfl) (by kernel_rfl) ?_; repeat (first | go_big_quiet_step (fail) | quiet_step (fail))
         refine wpQuiet_nil ?_; intro u; have hzu := u.below.size; try simp at hzu))
    go_ret
    exact ⟨by first | rfl | exact ret_int e.symm, gr0 _⟩
  · skip
    by_cases h2 : 1099511627776 < n
    · have e := ceil_0 (n := n) (d := d) (by omega)
      go_enter Try.func35, Try.ntmps35
      go_wp2_with (first
        | (refine wp_region_calm (by kernel_rfl) (by kernel_rfl) ?_; repeat (first | go_big_quiet_step (fail) | quiet_step (fail))
           refine wpQuiet_nil ?_; intro u; have hzu := u.below.size; try simp at hzu))
      go_ret
      exact ⟨by first | rfl | exact ret_int e.symm, gr0 _⟩
    · skip
      by_cases h3 : d < 1
      · have e := ceil_0 (n := n) (d := d) (by omega)
        go_enter Try.func35, Try.ntmps35
        go_wp2_with (first
          | (refine wp_region_calm (by kernel_rfl) (by kernel_rfl) ?_; repeat (first | go_big_quiet_step (fail) | quiet_step (fail))
             refine wpQuiet_nil ?_; intro u; have hzu := u.below.size; try simp at hzu))
        go_ret
        exact ⟨by first | rfl | exact ret_int e.symm, gr0 _⟩
      · skip
        by_cases h4 : 1099511627776 < d
        · have e := ceil_0 (n := n) (d := d) (by omega)
          go_enter Try.func35, Try.ntmps35
          go_wp2_with (first
            | (refine wp_region_calm (by kernel_rfl) (by kernel_rfl) ?_; repeat (first | go_big_quiet_step (fail) | quiet_step (fail))
               refine wpQuiet_nil ?_; intro u; have hzu := u.below.size; try simp at hzu))
          go_ret
          exact ⟨by first | rfl | exact ret_int e.symm, gr0 _⟩
        · skip
          have e := ceil_r (n := n) (d := d) (by omega)
          have k0 : d ≠ 0 := by omega
          have k3 : Int.tdiv n d = n / d := Int.tdiv_eq_ediv_of_nonneg (by omega)
          have q0 : 0 ≤ n / d := Int.ediv_nonneg (by omega) (by omega)
          have q1 : n / d ≤ n := Int.ediv_le_self _ (by omega)
          have q2 : n / d * d ≤ n := Int.ediv_mul_le _ (by omega)
          have q3 : 0 ≤ n / d * d := Int.mul_nonneg q0 (by omega)
          have k1 : wrap64 (n / d) = n / d := w64 (by omega) (by omega)
          have k2 : wrap64 (n / d * d) = n / d * d := w64 (by omega) (by omega)
          have k4 : wrap64 (n / d + 1) = n / d + 1 := w64 (by omega) (by omega)
          by_cases h5 : n / d * d < n
          · rw [if_pos h5] at e
            go_enter Try.func35, Try.ntmps35
            go_wp2_with (first
              | (refine wp_region_calm (by kernel_rfl) (by kernel_rfl) ?_; repeat (first | go_big_quiet_step (fail) | quiet_step (fail))
                 refine wpQuiet_nil ?_; intro u; have hzu := u.below.size; try simp at hzu))
            go_ret
            exact ⟨by first | rfl | exact ret_int e.symm, gr0 _⟩
          · rw [if_neg h5] at e
            go_enter Try.func35, Try.ntmps35
            go_wp2_with (first
              | (refine wp_region_calm (by kernel_rfl) (by kernel_rfl) ?_; repeat (first | go_big_quiet_step (fail) | quiet_step (fail))
                 refine wpQuiet_nil ?_; intro u; have hzu := u.below.size; try simp at hzu))
            go_ret
            exact ⟨by first | rfl | exact ret_int e.symm, gr0 _⟩

theorem sides_1 (w : World) :
    Calls Try.prog 21 #[.int .i64 1] w fun e w' => ∃ g, e = .returned (.slice (some ⟨g, 0, none⟩) 1 1) ∧ Below w.heap.size w w' ∧ w.heap.size ≤ g ∧ w'.heap[g]? = some (.cells #[Value.int .i64 1, Value.int .i64 1] 47 (0, 0)) := by
  go_enter Try.func21, Try.ntmps21
  go_wp2_with (first
    | (refine wp_region_calm (by kernel_rfl) (by kernel_rfl) ?_; repeat (first | go_big_quiet_step (fail) | quiet_step (fail))
       refine wpQuiet_nil ?_; intro u; have hzu := u.below.size; try simp at hzu))
  go_ret
  refine ⟨_, rfl, ?_, ?_, ?_⟩
  · repeat (first | exact gr0 _ | refine gr1 ?_ _ | refine gr2 ?_ (Later.below _) | refine gr2 ?_ (by assumption) | refine gr3 ?_ | refine gr4 ?_ (by first | (simp; done) | (simp; omega) | omega) _)
  · simp; try omega
  · exact heap_alloc_at (by simp)

theorem sides_2 (w : World) :
    Calls Try.prog 21 #[.int .i64 2] w fun e w' => ∃ g, e = .returned (.slice (some ⟨g, 0, none⟩) 3 3) ∧ Below w.heap.size w w' ∧ w.heap.size ≤ g ∧ w'.heap[g]? = some (.cells #[Value.int .i64 1, Value.int .i64 1, Value.int .i64 1, Value.int .i64 1, Value.int .i64 1, Value.int .i64 1] 47 (0, 0)) := by
  go_enter Try.func21, Try.ntmps21
  go_wp2_with (first
    | (refine wp_region_calm (by kernel_rfl) (by kernel_rfl) ?_; repeat (first | go_big_quiet_step (fail) | quiet_step (fail))
       refine wpQuiet_nil ?_; intro u; have hzu := u.below.size; try simp at hzu))
  go_ret
  refine ⟨_, rfl, ?_, ?_, ?_⟩
  · repeat (first | exact gr0 _ | refine gr1 ?_ _ | refine gr2 ?_ (Later.below _) | refine gr2 ?_ (by assumption) | refine gr3 ?_ | refine gr4 ?_ (by first | (simp; done) | (simp; omega) | omega) _)
  · simp; try omega
  · exact heap_alloc_at (by simp)

theorem sides_3 (w : World) :
    Calls Try.prog 21 #[.int .i64 3] w fun e w' => ∃ g, e = .returned (.slice (some ⟨g, 0, none⟩) 3 3) ∧ Below w.heap.size w w' ∧ w.heap.size ≤ g ∧ w'.heap[g]? = some (.cells #[Value.int .i64 2, Value.int .i64 1, Value.int .i64 1, Value.int .i64 1, Value.int .i64 1, Value.int .i64 1] 47 (0, 0)) := by
  go_enter Try.func21, Try.ntmps21
  go_wp2_with (first
    | (refine wp_region_calm (by kernel_rfl) (by kernel_rfl) ?_; repeat (first | go_big_quiet_step (fail) | quiet_step (fail))
       refine wpQuiet_nil ?_; intro u; have hzu := u.below.size; try simp at hzu))
  go_ret
  refine ⟨_, rfl, ?_, ?_, ?_⟩
  · repeat (first | exact gr0 _ | refine gr1 ?_ _ | refine gr2 ?_ (Later.below _) | refine gr2 ?_ (by assumption) | refine gr3 ?_ | refine gr4 ?_ (by first | (simp; done) | (simp; omega) | omega) _)
  · simp; try omega
  · exact heap_alloc_at (by simp)

theorem sides_4 (w : World) :
    Calls Try.prog 21 #[.int .i64 4] w fun e w' => ∃ g, e = .returned (.slice (some ⟨g, 0, none⟩) 3 3) ∧ Below w.heap.size w w' ∧ w.heap.size ≤ g ∧ w'.heap[g]? = some (.cells #[Value.int .i64 2, Value.int .i64 2, Value.int .i64 1, Value.int .i64 1, Value.int .i64 1, Value.int .i64 1] 47 (0, 0)) := by
  go_enter Try.func21, Try.ntmps21
  go_wp2_with (first
    | (refine wp_region_calm (by kernel_rfl) (by kernel_rfl) ?_; repeat (first | go_big_quiet_step (fail) | quiet_step (fail))
       refine wpQuiet_nil ?_; intro u; have hzu := u.below.size; try simp at hzu))
  go_ret
  refine ⟨_, rfl, ?_, ?_, ?_⟩
  · repeat (first | exact gr0 _ | refine gr1 ?_ _ | refine gr2 ?_ (Later.below _) | refine gr2 ?_ (by assumption) | refine gr3 ?_ | refine gr4 ?_ (by first | (simp; done) | (simp; omega) | omega) _)
  · simp; try omega
  · exact heap_alloc_at (by simp)

theorem sides_0 (m : Int) (w : World) (h1 : m ≠ 1) (h2 : m ≠ 2) (h3 : m ≠ 3) (h4 : m ≠ 4) :
    Calls Try.prog 21 #[.int .i64 m] w fun e w' => e = .returned (.slice none 0 0) ∧ Below w.heap.size w w' := by
  go_enter Try.func21, Try.ntmps21
  go_wp2_with (first
    | (refine wp_region_calm (by kernel_rfl) (by kernel_rfl) ?_; repeat (first | go_big_quiet_step (fail) | quiet_step (fail))
       refine wpQuiet_nil ?_; intro u; have hzu := u.below.size; try simp at hzu))
  go_ret
  refine ⟨rfl, ?_⟩
  repeat (first | exact gr0 _ | refine gr1 ?_ _ | refine gr2 ?_ (Later.below _) | refine gr2 ?_ (by assumption) | refine gr3 ?_ | refine gr4 ?_ (by first | (simp; done) | (simp; omega) | omega) _)

theorem rsides_1 (w : World) :
    Calls Try.prog 36 #[.int .i64 1] w fun e w' => ∃ g, e = .returned (.slice (some ⟨g, 0, none⟩) 1 1) ∧ Below w.heap.size w w' ∧ w.heap.size ≤ g ∧ w'.heap[g]? = some (.cells #[Value.int .i64 1, Value.int .i64 1] 47 (0, 0)) := by
  go_enter Try.func36, Try.ntmps36
  go_wp2_with (first
    | (refine wp_region_calm (by kernel_rfl) (by kernel_rfl) ?_; repeat (first | go_big_quiet_step (fail) | quiet_step (fail))
       refine wpQuiet_nil ?_; intro u; have hzu := u.below.size; try simp at hzu))
  go_ret
  refine ⟨_, rfl, ?_, ?_, ?_⟩
  · repeat (first | exact gr0 _ | refine gr1 ?_ _ | refine gr2 ?_ (Later.below _) | refine gr2 ?_ (by assumption) | refine gr3 ?_ | refine gr4 ?_ (by first | (simp; done) | (simp; omega) | omega) _)
  · simp; try omega
  · exact heap_alloc_at (by simp)

theorem rsides_2 (w : World) :
    Calls Try.prog 36 #[.int .i64 2] w fun e w' => ∃ g, e = .returned (.slice (some ⟨g, 0, none⟩) 3 3) ∧ Below w.heap.size w w' ∧ w.heap.size ≤ g ∧ w'.heap[g]? = some (.cells #[Value.int .i64 1, Value.int .i64 1, Value.int .i64 1, Value.int .i64 1, Value.int .i64 1, Value.int .i64 1] 47 (0, 0)) := by
  go_enter Try.func36, Try.ntmps36
  go_wp2_with (first
    | (refine wp_region_calm (by kernel_rfl) (by kernel_rfl) ?_; repeat (first | go_big_quiet_step (fail) | quiet_step (fail))
       refine wpQuiet_nil ?_; intro u; have hzu := u.below.size; try simp at hzu))
  go_ret
  refine ⟨_, rfl, ?_, ?_, ?_⟩
  · repeat (first | exact gr0 _ | refine gr1 ?_ _ | refine gr2 ?_ (Later.below _) | refine gr2 ?_ (by assumption) | refine gr3 ?_ | refine gr4 ?_ (by first | (simp; done) | (simp; omega) | omega) _)
  · simp; try omega
  · exact heap_alloc_at (by simp)

theorem rsides_3 (w : World) :
    Calls Try.prog 36 #[.int .i64 3] w fun e w' => ∃ g, e = .returned (.slice (some ⟨g, 0, none⟩) 3 3) ∧ Below w.heap.size w w' ∧ w.heap.size ≤ g ∧ w'.heap[g]? = some (.cells #[Value.int .i64 2, Value.int .i64 1, Value.int .i64 1, Value.int .i64 1, Value.int .i64 1, Value.int .i64 1] 47 (0, 0)) := by
  go_enter Try.func36, Try.ntmps36
  go_wp2_with (first
    | (refine wp_region_calm (by kernel_rfl) (by kernel_rfl) ?_; repeat (first | go_big_quiet_step (fail) | quiet_step (fail))
       refine wpQuiet_nil ?_; intro u; have hzu := u.below.size; try simp at hzu))
  go_ret
  refine ⟨_, rfl, ?_, ?_, ?_⟩
  · repeat (first | exact gr0 _ | refine gr1 ?_ _ | refine gr2 ?_ (Later.below _) | refine gr2 ?_ (by assumption) | refine gr3 ?_ | refine gr4 ?_ (by first | (simp; done) | (simp; omega) | omega) _)
  · simp; try omega
  · exact heap_alloc_at (by simp)

theorem rsides_4 (w : World) :
    Calls Try.prog 36 #[.int .i64 4] w fun e w' => ∃ g, e = .returned (.slice (some ⟨g, 0, none⟩) 3 3) ∧ Below w.heap.size w w' ∧ w.heap.size ≤ g ∧ w'.heap[g]? = some (.cells #[Value.int .i64 2, Value.int .i64 2, Value.int .i64 1, Value.int .i64 1, Value.int .i64 1, Value.int .i64 1] 47 (0, 0)) := by
  go_enter Try.func36, Try.ntmps36
  go_wp2_with (first
    | (refine wp_region_calm (by kernel_rfl) (by kernel_rfl) ?_; repeat (first | go_big_quiet_step (fail) | quiet_step (fail))
       refine wpQuiet_nil ?_; intro u; have hzu := u.below.size; try simp at hzu))
  go_ret
  refine ⟨_, rfl, ?_, ?_, ?_⟩
  · repeat (first | exact gr0 _ | refine gr1 ?_ _ | refine gr2 ?_ (Later.below _) | refine gr2 ?_ (by assumption) | refine gr3 ?_ | refine gr4 ?_ (by first | (simp; done) | (simp; omega) | omega) _)
  · simp; try omega
  · exact heap_alloc_at (by simp)

theorem rsides_0 (m : Int) (w : World) (h1 : m ≠ 1) (h2 : m ≠ 2) (h3 : m ≠ 3) (h4 : m ≠ 4) :
    Calls Try.prog 36 #[.int .i64 m] w fun e w' => e = .returned (.slice none 0 0) ∧ Below w.heap.size w w' := by
  go_enter Try.func36, Try.ntmps36
  go_wp2_with (first
    | (refine wp_region_calm (by kernel_rfl) (by kernel_rfl) ?_; repeat (first | go_big_quiet_step (fail) | quiet_step (fail))
       refine wpQuiet_nil ?_; intro u; have hzu := u.below.size; try simp at hzu))
  go_ret
  refine ⟨rfl, ?_⟩
  repeat (first | exact gr0 _ | refine gr1 ?_ _ | refine gr2 ?_ (Later.below _) | refine gr2 ?_ (by assumption) | refine gr3 ?_ | refine gr4 ?_ (by first | (simp; done) | (simp; omega) | omega) _)

def sideW (m : Int) : Int := if m = 1 ∨ m = 2 then 8 else if m = 3 ∨ m = 4 then 16 else 0
def sideH (m : Int) : Int := if m = 1 ∨ m = 2 ∨ m = 3 then 8 else if m = 4 then 16 else 0
theorem side_0 {m : Int} (h1 : m ≠ 1) (h2 : m ≠ 2) (h3 : m ≠ 3) (h4 : m ≠ 4) : sideW m = 0 ∧ sideH m = 0 := by
  unfold sideW sideH
  exact ⟨by rw [if_neg (by omega), if_neg (by omega)], by rw [if_neg (by omega), if_neg (by omega)]⟩
theorem ret2_int {a b a' b' : Int} (h1 : a = a') (h2 : b = b') : Ending.returned (.tuple #[.int .i64 a, .int .i64 b]) = .returned (.tuple #[.int .i64 a', .int .i64 b']) := by rw [h1, h2]

theorem mode_cases (m : Int) : m = 1 ∨ m = 2 ∨ m = 3 ∨ m = 4 ∨ (m ≠ 1 ∧ m ≠ 2 ∧ m ≠ 3 ∧ m ≠ 4) := by omega

set_option maxRecDepth 100000 in
set_option maxHeartbeats 2000000 in
theorem Side_ (m : Int) (w : World) :
    Calls Try.prog 20 #[.int .i64 m] w fun e w' => e = .returned (.tuple #[.int .i64 (sideW m), .int .i64 (sideH m)]) ∧ Below w.heap.size w w' := by
  rcases mode_cases m with rfl | rfl | rfl | rfl | ⟨h1, h2, h3, h4⟩
  · go_enter Try.func20, Try.ntmps20
    go_wp2_with (first
      | (refine wp_region_calm (by kernel_rfl) (by kernel_rfl) ?_; repeat (first | go_big_quiet_step (fail) | quiet_step (fail))
         refine wpQuiet_nil ?_; intro u; have hzu := u.below.size; try simp at hzu)
      | (go_at_call 21; refine (sides_1 _).mono ?_; rintro e W2 ⟨g2, rfl, hb2, hg2, hh2⟩; obtain ⟨hc2, hf2, hz2, hl2⟩ := ncell hb2 hg2 hh2; try simp at hz2; try simp at hg2))
    refine wp_loop_rounds 2 ?_
    rw [rounds_succ]
    go_wp2_with (first
      | (refine wp_region_calm (by kernel_rfl) (by kernel_rfl) ?_; repeat (first | go_big_quiet_step (fail) | quiet_step (fail))
         refine wpQuiet_nil ?_; intro u; have hzu := u.below.size; try simp at hzu))
    go_ret2
    refine ⟨ret2_int rfl rfl, ?_⟩
    repeat (first | exact gr0 _ | refine gr1 ?_ _ | refine gr2 ?_ (Later.below _) | refine gr2 ?_ (by assumption) | refine gr3 ?_ | refine gr4 ?_ (by first | (simp; done) | (simp; omega) | omega) _)
  · go_enter Try.func20, Try.ntmps20
    go_wp2_with (first
      | (refine wp_region_calm (by kernel_rfl) (by kernel_rfl) ?_; repeat (first | go_big_quiet_step (fail) | quiet_step (fail))
         refine wpQuiet_nil ?_; intro u; have hzu := u.below.size; try simp at hzu)
      | (go_at_call 21; refine (sides_2 _).mono ?_; rintro e W2 ⟨g2, rfl, hb2, hg2, hh2⟩; obtain ⟨hc2, hf2, hz2, hl2⟩ := ncell hb2 hg2 hh2; try simp at hz2; try simp at hg2))
    refine wp_loop_rounds 2 ?_
    rw [rounds_succ]
    go_wp2_with (first
      | (refine wp_region_calm (by kernel_rfl) (by kernel_rfl) ?_; repeat (first | go_big_quiet_step (fail) | quiet_step (fail))
         refine wpQuiet_nil ?_; intro u; have hzu := u.below.size; try simp at hzu))
    go_ret2
    refine ⟨ret2_int rfl rfl, ?_⟩
    repeat (first | exact gr0 _ | refine gr1 ?_ _ | refine gr2 ?_ (Later.below _) | refine gr2 ?_ (by assumption) | refine gr3 ?_ | refine gr4 ?_ (by first | (simp; done) | (simp; omega) | omega) _)
  · go_enter Try.func20, Try.ntmps20
    go_wp2_with (first
      | (refine wp_region_calm (by kernel_rfl) (by kernel_rfl) ?_; repeat (first | go_big_quiet_step (fail) | quiet_step (fail))
         refine wpQuiet_nil ?_; intro u; have hzu := u.below.size; try simp at hzu)
      | (go_at_call 21; refine (sides_3 _).mono ?_; rintro e W2 ⟨g2, rfl, hb2, hg2, hh2⟩; obtain ⟨hc2, hf2, hz2, hl2⟩ := ncell hb2 hg2 hh2; try simp at hz2; try simp at hg2))
    refine wp_loop_rounds 2 ?_
    rw [rounds_succ]
    go_wp2_with (first
      | (refine wp_region_calm (by kernel_rfl) (by kernel_rfl) ?_; repeat (first | go_big_quiet_step (fail) | quiet_step (fail))
         refine wpQuiet_nil ?_; intro u; have hzu := u.below.size; try simp at hzu))
    go_ret2
    refine ⟨ret2_int rfl rfl, ?_⟩
    repeat (first | exact gr0 _ | refine gr1 ?_ _ | refine gr2 ?_ (Later.below _) | refine gr2 ?_ (by assumption) | refine gr3 ?_ | refine gr4 ?_ (by first | (simp; done) | (simp; omega) | omega) _)
  · go_enter Try.func20, Try.ntmps20
    go_wp2_with (first
      | (refine wp_region_calm (by kernel_rfl) (by kernel_rfl) ?_; repeat (first | go_big_quiet_step (fail) | quiet_step (fail))
         refine wpQuiet_nil ?_; intro u; have hzu := u.below.size; try simp at hzu)
      | (go_at_call 21; refine (sides_4 _).mono ?_; rintro e W2 ⟨g2, rfl, hb2, hg2, hh2⟩; obtain ⟨hc2, hf2, hz2, hl2⟩ := ncell hb2 hg2 hh2; try simp at hz2; try simp at hg2))
    refine wp_loop_rounds 2 ?_
    rw [rounds_succ]
    go_wp2_with (first
      | (refine wp_region_calm (by kernel_rfl) (by kernel_rfl) ?_; repeat (first | go_big_quiet_step (fail) | quiet_step (fail))
         refine wpQuiet_nil ?_; intro u; have hzu := u.below.size; try simp at hzu))
    go_ret2
    refine ⟨ret2_int rfl rfl, ?_⟩
    repeat (first | exact gr0 _ | refine gr1 ?_ _ | refine gr2 ?_ (Later.below _) | refine gr2 ?_ (by assumption) | refine gr3 ?_ | refine gr4 ?_ (by first | (simp; done) | (simp; omega) | omega) _)
  · obtain ⟨e1, e2⟩ := side_0 h1 h2 h3 h4
    go_enter Try.func20, Try.ntmps20
    go_wp2_with (first
      | (go_at_call 21; refine (sides_0 _ _ ‹_› ‹_› ‹_› ‹_›).mono ?_; rintro e W1 ⟨rfl, hb1⟩; obtain ⟨hc1, hf1, hz1⟩ := bcell hb1; try simp at hz1)
      | (refine wp_region_calm (by kernel_rfl) (by kernel_rfl) ?_; repeat (first | go_big_quiet_step ((first | (go_at_call 21; exact calm_call (sides_0 _ _ ‹_› ‹_› ‹_› ‹_›)))) | quiet_step ((first | (go_at_call 21; exact calm_call (sides_0 _ _ ‹_› ‹_› ‹_› ‹_›)))))
         refine wpQuiet_nil ?_; intro u; have hzu := u.below.size; try simp at hzu))
    refine wp_loop_rounds 2 ?_
    rw [rounds_succ]
    go_wp2
    go_ret2
    refine ⟨ret2_int e1.symm e2.symm, ?_⟩
    repeat (first | exact gr0 _ | refine gr1 ?_ _ | refine gr2 ?_ (Later.below _) | refine gr2 ?_ (by assumption) | refine gr3 ?_ | refine gr4 ?_ (by first | (simp; done) | (simp; omega) | omega) _)

set_option maxRecDepth 100000 in
set_option maxHeartbeats 2000000 in
theorem rSide_ (m : Int) (w : World) :
    Calls Try.prog 34 #[.int .i64 m] w fun e w' => e = .returned (.tuple #[.int .i64 (sideW m), .int .i64 (sideH m)]) ∧ Below w.heap.size w w' := by
  rcases mode_cases m with rfl | rfl | rfl | rfl | ⟨h1, h2, h3, h4⟩
  · go_enter Try.func34, Try.ntmps34
    go_wp2_with (first
      | (refine wp_region_calm (by kernel_rfl) (by kernel_rfl) ?_; repeat (first | go_big_quiet_step (fail) | quiet_step (fail))
         refine wpQuiet_nil ?_; intro u; have hzu := u.below.size; try simp at hzu)
      | (go_at_call 36; refine (rsides_1 _).mono ?_; rintro e W2 ⟨g2, rfl, hb2, hg2, hh2⟩; obtain ⟨hc2, hf2, hz2, hl2⟩ := ncell hb2 hg2 hh2; try simp at hz2; try simp at hg2))
    go_ret2
    refine ⟨ret2_int rfl rfl, ?_⟩
    repeat (first | exact gr0 _ | refine gr1 ?_ _ | refine gr2 ?_ (Later.below _) | refine gr2 ?_ (by assumption) | refine gr3 ?_ | refine gr4 ?_ (by first | (simp; done) | (simp; omega) | omega) _)
  · go_enter Try.func34, Try.ntmps34
    go_wp2_with (first
      | (refine wp_region_calm (by kernel_rfl) (by kernel_rfl) ?_; repeat (first | go_big_quiet_step (fail) | quiet_step (fail))
         refine wpQuiet_nil ?_; intro u; have hzu := u.below.size; try simp at hzu)
      | (go_at_call 36; refine (rsides_2 _).mono ?_; rintro e W2 ⟨g2, rfl, hb2, hg2, hh2⟩; obtain ⟨hc2, hf2, hz2, hl2⟩ := ncell hb2 hg2 hh2; try simp at hz2; try simp at hg2))
    go_ret2
    refine ⟨ret2_int rfl rfl, ?_⟩
    repeat (first | exact gr0 _ | refine gr1 ?_ _ | refine gr2 ?_ (Later.below _) | refine gr2 ?_ (by assumption) | refine gr3 ?_ | refine gr4 ?_ (by first | (simp; done) | (simp; omega) | omega) _)
  · go_enter Try.func34, Try.ntmps34
    go_wp2_with (first
      | (refine wp_region_calm (by kernel_rfl) (by kernel_rfl) ?_; repeat (first | go_big_quiet_step (fail) | quiet_step (fail))
         refine wpQuiet_nil ?_; intro u; have hzu := u.below.size; try simp at hzu)
      | (go_at_call 36; refine (rsides_3 _).mono ?_; rintro e W2 ⟨g2, rfl, hb2, hg2, hh2⟩; obtain ⟨hc2, hf2, hz2, hl2⟩ := ncell hb2 hg2 hh2; try simp at hz2; try simp at hg2))
    go_ret2
    refine ⟨ret2_int rfl rfl, ?_⟩
    repeat (first | exact gr0 _ | refine gr1 ?_ _ | refine gr2 ?_ (Later.below _) | refine gr2 ?_ (by assumption) | refine gr3 ?_ | refine gr4 ?_ (by first | (simp; done) | (simp; omega) | omega) _)
  · go_enter Try.func34, Try.ntmps34
    go_wp2_with (first
      | (refine wp_region_calm (by kernel_rfl) (by kernel_rfl) ?_; repeat (first | go_big_quiet_step (fail) | quiet_step (fail))
         refine wpQuiet_nil ?_; intro u; have hzu := u.below.size; try simp at hzu)
      | (go_at_call 36; refine (rsides_4 _).mono ?_; rintro e W2 ⟨g2, rfl, hb2, hg2, hh2⟩; obtain ⟨hc2, hf2, hz2, hl2⟩ := ncell hb2 hg2 hh2; try simp at hz2; try simp at hg2))
    go_ret2
    refine ⟨ret2_int rfl rfl, ?_⟩
    repeat (first | exact gr0 _ | refine gr1 ?_ _ | refine gr2 ?_ (Later.below _) | refine gr2 ?_ (by assumption) | refine gr3 ?_ | refine gr4 ?_ (by first | (simp; done) | (simp; omega) | omega) _)
  · obtain ⟨e1, e2⟩ := side_0 h1 h2 h3 h4
    go_enter Try.func34, Try.ntmps34
    go_wp2_with (first
      | (go_at_call 36; refine (rsides_0 _ _ ‹_› ‹_› ‹_› ‹_›).mono ?_; rintro e W1 ⟨rfl, hb1⟩; obtain ⟨hc1, hf1, hz1⟩ := bcell hb1; try simp at hz1)
      | (refine wp_region_calm (by kernel_rfl) (by kernel_rfl) ?_; repeat (first | go_big_quiet_step ((first | (go_at_call 36; exact calm_call (rsides_0 _ _ ‹_› ‹_› ‹_› ‹_›)))) | quiet_step ((first | (go_at_call 36; exact calm_call (rsides_0 _ _ ‹_› ‹_› ‹_› ‹_›)))))
         refine wpQuiet_nil ?_; intro u; have hzu := u.below.size; try simp at hzu))
    go_ret2
    refine ⟨ret2_int e1.symm e2.symm, ?_⟩
    repeat (first | exact gr0 _ | refine gr1 ?_ _ | refine gr2 ?_ (Later.below _) | refine gr2 ?_ (by assumption) | refine gr3 ?_ | refine gr4 ?_ (by first | (simp; done) | (simp; omega) | omega) _)

theorem side_ok (n : Int) (w : World) (h1 : 1 ≤ n) (h2 : n ≤ 65535) :
    Calls Try.prog 32 #[.int .i64 n] w fun e w' => e = .returned (.bool true) ∧ Below w.heap.size w w' := by
  go_enter Try.func32, Try.ntmps32
  go_wp2_with (first
    | (refine wp_region_calm (by kernel_rfl) (by kernel_rfl) ?_; repeat (first | go_big_quiet_step (fail) | quiet_step (fail))
       refine wpQuiet_nil ?_; intro u; have hzu := u.below.size; try simp at hzu))
  go_ret
  refine ⟨rfl, ?_⟩
  repeat (first | exact gr0 _ | refine gr1 ?_ _ | refine gr2 ?_ (Later.below _) | refine gr2 ?_ (by assumption) | refine gr3 ?_ | refine gr4 ?_ (by first | (simp; done) | (simp; omega) | omega) _)

theorem side_lo (n : Int) (w : World) (h1 : n < 1) :
    Calls Try.prog 32 #[.int .i64 n] w fun e w' => e = .returned (.bool false) ∧ Below w.heap.size w w' := by
  go_enter Try.func32, Try.ntmps32
  go_wp2_with (first
    | (refine wp_region_calm (by kernel_rfl) (by kernel_rfl) ?_; repeat (first | go_big_quiet_step (fail) | quiet_step (fail))
       refine wpQuiet_nil ?_; intro u; have hzu := u.below.size; try simp at hzu))
  go_ret
  refine ⟨rfl, ?_⟩
  repeat (first | exact gr0 _ | refine gr1 ?_ _ | refine gr2 ?_ (Later.below _) | refine gr2 ?_ (by assumption) | refine gr3 ?_ | refine gr4 ?_ (by first | (simp; done) | (simp; omega) | omega) _)

theorem side_hi (n : Int) (w : World) (h1 : 65535 < n) :
    Calls Try.prog 32 #[.int .i64 n] w fun e w' => e = .returned (.bool false) ∧ Below w.heap.size w w' := by
  have h2 : ¬ n < 1 := by omega
  have h3 : decide (n ≤ 65535) = false := by rw [decide_eq_false_iff_not]; omega
  go_enter Try.func32, Try.ntmps32
  go_wp2_with (first
    | (refine wp_region_calm (by kernel_rfl) (by kernel_rfl) ?_; repeat (first | go_big_quiet_step (fail) | quiet_step (fail))
       refine wpQuiet_nil ?_; intro u; have hzu := u.below.size; try simp at hzu))
  go_ret
  refine ⟨rfl, ?_⟩
  repeat (first | exact gr0 _ | refine gr1 ?_ _ | refine gr2 ?_ (Later.below _) | refine gr2 ?_ (by assumption) | refine gr3 ?_ | refine gr4 ?_ (by first | (simp; done) | (simp; omega) | omega) _)

def gridOk (x y m : Int) : Prop := sideW m ≠ 0 ∧ (1 ≤ x ∧ x ≤ 65535) ∧ 1 ≤ y ∧ y ≤ 65535
instance (x y m : Int) : Decidable (gridOk x y m) := inferInstanceAs (Decidable (_ ∧ _))
def gridA (x y m : Int) : Int := if gridOk x y m then ceilI x (sideW m) else 0
def gridB (x y m : Int) : Int := if gridOk x y m then ceilI y (sideH m) else 0
theorem grid_no {x y m : Int} (h : ¬ gridOk x y m) : gridA x y m = 0 ∧ gridB x y m = 0 := by
  unfold gridA gridB; rw [if_neg h, if_neg h]; exact ⟨rfl, rfl⟩
theorem grid_ok {x y m : Int} (h : gridOk x y m) : gridA x y m = ceilI x (sideW m) ∧ gridB x y m = ceilI y (sideH m) := by
  unfold gridA gridB; rw [if_pos h, if_pos h]; exact ⟨rfl, rfl⟩

set_option maxHeartbeats 2000000 in
theorem Grid_ (x y m q i c : Int) (w : World) :
    Calls Try.prog 11 #[.agg #[.int .i64 x, .int .i64 y, .int .i64 m, .int .i64 q, .int .i64 i, .int .i64 c]] w fun e w' => e = .returned (.tuple #[.int .i64 (gridA x y m), .int .i64 (gridB x y m)]) ∧ Below w.heap.size w w' := by
  by_cases h1 : sideW m = 0
  · obtain ⟨e1, e2⟩ := grid_no (x := x) (y := y) (m := m) (by unfold gridOk; omega)
    have b0 : (sideW m == 0) = true := by rw [beq_iff_eq]; exact h1
    go_enter Try.func11, Try.ntmps11
    go_wp2_with (first
      | (go_at_call 20; refine (Side_ _ _).mono ?_; rintro e W1 ⟨rfl, hb1⟩; obtain ⟨hc1, hf1, hz1⟩ := bcell hb1; try simp at hz1)
      | (go_at_call 32; refine (side_ok _ _ ‹_› ‹_›).mono ?_; rintro e W1 ⟨rfl, hb1⟩; obtain ⟨hc1, hf1, hz1⟩ := bcell hb1; try simp at hz1)
      | (go_at_call 32; refine (side_lo _ _ ‹_›).mono ?_; rintro e W1 ⟨rfl, hb1⟩; obtain ⟨hc1, hf1, hz1⟩ := bcell hb1; try simp at hz1)
      | (go_at_call 32; refine (side_hi _ _ ‹_›).mono ?_; rintro e W1 ⟨rfl, hb1⟩; obtain ⟨hc1, hf1, hz1⟩ := bcell hb1; try simp at hz1)
      | (go_at_call 33; refine (num_ceil _ _ _).mono ?_; rintro e W1 ⟨rfl, hb1⟩; obtain ⟨hc1, hf1, hz1⟩ := bcell hb1; try simp at hz1)
      | (refine wp_region_calm (by kernel_rfl) (by kernel_rfl) ?_; repeat (first | go_big_quiet_step ((first | (go_at_call 20; exact calm_call (Side_ _ _)) | (go_at_call 32; exact calm_call (side_ok _ _ ‹_› ‹_›)) | (go_at_call 32; exact calm_call (side_lo _ _ ‹_›)) | (go_at_call 32; exact calm_call (side_hi _ _ ‹_›)) | (go_at_call 33; exact calm_call (num_ceil _ _ _)))) | quiet_step ((first | (go_at_call 20; exact calm_call (Side_ _ _)) | (go_at_call 32; exact calm_call (side_ok _ _ ‹_› ‹_›)) | (go_at_call 32; exact calm_call (side_lo _ _ ‹_›)) | (go_at_call 32; exact calm_call (side_hi _ _ ‹_›)) | (go_at_call 33; exact calm_call (num_ceil _ _ _)))))
         refine wpQuiet_nil ?_; intro u; have hzu := u.below.size; try simp at hzu))
    go_ret2
    refine ⟨ret2_int e1.symm e2.symm, ?_⟩
    repeat (first | exact gr0 _ | refine gr1 ?_ _ | refine gr2 ?_ (Later.below _) | refine gr2 ?_ (by assumption) | refine gr3 ?_ | refine gr4 ?_ (by first | (simp; done) | (simp; omega) | omega) _)
  · skip
    by_cases h2 : x < 1
    · obtain ⟨e1, e2⟩ := grid_no (x := x) (y := y) (m := m) (by unfold gridOk; omega)
      have b0 : (sideW m == 0) = false := by rw [beq_eq_false_iff_ne]; exact h1
      have d0 : decide (x < 1) = true := by rw [decide_eq_true_eq]; omega
      go_enter Try.func11, Try.ntmps11
      go_wp2_with (first
        | (go_at_call 20; refine (Side_ _ _).mono ?_; rintro e W1 ⟨rfl, hb1⟩; obtain ⟨hc1, hf1, hz1⟩ := bcell hb1; try simp at hz1)
        | (go_at_call 32; refine (side_ok _ _ ‹_› ‹_›).mono ?_; rintro e W1 ⟨rfl, hb1⟩; obtain ⟨hc1, hf1, hz1⟩ := bcell hb1; try simp at hz1)
        | (go_at_call 32; refine (side_lo _ _ ‹_›).mono ?_; rintro e W1 ⟨rfl, hb1⟩; obtain ⟨hc1, hf1, hz1⟩ := bcell hb1; try simp at hz1)
        | (go_at_call 32; refine (side_hi _ _ ‹_›).mono ?_; rintro e W1 ⟨rfl, hb1⟩; obtain ⟨hc1, hf1, hz1⟩ := bcell hb1; try simp at hz1)
        | (go_at_call 33; refine (num_ceil _ _ _).mono ?_; rintro e W1 ⟨rfl, hb1⟩; obtain ⟨hc1, hf1, hz1⟩ := bcell hb1; try simp at hz1)
        | (refine wp_region_calm (by kernel_rfl) (by kernel_rfl) ?_; repeat (first | go_big_quiet_step ((first | (go_at_call 20; exact calm_call (Side_ _ _)) | (go_at_call 32; exact calm_call (side_ok _ _ ‹_› ‹_›)) | (go_at_call 32; exact calm_call (side_lo _ _ ‹_›)) | (go_at_call 32; exact calm_call (side_hi _ _ ‹_›)) | (go_at_call 33; exact calm_call (num_ceil _ _ _)))) | quiet_step ((first | (go_at_call 20; exact calm_call (Side_ _ _)) | (go_at_call 32; exact calm_call (side_ok _ _ ‹_› ‹_›)) | (go_at_call 32; exact calm_call (side_lo _ _ ‹_›)) | (go_at_call 32; exact calm_call (side_hi _ _ ‹_›)) | (go_at_call 33; exact calm_call (num_ceil _ _ _)))))
           refine wpQuiet_nil ?_; intro u; have hzu := u.below.size; try simp at hzu))
      go_ret2
      refine ⟨ret2_int e1.symm e2.symm, ?_⟩
      repeat (first | exact gr0 _ | refine gr1 ?_ _ | refine gr2 ?_ (Later.below _) | refine gr2 ?_ (by assumption) | refine gr3 ?_ | refine gr4 ?_ (by first | (simp; done) | (simp; omega) | omega) _)
    · skip
      by_cases h3 : 65535 < x
      · obtain ⟨e1, e2⟩ := grid_no (x := x) (y := y) (m := m) (by unfold gridOk; omega)
        have b0 : (sideW m == 0) = false := by rw [beq_eq_false_iff_ne]; exact h1
        have d0 : decide (x < 1) = false := by rw [decide_eq_false_iff_not]; omega
        have d1 : decide (65535 < x) = true := by rw [decide_eq_true_eq]; omega
        have l1 : 1 ≤ x := by omega
        go_enter Try.func11, Try.ntmps11
        go_wp2_with (first
          | (go_at_call 20; refine (Side_ _ _).mono ?_; rintro e W1 ⟨rfl, hb1⟩; obtain ⟨hc1, hf1, hz1⟩ := bcell hb1; try simp at hz1)
          | (go_at_call 32; refine (side_ok _ _ ‹_› ‹_›).mono ?_; rintro e W1 ⟨rfl, hb1⟩; obtain ⟨hc1, hf1, hz1⟩ := bcell hb1; try simp at hz1)
          | (go_at_call 32; refine (side_lo _ _ ‹_›).mono ?_; rintro e W1 ⟨rfl, hb1⟩; obtain ⟨hc1, hf1, hz1⟩ := bcell hb1; try simp at hz1)
          | (go_at_call 32; refine (side_hi _ _ ‹_›).mono ?_; rintro e W1 ⟨rfl, hb1⟩; obtain ⟨hc1, hf1, hz1⟩ := bcell hb1; try simp at hz1)
          | (go_at_call 33; refine (num_ceil _ _ _).mono ?_; rintro e W1 ⟨rfl, hb1⟩; obtain ⟨hc1, hf1, hz1⟩ := bcell hb1; try simp at hz1)
          | (refine wp_region_calm (by kernel_rfl) (by kernel_rfl) ?_; repeat (first | go_big_quiet_step ((first | (go_at_call 20; exact calm_call (Side_ _ _)) | (go_at_call 32; exact calm_call (side_ok _ _ ‹_› ‹_›)) | (go_at_call 32; exact calm_call (side_lo _ _ ‹_›)) | (go_at_call 32; exact calm_call (side_hi _ _ ‹_›)) | (go_at_call 33; exact calm_call (num_ceil _ _ _)))) | quiet_step ((first | (go_at_call 20; exact calm_call (Side_ _ _)) | (go_at_call 32; exact calm_call (side_ok _ _ ‹_› ‹_›)) | (go_at_call 32; exact calm_call (side_lo _ _ ‹_›)) | (go_at_call 32; exact calm_call (side_hi _ _ ‹_›)) | (go_at_call 33; exact calm_call (num_ceil _ _ _)))))
             refine wpQuiet_nil ?_; intro u; have hzu := u.below.size; try simp at hzu))
        go_ret2
        refine ⟨ret2_int e1.symm e2.symm, ?_⟩
        repeat (first | exact gr0 _ | refine gr1 ?_ _ | refine gr2 ?_ (Later.below _) | refine gr2 ?_ (by assumption) | refine gr3 ?_ | refine gr4 ?_ (by first | (simp; done) | (simp; omega) | omega) _)
      · skip
        by_cases h4 : y < 1
        · obtain ⟨e1, e2⟩ := grid_no (x := x) (y := y) (m := m) (by unfold gridOk; omega)
          have b0 : (sideW m == 0) = false := by rw [beq_eq_false_iff_ne]; exact h1
          have d0 : decide (x < 1) = false := by rw [decide_eq_false_iff_not]; omega
          have d1 : decide (65535 < x) = false := by rw [decide_eq_false_iff_not]; omega
          have d2 : decide (y < 1) = true := by rw [decide_eq_true_eq]; omega
          have l1 : 1 ≤ x := by omega
          have l2 : x ≤ 65535 := by omega
          go_enter Try.func11, Try.ntmps11
          go_wp2_with (first
            | (go_at_call 20; refine (Side_ _ _).mono ?_; rintro e W1 ⟨rfl, hb1⟩; obtain ⟨hc1, hf1, hz1⟩ := bcell hb1; try simp at hz1)
            | (go_at_call 32; refine (side_ok _ _ ‹_› ‹_›).mono ?_; rintro e W1 ⟨rfl, hb1⟩; obtain ⟨hc1, hf1, hz1⟩ := bcell hb1; try simp at hz1)
            | (go_at_call 32; refine (side_lo _ _ ‹_›).mono ?_; rintro e W1 ⟨rfl, hb1⟩; obtain ⟨hc1, hf1, hz1⟩ := bcell hb1; try simp at hz1)
            | (go_at_call 32; refine (side_hi _ _ ‹_›).mono ?_; rintro e W1 ⟨rfl, hb1⟩; obtain ⟨hc1, hf1, hz1⟩ := bcell hb1; try simp at hz1)
            | (go_at_call 33; refine (num_ceil _ _ _).mono ?_; rintro e W1 ⟨rfl, hb1⟩; obtain ⟨hc1, hf1, hz1⟩ := bcell hb1; try simp at hz1)
            | (refine wp_region_calm (by kernel_rfl) (by kernel_rfl) ?_; repeat (first | go_big_quiet_step ((first | (go_at_call 20; exact calm_call (Side_ _ _)) | (go_at_call 32; exact calm_call (side_ok _ _ ‹_› ‹_›)) | (go_at_call 32; exact calm_call (side_lo _ _ ‹_›)) | (go_at_call 32; exact calm_call (side_hi _ _ ‹_›)) | (go_at_call 33; exact calm_call (num_ceil _ _ _)))) | quiet_step ((first | (go_at_call 20; exact calm_call (Side_ _ _)) | (go_at_call 32; exact calm_call (side_ok _ _ ‹_› ‹_›)) | (go_at_call 32; exact calm_call (side_lo _ _ ‹_›)) | (go_at_call 32; exact calm_call (side_hi _ _ ‹_›)) | (go_at_call 33; exact calm_call (num_ceil _ _ _)))))
               refine wpQuiet_nil ?_; intro u; have hzu := u.below.size; try simp at hzu))
          go_ret2
          refine ⟨ret2_int e1.symm e2.symm, ?_⟩
          repeat (first | exact gr0 _ | refine gr1 ?_ _ | refine gr2 ?_ (Later.below _) | refine gr2 ?_ (by assumption) | refine gr3 ?_ | refine gr4 ?_ (by first | (simp; done) | (simp; omega) | omega) _)
        · skip
          by_cases h5 : 65535 < y
          · obtain ⟨e1, e2⟩ := grid_no (x := x) (y := y) (m := m) (by unfold gridOk; omega)
            have b0 : (sideW m == 0) = false := by rw [beq_eq_false_iff_ne]; exact h1
            have d0 : decide (x < 1) = false := by rw [decide_eq_false_iff_not]; omega
            have d1 : decide (65535 < x) = false := by rw [decide_eq_false_iff_not]; omega
            have d2 : decide (y < 1) = false := by rw [decide_eq_false_iff_not]; omega
            have d3 : decide (65535 < y) = true := by rw [decide_eq_true_eq]; omega
            have l1 : 1 ≤ x := by omega
            have l2 : x ≤ 65535 := by omega
            have l3 : 1 ≤ y := by omega
            go_enter Try.func11, Try.ntmps11
            go_wp2_with (first
              | (go_at_call 20; refine (Side_ _ _).mono ?_; rintro e W1 ⟨rfl, hb1⟩; obtain ⟨hc1, hf1, hz1⟩ := bcell hb1; try simp at hz1)
              | (go_at_call 32; refine (side_ok _ _ ‹_› ‹_›).mono ?_; rintro e W1 ⟨rfl, hb1⟩; obtain ⟨hc1, hf1, hz1⟩ := bcell hb1; try simp at hz1)
              | (go_at_call 32; refine (side_lo _ _ ‹_›).mono ?_; rintro e W1 ⟨rfl, hb1⟩; obtain ⟨hc1, hf1, hz1⟩ := bcell hb1; try simp at hz1)
              | (go_at_call 32; refine (side_hi _ _ ‹_›).mono ?_; rintro e W1 ⟨rfl, hb1⟩; obtain ⟨hc1, hf1, hz1⟩ := bcell hb1; try simp at hz1)
              | (go_at_call 33; refine (num_ceil _ _ _).mono ?_; rintro e W1 ⟨rfl, hb1⟩; obtain ⟨hc1, hf1, hz1⟩ := bcell hb1; try simp at hz1)
              | (refine wp_region_calm (by kernel_rfl) (by kernel_rfl) ?_; repeat (first | go_big_quiet_step ((first | (go_at_call 20; exact calm_call (Side_ _ _)) | (go_at_call 32; exact calm_call (side_ok _ _ ‹_› ‹_›)) | (go_at_call 32; exact calm_call (side_lo _ _ ‹_›)) | (go_at_call 32; exact calm_call (side_hi _ _ ‹_›)) | (go_at_call 33; exact calm_call (num_ceil _ _ _)))) | quiet_step ((first | (go_at_call 20; exact calm_call (Side_ _ _)) | (go_at_call 32; exact calm_call (side_ok _ _ ‹_› ‹_›)) | (go_at_call 32; exact calm_call (side_lo _ _ ‹_›)) | (go_at_call 32; exact calm_call (side_hi _ _ ‹_›)) | (go_at_call 33; exact calm_call (num_ceil _ _ _)))))
                 refine wpQuiet_nil ?_; intro u; have hzu := u.below.size; try simp at hzu))
            go_ret2
            refine ⟨ret2_int e1.symm e2.symm, ?_⟩
            repeat (first | exact gr0 _ | refine gr1 ?_ _ | refine gr2 ?_ (Later.below _) | refine gr2 ?_ (by assumption) | refine gr3 ?_ | refine gr4 ?_ (by first | (simp; done) | (simp; omega) | omega) _)
          · skip
            have b0 : (sideW m == 0) = false := by rw [beq_eq_false_iff_ne]; exact h1
            have d0 : decide (x < 1) = false := by rw [decide_eq_false_iff_not]; omega
            have d1 : decide (65535 < x) = false := by rw [decide_eq_false_iff_not]; omega
            have d2 : decide (y < 1) = false := by rw [decide_eq_false_iff_not]; omega
            have d3 : decide (65535 < y) = false := by rw [decide_eq_false_iff_not]; omega
            obtain ⟨e1, e2⟩ := grid_ok (x := x) (y := y) (m := m) (by unfold gridOk; omega)
            have l1 : 1 ≤ x := by omega
            have l2 : x ≤ 65535 := by omega
            have l3 : 1 ≤ y := by omega
            have l4 : y ≤ 65535 := by omega
            go_enter Try.func11, Try.ntmps11
            go_wp2_with (first
              | (go_at_call 20; refine (Side_ _ _).mono ?_; rintro e W1 ⟨rfl, hb1⟩; obtain ⟨hc1, hf1, hz1⟩ := bcell hb1; try simp at hz1)
              | (go_at_call 32; refine (side_ok _ _ ‹_› ‹_›).mono ?_; rintro e W1 ⟨rfl, hb1⟩; obtain ⟨hc1, hf1, hz1⟩ := bcell hb1; try simp at hz1)
              | (go_at_call 32; refine (side_lo _ _ ‹_›).mono ?_; rintro e W1 ⟨rfl, hb1⟩; obtain ⟨hc1, hf1, hz1⟩ := bcell hb1; try simp at hz1)
              | (go_at_call 32; refine (side_hi _ _ ‹_›).mono ?_; rintro e W1 ⟨rfl, hb1⟩; obtain ⟨hc1, hf1, hz1⟩ := bcell hb1; try simp at hz1)
              | (go_at_call 33; refine (num_ceil _ _ _).mono ?_; rintro e W1 ⟨rfl, hb1⟩; obtain ⟨hc1, hf1, hz1⟩ := bcell hb1; try simp at hz1)
              | (refine wp_region_calm (by kernel_rfl) (by kernel_rfl) ?_; repeat (first | go_big_quiet_step ((first | (go_at_call 20; exact calm_call (Side_ _ _)) | (go_at_call 32; exact calm_call (side_ok _ _ ‹_› ‹_›)) | (go_at_call 32; exact calm_call (side_lo _ _ ‹_›)) | (go_at_call 32; exact calm_call (side_hi _ _ ‹_›)) | (go_at_call 33; exact calm_call (num_ceil _ _ _)))) | quiet_step ((first | (go_at_call 20; exact calm_call (Side_ _ _)) | (go_at_call 32; exact calm_call (side_ok _ _ ‹_› ‹_›)) | (go_at_call 32; exact calm_call (side_lo _ _ ‹_›)) | (go_at_call 32; exact calm_call (side_hi _ _ ‹_›)) | (go_at_call 33; exact calm_call (num_ceil _ _ _)))))
                 refine wpQuiet_nil ?_; intro u; have hzu := u.below.size; try simp at hzu))
            go_ret2
            refine ⟨ret2_int e1.symm e2.symm, ?_⟩
            repeat (first | exact gr0 _ | refine gr1 ?_ _ | refine gr2 ?_ (Later.below _) | refine gr2 ?_ (by assumption) | refine gr3 ?_ | refine gr4 ?_ (by first | (simp; done) | (simp; omega) | omega) _)

set_option maxHeartbeats 2000000 in
theorem rGrid_ (x y m q i c : Int) (w : World) :
    Calls Try.prog 12 #[.agg #[.int .i64 x, .int .i64 y, .int .i64 m, .int .i64 q, .int .i64 i, .int .i64 c]] w fun e w' => e = .returned (.tuple #[.int .i64 (gridA x y m), .int .i64 (gridB x y m)]) ∧ Below w.heap.size w w' := by
  by_cases h1 : sideW m = 0
  · obtain ⟨e1, e2⟩ := grid_no (x := x) (y := y) (m := m) (by unfold gridOk; omega)
    have b0 : (sideW m == 0) = true := by rw [beq_iff_eq]; exact h1
    go_enter Try.func12, Try.ntmps12
    go_wp2_with (first
      | (go_at_call 34; refine (rSide_ _ _).mono ?_; rintro e W1 ⟨rfl, hb1⟩; obtain ⟨hc1, hf1, hz1⟩ := bcell hb1; try simp at hz1)
      | (go_at_call 35; refine (ref01_ceil _ _ _).mono ?_; rintro e W1 ⟨rfl, hb1⟩; obtain ⟨hc1, hf1, hz1⟩ := bcell hb1; try simp at hz1)
      | (refine wp_region_calm (by kernel_rfl) (by kernel_rfl) ?_; repeat (first | go_big_quiet_step ((first | (go_at_call 34; exact calm_call (rSide_ _ _)) | (go_at_call 35; exact calm_call (ref01_ceil _ _ _)))) | quiet_step ((first | (go_at_call 34; exact calm_call (rSide_ _ _)) | (go_at_call 35; exact calm_call (ref01_ceil _ _ _)))))
         refine wpQuiet_nil ?_; intro u; have hzu := u.below.size; try simp at hzu))
    go_ret2
    refine ⟨ret2_int e1.symm e2.symm, ?_⟩
    repeat (first | exact gr0 _ | refine gr1 ?_ _ | refine gr2 ?_ (Later.below _) | refine gr2 ?_ (by assumption) | refine gr3 ?_ | refine gr4 ?_ (by first | (simp; done) | (simp; omega) | omega) _)
  · skip
    by_cases h2 : x < 1
    · obtain ⟨e1, e2⟩ := grid_no (x := x) (y := y) (m := m) (by unfold gridOk; omega)
      have b0 : (sideW m == 0) = false := by rw [beq_eq_false_iff_ne]; exact h1
      have d0 : decide (x < 1) = true := by rw [decide_eq_true_eq]; omega
      go_enter Try.func12, Try.ntmps12
      go_wp2_with (first
        | (go_at_call 34; refine (rSide_ _ _).mono ?_; rintro e W1 ⟨rfl, hb1⟩; obtain ⟨hc1, hf1, hz1⟩ := bcell hb1; try simp at hz1)
        | (go_at_call 35; refine (ref01_ceil _ _ _).mono ?_; rintro e W1 ⟨rfl, hb1⟩; obtain ⟨hc1, hf1, hz1⟩ := bcell hb1; try simp at hz1)
        | (refine wp_region_calm (by kernel_rfl) (by kernel_rfl) ?_; repeat (first | go_big_quiet_step ((first | (go_at_call 34; exact calm_call (rSide_ _ _)) | (go_at_call 35; exact calm_call (ref01_ceil _ _ _)))) | quiet_step ((first | (go_at_call 34; exact calm_call (rSide_ _ _)) | (go_at_call 35; exact calm_call (ref01_ceil _ _ _)))))
           refine wpQuiet_nil ?_; intro u; have hzu := u.below.size; try simp at hzu))
      go_ret2
      refine ⟨ret2_int e1.symm e2.symm, ?_⟩
      repeat (first | exact gr0 _ | refine gr1 ?_ _ | refine gr2 ?_ (Later.below _) | refine gr2 ?_ (by assumption) | refine gr3 ?_ | refine gr4 ?_ (by first | (simp; done) | (simp; omega) | omega) _)
    · skip
      by_cases h3 : 65535 < x
      · obtain ⟨e1, e2⟩ := grid_no (x := x) (y := y) (m := m) (by unfold gridOk; omega)
        have b0 : (sideW m == 0) = false := by rw [beq_eq_false_iff_ne]; exact h1
        have d0 : decide (x < 1) = false := by rw [decide_eq_false_iff_not]; omega
        have d1 : decide (65535 < x) = true := by rw [decide_eq_true_eq]; omega
        have l1 : 1 ≤ x := by omega
        go_enter Try.func12, Try.ntmps12
        go_wp2_with (first
          | (go_at_call 34; refine (rSide_ _ _).mono ?_; rintro e W1 ⟨rfl, hb1⟩; obtain ⟨hc1, hf1, hz1⟩ := bcell hb1; try simp at hz1)
          | (go_at_call 35; refine (ref01_ceil _ _ _).mono ?_; rintro e W1 ⟨rfl, hb1⟩; obtain ⟨hc1, hf1, hz1⟩ := bcell hb1; try simp at hz1)
          | (refine wp_region_calm (by kernel_rfl) (by kernel_rfl) ?_; repeat (first | go_big_quiet_step ((first | (go_at_call 34; exact calm_call (rSide_ _ _)) | (go_at_call 35; exact calm_call (ref01_ceil _ _ _)))) | quiet_step ((first | (go_at_call 34; exact calm_call (rSide_ _ _)) | (go_at_call 35; exact calm_call (ref01_ceil _ _ _)))))
             refine wpQuiet_nil ?_; intro u; have hzu := u.below.size; try simp at hzu))
        go_ret2
        refine ⟨ret2_int e1.symm e2.symm, ?_⟩
        repeat (first | exact gr0 _ | refine gr1 ?_ _ | refine gr2 ?_ (Later.below _) | refine gr2 ?_ (by assumption) | refine gr3 ?_ | refine gr4 ?_ (by first | (simp; done) | (simp; omega) | omega) _)
      · skip
        by_cases h4 : y < 1
        · obtain ⟨e1, e2⟩ := grid_no (x := x) (y := y) (m := m) (by unfold gridOk; omega)
          have b0 : (sideW m == 0) = false := by rw [beq_eq_false_iff_ne]; exact h1
          have d0 : decide (x < 1) = false := by rw [decide_eq_false_iff_not]; omega
          have d1 : decide (65535 < x) = false := by rw [decide_eq_false_iff_not]; omega
          have d2 : decide (y < 1) = true := by rw [decide_eq_true_eq]; omega
          have l1 : 1 ≤ x := by omega
          have l2 : x ≤ 65535 := by omega
          go_enter Try.func12, Try.ntmps12
          go_wp2_with (first
            | (go_at_call 34; refine (rSide_ _ _).mono ?_; rintro e W1 ⟨rfl, hb1⟩; obtain ⟨hc1, hf1, hz1⟩ := bcell hb1; try simp at hz1)
            | (go_at_call 35; refine (ref01_ceil _ _ _).mono ?_; rintro e W1 ⟨rfl, hb1⟩; obtain ⟨hc1, hf1, hz1⟩ := bcell hb1; try simp at hz1)
            | (refine wp_region_calm (by kernel_rfl) (by kernel_rfl) ?_; repeat (first | go_big_quiet_step ((first | (go_at_call 34; exact calm_call (rSide_ _ _)) | (go_at_call 35; exact calm_call (ref01_ceil _ _ _)))) | quiet_step ((first | (go_at_call 34; exact calm_call (rSide_ _ _)) | (go_at_call 35; exact calm_call (ref01_ceil _ _ _)))))
               refine wpQuiet_nil ?_; intro u; have hzu := u.below.size; try simp at hzu))
          go_ret2
          refine ⟨ret2_int e1.symm e2.symm, ?_⟩
          repeat (first | exact gr0 _ | refine gr1 ?_ _ | refine gr2 ?_ (Later.below _) | refine gr2 ?_ (by assumption) | refine gr3 ?_ | refine gr4 ?_ (by first | (simp; done) | (simp; omega) | omega) _)
        · skip
          by_cases h5 : 65535 < y
          · obtain ⟨e1, e2⟩ := grid_no (x := x) (y := y) (m := m) (by unfold gridOk; omega)
            have b0 : (sideW m == 0) = false := by rw [beq_eq_false_iff_ne]; exact h1
            have d0 : decide (x < 1) = false := by rw [decide_eq_false_iff_not]; omega
            have d1 : decide (65535 < x) = false := by rw [decide_eq_false_iff_not]; omega
            have d2 : decide (y < 1) = false := by rw [decide_eq_false_iff_not]; omega
            have d3 : decide (65535 < y) = true := by rw [decide_eq_true_eq]; omega
            have l1 : 1 ≤ x := by omega
            have l2 : x ≤ 65535 := by omega
            have l3 : 1 ≤ y := by omega
            go_enter Try.func12, Try.ntmps12
            go_wp2_with (first
              | (go_at_call 34; refine (rSide_ _ _).mono ?_; rintro e W1 ⟨rfl, hb1⟩; obtain ⟨hc1, hf1, hz1⟩ := bcell hb1; try simp at hz1)
              | (go_at_call 35; refine (ref01_ceil _ _ _).mono ?_; rintro e W1 ⟨rfl, hb1⟩; obtain ⟨hc1, hf1, hz1⟩ := bcell hb1; try simp at hz1)
              | (refine wp_region_calm (by kernel_rfl) (by kernel_rfl) ?_; repeat (first | go_big_quiet_step ((first | (go_at_call 34; exact calm_call (rSide_ _ _)) | (go_at_call 35; exact calm_call (ref01_ceil _ _ _)))) | quiet_step ((first | (go_at_call 34; exact calm_call (rSide_ _ _)) | (go_at_call 35; exact calm_call (ref01_ceil _ _ _)))))
                 refine wpQuiet_nil ?_; intro u; have hzu := u.below.size; try simp at hzu))
            go_ret2
            refine ⟨ret2_int e1.symm e2.symm, ?_⟩
            repeat (first | exact gr0 _ | refine gr1 ?_ _ | refine gr2 ?_ (Later.below _) | refine gr2 ?_ (by assumption) | refine gr3 ?_ | refine gr4 ?_ (by first | (simp; done) | (simp; omega) | omega) _)
          · skip
            have b0 : (sideW m == 0) = false := by rw [beq_eq_false_iff_ne]; exact h1
            have d0 : decide (x < 1) = false := by rw [decide_eq_false_iff_not]; omega
            have d1 : decide (65535 < x) = false := by rw [decide_eq_false_iff_not]; omega
            have d2 : decide (y < 1) = false := by rw [decide_eq_false_iff_not]; omega
            have d3 : decide (65535 < y) = false := by rw [decide_eq_false_iff_not]; omega
            obtain ⟨e1, e2⟩ := grid_ok (x := x) (y := y) (m := m) (by unfold gridOk; omega)
            have l1 : 1 ≤ x := by omega
            have l2 : x ≤ 65535 := by omega
            have l3 : 1 ≤ y := by omega
            have l4 : y ≤ 65535 := by omega
            go_enter Try.func12, Try.ntmps12
            go_wp2_with (first
              | (go_at_call 34; refine (rSide_ _ _).mono ?_; rintro e W1 ⟨rfl, hb1⟩; obtain ⟨hc1, hf1, hz1⟩ := bcell hb1; try simp at hz1)
              | (go_at_call 35; refine (ref01_ceil _ _ _).mono ?_; rintro e W1 ⟨rfl, hb1⟩; obtain ⟨hc1, hf1, hz1⟩ := bcell hb1; try simp at hz1)
              | (refine wp_region_calm (by kernel_rfl) (by kernel_rfl) ?_; repeat (first | go_big_quiet_step ((first | (go_at_call 34; exact calm_call (rSide_ _ _)) | (go_at_call 35; exact calm_call (ref01_ceil _ _ _)))) | quiet_step ((first | (go_at_call 34; exact calm_call (rSide_ _ _)) | (go_at_call 35; exact calm_call (ref01_ceil _ _ _)))))
                 refine wpQuiet_nil ?_; intro u; have hzu := u.below.size; try simp at hzu))
            go_ret2
            refine ⟨ret2_int e1.symm e2.symm, ?_⟩
            repeat (first | exact gr0 _ | refine gr1 ?_ _ | refine gr2 ?_ (Later.below _) | refine gr2 ?_ (by assumption) | refine gr3 ?_ | refine gr4 ?_ (by first | (simp; done) | (simp; omega) | omega) _)

end Go.Proofs.Ytgegmlhpdpdnfaa
