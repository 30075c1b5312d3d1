/- The chapter's own Factor. -/
import Derived.Test.YtkaoajfdbjlioaaDoorDctB
namespace Go.Proofs.YtkaoajfdbjlioaaDoor
open Go.RowKit

set_option maxHeartbeats 2000000 in
theorem rfactor_0 (x : Int) (w : World) (h : 0 ≤ x ∧ x ≤ 7) :
    Calls Tryd.prog 21 #[.int .i64 0, .int .i64 x] w fun e w' => e = .returned (.int .i64 (facI 0 x)) ∧ Below w.heap.size w w' := by
  obtain ⟨n, rfl⟩ := Int.eq_ofNat_of_zero_le h.1
  have h8 : n < 8 := by omega
  go_enter Tryd.func21, Tryd.ntmps21
  go_wp2
  go_ret
  refine ⟨?_, ?_⟩
  · rcases (show n = 0 ∨ n = 1 ∨ n = 2 ∨ n = 3 ∨ n = 4 ∨ n = 5 ∨ n = 6 ∨ n = 7 by omega) with rfl | rfl | rfl | rfl | rfl | rfl | rfl | rfl <;> rfl
  · repeat (first | exact gr0 _ | refine gr1 ?_ _ | refine gr2 ?_ (Later.below _) | refine gr2 ?_ (by assumption) | refine gr3 ?_ | refine gr4 ?_ (by first | (simp; done) | (simp; omega) | omega) _)

set_option maxHeartbeats 2000000 in
theorem rfactor_1 (x : Int) (w : World) (h : 0 ≤ x ∧ x ≤ 7) :
    Calls Tryd.prog 21 #[.int .i64 1, .int .i64 x] w fun e w' => e = .returned (.int .i64 (facI 1 x)) ∧ Below w.heap.size w w' := by
  obtain ⟨n, rfl⟩ := Int.eq_ofNat_of_zero_le h.1
  have h8 : n < 8 := by omega
  go_enter Tryd.func21, Tryd.ntmps21
  go_wp2
  go_ret
  refine ⟨?_, ?_⟩
  · rcases (show n = 0 ∨ n = 1 ∨ n = 2 ∨ n = 3 ∨ n = 4 ∨ n = 5 ∨ n = 6 ∨ n = 7 by omega) with rfl | rfl | rfl | rfl | rfl | rfl | rfl | rfl <;> rfl
  · repeat (first | exact gr0 _ | refine gr1 ?_ _ | refine gr2 ?_ (Later.below _) | refine gr2 ?_ (by assumption) | refine gr3 ?_ | refine gr4 ?_ (by first | (simp; done) | (simp; omega) | omega) _)

set_option maxHeartbeats 2000000 in
theorem rfactor_2 (x : Int) (w : World) (h : 0 ≤ x ∧ x ≤ 7) :
    Calls Tryd.prog 21 #[.int .i64 2, .int .i64 x] w fun e w' => e = .returned (.int .i64 (facI 2 x)) ∧ Below w.heap.size w w' := by
  obtain ⟨n, rfl⟩ := Int.eq_ofNat_of_zero_le h.1
  have h8 : n < 8 := by omega
  go_enter Tryd.func21, Tryd.ntmps21
  go_wp2
  go_ret
  refine ⟨?_, ?_⟩
  · rcases (show n = 0 ∨ n = 1 ∨ n = 2 ∨ n = 3 ∨ n = 4 ∨ n = 5 ∨ n = 6 ∨ n = 7 by omega) with rfl | rfl | rfl | rfl | rfl | rfl | rfl | rfl <;> rfl
  · repeat (first | exact gr0 _ | refine gr1 ?_ _ | refine gr2 ?_ (Later.below _) | refine gr2 ?_ (by assumption) | refine gr3 ?_ | refine gr4 ?_ (by first | (simp; done) | (simp; omega) | omega) _)

set_option maxHeartbeats 2000000 in
theorem rfactor_3 (x : Int) (w : World) (h : 0 ≤ x ∧ x ≤ 7) :
    Calls Tryd.prog 21 #[.int .i64 3, .int .i64 x] w fun e w' => e = .returned (.int .i64 (facI 3 x)) ∧ Below w.heap.size w w' := by
  obtain ⟨n, rfl⟩ := Int.eq_ofNat_of_zero_le h.1
  have h8 : n < 8 := by omega
  go_enter Tryd.func21, Tryd.ntmps21
  go_wp2
  go_ret
  refine ⟨?_, ?_⟩
  · rcases (show n = 0 ∨ n = 1 ∨ n = 2 ∨ n = 3 ∨ n = 4 ∨ n = 5 ∨ n = 6 ∨ n = 7 by omega) with rfl | rfl | rfl | rfl | rfl | rfl | rfl | rfl <;> rfl
  · repeat (first | exact gr0 _ | refine gr1 ?_ _ | refine gr2 ?_ (Later.below _) | refine gr2 ?_ (by assumption) | refine gr3 ?_ | refine gr4 ?_ (by first | (simp; done) | (simp; omega) | omega) _)

set_option maxHeartbeats 2000000 in
theorem rfactor_4 (x : Int) (w : World) (h : 0 ≤ x ∧ x ≤ 7) :
    Calls Tryd.prog 21 #[.int .i64 4, .int .i64 x] w fun e w' => e = .returned (.int .i64 (facI 4 x)) ∧ Below w.heap.size w w' := by
  obtain ⟨n, rfl⟩ := Int.eq_ofNat_of_zero_le h.1
  have h8 : n < 8 := by omega
  go_enter Tryd.func21, Tryd.ntmps21
  go_wp2
  go_ret
  refine ⟨?_, ?_⟩
  · rcases (show n = 0 ∨ n = 1 ∨ n = 2 ∨ n = 3 ∨ n = 4 ∨ n = 5 ∨ n = 6 ∨ n = 7 by omega) with rfl | rfl | rfl | rfl | rfl | rfl | rfl | rfl <;> rfl
  · repeat (first | exact gr0 _ | refine gr1 ?_ _ | refine gr2 ?_ (Later.below _) | refine gr2 ?_ (by assumption) | refine gr3 ?_ | refine gr4 ?_ (by first | (simp; done) | (simp; omega) | omega) _)

set_option maxHeartbeats 2000000 in
theorem rfactor_5 (x : Int) (w : World) (h : 0 ≤ x ∧ x ≤ 7) :
    Calls Tryd.prog 21 #[.int .i64 5, .int .i64 x] w fun e w' => e = .returned (.int .i64 (facI 5 x)) ∧ Below w.heap.size w w' := by
  obtain ⟨n, rfl⟩ := Int.eq_ofNat_of_zero_le h.1
  have h8 : n < 8 := by omega
  go_enter Tryd.func21, Tryd.ntmps21
  go_wp2
  go_ret
  refine ⟨?_, ?_⟩
  · rcases (show n = 0 ∨ n = 1 ∨ n = 2 ∨ n = 3 ∨ n = 4 ∨ n = 5 ∨ n = 6 ∨ n = 7 by omega) with rfl | rfl | rfl | rfl | rfl | rfl | rfl | rfl <;> rfl
  · repeat (first | exact gr0 _ | refine gr1 ?_ _ | refine gr2 ?_ (Later.below _) | refine gr2 ?_ (by assumption) | refine gr3 ?_ | refine gr4 ?_ (by first | (simp; done) | (simp; omega) | omega) _)

set_option maxHeartbeats 2000000 in
theorem rfactor_6 (x : Int) (w : World) (h : 0 ≤ x ∧ x ≤ 7) :
    Calls Tryd.prog 21 #[.int .i64 6, .int .i64 x] w fun e w' => e = .returned (.int .i64 (facI 6 x)) ∧ Below w.heap.size w w' := by
  obtain ⟨n, rfl⟩ := Int.eq_ofNat_of_zero_le h.1
  have h8 : n < 8 := by omega
  go_enter Tryd.func21, Tryd.ntmps21
  go_wp2
  go_ret
  refine ⟨?_, ?_⟩
  · rcases (show n = 0 ∨ n = 1 ∨ n = 2 ∨ n = 3 ∨ n = 4 ∨ n = 5 ∨ n = 6 ∨ n = 7 by omega) with rfl | rfl | rfl | rfl | rfl | rfl | rfl | rfl <;> rfl
  · repeat (first | exact gr0 _ | refine gr1 ?_ _ | refine gr2 ?_ (Later.below _) | refine gr2 ?_ (by assumption) | refine gr3 ?_ | refine gr4 ?_ (by first | (simp; done) | (simp; omega) | omega) _)

set_option maxHeartbeats 2000000 in
theorem rfactor_7 (x : Int) (w : World) (h : 0 ≤ x ∧ x ≤ 7) :
    Calls Tryd.prog 21 #[.int .i64 7, .int .i64 x] w fun e w' => e = .returned (.int .i64 (facI 7 x)) ∧ Below w.heap.size w w' := by
  obtain ⟨n, rfl⟩ := Int.eq_ofNat_of_zero_le h.1
  have h8 : n < 8 := by omega
  go_enter Tryd.func21, Tryd.ntmps21
  go_wp2
  go_ret
  refine ⟨?_, ?_⟩
  · rcases (show n = 0 ∨ n = 1 ∨ n = 2 ∨ n = 3 ∨ n = 4 ∨ n = 5 ∨ n = 6 ∨ n = 7 by omega) with rfl | rfl | rfl | rfl | rfl | rfl | rfl | rfl <;> rfl
  · repeat (first | exact gr0 _ | refine gr1 ?_ _ | refine gr2 ?_ (Later.below _) | refine gr2 ?_ (by assumption) | refine gr3 ?_ | refine gr4 ?_ (by first | (simp; done) | (simp; omega) | omega) _)

set_option maxHeartbeats 2000000 in
theorem rfactor_ (u x : Int) (w : World) :
    Calls Tryd.prog 21 #[.int .i64 u, .int .i64 x] w fun e w' => e = .returned (.int .i64 (facI u x)) ∧ Below w.heap.size w w' := by
  by_cases h0 : u < 0
  · have e : facI u x = 0 := facI_out (by omega)
    have d0 : decide (u < 0) = true := by simp; omega
    go_enter Tryd.func21, Tryd.ntmps21
    go_wp2_with (first
      | (refine wp_region_calm (by kernel_rfl) (by kernel_rfl) ?_; repeat (first | go_big_quiet_step (fail) | quiet_step (fail))
         refine wpQuiet_nil ?_; intro u; have hzu := u.below.size; try simp at hzu))
    all_goals go_ret
    all_goals refine ⟨by first | rfl | exact ret_int e.symm, ?_⟩
    all_goals (repeat (first | exact gr0 _ | refine gr1 ?_ _ | refine gr2 ?_ (Later.below _) | refine gr2 ?_ (by assumption) | refine gr3 ?_ | refine gr4 ?_ (by first | (simp; done) | (simp; omega) | omega) _))
  · skip
    by_cases h1 : 7 < u
    · have e : facI u x = 0 := facI_out (by omega)
      have d0 : decide (u < 0) = false := by simp; omega
      have d1 : decide (7 < u) = true := by simp; omega
      go_enter Tryd.func21, Tryd.ntmps21
      go_wp2_with (first
        | (refine wp_region_calm (by kernel_rfl) (by kernel_rfl) ?_; repeat (first | go_big_quiet_step (fail) | quiet_step (fail))
           refine wpQuiet_nil ?_; intro u; have hzu := u.below.size; try simp at hzu))
      all_goals go_ret
      all_goals refine ⟨by first | rfl | exact ret_int e.symm, ?_⟩
      all_goals (repeat (first | exact gr0 _ | refine gr1 ?_ _ | refine gr2 ?_ (Later.below _) | refine gr2 ?_ (by assumption) | refine gr3 ?_ | refine gr4 ?_ (by first | (simp; done) | (simp; omega) | omega) _))
    · skip
      by_cases h2 : x < 0
      · have e : facI u x = 0 := facI_out (by omega)
        have d0 : decide (u < 0) = false := by simp; omega
        have d1 : decide (7 < u) = false := by simp; omega
        have d2 : decide (x < 0) = true := by simp; omega
        go_enter Tryd.func21, Tryd.ntmps21
        go_wp2_with (first
          | (refine wp_region_calm (by kernel_rfl) (by kernel_rfl) ?_; repeat (first | go_big_quiet_step (fail) | quiet_step (fail))
             refine wpQuiet_nil ?_; intro u; have hzu := u.below.size; try simp at hzu))
        all_goals go_ret
        all_goals refine ⟨by first | rfl | exact ret_int e.symm, ?_⟩
        all_goals (repeat (first | exact gr0 _ | refine gr1 ?_ _ | refine gr2 ?_ (Later.below _) | refine gr2 ?_ (by assumption) | refine gr3 ?_ | refine gr4 ?_ (by first | (simp; done) | (simp; omega) | omega) _))
      · skip
        by_cases h3 : 7 < x
        · have e : facI u x = 0 := facI_out (by omega)
          have d0 : decide (u < 0) = false := by simp; omega
          have d1 : decide (7 < u) = false := by simp; omega
          have d2 : decide (x < 0) = false := by simp; omega
          have d3 : decide (7 < x) = true := by simp; omega
          go_enter Tryd.func21, Tryd.ntmps21
          go_wp2_with (first
            | (refine wp_region_calm (by kernel_rfl) (by kernel_rfl) ?_; repeat (first | go_big_quiet_step (fail) | quiet_step (fail))
               refine wpQuiet_nil ?_; intro u; have hzu := u.below.size; try simp at hzu))
          all_goals go_ret
          all_goals refine ⟨by first | rfl | exact ret_int e.symm, ?_⟩
          all_goals (repeat (first | exact gr0 _ | refine gr1 ?_ _ | refine gr2 ?_ (Later.below _) | refine gr2 ?_ (by assumption) | refine gr3 ?_ | refine gr4 ?_ (by first | (simp; done) | (simp; omega) | omega) _))
        · skip
          have hu : u = 0 ∨ u = 1 ∨ u = 2 ∨ u = 3 ∨ u = 4 ∨ u = 5 ∨ u = 6 ∨ u = 7 := by omega
          rcases hu with rfl | rfl | rfl | rfl | rfl | rfl | rfl | rfl
          · exact rfactor_0 x w ⟨by omega, by omega⟩
          · exact rfactor_1 x w ⟨by omega, by omega⟩
          · exact rfactor_2 x w ⟨by omega, by omega⟩
          · exact rfactor_3 x w ⟨by omega, by omega⟩
          · exact rfactor_4 x w ⟨by omega, by omega⟩
          · exact rfactor_5 x w ⟨by omega, by omega⟩
          · exact rfactor_6 x w ⟨by omega, by omega⟩
          · exact rfactor_7 x w ⟨by omega, by omega⟩

end Go.Proofs.YtkaoajfdbjlioaaDoor
