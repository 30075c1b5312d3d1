/- Slots: reserve, and why public numbers may not be. -/
import Derived.Test.YtdpiikpodcanjaaSlotV
namespace Go.Proofs.Ytdpiikpodcanjaa
open Go.RowKit

set_option maxRecDepth 100000 in
set_option maxHeartbeats 2000000 in
theorem reserve_ (x y m q i c k f : Int) (w : World) (_bf : -9223372036854775808 ≤ f ∧ f ≤ 9223372036854775807) (_bk : -9223372036854775808 ≤ k ∧ k ≤ 9223372036854775807) :
    Calls Try.prog 37 #[.agg #[.int .i64 x, .int .i64 y, .int .i64 m, .int .i64 q, .int .i64 i, .int .i64 c], .int .i64 k, .int .i64 f] w fun e w' => e = .returned (.int .i64 (reserveI m k f)) ∧ Below w.heap.size w w' := by
  by_cases h1 : k < 0
  · have e : reserveI m k f = 0 := by unfold reserveI; rw [if_pos (by omega)]
    have dk : decide (k < 0) = true := by simp; omega
    go_enter Try.func37, Try.ntmps37
    go_wp2_with (first
      | (refine wp_region_calm (by kernel_rfl) (by kernel_rfl) ?_; repeat (first | go_big_quiet_step (fail) | quiet_step (fail))
         refine wpQuiet_nil ?_; intro u; have hzu := u.below.size; try simp at hzu)
      | (go_at_call 30; refine (parts_len _ _).mono ?_; rintro e W1 ⟨p1, c1, rfl, hb1⟩; obtain ⟨hc1, hf1, hz1⟩ := bcell hb1; try simp at hz1))
    all_goals go_ret
    all_goals refine ⟨by first | rfl | exact ret_int e.symm, ?_⟩
    all_goals (repeat (first | exact gr0 _ | refine gr1 ?_ _ | refine gr2 ?_ (Later.below _) | refine gr2 ?_ (by assumption) | refine gr3 ?_ | refine gr4 ?_ (by first | (simp; done) | (simp; omega) | omega) _))
  · skip
    by_cases h2 : f ≤ k
    · have e : reserveI m k f = 0 := by unfold reserveI; rw [if_pos (by omega)]
      have dk : decide (k < 0) = false := by simp; omega
      have df : decide (f ≤ k) = true := by simp; omega
      go_enter Try.func37, Try.ntmps37
      go_wp2_with (first
        | (refine wp_region_calm (by kernel_rfl) (by kernel_rfl) ?_; repeat (first | go_big_quiet_step (fail) | quiet_step (fail))
           refine wpQuiet_nil ?_; intro u; have hzu := u.below.size; try simp at hzu)
        | (go_at_call 30; refine (parts_len _ _).mono ?_; rintro e W1 ⟨p1, c1, rfl, hb1⟩; obtain ⟨hc1, hf1, hz1⟩ := bcell hb1; try simp at hz1))
      all_goals go_ret
      all_goals refine ⟨by first | rfl | exact ret_int e.symm, ?_⟩
      all_goals (repeat (first | exact gr0 _ | refine gr1 ?_ _ | refine gr2 ?_ (Later.below _) | refine gr2 ?_ (by assumption) | refine gr3 ?_ | refine gr4 ?_ (by first | (simp; done) | (simp; omega) | omega) _))
    · skip
      by_cases h3 : 8388608 < f
      · have e : reserveI m k f = 0 := by unfold reserveI; rw [if_pos (by omega)]
        have dk : decide (k < 0) = false := by simp; omega
        have df : decide (f ≤ k) = false := by simp; omega
        have db : decide (8388608 < f) = true := by simp; omega
        go_enter Try.func37, Try.ntmps37
        go_wp2_with (first
          | (refine wp_region_calm (by kernel_rfl) (by kernel_rfl) ?_; repeat (first | go_big_quiet_step (fail) | quiet_step (fail))
             refine wpQuiet_nil ?_; intro u; have hzu := u.below.size; try simp at hzu)
          | (go_at_call 30; refine (parts_len _ _).mono ?_; rintro e W1 ⟨p1, c1, rfl, hb1⟩; obtain ⟨hc1, hf1, hz1⟩ := bcell hb1; try simp at hz1))
        all_goals go_ret
        all_goals refine ⟨by first | rfl | exact ret_int e.symm, ?_⟩
        all_goals (repeat (first | exact gr0 _ | refine gr1 ?_ _ | refine gr2 ?_ (Later.below _) | refine gr2 ?_ (by assumption) | refine gr3 ?_ | refine gr4 ?_ (by first | (simp; done) | (simp; omega) | omega) _))
      · skip
        by_cases h4 : partsN m = 0
        · have e : reserveI m k f = 0 := by unfold reserveI; rw [if_pos (by omega)]
          have dk : decide (k < 0) = false := by simp; omega
          have df : decide (f ≤ k) = false := by simp; omega
          have db : decide (8388608 < f) = false := by simp; omega
          have dp : ((partsN m : Int) == 0) = true := by simp; omega
          go_enter Try.func37, Try.ntmps37
          go_wp2_with (first
            | (refine wp_region_calm (by kernel_rfl) (by kernel_rfl) ?_; repeat (first | go_big_quiet_step (fail) | quiet_step (fail))
               refine wpQuiet_nil ?_; intro u; have hzu := u.below.size; try simp at hzu)
            | (go_at_call 30; refine (parts_len _ _).mono ?_; rintro e W1 ⟨p1, c1, rfl, hb1⟩; obtain ⟨hc1, hf1, hz1⟩ := bcell hb1; try simp at hz1))
          all_goals go_ret
          all_goals refine ⟨by first | rfl | exact ret_int e.symm, ?_⟩
          all_goals (repeat (first | exact gr0 _ | refine gr1 ?_ _ | refine gr2 ?_ (Later.below _) | refine gr2 ?_ (by assumption) | refine gr3 ?_ | refine gr4 ?_ (by first | (simp; done) | (simp; omega) | omega) _))
        · skip
          have e : reserveI m k f = 24 * (f - k) := by unfold reserveI; rw [if_neg (by omega)]
          have k1 : wrap64 (f - k) = f - k := w64 (by omega) (by omega)
          have k2 : wrap64 (24 * (f - k)) = 24 * (f - k) := w64 (by omega) (by omega)
          have dk : decide (k < 0) = false := by simp; omega
          have df : decide (f ≤ k) = false := by simp; omega
          have db : decide (8388608 < f) = false := by simp; omega
          have dp : ((partsN m : Int) == 0) = false := by simp; omega
          go_enter Try.func37, Try.ntmps37
          go_wp2_with (first
            | (refine wp_region_calm (by kernel_rfl) (by kernel_rfl) ?_; repeat (first | go_big_quiet_step (fail) | quiet_step (fail))
               refine wpQuiet_nil ?_; intro u; have hzu := u.below.size; try simp at hzu)
            | (go_at_call 30; refine (parts_len _ _).mono ?_; rintro e W1 ⟨p1, c1, rfl, hb1⟩; obtain ⟨hc1, hf1, hz1⟩ := bcell hb1; try simp at hz1))
          all_goals go_ret
          all_goals refine ⟨by first | rfl | exact ret_int e.symm, ?_⟩
          all_goals (repeat (first | exact gr0 _ | refine gr1 ?_ _ | refine gr2 ?_ (Later.below _) | refine gr2 ?_ (by assumption) | refine gr3 ?_ | refine gr4 ?_ (by first | (simp; done) | (simp; omega) | omega) _))

set_option maxRecDepth 100000 in
set_option maxHeartbeats 2000000 in
theorem rreserve_ (x y m q i c k f : Int) (w : World) (_bf : -9223372036854775808 ≤ f ∧ f ≤ 9223372036854775807) (_bk : -9223372036854775808 ≤ k ∧ k ≤ 9223372036854775807) :
    Calls Try.prog 60 #[.agg #[.int .i64 x, .int .i64 y, .int .i64 m, .int .i64 q, .int .i64 i, .int .i64 c], .int .i64 k, .int .i64 f] w fun e w' => e = .returned (.int .i64 (reserveI m k f)) ∧ Below w.heap.size w w' := by
  by_cases h1 : k < 0
  · have e : reserveI m k f = 0 := by unfold reserveI; rw [if_pos (by omega)]
    have dk : decide (k < 0) = true := by simp; omega
    go_enter Try.func60, Try.ntmps60
    go_wp2_with (first
      | (refine wp_region_calm (by kernel_rfl) (by kernel_rfl) ?_; repeat (first | go_big_quiet_step (fail) | quiet_step (fail))
         refine wpQuiet_nil ?_; intro u; have hzu := u.below.size; try simp at hzu)
      | (go_at_call 59; refine (rparts_len _ _).mono ?_; rintro e W1 ⟨p1, c1, rfl, hb1⟩; obtain ⟨hc1, hf1, hz1⟩ := bcell hb1; try simp at hz1))
    all_goals go_ret
    all_goals refine ⟨by first | rfl | exact ret_int e.symm, ?_⟩
    all_goals (repeat (first | exact gr0 _ | refine gr1 ?_ _ | refine gr2 ?_ (Later.below _) | refine gr2 ?_ (by assumption) | refine gr3 ?_ | refine gr4 ?_ (by first | (simp; done) | (simp; omega) | omega) _))
  · skip
    by_cases h3 : 8388608 < f
    · have e : reserveI m k f = 0 := by unfold reserveI; rw [if_pos (by omega)]
      have dk : decide (k < 0) = false := by simp; omega
      have db : decide (8388608 < f) = true := by simp; omega
      go_enter Try.func60, Try.ntmps60
      go_wp2_with (first
        | (refine wp_region_calm (by kernel_rfl) (by kernel_rfl) ?_; repeat (first | go_big_quiet_step (fail) | quiet_step (fail))
           refine wpQuiet_nil ?_; intro u; have hzu := u.below.size; try simp at hzu)
        | (go_at_call 59; refine (rparts_len _ _).mono ?_; rintro e W1 ⟨p1, c1, rfl, hb1⟩; obtain ⟨hc1, hf1, hz1⟩ := bcell hb1; try simp at hz1))
      all_goals go_ret
      all_goals refine ⟨by first | rfl | exact ret_int e.symm, ?_⟩
      all_goals (repeat (first | exact gr0 _ | refine gr1 ?_ _ | refine gr2 ?_ (Later.below _) | refine gr2 ?_ (by assumption) | refine gr3 ?_ | refine gr4 ?_ (by first | (simp; done) | (simp; omega) | omega) _))
    · skip
      by_cases h4 : partsN m = 0
      · have e : reserveI m k f = 0 := by unfold reserveI; rw [if_pos (by omega)]
        have dk : decide (k < 0) = false := by simp; omega
        have db : decide (8388608 < f) = false := by simp; omega
        have dp : ((partsN m : Int) == 0) = true := by simp; omega
        go_enter Try.func60, Try.ntmps60
        go_wp2_with (first
          | (refine wp_region_calm (by kernel_rfl) (by kernel_rfl) ?_; repeat (first | go_big_quiet_step (fail) | quiet_step (fail))
             refine wpQuiet_nil ?_; intro u; have hzu := u.below.size; try simp at hzu)
          | (go_at_call 59; refine (rparts_len _ _).mono ?_; rintro e W1 ⟨p1, c1, rfl, hb1⟩; obtain ⟨hc1, hf1, hz1⟩ := bcell hb1; try simp at hz1))
        all_goals go_ret
        all_goals refine ⟨by first | rfl | exact ret_int e.symm, ?_⟩
        all_goals (repeat (first | exact gr0 _ | refine gr1 ?_ _ | refine gr2 ?_ (Later.below _) | refine gr2 ?_ (by assumption) | refine gr3 ?_ | refine gr4 ?_ (by first | (simp; done) | (simp; omega) | omega) _))
      · skip
        by_cases h2 : f ≤ k
        · have e : reserveI m k f = 0 := by unfold reserveI; rw [if_pos (by omega)]
          have dk : decide (k < 0) = false := by simp; omega
          have db : decide (8388608 < f) = false := by simp; omega
          have dp : ((partsN m : Int) == 0) = false := by simp; omega
          have df : decide (f ≤ k) = true := by simp; omega
          go_enter Try.func60, Try.ntmps60
          go_wp2_with (first
            | (refine wp_region_calm (by kernel_rfl) (by kernel_rfl) ?_; repeat (first | go_big_quiet_step (fail) | quiet_step (fail))
               refine wpQuiet_nil ?_; intro u; have hzu := u.below.size; try simp at hzu)
            | (go_at_call 59; refine (rparts_len _ _).mono ?_; rintro e W1 ⟨p1, c1, rfl, hb1⟩; obtain ⟨hc1, hf1, hz1⟩ := bcell hb1; try simp at hz1))
          all_goals go_ret
          all_goals refine ⟨by first | rfl | exact ret_int e.symm, ?_⟩
          all_goals (repeat (first | exact gr0 _ | refine gr1 ?_ _ | refine gr2 ?_ (Later.below _) | refine gr2 ?_ (by assumption) | refine gr3 ?_ | refine gr4 ?_ (by first | (simp; done) | (simp; omega) | omega) _))
        · skip
          have e : reserveI m k f = 24 * (f - k) := by unfold reserveI; rw [if_neg (by omega)]
          have k1 : wrap64 (f - k) = f - k := w64 (by omega) (by omega)
          have k2 : wrap64 (24 * (f - k)) = 24 * (f - k) := w64 (by omega) (by omega)
          have dk : decide (k < 0) = false := by simp; omega
          have db : decide (8388608 < f) = false := by simp; omega
          have dp : ((partsN m : Int) == 0) = false := by simp; omega
          have df : decide (f ≤ k) = false := by simp; omega
          go_enter Try.func60, Try.ntmps60
          go_wp2_with (first
            | (refine wp_region_calm (by kernel_rfl) (by kernel_rfl) ?_; repeat (first | go_big_quiet_step (fail) | quiet_step (fail))
               refine wpQuiet_nil ?_; intro u; have hzu := u.below.size; try simp at hzu)
            | (go_at_call 59; refine (rparts_len _ _).mono ?_; rintro e W1 ⟨p1, c1, rfl, hb1⟩; obtain ⟨hc1, hf1, hz1⟩ := bcell hb1; try simp at hz1))
          all_goals go_ret
          all_goals refine ⟨by first | rfl | exact ret_int e.symm, ?_⟩
          all_goals (repeat (first | exact gr0 _ | refine gr1 ?_ _ | refine gr2 ?_ (Later.below _) | refine gr2 ?_ (by assumption) | refine gr3 ?_ | refine gr4 ?_ (by first | (simp; done) | (simp; omega) | omega) _))

def betwI (n l u : Int) : Bool := decide (l ≤ n) && decide (n ≤ u)
def checkI (x y m q i c : Int) : Int :=
  if (betwI x 1 65535 && betwI y 1 65535) = false then 10 else if decide (wrap64 (x * y) ≤ 67108864) = false then 15 else if betwI m 1 4 = false then 11 else if betwI q 1 100 = false then 12
  else if betwI i 1 65535 = false then 13 else if betwI c 0 3 = false then 14 else if decide (slotI x y m i c ≤ 1048576) = false then 3 else 0

theorem betw_ (n l u : Int) (w : World) :
    Calls Try.prog 47 #[.int .i64 n, .int .i64 l, .int .i64 u] w fun e w' => e = .returned (.bool (betwI n l u)) ∧ Below w.heap.size w w' := by
  by_cases h1 : n < l
  · exact (between_lo n l u w h1).mono fun e w' ⟨h, hb⟩ => ⟨by rw [h]; unfold betwI; rw [show decide (l ≤ n) = false by simpa using h1]; rfl, hb⟩
  · by_cases h2 : u < n
    · exact (between_hi n l u w h2).mono fun e w' ⟨h, hb⟩ => ⟨by rw [h]; unfold betwI; rw [show decide (n ≤ u) = false by simpa using h2, Bool.and_false], hb⟩
    · exact (between_ok n l u w (by omega) (by omega)).mono fun e w' ⟨h, hb⟩ => ⟨by rw [h]; unfold betwI; rw [show decide (l ≤ n) = true by simp; omega, show decide (n ≤ u) = true by simp; omega]; rfl, hb⟩

theorem ret_mul16 {a b : Int} (h : a = b) : Ending.returned (.int .u16 a) = .returned (.int .u16 b) := by rw [h]

set_option maxRecDepth 100000 in
set_option maxHeartbeats 2000000 in
theorem check_x (x y m q i c : Int) (w : World) (hx : betwI x 1 65535 = false) :
    Calls Try.prog 29 #[.agg #[.int .i64 x, .int .i64 y, .int .i64 m, .int .i64 q, .int .i64 i, .int .i64 c]] w fun e w' => e = .returned (.int .u16 (checkI x y m q i c)) ∧ Below w.heap.size w w' := by
  have i0 : ∀ (b0 b1 b2 b3 b4 b5 b6 : Bool) w, (Instr.index 77 (.agg #[.bool b0, .int .u16 10, .bool b1, .int .u16 15, .bool b2, .int .u16 11, .bool b3, .int .u16 12, .bool b4, .int .u16 13, .bool b5, .int .u16 14, .bool b6, .int .u16 3]) (.int .i64 0)).run Try.prog w = .ok (.agg #[.bool b0, .int .u16 10]) w := fun _ _ _ _ _ _ _ _ => by kernel_rfl
  have i1 : ∀ (b0 b1 b2 b3 b4 b5 b6 : Bool) w, (Instr.index 77 (.agg #[.bool b0, .int .u16 10, .bool b1, .int .u16 15, .bool b2, .int .u16 11, .bool b3, .int .u16 12, .bool b4, .int .u16 13, .bool b5, .int .u16 14, .bool b6, .int .u16 3]) (.int .i64 1)).run Try.prog w = .ok (.agg #[.bool b1, .int .u16 15]) w := fun _ _ _ _ _ _ _ _ => by kernel_rfl
  have i2 : ∀ (b0 b1 b2 b3 b4 b5 b6 : Bool) w, (Instr.index 77 (.agg #[.bool b0, .int .u16 10, .bool b1, .int .u16 15, .bool b2, .int .u16 11, .bool b3, .int .u16 12, .bool b4, .int .u16 13, .bool b5, .int .u16 14, .bool b6, .int .u16 3]) (.int .i64 2)).run Try.prog w = .ok (.agg #[.bool b2, .int .u16 11]) w := fun _ _ _ _ _ _ _ _ => by kernel_rfl
  have i3 : ∀ (b0 b1 b2 b3 b4 b5 b6 : Bool) w, (Instr.index 77 (.agg #[.bool b0, .int .u16 10, .bool b1, .int .u16 15, .bool b2, .int .u16 11, .bool b3, .int .u16 12, .bool b4, .int .u16 13, .bool b5, .int .u16 14, .bool b6, .int .u16 3]) (.int .i64 3)).run Try.prog w = .ok (.agg #[.bool b3, .int .u16 12]) w := fun _ _ _ _ _ _ _ _ => by kernel_rfl
  have i4 : ∀ (b0 b1 b2 b3 b4 b5 b6 : Bool) w, (Instr.index 77 (.agg #[.bool b0, .int .u16 10, .bool b1, .int .u16 15, .bool b2, .int .u16 11, .bool b3, .int .u16 12, .bool b4, .int .u16 13, .bool b5, .int .u16 14, .bool b6, .int .u16 3]) (.int .i64 4)).run Try.prog w = .ok (.agg #[.bool b4, .int .u16 13]) w := fun _ _ _ _ _ _ _ _ => by kernel_rfl
  have i5 : ∀ (b0 b1 b2 b3 b4 b5 b6 : Bool) w, (Instr.index 77 (.agg #[.bool b0, .int .u16 10, .bool b1, .int .u16 15, .bool b2, .int .u16 11, .bool b3, .int .u16 12, .bool b4, .int .u16 13, .bool b5, .int .u16 14, .bool b6, .int .u16 3]) (.int .i64 5)).run Try.prog w = .ok (.agg #[.bool b5, .int .u16 14]) w := fun _ _ _ _ _ _ _ _ => by kernel_rfl
  have i6 : ∀ (b0 b1 b2 b3 b4 b5 b6 : Bool) w, (Instr.index 77 (.agg #[.bool b0, .int .u16 10, .bool b1, .int .u16 15, .bool b2, .int .u16 11, .bool b3, .int .u16 12, .bool b4, .int .u16 13, .bool b5, .int .u16 14, .bool b6, .int .u16 3]) (.int .i64 6)).run Try.prog w = .ok (.agg #[.bool b6, .int .u16 3]) w := fun _ _ _ _ _ _ _ _ => by kernel_rfl
  have h0 : (betwI x 1 65535 && betwI y 1 65535) = false := by rw [hx]; rfl
  have e : checkI x y m q i c = 10 := by unfold checkI; rw [if_pos h0]
  go_enter Try.func29, Try.ntmps29
  go_wp2_with (first
    | (go_at_call 47; refine (betw_ _ _ _ _).mono ?_; rintro e W1 ⟨rfl, hb1⟩; obtain ⟨hc1, hf1, hz1⟩ := bcell hb1; try simp at hz1)
    | (go_at_call 38; refine (slot_ _ _ _ _ _ _ _).mono ?_; rintro e W1 ⟨rfl, hb1⟩; obtain ⟨hc1, hf1, hz1⟩ := bcell hb1; try simp at hz1)
    | (refine wp_region_calm (by kernel_rfl) (by kernel_rfl) ?_; repeat (first | go_big_quiet_step ((first | (go_at_call 47; exact calm_call (betw_ _ _ _ _)) | (go_at_call 38; exact calm_call (slot_ _ _ _ _ _ _ _)))) | quiet_step ((first | (go_at_call 47; exact calm_call (betw_ _ _ _ _)) | (go_at_call 38; exact calm_call (slot_ _ _ _ _ _ _ _)))))
       refine wpQuiet_nil ?_; intro u; have hzu := u.below.size; try simp at hzu))
  refine wp_loop_rounds 2 ?_
  rw [rounds_succ]
  go_wp2_with fail
  all_goals go_ret
  all_goals refine ⟨by first | rfl | exact ret_mul16 e.symm, ?_⟩
  all_goals (repeat (first | exact gr0 _ | refine gr1 ?_ _ | refine gr2 ?_ (Later.below _) | refine gr2 ?_ (by assumption) | refine gr3 ?_ | refine gr4 ?_ (by first | (simp; done) | (simp; omega) | omega) _))

set_option maxRecDepth 100000 in
set_option maxHeartbeats 2000000 in
theorem check_y (x y m q i c : Int) (w : World) (hx : betwI x 1 65535 = true) (hy : betwI y 1 65535 = false) :
    Calls Try.prog 29 #[.agg #[.int .i64 x, .int .i64 y, .int .i64 m, .int .i64 q, .int .i64 i, .int .i64 c]] w fun e w' => e = .returned (.int .u16 (checkI x y m q i c)) ∧ Below w.heap.size w w' := by
  have i0 : ∀ (b0 b1 b2 b3 b4 b5 b6 : Bool) w, (Instr.index 77 (.agg #[.bool b0, .int .u16 10, .bool b1, .int .u16 15, .bool b2, .int .u16 11, .bool b3, .int .u16 12, .bool b4, .int .u16 13, .bool b5, .int .u16 14, .bool b6, .int .u16 3]) (.int .i64 0)).run Try.prog w = .ok (.agg #[.bool b0, .int .u16 10]) w := fun _ _ _ _ _ _ _ _ => by kernel_rfl
  have i1 : ∀ (b0 b1 b2 b3 b4 b5 b6 : Bool) w, (Instr.index 77 (.agg #[.bool b0, .int .u16 10, .bool b1, .int .u16 15, .bool b2, .int .u16 11, .bool b3, .int .u16 12, .bool b4, .int .u16 13, .bool b5, .int .u16 14, .bool b6, .int .u16 3]) (.int .i64 1)).run Try.prog w = .ok (.agg #[.bool b1, .int .u16 15]) w := fun _ _ _ _ _ _ _ _ => by kernel_rfl
  have i2 : ∀ (b0 b1 b2 b3 b4 b5 b6 : Bool) w, (Instr.index 77 (.agg #[.bool b0, .int .u16 10, .bool b1, .int .u16 15, .bool b2, .int .u16 11, .bool b3, .int .u16 12, .bool b4, .int .u16 13, .bool b5, .int .u16 14, .bool b6, .int .u16 3]) (.int .i64 2)).run Try.prog w = .ok (.agg #[.bool b2, .int .u16 11]) w := fun _ _ _ _ _ _ _ _ => by kernel_rfl
  have i3 : ∀ (b0 b1 b2 b3 b4 b5 b6 : Bool) w, (Instr.index 77 (.agg #[.bool b0, .int .u16 10, .bool b1, .int .u16 15, .bool b2, .int .u16 11, .bool b3, .int .u16 12, .bool b4, .int .u16 13, .bool b5, .int .u16 14, .bool b6, .int .u16 3]) (.int .i64 3)).run Try.prog w = .ok (.agg #[.bool b3, .int .u16 12]) w := fun _ _ _ _ _ _ _ _ => by kernel_rfl
  have i4 : ∀ (b0 b1 b2 b3 b4 b5 b6 : Bool) w, (Instr.index 77 (.agg #[.bool b0, .int .u16 10, .bool b1, .int .u16 15, .bool b2, .int .u16 11, .bool b3, .int .u16 12, .bool b4, .int .u16 13, .bool b5, .int .u16 14, .bool b6, .int .u16 3]) (.int .i64 4)).run Try.prog w = .ok (.agg #[.bool b4, .int .u16 13]) w := fun _ _ _ _ _ _ _ _ => by kernel_rfl
  have i5 : ∀ (b0 b1 b2 b3 b4 b5 b6 : Bool) w, (Instr.index 77 (.agg #[.bool b0, .int .u16 10, .bool b1, .int .u16 15, .bool b2, .int .u16 11, .bool b3, .int .u16 12, .bool b4, .int .u16 13, .bool b5, .int .u16 14, .bool b6, .int .u16 3]) (.int .i64 5)).run Try.prog w = .ok (.agg #[.bool b5, .int .u16 14]) w := fun _ _ _ _ _ _ _ _ => by kernel_rfl
  have i6 : ∀ (b0 b1 b2 b3 b4 b5 b6 : Bool) w, (Instr.index 77 (.agg #[.bool b0, .int .u16 10, .bool b1, .int .u16 15, .bool b2, .int .u16 11, .bool b3, .int .u16 12, .bool b4, .int .u16 13, .bool b5, .int .u16 14, .bool b6, .int .u16 3]) (.int .i64 6)).run Try.prog w = .ok (.agg #[.bool b6, .int .u16 3]) w := fun _ _ _ _ _ _ _ _ => by kernel_rfl
  have h0 : (betwI x 1 65535 && betwI y 1 65535) = false := by rw [hx, hy]; rfl
  have e : checkI x y m q i c = 10 := by unfold checkI; rw [if_pos h0]
  go_enter Try.func29, Try.ntmps29
  go_wp2_with (first
    | (go_at_call 47; refine (betw_ _ _ _ _).mono ?_; rintro e W1 ⟨rfl, hb1⟩; obtain ⟨hc1, hf1, hz1⟩ := bcell hb1; try simp at hz1)
    | (go_at_call 38; refine (slot_ _ _ _ _ _ _ _).mono ?_; rintro e W1 ⟨rfl, hb1⟩; obtain ⟨hc1, hf1, hz1⟩ := bcell hb1; try simp at hz1)
    | (refine wp_region_calm (by kernel_rfl) (by kernel_rfl) ?_; repeat (first | go_big_quiet_step ((first | (go_at_call 47; exact calm_call (betw_ _ _ _ _)) | (go_at_call 38; exact calm_call (slot_ _ _ _ _ _ _ _)))) | quiet_step ((first | (go_at_call 47; exact calm_call (betw_ _ _ _ _)) | (go_at_call 38; exact calm_call (slot_ _ _ _ _ _ _ _)))))
       refine wpQuiet_nil ?_; intro u; have hzu := u.below.size; try simp at hzu))
  refine wp_loop_rounds 2 ?_
  rw [rounds_succ]
  go_wp2_with fail
  all_goals go_ret
  all_goals refine ⟨by first | rfl | exact ret_mul16 e.symm, ?_⟩
  all_goals (repeat (first | exact gr0 _ | refine gr1 ?_ _ | refine gr2 ?_ (Later.below _) | refine gr2 ?_ (by assumption) | refine gr3 ?_ | refine gr4 ?_ (by first | (simp; done) | (simp; omega) | omega) _))

set_option maxRecDepth 100000 in
set_option maxHeartbeats 2000000 in
theorem check_1 (x y m q i c : Int) (w : World) (hx : betwI x 1 65535 = true) (hy : betwI y 1 65535 = true) (h1 : decide (wrap64 (x * y) ≤ 67108864) = false) :
    Calls Try.prog 29 #[.agg #[.int .i64 x, .int .i64 y, .int .i64 m, .int .i64 q, .int .i64 i, .int .i64 c]] w fun e w' => e = .returned (.int .u16 (checkI x y m q i c)) ∧ Below w.heap.size w w' := by
  have i0 : ∀ (b0 b1 b2 b3 b4 b5 b6 : Bool) w, (Instr.index 77 (.agg #[.bool b0, .int .u16 10, .bool b1, .int .u16 15, .bool b2, .int .u16 11, .bool b3, .int .u16 12, .bool b4, .int .u16 13, .bool b5, .int .u16 14, .bool b6, .int .u16 3]) (.int .i64 0)).run Try.prog w = .ok (.agg #[.bool b0, .int .u16 10]) w := fun _ _ _ _ _ _ _ _ => by kernel_rfl
  have i1 : ∀ (b0 b1 b2 b3 b4 b5 b6 : Bool) w, (Instr.index 77 (.agg #[.bool b0, .int .u16 10, .bool b1, .int .u16 15, .bool b2, .int .u16 11, .bool b3, .int .u16 12, .bool b4, .int .u16 13, .bool b5, .int .u16 14, .bool b6, .int .u16 3]) (.int .i64 1)).run Try.prog w = .ok (.agg #[.bool b1, .int .u16 15]) w := fun _ _ _ _ _ _ _ _ => by kernel_rfl
  have i2 : ∀ (b0 b1 b2 b3 b4 b5 b6 : Bool) w, (Instr.index 77 (.agg #[.bool b0, .int .u16 10, .bool b1, .int .u16 15, .bool b2, .int .u16 11, .bool b3, .int .u16 12, .bool b4, .int .u16 13, .bool b5, .int .u16 14, .bool b6, .int .u16 3]) (.int .i64 2)).run Try.prog w = .ok (.agg #[.bool b2, .int .u16 11]) w := fun _ _ _ _ _ _ _ _ => by kernel_rfl
  have i3 : ∀ (b0 b1 b2 b3 b4 b5 b6 : Bool) w, (Instr.index 77 (.agg #[.bool b0, .int .u16 10, .bool b1, .int .u16 15, .bool b2, .int .u16 11, .bool b3, .int .u16 12, .bool b4, .int .u16 13, .bool b5, .int .u16 14, .bool b6, .int .u16 3]) (.int .i64 3)).run Try.prog w = .ok (.agg #[.bool b3, .int .u16 12]) w := fun _ _ _ _ _ _ _ _ => by kernel_rfl
  have i4 : ∀ (b0 b1 b2 b3 b4 b5 b6 : Bool) w, (Instr.index 77 (.agg #[.bool b0, .int .u16 10, .bool b1, .int .u16 15, .bool b2, .int .u16 11, .bool b3, .int .u16 12, .bool b4, .int .u16 13, .bool b5, .int .u16 14, .bool b6, .int .u16 3]) (.int .i64 4)).run Try.prog w = .ok (.agg #[.bool b4, .int .u16 13]) w := fun _ _ _ _ _ _ _ _ => by kernel_rfl
  have i5 : ∀ (b0 b1 b2 b3 b4 b5 b6 : Bool) w, (Instr.index 77 (.agg #[.bool b0, .int .u16 10, .bool b1, .int .u16 15, .bool b2, .int .u16 11, .bool b3, .int .u16 12, .bool b4, .int .u16 13, .bool b5, .int .u16 14, .bool b6, .int .u16 3]) (.int .i64 5)).run Try.prog w = .ok (.agg #[.bool b5, .int .u16 14]) w := fun _ _ _ _ _ _ _ _ => by kernel_rfl
  have i6 : ∀ (b0 b1 b2 b3 b4 b5 b6 : Bool) w, (Instr.index 77 (.agg #[.bool b0, .int .u16 10, .bool b1, .int .u16 15, .bool b2, .int .u16 11, .bool b3, .int .u16 12, .bool b4, .int .u16 13, .bool b5, .int .u16 14, .bool b6, .int .u16 3]) (.int .i64 6)).run Try.prog w = .ok (.agg #[.bool b6, .int .u16 3]) w := fun _ _ _ _ _ _ _ _ => by kernel_rfl
  have h0 : (betwI x 1 65535 && betwI y 1 65535) = true := by rw [hx, hy]; rfl
  have e : checkI x y m q i c = 15 := by unfold checkI; rw [if_neg (by rw [h0]; decide), if_pos h1]
  go_enter Try.func29, Try.ntmps29
  go_wp2_with (first
    | (go_at_call 47; refine (betw_ _ _ _ _).mono ?_; rintro e W1 ⟨rfl, hb1⟩; obtain ⟨hc1, hf1, hz1⟩ := bcell hb1; try simp at hz1)
    | (go_at_call 38; refine (slot_ _ _ _ _ _ _ _).mono ?_; rintro e W1 ⟨rfl, hb1⟩; obtain ⟨hc1, hf1, hz1⟩ := bcell hb1; try simp at hz1)
    | (refine wp_region_calm (by kernel_rfl) (by kernel_rfl) ?_; repeat (first | go_big_quiet_step ((first | (go_at_call 47; exact calm_call (betw_ _ _ _ _)) | (go_at_call 38; exact calm_call (slot_ _ _ _ _ _ _ _)))) | quiet_step ((first | (go_at_call 47; exact calm_call (betw_ _ _ _ _)) | (go_at_call 38; exact calm_call (slot_ _ _ _ _ _ _ _)))))
       refine wpQuiet_nil ?_; intro u; have hzu := u.below.size; try simp at hzu))
  refine wp_loop_rounds 3 ?_
  rw [rounds_succ]
  go_wp2_with fail
  rw [rounds_succ]
  go_wp2_with fail
  all_goals go_ret
  all_goals refine ⟨by first | rfl | exact ret_mul16 e.symm, ?_⟩
  all_goals (repeat (first | exact gr0 _ | refine gr1 ?_ _ | refine gr2 ?_ (Later.below _) | refine gr2 ?_ (by assumption) | refine gr3 ?_ | refine gr4 ?_ (by first | (simp; done) | (simp; omega) | omega) _))

set_option maxRecDepth 100000 in
set_option maxHeartbeats 2000000 in
theorem check_2 (x y m q i c : Int) (w : World) (hx : betwI x 1 65535 = true) (hy : betwI y 1 65535 = true) (h1 : decide (wrap64 (x * y) ≤ 67108864) = true) (h2 : betwI m 1 4 = false) :
    Calls Try.prog 29 #[.agg #[.int .i64 x, .int .i64 y, .int .i64 m, .int .i64 q, .int .i64 i, .int .i64 c]] w fun e w' => e = .returned (.int .u16 (checkI x y m q i c)) ∧ Below w.heap.size w w' := by
  have i0 : ∀ (b0 b1 b2 b3 b4 b5 b6 : Bool) w, (Instr.index 77 (.agg #[.bool b0, .int .u16 10, .bool b1, .int .u16 15, .bool b2, .int .u16 11, .bool b3, .int .u16 12, .bool b4, .int .u16 13, .bool b5, .int .u16 14, .bool b6, .int .u16 3]) (.int .i64 0)).run Try.prog w = .ok (.agg #[.bool b0, .int .u16 10]) w := fun _ _ _ _ _ _ _ _ => by kernel_rfl
  have i1 : ∀ (b0 b1 b2 b3 b4 b5 b6 : Bool) w, (Instr.index 77 (.agg #[.bool b0, .int .u16 10, .bool b1, .int .u16 15, .bool b2, .int .u16 11, .bool b3, .int .u16 12, .bool b4, .int .u16 13, .bool b5, .int .u16 14, .bool b6, .int .u16 3]) (.int .i64 1)).run Try.prog w = .ok (.agg #[.bool b1, .int .u16 15]) w := fun _ _ _ _ _ _ _ _ => by kernel_rfl
  have i2 : ∀ (b0 b1 b2 b3 b4 b5 b6 : Bool) w, (Instr.index 77 (.agg #[.bool b0, .int .u16 10, .bool b1, .int .u16 15, .bool b2, .int .u16 11, .bool b3, .int .u16 12, .bool b4, .int .u16 13, .bool b5, .int .u16 14, .bool b6, .int .u16 3]) (.int .i64 2)).run Try.prog w = .ok (.agg #[.bool b2, .int .u16 11]) w := fun _ _ _ _ _ _ _ _ => by kernel_rfl
  have i3 : ∀ (b0 b1 b2 b3 b4 b5 b6 : Bool) w, (Instr.index 77 (.agg #[.bool b0, .int .u16 10, .bool b1, .int .u16 15, .bool b2, .int .u16 11, .bool b3, .int .u16 12, .bool b4, .int .u16 13, .bool b5, .int .u16 14, .bool b6, .int .u16 3]) (.int .i64 3)).run Try.prog w = .ok (.agg #[.bool b3, .int .u16 12]) w := fun _ _ _ _ _ _ _ _ => by kernel_rfl
  have i4 : ∀ (b0 b1 b2 b3 b4 b5 b6 : Bool) w, (Instr.index 77 (.agg #[.bool b0, .int .u16 10, .bool b1, .int .u16 15, .bool b2, .int .u16 11, .bool b3, .int .u16 12, .bool b4, .int .u16 13, .bool b5, .int .u16 14, .bool b6, .int .u16 3]) (.int .i64 4)).run Try.prog w = .ok (.agg #[.bool b4, .int .u16 13]) w := fun _ _ _ _ _ _ _ _ => by kernel_rfl
  have i5 : ∀ (b0 b1 b2 b3 b4 b5 b6 : Bool) w, (Instr.index 77 (.agg #[.bool b0, .int .u16 10, .bool b1, .int .u16 15, .bool b2, .int .u16 11, .bool b3, .int .u16 12, .bool b4, .int .u16 13, .bool b5, .int .u16 14, .bool b6, .int .u16 3]) (.int .i64 5)).run Try.prog w = .ok (.agg #[.bool b5, .int .u16 14]) w := fun _ _ _ _ _ _ _ _ => by kernel_rfl
  have i6 : ∀ (b0 b1 b2 b3 b4 b5 b6 : Bool) w, (Instr.index 77 (.agg #[.bool b0, .int .u16 10, .bool b1, .int .u16 15, .bool b2, .int .u16 11, .bool b3, .int .u16 12, .bool b4, .int .u16 13, .bool b5, .int .u16 14, .bool b6, .int .u16 3]) (.int .i64 6)).run Try.prog w = .ok (.agg #[.bool b6, .int .u16 3]) w := fun _ _ _ _ _ _ _ _ => by kernel_rfl
  have h0 : (betwI x 1 65535 && betwI y 1 65535) = true := by rw [hx, hy]; rfl
  have e : checkI x y m q i c = 11 := by unfold checkI; rw [if_neg (by rw [h0]; decide), if_neg (by rw [h1]; decide), if_pos h2]
  go_enter Try.func29, Try.ntmps29
  go_wp2_with (first
    | (go_at_call 47; refine (betw_ _ _ _ _).mono ?_; rintro e W1 ⟨rfl, hb1⟩; obtain ⟨hc1, hf1, hz1⟩ := bcell hb1; try simp at hz1)
    | (go_at_call 38; refine (slot_ _ _ _ _ _ _ _).mono ?_; rintro e W1 ⟨rfl, hb1⟩; obtain ⟨hc1, hf1, hz1⟩ := bcell hb1; try simp at hz1)
    | (refine wp_region_calm (by kernel_rfl) (by kernel_rfl) ?_; repeat (first | go_big_quiet_step ((first | (go_at_call 47; exact calm_call (betw_ _ _ _ _)) | (go_at_call 38; exact calm_call (slot_ _ _ _ _ _ _ _)))) | quiet_step ((first | (go_at_call 47; exact calm_call (betw_ _ _ _ _)) | (go_at_call 38; exact calm_call (slot_ _ _ _ _ _ _ _)))))
       refine wpQuiet_nil ?_; intro u; have hzu := u.below.size; try simp at hzu))
  refine wp_loop_rounds 4 ?_
  rw [rounds_succ]
  go_wp2_with fail
  rw [rounds_succ]
  go_wp2_with fail
  rw [rounds_succ]
  go_wp2_with fail
  all_goals go_ret
  all_goals refine ⟨by first | rfl | exact ret_mul16 e.symm, ?_⟩
  all_goals (repeat (first | exact gr0 _ | refine gr1 ?_ _ | refine gr2 ?_ (Later.below _) | refine gr2 ?_ (by assumption) | refine gr3 ?_ | refine gr4 ?_ (by first | (simp; done) | (simp; omega) | omega) _))

set_option maxRecDepth 100000 in
set_option maxHeartbeats 2000000 in
theorem check_3 (x y m q i c : Int) (w : World) (hx : betwI x 1 65535 = true) (hy : betwI y 1 65535 = true) (h1 : decide (wrap64 (x * y) ≤ 67108864) = true) (h2 : betwI m 1 4 = true) (h3 : betwI q 1 100 = false) :
    Calls Try.prog 29 #[.agg #[.int .i64 x, .int .i64 y, .int .i64 m, .int .i64 q, .int .i64 i, .int .i64 c]] w fun e w' => e = .returned (.int .u16 (checkI x y m q i c)) ∧ Below w.heap.size w w' := by
  have i0 : ∀ (b0 b1 b2 b3 b4 b5 b6 : Bool) w, (Instr.index 77 (.agg #[.bool b0, .int .u16 10, .bool b1, .int .u16 15, .bool b2, .int .u16 11, .bool b3, .int .u16 12, .bool b4, .int .u16 13, .bool b5, .int .u16 14, .bool b6, .int .u16 3]) (.int .i64 0)).run Try.prog w = .ok (.agg #[.bool b0, .int .u16 10]) w := fun _ _ _ _ _ _ _ _ => by kernel_rfl
  have i1 : ∀ (b0 b1 b2 b3 b4 b5 b6 : Bool) w, (Instr.index 77 (.agg #[.bool b0, .int .u16 10, .bool b1, .int .u16 15, .bool b2, .int .u16 11, .bool b3, .int .u16 12, .bool b4, .int .u16 13, .bool b5, .int .u16 14, .bool b6, .int .u16 3]) (.int .i64 1)).run Try.prog w = .ok (.agg #[.bool b1, .int .u16 15]) w := fun _ _ _ _ _ _ _ _ => by kernel_rfl
  have i2 : ∀ (b0 b1 b2 b3 b4 b5 b6 : Bool) w, (Instr.index 77 (.agg #[.bool b0, .int .u16 10, .bool b1, .int .u16 15, .bool b2, .int .u16 11, .bool b3, .int .u16 12, .bool b4, .int .u16 13, .bool b5, .int .u16 14, .bool b6, .int .u16 3]) (.int .i64 2)).run Try.prog w = .ok (.agg #[.bool b2, .int .u16 11]) w := fun _ _ _ _ _ _ _ _ => by kernel_rfl
  have i3 : ∀ (b0 b1 b2 b3 b4 b5 b6 : Bool) w, (Instr.index 77 (.agg #[.bool b0, .int .u16 10, .bool b1, .int .u16 15, .bool b2, .int .u16 11, .bool b3, .int .u16 12, .bool b4, .int .u16 13, .bool b5, .int .u16 14, .bool b6, .int .u16 3]) (.int .i64 3)).run Try.prog w = .ok (.agg #[.bool b3, .int .u16 12]) w := fun _ _ _ _ _ _ _ _ => by kernel_rfl
  have i4 : ∀ (b0 b1 b2 b3 b4 b5 b6 : Bool) w, (Instr.index 77 (.agg #[.bool b0, .int .u16 10, .bool b1, .int .u16 15, .bool b2, .int .u16 11, .bool b3, .int .u16 12, .bool b4, .int .u16 13, .bool b5, .int .u16 14, .bool b6, .int .u16 3]) (.int .i64 4)).run Try.prog w = .ok (.agg #[.bool b4, .int .u16 13]) w := fun _ _ _ _ _ _ _ _ => by kernel_rfl
  have i5 : ∀ (b0 b1 b2 b3 b4 b5 b6 : Bool) w, (Instr.index 77 (.agg #[.bool b0, .int .u16 10, .bool b1, .int .u16 15, .bool b2, .int .u16 11, .bool b3, .int .u16 12, .bool b4, .int .u16 13, .bool b5, .int .u16 14, .bool b6, .int .u16 3]) (.int .i64 5)).run Try.prog w = .ok (.agg #[.bool b5, .int .u16 14]) w := fun _ _ _ _ _ _ _ _ => by kernel_rfl
  have i6 : ∀ (b0 b1 b2 b3 b4 b5 b6 : Bool) w, (Instr.index 77 (.agg #[.bool b0, .int .u16 10, .bool b1, .int .u16 15, .bool b2, .int .u16 11, .bool b3, .int .u16 12, .bool b4, .int .u16 13, .bool b5, .int .u16 14, .bool b6, .int .u16 3]) (.int .i64 6)).run Try.prog w = .ok (.agg #[.bool b6, .int .u16 3]) w := fun _ _ _ _ _ _ _ _ => by kernel_rfl
  have h0 : (betwI x 1 65535 && betwI y 1 65535) = true := by rw [hx, hy]; rfl
  have e : checkI x y m q i c = 12 := by unfold checkI; rw [if_neg (by rw [h0]; decide), if_neg (by rw [h1]; decide), if_neg (by rw [h2]; decide), if_pos h3]
  go_enter Try.func29, Try.ntmps29
  go_wp2_with (first
    | (go_at_call 47; refine (betw_ _ _ _ _).mono ?_; rintro e W1 ⟨rfl, hb1⟩; obtain ⟨hc1, hf1, hz1⟩ := bcell hb1; try simp at hz1)
    | (go_at_call 38; refine (slot_ _ _ _ _ _ _ _).mono ?_; rintro e W1 ⟨rfl, hb1⟩; obtain ⟨hc1, hf1, hz1⟩ := bcell hb1; try simp at hz1)
    | (refine wp_region_calm (by kernel_rfl) (by kernel_rfl) ?_; repeat (first | go_big_quiet_step ((first | (go_at_call 47; exact calm_call (betw_ _ _ _ _)) | (go_at_call 38; exact calm_call (slot_ _ _ _ _ _ _ _)))) | quiet_step ((first | (go_at_call 47; exact calm_call (betw_ _ _ _ _)) | (go_at_call 38; exact calm_call (slot_ _ _ _ _ _ _ _)))))
       refine wpQuiet_nil ?_; intro u; have hzu := u.below.size; try simp at hzu))
  refine wp_loop_rounds 5 ?_
  rw [rounds_succ]
  go_wp2_with fail
  rw [rounds_succ]
  go_wp2_with fail
  rw [rounds_succ]
  go_wp2_with fail
  rw [rounds_succ]
  go_wp2_with fail
  all_goals go_ret
  all_goals refine ⟨by first | rfl | exact ret_mul16 e.symm, ?_⟩
  all_goals (repeat (first | exact gr0 _ | refine gr1 ?_ _ | refine gr2 ?_ (Later.below _) | refine gr2 ?_ (by assumption) | refine gr3 ?_ | refine gr4 ?_ (by first | (simp; done) | (simp; omega) | omega) _))

set_option maxRecDepth 100000 in
set_option maxHeartbeats 2000000 in
theorem check_4 (x y m q i c : Int) (w : World) (hx : betwI x 1 65535 = true) (hy : betwI y 1 65535 = true) (h1 : decide (wrap64 (x * y) ≤ 67108864) = true) (h2 : betwI m 1 4 = true) (h3 : betwI q 1 100 = true) (h4 : betwI i 1 65535 = false) :
    Calls Try.prog 29 #[.agg #[.int .i64 x, .int .i64 y, .int .i64 m, .int .i64 q, .int .i64 i, .int .i64 c]] w fun e w' => e = .returned (.int .u16 (checkI x y m q i c)) ∧ Below w.heap.size w w' := by
  have i0 : ∀ (b0 b1 b2 b3 b4 b5 b6 : Bool) w, (Instr.index 77 (.agg #[.bool b0, .int .u16 10, .bool b1, .int .u16 15, .bool b2, .int .u16 11, .bool b3, .int .u16 12, .bool b4, .int .u16 13, .bool b5, .int .u16 14, .bool b6, .int .u16 3]) (.int .i64 0)).run Try.prog w = .ok (.agg #[.bool b0, .int .u16 10]) w := fun _ _ _ _ _ _ _ _ => by kernel_rfl
  have i1 : ∀ (b0 b1 b2 b3 b4 b5 b6 : Bool) w, (Instr.index 77 (.agg #[.bool b0, .int .u16 10, .bool b1, .int .u16 15, .bool b2, .int .u16 11, .bool b3, .int .u16 12, .bool b4, .int .u16 13, .bool b5, .int .u16 14, .bool b6, .int .u16 3]) (.int .i64 1)).run Try.prog w = .ok (.agg #[.bool b1, .int .u16 15]) w := fun _ _ _ _ _ _ _ _ => by kernel_rfl
  have i2 : ∀ (b0 b1 b2 b3 b4 b5 b6 : Bool) w, (Instr.index 77 (.agg #[.bool b0, .int .u16 10, .bool b1, .int .u16 15, .bool b2, .int .u16 11, .bool b3, .int .u16 12, .bool b4, .int .u16 13, .bool b5, .int .u16 14, .bool b6, .int .u16 3]) (.int .i64 2)).run Try.prog w = .ok (.agg #[.bool b2, .int .u16 11]) w := fun _ _ _ _ _ _ _ _ => by kernel_rfl
  have i3 : ∀ (b0 b1 b2 b3 b4 b5 b6 : Bool) w, (Instr.index 77 (.agg #[.bool b0, .int .u16 10, .bool b1, .int .u16 15, .bool b2, .int .u16 11, .bool b3, .int .u16 12, .bool b4, .int .u16 13, .bool b5, .int .u16 14, .bool b6, .int .u16 3]) (.int .i64 3)).run Try.prog w = .ok (.agg #[.bool b3, .int .u16 12]) w := fun _ _ _ _ _ _ _ _ => by kernel_rfl
  have i4 : ∀ (b0 b1 b2 b3 b4 b5 b6 : Bool) w, (Instr.index 77 (.agg #[.bool b0, .int .u16 10, .bool b1, .int .u16 15, .bool b2, .int .u16 11, .bool b3, .int .u16 12, .bool b4, .int .u16 13, .bool b5, .int .u16 14, .bool b6, .int .u16 3]) (.int .i64 4)).run Try.prog w = .ok (.agg #[.bool b4, .int .u16 13]) w := fun _ _ _ _ _ _ _ _ => by kernel_rfl
  have i5 : ∀ (b0 b1 b2 b3 b4 b5 b6 : Bool) w, (Instr.index 77 (.agg #[.bool b0, .int .u16 10, .bool b1, .int .u16 15, .bool b2, .int .u16 11, .bool b3, .int .u16 12, .bool b4, .int .u16 13, .bool b5, .int .u16 14, .bool b6, .int .u16 3]) (.int .i64 5)).run Try.prog w = .ok (.agg #[.bool b5, .int .u16 14]) w := fun _ _ _ _ _ _ _ _ => by kernel_rfl
  have i6 : ∀ (b0 b1 b2 b3 b4 b5 b6 : Bool) w, (Instr.index 77 (.agg #[.bool b0, .int .u16 10, .bool b1, .int .u16 15, .bool b2, .int .u16 11, .bool b3, .int .u16 12, .bool b4, .int .u16 13, .bool b5, .int .u16 14, .bool b6, .int .u16 3]) (.int .i64 6)).run Try.prog w = .ok (.agg #[.bool b6, .int .u16 3]) w := fun _ _ _ _ _ _ _ _ => by kernel_rfl
  have h0 : (betwI x 1 65535 && betwI y 1 65535) = true := by rw [hx, hy]; rfl
  have e : checkI x y m q i c = 13 := by unfold checkI; rw [if_neg (by rw [h0]; decide), if_neg (by rw [h1]; decide), if_neg (by rw [h2]; decide), if_neg (by rw [h3]; decide), if_pos h4]
  go_enter Try.func29, Try.ntmps29
  go_wp2_with (first
    | (go_at_call 47; refine (betw_ _ _ _ _).mono ?_; rintro e W1 ⟨rfl, hb1⟩; obtain ⟨hc1, hf1, hz1⟩ := bcell hb1; try simp at hz1)
    | (go_at_call 38; refine (slot_ _ _ _ _ _ _ _).mono ?_; rintro e W1 ⟨rfl, hb1⟩; obtain ⟨hc1, hf1, hz1⟩ := bcell hb1; try simp at hz1)
    | (refine wp_region_calm (by kernel_rfl) (by kernel_rfl) ?_; repeat (first | go_big_quiet_step ((first | (go_at_call 47; exact calm_call (betw_ _ _ _ _)) | (go_at_call 38; exact calm_call (slot_ _ _ _ _ _ _ _)))) | quiet_step ((first | (go_at_call 47; exact calm_call (betw_ _ _ _ _)) | (go_at_call 38; exact calm_call (slot_ _ _ _ _ _ _ _)))))
       refine wpQuiet_nil ?_; intro u; have hzu := u.below.size; try simp at hzu))
  refine wp_loop_rounds 6 ?_
  rw [rounds_succ]
  go_wp2_with fail
  rw [rounds_succ]
  go_wp2_with fail
  rw [rounds_succ]
  go_wp2_with fail
  rw [rounds_succ]
  go_wp2_with fail
  rw [rounds_succ]
  go_wp2_with fail
  all_goals go_ret
  all_goals refine ⟨by first | rfl | exact ret_mul16 e.symm, ?_⟩
  all_goals (repeat (first | exact gr0 _ | refine gr1 ?_ _ | refine gr2 ?_ (Later.below _) | refine gr2 ?_ (by assumption) | refine gr3 ?_ | refine gr4 ?_ (by first | (simp; done) | (simp; omega) | omega) _))

set_option maxRecDepth 100000 in
set_option maxHeartbeats 2000000 in
theorem check_5 (x y m q i c : Int) (w : World) (hx : betwI x 1 65535 = true) (hy : betwI y 1 65535 = true) (h1 : decide (wrap64 (x * y) ≤ 67108864) = true) (h2 : betwI m 1 4 = true) (h3 : betwI q 1 100 = true) (h4 : betwI i 1 65535 = true) (h5 : betwI c 0 3 = false) :
    Calls Try.prog 29 #[.agg #[.int .i64 x, .int .i64 y, .int .i64 m, .int .i64 q, .int .i64 i, .int .i64 c]] w fun e w' => e = .returned (.int .u16 (checkI x y m q i c)) ∧ Below w.heap.size w w' := by
  have i0 : ∀ (b0 b1 b2 b3 b4 b5 b6 : Bool) w, (Instr.index 77 (.agg #[.bool b0, .int .u16 10, .bool b1, .int .u16 15, .bool b2, .int .u16 11, .bool b3, .int .u16 12, .bool b4, .int .u16 13, .bool b5, .int .u16 14, .bool b6, .int .u16 3]) (.int .i64 0)).run Try.prog w = .ok (.agg #[.bool b0, .int .u16 10]) w := fun _ _ _ _ _ _ _ _ => by kernel_rfl
  have i1 : ∀ (b0 b1 b2 b3 b4 b5 b6 : Bool) w, (Instr.index 77 (.agg #[.bool b0, .int .u16 10, .bool b1, .int .u16 15, .bool b2, .int .u16 11, .bool b3, .int .u16 12, .bool b4, .int .u16 13, .bool b5, .int .u16 14, .bool b6, .int .u16 3]) (.int .i64 1)).run Try.prog w = .ok (.agg #[.bool b1, .int .u16 15]) w := fun _ _ _ _ _ _ _ _ => by kernel_rfl
  have i2 : ∀ (b0 b1 b2 b3 b4 b5 b6 : Bool) w, (Instr.index 77 (.agg #[.bool b0, .int .u16 10, .bool b1, .int .u16 15, .bool b2, .int .u16 11, .bool b3, .int .u16 12, .bool b4, .int .u16 13, .bool b5, .int .u16 14, .bool b6, .int .u16 3]) (.int .i64 2)).run Try.prog w = .ok (.agg #[.bool b2, .int .u16 11]) w := fun _ _ _ _ _ _ _ _ => by kernel_rfl
  have i3 : ∀ (b0 b1 b2 b3 b4 b5 b6 : Bool) w, (Instr.index 77 (.agg #[.bool b0, .int .u16 10, .bool b1, .int .u16 15, .bool b2, .int .u16 11, .bool b3, .int .u16 12, .bool b4, .int .u16 13, .bool b5, .int .u16 14, .bool b6, .int .u16 3]) (.int .i64 3)).run Try.prog w = .ok (.agg #[.bool b3, .int .u16 12]) w := fun _ _ _ _ _ _ _ _ => by kernel_rfl
  have i4 : ∀ (b0 b1 b2 b3 b4 b5 b6 : Bool) w, (Instr.index 77 (.agg #[.bool b0, .int .u16 10, .bool b1, .int .u16 15, .bool b2, .int .u16 11, .bool b3, .int .u16 12, .bool b4, .int .u16 13, .bool b5, .int .u16 14, .bool b6, .int .u16 3]) (.int .i64 4)).run Try.prog w = .ok (.agg #[.bool b4, .int .u16 13]) w := fun _ _ _ _ _ _ _ _ => by kernel_rfl
  have i5 : ∀ (b0 b1 b2 b3 b4 b5 b6 : Bool) w, (Instr.index 77 (.agg #[.bool b0, .int .u16 10, .bool b1, .int .u16 15, .bool b2, .int .u16 11, .bool b3, .int .u16 12, .bool b4, .int .u16 13, .bool b5, .int .u16 14, .bool b6, .int .u16 3]) (.int .i64 5)).run Try.prog w = .ok (.agg #[.bool b5, .int .u16 14]) w := fun _ _ _ _ _ _ _ _ => by kernel_rfl
  have i6 : ∀ (b0 b1 b2 b3 b4 b5 b6 : Bool) w, (Instr.index 77 (.agg #[.bool b0, .int .u16 10, .bool b1, .int .u16 15, .bool b2, .int .u16 11, .bool b3, .int .u16 12, .bool b4, .int .u16 13, .bool b5, .int .u16 14, .bool b6, .int .u16 3]) (.int .i64 6)).run Try.prog w = .ok (.agg #[.bool b6, .int .u16 3]) w := fun _ _ _ _ _ _ _ _ => by kernel_rfl
  have h0 : (betwI x 1 65535 && betwI y 1 65535) = true := by rw [hx, hy]; rfl
  have e : checkI x y m q i c = 14 := by unfold checkI; rw [if_neg (by rw [h0]; decide), if_neg (by rw [h1]; decide), if_neg (by rw [h2]; decide), if_neg (by rw [h3]; decide), if_neg (by rw [h4]; decide), if_pos h5]
  go_enter Try.func29, Try.ntmps29
  go_wp2_with (first
    | (go_at_call 47; refine (betw_ _ _ _ _).mono ?_; rintro e W1 ⟨rfl, hb1⟩; obtain ⟨hc1, hf1, hz1⟩ := bcell hb1; try simp at hz1)
    | (go_at_call 38; refine (slot_ _ _ _ _ _ _ _).mono ?_; rintro e W1 ⟨rfl, hb1⟩; obtain ⟨hc1, hf1, hz1⟩ := bcell hb1; try simp at hz1)
    | (refine wp_region_calm (by kernel_rfl) (by kernel_rfl) ?_; repeat (first | go_big_quiet_step ((first | (go_at_call 47; exact calm_call (betw_ _ _ _ _)) | (go_at_call 38; exact calm_call (slot_ _ _ _ _ _ _ _)))) | quiet_step ((first | (go_at_call 47; exact calm_call (betw_ _ _ _ _)) | (go_at_call 38; exact calm_call (slot_ _ _ _ _ _ _ _)))))
       refine wpQuiet_nil ?_; intro u; have hzu := u.below.size; try simp at hzu))
  refine wp_loop_rounds 7 ?_
  rw [rounds_succ]
  go_wp2_with fail
  rw [rounds_succ]
  go_wp2_with fail
  rw [rounds_succ]
  go_wp2_with fail
  rw [rounds_succ]
  go_wp2_with fail
  rw [rounds_succ]
  go_wp2_with fail
  rw [rounds_succ]
  go_wp2_with fail
  all_goals go_ret
  all_goals refine ⟨by first | rfl | exact ret_mul16 e.symm, ?_⟩
  all_goals (repeat (first | exact gr0 _ | refine gr1 ?_ _ | refine gr2 ?_ (Later.below _) | refine gr2 ?_ (by assumption) | refine gr3 ?_ | refine gr4 ?_ (by first | (simp; done) | (simp; omega) | omega) _))

set_option maxRecDepth 100000 in
set_option maxHeartbeats 2000000 in
theorem check_6 (x y m q i c : Int) (w : World) (hx : betwI x 1 65535 = true) (hy : betwI y 1 65535 = true) (h1 : decide (wrap64 (x * y) ≤ 67108864) = true) (h2 : betwI m 1 4 = true) (h3 : betwI q 1 100 = true) (h4 : betwI i 1 65535 = true) (h5 : betwI c 0 3 = true) (h6 : decide (slotI x y m i c ≤ 1048576) = false) :
    Calls Try.prog 29 #[.agg #[.int .i64 x, .int .i64 y, .int .i64 m, .int .i64 q, .int .i64 i, .int .i64 c]] w fun e w' => e = .returned (.int .u16 (checkI x y m q i c)) ∧ Below w.heap.size w w' := by
  have i0 : ∀ (b0 b1 b2 b3 b4 b5 b6 : Bool) w, (Instr.index 77 (.agg #[.bool b0, .int .u16 10, .bool b1, .int .u16 15, .bool b2, .int .u16 11, .bool b3, .int .u16 12, .bool b4, .int .u16 13, .bool b5, .int .u16 14, .bool b6, .int .u16 3]) (.int .i64 0)).run Try.prog w = .ok (.agg #[.bool b0, .int .u16 10]) w := fun _ _ _ _ _ _ _ _ => by kernel_rfl
  have i1 : ∀ (b0 b1 b2 b3 b4 b5 b6 : Bool) w, (Instr.index 77 (.agg #[.bool b0, .int .u16 10, .bool b1, .int .u16 15, .bool b2, .int .u16 11, .bool b3, .int .u16 12, .bool b4, .int .u16 13, .bool b5, .int .u16 14, .bool b6, .int .u16 3]) (.int .i64 1)).run Try.prog w = .ok (.agg #[.bool b1, .int .u16 15]) w := fun _ _ _ _ _ _ _ _ => by kernel_rfl
  have i2 : ∀ (b0 b1 b2 b3 b4 b5 b6 : Bool) w, (Instr.index 77 (.agg #[.bool b0, .int .u16 10, .bool b1, .int .u16 15, .bool b2, .int .u16 11, .bool b3, .int .u16 12, .bool b4, .int .u16 13, .bool b5, .int .u16 14, .bool b6, .int .u16 3]) (.int .i64 2)).run Try.prog w = .ok (.agg #[.bool b2, .int .u16 11]) w := fun _ _ _ _ _ _ _ _ => by kernel_rfl
  have i3 : ∀ (b0 b1 b2 b3 b4 b5 b6 : Bool) w, (Instr.index 77 (.agg #[.bool b0, .int .u16 10, .bool b1, .int .u16 15, .bool b2, .int .u16 11, .bool b3, .int .u16 12, .bool b4, .int .u16 13, .bool b5, .int .u16 14, .bool b6, .int .u16 3]) (.int .i64 3)).run Try.prog w = .ok (.agg #[.bool b3, .int .u16 12]) w := fun _ _ _ _ _ _ _ _ => by kernel_rfl
  have i4 : ∀ (b0 b1 b2 b3 b4 b5 b6 : Bool) w, (Instr.index 77 (.agg #[.bool b0, .int .u16 10, .bool b1, .int .u16 15, .bool b2, .int .u16 11, .bool b3, .int .u16 12, .bool b4, .int .u16 13, .bool b5, .int .u16 14, .bool b6, .int .u16 3]) (.int .i64 4)).run Try.prog w = .ok (.agg #[.bool b4, .int .u16 13]) w := fun _ _ _ _ _ _ _ _ => by kernel_rfl
  have i5 : ∀ (b0 b1 b2 b3 b4 b5 b6 : Bool) w, (Instr.index 77 (.agg #[.bool b0, .int .u16 10, .bool b1, .int .u16 15, .bool b2, .int .u16 11, .bool b3, .int .u16 12, .bool b4, .int .u16 13, .bool b5, .int .u16 14, .bool b6, .int .u16 3]) (.int .i64 5)).run Try.prog w = .ok (.agg #[.bool b5, .int .u16 14]) w := fun _ _ _ _ _ _ _ _ => by kernel_rfl
  have i6 : ∀ (b0 b1 b2 b3 b4 b5 b6 : Bool) w, (Instr.index 77 (.agg #[.bool b0, .int .u16 10, .bool b1, .int .u16 15, .bool b2, .int .u16 11, .bool b3, .int .u16 12, .bool b4, .int .u16 13, .bool b5, .int .u16 14, .bool b6, .int .u16 3]) (.int .i64 6)).run Try.prog w = .ok (.agg #[.bool b6, .int .u16 3]) w := fun _ _ _ _ _ _ _ _ => by kernel_rfl
  have h0 : (betwI x 1 65535 && betwI y 1 65535) = true := by rw [hx, hy]; rfl
  have e : checkI x y m q i c = 3 := by unfold checkI; rw [if_neg (by rw [h0]; decide), if_neg (by rw [h1]; decide), if_neg (by rw [h2]; decide), if_neg (by rw [h3]; decide), if_neg (by rw [h4]; decide), if_neg (by rw [h5]; decide), if_pos h6]
  go_enter Try.func29, Try.ntmps29
  go_wp2_with (first
    | (go_at_call 47; refine (betw_ _ _ _ _).mono ?_; rintro e W1 ⟨rfl, hb1⟩; obtain ⟨hc1, hf1, hz1⟩ := bcell hb1; try simp at hz1)
    | (go_at_call 38; refine (slot_ _ _ _ _ _ _ _).mono ?_; rintro e W1 ⟨rfl, hb1⟩; obtain ⟨hc1, hf1, hz1⟩ := bcell hb1; try simp at hz1)
    | (refine wp_region_calm (by kernel_rfl) (by kernel_rfl) ?_; repeat (first | go_big_quiet_step ((first | (go_at_call 47; exact calm_call (betw_ _ _ _ _)) | (go_at_call 38; exact calm_call (slot_ _ _ _ _ _ _ _)))) | quiet_step ((first | (go_at_call 47; exact calm_call (betw_ _ _ _ _)) | (go_at_call 38; exact calm_call (slot_ _ _ _ _ _ _ _)))))
       refine wpQuiet_nil ?_; intro u; have hzu := u.below.size; try simp at hzu))
  refine wp_loop_rounds 8 ?_
  rw [rounds_succ]
  go_wp2_with fail
  rw [rounds_succ]
  go_wp2_with fail
  rw [rounds_succ]
  go_wp2_with fail
  rw [rounds_succ]
  go_wp2_with fail
  rw [rounds_succ]
  go_wp2_with fail
  rw [rounds_succ]
  go_wp2_with fail
  rw [rounds_succ]
  go_wp2_with fail
  all_goals go_ret
  all_goals refine ⟨by first | rfl | exact ret_mul16 e.symm, ?_⟩
  all_goals (repeat (first | exact gr0 _ | refine gr1 ?_ _ | refine gr2 ?_ (Later.below _) | refine gr2 ?_ (by assumption) | refine gr3 ?_ | refine gr4 ?_ (by first | (simp; done) | (simp; omega) | omega) _))

set_option maxRecDepth 100000 in
set_option maxHeartbeats 2000000 in
theorem check_7 (x y m q i c : Int) (w : World) (hx : betwI x 1 65535 = true) (hy : betwI y 1 65535 = true) (h1 : decide (wrap64 (x * y) ≤ 67108864) = true) (h2 : betwI m 1 4 = true) (h3 : betwI q 1 100 = true) (h4 : betwI i 1 65535 = true) (h5 : betwI c 0 3 = true) (h6 : decide (slotI x y m i c ≤ 1048576) = true) :
    Calls Try.prog 29 #[.agg #[.int .i64 x, .int .i64 y, .int .i64 m, .int .i64 q, .int .i64 i, .int .i64 c]] w fun e w' => e = .returned (.int .u16 (checkI x y m q i c)) ∧ Below w.heap.size w w' := by
  have i0 : ∀ (b0 b1 b2 b3 b4 b5 b6 : Bool) w, (Instr.index 77 (.agg #[.bool b0, .int .u16 10, .bool b1, .int .u16 15, .bool b2, .int .u16 11, .bool b3, .int .u16 12, .bool b4, .int .u16 13, .bool b5, .int .u16 14, .bool b6, .int .u16 3]) (.int .i64 0)).run Try.prog w = .ok (.agg #[.bool b0, .int .u16 10]) w := fun _ _ _ _ _ _ _ _ => by kernel_rfl
  have i1 : ∀ (b0 b1 b2 b3 b4 b5 b6 : Bool) w, (Instr.index 77 (.agg #[.bool b0, .int .u16 10, .bool b1, .int .u16 15, .bool b2, .int .u16 11, .bool b3, .int .u16 12, .bool b4, .int .u16 13, .bool b5, .int .u16 14, .bool b6, .int .u16 3]) (.int .i64 1)).run Try.prog w = .ok (.agg #[.bool b1, .int .u16 15]) w := fun _ _ _ _ _ _ _ _ => by kernel_rfl
  have i2 : ∀ (b0 b1 b2 b3 b4 b5 b6 : Bool) w, (Instr.index 77 (.agg #[.bool b0, .int .u16 10, .bool b1, .int .u16 15, .bool b2, .int .u16 11, .bool b3, .int .u16 12, .bool b4, .int .u16 13, .bool b5, .int .u16 14, .bool b6, .int .u16 3]) (.int .i64 2)).run Try.prog w = .ok (.agg #[.bool b2, .int .u16 11]) w := fun _ _ _ _ _ _ _ _ => by kernel_rfl
  have i3 : ∀ (b0 b1 b2 b3 b4 b5 b6 : Bool) w, (Instr.index 77 (.agg #[.bool b0, .int .u16 10, .bool b1, .int .u16 15, .bool b2, .int .u16 11, .bool b3, .int .u16 12, .bool b4, .int .u16 13, .bool b5, .int .u16 14, .bool b6, .int .u16 3]) (.int .i64 3)).run Try.prog w = .ok (.agg #[.bool b3, .int .u16 12]) w := fun _ _ _ _ _ _ _ _ => by kernel_rfl
  have i4 : ∀ (b0 b1 b2 b3 b4 b5 b6 : Bool) w, (Instr.index 77 (.agg #[.bool b0, .int .u16 10, .bool b1, .int .u16 15, .bool b2, .int .u16 11, .bool b3, .int .u16 12, .bool b4, .int .u16 13, .bool b5, .int .u16 14, .bool b6, .int .u16 3]) (.int .i64 4)).run Try.prog w = .ok (.agg #[.bool b4, .int .u16 13]) w := fun _ _ _ _ _ _ _ _ => by kernel_rfl
  have i5 : ∀ (b0 b1 b2 b3 b4 b5 b6 : Bool) w, (Instr.index 77 (.agg #[.bool b0, .int .u16 10, .bool b1, .int .u16 15, .bool b2, .int .u16 11, .bool b3, .int .u16 12, .bool b4, .int .u16 13, .bool b5, .int .u16 14, .bool b6, .int .u16 3]) (.int .i64 5)).run Try.prog w = .ok (.agg #[.bool b5, .int .u16 14]) w := fun _ _ _ _ _ _ _ _ => by kernel_rfl
  have i6 : ∀ (b0 b1 b2 b3 b4 b5 b6 : Bool) w, (Instr.index 77 (.agg #[.bool b0, .int .u16 10, .bool b1, .int .u16 15, .bool b2, .int .u16 11, .bool b3, .int .u16 12, .bool b4, .int .u16 13, .bool b5, .int .u16 14, .bool b6, .int .u16 3]) (.int .i64 6)).run Try.prog w = .ok (.agg #[.bool b6, .int .u16 3]) w := fun _ _ _ _ _ _ _ _ => by kernel_rfl
  have h0 : (betwI x 1 65535 && betwI y 1 65535) = true := by rw [hx, hy]; rfl
  have e : checkI x y m q i c = 0 := by unfold checkI; rw [if_neg (by rw [h0]; decide), if_neg (by rw [h1]; decide), if_neg (by rw [h2]; decide), if_neg (by rw [h3]; decide), if_neg (by rw [h4]; decide), if_neg (by rw [h5]; decide), if_neg (by rw [h6]; decide)]
  go_enter Try.func29, Try.ntmps29
  go_wp2_with (first
    | (go_at_call 47; refine (betw_ _ _ _ _).mono ?_; rintro e W1 ⟨rfl, hb1⟩; obtain ⟨hc1, hf1, hz1⟩ := bcell hb1; try simp at hz1)
    | (go_at_call 38; refine (slot_ _ _ _ _ _ _ _).mono ?_; rintro e W1 ⟨rfl, hb1⟩; obtain ⟨hc1, hf1, hz1⟩ := bcell hb1; try simp at hz1)
    | (refine wp_region_calm (by kernel_rfl) (by kernel_rfl) ?_; repeat (first | go_big_quiet_step ((first | (go_at_call 47; exact calm_call (betw_ _ _ _ _)) | (go_at_call 38; exact calm_call (slot_ _ _ _ _ _ _ _)))) | quiet_step ((first | (go_at_call 47; exact calm_call (betw_ _ _ _ _)) | (go_at_call 38; exact calm_call (slot_ _ _ _ _ _ _ _)))))
       refine wpQuiet_nil ?_; intro u; have hzu := u.below.size; try simp at hzu))
  refine wp_loop_rounds 9 ?_
  rw [rounds_succ]
  go_wp2_with fail
  rw [rounds_succ]
  go_wp2_with fail
  rw [rounds_succ]
  go_wp2_with fail
  rw [rounds_succ]
  go_wp2_with fail
  rw [rounds_succ]
  go_wp2_with fail
  rw [rounds_succ]
  go_wp2_with fail
  rw [rounds_succ]
  go_wp2_with fail
  rw [rounds_succ]
  go_wp2_with fail
  all_goals go_ret
  all_goals refine ⟨by first | rfl | exact ret_mul16 e.symm, ?_⟩
  all_goals (repeat (first | exact gr0 _ | refine gr1 ?_ _ | refine gr2 ?_ (Later.below _) | refine gr2 ?_ (by assumption) | refine gr3 ?_ | refine gr4 ?_ (by first | (simp; done) | (simp; omega) | omega) _))

theorem check_ (x y m q i c : Int) (w : World) :
    Calls Try.prog 29 #[.agg #[.int .i64 x, .int .i64 y, .int .i64 m, .int .i64 q, .int .i64 i, .int .i64 c]] w fun e w' => e = .returned (.int .u16 (checkI x y m q i c)) ∧ Below w.heap.size w w' := by
  cases hx : betwI x 1 65535
  · exact check_x x y m q i c w hx
  · cases hy : betwI y 1 65535
    · exact check_y x y m q i c w hx hy
    · skip
      cases h1 : decide (wrap64 (x * y) ≤ 67108864)
      · exact check_1 x y m q i c w hx hy h1
      · skip
        cases h2 : betwI m 1 4
        · exact check_2 x y m q i c w hx hy h1 h2
        · skip
          cases h3 : betwI q 1 100
          · exact check_3 x y m q i c w hx hy h1 h2 h3
          · skip
            cases h4 : betwI i 1 65535
            · exact check_4 x y m q i c w hx hy h1 h2 h3 h4
            · skip
              cases h5 : betwI c 0 3
              · exact check_5 x y m q i c w hx hy h1 h2 h3 h4 h5
              · skip
                cases h6 : decide (slotI x y m i c ≤ 1048576)
                · exact check_6 x y m q i c w hx hy h1 h2 h3 h4 h5 h6
                · skip
                  exact check_7 x y m q i c w hx hy h1 h2 h3 h4 h5 h6

set_option maxRecDepth 100000 in
set_option maxHeartbeats 2000000 in
theorem rcheck_ (x y m q i c : Int) (w : World) :
    Calls Try.prog 53 #[.agg #[.int .i64 x, .int .i64 y, .int .i64 m, .int .i64 q, .int .i64 i, .int .i64 c]] w fun e w' => e = .returned (.int .i64 (checkI x y m q i c)) ∧ Below w.heap.size w w' := by
  by_cases h0 : x < 1
  · have g0 : (betwI x 1 65535 && betwI y 1 65535) = false := by unfold betwI; simp; omega
    have e : checkI x y m q i c = 10 := by unfold checkI; rw [if_pos g0]
    clear g0
    have d0 : decide (x < 1) = true := by simp; omega
    go_enter Try.func53, Try.ntmps53
    go_wp2_with (first
      | (go_at_call 54; refine (rslot_ _ _ _ _ _ _ _).mono ?_; rintro e W1 ⟨rfl, hb1⟩; obtain ⟨hc1, hf1, hz1⟩ := bcell hb1; try simp at hz1)
      | (refine wp_region_calm (by kernel_rfl) (by kernel_rfl) ?_; repeat (first | go_big_quiet_step ((first | (go_at_call 54; exact calm_call (rslot_ _ _ _ _ _ _ _)))) | quiet_step ((first | (go_at_call 54; exact calm_call (rslot_ _ _ _ _ _ _ _)))))
         refine wpQuiet_nil ?_; intro u; have hzu := u.below.size; try simp at hzu))
    all_goals go_ret
    all_goals refine ⟨by first | rfl | exact ret_int e.symm, ?_⟩
    all_goals (repeat (first | exact gr0 _ | refine gr1 ?_ _ | refine gr2 ?_ (Later.below _) | refine gr2 ?_ (by assumption) | refine gr3 ?_ | refine gr4 ?_ (by first | (simp; done) | (simp; omega) | omega) _))
  · skip
    by_cases h1 : 65535 < x
    · have g0 : (betwI x 1 65535 && betwI y 1 65535) = false := by unfold betwI; simp; omega
      have e : checkI x y m q i c = 10 := by unfold checkI; rw [if_pos g0]
      clear g0
      have d0 : decide (x < 1) = false := by simp; omega
      have d1 : decide (65535 < x) = true := by simp; omega
      go_enter Try.func53, Try.ntmps53
      go_wp2_with (first
        | (go_at_call 54; refine (rslot_ _ _ _ _ _ _ _).mono ?_; rintro e W1 ⟨rfl, hb1⟩; obtain ⟨hc1, hf1, hz1⟩ := bcell hb1; try simp at hz1)
        | (refine wp_region_calm (by kernel_rfl) (by kernel_rfl) ?_; repeat (first | go_big_quiet_step ((first | (go_at_call 54; exact calm_call (rslot_ _ _ _ _ _ _ _)))) | quiet_step ((first | (go_at_call 54; exact calm_call (rslot_ _ _ _ _ _ _ _)))))
           refine wpQuiet_nil ?_; intro u; have hzu := u.below.size; try simp at hzu))
      all_goals go_ret
      all_goals refine ⟨by first | rfl | exact ret_int e.symm, ?_⟩
      all_goals (repeat (first | exact gr0 _ | refine gr1 ?_ _ | refine gr2 ?_ (Later.below _) | refine gr2 ?_ (by assumption) | refine gr3 ?_ | refine gr4 ?_ (by first | (simp; done) | (simp; omega) | omega) _))
    · skip
      by_cases h2 : y < 1
      · have g0 : (betwI x 1 65535 && betwI y 1 65535) = false := by unfold betwI; simp; omega
        have e : checkI x y m q i c = 10 := by unfold checkI; rw [if_pos g0]
        clear g0
        have d0 : decide (x < 1) = false := by simp; omega
        have d1 : decide (65535 < x) = false := by simp; omega
        have d2 : decide (y < 1) = true := by simp; omega
        go_enter Try.func53, Try.ntmps53
        go_wp2_with (first
          | (go_at_call 54; refine (rslot_ _ _ _ _ _ _ _).mono ?_; rintro e W1 ⟨rfl, hb1⟩; obtain ⟨hc1, hf1, hz1⟩ := bcell hb1; try simp at hz1)
          | (refine wp_region_calm (by kernel_rfl) (by kernel_rfl) ?_; repeat (first | go_big_quiet_step ((first | (go_at_call 54; exact calm_call (rslot_ _ _ _ _ _ _ _)))) | quiet_step ((first | (go_at_call 54; exact calm_call (rslot_ _ _ _ _ _ _ _)))))
             refine wpQuiet_nil ?_; intro u; have hzu := u.below.size; try simp at hzu))
        all_goals go_ret
        all_goals refine ⟨by first | rfl | exact ret_int e.symm, ?_⟩
        all_goals (repeat (first | exact gr0 _ | refine gr1 ?_ _ | refine gr2 ?_ (Later.below _) | refine gr2 ?_ (by assumption) | refine gr3 ?_ | refine gr4 ?_ (by first | (simp; done) | (simp; omega) | omega) _))
      · skip
        by_cases h3 : 65535 < y
        · have g0 : (betwI x 1 65535 && betwI y 1 65535) = false := by unfold betwI; simp; omega
          have e : checkI x y m q i c = 10 := by unfold checkI; rw [if_pos g0]
          clear g0
          have d0 : decide (x < 1) = false := by simp; omega
          have d1 : decide (65535 < x) = false := by simp; omega
          have d2 : decide (y < 1) = false := by simp; omega
          have d3 : decide (65535 < y) = true := by simp; omega
          go_enter Try.func53, Try.ntmps53
          go_wp2_with (first
            | (go_at_call 54; refine (rslot_ _ _ _ _ _ _ _).mono ?_; rintro e W1 ⟨rfl, hb1⟩; obtain ⟨hc1, hf1, hz1⟩ := bcell hb1; try simp at hz1)
            | (refine wp_region_calm (by kernel_rfl) (by kernel_rfl) ?_; repeat (first | go_big_quiet_step ((first | (go_at_call 54; exact calm_call (rslot_ _ _ _ _ _ _ _)))) | quiet_step ((first | (go_at_call 54; exact calm_call (rslot_ _ _ _ _ _ _ _)))))
               refine wpQuiet_nil ?_; intro u; have hzu := u.below.size; try simp at hzu))
          all_goals go_ret
          all_goals refine ⟨by first | rfl | exact ret_int e.symm, ?_⟩
          all_goals (repeat (first | exact gr0 _ | refine gr1 ?_ _ | refine gr2 ?_ (Later.below _) | refine gr2 ?_ (by assumption) | refine gr3 ?_ | refine gr4 ?_ (by first | (simp; done) | (simp; omega) | omega) _))
        · skip
          by_cases h4 : 67108864 < wrap64 (x * y)
          · have g0 : (betwI x 1 65535 && betwI y 1 65535) = true := by unfold betwI; simp; omega
            have g1 : decide (wrap64 (x * y) ≤ 67108864) = false := by simp; omega
            have e : checkI x y m q i c = 15 := by unfold checkI; rw [if_neg (by rw [g0]; decide), if_pos g1]
            clear g0 g1
            have d0 : decide (x < 1) = false := by simp; omega
            have d1 : decide (65535 < x) = false := by simp; omega
            have d2 : decide (y < 1) = false := by simp; omega
            have d3 : decide (65535 < y) = false := by simp; omega
            have d4 : decide (67108864 < wrap64 (x * y)) = true := by simp; omega
            go_enter Try.func53, Try.ntmps53
            go_wp2_with (first
              | (go_at_call 54; refine (rslot_ _ _ _ _ _ _ _).mono ?_; rintro e W1 ⟨rfl, hb1⟩; obtain ⟨hc1, hf1, hz1⟩ := bcell hb1; try simp at hz1)
              | (refine wp_region_calm (by kernel_rfl) (by kernel_rfl) ?_; repeat (first | go_big_quiet_step ((first | (go_at_call 54; exact calm_call (rslot_ _ _ _ _ _ _ _)))) | quiet_step ((first | (go_at_call 54; exact calm_call (rslot_ _ _ _ _ _ _ _)))))
                 refine wpQuiet_nil ?_; intro u; have hzu := u.below.size; try simp at hzu))
            all_goals go_ret
            all_goals refine ⟨by first | rfl | exact ret_int e.symm, ?_⟩
            all_goals (repeat (first | exact gr0 _ | refine gr1 ?_ _ | refine gr2 ?_ (Later.below _) | refine gr2 ?_ (by assumption) | refine gr3 ?_ | refine gr4 ?_ (by first | (simp; done) | (simp; omega) | omega) _))
          · skip
            by_cases h5 : m < 1
            · have g0 : (betwI x 1 65535 && betwI y 1 65535) = true := by unfold betwI; simp; omega
              have g1 : decide (wrap64 (x * y) ≤ 67108864) = true := by simp; omega
              have g2 : betwI m 1 4 = false := by unfold betwI; simp; omega
              have e : checkI x y m q i c = 11 := by unfold checkI; rw [if_neg (by rw [g0]; decide), if_neg (by rw [g1]; decide), if_pos g2]
              clear g0 g1 g2
              have d0 : decide (x < 1) = false := by simp; omega
              have d1 : decide (65535 < x) = false := by simp; omega
              have d2 : decide (y < 1) = false := by simp; omega
              have d3 : decide (65535 < y) = false := by simp; omega
              have d4 : decide (67108864 < wrap64 (x * y)) = false := by simp; omega
              have d5 : decide (m < 1) = true := by simp; omega
              go_enter Try.func53, Try.ntmps53
              go_wp2_with (first
                | (go_at_call 54; refine (rslot_ _ _ _ _ _ _ _).mono ?_; rintro e W1 ⟨rfl, hb1⟩; obtain ⟨hc1, hf1, hz1⟩ := bcell hb1; try simp at hz1)
                | (refine wp_region_calm (by kernel_rfl) (by kernel_rfl) ?_; repeat (first | go_big_quiet_step ((first | (go_at_call 54; exact calm_call (rslot_ _ _ _ _ _ _ _)))) | quiet_step ((first | (go_at_call 54; exact calm_call (rslot_ _ _ _ _ _ _ _)))))
                   refine wpQuiet_nil ?_; intro u; have hzu := u.below.size; try simp at hzu))
              all_goals go_ret
              all_goals refine ⟨by first | rfl | exact ret_int e.symm, ?_⟩
              all_goals (repeat (first | exact gr0 _ | refine gr1 ?_ _ | refine gr2 ?_ (Later.below _) | refine gr2 ?_ (by assumption) | refine gr3 ?_ | refine gr4 ?_ (by first | (simp; done) | (simp; omega) | omega) _))
            · skip
              by_cases h6 : 4 < m
              · have g0 : (betwI x 1 65535 && betwI y 1 65535) = true := by unfold betwI; simp; omega
                have g1 : decide (wrap64 (x * y) ≤ 67108864) = true := by simp; omega
                have g2 : betwI m 1 4 = false := by unfold betwI; simp; omega
                have e : checkI x y m q i c = 11 := by unfold checkI; rw [if_neg (by rw [g0]; decide), if_neg (by rw [g1]; decide), if_pos g2]
                clear g0 g1 g2
                have d0 : decide (x < 1) = false := by simp; omega
                have d1 : decide (65535 < x) = false := by simp; omega
                have d2 : decide (y < 1) = false := by simp; omega
                have d3 : decide (65535 < y) = false := by simp; omega
                have d4 : decide (67108864 < wrap64 (x * y)) = false := by simp; omega
                have d5 : decide (m < 1) = false := by simp; omega
                have d6 : decide (4 < m) = true := by simp; omega
                go_enter Try.func53, Try.ntmps53
                go_wp2_with (first
                  | (go_at_call 54; refine (rslot_ _ _ _ _ _ _ _).mono ?_; rintro e W1 ⟨rfl, hb1⟩; obtain ⟨hc1, hf1, hz1⟩ := bcell hb1; try simp at hz1)
                  | (refine wp_region_calm (by kernel_rfl) (by kernel_rfl) ?_; repeat (first | go_big_quiet_step ((first | (go_at_call 54; exact calm_call (rslot_ _ _ _ _ _ _ _)))) | quiet_step ((first | (go_at_call 54; exact calm_call (rslot_ _ _ _ _ _ _ _)))))
                     refine wpQuiet_nil ?_; intro u; have hzu := u.below.size; try simp at hzu))
                all_goals go_ret
                all_goals refine ⟨by first | rfl | exact ret_int e.symm, ?_⟩
                all_goals (repeat (first | exact gr0 _ | refine gr1 ?_ _ | refine gr2 ?_ (Later.below _) | refine gr2 ?_ (by assumption) | refine gr3 ?_ | refine gr4 ?_ (by first | (simp; done) | (simp; omega) | omega) _))
              · skip
                by_cases h7 : q < 1
                · have g0 : (betwI x 1 65535 && betwI y 1 65535) = true := by unfold betwI; simp; omega
                  have g1 : decide (wrap64 (x * y) ≤ 67108864) = true := by simp; omega
                  have g2 : betwI m 1 4 = true := by unfold betwI; simp; omega
                  have g3 : betwI q 1 100 = false := by unfold betwI; simp; omega
                  have e : checkI x y m q i c = 12 := by unfold checkI; rw [if_neg (by rw [g0]; decide), if_neg (by rw [g1]; decide), if_neg (by rw [g2]; decide), if_pos g3]
                  clear g0 g1 g2 g3
                  have d0 : decide (x < 1) = false := by simp; omega
                  have d1 : decide (65535 < x) = false := by simp; omega
                  have d2 : decide (y < 1) = false := by simp; omega
                  have d3 : decide (65535 < y) = false := by simp; omega
                  have d4 : decide (67108864 < wrap64 (x * y)) = false := by simp; omega
                  have d5 : decide (m < 1) = false := by simp; omega
                  have d6 : decide (4 < m) = false := by simp; omega
                  have d7 : decide (q < 1) = true := by simp; omega
                  go_enter Try.func53, Try.ntmps53
                  go_wp2_with (first
                    | (go_at_call 54; refine (rslot_ _ _ _ _ _ _ _).mono ?_; rintro e W1 ⟨rfl, hb1⟩; obtain ⟨hc1, hf1, hz1⟩ := bcell hb1; try simp at hz1)
                    | (refine wp_region_calm (by kernel_rfl) (by kernel_rfl) ?_; repeat (first | go_big_quiet_step ((first | (go_at_call 54; exact calm_call (rslot_ _ _ _ _ _ _ _)))) | quiet_step ((first | (go_at_call 54; exact calm_call (rslot_ _ _ _ _ _ _ _)))))
                       refine wpQuiet_nil ?_; intro u; have hzu := u.below.size; try simp at hzu))
                  all_goals go_ret
                  all_goals refine ⟨by first | rfl | exact ret_int e.symm, ?_⟩
                  all_goals (repeat (first | exact gr0 _ | refine gr1 ?_ _ | refine gr2 ?_ (Later.below _) | refine gr2 ?_ (by assumption) | refine gr3 ?_ | refine gr4 ?_ (by first | (simp; done) | (simp; omega) | omega) _))
                · skip
                  by_cases h8 : 100 < q
                  · have g0 : (betwI x 1 65535 && betwI y 1 65535) = true := by unfold betwI; simp; omega
                    have g1 : decide (wrap64 (x * y) ≤ 67108864) = true := by simp; omega
                    have g2 : betwI m 1 4 = true := by unfold betwI; simp; omega
                    have g3 : betwI q 1 100 = false := by unfold betwI; simp; omega
                    have e : checkI x y m q i c = 12 := by unfold checkI; rw [if_neg (by rw [g0]; decide), if_neg (by rw [g1]; decide), if_neg (by rw [g2]; decide), if_pos g3]
                    clear g0 g1 g2 g3
                    have d0 : decide (x < 1) = false := by simp; omega
                    have d1 : decide (65535 < x) = false := by simp; omega
                    have d2 : decide (y < 1) = false := by simp; omega
                    have d3 : decide (65535 < y) = false := by simp; omega
                    have d4 : decide (67108864 < wrap64 (x * y)) = false := by simp; omega
                    have d5 : decide (m < 1) = false := by simp; omega
                    have d6 : decide (4 < m) = false := by simp; omega
                    have d7 : decide (q < 1) = false := by simp; omega
                    have d8 : decide (100 < q) = true := by simp; omega
                    go_enter Try.func53, Try.ntmps53
                    go_wp2_with (first
                      | (go_at_call 54; refine (rslot_ _ _ _ _ _ _ _).mono ?_; rintro e W1 ⟨rfl, hb1⟩; obtain ⟨hc1, hf1, hz1⟩ := bcell hb1; try simp at hz1)
                      | (refine wp_region_calm (by kernel_rfl) (by kernel_rfl) ?_; repeat (first | go_big_quiet_step ((first | (go_at_call 54; exact calm_call (rslot_ _ _ _ _ _ _ _)))) | quiet_step ((first | (go_at_call 54; exact calm_call (rslot_ _ _ _ _ _ _ _)))))
                         refine wpQuiet_nil ?_; intro u; have hzu := u.below.size; try simp at hzu))
                    all_goals go_ret
                    all_goals refine ⟨by first | rfl | exact ret_int e.symm, ?_⟩
                    all_goals (repeat (first | exact gr0 _ | refine gr1 ?_ _ | refine gr2 ?_ (Later.below _) | refine gr2 ?_ (by assumption) | refine gr3 ?_ | refine gr4 ?_ (by first | (simp; done) | (simp; omega) | omega) _))
                  · skip
                    by_cases h9 : i < 1
                    · have g0 : (betwI x 1 65535 && betwI y 1 65535) = true := by unfold betwI; simp; omega
                      have g1 : decide (wrap64 (x * y) ≤ 67108864) = true := by simp; omega
                      have g2 : betwI m 1 4 = true := by unfold betwI; simp; omega
                      have g3 : betwI q 1 100 = true := by unfold betwI; simp; omega
                      have g4 : betwI i 1 65535 = false := by unfold betwI; simp; omega
                      have e : checkI x y m q i c = 13 := by unfold checkI; rw [if_neg (by rw [g0]; decide), if_neg (by rw [g1]; decide), if_neg (by rw [g2]; decide), if_neg (by rw [g3]; decide), if_pos g4]
                      clear g0 g1 g2 g3 g4
                      have d0 : decide (x < 1) = false := by simp; omega
                      have d1 : decide (65535 < x) = false := by simp; omega
                      have d2 : decide (y < 1) = false := by simp; omega
                      have d3 : decide (65535 < y) = false := by simp; omega
                      have d4 : decide (67108864 < wrap64 (x * y)) = false := by simp; omega
                      have d5 : decide (m < 1) = false := by simp; omega
                      have d6 : decide (4 < m) = false := by simp; omega
                      have d7 : decide (q < 1) = false := by simp; omega
                      have d8 : decide (100 < q) = false := by simp; omega
                      have d9 : decide (i < 1) = true := by simp; omega
                      go_enter Try.func53, Try.ntmps53
                      go_wp2_with (first
                        | (go_at_call 54; refine (rslot_ _ _ _ _ _ _ _).mono ?_; rintro e W1 ⟨rfl, hb1⟩; obtain ⟨hc1, hf1, hz1⟩ := bcell hb1; try simp at hz1)
                        | (refine wp_region_calm (by kernel_rfl) (by kernel_rfl) ?_; repeat (first | go_big_quiet_step ((first | (go_at_call 54; exact calm_call (rslot_ _ _ _ _ _ _ _)))) | quiet_step ((first | (go_at_call 54; exact calm_call (rslot_ _ _ _ _ _ _ _)))))
                           refine wpQuiet_nil ?_; intro u; have hzu := u.below.size; try simp at hzu))
                      all_goals go_ret
                      all_goals refine ⟨by first | rfl | exact ret_int e.symm, ?_⟩
                      all_goals (repeat (first | exact gr0 _ | refine gr1 ?_ _ | refine gr2 ?_ (Later.below _) | refine gr2 ?_ (by assumption) | refine gr3 ?_ | refine gr4 ?_ (by first | (simp; done) | (simp; omega) | omega) _))
                    · skip
                      by_cases h10 : 65535 < i
                      · have g0 : (betwI x 1 65535 && betwI y 1 65535) = true := by unfold betwI; simp; omega
                        have g1 : decide (wrap64 (x * y) ≤ 67108864) = true := by simp; omega
                        have g2 : betwI m 1 4 = true := by unfold betwI; simp; omega
                        have g3 : betwI q 1 100 = true := by unfold betwI; simp; omega
                        have g4 : betwI i 1 65535 = false := by unfold betwI; simp; omega
                        have e : checkI x y m q i c = 13 := by unfold checkI; rw [if_neg (by rw [g0]; decide), if_neg (by rw [g1]; decide), if_neg (by rw [g2]; decide), if_neg (by rw [g3]; decide), if_pos g4]
                        clear g0 g1 g2 g3 g4
                        have d0 : decide (x < 1) = false := by simp; omega
                        have d1 : decide (65535 < x) = false := by simp; omega
                        have d2 : decide (y < 1) = false := by simp; omega
                        have d3 : decide (65535 < y) = false := by simp; omega
                        have d4 : decide (67108864 < wrap64 (x * y)) = false := by simp; omega
                        have d5 : decide (m < 1) = false := by simp; omega
                        have d6 : decide (4 < m) = false := by simp; omega
                        have d7 : decide (q < 1) = false := by simp; omega
                        have d8 : decide (100 < q) = false := by simp; omega
                        have d9 : decide (i < 1) = false := by simp; omega
                        have d10 : decide (65535 < i) = true := by simp; omega
                        go_enter Try.func53, Try.ntmps53
                        go_wp2_with (first
                          | (go_at_call 54; refine (rslot_ _ _ _ _ _ _ _).mono ?_; rintro e W1 ⟨rfl, hb1⟩; obtain ⟨hc1, hf1, hz1⟩ := bcell hb1; try simp at hz1)
                          | (refine wp_region_calm (by kernel_rfl) (by kernel_rfl) ?_; repeat (first | go_big_quiet_step ((first | (go_at_call 54; exact calm_call (rslot_ _ _ _ _ _ _ _)))) | quiet_step ((first | (go_at_call 54; exact calm_call (rslot_ _ _ _ _ _ _ _)))))
                             refine wpQuiet_nil ?_; intro u; have hzu := u.below.size; try simp at hzu))
                        all_goals go_ret
                        all_goals refine ⟨by first | rfl | exact ret_int e.symm, ?_⟩
                        all_goals (repeat (first | exact gr0 _ | refine gr1 ?_ _ | refine gr2 ?_ (Later.below _) | refine gr2 ?_ (by assumption) | refine gr3 ?_ | refine gr4 ?_ (by first | (simp; done) | (simp; omega) | omega) _))
                      · skip
                        by_cases h11 : c < 0
                        · have g0 : (betwI x 1 65535 && betwI y 1 65535) = true := by unfold betwI; simp; omega
                          have g1 : decide (wrap64 (x * y) ≤ 67108864) = true := by simp; omega
                          have g2 : betwI m 1 4 = true := by unfold betwI; simp; omega
                          have g3 : betwI q 1 100 = true := by unfold betwI; simp; omega
                          have g4 : betwI i 1 65535 = true := by unfold betwI; simp; omega
                          have g5 : betwI c 0 3 = false := by unfold betwI; simp; omega
                          have e : checkI x y m q i c = 14 := by unfold checkI; rw [if_neg (by rw [g0]; decide), if_neg (by rw [g1]; decide), if_neg (by rw [g2]; decide), if_neg (by rw [g3]; decide), if_neg (by rw [g4]; decide), if_pos g5]
                          clear g0 g1 g2 g3 g4 g5
                          have d0 : decide (x < 1) = false := by simp; omega
                          have d1 : decide (65535 < x) = false := by simp; omega
                          have d2 : decide (y < 1) = false := by simp; omega
                          have d3 : decide (65535 < y) = false := by simp; omega
                          have d4 : decide (67108864 < wrap64 (x * y)) = false := by simp; omega
                          have d5 : decide (m < 1) = false := by simp; omega
                          have d6 : decide (4 < m) = false := by simp; omega
                          have d7 : decide (q < 1) = false := by simp; omega
                          have d8 : decide (100 < q) = false := by simp; omega
                          have d9 : decide (i < 1) = false := by simp; omega
                          have d10 : decide (65535 < i) = false := by simp; omega
                          have d11 : decide (c < 0) = true := by simp; omega
                          go_enter Try.func53, Try.ntmps53
                          go_wp2_with (first
                            | (go_at_call 54; refine (rslot_ _ _ _ _ _ _ _).mono ?_; rintro e W1 ⟨rfl, hb1⟩; obtain ⟨hc1, hf1, hz1⟩ := bcell hb1; try simp at hz1)
                            | (refine wp_region_calm (by kernel_rfl) (by kernel_rfl) ?_; repeat (first | go_big_quiet_step ((first | (go_at_call 54; exact calm_call (rslot_ _ _ _ _ _ _ _)))) | quiet_step ((first | (go_at_call 54; exact calm_call (rslot_ _ _ _ _ _ _ _)))))
                               refine wpQuiet_nil ?_; intro u; have hzu := u.below.size; try simp at hzu))
                          all_goals go_ret
                          all_goals refine ⟨by first | rfl | exact ret_int e.symm, ?_⟩
                          all_goals (repeat (first | exact gr0 _ | refine gr1 ?_ _ | refine gr2 ?_ (Later.below _) | refine gr2 ?_ (by assumption) | refine gr3 ?_ | refine gr4 ?_ (by first | (simp; done) | (simp; omega) | omega) _))
                        · skip
                          by_cases h12 : 3 < c
                          · have g0 : (betwI x 1 65535 && betwI y 1 65535) = true := by unfold betwI; simp; omega
                            have g1 : decide (wrap64 (x * y) ≤ 67108864) = true := by simp; omega
                            have g2 : betwI m 1 4 = true := by unfold betwI; simp; omega
                            have g3 : betwI q 1 100 = true := by unfold betwI; simp; omega
                            have g4 : betwI i 1 65535 = true := by unfold betwI; simp; omega
                            have g5 : betwI c 0 3 = false := by unfold betwI; simp; omega
                            have e : checkI x y m q i c = 14 := by unfold checkI; rw [if_neg (by rw [g0]; decide), if_neg (by rw [g1]; decide), if_neg (by rw [g2]; decide), if_neg (by rw [g3]; decide), if_neg (by rw [g4]; decide), if_pos g5]
                            clear g0 g1 g2 g3 g4 g5
                            have d0 : decide (x < 1) = false := by simp; omega
                            have d1 : decide (65535 < x) = false := by simp; omega
                            have d2 : decide (y < 1) = false := by simp; omega
                            have d3 : decide (65535 < y) = false := by simp; omega
                            have d4 : decide (67108864 < wrap64 (x * y)) = false := by simp; omega
                            have d5 : decide (m < 1) = false := by simp; omega
                            have d6 : decide (4 < m) = false := by simp; omega
                            have d7 : decide (q < 1) = false := by simp; omega
                            have d8 : decide (100 < q) = false := by simp; omega
                            have d9 : decide (i < 1) = false := by simp; omega
                            have d10 : decide (65535 < i) = false := by simp; omega
                            have d11 : decide (c < 0) = false := by simp; omega
                            have d12 : decide (3 < c) = true := by simp; omega
                            go_enter Try.func53, Try.ntmps53
                            go_wp2_with (first
                              | (go_at_call 54; refine (rslot_ _ _ _ _ _ _ _).mono ?_; rintro e W1 ⟨rfl, hb1⟩; obtain ⟨hc1, hf1, hz1⟩ := bcell hb1; try simp at hz1)
                              | (refine wp_region_calm (by kernel_rfl) (by kernel_rfl) ?_; repeat (first | go_big_quiet_step ((first | (go_at_call 54; exact calm_call (rslot_ _ _ _ _ _ _ _)))) | quiet_step ((first | (go_at_call 54; exact calm_call (rslot_ _ _ _ _ _ _ _)))))
                                 refine wpQuiet_nil ?_; intro u; have hzu := u.below.size; try simp at hzu))
                            all_goals go_ret
                            all_goals refine ⟨by first | rfl | exact ret_int e.symm, ?_⟩
                            all_goals (repeat (first | exact gr0 _ | refine gr1 ?_ _ | refine gr2 ?_ (Later.below _) | refine gr2 ?_ (by assumption) | refine gr3 ?_ | refine gr4 ?_ (by first | (simp; done) | (simp; omega) | omega) _))
                          · skip
                            by_cases h13 : 1048576 < slotI x y m i c
                            · have g0 : (betwI x 1 65535 && betwI y 1 65535) = true := by unfold betwI; simp; omega
                              have g1 : decide (wrap64 (x * y) ≤ 67108864) = true := by simp; omega
                              have g2 : betwI m 1 4 = true := by unfold betwI; simp; omega
                              have g3 : betwI q 1 100 = true := by unfold betwI; simp; omega
                              have g4 : betwI i 1 65535 = true := by unfold betwI; simp; omega
                              have g5 : betwI c 0 3 = true := by unfold betwI; simp; omega
                              have g6 : decide (slotI x y m i c ≤ 1048576) = false := by simp; omega
                              have e : checkI x y m q i c = 3 := by unfold checkI; rw [if_neg (by rw [g0]; decide), if_neg (by rw [g1]; decide), if_neg (by rw [g2]; decide), if_neg (by rw [g3]; decide), if_neg (by rw [g4]; decide), if_neg (by rw [g5]; decide), if_pos g6]
                              clear g0 g1 g2 g3 g4 g5 g6
                              have d0 : decide (x < 1) = false := by simp; omega
                              have d1 : decide (65535 < x) = false := by simp; omega
                              have d2 : decide (y < 1) = false := by simp; omega
                              have d3 : decide (65535 < y) = false := by simp; omega
                              have d4 : decide (67108864 < wrap64 (x * y)) = false := by simp; omega
                              have d5 : decide (m < 1) = false := by simp; omega
                              have d6 : decide (4 < m) = false := by simp; omega
                              have d7 : decide (q < 1) = false := by simp; omega
                              have d8 : decide (100 < q) = false := by simp; omega
                              have d9 : decide (i < 1) = false := by simp; omega
                              have d10 : decide (65535 < i) = false := by simp; omega
                              have d11 : decide (c < 0) = false := by simp; omega
                              have d12 : decide (3 < c) = false := by simp; omega
                              have d13 : decide (1048576 < slotI x y m i c) = true := by simp; omega
                              go_enter Try.func53, Try.ntmps53
                              go_wp2_with (first
                                | (go_at_call 54; refine (rslot_ _ _ _ _ _ _ _).mono ?_; rintro e W1 ⟨rfl, hb1⟩; obtain ⟨hc1, hf1, hz1⟩ := bcell hb1; try simp at hz1)
                                | (refine wp_region_calm (by kernel_rfl) (by kernel_rfl) ?_; repeat (first | go_big_quiet_step ((first | (go_at_call 54; exact calm_call (rslot_ _ _ _ _ _ _ _)))) | quiet_step ((first | (go_at_call 54; exact calm_call (rslot_ _ _ _ _ _ _ _)))))
                                   refine wpQuiet_nil ?_; intro u; have hzu := u.below.size; try simp at hzu))
                              all_goals go_ret
                              all_goals refine ⟨by first | rfl | exact ret_int e.symm, ?_⟩
                              all_goals (repeat (first | exact gr0 _ | refine gr1 ?_ _ | refine gr2 ?_ (Later.below _) | refine gr2 ?_ (by assumption) | refine gr3 ?_ | refine gr4 ?_ (by first | (simp; done) | (simp; omega) | omega) _))
                            · skip
                              have g0 : (betwI x 1 65535 && betwI y 1 65535) = true := by unfold betwI; simp; omega
                              have g1 : decide (wrap64 (x * y) ≤ 67108864) = true := by simp; omega
                              have g2 : betwI m 1 4 = true := by unfold betwI; simp; omega
                              have g3 : betwI q 1 100 = true := by unfold betwI; simp; omega
                              have g4 : betwI i 1 65535 = true := by unfold betwI; simp; omega
                              have g5 : betwI c 0 3 = true := by unfold betwI; simp; omega
                              have g6 : decide (slotI x y m i c ≤ 1048576) = true := by simp; omega
                              have e : checkI x y m q i c = 0 := by unfold checkI; rw [if_neg (by rw [g0]; decide), if_neg (by rw [g1]; decide), if_neg (by rw [g2]; decide), if_neg (by rw [g3]; decide), if_neg (by rw [g4]; decide), if_neg (by rw [g5]; decide), if_neg (by rw [g6]; decide)]
                              clear g0 g1 g2 g3 g4 g5 g6
                              have d0 : decide (x < 1) = false := by simp; omega
                              have d1 : decide (65535 < x) = false := by simp; omega
                              have d2 : decide (y < 1) = false := by simp; omega
                              have d3 : decide (65535 < y) = false := by simp; omega
                              have d4 : decide (67108864 < wrap64 (x * y)) = false := by simp; omega
                              have d5 : decide (m < 1) = false := by simp; omega
                              have d6 : decide (4 < m) = false := by simp; omega
                              have d7 : decide (q < 1) = false := by simp; omega
                              have d8 : decide (100 < q) = false := by simp; omega
                              have d9 : decide (i < 1) = false := by simp; omega
                              have d10 : decide (65535 < i) = false := by simp; omega
                              have d11 : decide (c < 0) = false := by simp; omega
                              have d12 : decide (3 < c) = false := by simp; omega
                              have d13 : decide (1048576 < slotI x y m i c) = false := by simp; omega
                              go_enter Try.func53, Try.ntmps53
                              go_wp2_with (first
                                | (go_at_call 54; refine (rslot_ _ _ _ _ _ _ _).mono ?_; rintro e W1 ⟨rfl, hb1⟩; obtain ⟨hc1, hf1, hz1⟩ := bcell hb1; try simp at hz1)
                                | (refine wp_region_calm (by kernel_rfl) (by kernel_rfl) ?_; repeat (first | go_big_quiet_step ((first | (go_at_call 54; exact calm_call (rslot_ _ _ _ _ _ _ _)))) | quiet_step ((first | (go_at_call 54; exact calm_call (rslot_ _ _ _ _ _ _ _)))))
                                   refine wpQuiet_nil ?_; intro u; have hzu := u.below.size; try simp at hzu))
                              all_goals go_ret
                              all_goals refine ⟨by first | rfl | exact ret_int e.symm, ?_⟩
                              all_goals (repeat (first | exact gr0 _ | refine gr1 ?_ _ | refine gr2 ?_ (Later.below _) | refine gr2 ?_ (by assumption) | refine gr3 ?_ | refine gr4 ?_ (by first | (simp; done) | (simp; omega) | omega) _))

end Go.Proofs.Ytdpiikpodcanjaa
