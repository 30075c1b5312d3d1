/- Slots: what the numbers come to. -/
import Derived.Test.YtdpiikpodcanjaaParts
import Derived.Test.YtdpiikpodcanjaaHid
namespace Go.Proofs.Ytdpiikpodcanjaa
open Go.RowKit

def partsN (m : Int) : Nat := if m = 1 then 1 else if m = 2 then 3 else if m = 3 then 4 else if m = 4 then 6 else 0
theorem partsN_0 {m : Int} (h1 : m ≠ 1) (h2 : m ≠ 2) (h3 : m ≠ 3) (h4 : m ≠ 4) : partsN m = 0 := by unfold partsN; rw [if_neg h1, if_neg h2, if_neg h3, if_neg h4]
theorem partsN_le (m : Int) : (partsN m : Int) ≤ 6 := by unfold partsN; repeat' split
                                                         all_goals decide
theorem own_len {w : World} {base : Nat} {e : TypeId} {size : Nat} {v : Value} {n : Nat} {xs : List Value} (h : w.ownsRow base e size v n xs) : ∃ p c, v = .slice p n c := by
  rcases h.2 with ⟨h1, h2⟩ | ⟨g, cap, cur, hv, _⟩
  · subst h2; exact ⟨_, _, h1⟩
  · exact ⟨_, _, hv⟩
theorem ncell2 {w W : World} {g : Nat} {z : Array Value} {t : TypeId} (hb : Below w.heap.size w W) (hh : W.heap[g]? = some (.cells z t (0, 0))) :
    (∀ b o, W.cell? ⟨b, o, none⟩ = if b = g then z[o]? else if b < w.heap.size then w.cell? ⟨b, o, none⟩ else Elsewhere W b o) ∧
    (∀ b o, W.frozen? ⟨b, o, none⟩ = (if b = g then some false else if b < w.heap.size then some (w.frozen? ⟨b, o, none⟩) else none).getD (Unmarked W b o)) ∧ w.heap.size ≤ W.heap.size ∧ g < W.heap.size := by
  obtain ⟨h1, h2, h3⟩ := bcell hb
  refine ⟨fun b o => ?_, fun b o => ?_, h3, lt_of_heap hh⟩
  · split
    · rename_i h; subst h; simp [World.cell?, hh]
    · exact h1 b o
  · split
    · rename_i h; subst h; simp [World.frozen?, hh]
    · exact h2 b o
def mcusI (x y m : Int) : Int := gridA x y m * gridB x y m
theorem grid_in (x y m : Int) : (0 ≤ gridA x y m ∧ gridA x y m ≤ 65535) ∧ 0 ≤ gridB x y m ∧ gridB x y m ≤ 65535 := by
  by_cases h : gridOk x y m
  · obtain ⟨e1, e2⟩ := grid_ok h
    rw [e1, e2]
    obtain ⟨_, ⟨h1, h2⟩, h3, h4⟩ := h
    have := ceil_lo x (sideW m); have := ceil_lo y (sideH m)
    have := ceil_le (n := x) (d := sideW m) (by omega); have := ceil_le (n := y) (d := sideH m) (by omega)
    omega
  · obtain ⟨e1, e2⟩ := grid_no h; rw [e1, e2]; omega
theorem mcus_in (x y m : Int) : 0 ≤ mcusI x y m ∧ mcusI x y m ≤ 4294836225 := by
  obtain ⟨⟨h1, h2⟩, h3, h4⟩ := grid_in x y m
  unfold mcusI
  refine ⟨Int.mul_nonneg h1 h3, ?_⟩
  have := Int.mul_le_mul h2 h4 h3 (by omega)
  omega
def intervalsI (x y m i : Int) : Int := if i < 1 ∨ 65535 < i then 0 else ceilI (mcusI x y m) i
theorem intervals_in (x y m i : Int) : 0 ≤ intervalsI x y m i ∧ intervalsI x y m i ≤ 4294836225 := by
  have h := mcus_in x y m
  unfold intervalsI; split
  · omega
  · have := ceil_lo (mcusI x y m) i; have := ceil_le (n := mcusI x y m) (d := i) h.1; omega
def minI (a b : Int) : Int := if b < a then b else a
def blocksI (x y m i k : Int) : Int := if k < 0 ∨ intervalsI x y m i ≤ k then 0 else minI i (mcusI x y m - k * i) * partsN m
theorem ret_mul {a b : Int} (h : a = b) : Ending.returned (.int .i64 a) = .returned (.int .i64 b) := by rw [h]

theorem parts_len (m : Int) (w : World) :
    Calls Try.prog 30 #[.int .i64 m] w fun e w' => ∃ p c, e = .returned (.slice p (partsN m) c) ∧ Below w.heap.size w w' := by
  rcases mode_cases m with rfl | rfl | rfl | rfl | ⟨h1, h2, h3, h4⟩
  · exact (parts_1 w).mono fun e w' ⟨v, he, hb, ho⟩ => by
      obtain ⟨p, c, rfl⟩ := own_len ho
      exact ⟨p, c, he, hb⟩
  · exact (parts_2 w).mono fun e w' ⟨v, he, hb, ho⟩ => by
      obtain ⟨p, c, rfl⟩ := own_len ho
      exact ⟨p, c, he, hb⟩
  · exact (parts_3 w).mono fun e w' ⟨v, he, hb, ho⟩ => by
      obtain ⟨p, c, rfl⟩ := own_len ho
      exact ⟨p, c, he, hb⟩
  · exact (parts_4 w).mono fun e w' ⟨v, he, hb, ho⟩ => by
      obtain ⟨p, c, rfl⟩ := own_len ho
      exact ⟨p, c, he, hb⟩
  · exact (parts_0 m w h1 h2 h3 h4).mono fun e w' ⟨he, hb⟩ => ⟨none, 0, by rw [he, partsN_0 h1 h2 h3 h4], hb⟩

theorem rparts_len (m : Int) (w : World) :
    Calls Try.prog 59 #[.int .i64 m] w fun e w' => ∃ p c, e = .returned (.slice p (partsN m) c) ∧ Below w.heap.size w w' := by
  rcases mode_cases m with rfl | rfl | rfl | rfl | ⟨h1, h2, h3, h4⟩
  · exact (rparts_1 w).mono fun e w' ⟨v, he, hb, ho⟩ => by
      obtain ⟨p, c, rfl⟩ := own_len ho
      exact ⟨p, c, he, hb⟩
  · exact (rparts_2 w).mono fun e w' ⟨v, he, hb, ho⟩ => by
      obtain ⟨p, c, rfl⟩ := own_len ho
      exact ⟨p, c, he, hb⟩
  · exact (rparts_3 w).mono fun e w' ⟨v, he, hb, ho⟩ => by
      obtain ⟨p, c, rfl⟩ := own_len ho
      exact ⟨p, c, he, hb⟩
  · exact (rparts_4 w).mono fun e w' ⟨v, he, hb, ho⟩ => by
      obtain ⟨p, c, rfl⟩ := own_len ho
      exact ⟨p, c, he, hb⟩
  · exact (rparts_0 m w h1 h2 h3 h4).mono fun e w' ⟨he, hb⟩ => ⟨none, 0, by rw [he, partsN_0 h1 h2 h3 h4], hb⟩

theorem between_ok (n l u : Int) (w : World) (h1 : l ≤ n) (h2 : n ≤ u) :
    Calls Try.prog 47 #[.int .i64 n, .int .i64 l, .int .i64 u] w fun e w' => e = .returned (.bool true) ∧ Below w.heap.size w w' := by
  have e1 : decide (l ≤ n) = true := by simpa using h1
  have e2 : decide (n ≤ u) = true := by simpa using h2
  go_enter Try.func47, Try.ntmps47
  go_wp2_with (first
    | (refine wp_region_calm (by kernel_rfl) (by kernel_rfl) ?_; repeat (first | go_big_quiet_step (fail) | quiet_step (fail))
       refine wpQuiet_nil ?_; intro u; have hzu := u.below.size; try simp at hzu))
  all_goals go_ret
  all_goals refine ⟨rfl, ?_⟩
  all_goals (repeat (first | exact gr0 _ | refine gr1 ?_ _ | refine gr2 ?_ (Later.below _) | refine gr2 ?_ (by assumption) | refine gr3 ?_ | refine gr4 ?_ (by first | (simp; done) | (simp; omega) | omega) _))

theorem between_lo (n l u : Int) (w : World) (h1 : n < l) :
    Calls Try.prog 47 #[.int .i64 n, .int .i64 l, .int .i64 u] w fun e w' => e = .returned (.bool false) ∧ Below w.heap.size w w' := by
  have e1 : decide (l ≤ n) = false := by simpa using h1
  go_enter Try.func47, Try.ntmps47
  go_wp2_with (first
    | (refine wp_region_calm (by kernel_rfl) (by kernel_rfl) ?_; repeat (first | go_big_quiet_step (fail) | quiet_step (fail))
       refine wpQuiet_nil ?_; intro u; have hzu := u.below.size; try simp at hzu))
  all_goals go_ret
  all_goals refine ⟨rfl, ?_⟩
  all_goals (repeat (first | exact gr0 _ | refine gr1 ?_ _ | refine gr2 ?_ (Later.below _) | refine gr2 ?_ (by assumption) | refine gr3 ?_ | refine gr4 ?_ (by first | (simp; done) | (simp; omega) | omega) _))

theorem between_hi (n l u : Int) (w : World) (h1 : u < n) :
    Calls Try.prog 47 #[.int .i64 n, .int .i64 l, .int .i64 u] w fun e w' => e = .returned (.bool false) ∧ Below w.heap.size w w' := by
  have e2 : decide (n ≤ u) = false := by simpa using h1
  go_enter Try.func47, Try.ntmps47
  go_wp2_with (first
    | (refine wp_region_calm (by kernel_rfl) (by kernel_rfl) ?_; repeat (first | go_big_quiet_step (fail) | quiet_step (fail))
       refine wpQuiet_nil ?_; intro u; have hzu := u.below.size; try simp at hzu))
  all_goals go_ret
  all_goals refine ⟨by simp [*], ?_⟩
  all_goals (repeat (first | exact gr0 _ | refine gr1 ?_ _ | refine gr2 ?_ (Later.below _) | refine gr2 ?_ (by assumption) | refine gr3 ?_ | refine gr4 ?_ (by first | (simp; done) | (simp; omega) | omega) _))

set_option maxHeartbeats 2000000 in
theorem mcus_ (x y m q i c : Int) (w : World) :
    Calls Try.prog 62 #[.agg #[.int .i64 x, .int .i64 y, .int .i64 m, .int .i64 q, .int .i64 i, .int .i64 c]] w fun e w' => e = .returned (.int .i64 (mcusI x y m)) ∧ Below w.heap.size w w' := by
  have hm := mcus_in x y m
  have hw : wrap64 (gridA x y m * gridB x y m) = mcusI x y m := w64 (by unfold mcusI at hm; omega) (by unfold mcusI at hm; omega)
  go_enter Try.func62, Try.ntmps62
  go_wp2_with (first
    | (go_at_call 84; refine (Grid_ _ _ _ _ _ _ _).mono ?_; rintro e W1 ⟨rfl, hb1⟩; obtain ⟨hc1, hf1, hz1⟩ := bcell hb1; try simp at hz1)
    | (refine wp_region_calm (by kernel_rfl) (by kernel_rfl) ?_; repeat (first | go_big_quiet_step ((first | (go_at_call 84; exact calm_call (Grid_ _ _ _ _ _ _ _)))) | quiet_step ((first | (go_at_call 84; exact calm_call (Grid_ _ _ _ _ _ _ _)))))
       refine wpQuiet_nil ?_; intro u; have hzu := u.below.size; try simp at hzu))
  go_ret
  refine ⟨by first | rfl | exact ret_int hw, ?_⟩
  repeat (first | exact gr0 _ | refine gr1 ?_ _ | refine gr2 ?_ (Later.below _) | refine gr2 ?_ (by assumption) | refine gr3 ?_ | refine gr4 ?_ (by first | (simp; done) | (simp; omega) | omega) _)

set_option maxHeartbeats 2000000 in
theorem rmcus_ (x y m q i c : Int) (w : World) :
    Calls Try.prog 78 #[.agg #[.int .i64 x, .int .i64 y, .int .i64 m, .int .i64 q, .int .i64 i, .int .i64 c]] w fun e w' => e = .returned (.int .i64 (mcusI x y m)) ∧ Below w.heap.size w w' := by
  have hm := mcus_in x y m
  have hw : wrap64 (gridA x y m * gridB x y m) = mcusI x y m := w64 (by unfold mcusI at hm; omega) (by unfold mcusI at hm; omega)
  go_enter Try.func78, Try.ntmps78
  go_wp2_with (first
    | (go_at_call 94; refine (rGrid_ _ _ _ _ _ _ _).mono ?_; rintro e W1 ⟨rfl, hb1⟩; obtain ⟨hc1, hf1, hz1⟩ := bcell hb1; try simp at hz1)
    | (refine wp_region_calm (by kernel_rfl) (by kernel_rfl) ?_; repeat (first | go_big_quiet_step ((first | (go_at_call 94; exact calm_call (rGrid_ _ _ _ _ _ _ _)))) | quiet_step ((first | (go_at_call 94; exact calm_call (rGrid_ _ _ _ _ _ _ _)))))
       refine wpQuiet_nil ?_; intro u; have hzu := u.below.size; try simp at hzu))
  go_ret
  refine ⟨by first | rfl | exact ret_int hw, ?_⟩
  repeat (first | exact gr0 _ | refine gr1 ?_ _ | refine gr2 ?_ (Later.below _) | refine gr2 ?_ (by assumption) | refine gr3 ?_ | refine gr4 ?_ (by first | (simp; done) | (simp; omega) | omega) _)

set_option maxHeartbeats 2000000 in
theorem intervals_ (x y m q i c : Int) (w : World) :
    Calls Try.prog 34 #[.agg #[.int .i64 x, .int .i64 y, .int .i64 m, .int .i64 q, .int .i64 i, .int .i64 c]] w fun e w' => e = .returned (.int .i64 (intervalsI x y m i)) ∧ Below w.heap.size w w' := by
  by_cases h1 : i < 1
  · have e : intervalsI x y m i = 0 := by unfold intervalsI; rw [if_pos (by omega)]
    have d1 : decide (i < 1) = true := by simp; omega
    go_enter Try.func34, Try.ntmps34
    go_wp2_with (first
      | (go_at_call 47; refine (between_ok _ _ _ _ ‹_› ‹_›).mono ?_; rintro e W1 ⟨rfl, hb1⟩; obtain ⟨hc1, hf1, hz1⟩ := bcell hb1; try simp at hz1)
      | (go_at_call 47; refine (between_lo _ _ _ _ ‹_›).mono ?_; rintro e W1 ⟨rfl, hb1⟩; obtain ⟨hc1, hf1, hz1⟩ := bcell hb1; try simp at hz1)
      | (go_at_call 47; refine (between_hi _ _ _ _ ‹_›).mono ?_; rintro e W1 ⟨rfl, hb1⟩; obtain ⟨hc1, hf1, hz1⟩ := bcell hb1; try simp at hz1)
      | (go_at_call 62; refine (mcus_ _ _ _ _ _ _ _).mono ?_; rintro e W1 ⟨rfl, hb1⟩; obtain ⟨hc1, hf1, hz1⟩ := bcell hb1; try simp at hz1)
      | (go_at_call 61; refine (num_ceil _ _ _).mono ?_; rintro e W1 ⟨rfl, hb1⟩; obtain ⟨hc1, hf1, hz1⟩ := bcell hb1; try simp at hz1)
      | (refine wp_region_calm (by kernel_rfl) (by kernel_rfl) ?_; repeat (first | go_big_quiet_step ((first | (go_at_call 47; exact calm_call (between_ok _ _ _ _ ‹_› ‹_›)) | (go_at_call 47; exact calm_call (between_lo _ _ _ _ ‹_›)) | (go_at_call 47; exact calm_call (between_hi _ _ _ _ ‹_›)) | (go_at_call 62; exact calm_call (mcus_ _ _ _ _ _ _ _)) | (go_at_call 61; exact calm_call (num_ceil _ _ _)))) | quiet_step ((first | (go_at_call 47; exact calm_call (between_ok _ _ _ _ ‹_› ‹_›)) | (go_at_call 47; exact calm_call (between_lo _ _ _ _ ‹_›)) | (go_at_call 47; exact calm_call (between_hi _ _ _ _ ‹_›)) | (go_at_call 62; exact calm_call (mcus_ _ _ _ _ _ _ _)) | (go_at_call 61; exact calm_call (num_ceil _ _ _)))))
         refine wpQuiet_nil ?_; intro u; have hzu := u.below.size; try simp at hzu))
    all_goals go_ret
    all_goals refine ⟨by first | rfl | exact ret_int e.symm, ?_⟩
    all_goals (repeat (first | exact gr0 _ | refine gr1 ?_ _ | refine gr2 ?_ (Later.below _) | refine gr2 ?_ (by assumption) | refine gr3 ?_ | refine gr4 ?_ (by first | (simp; done) | (simp; omega) | omega) _))
  · skip
    by_cases h2 : 65535 < i
    · have e : intervalsI x y m i = 0 := by unfold intervalsI; rw [if_pos (by omega)]
      have d1 : decide (i < 1) = false := by simp; omega
      have d2 : decide (65535 < i) = true := by simp; omega
      go_enter Try.func34, Try.ntmps34
      go_wp2_with (first
        | (go_at_call 47; refine (between_ok _ _ _ _ ‹_› ‹_›).mono ?_; rintro e W1 ⟨rfl, hb1⟩; obtain ⟨hc1, hf1, hz1⟩ := bcell hb1; try simp at hz1)
        | (go_at_call 47; refine (between_lo _ _ _ _ ‹_›).mono ?_; rintro e W1 ⟨rfl, hb1⟩; obtain ⟨hc1, hf1, hz1⟩ := bcell hb1; try simp at hz1)
        | (go_at_call 47; refine (between_hi _ _ _ _ ‹_›).mono ?_; rintro e W1 ⟨rfl, hb1⟩; obtain ⟨hc1, hf1, hz1⟩ := bcell hb1; try simp at hz1)
        | (go_at_call 62; refine (mcus_ _ _ _ _ _ _ _).mono ?_; rintro e W1 ⟨rfl, hb1⟩; obtain ⟨hc1, hf1, hz1⟩ := bcell hb1; try simp at hz1)
        | (go_at_call 61; refine (num_ceil _ _ _).mono ?_; rintro e W1 ⟨rfl, hb1⟩; obtain ⟨hc1, hf1, hz1⟩ := bcell hb1; try simp at hz1)
        | (refine wp_region_calm (by kernel_rfl) (by kernel_rfl) ?_; repeat (first | go_big_quiet_step ((first | (go_at_call 47; exact calm_call (between_ok _ _ _ _ ‹_› ‹_›)) | (go_at_call 47; exact calm_call (between_lo _ _ _ _ ‹_›)) | (go_at_call 47; exact calm_call (between_hi _ _ _ _ ‹_›)) | (go_at_call 62; exact calm_call (mcus_ _ _ _ _ _ _ _)) | (go_at_call 61; exact calm_call (num_ceil _ _ _)))) | quiet_step ((first | (go_at_call 47; exact calm_call (between_ok _ _ _ _ ‹_› ‹_›)) | (go_at_call 47; exact calm_call (between_lo _ _ _ _ ‹_›)) | (go_at_call 47; exact calm_call (between_hi _ _ _ _ ‹_›)) | (go_at_call 62; exact calm_call (mcus_ _ _ _ _ _ _ _)) | (go_at_call 61; exact calm_call (num_ceil _ _ _)))))
           refine wpQuiet_nil ?_; intro u; have hzu := u.below.size; try simp at hzu))
      all_goals go_ret
      all_goals refine ⟨by first | rfl | exact ret_int e.symm, ?_⟩
      all_goals (repeat (first | exact gr0 _ | refine gr1 ?_ _ | refine gr2 ?_ (Later.below _) | refine gr2 ?_ (by assumption) | refine gr3 ?_ | refine gr4 ?_ (by first | (simp; done) | (simp; omega) | omega) _))
    · skip
      have e : intervalsI x y m i = ceilI (mcusI x y m) i := by unfold intervalsI; rw [if_neg (by omega)]
      have l1 : 1 ≤ i := by omega
      have l2 : i ≤ 65535 := by omega
      have d1 : decide (i < 1) = false := by simp; omega
      have d2 : decide (65535 < i) = false := by simp; omega
      go_enter Try.func34, Try.ntmps34
      go_wp2_with (first
        | (go_at_call 47; refine (between_ok _ _ _ _ ‹_› ‹_›).mono ?_; rintro e W1 ⟨rfl, hb1⟩; obtain ⟨hc1, hf1, hz1⟩ := bcell hb1; try simp at hz1)
        | (go_at_call 47; refine (between_lo _ _ _ _ ‹_›).mono ?_; rintro e W1 ⟨rfl, hb1⟩; obtain ⟨hc1, hf1, hz1⟩ := bcell hb1; try simp at hz1)
        | (go_at_call 47; refine (between_hi _ _ _ _ ‹_›).mono ?_; rintro e W1 ⟨rfl, hb1⟩; obtain ⟨hc1, hf1, hz1⟩ := bcell hb1; try simp at hz1)
        | (go_at_call 62; refine (mcus_ _ _ _ _ _ _ _).mono ?_; rintro e W1 ⟨rfl, hb1⟩; obtain ⟨hc1, hf1, hz1⟩ := bcell hb1; try simp at hz1)
        | (go_at_call 61; refine (num_ceil _ _ _).mono ?_; rintro e W1 ⟨rfl, hb1⟩; obtain ⟨hc1, hf1, hz1⟩ := bcell hb1; try simp at hz1)
        | (refine wp_region_calm (by kernel_rfl) (by kernel_rfl) ?_; repeat (first | go_big_quiet_step ((first | (go_at_call 47; exact calm_call (between_ok _ _ _ _ ‹_› ‹_›)) | (go_at_call 47; exact calm_call (between_lo _ _ _ _ ‹_›)) | (go_at_call 47; exact calm_call (between_hi _ _ _ _ ‹_›)) | (go_at_call 62; exact calm_call (mcus_ _ _ _ _ _ _ _)) | (go_at_call 61; exact calm_call (num_ceil _ _ _)))) | quiet_step ((first | (go_at_call 47; exact calm_call (between_ok _ _ _ _ ‹_› ‹_›)) | (go_at_call 47; exact calm_call (between_lo _ _ _ _ ‹_›)) | (go_at_call 47; exact calm_call (between_hi _ _ _ _ ‹_›)) | (go_at_call 62; exact calm_call (mcus_ _ _ _ _ _ _ _)) | (go_at_call 61; exact calm_call (num_ceil _ _ _)))))
           refine wpQuiet_nil ?_; intro u; have hzu := u.below.size; try simp at hzu))
      go_ret
      refine ⟨by first | rfl | exact ret_int e.symm, ?_⟩
      repeat (first | exact gr0 _ | refine gr1 ?_ _ | refine gr2 ?_ (Later.below _) | refine gr2 ?_ (by assumption) | refine gr3 ?_ | refine gr4 ?_ (by first | (simp; done) | (simp; omega) | omega) _)

set_option maxHeartbeats 2000000 in
theorem rintervals_ (x y m q i c : Int) (w : World) :
    Calls Try.prog 56 #[.agg #[.int .i64 x, .int .i64 y, .int .i64 m, .int .i64 q, .int .i64 i, .int .i64 c]] w fun e w' => e = .returned (.int .i64 (intervalsI x y m i)) ∧ Below w.heap.size w w' := by
  by_cases h1 : i < 1
  · have e : intervalsI x y m i = 0 := by unfold intervalsI; rw [if_pos (by omega)]
    have d1 : decide (i < 1) = true := by simp; omega
    go_enter Try.func56, Try.ntmps56
    go_wp2_with (first
      | (go_at_call 47; refine (between_ok _ _ _ _ ‹_› ‹_›).mono ?_; rintro e W1 ⟨rfl, hb1⟩; obtain ⟨hc1, hf1, hz1⟩ := bcell hb1; try simp at hz1)
      | (go_at_call 47; refine (between_lo _ _ _ _ ‹_›).mono ?_; rintro e W1 ⟨rfl, hb1⟩; obtain ⟨hc1, hf1, hz1⟩ := bcell hb1; try simp at hz1)
      | (go_at_call 47; refine (between_hi _ _ _ _ ‹_›).mono ?_; rintro e W1 ⟨rfl, hb1⟩; obtain ⟨hc1, hf1, hz1⟩ := bcell hb1; try simp at hz1)
      | (go_at_call 78; refine (rmcus_ _ _ _ _ _ _ _).mono ?_; rintro e W1 ⟨rfl, hb1⟩; obtain ⟨hc1, hf1, hz1⟩ := bcell hb1; try simp at hz1)
      | (go_at_call 82; refine (ref01_ceil _ _ _).mono ?_; rintro e W1 ⟨rfl, hb1⟩; obtain ⟨hc1, hf1, hz1⟩ := bcell hb1; try simp at hz1)
      | (refine wp_region_calm (by kernel_rfl) (by kernel_rfl) ?_; repeat (first | go_big_quiet_step ((first | (go_at_call 47; exact calm_call (between_ok _ _ _ _ ‹_› ‹_›)) | (go_at_call 47; exact calm_call (between_lo _ _ _ _ ‹_›)) | (go_at_call 47; exact calm_call (between_hi _ _ _ _ ‹_›)) | (go_at_call 78; exact calm_call (rmcus_ _ _ _ _ _ _ _)) | (go_at_call 82; exact calm_call (ref01_ceil _ _ _)))) | quiet_step ((first | (go_at_call 47; exact calm_call (between_ok _ _ _ _ ‹_› ‹_›)) | (go_at_call 47; exact calm_call (between_lo _ _ _ _ ‹_›)) | (go_at_call 47; exact calm_call (between_hi _ _ _ _ ‹_›)) | (go_at_call 78; exact calm_call (rmcus_ _ _ _ _ _ _ _)) | (go_at_call 82; exact calm_call (ref01_ceil _ _ _)))))
         refine wpQuiet_nil ?_; intro u; have hzu := u.below.size; try simp at hzu))
    all_goals go_ret
    all_goals refine ⟨by first | rfl | exact ret_int e.symm, ?_⟩
    all_goals (repeat (first | exact gr0 _ | refine gr1 ?_ _ | refine gr2 ?_ (Later.below _) | refine gr2 ?_ (by assumption) | refine gr3 ?_ | refine gr4 ?_ (by first | (simp; done) | (simp; omega) | omega) _))
  · skip
    by_cases h2 : 65535 < i
    · have e : intervalsI x y m i = 0 := by unfold intervalsI; rw [if_pos (by omega)]
      have d1 : decide (i < 1) = false := by simp; omega
      have d2 : decide (65535 < i) = true := by simp; omega
      go_enter Try.func56, Try.ntmps56
      go_wp2_with (first
        | (go_at_call 47; refine (between_ok _ _ _ _ ‹_› ‹_›).mono ?_; rintro e W1 ⟨rfl, hb1⟩; obtain ⟨hc1, hf1, hz1⟩ := bcell hb1; try simp at hz1)
        | (go_at_call 47; refine (between_lo _ _ _ _ ‹_›).mono ?_; rintro e W1 ⟨rfl, hb1⟩; obtain ⟨hc1, hf1, hz1⟩ := bcell hb1; try simp at hz1)
        | (go_at_call 47; refine (between_hi _ _ _ _ ‹_›).mono ?_; rintro e W1 ⟨rfl, hb1⟩; obtain ⟨hc1, hf1, hz1⟩ := bcell hb1; try simp at hz1)
        | (go_at_call 78; refine (rmcus_ _ _ _ _ _ _ _).mono ?_; rintro e W1 ⟨rfl, hb1⟩; obtain ⟨hc1, hf1, hz1⟩ := bcell hb1; try simp at hz1)
        | (go_at_call 82; refine (ref01_ceil _ _ _).mono ?_; rintro e W1 ⟨rfl, hb1⟩; obtain ⟨hc1, hf1, hz1⟩ := bcell hb1; try simp at hz1)
        | (refine wp_region_calm (by kernel_rfl) (by kernel_rfl) ?_; repeat (first | go_big_quiet_step ((first | (go_at_call 47; exact calm_call (between_ok _ _ _ _ ‹_› ‹_›)) | (go_at_call 47; exact calm_call (between_lo _ _ _ _ ‹_›)) | (go_at_call 47; exact calm_call (between_hi _ _ _ _ ‹_›)) | (go_at_call 78; exact calm_call (rmcus_ _ _ _ _ _ _ _)) | (go_at_call 82; exact calm_call (ref01_ceil _ _ _)))) | quiet_step ((first | (go_at_call 47; exact calm_call (between_ok _ _ _ _ ‹_› ‹_›)) | (go_at_call 47; exact calm_call (between_lo _ _ _ _ ‹_›)) | (go_at_call 47; exact calm_call (between_hi _ _ _ _ ‹_›)) | (go_at_call 78; exact calm_call (rmcus_ _ _ _ _ _ _ _)) | (go_at_call 82; exact calm_call (ref01_ceil _ _ _)))))
           refine wpQuiet_nil ?_; intro u; have hzu := u.below.size; try simp at hzu))
      all_goals go_ret
      all_goals refine ⟨by first | rfl | exact ret_int e.symm, ?_⟩
      all_goals (repeat (first | exact gr0 _ | refine gr1 ?_ _ | refine gr2 ?_ (Later.below _) | refine gr2 ?_ (by assumption) | refine gr3 ?_ | refine gr4 ?_ (by first | (simp; done) | (simp; omega) | omega) _))
    · skip
      have e : intervalsI x y m i = ceilI (mcusI x y m) i := by unfold intervalsI; rw [if_neg (by omega)]
      have l1 : 1 ≤ i := by omega
      have l2 : i ≤ 65535 := by omega
      have d1 : decide (i < 1) = false := by simp; omega
      have d2 : decide (65535 < i) = false := by simp; omega
      go_enter Try.func56, Try.ntmps56
      go_wp2_with (first
        | (go_at_call 47; refine (between_ok _ _ _ _ ‹_› ‹_›).mono ?_; rintro e W1 ⟨rfl, hb1⟩; obtain ⟨hc1, hf1, hz1⟩ := bcell hb1; try simp at hz1)
        | (go_at_call 47; refine (between_lo _ _ _ _ ‹_›).mono ?_; rintro e W1 ⟨rfl, hb1⟩; obtain ⟨hc1, hf1, hz1⟩ := bcell hb1; try simp at hz1)
        | (go_at_call 47; refine (between_hi _ _ _ _ ‹_›).mono ?_; rintro e W1 ⟨rfl, hb1⟩; obtain ⟨hc1, hf1, hz1⟩ := bcell hb1; try simp at hz1)
        | (go_at_call 78; refine (rmcus_ _ _ _ _ _ _ _).mono ?_; rintro e W1 ⟨rfl, hb1⟩; obtain ⟨hc1, hf1, hz1⟩ := bcell hb1; try simp at hz1)
        | (go_at_call 82; refine (ref01_ceil _ _ _).mono ?_; rintro e W1 ⟨rfl, hb1⟩; obtain ⟨hc1, hf1, hz1⟩ := bcell hb1; try simp at hz1)
        | (refine wp_region_calm (by kernel_rfl) (by kernel_rfl) ?_; repeat (first | go_big_quiet_step ((first | (go_at_call 47; exact calm_call (between_ok _ _ _ _ ‹_› ‹_›)) | (go_at_call 47; exact calm_call (between_lo _ _ _ _ ‹_›)) | (go_at_call 47; exact calm_call (between_hi _ _ _ _ ‹_›)) | (go_at_call 78; exact calm_call (rmcus_ _ _ _ _ _ _ _)) | (go_at_call 82; exact calm_call (ref01_ceil _ _ _)))) | quiet_step ((first | (go_at_call 47; exact calm_call (between_ok _ _ _ _ ‹_› ‹_›)) | (go_at_call 47; exact calm_call (between_lo _ _ _ _ ‹_›)) | (go_at_call 47; exact calm_call (between_hi _ _ _ _ ‹_›)) | (go_at_call 78; exact calm_call (rmcus_ _ _ _ _ _ _ _)) | (go_at_call 82; exact calm_call (ref01_ceil _ _ _)))))
           refine wpQuiet_nil ?_; intro u; have hzu := u.below.size; try simp at hzu))
      go_ret
      refine ⟨by first | rfl | exact ret_int e.symm, ?_⟩
      repeat (first | exact gr0 _ | refine gr1 ?_ _ | refine gr2 ?_ (Later.below _) | refine gr2 ?_ (by assumption) | refine gr3 ?_ | refine gr4 ?_ (by first | (simp; done) | (simp; omega) | omega) _)

set_option maxRecDepth 100000 in
set_option maxHeartbeats 2000000 in
theorem blocks_ (x y m q i c k : Int) (w : World) :
    Calls Try.prog 35 #[.agg #[.int .i64 x, .int .i64 y, .int .i64 m, .int .i64 q, .int .i64 i, .int .i64 c], .int .i64 k] w fun e w' => e = .returned (.int .i64 (blocksI x y m i k)) ∧ Below w.heap.size w w' := by
  have hv := intervals_in x y m i
  have kv : wrap64 (intervalsI x y m i - 1) = intervalsI x y m i - 1 := w64 (by omega) (by omega)
  by_cases h1 : k < 0
  · have e : blocksI x y m i k = 0 := by unfold blocksI; rw [if_pos (by omega)]
    go_enter Try.func35, Try.ntmps35
    go_wp2_with (first
      | (go_at_call 47; refine (between_ok _ _ _ _ ‹_› ‹_›).mono ?_; rintro e W1 ⟨rfl, hb1⟩; obtain ⟨hc1, hf1, hz1⟩ := bcell hb1; try simp at hz1)
      | (go_at_call 47; refine (between_lo _ _ _ _ ‹_›).mono ?_; rintro e W1 ⟨rfl, hb1⟩; obtain ⟨hc1, hf1, hz1⟩ := bcell hb1; try simp at hz1)
      | (go_at_call 47; refine (between_hi _ _ _ _ ‹_›).mono ?_; rintro e W1 ⟨rfl, hb1⟩; obtain ⟨hc1, hf1, hz1⟩ := bcell hb1; try simp at hz1)
      | (go_at_call 34; refine (intervals_ _ _ _ _ _ _ _).mono ?_; rintro e W1 ⟨rfl, hb1⟩; obtain ⟨hc1, hf1, hz1⟩ := bcell hb1; try simp at hz1)
      | (refine wp_region_calm (by kernel_rfl) (by kernel_rfl) ?_; repeat (first | go_big_quiet_step ((first | (go_at_call 47; exact calm_call (between_ok _ _ _ _ ‹_› ‹_›)) | (go_at_call 47; exact calm_call (between_lo _ _ _ _ ‹_›)) | (go_at_call 47; exact calm_call (between_hi _ _ _ _ ‹_›)) | (go_at_call 34; exact calm_call (intervals_ _ _ _ _ _ _ _)))) | quiet_step ((first | (go_at_call 47; exact calm_call (between_ok _ _ _ _ ‹_› ‹_›)) | (go_at_call 47; exact calm_call (between_lo _ _ _ _ ‹_›)) | (go_at_call 47; exact calm_call (between_hi _ _ _ _ ‹_›)) | (go_at_call 34; exact calm_call (intervals_ _ _ _ _ _ _ _)))))
         refine wpQuiet_nil ?_; intro u; have hzu := u.below.size; try simp at hzu))
    all_goals go_ret
    all_goals refine ⟨by first | rfl | exact ret_int e.symm, ?_⟩
    all_goals (repeat (first | exact gr0 _ | refine gr1 ?_ _ | refine gr2 ?_ (Later.below _) | refine gr2 ?_ (by assumption) | refine gr3 ?_ | refine gr4 ?_ (by first | (simp; done) | (simp; omega) | omega) _))
  · skip
    by_cases h2 : intervalsI x y m i - 1 < k
    · have e : blocksI x y m i k = 0 := by unfold blocksI; rw [if_pos (by omega)]
      have l1 : 0 ≤ k := by omega
      go_enter Try.func35, Try.ntmps35
      go_wp2_with (first
        | (go_at_call 47; refine (between_ok _ _ _ _ ‹_› ‹_›).mono ?_; rintro e W1 ⟨rfl, hb1⟩; obtain ⟨hc1, hf1, hz1⟩ := bcell hb1; try simp at hz1)
        | (go_at_call 47; refine (between_lo _ _ _ _ ‹_›).mono ?_; rintro e W1 ⟨rfl, hb1⟩; obtain ⟨hc1, hf1, hz1⟩ := bcell hb1; try simp at hz1)
        | (go_at_call 47; refine (between_hi _ _ _ _ ‹_›).mono ?_; rintro e W1 ⟨rfl, hb1⟩; obtain ⟨hc1, hf1, hz1⟩ := bcell hb1; try simp at hz1)
        | (go_at_call 34; refine (intervals_ _ _ _ _ _ _ _).mono ?_; rintro e W1 ⟨rfl, hb1⟩; obtain ⟨hc1, hf1, hz1⟩ := bcell hb1; try simp at hz1)
        | (refine wp_region_calm (by kernel_rfl) (by kernel_rfl) ?_; repeat (first | go_big_quiet_step ((first | (go_at_call 47; exact calm_call (between_ok _ _ _ _ ‹_› ‹_›)) | (go_at_call 47; exact calm_call (between_lo _ _ _ _ ‹_›)) | (go_at_call 47; exact calm_call (between_hi _ _ _ _ ‹_›)) | (go_at_call 34; exact calm_call (intervals_ _ _ _ _ _ _ _)))) | quiet_step ((first | (go_at_call 47; exact calm_call (between_ok _ _ _ _ ‹_› ‹_›)) | (go_at_call 47; exact calm_call (between_lo _ _ _ _ ‹_›)) | (go_at_call 47; exact calm_call (between_hi _ _ _ _ ‹_›)) | (go_at_call 34; exact calm_call (intervals_ _ _ _ _ _ _ _)))))
           refine wpQuiet_nil ?_; intro u; have hzu := u.below.size; try simp at hzu))
      all_goals go_ret
      all_goals refine ⟨by first | rfl | exact ret_int e.symm, ?_⟩
      all_goals (repeat (first | exact gr0 _ | refine gr1 ?_ _ | refine gr2 ?_ (Later.below _) | refine gr2 ?_ (by assumption) | refine gr3 ?_ | refine gr4 ?_ (by first | (simp; done) | (simp; omega) | omega) _))
    · skip
      have hM := mcus_in x y m
      have hP := partsN_le m
      have hi : 1 ≤ i ∧ i ≤ 65535 := by
        refine Decidable.byContradiction fun h => ?_
        have : intervalsI x y m i = 0 := by unfold intervalsI; rw [if_pos (by omega)]
        omega
      have q1 : 0 ≤ k * i := Int.mul_nonneg (by omega) (by omega)
      have q2 : k * i ≤ 4294836225 * 65535 := Int.mul_le_mul (by omega) hi.2 (by omega) (by omega)
      have q3 : wrap64 (k * i) = k * i := w64 (by omega) (by omega)
      have q4 : wrap64 (mcusI x y m - k * i) = mcusI x y m - k * i := w64 (by omega) (by omega)
      have q5 : wrap64 (i * partsN m) = i * partsN m := by
        have h1 : 0 ≤ i * (partsN m : Int) := Int.mul_nonneg (by omega) (by omega)
        have h2 : i * (partsN m : Int) ≤ 65535 * 6 := Int.mul_le_mul hi.2 hP (by omega) (by omega)
        exact w64 (by omega) (by omega)
      have q6 : wrap64 ((mcusI x y m - k * i) * partsN m) = (mcusI x y m - k * i) * partsN m := by
        have ht : -281462092005375 ≤ mcusI x y m - k * i ∧ mcusI x y m - k * i ≤ 4294836225 := by omega
        generalize mcusI x y m - k * i = t at *
        have hp : (partsN m : Int) = 0 ∨ (partsN m : Int) = 1 ∨ (partsN m : Int) = 2 ∨ (partsN m : Int) = 3 ∨ (partsN m : Int) = 4 ∨ (partsN m : Int) = 5 ∨ (partsN m : Int) = 6 := by omega
        rcases hp with h | h | h | h | h | h | h <;> rw [h] <;> exact w64 (by omega) (by omega)
      have e : blocksI x y m i k = minI i (mcusI x y m - k * i) * partsN m := by unfold blocksI; rw [if_neg (by omega)]
      have l1 : 0 ≤ k := by omega
      have l2 : k ≤ intervalsI x y m i - 1 := by omega
      go_enter Try.func35, Try.ntmps35
      go_wp2_with (first
        | (go_at_call 47; refine (between_ok _ _ _ _ ‹_› ‹_›).mono ?_; rintro e W1 ⟨rfl, hb1⟩; obtain ⟨hc1, hf1, hz1⟩ := bcell hb1; try simp at hz1)
        | (go_at_call 47; refine (between_lo _ _ _ _ ‹_›).mono ?_; rintro e W1 ⟨rfl, hb1⟩; obtain ⟨hc1, hf1, hz1⟩ := bcell hb1; try simp at hz1)
        | (go_at_call 47; refine (between_hi _ _ _ _ ‹_›).mono ?_; rintro e W1 ⟨rfl, hb1⟩; obtain ⟨hc1, hf1, hz1⟩ := bcell hb1; try simp at hz1)
        | (go_at_call 34; refine (intervals_ _ _ _ _ _ _ _).mono ?_; rintro e W1 ⟨rfl, hb1⟩; obtain ⟨hc1, hf1, hz1⟩ := bcell hb1; try simp at hz1))
      refine wp_region_hid 15 [⟨12, 23, fun x _ => ∃ p c, x = Value.slice p (partsN m) c⟩] (by kernel_rfl) (by kernel_rfl) (by simp) (by simp) (by kernel_rfl) ?_ ?_
      · intro h hh x W W' hb hx
        simp only [List.mem_cons, List.not_mem_nil, or_false] at hh
        rcases hh with rfl
        all_goals first | exact hx | exact own_below hx hb | (obtain ⟨g, e, h1, h2⟩ := hx; exact ⟨g, e, h1, (hb.block g (lt_of_heap h2)).trans h2⟩)
      simp only [List.take_succ_cons, List.take_zero, List.drop_succ_cons, List.drop_zero]
      repeat (first | (refine wpHid_hid rfl rfl (fun X u hX K hK => ?_) ?_; (focus (have hzu := u.below.size; (try simp at hzu); (try simp only [fill, List.map_cons, List.map_nil, Act.put, List.setIfInBounds_toArray, List.set_cons_succ, List.set_cons_zero] at hK ⊢); go_step; first | (go_at_call 30; refine (parts_len _ _).mono ?_; rintro e W ⟨p, c, rfl, hb⟩; exact hK _ _ hb ⟨p, c, rfl⟩))); (try simp only [Act.put, List.setIfInBounds_toArray, List.set_cons_succ, List.set_cons_zero])) | (refine wpHid_next rfl rfl ?_; apply Exists.intro; refine ⟨fun X u hX K hK => ?_, ?_⟩; (focus (have hzu := u.below.size; (try simp at hzu); (try (refine Exists.elim (hX _ List.mem_cons_self ?_) ?_; (focus (show (23 : Nat) ∈ _; decide +kernel)); (intro p0 hx; obtain ⟨c0, hx0⟩ := hx))); (try simp only [fill, List.map_cons, List.map_nil, Act.put, List.setIfInBounds_toArray, List.set_cons_succ, List.set_cons_zero] at hK ⊢); (try simp only [hx0] at hK ⊢); go_step; first | exact hK _ _ (gr0 _) rfl | (go_at_call 62; refine (mcus_ _ _ _ _ _ _ _).mono ?_; rintro e W ⟨rfl, hb⟩; exact hK _ _ hb rfl))); (try simp only [Act.put, List.setIfInBounds_toArray, List.set_cons_succ, List.set_cons_zero])) | (refine wpHid_skip rfl rfl ?_; (try simp only [Act.put, List.setIfInBounds_toArray, List.set_cons_succ, List.set_cons_zero])))
      refine wpHid_nil ?_
      intro X W9 hb9 hR9
      obtain ⟨p0, c0, hx0⟩ := hR9 _ List.mem_cons_self
      simp only [fill, List.map_cons, List.map_nil, Act.put, List.setIfInBounds_toArray, List.set_cons_succ, List.set_cons_zero]
      simp only [hx0]
      obtain ⟨hcW9, hfW9, hzW9⟩ := bcell hb9
      try simp at hzW9
      go_wp2
      all_goals go_ret
      all_goals refine ⟨ret_int (by unfold minI; split <;> first | rfl | omega), ?_⟩
      all_goals (repeat (first | exact gr0 _ | refine gr1 ?_ _ | refine gr2 ?_ (Later.below _) | refine gr2 ?_ (by assumption) | refine gr3 ?_ | refine gr4 ?_ (by first | (simp; done) | (simp; omega) | omega) _))

end Go.Proofs.Ytdpiikpodcanjaa
