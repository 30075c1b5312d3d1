/- Slots: the law's own functions. -/
import Derived.Test.YtdpiikpodcanjaaSlotU
namespace Go.Proofs.Ytdpiikpodcanjaa
open Go.RowKit

theorem imp_elim {a b c : Prop} (h : a → b) (ha : a) (k : b → c) : c := k (h ha)
theorem kn14 : roomI 8 8 1 1 0 = 6 ∧ roomI 8 8 1 1 3 = 416 ∧ slotI 8 8 1 1 0 = 8 ∧ checkI 8 8 1 50 1 0 = 0 ∧ checkI 0 0 0 0 0 0 = 10 := by decide +kernel

set_option maxHeartbeats 2000000 in
theorem known14 (w : World) :
    Calls Try.prog 23 #[] w fun e w' => e = .returned (.bool true) ∧ Below w.heap.size w w' := by
  obtain ⟨k1, k2, k3, k4, k5⟩ := kn14
  go_enter Try.func23, Try.ntmps23
  go_wp2_with (first
    | (go_at_call 36; refine (room_ _ _ _ _ _ _ _).mono ?_; rintro e W1 ⟨rfl, hb1⟩; obtain ⟨hc1, hf1, hz1⟩ := bcell hb1; try simp at hz1)
    | (go_at_call 38; refine (slot_ _ _ _ _ _ _ _).mono ?_; rintro e W1 ⟨rfl, hb1⟩; obtain ⟨hc1, hf1, hz1⟩ := bcell hb1; try simp at hz1)
    | (go_at_call 29; refine (check_ _ _ _ _ _ _ _).mono ?_; rintro e W1 ⟨rfl, hb1⟩; obtain ⟨hc1, hf1, hz1⟩ := bcell hb1; try simp at hz1)
    | (refine wp_region_calm (by kernel_rfl) (by kernel_rfl) ?_; repeat (first | go_big_quiet_step ((first | (go_at_call 36; exact calm_call (room_ _ _ _ _ _ _ _)) | (go_at_call 38; exact calm_call (slot_ _ _ _ _ _ _ _)) | (go_at_call 29; exact calm_call (check_ _ _ _ _ _ _ _)))) | quiet_step ((first | (go_at_call 36; exact calm_call (room_ _ _ _ _ _ _ _)) | (go_at_call 38; exact calm_call (slot_ _ _ _ _ _ _ _)) | (go_at_call 29; exact calm_call (check_ _ _ _ _ _ _ _)))))
       refine wpQuiet_nil ?_; intro u; have hzu := u.below.size; try simp at hzu))
  go_ret
  refine ⟨rfl, ?_⟩
  repeat (first | exact gr0 _ | refine gr1 ?_ _ | refine gr2 ?_ (Later.below _) | refine gr2 ?_ (by assumption) | refine gr3 ?_ | refine gr4 ?_ (by first | (simp; done) | (simp; omega) | omega) _)

set_option maxRecDepth 100000 in
set_option maxHeartbeats 2000000 in
theorem same_0 {b1 b2 : Nat} {v u : Value} {w : World} (h1 : w.ownsRow b1 3 1 v 0 []) (h2 : w.ownsRow b2 3 1 u 0 []) :
    Calls Try.prog 58 #[v, u] w fun e w' => e = .returned (.bool true) ∧ Below w.heap.size w w' := by
  obtain ⟨p, c, rfl⟩ := own_len h1
  obtain ⟨p', c', rfl⟩ := own_len h2
  go_enter Try.func58, Try.ntmps58
  go_wp2_with fail
  refine wp_loop_rounds 1 ?_
  rw [rounds_succ]
  go_wp2_with (first
    | (refine wp_region_calm (by kernel_rfl) (by kernel_rfl) ?_; repeat (first | go_big_quiet_step (fail) | quiet_step (fail))
       refine wpQuiet_nil ?_; intro u; have hzu := u.below.size; try simp at hzu))
  go_ret
  refine ⟨rfl, ?_⟩
  repeat (first | exact gr0 _ | refine gr1 ?_ _ | refine gr2 ?_ (Later.below _) | refine gr2 ?_ (by assumption) | refine gr3 ?_ | refine gr4 ?_ (by first | (simp; done) | (simp; omega) | omega) _)

set_option maxRecDepth 100000 in
set_option maxHeartbeats 2000000 in
theorem same_1 {b1 b2 : Nat} {v u : Value} {w : World} (h1 : w.ownsRow b1 3 1 v 1 [.int .i64 0]) (h2 : w.ownsRow b2 3 1 u 1 [.int .i64 0]) :
    Calls Try.prog 58 #[v, u] w fun e w' => e = .returned (.bool true) ∧ Below w.heap.size w w' := by
  rcases h1.2 with ⟨_, hn⟩ | ⟨g, c, cur, rfl, _, hh, _⟩
  · exact absurd hn (by decide)
  rcases h2.2 with ⟨_, hn⟩ | ⟨g', c', cur', rfl, _, hh', _⟩
  · exact absurd hn (by decide)
  have a0 : w.cell? ⟨g, 0, none⟩ = some (.int .i64 0) := own_cell h1 rfl
  have b0 : w.cell? ⟨g', 0, none⟩ = some (.int .i64 0) := own_cell h2 rfl
  have hg := lt_of_heap hh
  have hg' := lt_of_heap hh'
  clear h1 h2 hh hh'
  go_enter Try.func58, Try.ntmps58
  go_wp2_with fail
  refine wp_loop_rounds 2 ?_
  rw [rounds_succ]
  go_wp2_with (first
    | (refine wp_region_calm (by kernel_rfl) (by kernel_rfl) ?_; repeat (first | go_big_quiet_step (fail) | quiet_step (fail))
       refine wpQuiet_nil ?_; intro u; have hzu := u.below.size; try simp at hzu))
  rw [rounds_succ]
  go_wp2_with (first
    | (refine wp_region_calm (by kernel_rfl) (by kernel_rfl) ?_; repeat (first | go_big_quiet_step (fail) | quiet_step (fail))
       refine wpQuiet_nil ?_; intro u; have hzu := u.below.size; try simp at hzu))
  go_ret
  refine ⟨rfl, ?_⟩
  repeat (first | exact gr0 _ | refine gr1 ?_ _ | refine gr2 ?_ (Later.below _) | refine gr2 ?_ (by assumption) | refine gr3 ?_ | refine gr4 ?_ (by first | (simp; done) | (simp; omega) | omega) _)

set_option maxRecDepth 100000 in
set_option maxHeartbeats 2000000 in
theorem same_2 {b1 b2 : Nat} {v u : Value} {w : World} (h1 : w.ownsRow b1 3 1 v 3 [.int .i64 0, .int .i64 1, .int .i64 2]) (h2 : w.ownsRow b2 3 1 u 3 [.int .i64 0, .int .i64 1, .int .i64 2]) :
    Calls Try.prog 58 #[v, u] w fun e w' => e = .returned (.bool true) ∧ Below w.heap.size w w' := by
  rcases h1.2 with ⟨_, hn⟩ | ⟨g, c, cur, rfl, _, hh, _⟩
  · exact absurd hn (by decide)
  rcases h2.2 with ⟨_, hn⟩ | ⟨g', c', cur', rfl, _, hh', _⟩
  · exact absurd hn (by decide)
  have a0 : w.cell? ⟨g, 0, none⟩ = some (.int .i64 0) := own_cell h1 rfl
  have b0 : w.cell? ⟨g', 0, none⟩ = some (.int .i64 0) := own_cell h2 rfl
  have a1 : w.cell? ⟨g, 1, none⟩ = some (.int .i64 1) := own_cell h1 rfl
  have b1 : w.cell? ⟨g', 1, none⟩ = some (.int .i64 1) := own_cell h2 rfl
  have a2 : w.cell? ⟨g, 2, none⟩ = some (.int .i64 2) := own_cell h1 rfl
  have b2 : w.cell? ⟨g', 2, none⟩ = some (.int .i64 2) := own_cell h2 rfl
  have hg := lt_of_heap hh
  have hg' := lt_of_heap hh'
  clear h1 h2 hh hh'
  go_enter Try.func58, Try.ntmps58
  go_wp2_with fail
  refine wp_loop_rounds 4 ?_
  rw [rounds_succ]
  go_wp2_with (first
    | (refine wp_region_calm (by kernel_rfl) (by kernel_rfl) ?_; repeat (first | go_big_quiet_step (fail) | quiet_step (fail))
       refine wpQuiet_nil ?_; intro u; have hzu := u.below.size; try simp at hzu))
  rw [rounds_succ]
  go_wp2_with (first
    | (refine wp_region_calm (by kernel_rfl) (by kernel_rfl) ?_; repeat (first | go_big_quiet_step (fail) | quiet_step (fail))
       refine wpQuiet_nil ?_; intro u; have hzu := u.below.size; try simp at hzu))
  rw [rounds_succ]
  go_wp2_with (first
    | (refine wp_region_calm (by kernel_rfl) (by kernel_rfl) ?_; repeat (first | go_big_quiet_step (fail) | quiet_step (fail))
       refine wpQuiet_nil ?_; intro u; have hzu := u.below.size; try simp at hzu))
  rw [rounds_succ]
  go_wp2_with (first
    | (refine wp_region_calm (by kernel_rfl) (by kernel_rfl) ?_; repeat (first | go_big_quiet_step (fail) | quiet_step (fail))
       refine wpQuiet_nil ?_; intro u; have hzu := u.below.size; try simp at hzu))
  go_ret
  refine ⟨rfl, ?_⟩
  repeat (first | exact gr0 _ | refine gr1 ?_ _ | refine gr2 ?_ (Later.below _) | refine gr2 ?_ (by assumption) | refine gr3 ?_ | refine gr4 ?_ (by first | (simp; done) | (simp; omega) | omega) _)

set_option maxRecDepth 100000 in
set_option maxHeartbeats 2000000 in
theorem same_3 {b1 b2 : Nat} {v u : Value} {w : World} (h1 : w.ownsRow b1 3 1 v 4 [.int .i64 0, .int .i64 0, .int .i64 1, .int .i64 2]) (h2 : w.ownsRow b2 3 1 u 4 [.int .i64 0, .int .i64 0, .int .i64 1, .int .i64 2]) :
    Calls Try.prog 58 #[v, u] w fun e w' => e = .returned (.bool true) ∧ Below w.heap.size w w' := by
  rcases h1.2 with ⟨_, hn⟩ | ⟨g, c, cur, rfl, _, hh, _⟩
  · exact absurd hn (by decide)
  rcases h2.2 with ⟨_, hn⟩ | ⟨g', c', cur', rfl, _, hh', _⟩
  · exact absurd hn (by decide)
  have a0 : w.cell? ⟨g, 0, none⟩ = some (.int .i64 0) := own_cell h1 rfl
  have b0 : w.cell? ⟨g', 0, none⟩ = some (.int .i64 0) := own_cell h2 rfl
  have a1 : w.cell? ⟨g, 1, none⟩ = some (.int .i64 0) := own_cell h1 rfl
  have b1 : w.cell? ⟨g', 1, none⟩ = some (.int .i64 0) := own_cell h2 rfl
  have a2 : w.cell? ⟨g, 2, none⟩ = some (.int .i64 1) := own_cell h1 rfl
  have b2 : w.cell? ⟨g', 2, none⟩ = some (.int .i64 1) := own_cell h2 rfl
  have a3 : w.cell? ⟨g, 3, none⟩ = some (.int .i64 2) := own_cell h1 rfl
  have b3 : w.cell? ⟨g', 3, none⟩ = some (.int .i64 2) := own_cell h2 rfl
  have hg := lt_of_heap hh
  have hg' := lt_of_heap hh'
  clear h1 h2 hh hh'
  go_enter Try.func58, Try.ntmps58
  go_wp2_with fail
  refine wp_loop_rounds 5 ?_
  rw [rounds_succ]
  go_wp2_with (first
    | (refine wp_region_calm (by kernel_rfl) (by kernel_rfl) ?_; repeat (first | go_big_quiet_step (fail) | quiet_step (fail))
       refine wpQuiet_nil ?_; intro u; have hzu := u.below.size; try simp at hzu))
  rw [rounds_succ]
  go_wp2_with (first
    | (refine wp_region_calm (by kernel_rfl) (by kernel_rfl) ?_; repeat (first | go_big_quiet_step (fail) | quiet_step (fail))
       refine wpQuiet_nil ?_; intro u; have hzu := u.below.size; try simp at hzu))
  rw [rounds_succ]
  go_wp2_with (first
    | (refine wp_region_calm (by kernel_rfl) (by kernel_rfl) ?_; repeat (first | go_big_quiet_step (fail) | quiet_step (fail))
       refine wpQuiet_nil ?_; intro u; have hzu := u.below.size; try simp at hzu))
  rw [rounds_succ]
  go_wp2_with (first
    | (refine wp_region_calm (by kernel_rfl) (by kernel_rfl) ?_; repeat (first | go_big_quiet_step (fail) | quiet_step (fail))
       refine wpQuiet_nil ?_; intro u; have hzu := u.below.size; try simp at hzu))
  rw [rounds_succ]
  go_wp2_with (first
    | (refine wp_region_calm (by kernel_rfl) (by kernel_rfl) ?_; repeat (first | go_big_quiet_step (fail) | quiet_step (fail))
       refine wpQuiet_nil ?_; intro u; have hzu := u.below.size; try simp at hzu))
  go_ret
  refine ⟨rfl, ?_⟩
  repeat (first | exact gr0 _ | refine gr1 ?_ _ | refine gr2 ?_ (Later.below _) | refine gr2 ?_ (by assumption) | refine gr3 ?_ | refine gr4 ?_ (by first | (simp; done) | (simp; omega) | omega) _)

set_option maxRecDepth 100000 in
set_option maxHeartbeats 2000000 in
theorem same_4 {b1 b2 : Nat} {v u : Value} {w : World} (h1 : w.ownsRow b1 3 1 v 6 [.int .i64 0, .int .i64 0, .int .i64 0, .int .i64 0, .int .i64 1, .int .i64 2]) (h2 : w.ownsRow b2 3 1 u 6 [.int .i64 0, .int .i64 0, .int .i64 0, .int .i64 0, .int .i64 1, .int .i64 2]) :
    Calls Try.prog 58 #[v, u] w fun e w' => e = .returned (.bool true) ∧ Below w.heap.size w w' := by
  rcases h1.2 with ⟨_, hn⟩ | ⟨g, c, cur, rfl, _, hh, _⟩
  · exact absurd hn (by decide)
  rcases h2.2 with ⟨_, hn⟩ | ⟨g', c', cur', rfl, _, hh', _⟩
  · exact absurd hn (by decide)
  have a0 : w.cell? ⟨g, 0, none⟩ = some (.int .i64 0) := own_cell h1 rfl
  have b0 : w.cell? ⟨g', 0, none⟩ = some (.int .i64 0) := own_cell h2 rfl
  have a1 : w.cell? ⟨g, 1, none⟩ = some (.int .i64 0) := own_cell h1 rfl
  have b1 : w.cell? ⟨g', 1, none⟩ = some (.int .i64 0) := own_cell h2 rfl
  have a2 : w.cell? ⟨g, 2, none⟩ = some (.int .i64 0) := own_cell h1 rfl
  have b2 : w.cell? ⟨g', 2, none⟩ = some (.int .i64 0) := own_cell h2 rfl
  have a3 : w.cell? ⟨g, 3, none⟩ = some (.int .i64 0) := own_cell h1 rfl
  have b3 : w.cell? ⟨g', 3, none⟩ = some (.int .i64 0) := own_cell h2 rfl
  have a4 : w.cell? ⟨g, 4, none⟩ = some (.int .i64 1) := own_cell h1 rfl
  have b4 : w.cell? ⟨g', 4, none⟩ = some (.int .i64 1) := own_cell h2 rfl
  have a5 : w.cell? ⟨g, 5, none⟩ = some (.int .i64 2) := own_cell h1 rfl
  have b5 : w.cell? ⟨g', 5, none⟩ = some (.int .i64 2) := own_cell h2 rfl
  have hg := lt_of_heap hh
  have hg' := lt_of_heap hh'
  clear h1 h2 hh hh'
  go_enter Try.func58, Try.ntmps58
  go_wp2_with fail
  refine wp_loop_rounds 7 ?_
  rw [rounds_succ]
  go_wp2_with (first
    | (refine wp_region_calm (by kernel_rfl) (by kernel_rfl) ?_; repeat (first | go_big_quiet_step (fail) | quiet_step (fail))
       refine wpQuiet_nil ?_; intro u; have hzu := u.below.size; try simp at hzu))
  rw [rounds_succ]
  go_wp2_with (first
    | (refine wp_region_calm (by kernel_rfl) (by kernel_rfl) ?_; repeat (first | go_big_quiet_step (fail) | quiet_step (fail))
       refine wpQuiet_nil ?_; intro u; have hzu := u.below.size; try simp at hzu))
  rw [rounds_succ]
  go_wp2_with (first
    | (refine wp_region_calm (by kernel_rfl) (by kernel_rfl) ?_; repeat (first | go_big_quiet_step (fail) | quiet_step (fail))
       refine wpQuiet_nil ?_; intro u; have hzu := u.below.size; try simp at hzu))
  rw [rounds_succ]
  go_wp2_with (first
    | (refine wp_region_calm (by kernel_rfl) (by kernel_rfl) ?_; repeat (first | go_big_quiet_step (fail) | quiet_step (fail))
       refine wpQuiet_nil ?_; intro u; have hzu := u.below.size; try simp at hzu))
  rw [rounds_succ]
  go_wp2_with (first
    | (refine wp_region_calm (by kernel_rfl) (by kernel_rfl) ?_; repeat (first | go_big_quiet_step (fail) | quiet_step (fail))
       refine wpQuiet_nil ?_; intro u; have hzu := u.below.size; try simp at hzu))
  rw [rounds_succ]
  go_wp2_with (first
    | (refine wp_region_calm (by kernel_rfl) (by kernel_rfl) ?_; repeat (first | go_big_quiet_step (fail) | quiet_step (fail))
       refine wpQuiet_nil ?_; intro u; have hzu := u.below.size; try simp at hzu))
  rw [rounds_succ]
  go_wp2_with (first
    | (refine wp_region_calm (by kernel_rfl) (by kernel_rfl) ?_; repeat (first | go_big_quiet_step (fail) | quiet_step (fail))
       refine wpQuiet_nil ?_; intro u; have hzu := u.below.size; try simp at hzu))
  go_ret
  refine ⟨rfl, ?_⟩
  repeat (first | exact gr0 _ | refine gr1 ?_ _ | refine gr2 ?_ (Later.below _) | refine gr2 ?_ (by assumption) | refine gr3 ?_ | refine gr4 ?_ (by first | (simp; done) | (simp; omega) | omega) _)

theorem parts_nil (m : Int) (w : World) (h1 : m ≠ 1) (h2 : m ≠ 2) (h3 : m ≠ 3) (h4 : m ≠ 4) :
    Calls Try.prog 30 #[.int .i64 m] w fun e w' => ∃ v, e = .returned v ∧ Below w.heap.size w w' ∧ w'.ownsRow w.heap.size 3 1 v 0 [] :=
  (parts_0 m w h1 h2 h3 h4).mono fun _ _ ⟨he, hb⟩ => ⟨_, he, hb, World.ownsRow_nil _ _ _ _⟩

theorem rparts_nil (m : Int) (w : World) (h1 : m ≠ 1) (h2 : m ≠ 2) (h3 : m ≠ 3) (h4 : m ≠ 4) :
    Calls Try.prog 59 #[.int .i64 m] w fun e w' => ∃ v, e = .returned v ∧ Below w.heap.size w w' ∧ w'.ownsRow w.heap.size 3 1 v 0 [] :=
  (rparts_0 m w h1 h2 h3 h4).mono fun _ _ ⟨he, hb⟩ => ⟨_, he, hb, World.ownsRow_nil _ _ _ _⟩

theorem own_zero {w : World} {base : Nat} {e : TypeId} {size : Nat} {v : Value} {n : Nat} {xs : List Value} (h : w.ownsRow base e size v n xs) : w.ownsRow 0 e size v n xs := by
  refine ⟨h.1, ?_⟩
  rcases h.2 with hn | ⟨g, cap, cur, hv, _, h2⟩
  · exact .inl hn
  · exact .inr ⟨g, cap, cur, hv, Nat.zero_le _, h2⟩
theorem check_in (x y m q i c : Int) : 0 ≤ checkI x y m q i c ∧ checkI x y m q i c ≤ 15 := by
  unfold checkI
  repeat' split
  all_goals decide

end Go.Proofs.Ytdpiikpodcanjaa
