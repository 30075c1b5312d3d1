/- Of which part each block of an MCU is. -/
import Derived.Test.YtdpiikpodcanjaaSides
import Derived.Test.YtdpiikpodcanjaaApp
namespace Go.Proofs.Ytdpiikpodcanjaa
open Go.RowKit

set_option maxRecDepth 100000 in
set_option maxHeartbeats 2000000 in
theorem parts_1 (w : World) :
    Calls Try.prog 30 #[.int .i64 1] w fun e w' => ∃ v, e = .returned v ∧ Below w.heap.size w w' ∧ w'.ownsRow w.heap.size 3 1 v 1 [.int .i64 0] := by
  go_enter Try.func30, Try.ntmps30
  go_wp2_with (go_at_call 48; refine (sides_1 _).mono ?_; rintro e W2 ⟨g2, rfl, hb2, hg2, hh2⟩; obtain ⟨hc2, hf2, hz2, hl2⟩ := ncell hb2 hg2 hh2; try simp at hz2; try simp at hg2)
  refine wp_loop_rounds 2 ?_
  rw [rounds_succ]
  go_wp2_with (first
    | (at_builtin; apply append_int w.heap.size (.tmp 21) (.tmp 23) rfl rfl (hs := rfl) (hx := rfl); (case hown => first | exact World.ownsRow_nil _ _ _ _ | exact hown5 | exact own_alloc hown5 | exact own_alloc (own_alloc hown5) | exact own_alloc (own_alloc (own_alloc hown5)) | exact own_later hown5 | exact own_alloc (own_later hown5) | exact own_alloc (own_later (own_later hown5))); (case hgv => first | exact .inl rfl | exact .inr ⟨rfl, rfl⟩); (case hu => exact new_cell (by simp)); (case hn => omega); (case hbase => (try simp); omega); intro g5 c5 w5 hown5 hb5 hl5 hs5 ho5 hlow5 hc5 hf5; (try simp at hs5); (try simp only [Nat.zero_add, List.nil_append, List.cons_append, Nat.reduceAdd] at hown5); (try simp at ho5); (try subst ho5); try (have hne5 : g5 ≠ g2 := by (rcases ho5 with h | h <;> omega)))
    | (refine wp_region_calm (by kernel_rfl) (by kernel_rfl) ?_; repeat (first | go_big_quiet_step (fail) | quiet_step (fail))
       refine wpQuiet_nil ?_; intro u; have hzu := u.below.size; try simp at hzu))
  refine wp_loop_rounds 2 ?_
  rw [rounds_succ]
  go_wp2_with (first
    | (at_builtin; apply append_int w.heap.size (.tmp 21) (.tmp 23) rfl rfl (hs := rfl) (hx := rfl); (case hown => first | exact World.ownsRow_nil _ _ _ _ | exact hown5 | exact own_alloc hown5 | exact own_alloc (own_alloc hown5) | exact own_alloc (own_alloc (own_alloc hown5)) | exact own_later hown5 | exact own_alloc (own_later hown5) | exact own_alloc (own_later (own_later hown5))); (case hgv => first | exact .inl rfl | exact .inr ⟨rfl, rfl⟩); (case hu => exact new_cell (by simp)); (case hn => omega); (case hbase => (try simp); omega); intro g5 c5 w5 hown5 hb5 hl5 hs5 ho5 hlow5 hc5 hf5; (try simp at hs5); (try simp only [Nat.zero_add, List.nil_append, List.cons_append, Nat.reduceAdd] at hown5); (try simp at ho5); (try subst ho5); try (have hne5 : g5 ≠ g2 := by (rcases ho5 with h | h <;> omega)))
    | (refine wp_region_calm (by kernel_rfl) (by kernel_rfl) ?_; repeat (first | go_big_quiet_step (fail) | quiet_step (fail))
       refine wpQuiet_nil ?_; intro u; have hzu := u.below.size; try simp at hzu))
  rw [rounds_succ]
  go_wp2_with (first
    | (at_builtin; apply append_int w.heap.size (.tmp 21) (.tmp 23) rfl rfl (hs := rfl) (hx := rfl); (case hown => first | exact World.ownsRow_nil _ _ _ _ | exact hown5 | exact own_alloc hown5 | exact own_alloc (own_alloc hown5) | exact own_alloc (own_alloc (own_alloc hown5)) | exact own_later hown5 | exact own_alloc (own_later hown5) | exact own_alloc (own_later (own_later hown5))); (case hgv => first | exact .inl rfl | exact .inr ⟨rfl, rfl⟩); (case hu => exact new_cell (by simp)); (case hn => omega); (case hbase => (try simp); omega); intro g5 c5 w5 hown5 hb5 hl5 hs5 ho5 hlow5 hc5 hf5; (try simp at hs5); (try simp only [Nat.zero_add, List.nil_append, List.cons_append, Nat.reduceAdd] at hown5); (try simp at ho5); (try subst ho5); try (have hne5 : g5 ≠ g2 := by (rcases ho5 with h | h <;> omega)))
    | (refine wp_region_calm (by kernel_rfl) (by kernel_rfl) ?_; repeat (first | go_big_quiet_step (fail) | quiet_step (fail))
       refine wpQuiet_nil ?_; intro u; have hzu := u.below.size; try simp at hzu))
  rw [rounds_succ]
  go_wp2_with (first
    | (at_builtin; apply append_int w.heap.size (.tmp 21) (.tmp 23) rfl rfl (hs := rfl) (hx := rfl); (case hown => first | exact World.ownsRow_nil _ _ _ _ | exact hown5 | exact own_alloc hown5 | exact own_alloc (own_alloc hown5) | exact own_alloc (own_alloc (own_alloc hown5)) | exact own_later hown5 | exact own_alloc (own_later hown5) | exact own_alloc (own_later (own_later hown5))); (case hgv => first | exact .inl rfl | exact .inr ⟨rfl, rfl⟩); (case hu => exact new_cell (by simp)); (case hn => omega); (case hbase => (try simp); omega); intro g5 c5 w5 hown5 hb5 hl5 hs5 ho5 hlow5 hc5 hf5; (try simp at hs5); (try simp only [Nat.zero_add, List.nil_append, List.cons_append, Nat.reduceAdd] at hown5); (try simp at ho5); (try subst ho5); try (have hne5 : g5 ≠ g2 := by (rcases ho5 with h | h <;> omega)))
    | (refine wp_region_calm (by kernel_rfl) (by kernel_rfl) ?_; repeat (first | go_big_quiet_step (fail) | quiet_step (fail))
       refine wpQuiet_nil ?_; intro u; have hzu := u.below.size; try simp at hzu))
  go_ret
  refine ⟨_, rfl, ?_, by first | exact hown5 | exact own_later hown5⟩
  repeat (first | exact gr0 _ | refine gr6 (by assumption) (Nat.le_refl _) ?_ | exact gr0 _ | refine gr1 ?_ _ | refine gr2 ?_ (Later.below _) | refine gr2 ?_ (by assumption) | refine gr3 ?_ | refine gr4 ?_ (by first | (simp; done) | (simp; omega) | omega) _)

set_option maxRecDepth 100000 in
set_option maxHeartbeats 2000000 in
theorem parts_2 (w : World) :
    Calls Try.prog 30 #[.int .i64 2] w fun e w' => ∃ v, e = .returned v ∧ Below w.heap.size w w' ∧ w'.ownsRow w.heap.size 3 1 v 3 [.int .i64 0, .int .i64 1, .int .i64 2] := by
  go_enter Try.func30, Try.ntmps30
  go_wp2_with (go_at_call 48; refine (sides_2 _).mono ?_; rintro e W2 ⟨g2, rfl, hb2, hg2, hh2⟩; obtain ⟨hc2, hf2, hz2, hl2⟩ := ncell hb2 hg2 hh2; try simp at hz2; try simp at hg2)
  refine wp_loop_rounds 4 ?_
  rw [rounds_succ]
  go_wp2_with (first
    | (at_builtin; apply append_int w.heap.size (.tmp 21) (.tmp 23) rfl rfl (hs := rfl) (hx := rfl); (case hown => first | exact World.ownsRow_nil _ _ _ _ | exact hown5 | exact own_alloc hown5 | exact own_alloc (own_alloc hown5) | exact own_alloc (own_alloc (own_alloc hown5)) | exact own_later hown5 | exact own_alloc (own_later hown5) | exact own_alloc (own_later (own_later hown5))); (case hgv => first | exact .inl rfl | exact .inr ⟨rfl, rfl⟩); (case hu => exact new_cell (by simp)); (case hn => omega); (case hbase => (try simp); omega); intro g5 c5 w5 hown5 hb5 hl5 hs5 ho5 hlow5 hc5 hf5; (try simp at hs5); (try simp only [Nat.zero_add, List.nil_append, List.cons_append, Nat.reduceAdd] at hown5); (try simp at ho5); (try subst ho5); try (have hne5 : g5 ≠ g2 := by (rcases ho5 with h | h <;> omega)))
    | (refine wp_region_calm (by kernel_rfl) (by kernel_rfl) ?_; repeat (first | go_big_quiet_step (fail) | quiet_step (fail))
       refine wpQuiet_nil ?_; intro u; have hzu := u.below.size; try simp at hzu))
  refine wp_loop_rounds 2 ?_
  rw [rounds_succ]
  go_wp2_with (first
    | (at_builtin; apply append_int w.heap.size (.tmp 21) (.tmp 23) rfl rfl (hs := rfl) (hx := rfl); (case hown => first | exact World.ownsRow_nil _ _ _ _ | exact hown5 | exact own_alloc hown5 | exact own_alloc (own_alloc hown5) | exact own_alloc (own_alloc (own_alloc hown5)) | exact own_later hown5 | exact own_alloc (own_later hown5) | exact own_alloc (own_later (own_later hown5))); (case hgv => first | exact .inl rfl | exact .inr ⟨rfl, rfl⟩); (case hu => exact new_cell (by simp)); (case hn => omega); (case hbase => (try simp); omega); intro g5 c5 w5 hown5 hb5 hl5 hs5 ho5 hlow5 hc5 hf5; (try simp at hs5); (try simp only [Nat.zero_add, List.nil_append, List.cons_append, Nat.reduceAdd] at hown5); (try simp at ho5); (try subst ho5); try (have hne5 : g5 ≠ g2 := by (rcases ho5 with h | h <;> omega)))
    | (refine wp_region_calm (by kernel_rfl) (by kernel_rfl) ?_; repeat (first | go_big_quiet_step (fail) | quiet_step (fail))
       refine wpQuiet_nil ?_; intro u; have hzu := u.below.size; try simp at hzu))
  rw [rounds_succ]
  go_wp2_with (first
    | (at_builtin; apply append_int w.heap.size (.tmp 21) (.tmp 23) rfl rfl (hs := rfl) (hx := rfl); (case hown => first | exact World.ownsRow_nil _ _ _ _ | exact hown5 | exact own_alloc hown5 | exact own_alloc (own_alloc hown5) | exact own_alloc (own_alloc (own_alloc hown5)) | exact own_later hown5 | exact own_alloc (own_later hown5) | exact own_alloc (own_later (own_later hown5))); (case hgv => first | exact .inl rfl | exact .inr ⟨rfl, rfl⟩); (case hu => exact new_cell (by simp)); (case hn => omega); (case hbase => (try simp); omega); intro g5 c5 w5 hown5 hb5 hl5 hs5 ho5 hlow5 hc5 hf5; (try simp at hs5); (try simp only [Nat.zero_add, List.nil_append, List.cons_append, Nat.reduceAdd] at hown5); (try simp at ho5); (try subst ho5); try (have hne5 : g5 ≠ g2 := by (rcases ho5 with h | h <;> omega)))
    | (refine wp_region_calm (by kernel_rfl) (by kernel_rfl) ?_; repeat (first | go_big_quiet_step (fail) | quiet_step (fail))
       refine wpQuiet_nil ?_; intro u; have hzu := u.below.size; try simp at hzu))
  rw [rounds_succ]
  go_wp2_with (first
    | (at_builtin; apply append_int w.heap.size (.tmp 21) (.tmp 23) rfl rfl (hs := rfl) (hx := rfl); (case hown => first | exact World.ownsRow_nil _ _ _ _ | exact hown5 | exact own_alloc hown5 | exact own_alloc (own_alloc hown5) | exact own_alloc (own_alloc (own_alloc hown5)) | exact own_later hown5 | exact own_alloc (own_later hown5) | exact own_alloc (own_later (own_later hown5))); (case hgv => first | exact .inl rfl | exact .inr ⟨rfl, rfl⟩); (case hu => exact new_cell (by simp)); (case hn => omega); (case hbase => (try simp); omega); intro g5 c5 w5 hown5 hb5 hl5 hs5 ho5 hlow5 hc5 hf5; (try simp at hs5); (try simp only [Nat.zero_add, List.nil_append, List.cons_append, Nat.reduceAdd] at hown5); (try simp at ho5); (try subst ho5); try (have hne5 : g5 ≠ g2 := by (rcases ho5 with h | h <;> omega)))
    | (refine wp_region_calm (by kernel_rfl) (by kernel_rfl) ?_; repeat (first | go_big_quiet_step (fail) | quiet_step (fail))
       refine wpQuiet_nil ?_; intro u; have hzu := u.below.size; try simp at hzu))
  refine wp_loop_rounds 2 ?_
  rw [rounds_succ]
  go_wp2_with (first
    | (at_builtin; apply append_int w.heap.size (.tmp 21) (.tmp 23) rfl rfl (hs := rfl) (hx := rfl); (case hown => first | exact World.ownsRow_nil _ _ _ _ | exact hown5 | exact own_alloc hown5 | exact own_alloc (own_alloc hown5) | exact own_alloc (own_alloc (own_alloc hown5)) | exact own_later hown5 | exact own_alloc (own_later hown5) | exact own_alloc (own_later (own_later hown5))); (case hgv => first | exact .inl rfl | exact .inr ⟨rfl, rfl⟩); (case hu => exact new_cell (by simp)); (case hn => omega); (case hbase => (try simp); omega); intro g5 c5 w5 hown5 hb5 hl5 hs5 ho5 hlow5 hc5 hf5; (try simp at hs5); (try simp only [Nat.zero_add, List.nil_append, List.cons_append, Nat.reduceAdd] at hown5); (try simp at ho5); (try subst ho5); try (have hne5 : g5 ≠ g2 := by (rcases ho5 with h | h <;> omega)))
    | (refine wp_region_calm (by kernel_rfl) (by kernel_rfl) ?_; repeat (first | go_big_quiet_step (fail) | quiet_step (fail))
       refine wpQuiet_nil ?_; intro u; have hzu := u.below.size; try simp at hzu))
  rw [rounds_succ]
  go_wp2_with (first
    | (at_builtin; apply append_int w.heap.size (.tmp 21) (.tmp 23) rfl rfl (hs := rfl) (hx := rfl); (case hown => first | exact World.ownsRow_nil _ _ _ _ | exact hown5 | exact own_alloc hown5 | exact own_alloc (own_alloc hown5) | exact own_alloc (own_alloc (own_alloc hown5)) | exact own_later hown5 | exact own_alloc (own_later hown5) | exact own_alloc (own_later (own_later hown5))); (case hgv => first | exact .inl rfl | exact .inr ⟨rfl, rfl⟩); (case hu => exact new_cell (by simp)); (case hn => omega); (case hbase => (try simp); omega); intro g5 c5 w5 hown5 hb5 hl5 hs5 ho5 hlow5 hc5 hf5; (try simp at hs5); (try simp only [Nat.zero_add, List.nil_append, List.cons_append, Nat.reduceAdd] at hown5); (try simp at ho5); (try subst ho5); try (have hne5 : g5 ≠ g2 := by (rcases ho5 with h | h <;> omega)))
    | (refine wp_region_calm (by kernel_rfl) (by kernel_rfl) ?_; repeat (first | go_big_quiet_step (fail) | quiet_step (fail))
       refine wpQuiet_nil ?_; intro u; have hzu := u.below.size; try simp at hzu))
  rw [rounds_succ]
  go_wp2_with (first
    | (at_builtin; apply append_int w.heap.size (.tmp 21) (.tmp 23) rfl rfl (hs := rfl) (hx := rfl); (case hown => first | exact World.ownsRow_nil _ _ _ _ | exact hown5 | exact own_alloc hown5 | exact own_alloc (own_alloc hown5) | exact own_alloc (own_alloc (own_alloc hown5)) | exact own_later hown5 | exact own_alloc (own_later hown5) | exact own_alloc (own_later (own_later hown5))); (case hgv => first | exact .inl rfl | exact .inr ⟨rfl, rfl⟩); (case hu => exact new_cell (by simp)); (case hn => omega); (case hbase => (try simp); omega); intro g5 c5 w5 hown5 hb5 hl5 hs5 ho5 hlow5 hc5 hf5; (try simp at hs5); (try simp only [Nat.zero_add, List.nil_append, List.cons_append, Nat.reduceAdd] at hown5); (try simp at ho5); (try subst ho5); try (have hne5 : g5 ≠ g2 := by (rcases ho5 with h | h <;> omega)))
    | (refine wp_region_calm (by kernel_rfl) (by kernel_rfl) ?_; repeat (first | go_big_quiet_step (fail) | quiet_step (fail))
       refine wpQuiet_nil ?_; intro u; have hzu := u.below.size; try simp at hzu))
  refine wp_loop_rounds 2 ?_
  rw [rounds_succ]
  go_wp2_with (first
    | (at_builtin; apply append_int w.heap.size (.tmp 21) (.tmp 23) rfl rfl (hs := rfl) (hx := rfl); (case hown => first | exact World.ownsRow_nil _ _ _ _ | exact hown5 | exact own_alloc hown5 | exact own_alloc (own_alloc hown5) | exact own_alloc (own_alloc (own_alloc hown5)) | exact own_later hown5 | exact own_alloc (own_later hown5) | exact own_alloc (own_later (own_later hown5))); (case hgv => first | exact .inl rfl | exact .inr ⟨rfl, rfl⟩); (case hu => exact new_cell (by simp)); (case hn => omega); (case hbase => (try simp); omega); intro g5 c5 w5 hown5 hb5 hl5 hs5 ho5 hlow5 hc5 hf5; (try simp at hs5); (try simp only [Nat.zero_add, List.nil_append, List.cons_append, Nat.reduceAdd] at hown5); (try simp at ho5); (try subst ho5); try (have hne5 : g5 ≠ g2 := by (rcases ho5 with h | h <;> omega)))
    | (refine wp_region_calm (by kernel_rfl) (by kernel_rfl) ?_; repeat (first | go_big_quiet_step (fail) | quiet_step (fail))
       refine wpQuiet_nil ?_; intro u; have hzu := u.below.size; try simp at hzu))
  rw [rounds_succ]
  go_wp2_with (first
    | (at_builtin; apply append_int w.heap.size (.tmp 21) (.tmp 23) rfl rfl (hs := rfl) (hx := rfl); (case hown => first | exact World.ownsRow_nil _ _ _ _ | exact hown5 | exact own_alloc hown5 | exact own_alloc (own_alloc hown5) | exact own_alloc (own_alloc (own_alloc hown5)) | exact own_later hown5 | exact own_alloc (own_later hown5) | exact own_alloc (own_later (own_later hown5))); (case hgv => first | exact .inl rfl | exact .inr ⟨rfl, rfl⟩); (case hu => exact new_cell (by simp)); (case hn => omega); (case hbase => (try simp); omega); intro g5 c5 w5 hown5 hb5 hl5 hs5 ho5 hlow5 hc5 hf5; (try simp at hs5); (try simp only [Nat.zero_add, List.nil_append, List.cons_append, Nat.reduceAdd] at hown5); (try simp at ho5); (try subst ho5); try (have hne5 : g5 ≠ g2 := by (rcases ho5 with h | h <;> omega)))
    | (refine wp_region_calm (by kernel_rfl) (by kernel_rfl) ?_; repeat (first | go_big_quiet_step (fail) | quiet_step (fail))
       refine wpQuiet_nil ?_; intro u; have hzu := u.below.size; try simp at hzu))
  rw [rounds_succ]
  go_wp2_with (first
    | (at_builtin; apply append_int w.heap.size (.tmp 21) (.tmp 23) rfl rfl (hs := rfl) (hx := rfl); (case hown => first | exact World.ownsRow_nil _ _ _ _ | exact hown5 | exact own_alloc hown5 | exact own_alloc (own_alloc hown5) | exact own_alloc (own_alloc (own_alloc hown5)) | exact own_later hown5 | exact own_alloc (own_later hown5) | exact own_alloc (own_later (own_later hown5))); (case hgv => first | exact .inl rfl | exact .inr ⟨rfl, rfl⟩); (case hu => exact new_cell (by simp)); (case hn => omega); (case hbase => (try simp); omega); intro g5 c5 w5 hown5 hb5 hl5 hs5 ho5 hlow5 hc5 hf5; (try simp at hs5); (try simp only [Nat.zero_add, List.nil_append, List.cons_append, Nat.reduceAdd] at hown5); (try simp at ho5); (try subst ho5); try (have hne5 : g5 ≠ g2 := by (rcases ho5 with h | h <;> omega)))
    | (refine wp_region_calm (by kernel_rfl) (by kernel_rfl) ?_; repeat (first | go_big_quiet_step (fail) | quiet_step (fail))
       refine wpQuiet_nil ?_; intro u; have hzu := u.below.size; try simp at hzu))
  go_ret
  refine ⟨_, rfl, ?_, by first | exact hown5 | exact own_later hown5⟩
  repeat (first | exact gr0 _ | refine gr6 (by assumption) (Nat.le_refl _) ?_ | exact gr0 _ | refine gr1 ?_ _ | refine gr2 ?_ (Later.below _) | refine gr2 ?_ (by assumption) | refine gr3 ?_ | refine gr4 ?_ (by first | (simp; done) | (simp; omega) | omega) _)

set_option maxRecDepth 100000 in
set_option maxHeartbeats 2000000 in
theorem parts_3 (w : World) :
    Calls Try.prog 30 #[.int .i64 3] w fun e w' => ∃ v, e = .returned v ∧ Below w.heap.size w w' ∧ w'.ownsRow w.heap.size 3 1 v 4 [.int .i64 0, .int .i64 0, .int .i64 1, .int .i64 2] := by
  go_enter Try.func30, Try.ntmps30
  go_wp2_with (go_at_call 48; refine (sides_3 _).mono ?_; rintro e W2 ⟨g2, rfl, hb2, hg2, hh2⟩; obtain ⟨hc2, hf2, hz2, hl2⟩ := ncell hb2 hg2 hh2; try simp at hz2; try simp at hg2)
  refine wp_loop_rounds 4 ?_
  rw [rounds_succ]
  go_wp2_with (first
    | (at_builtin; apply append_int w.heap.size (.tmp 21) (.tmp 23) rfl rfl (hs := rfl) (hx := rfl); (case hown => first | exact World.ownsRow_nil _ _ _ _ | exact hown5 | exact own_alloc hown5 | exact own_alloc (own_alloc hown5) | exact own_alloc (own_alloc (own_alloc hown5)) | exact own_later hown5 | exact own_alloc (own_later hown5) | exact own_alloc (own_later (own_later hown5))); (case hgv => first | exact .inl rfl | exact .inr ⟨rfl, rfl⟩); (case hu => exact new_cell (by simp)); (case hn => omega); (case hbase => (try simp); omega); intro g5 c5 w5 hown5 hb5 hl5 hs5 ho5 hlow5 hc5 hf5; (try simp at hs5); (try simp only [Nat.zero_add, List.nil_append, List.cons_append, Nat.reduceAdd] at hown5); (try simp at ho5); (try subst ho5); try (have hne5 : g5 ≠ g2 := by (rcases ho5 with h | h <;> omega)))
    | (refine wp_region_calm (by kernel_rfl) (by kernel_rfl) ?_; repeat (first | go_big_quiet_step (fail) | quiet_step (fail))
       refine wpQuiet_nil ?_; intro u; have hzu := u.below.size; try simp at hzu))
  refine wp_loop_rounds 3 ?_
  rw [rounds_succ]
  go_wp2_with (first
    | (at_builtin; apply append_int w.heap.size (.tmp 21) (.tmp 23) rfl rfl (hs := rfl) (hx := rfl); (case hown => first | exact World.ownsRow_nil _ _ _ _ | exact hown5 | exact own_alloc hown5 | exact own_alloc (own_alloc hown5) | exact own_alloc (own_alloc (own_alloc hown5)) | exact own_later hown5 | exact own_alloc (own_later hown5) | exact own_alloc (own_later (own_later hown5))); (case hgv => first | exact .inl rfl | exact .inr ⟨rfl, rfl⟩); (case hu => exact new_cell (by simp)); (case hn => omega); (case hbase => (try simp); omega); intro g5 c5 w5 hown5 hb5 hl5 hs5 ho5 hlow5 hc5 hf5; (try simp at hs5); (try simp only [Nat.zero_add, List.nil_append, List.cons_append, Nat.reduceAdd] at hown5); (try simp at ho5); (try subst ho5); try (have hne5 : g5 ≠ g2 := by (rcases ho5 with h | h <;> omega)))
    | (refine wp_region_calm (by kernel_rfl) (by kernel_rfl) ?_; repeat (first | go_big_quiet_step (fail) | quiet_step (fail))
       refine wpQuiet_nil ?_; intro u; have hzu := u.below.size; try simp at hzu))
  rw [rounds_succ]
  go_wp2_with (first
    | (at_builtin; apply append_int w.heap.size (.tmp 21) (.tmp 23) rfl rfl (hs := rfl) (hx := rfl); (case hown => first | exact World.ownsRow_nil _ _ _ _ | exact hown5 | exact own_alloc hown5 | exact own_alloc (own_alloc hown5) | exact own_alloc (own_alloc (own_alloc hown5)) | exact own_later hown5 | exact own_alloc (own_later hown5) | exact own_alloc (own_later (own_later hown5))); (case hgv => first | exact .inl rfl | exact .inr ⟨rfl, rfl⟩); (case hu => exact new_cell (by simp)); (case hn => omega); (case hbase => (try simp); omega); intro g5 c5 w5 hown5 hb5 hl5 hs5 ho5 hlow5 hc5 hf5; (try simp at hs5); (try simp only [Nat.zero_add, List.nil_append, List.cons_append, Nat.reduceAdd] at hown5); (try simp at ho5); (try subst ho5); try (have hne5 : g5 ≠ g2 := by (rcases ho5 with h | h <;> omega)))
    | (refine wp_region_calm (by kernel_rfl) (by kernel_rfl) ?_; repeat (first | go_big_quiet_step (fail) | quiet_step (fail))
       refine wpQuiet_nil ?_; intro u; have hzu := u.below.size; try simp at hzu))
  rw [rounds_succ]
  go_wp2_with (first
    | (at_builtin; apply append_int w.heap.size (.tmp 21) (.tmp 23) rfl rfl (hs := rfl) (hx := rfl); (case hown => first | exact World.ownsRow_nil _ _ _ _ | exact hown5 | exact own_alloc hown5 | exact own_alloc (own_alloc hown5) | exact own_alloc (own_alloc (own_alloc hown5)) | exact own_later hown5 | exact own_alloc (own_later hown5) | exact own_alloc (own_later (own_later hown5))); (case hgv => first | exact .inl rfl | exact .inr ⟨rfl, rfl⟩); (case hu => exact new_cell (by simp)); (case hn => omega); (case hbase => (try simp); omega); intro g5 c5 w5 hown5 hb5 hl5 hs5 ho5 hlow5 hc5 hf5; (try simp at hs5); (try simp only [Nat.zero_add, List.nil_append, List.cons_append, Nat.reduceAdd] at hown5); (try simp at ho5); (try subst ho5); try (have hne5 : g5 ≠ g2 := by (rcases ho5 with h | h <;> omega)))
    | (refine wp_region_calm (by kernel_rfl) (by kernel_rfl) ?_; repeat (first | go_big_quiet_step (fail) | quiet_step (fail))
       refine wpQuiet_nil ?_; intro u; have hzu := u.below.size; try simp at hzu))
  rw [rounds_succ]
  go_wp2_with (first
    | (at_builtin; apply append_int w.heap.size (.tmp 21) (.tmp 23) rfl rfl (hs := rfl) (hx := rfl); (case hown => first | exact World.ownsRow_nil _ _ _ _ | exact hown5 | exact own_alloc hown5 | exact own_alloc (own_alloc hown5) | exact own_alloc (own_alloc (own_alloc hown5)) | exact own_later hown5 | exact own_alloc (own_later hown5) | exact own_alloc (own_later (own_later hown5))); (case hgv => first | exact .inl rfl | exact .inr ⟨rfl, rfl⟩); (case hu => exact new_cell (by simp)); (case hn => omega); (case hbase => (try simp); omega); intro g5 c5 w5 hown5 hb5 hl5 hs5 ho5 hlow5 hc5 hf5; (try simp at hs5); (try simp only [Nat.zero_add, List.nil_append, List.cons_append, Nat.reduceAdd] at hown5); (try simp at ho5); (try subst ho5); try (have hne5 : g5 ≠ g2 := by (rcases ho5 with h | h <;> omega)))
    | (refine wp_region_calm (by kernel_rfl) (by kernel_rfl) ?_; repeat (first | go_big_quiet_step (fail) | quiet_step (fail))
       refine wpQuiet_nil ?_; intro u; have hzu := u.below.size; try simp at hzu))
  refine wp_loop_rounds 2 ?_
  rw [rounds_succ]
  go_wp2_with (first
    | (at_builtin; apply append_int w.heap.size (.tmp 21) (.tmp 23) rfl rfl (hs := rfl) (hx := rfl); (case hown => first | exact World.ownsRow_nil _ _ _ _ | exact hown5 | exact own_alloc hown5 | exact own_alloc (own_alloc hown5) | exact own_alloc (own_alloc (own_alloc hown5)) | exact own_later hown5 | exact own_alloc (own_later hown5) | exact own_alloc (own_later (own_later hown5))); (case hgv => first | exact .inl rfl | exact .inr ⟨rfl, rfl⟩); (case hu => exact new_cell (by simp)); (case hn => omega); (case hbase => (try simp); omega); intro g5 c5 w5 hown5 hb5 hl5 hs5 ho5 hlow5 hc5 hf5; (try simp at hs5); (try simp only [Nat.zero_add, List.nil_append, List.cons_append, Nat.reduceAdd] at hown5); (try simp at ho5); (try subst ho5); try (have hne5 : g5 ≠ g2 := by (rcases ho5 with h | h <;> omega)))
    | (refine wp_region_calm (by kernel_rfl) (by kernel_rfl) ?_; repeat (first | go_big_quiet_step (fail) | quiet_step (fail))
       refine wpQuiet_nil ?_; intro u; have hzu := u.below.size; try simp at hzu))
  rw [rounds_succ]
  go_wp2_with (first
    | (at_builtin; apply append_int w.heap.size (.tmp 21) (.tmp 23) rfl rfl (hs := rfl) (hx := rfl); (case hown => first | exact World.ownsRow_nil _ _ _ _ | exact hown5 | exact own_alloc hown5 | exact own_alloc (own_alloc hown5) | exact own_alloc (own_alloc (own_alloc hown5)) | exact own_later hown5 | exact own_alloc (own_later hown5) | exact own_alloc (own_later (own_later hown5))); (case hgv => first | exact .inl rfl | exact .inr ⟨rfl, rfl⟩); (case hu => exact new_cell (by simp)); (case hn => omega); (case hbase => (try simp); omega); intro g5 c5 w5 hown5 hb5 hl5 hs5 ho5 hlow5 hc5 hf5; (try simp at hs5); (try simp only [Nat.zero_add, List.nil_append, List.cons_append, Nat.reduceAdd] at hown5); (try simp at ho5); (try subst ho5); try (have hne5 : g5 ≠ g2 := by (rcases ho5 with h | h <;> omega)))
    | (refine wp_region_calm (by kernel_rfl) (by kernel_rfl) ?_; repeat (first | go_big_quiet_step (fail) | quiet_step (fail))
       refine wpQuiet_nil ?_; intro u; have hzu := u.below.size; try simp at hzu))
  rw [rounds_succ]
  go_wp2_with (first
    | (at_builtin; apply append_int w.heap.size (.tmp 21) (.tmp 23) rfl rfl (hs := rfl) (hx := rfl); (case hown => first | exact World.ownsRow_nil _ _ _ _ | exact hown5 | exact own_alloc hown5 | exact own_alloc (own_alloc hown5) | exact own_alloc (own_alloc (own_alloc hown5)) | exact own_later hown5 | exact own_alloc (own_later hown5) | exact own_alloc (own_later (own_later hown5))); (case hgv => first | exact .inl rfl | exact .inr ⟨rfl, rfl⟩); (case hu => exact new_cell (by simp)); (case hn => omega); (case hbase => (try simp); omega); intro g5 c5 w5 hown5 hb5 hl5 hs5 ho5 hlow5 hc5 hf5; (try simp at hs5); (try simp only [Nat.zero_add, List.nil_append, List.cons_append, Nat.reduceAdd] at hown5); (try simp at ho5); (try subst ho5); try (have hne5 : g5 ≠ g2 := by (rcases ho5 with h | h <;> omega)))
    | (refine wp_region_calm (by kernel_rfl) (by kernel_rfl) ?_; repeat (first | go_big_quiet_step (fail) | quiet_step (fail))
       refine wpQuiet_nil ?_; intro u; have hzu := u.below.size; try simp at hzu))
  refine wp_loop_rounds 2 ?_
  rw [rounds_succ]
  go_wp2_with (first
    | (at_builtin; apply append_int w.heap.size (.tmp 21) (.tmp 23) rfl rfl (hs := rfl) (hx := rfl); (case hown => first | exact World.ownsRow_nil _ _ _ _ | exact hown5 | exact own_alloc hown5 | exact own_alloc (own_alloc hown5) | exact own_alloc (own_alloc (own_alloc hown5)) | exact own_later hown5 | exact own_alloc (own_later hown5) | exact own_alloc (own_later (own_later hown5))); (case hgv => first | exact .inl rfl | exact .inr ⟨rfl, rfl⟩); (case hu => exact new_cell (by simp)); (case hn => omega); (case hbase => (try simp); omega); intro g5 c5 w5 hown5 hb5 hl5 hs5 ho5 hlow5 hc5 hf5; (try simp at hs5); (try simp only [Nat.zero_add, List.nil_append, List.cons_append, Nat.reduceAdd] at hown5); (try simp at ho5); (try subst ho5); try (have hne5 : g5 ≠ g2 := by (rcases ho5 with h | h <;> omega)))
    | (refine wp_region_calm (by kernel_rfl) (by kernel_rfl) ?_; repeat (first | go_big_quiet_step (fail) | quiet_step (fail))
       refine wpQuiet_nil ?_; intro u; have hzu := u.below.size; try simp at hzu))
  rw [rounds_succ]
  go_wp2_with (first
    | (at_builtin; apply append_int w.heap.size (.tmp 21) (.tmp 23) rfl rfl (hs := rfl) (hx := rfl); (case hown => first | exact World.ownsRow_nil _ _ _ _ | exact hown5 | exact own_alloc hown5 | exact own_alloc (own_alloc hown5) | exact own_alloc (own_alloc (own_alloc hown5)) | exact own_later hown5 | exact own_alloc (own_later hown5) | exact own_alloc (own_later (own_later hown5))); (case hgv => first | exact .inl rfl | exact .inr ⟨rfl, rfl⟩); (case hu => exact new_cell (by simp)); (case hn => omega); (case hbase => (try simp); omega); intro g5 c5 w5 hown5 hb5 hl5 hs5 ho5 hlow5 hc5 hf5; (try simp at hs5); (try simp only [Nat.zero_add, List.nil_append, List.cons_append, Nat.reduceAdd] at hown5); (try simp at ho5); (try subst ho5); try (have hne5 : g5 ≠ g2 := by (rcases ho5 with h | h <;> omega)))
    | (refine wp_region_calm (by kernel_rfl) (by kernel_rfl) ?_; repeat (first | go_big_quiet_step (fail) | quiet_step (fail))
       refine wpQuiet_nil ?_; intro u; have hzu := u.below.size; try simp at hzu))
  rw [rounds_succ]
  go_wp2_with (first
    | (at_builtin; apply append_int w.heap.size (.tmp 21) (.tmp 23) rfl rfl (hs := rfl) (hx := rfl); (case hown => first | exact World.ownsRow_nil _ _ _ _ | exact hown5 | exact own_alloc hown5 | exact own_alloc (own_alloc hown5) | exact own_alloc (own_alloc (own_alloc hown5)) | exact own_later hown5 | exact own_alloc (own_later hown5) | exact own_alloc (own_later (own_later hown5))); (case hgv => first | exact .inl rfl | exact .inr ⟨rfl, rfl⟩); (case hu => exact new_cell (by simp)); (case hn => omega); (case hbase => (try simp); omega); intro g5 c5 w5 hown5 hb5 hl5 hs5 ho5 hlow5 hc5 hf5; (try simp at hs5); (try simp only [Nat.zero_add, List.nil_append, List.cons_append, Nat.reduceAdd] at hown5); (try simp at ho5); (try subst ho5); try (have hne5 : g5 ≠ g2 := by (rcases ho5 with h | h <;> omega)))
    | (refine wp_region_calm (by kernel_rfl) (by kernel_rfl) ?_; repeat (first | go_big_quiet_step (fail) | quiet_step (fail))
       refine wpQuiet_nil ?_; intro u; have hzu := u.below.size; try simp at hzu))
  go_ret
  refine ⟨_, rfl, ?_, by first | exact hown5 | exact own_later hown5⟩
  repeat (first | exact gr0 _ | refine gr6 (by assumption) (Nat.le_refl _) ?_ | exact gr0 _ | refine gr1 ?_ _ | refine gr2 ?_ (Later.below _) | refine gr2 ?_ (by assumption) | refine gr3 ?_ | refine gr4 ?_ (by first | (simp; done) | (simp; omega) | omega) _)

set_option maxRecDepth 100000 in
set_option maxHeartbeats 2000000 in
theorem parts_4 (w : World) :
    Calls Try.prog 30 #[.int .i64 4] w fun e w' => ∃ v, e = .returned v ∧ Below w.heap.size w w' ∧ w'.ownsRow w.heap.size 3 1 v 6 [.int .i64 0, .int .i64 0, .int .i64 0, .int .i64 0, .int .i64 1, .int .i64 2] := by
  go_enter Try.func30, Try.ntmps30
  go_wp2_with (go_at_call 48; refine (sides_4 _).mono ?_; rintro e W2 ⟨g2, rfl, hb2, hg2, hh2⟩; obtain ⟨hc2, hf2, hz2, hl2⟩ := ncell hb2 hg2 hh2; try simp at hz2; try simp at hg2)
  refine wp_loop_rounds 4 ?_
  rw [rounds_succ]
  go_wp2_with (first
    | (at_builtin; apply append_int w.heap.size (.tmp 21) (.tmp 23) rfl rfl (hs := rfl) (hx := rfl); (case hown => first | exact World.ownsRow_nil _ _ _ _ | exact hown5 | exact own_alloc hown5 | exact own_alloc (own_alloc hown5) | exact own_alloc (own_alloc (own_alloc hown5)) | exact own_later hown5 | exact own_alloc (own_later hown5) | exact own_alloc (own_later (own_later hown5))); (case hgv => first | exact .inl rfl | exact .inr ⟨rfl, rfl⟩); (case hu => exact new_cell (by simp)); (case hn => omega); (case hbase => (try simp); omega); intro g5 c5 w5 hown5 hb5 hl5 hs5 ho5 hlow5 hc5 hf5; (try simp at hs5); (try simp only [Nat.zero_add, List.nil_append, List.cons_append, Nat.reduceAdd] at hown5); (try simp at ho5); (try subst ho5); try (have hne5 : g5 ≠ g2 := by (rcases ho5 with h | h <;> omega)))
    | (refine wp_region_calm (by kernel_rfl) (by kernel_rfl) ?_; repeat (first | go_big_quiet_step (fail) | quiet_step (fail))
       refine wpQuiet_nil ?_; intro u; have hzu := u.below.size; try simp at hzu))
  refine wp_loop_rounds 5 ?_
  rw [rounds_succ]
  go_wp2_with (first
    | (at_builtin; apply append_int w.heap.size (.tmp 21) (.tmp 23) rfl rfl (hs := rfl) (hx := rfl); (case hown => first | exact World.ownsRow_nil _ _ _ _ | exact hown5 | exact own_alloc hown5 | exact own_alloc (own_alloc hown5) | exact own_alloc (own_alloc (own_alloc hown5)) | exact own_later hown5 | exact own_alloc (own_later hown5) | exact own_alloc (own_later (own_later hown5))); (case hgv => first | exact .inl rfl | exact .inr ⟨rfl, rfl⟩); (case hu => exact new_cell (by simp)); (case hn => omega); (case hbase => (try simp); omega); intro g5 c5 w5 hown5 hb5 hl5 hs5 ho5 hlow5 hc5 hf5; (try simp at hs5); (try simp only [Nat.zero_add, List.nil_append, List.cons_append, Nat.reduceAdd] at hown5); (try simp at ho5); (try subst ho5); try (have hne5 : g5 ≠ g2 := by (rcases ho5 with h | h <;> omega)))
    | (refine wp_region_calm (by kernel_rfl) (by kernel_rfl) ?_; repeat (first | go_big_quiet_step (fail) | quiet_step (fail))
       refine wpQuiet_nil ?_; intro u; have hzu := u.below.size; try simp at hzu))
  rw [rounds_succ]
  go_wp2_with (first
    | (at_builtin; apply append_int w.heap.size (.tmp 21) (.tmp 23) rfl rfl (hs := rfl) (hx := rfl); (case hown => first | exact World.ownsRow_nil _ _ _ _ | exact hown5 | exact own_alloc hown5 | exact own_alloc (own_alloc hown5) | exact own_alloc (own_alloc (own_alloc hown5)) | exact own_later hown5 | exact own_alloc (own_later hown5) | exact own_alloc (own_later (own_later hown5))); (case hgv => first | exact .inl rfl | exact .inr ⟨rfl, rfl⟩); (case hu => exact new_cell (by simp)); (case hn => omega); (case hbase => (try simp); omega); intro g5 c5 w5 hown5 hb5 hl5 hs5 ho5 hlow5 hc5 hf5; (try simp at hs5); (try simp only [Nat.zero_add, List.nil_append, List.cons_append, Nat.reduceAdd] at hown5); (try simp at ho5); (try subst ho5); try (have hne5 : g5 ≠ g2 := by (rcases ho5 with h | h <;> omega)))
    | (refine wp_region_calm (by kernel_rfl) (by kernel_rfl) ?_; repeat (first | go_big_quiet_step (fail) | quiet_step (fail))
       refine wpQuiet_nil ?_; intro u; have hzu := u.below.size; try simp at hzu))
  rw [rounds_succ]
  go_wp2_with (first
    | (at_builtin; apply append_int w.heap.size (.tmp 21) (.tmp 23) rfl rfl (hs := rfl) (hx := rfl); (case hown => first | exact World.ownsRow_nil _ _ _ _ | exact hown5 | exact own_alloc hown5 | exact own_alloc (own_alloc hown5) | exact own_alloc (own_alloc (own_alloc hown5)) | exact own_later hown5 | exact own_alloc (own_later hown5) | exact own_alloc (own_later (own_later hown5))); (case hgv => first | exact .inl rfl | exact .inr ⟨rfl, rfl⟩); (case hu => exact new_cell (by simp)); (case hn => omega); (case hbase => (try simp); omega); intro g5 c5 w5 hown5 hb5 hl5 hs5 ho5 hlow5 hc5 hf5; (try simp at hs5); (try simp only [Nat.zero_add, List.nil_append, List.cons_append, Nat.reduceAdd] at hown5); (try simp at ho5); (try subst ho5); try (have hne5 : g5 ≠ g2 := by (rcases ho5 with h | h <;> omega)))
    | (refine wp_region_calm (by kernel_rfl) (by kernel_rfl) ?_; repeat (first | go_big_quiet_step (fail) | quiet_step (fail))
       refine wpQuiet_nil ?_; intro u; have hzu := u.below.size; try simp at hzu))
  rw [rounds_succ]
  go_wp2_with (first
    | (at_builtin; apply append_int w.heap.size (.tmp 21) (.tmp 23) rfl rfl (hs := rfl) (hx := rfl); (case hown => first | exact World.ownsRow_nil _ _ _ _ | exact hown5 | exact own_alloc hown5 | exact own_alloc (own_alloc hown5) | exact own_alloc (own_alloc (own_alloc hown5)) | exact own_later hown5 | exact own_alloc (own_later hown5) | exact own_alloc (own_later (own_later hown5))); (case hgv => first | exact .inl rfl | exact .inr ⟨rfl, rfl⟩); (case hu => exact new_cell (by simp)); (case hn => omega); (case hbase => (try simp); omega); intro g5 c5 w5 hown5 hb5 hl5 hs5 ho5 hlow5 hc5 hf5; (try simp at hs5); (try simp only [Nat.zero_add, List.nil_append, List.cons_append, Nat.reduceAdd] at hown5); (try simp at ho5); (try subst ho5); try (have hne5 : g5 ≠ g2 := by (rcases ho5 with h | h <;> omega)))
    | (refine wp_region_calm (by kernel_rfl) (by kernel_rfl) ?_; repeat (first | go_big_quiet_step (fail) | quiet_step (fail))
       refine wpQuiet_nil ?_; intro u; have hzu := u.below.size; try simp at hzu))
  rw [rounds_succ]
  go_wp2_with (first
    | (at_builtin; apply append_int w.heap.size (.tmp 21) (.tmp 23) rfl rfl (hs := rfl) (hx := rfl); (case hown => first | exact World.ownsRow_nil _ _ _ _ | exact hown5 | exact own_alloc hown5 | exact own_alloc (own_alloc hown5) | exact own_alloc (own_alloc (own_alloc hown5)) | exact own_later hown5 | exact own_alloc (own_later hown5) | exact own_alloc (own_later (own_later hown5))); (case hgv => first | exact .inl rfl | exact .inr ⟨rfl, rfl⟩); (case hu => exact new_cell (by simp)); (case hn => omega); (case hbase => (try simp); omega); intro g5 c5 w5 hown5 hb5 hl5 hs5 ho5 hlow5 hc5 hf5; (try simp at hs5); (try simp only [Nat.zero_add, List.nil_append, List.cons_append, Nat.reduceAdd] at hown5); (try simp at ho5); (try subst ho5); try (have hne5 : g5 ≠ g2 := by (rcases ho5 with h | h <;> omega)))
    | (refine wp_region_calm (by kernel_rfl) (by kernel_rfl) ?_; repeat (first | go_big_quiet_step (fail) | quiet_step (fail))
       refine wpQuiet_nil ?_; intro u; have hzu := u.below.size; try simp at hzu))
  rw [rounds_succ]
  go_wp2_with (first
    | (at_builtin; apply append_int w.heap.size (.tmp 21) (.tmp 23) rfl rfl (hs := rfl) (hx := rfl); (case hown => first | exact World.ownsRow_nil _ _ _ _ | exact hown5 | exact own_alloc hown5 | exact own_alloc (own_alloc hown5) | exact own_alloc (own_alloc (own_alloc hown5)) | exact own_later hown5 | exact own_alloc (own_later hown5) | exact own_alloc (own_later (own_later hown5))); (case hgv => first | exact .inl rfl | exact .inr ⟨rfl, rfl⟩); (case hu => exact new_cell (by simp)); (case hn => omega); (case hbase => (try simp); omega); intro g5 c5 w5 hown5 hb5 hl5 hs5 ho5 hlow5 hc5 hf5; (try simp at hs5); (try simp only [Nat.zero_add, List.nil_append, List.cons_append, Nat.reduceAdd] at hown5); (try simp at ho5); (try subst ho5); try (have hne5 : g5 ≠ g2 := by (rcases ho5 with h | h <;> omega)))
    | (refine wp_region_calm (by kernel_rfl) (by kernel_rfl) ?_; repeat (first | go_big_quiet_step (fail) | quiet_step (fail))
       refine wpQuiet_nil ?_; intro u; have hzu := u.below.size; try simp at hzu))
  refine wp_loop_rounds 2 ?_
  rw [rounds_succ]
  go_wp2_with (first
    | (at_builtin; apply append_int w.heap.size (.tmp 21) (.tmp 23) rfl rfl (hs := rfl) (hx := rfl); (case hown => first | exact World.ownsRow_nil _ _ _ _ | exact hown5 | exact own_alloc hown5 | exact own_alloc (own_alloc hown5) | exact own_alloc (own_alloc (own_alloc hown5)) | exact own_later hown5 | exact own_alloc (own_later hown5) | exact own_alloc (own_later (own_later hown5))); (case hgv => first | exact .inl rfl | exact .inr ⟨rfl, rfl⟩); (case hu => exact new_cell (by simp)); (case hn => omega); (case hbase => (try simp); omega); intro g5 c5 w5 hown5 hb5 hl5 hs5 ho5 hlow5 hc5 hf5; (try simp at hs5); (try simp only [Nat.zero_add, List.nil_append, List.cons_append, Nat.reduceAdd] at hown5); (try simp at ho5); (try subst ho5); try (have hne5 : g5 ≠ g2 := by (rcases ho5 with h | h <;> omega)))
    | (refine wp_region_calm (by kernel_rfl) (by kernel_rfl) ?_; repeat (first | go_big_quiet_step (fail) | quiet_step (fail))
       refine wpQuiet_nil ?_; intro u; have hzu := u.below.size; try simp at hzu))
  rw [rounds_succ]
  go_wp2_with (first
    | (at_builtin; apply append_int w.heap.size (.tmp 21) (.tmp 23) rfl rfl (hs := rfl) (hx := rfl); (case hown => first | exact World.ownsRow_nil _ _ _ _ | exact hown5 | exact own_alloc hown5 | exact own_alloc (own_alloc hown5) | exact own_alloc (own_alloc (own_alloc hown5)) | exact own_later hown5 | exact own_alloc (own_later hown5) | exact own_alloc (own_later (own_later hown5))); (case hgv => first | exact .inl rfl | exact .inr ⟨rfl, rfl⟩); (case hu => exact new_cell (by simp)); (case hn => omega); (case hbase => (try simp); omega); intro g5 c5 w5 hown5 hb5 hl5 hs5 ho5 hlow5 hc5 hf5; (try simp at hs5); (try simp only [Nat.zero_add, List.nil_append, List.cons_append, Nat.reduceAdd] at hown5); (try simp at ho5); (try subst ho5); try (have hne5 : g5 ≠ g2 := by (rcases ho5 with h | h <;> omega)))
    | (refine wp_region_calm (by kernel_rfl) (by kernel_rfl) ?_; repeat (first | go_big_quiet_step (fail) | quiet_step (fail))
       refine wpQuiet_nil ?_; intro u; have hzu := u.below.size; try simp at hzu))
  rw [rounds_succ]
  go_wp2_with (first
    | (at_builtin; apply append_int w.heap.size (.tmp 21) (.tmp 23) rfl rfl (hs := rfl) (hx := rfl); (case hown => first | exact World.ownsRow_nil _ _ _ _ | exact hown5 | exact own_alloc hown5 | exact own_alloc (own_alloc hown5) | exact own_alloc (own_alloc (own_alloc hown5)) | exact own_later hown5 | exact own_alloc (own_later hown5) | exact own_alloc (own_later (own_later hown5))); (case hgv => first | exact .inl rfl | exact .inr ⟨rfl, rfl⟩); (case hu => exact new_cell (by simp)); (case hn => omega); (case hbase => (try simp); omega); intro g5 c5 w5 hown5 hb5 hl5 hs5 ho5 hlow5 hc5 hf5; (try simp at hs5); (try simp only [Nat.zero_add, List.nil_append, List.cons_append, Nat.reduceAdd] at hown5); (try simp at ho5); (try subst ho5); try (have hne5 : g5 ≠ g2 := by (rcases ho5 with h | h <;> omega)))
    | (refine wp_region_calm (by kernel_rfl) (by kernel_rfl) ?_; repeat (first | go_big_quiet_step (fail) | quiet_step (fail))
       refine wpQuiet_nil ?_; intro u; have hzu := u.below.size; try simp at hzu))
  refine wp_loop_rounds 2 ?_
  rw [rounds_succ]
  go_wp2_with (first
    | (at_builtin; apply append_int w.heap.size (.tmp 21) (.tmp 23) rfl rfl (hs := rfl) (hx := rfl); (case hown => first | exact World.ownsRow_nil _ _ _ _ | exact hown5 | exact own_alloc hown5 | exact own_alloc (own_alloc hown5) | exact own_alloc (own_alloc (own_alloc hown5)) | exact own_later hown5 | exact own_alloc (own_later hown5) | exact own_alloc (own_later (own_later hown5))); (case hgv => first | exact .inl rfl | exact .inr ⟨rfl, rfl⟩); (case hu => exact new_cell (by simp)); (case hn => omega); (case hbase => (try simp); omega); intro g5 c5 w5 hown5 hb5 hl5 hs5 ho5 hlow5 hc5 hf5; (try simp at hs5); (try simp only [Nat.zero_add, List.nil_append, List.cons_append, Nat.reduceAdd] at hown5); (try simp at ho5); (try subst ho5); try (have hne5 : g5 ≠ g2 := by (rcases ho5 with h | h <;> omega)))
    | (refine wp_region_calm (by kernel_rfl) (by kernel_rfl) ?_; repeat (first | go_big_quiet_step (fail) | quiet_step (fail))
       refine wpQuiet_nil ?_; intro u; have hzu := u.below.size; try simp at hzu))
  rw [rounds_succ]
  go_wp2_with (first
    | (at_builtin; apply append_int w.heap.size (.tmp 21) (.tmp 23) rfl rfl (hs := rfl) (hx := rfl); (case hown => first | exact World.ownsRow_nil _ _ _ _ | exact hown5 | exact own_alloc hown5 | exact own_alloc (own_alloc hown5) | exact own_alloc (own_alloc (own_alloc hown5)) | exact own_later hown5 | exact own_alloc (own_later hown5) | exact own_alloc (own_later (own_later hown5))); (case hgv => first | exact .inl rfl | exact .inr ⟨rfl, rfl⟩); (case hu => exact new_cell (by simp)); (case hn => omega); (case hbase => (try simp); omega); intro g5 c5 w5 hown5 hb5 hl5 hs5 ho5 hlow5 hc5 hf5; (try simp at hs5); (try simp only [Nat.zero_add, List.nil_append, List.cons_append, Nat.reduceAdd] at hown5); (try simp at ho5); (try subst ho5); try (have hne5 : g5 ≠ g2 := by (rcases ho5 with h | h <;> omega)))
    | (refine wp_region_calm (by kernel_rfl) (by kernel_rfl) ?_; repeat (first | go_big_quiet_step (fail) | quiet_step (fail))
       refine wpQuiet_nil ?_; intro u; have hzu := u.below.size; try simp at hzu))
  rw [rounds_succ]
  go_wp2_with (first
    | (at_builtin; apply append_int w.heap.size (.tmp 21) (.tmp 23) rfl rfl (hs := rfl) (hx := rfl); (case hown => first | exact World.ownsRow_nil _ _ _ _ | exact hown5 | exact own_alloc hown5 | exact own_alloc (own_alloc hown5) | exact own_alloc (own_alloc (own_alloc hown5)) | exact own_later hown5 | exact own_alloc (own_later hown5) | exact own_alloc (own_later (own_later hown5))); (case hgv => first | exact .inl rfl | exact .inr ⟨rfl, rfl⟩); (case hu => exact new_cell (by simp)); (case hn => omega); (case hbase => (try simp); omega); intro g5 c5 w5 hown5 hb5 hl5 hs5 ho5 hlow5 hc5 hf5; (try simp at hs5); (try simp only [Nat.zero_add, List.nil_append, List.cons_append, Nat.reduceAdd] at hown5); (try simp at ho5); (try subst ho5); try (have hne5 : g5 ≠ g2 := by (rcases ho5 with h | h <;> omega)))
    | (refine wp_region_calm (by kernel_rfl) (by kernel_rfl) ?_; repeat (first | go_big_quiet_step (fail) | quiet_step (fail))
       refine wpQuiet_nil ?_; intro u; have hzu := u.below.size; try simp at hzu))
  go_ret
  refine ⟨_, rfl, ?_, by first | exact hown5 | exact own_later hown5⟩
  repeat (first | exact gr0 _ | refine gr6 (by assumption) (Nat.le_refl _) ?_ | exact gr0 _ | refine gr1 ?_ _ | refine gr2 ?_ (Later.below _) | refine gr2 ?_ (by assumption) | refine gr3 ?_ | refine gr4 ?_ (by first | (simp; done) | (simp; omega) | omega) _)

theorem parts_0 (m : Int) (w : World) (h1 : m ≠ 1) (h2 : m ≠ 2) (h3 : m ≠ 3) (h4 : m ≠ 4) :
    Calls Try.prog 30 #[.int .i64 m] w fun e w' => e = .returned (.slice none 0 0) ∧ Below w.heap.size w w' := by
  go_enter Try.func30, Try.ntmps30
  go_wp2_with (first
    | (go_at_call 48; refine (sides_0 _ _ ‹_› ‹_› ‹_› ‹_›).mono ?_; rintro e W1 ⟨rfl, hb1⟩; obtain ⟨hc1, hf1, hz1⟩ := bcell hb1; try simp at hz1)
    | (refine wp_region_calm (by kernel_rfl) (by kernel_rfl) ?_; repeat (first | go_big_quiet_step ((first | (go_at_call 48; exact calm_call (sides_0 _ _ ‹_› ‹_› ‹_› ‹_›)))) | quiet_step ((first | (go_at_call 48; exact calm_call (sides_0 _ _ ‹_› ‹_› ‹_› ‹_›)))))
       refine wpQuiet_nil ?_; intro u; have hzu := u.below.size; try simp at hzu))
  refine wp_loop_rounds 2 ?_
  rw [rounds_succ]
  go_wp2
  go_ret
  refine ⟨rfl, ?_⟩
  repeat (first | exact gr0 _ | refine gr1 ?_ _ | refine gr2 ?_ (Later.below _) | refine gr2 ?_ (by assumption) | refine gr3 ?_ | refine gr4 ?_ (by first | (simp; done) | (simp; omega) | omega) _)

set_option maxRecDepth 100000 in
set_option maxHeartbeats 2000000 in
theorem rparts_1 (w : World) :
    Calls Try.prog 59 #[.int .i64 1] w fun e w' => ∃ v, e = .returned v ∧ Below w.heap.size w w' ∧ w'.ownsRow w.heap.size 3 1 v 1 [.int .i64 0] := by
  go_enter Try.func59, Try.ntmps59
  go_wp2_with (go_at_call 83; refine (rsides_1 _).mono ?_; rintro e W2 ⟨g2, rfl, hb2, hg2, hh2⟩; obtain ⟨hc2, hf2, hz2, hl2⟩ := ncell hb2 hg2 hh2; try simp at hz2; try simp at hg2)
  refine wp_loop_rounds 2 ?_
  rw [rounds_succ]
  go_wp2_with (first
    | (at_builtin; apply append_int w.heap.size (.tmp 30) (.tmp 32) rfl rfl (hs := rfl) (hx := rfl); (case hown => first | exact World.ownsRow_nil _ _ _ _ | exact hown5 | exact own_alloc hown5 | exact own_alloc (own_alloc hown5) | exact own_alloc (own_alloc (own_alloc hown5)) | exact own_later hown5 | exact own_alloc (own_later hown5) | exact own_alloc (own_later (own_later hown5))); (case hgv => first | exact .inl rfl | exact .inr ⟨rfl, rfl⟩); (case hu => exact new_cell (by simp)); (case hn => omega); (case hbase => (try simp); omega); intro g5 c5 w5 hown5 hb5 hl5 hs5 ho5 hlow5 hc5 hf5; (try simp at hs5); (try simp only [Nat.zero_add, List.nil_append, List.cons_append, Nat.reduceAdd] at hown5); (try simp at ho5); (try subst ho5); try (have hne5 : g5 ≠ g2 := by (rcases ho5 with h | h <;> omega)))
    | (refine wp_region_calm (by kernel_rfl) (by kernel_rfl) ?_; repeat (first | go_big_quiet_step (fail) | quiet_step (fail))
       refine wpQuiet_nil ?_; intro u; have hzu := u.below.size; try simp at hzu))
  refine wp_loop_rounds 2 ?_
  rw [rounds_succ]
  go_wp2_with (first
    | (at_builtin; apply append_int w.heap.size (.tmp 30) (.tmp 32) rfl rfl (hs := rfl) (hx := rfl); (case hown => first | exact World.ownsRow_nil _ _ _ _ | exact hown5 | exact own_alloc hown5 | exact own_alloc (own_alloc hown5) | exact own_alloc (own_alloc (own_alloc hown5)) | exact own_later hown5 | exact own_alloc (own_later hown5) | exact own_alloc (own_later (own_later hown5))); (case hgv => first | exact .inl rfl | exact .inr ⟨rfl, rfl⟩); (case hu => exact new_cell (by simp)); (case hn => omega); (case hbase => (try simp); omega); intro g5 c5 w5 hown5 hb5 hl5 hs5 ho5 hlow5 hc5 hf5; (try simp at hs5); (try simp only [Nat.zero_add, List.nil_append, List.cons_append, Nat.reduceAdd] at hown5); (try simp at ho5); (try subst ho5); try (have hne5 : g5 ≠ g2 := by (rcases ho5 with h | h <;> omega)))
    | (refine wp_region_calm (by kernel_rfl) (by kernel_rfl) ?_; repeat (first | go_big_quiet_step (fail) | quiet_step (fail))
       refine wpQuiet_nil ?_; intro u; have hzu := u.below.size; try simp at hzu))
  rw [rounds_succ]
  go_wp2_with (first
    | (at_builtin; apply append_int w.heap.size (.tmp 30) (.tmp 32) rfl rfl (hs := rfl) (hx := rfl); (case hown => first | exact World.ownsRow_nil _ _ _ _ | exact hown5 | exact own_alloc hown5 | exact own_alloc (own_alloc hown5) | exact own_alloc (own_alloc (own_alloc hown5)) | exact own_later hown5 | exact own_alloc (own_later hown5) | exact own_alloc (own_later (own_later hown5))); (case hgv => first | exact .inl rfl | exact .inr ⟨rfl, rfl⟩); (case hu => exact new_cell (by simp)); (case hn => omega); (case hbase => (try simp); omega); intro g5 c5 w5 hown5 hb5 hl5 hs5 ho5 hlow5 hc5 hf5; (try simp at hs5); (try simp only [Nat.zero_add, List.nil_append, List.cons_append, Nat.reduceAdd] at hown5); (try simp at ho5); (try subst ho5); try (have hne5 : g5 ≠ g2 := by (rcases ho5 with h | h <;> omega)))
    | (refine wp_region_calm (by kernel_rfl) (by kernel_rfl) ?_; repeat (first | go_big_quiet_step (fail) | quiet_step (fail))
       refine wpQuiet_nil ?_; intro u; have hzu := u.below.size; try simp at hzu))
  rw [rounds_succ]
  go_wp2_with (first
    | (at_builtin; apply append_int w.heap.size (.tmp 30) (.tmp 32) rfl rfl (hs := rfl) (hx := rfl); (case hown => first | exact World.ownsRow_nil _ _ _ _ | exact hown5 | exact own_alloc hown5 | exact own_alloc (own_alloc hown5) | exact own_alloc (own_alloc (own_alloc hown5)) | exact own_later hown5 | exact own_alloc (own_later hown5) | exact own_alloc (own_later (own_later hown5))); (case hgv => first | exact .inl rfl | exact .inr ⟨rfl, rfl⟩); (case hu => exact new_cell (by simp)); (case hn => omega); (case hbase => (try simp); omega); intro g5 c5 w5 hown5 hb5 hl5 hs5 ho5 hlow5 hc5 hf5; (try simp at hs5); (try simp only [Nat.zero_add, List.nil_append, List.cons_append, Nat.reduceAdd] at hown5); (try simp at ho5); (try subst ho5); try (have hne5 : g5 ≠ g2 := by (rcases ho5 with h | h <;> omega)))
    | (refine wp_region_calm (by kernel_rfl) (by kernel_rfl) ?_; repeat (first | go_big_quiet_step (fail) | quiet_step (fail))
       refine wpQuiet_nil ?_; intro u; have hzu := u.below.size; try simp at hzu))
  go_ret
  refine ⟨_, rfl, ?_, by first | exact hown5 | exact own_later hown5⟩
  repeat (first | exact gr0 _ | refine gr6 (by assumption) (Nat.le_refl _) ?_ | exact gr0 _ | refine gr1 ?_ _ | refine gr2 ?_ (Later.below _) | refine gr2 ?_ (by assumption) | refine gr3 ?_ | refine gr4 ?_ (by first | (simp; done) | (simp; omega) | omega) _)

set_option maxRecDepth 100000 in
set_option maxHeartbeats 2000000 in
theorem rparts_2 (w : World) :
    Calls Try.prog 59 #[.int .i64 2] w fun e w' => ∃ v, e = .returned v ∧ Below w.heap.size w w' ∧ w'.ownsRow w.heap.size 3 1 v 3 [.int .i64 0, .int .i64 1, .int .i64 2] := by
  go_enter Try.func59, Try.ntmps59
  go_wp2_with (go_at_call 83; refine (rsides_2 _).mono ?_; rintro e W2 ⟨g2, rfl, hb2, hg2, hh2⟩; obtain ⟨hc2, hf2, hz2, hl2⟩ := ncell hb2 hg2 hh2; try simp at hz2; try simp at hg2)
  refine wp_loop_rounds 4 ?_
  rw [rounds_succ]
  go_wp2_with (first
    | (at_builtin; apply append_int w.heap.size (.tmp 30) (.tmp 32) rfl rfl (hs := rfl) (hx := rfl); (case hown => first | exact World.ownsRow_nil _ _ _ _ | exact hown5 | exact own_alloc hown5 | exact own_alloc (own_alloc hown5) | exact own_alloc (own_alloc (own_alloc hown5)) | exact own_later hown5 | exact own_alloc (own_later hown5) | exact own_alloc (own_later (own_later hown5))); (case hgv => first | exact .inl rfl | exact .inr ⟨rfl, rfl⟩); (case hu => exact new_cell (by simp)); (case hn => omega); (case hbase => (try simp); omega); intro g5 c5 w5 hown5 hb5 hl5 hs5 ho5 hlow5 hc5 hf5; (try simp at hs5); (try simp only [Nat.zero_add, List.nil_append, List.cons_append, Nat.reduceAdd] at hown5); (try simp at ho5); (try subst ho5); try (have hne5 : g5 ≠ g2 := by (rcases ho5 with h | h <;> omega)))
    | (refine wp_region_calm (by kernel_rfl) (by kernel_rfl) ?_; repeat (first | go_big_quiet_step (fail) | quiet_step (fail))
       refine wpQuiet_nil ?_; intro u; have hzu := u.below.size; try simp at hzu))
  refine wp_loop_rounds 2 ?_
  rw [rounds_succ]
  go_wp2_with (first
    | (at_builtin; apply append_int w.heap.size (.tmp 30) (.tmp 32) rfl rfl (hs := rfl) (hx := rfl); (case hown => first | exact World.ownsRow_nil _ _ _ _ | exact hown5 | exact own_alloc hown5 | exact own_alloc (own_alloc hown5) | exact own_alloc (own_alloc (own_alloc hown5)) | exact own_later hown5 | exact own_alloc (own_later hown5) | exact own_alloc (own_later (own_later hown5))); (case hgv => first | exact .inl rfl | exact .inr ⟨rfl, rfl⟩); (case hu => exact new_cell (by simp)); (case hn => omega); (case hbase => (try simp); omega); intro g5 c5 w5 hown5 hb5 hl5 hs5 ho5 hlow5 hc5 hf5; (try simp at hs5); (try simp only [Nat.zero_add, List.nil_append, List.cons_append, Nat.reduceAdd] at hown5); (try simp at ho5); (try subst ho5); try (have hne5 : g5 ≠ g2 := by (rcases ho5 with h | h <;> omega)))
    | (refine wp_region_calm (by kernel_rfl) (by kernel_rfl) ?_; repeat (first | go_big_quiet_step (fail) | quiet_step (fail))
       refine wpQuiet_nil ?_; intro u; have hzu := u.below.size; try simp at hzu))
  rw [rounds_succ]
  go_wp2_with (first
    | (at_builtin; apply append_int w.heap.size (.tmp 30) (.tmp 32) rfl rfl (hs := rfl) (hx := rfl); (case hown => first | exact World.ownsRow_nil _ _ _ _ | exact hown5 | exact own_alloc hown5 | exact own_alloc (own_alloc hown5) | exact own_alloc (own_alloc (own_alloc hown5)) | exact own_later hown5 | exact own_alloc (own_later hown5) | exact own_alloc (own_later (own_later hown5))); (case hgv => first | exact .inl rfl | exact .inr ⟨rfl, rfl⟩); (case hu => exact new_cell (by simp)); (case hn => omega); (case hbase => (try simp); omega); intro g5 c5 w5 hown5 hb5 hl5 hs5 ho5 hlow5 hc5 hf5; (try simp at hs5); (try simp only [Nat.zero_add, List.nil_append, List.cons_append, Nat.reduceAdd] at hown5); (try simp at ho5); (try subst ho5); try (have hne5 : g5 ≠ g2 := by (rcases ho5 with h | h <;> omega)))
    | (refine wp_region_calm (by kernel_rfl) (by kernel_rfl) ?_; repeat (first | go_big_quiet_step (fail) | quiet_step (fail))
       refine wpQuiet_nil ?_; intro u; have hzu := u.below.size; try simp at hzu))
  rw [rounds_succ]
  go_wp2_with (first
    | (at_builtin; apply append_int w.heap.size (.tmp 30) (.tmp 32) rfl rfl (hs := rfl) (hx := rfl); (case hown => first | exact World.ownsRow_nil _ _ _ _ | exact hown5 | exact own_alloc hown5 | exact own_alloc (own_alloc hown5) | exact own_alloc (own_alloc (own_alloc hown5)) | exact own_later hown5 | exact own_alloc (own_later hown5) | exact own_alloc (own_later (own_later hown5))); (case hgv => first | exact .inl rfl | exact .inr ⟨rfl, rfl⟩); (case hu => exact new_cell (by simp)); (case hn => omega); (case hbase => (try simp); omega); intro g5 c5 w5 hown5 hb5 hl5 hs5 ho5 hlow5 hc5 hf5; (try simp at hs5); (try simp only [Nat.zero_add, List.nil_append, List.cons_append, Nat.reduceAdd] at hown5); (try simp at ho5); (try subst ho5); try (have hne5 : g5 ≠ g2 := by (rcases ho5 with h | h <;> omega)))
    | (refine wp_region_calm (by kernel_rfl) (by kernel_rfl) ?_; repeat (first | go_big_quiet_step (fail) | quiet_step (fail))
       refine wpQuiet_nil ?_; intro u; have hzu := u.below.size; try simp at hzu))
  refine wp_loop_rounds 2 ?_
  rw [rounds_succ]
  go_wp2_with (first
    | (at_builtin; apply append_int w.heap.size (.tmp 30) (.tmp 32) rfl rfl (hs := rfl) (hx := rfl); (case hown => first | exact World.ownsRow_nil _ _ _ _ | exact hown5 | exact own_alloc hown5 | exact own_alloc (own_alloc hown5) | exact own_alloc (own_alloc (own_alloc hown5)) | exact own_later hown5 | exact own_alloc (own_later hown5) | exact own_alloc (own_later (own_later hown5))); (case hgv => first | exact .inl rfl | exact .inr ⟨rfl, rfl⟩); (case hu => exact new_cell (by simp)); (case hn => omega); (case hbase => (try simp); omega); intro g5 c5 w5 hown5 hb5 hl5 hs5 ho5 hlow5 hc5 hf5; (try simp at hs5); (try simp only [Nat.zero_add, List.nil_append, List.cons_append, Nat.reduceAdd] at hown5); (try simp at ho5); (try subst ho5); try (have hne5 : g5 ≠ g2 := by (rcases ho5 with h | h <;> omega)))
    | (refine wp_region_calm (by kernel_rfl) (by kernel_rfl) ?_; repeat (first | go_big_quiet_step (fail) | quiet_step (fail))
       refine wpQuiet_nil ?_; intro u; have hzu := u.below.size; try simp at hzu))
  rw [rounds_succ]
  go_wp2_with (first
    | (at_builtin; apply append_int w.heap.size (.tmp 30) (.tmp 32) rfl rfl (hs := rfl) (hx := rfl); (case hown => first | exact World.ownsRow_nil _ _ _ _ | exact hown5 | exact own_alloc hown5 | exact own_alloc (own_alloc hown5) | exact own_alloc (own_alloc (own_alloc hown5)) | exact own_later hown5 | exact own_alloc (own_later hown5) | exact own_alloc (own_later (own_later hown5))); (case hgv => first | exact .inl rfl | exact .inr ⟨rfl, rfl⟩); (case hu => exact new_cell (by simp)); (case hn => omega); (case hbase => (try simp); omega); intro g5 c5 w5 hown5 hb5 hl5 hs5 ho5 hlow5 hc5 hf5; (try simp at hs5); (try simp only [Nat.zero_add, List.nil_append, List.cons_append, Nat.reduceAdd] at hown5); (try simp at ho5); (try subst ho5); try (have hne5 : g5 ≠ g2 := by (rcases ho5 with h | h <;> omega)))
    | (refine wp_region_calm (by kernel_rfl) (by kernel_rfl) ?_; repeat (first | go_big_quiet_step (fail) | quiet_step (fail))
       refine wpQuiet_nil ?_; intro u; have hzu := u.below.size; try simp at hzu))
  rw [rounds_succ]
  go_wp2_with (first
    | (at_builtin; apply append_int w.heap.size (.tmp 30) (.tmp 32) rfl rfl (hs := rfl) (hx := rfl); (case hown => first | exact World.ownsRow_nil _ _ _ _ | exact hown5 | exact own_alloc hown5 | exact own_alloc (own_alloc hown5) | exact own_alloc (own_alloc (own_alloc hown5)) | exact own_later hown5 | exact own_alloc (own_later hown5) | exact own_alloc (own_later (own_later hown5))); (case hgv => first | exact .inl rfl | exact .inr ⟨rfl, rfl⟩); (case hu => exact new_cell (by simp)); (case hn => omega); (case hbase => (try simp); omega); intro g5 c5 w5 hown5 hb5 hl5 hs5 ho5 hlow5 hc5 hf5; (try simp at hs5); (try simp only [Nat.zero_add, List.nil_append, List.cons_append, Nat.reduceAdd] at hown5); (try simp at ho5); (try subst ho5); try (have hne5 : g5 ≠ g2 := by (rcases ho5 with h | h <;> omega)))
    | (refine wp_region_calm (by kernel_rfl) (by kernel_rfl) ?_; repeat (first | go_big_quiet_step (fail) | quiet_step (fail))
       refine wpQuiet_nil ?_; intro u; have hzu := u.below.size; try simp at hzu))
  refine wp_loop_rounds 2 ?_
  rw [rounds_succ]
  go_wp2_with (first
    | (at_builtin; apply append_int w.heap.size (.tmp 30) (.tmp 32) rfl rfl (hs := rfl) (hx := rfl); (case hown => first | exact World.ownsRow_nil _ _ _ _ | exact hown5 | exact own_alloc hown5 | exact own_alloc (own_alloc hown5) | exact own_alloc (own_alloc (own_alloc hown5)) | exact own_later hown5 | exact own_alloc (own_later hown5) | exact own_alloc (own_later (own_later hown5))); (case hgv => first | exact .inl rfl | exact .inr ⟨rfl, rfl⟩); (case hu => exact new_cell (by simp)); (case hn => omega); (case hbase => (try simp); omega); intro g5 c5 w5 hown5 hb5 hl5 hs5 ho5 hlow5 hc5 hf5; (try simp at hs5); (try simp only [Nat.zero_add, List.nil_append, List.cons_append, Nat.reduceAdd] at hown5); (try simp at ho5); (try subst ho5); try (have hne5 : g5 ≠ g2 := by (rcases ho5 with h | h <;> omega)))
    | (refine wp_region_calm (by kernel_rfl) (by kernel_rfl) ?_; repeat (first | go_big_quiet_step (fail) | quiet_step (fail))
       refine wpQuiet_nil ?_; intro u; have hzu := u.below.size; try simp at hzu))
  rw [rounds_succ]
  go_wp2_with (first
    | (at_builtin; apply append_int w.heap.size (.tmp 30) (.tmp 32) rfl rfl (hs := rfl) (hx := rfl); (case hown => first | exact World.ownsRow_nil _ _ _ _ | exact hown5 | exact own_alloc hown5 | exact own_alloc (own_alloc hown5) | exact own_alloc (own_alloc (own_alloc hown5)) | exact own_later hown5 | exact own_alloc (own_later hown5) | exact own_alloc (own_later (own_later hown5))); (case hgv => first | exact .inl rfl | exact .inr ⟨rfl, rfl⟩); (case hu => exact new_cell (by simp)); (case hn => omega); (case hbase => (try simp); omega); intro g5 c5 w5 hown5 hb5 hl5 hs5 ho5 hlow5 hc5 hf5; (try simp at hs5); (try simp only [Nat.zero_add, List.nil_append, List.cons_append, Nat.reduceAdd] at hown5); (try simp at ho5); (try subst ho5); try (have hne5 : g5 ≠ g2 := by (rcases ho5 with h | h <;> omega)))
    | (refine wp_region_calm (by kernel_rfl) (by kernel_rfl) ?_; repeat (first | go_big_quiet_step (fail) | quiet_step (fail))
       refine wpQuiet_nil ?_; intro u; have hzu := u.below.size; try simp at hzu))
  rw [rounds_succ]
  go_wp2_with (first
    | (at_builtin; apply append_int w.heap.size (.tmp 30) (.tmp 32) rfl rfl (hs := rfl) (hx := rfl); (case hown => first | exact World.ownsRow_nil _ _ _ _ | exact hown5 | exact own_alloc hown5 | exact own_alloc (own_alloc hown5) | exact own_alloc (own_alloc (own_alloc hown5)) | exact own_later hown5 | exact own_alloc (own_later hown5) | exact own_alloc (own_later (own_later hown5))); (case hgv => first | exact .inl rfl | exact .inr ⟨rfl, rfl⟩); (case hu => exact new_cell (by simp)); (case hn => omega); (case hbase => (try simp); omega); intro g5 c5 w5 hown5 hb5 hl5 hs5 ho5 hlow5 hc5 hf5; (try simp at hs5); (try simp only [Nat.zero_add, List.nil_append, List.cons_append, Nat.reduceAdd] at hown5); (try simp at ho5); (try subst ho5); try (have hne5 : g5 ≠ g2 := by (rcases ho5 with h | h <;> omega)))
    | (refine wp_region_calm (by kernel_rfl) (by kernel_rfl) ?_; repeat (first | go_big_quiet_step (fail) | quiet_step (fail))
       refine wpQuiet_nil ?_; intro u; have hzu := u.below.size; try simp at hzu))
  go_ret
  refine ⟨_, rfl, ?_, by first | exact hown5 | exact own_later hown5⟩
  repeat (first | exact gr0 _ | refine gr6 (by assumption) (Nat.le_refl _) ?_ | exact gr0 _ | refine gr1 ?_ _ | refine gr2 ?_ (Later.below _) | refine gr2 ?_ (by assumption) | refine gr3 ?_ | refine gr4 ?_ (by first | (simp; done) | (simp; omega) | omega) _)

set_option maxRecDepth 100000 in
set_option maxHeartbeats 2000000 in
theorem rparts_3 (w : World) :
    Calls Try.prog 59 #[.int .i64 3] w fun e w' => ∃ v, e = .returned v ∧ Below w.heap.size w w' ∧ w'.ownsRow w.heap.size 3 1 v 4 [.int .i64 0, .int .i64 0, .int .i64 1, .int .i64 2] := by
  go_enter Try.func59, Try.ntmps59
  go_wp2_with (go_at_call 83; refine (rsides_3 _).mono ?_; rintro e W2 ⟨g2, rfl, hb2, hg2, hh2⟩; obtain ⟨hc2, hf2, hz2, hl2⟩ := ncell hb2 hg2 hh2; try simp at hz2; try simp at hg2)
  refine wp_loop_rounds 4 ?_
  rw [rounds_succ]
  go_wp2_with (first
    | (at_builtin; apply append_int w.heap.size (.tmp 30) (.tmp 32) rfl rfl (hs := rfl) (hx := rfl); (case hown => first | exact World.ownsRow_nil _ _ _ _ | exact hown5 | exact own_alloc hown5 | exact own_alloc (own_alloc hown5) | exact own_alloc (own_alloc (own_alloc hown5)) | exact own_later hown5 | exact own_alloc (own_later hown5) | exact own_alloc (own_later (own_later hown5))); (case hgv => first | exact .inl rfl | exact .inr ⟨rfl, rfl⟩); (case hu => exact new_cell (by simp)); (case hn => omega); (case hbase => (try simp); omega); intro g5 c5 w5 hown5 hb5 hl5 hs5 ho5 hlow5 hc5 hf5; (try simp at hs5); (try simp only [Nat.zero_add, List.nil_append, List.cons_append, Nat.reduceAdd] at hown5); (try simp at ho5); (try subst ho5); try (have hne5 : g5 ≠ g2 := by (rcases ho5 with h | h <;> omega)))
    | (refine wp_region_calm (by kernel_rfl) (by kernel_rfl) ?_; repeat (first | go_big_quiet_step (fail) | quiet_step (fail))
       refine wpQuiet_nil ?_; intro u; have hzu := u.below.size; try simp at hzu))
  refine wp_loop_rounds 3 ?_
  rw [rounds_succ]
  go_wp2_with (first
    | (at_builtin; apply append_int w.heap.size (.tmp 30) (.tmp 32) rfl rfl (hs := rfl) (hx := rfl); (case hown => first | exact World.ownsRow_nil _ _ _ _ | exact hown5 | exact own_alloc hown5 | exact own_alloc (own_alloc hown5) | exact own_alloc (own_alloc (own_alloc hown5)) | exact own_later hown5 | exact own_alloc (own_later hown5) | exact own_alloc (own_later (own_later hown5))); (case hgv => first | exact .inl rfl | exact .inr ⟨rfl, rfl⟩); (case hu => exact new_cell (by simp)); (case hn => omega); (case hbase => (try simp); omega); intro g5 c5 w5 hown5 hb5 hl5 hs5 ho5 hlow5 hc5 hf5; (try simp at hs5); (try simp only [Nat.zero_add, List.nil_append, List.cons_append, Nat.reduceAdd] at hown5); (try simp at ho5); (try subst ho5); try (have hne5 : g5 ≠ g2 := by (rcases ho5 with h | h <;> omega)))
    | (refine wp_region_calm (by kernel_rfl) (by kernel_rfl) ?_; repeat (first | go_big_quiet_step (fail) | quiet_step (fail))
       refine wpQuiet_nil ?_; intro u; have hzu := u.below.size; try simp at hzu))
  rw [rounds_succ]
  go_wp2_with (first
    | (at_builtin; apply append_int w.heap.size (.tmp 30) (.tmp 32) rfl rfl (hs := rfl) (hx := rfl); (case hown => first | exact World.ownsRow_nil _ _ _ _ | exact hown5 | exact own_alloc hown5 | exact own_alloc (own_alloc hown5) | exact own_alloc (own_alloc (own_alloc hown5)) | exact own_later hown5 | exact own_alloc (own_later hown5) | exact own_alloc (own_later (own_later hown5))); (case hgv => first | exact .inl rfl | exact .inr ⟨rfl, rfl⟩); (case hu => exact new_cell (by simp)); (case hn => omega); (case hbase => (try simp); omega); intro g5 c5 w5 hown5 hb5 hl5 hs5 ho5 hlow5 hc5 hf5; (try simp at hs5); (try simp only [Nat.zero_add, List.nil_append, List.cons_append, Nat.reduceAdd] at hown5); (try simp at ho5); (try subst ho5); try (have hne5 : g5 ≠ g2 := by (rcases ho5 with h | h <;> omega)))
    | (refine wp_region_calm (by kernel_rfl) (by kernel_rfl) ?_; repeat (first | go_big_quiet_step (fail) | quiet_step (fail))
       refine wpQuiet_nil ?_; intro u; have hzu := u.below.size; try simp at hzu))
  rw [rounds_succ]
  go_wp2_with (first
    | (at_builtin; apply append_int w.heap.size (.tmp 30) (.tmp 32) rfl rfl (hs := rfl) (hx := rfl); (case hown => first | exact World.ownsRow_nil _ _ _ _ | exact hown5 | exact own_alloc hown5 | exact own_alloc (own_alloc hown5) | exact own_alloc (own_alloc (own_alloc hown5)) | exact own_later hown5 | exact own_alloc (own_later hown5) | exact own_alloc (own_later (own_later hown5))); (case hgv => first | exact .inl rfl | exact .inr ⟨rfl, rfl⟩); (case hu => exact new_cell (by simp)); (case hn => omega); (case hbase => (try simp); omega); intro g5 c5 w5 hown5 hb5 hl5 hs5 ho5 hlow5 hc5 hf5; (try simp at hs5); (try simp only [Nat.zero_add, List.nil_append, List.cons_append, Nat.reduceAdd] at hown5); (try simp at ho5); (try subst ho5); try (have hne5 : g5 ≠ g2 := by (rcases ho5 with h | h <;> omega)))
    | (refine wp_region_calm (by kernel_rfl) (by kernel_rfl) ?_; repeat (first | go_big_quiet_step (fail) | quiet_step (fail))
       refine wpQuiet_nil ?_; intro u; have hzu := u.below.size; try simp at hzu))
  rw [rounds_succ]
  go_wp2_with (first
    | (at_builtin; apply append_int w.heap.size (.tmp 30) (.tmp 32) rfl rfl (hs := rfl) (hx := rfl); (case hown => first | exact World.ownsRow_nil _ _ _ _ | exact hown5 | exact own_alloc hown5 | exact own_alloc (own_alloc hown5) | exact own_alloc (own_alloc (own_alloc hown5)) | exact own_later hown5 | exact own_alloc (own_later hown5) | exact own_alloc (own_later (own_later hown5))); (case hgv => first | exact .inl rfl | exact .inr ⟨rfl, rfl⟩); (case hu => exact new_cell (by simp)); (case hn => omega); (case hbase => (try simp); omega); intro g5 c5 w5 hown5 hb5 hl5 hs5 ho5 hlow5 hc5 hf5; (try simp at hs5); (try simp only [Nat.zero_add, List.nil_append, List.cons_append, Nat.reduceAdd] at hown5); (try simp at ho5); (try subst ho5); try (have hne5 : g5 ≠ g2 := by (rcases ho5 with h | h <;> omega)))
    | (refine wp_region_calm (by kernel_rfl) (by kernel_rfl) ?_; repeat (first | go_big_quiet_step (fail) | quiet_step (fail))
       refine wpQuiet_nil ?_; intro u; have hzu := u.below.size; try simp at hzu))
  refine wp_loop_rounds 2 ?_
  rw [rounds_succ]
  go_wp2_with (first
    | (at_builtin; apply append_int w.heap.size (.tmp 30) (.tmp 32) rfl rfl (hs := rfl) (hx := rfl); (case hown => first | exact World.ownsRow_nil _ _ _ _ | exact hown5 | exact own_alloc hown5 | exact own_alloc (own_alloc hown5) | exact own_alloc (own_alloc (own_alloc hown5)) | exact own_later hown5 | exact own_alloc (own_later hown5) | exact own_alloc (own_later (own_later hown5))); (case hgv => first | exact .inl rfl | exact .inr ⟨rfl, rfl⟩); (case hu => exact new_cell (by simp)); (case hn => omega); (case hbase => (try simp); omega); intro g5 c5 w5 hown5 hb5 hl5 hs5 ho5 hlow5 hc5 hf5; (try simp at hs5); (try simp only [Nat.zero_add, List.nil_append, List.cons_append, Nat.reduceAdd] at hown5); (try simp at ho5); (try subst ho5); try (have hne5 : g5 ≠ g2 := by (rcases ho5 with h | h <;> omega)))
    | (refine wp_region_calm (by kernel_rfl) (by kernel_rfl) ?_; repeat (first | go_big_quiet_step (fail) | quiet_step (fail))
       refine wpQuiet_nil ?_; intro u; have hzu := u.below.size; try simp at hzu))
  rw [rounds_succ]
  go_wp2_with (first
    | (at_builtin; apply append_int w.heap.size (.tmp 30) (.tmp 32) rfl rfl (hs := rfl) (hx := rfl); (case hown => first | exact World.ownsRow_nil _ _ _ _ | exact hown5 | exact own_alloc hown5 | exact own_alloc (own_alloc hown5) | exact own_alloc (own_alloc (own_alloc hown5)) | exact own_later hown5 | exact own_alloc (own_later hown5) | exact own_alloc (own_later (own_later hown5))); (case hgv => first | exact .inl rfl | exact .inr ⟨rfl, rfl⟩); (case hu => exact new_cell (by simp)); (case hn => omega); (case hbase => (try simp); omega); intro g5 c5 w5 hown5 hb5 hl5 hs5 ho5 hlow5 hc5 hf5; (try simp at hs5); (try simp only [Nat.zero_add, List.nil_append, List.cons_append, Nat.reduceAdd] at hown5); (try simp at ho5); (try subst ho5); try (have hne5 : g5 ≠ g2 := by (rcases ho5 with h | h <;> omega)))
    | (refine wp_region_calm (by kernel_rfl) (by kernel_rfl) ?_; repeat (first | go_big_quiet_step (fail) | quiet_step (fail))
       refine wpQuiet_nil ?_; intro u; have hzu := u.below.size; try simp at hzu))
  rw [rounds_succ]
  go_wp2_with (first
    | (at_builtin; apply append_int w.heap.size (.tmp 30) (.tmp 32) rfl rfl (hs := rfl) (hx := rfl); (case hown => first | exact World.ownsRow_nil _ _ _ _ | exact hown5 | exact own_alloc hown5 | exact own_alloc (own_alloc hown5) | exact own_alloc (own_alloc (own_alloc hown5)) | exact own_later hown5 | exact own_alloc (own_later hown5) | exact own_alloc (own_later (own_later hown5))); (case hgv => first | exact .inl rfl | exact .inr ⟨rfl, rfl⟩); (case hu => exact new_cell (by simp)); (case hn => omega); (case hbase => (try simp); omega); intro g5 c5 w5 hown5 hb5 hl5 hs5 ho5 hlow5 hc5 hf5; (try simp at hs5); (try simp only [Nat.zero_add, List.nil_append, List.cons_append, Nat.reduceAdd] at hown5); (try simp at ho5); (try subst ho5); try (have hne5 : g5 ≠ g2 := by (rcases ho5 with h | h <;> omega)))
    | (refine wp_region_calm (by kernel_rfl) (by kernel_rfl) ?_; repeat (first | go_big_quiet_step (fail) | quiet_step (fail))
       refine wpQuiet_nil ?_; intro u; have hzu := u.below.size; try simp at hzu))
  refine wp_loop_rounds 2 ?_
  rw [rounds_succ]
  go_wp2_with (first
    | (at_builtin; apply append_int w.heap.size (.tmp 30) (.tmp 32) rfl rfl (hs := rfl) (hx := rfl); (case hown => first | exact World.ownsRow_nil _ _ _ _ | exact hown5 | exact own_alloc hown5 | exact own_alloc (own_alloc hown5) | exact own_alloc (own_alloc (own_alloc hown5)) | exact own_later hown5 | exact own_alloc (own_later hown5) | exact own_alloc (own_later (own_later hown5))); (case hgv => first | exact .inl rfl | exact .inr ⟨rfl, rfl⟩); (case hu => exact new_cell (by simp)); (case hn => omega); (case hbase => (try simp); omega); intro g5 c5 w5 hown5 hb5 hl5 hs5 ho5 hlow5 hc5 hf5; (try simp at hs5); (try simp only [Nat.zero_add, List.nil_append, List.cons_append, Nat.reduceAdd] at hown5); (try simp at ho5); (try subst ho5); try (have hne5 : g5 ≠ g2 := by (rcases ho5 with h | h <;> omega)))
    | (refine wp_region_calm (by kernel_rfl) (by kernel_rfl) ?_; repeat (first | go_big_quiet_step (fail) | quiet_step (fail))
       refine wpQuiet_nil ?_; intro u; have hzu := u.below.size; try simp at hzu))
  rw [rounds_succ]
  go_wp2_with (first
    | (at_builtin; apply append_int w.heap.size (.tmp 30) (.tmp 32) rfl rfl (hs := rfl) (hx := rfl); (case hown => first | exact World.ownsRow_nil _ _ _ _ | exact hown5 | exact own_alloc hown5 | exact own_alloc (own_alloc hown5) | exact own_alloc (own_alloc (own_alloc hown5)) | exact own_later hown5 | exact own_alloc (own_later hown5) | exact own_alloc (own_later (own_later hown5))); (case hgv => first | exact .inl rfl | exact .inr ⟨rfl, rfl⟩); (case hu => exact new_cell (by simp)); (case hn => omega); (case hbase => (try simp); omega); intro g5 c5 w5 hown5 hb5 hl5 hs5 ho5 hlow5 hc5 hf5; (try simp at hs5); (try simp only [Nat.zero_add, List.nil_append, List.cons_append, Nat.reduceAdd] at hown5); (try simp at ho5); (try subst ho5); try (have hne5 : g5 ≠ g2 := by (rcases ho5 with h | h <;> omega)))
    | (refine wp_region_calm (by kernel_rfl) (by kernel_rfl) ?_; repeat (first | go_big_quiet_step (fail) | quiet_step (fail))
       refine wpQuiet_nil ?_; intro u; have hzu := u.below.size; try simp at hzu))
  rw [rounds_succ]
  go_wp2_with (first
    | (at_builtin; apply append_int w.heap.size (.tmp 30) (.tmp 32) rfl rfl (hs := rfl) (hx := rfl); (case hown => first | exact World.ownsRow_nil _ _ _ _ | exact hown5 | exact own_alloc hown5 | exact own_alloc (own_alloc hown5) | exact own_alloc (own_alloc (own_alloc hown5)) | exact own_later hown5 | exact own_alloc (own_later hown5) | exact own_alloc (own_later (own_later hown5))); (case hgv => first | exact .inl rfl | exact .inr ⟨rfl, rfl⟩); (case hu => exact new_cell (by simp)); (case hn => omega); (case hbase => (try simp); omega); intro g5 c5 w5 hown5 hb5 hl5 hs5 ho5 hlow5 hc5 hf5; (try simp at hs5); (try simp only [Nat.zero_add, List.nil_append, List.cons_append, Nat.reduceAdd] at hown5); (try simp at ho5); (try subst ho5); try (have hne5 : g5 ≠ g2 := by (rcases ho5 with h | h <;> omega)))
    | (refine wp_region_calm (by kernel_rfl) (by kernel_rfl) ?_; repeat (first | go_big_quiet_step (fail) | quiet_step (fail))
       refine wpQuiet_nil ?_; intro u; have hzu := u.below.size; try simp at hzu))
  go_ret
  refine ⟨_, rfl, ?_, by first | exact hown5 | exact own_later hown5⟩
  repeat (first | exact gr0 _ | refine gr6 (by assumption) (Nat.le_refl _) ?_ | exact gr0 _ | refine gr1 ?_ _ | refine gr2 ?_ (Later.below _) | refine gr2 ?_ (by assumption) | refine gr3 ?_ | refine gr4 ?_ (by first | (simp; done) | (simp; omega) | omega) _)

set_option maxRecDepth 100000 in
set_option maxHeartbeats 2000000 in
theorem rparts_4 (w : World) :
    Calls Try.prog 59 #[.int .i64 4] w fun e w' => ∃ v, e = .returned v ∧ Below w.heap.size w w' ∧ w'.ownsRow w.heap.size 3 1 v 6 [.int .i64 0, .int .i64 0, .int .i64 0, .int .i64 0, .int .i64 1, .int .i64 2] := by
  go_enter Try.func59, Try.ntmps59
  go_wp2_with (go_at_call 83; refine (rsides_4 _).mono ?_; rintro e W2 ⟨g2, rfl, hb2, hg2, hh2⟩; obtain ⟨hc2, hf2, hz2, hl2⟩ := ncell hb2 hg2 hh2; try simp at hz2; try simp at hg2)
  refine wp_loop_rounds 4 ?_
  rw [rounds_succ]
  go_wp2_with (first
    | (at_builtin; apply append_int w.heap.size (.tmp 30) (.tmp 32) rfl rfl (hs := rfl) (hx := rfl); (case hown => first | exact World.ownsRow_nil _ _ _ _ | exact hown5 | exact own_alloc hown5 | exact own_alloc (own_alloc hown5) | exact own_alloc (own_alloc (own_alloc hown5)) | exact own_later hown5 | exact own_alloc (own_later hown5) | exact own_alloc (own_later (own_later hown5))); (case hgv => first | exact .inl rfl | exact .inr ⟨rfl, rfl⟩); (case hu => exact new_cell (by simp)); (case hn => omega); (case hbase => (try simp); omega); intro g5 c5 w5 hown5 hb5 hl5 hs5 ho5 hlow5 hc5 hf5; (try simp at hs5); (try simp only [Nat.zero_add, List.nil_append, List.cons_append, Nat.reduceAdd] at hown5); (try simp at ho5); (try subst ho5); try (have hne5 : g5 ≠ g2 := by (rcases ho5 with h | h <;> omega)))
    | (refine wp_region_calm (by kernel_rfl) (by kernel_rfl) ?_; repeat (first | go_big_quiet_step (fail) | quiet_step (fail))
       refine wpQuiet_nil ?_; intro u; have hzu := u.below.size; try simp at hzu))
  refine wp_loop_rounds 5 ?_
  rw [rounds_succ]
  go_wp2_with (first
    | (at_builtin; apply append_int w.heap.size (.tmp 30) (.tmp 32) rfl rfl (hs := rfl) (hx := rfl); (case hown => first | exact World.ownsRow_nil _ _ _ _ | exact hown5 | exact own_alloc hown5 | exact own_alloc (own_alloc hown5) | exact own_alloc (own_alloc (own_alloc hown5)) | exact own_later hown5 | exact own_alloc (own_later hown5) | exact own_alloc (own_later (own_later hown5))); (case hgv => first | exact .inl rfl | exact .inr ⟨rfl, rfl⟩); (case hu => exact new_cell (by simp)); (case hn => omega); (case hbase => (try simp); omega); intro g5 c5 w5 hown5 hb5 hl5 hs5 ho5 hlow5 hc5 hf5; (try simp at hs5); (try simp only [Nat.zero_add, List.nil_append, List.cons_append, Nat.reduceAdd] at hown5); (try simp at ho5); (try subst ho5); try (have hne5 : g5 ≠ g2 := by (rcases ho5 with h | h <;> omega)))
    | (refine wp_region_calm (by kernel_rfl) (by kernel_rfl) ?_; repeat (first | go_big_quiet_step (fail) | quiet_step (fail))
       refine wpQuiet_nil ?_; intro u; have hzu := u.below.size; try simp at hzu))
  rw [rounds_succ]
  go_wp2_with (first
    | (at_builtin; apply append_int w.heap.size (.tmp 30) (.tmp 32) rfl rfl (hs := rfl) (hx := rfl); (case hown => first | exact World.ownsRow_nil _ _ _ _ | exact hown5 | exact own_alloc hown5 | exact own_alloc (own_alloc hown5) | exact own_alloc (own_alloc (own_alloc hown5)) | exact own_later hown5 | exact own_alloc (own_later hown5) | exact own_alloc (own_later (own_later hown5))); (case hgv => first | exact .inl rfl | exact .inr ⟨rfl, rfl⟩); (case hu => exact new_cell (by simp)); (case hn => omega); (case hbase => (try simp); omega); intro g5 c5 w5 hown5 hb5 hl5 hs5 ho5 hlow5 hc5 hf5; (try simp at hs5); (try simp only [Nat.zero_add, List.nil_append, List.cons_append, Nat.reduceAdd] at hown5); (try simp at ho5); (try subst ho5); try (have hne5 : g5 ≠ g2 := by (rcases ho5 with h | h <;> omega)))
    | (refine wp_region_calm (by kernel_rfl) (by kernel_rfl) ?_; repeat (first | go_big_quiet_step (fail) | quiet_step (fail))
       refine wpQuiet_nil ?_; intro u; have hzu := u.below.size; try simp at hzu))
  rw [rounds_succ]
  go_wp2_with (first
    | (at_builtin; apply append_int w.heap.size (.tmp 30) (.tmp 32) rfl rfl (hs := rfl) (hx := rfl); (case hown => first | exact World.ownsRow_nil _ _ _ _ | exact hown5 | exact own_alloc hown5 | exact own_alloc (own_alloc hown5) | exact own_alloc (own_alloc (own_alloc hown5)) | exact own_later hown5 | exact own_alloc (own_later hown5) | exact own_alloc (own_later (own_later hown5))); (case hgv => first | exact .inl rfl | exact .inr ⟨rfl, rfl⟩); (case hu => exact new_cell (by simp)); (case hn => omega); (case hbase => (try simp); omega); intro g5 c5 w5 hown5 hb5 hl5 hs5 ho5 hlow5 hc5 hf5; (try simp at hs5); (try simp only [Nat.zero_add, List.nil_append, List.cons_append, Nat.reduceAdd] at hown5); (try simp at ho5); (try subst ho5); try (have hne5 : g5 ≠ g2 := by (rcases ho5 with h | h <;> omega)))
    | (refine wp_region_calm (by kernel_rfl) (by kernel_rfl) ?_; repeat (first | go_big_quiet_step (fail) | quiet_step (fail))
       refine wpQuiet_nil ?_; intro u; have hzu := u.below.size; try simp at hzu))
  rw [rounds_succ]
  go_wp2_with (first
    | (at_builtin; apply append_int w.heap.size (.tmp 30) (.tmp 32) rfl rfl (hs := rfl) (hx := rfl); (case hown => first | exact World.ownsRow_nil _ _ _ _ | exact hown5 | exact own_alloc hown5 | exact own_alloc (own_alloc hown5) | exact own_alloc (own_alloc (own_alloc hown5)) | exact own_later hown5 | exact own_alloc (own_later hown5) | exact own_alloc (own_later (own_later hown5))); (case hgv => first | exact .inl rfl | exact .inr ⟨rfl, rfl⟩); (case hu => exact new_cell (by simp)); (case hn => omega); (case hbase => (try simp); omega); intro g5 c5 w5 hown5 hb5 hl5 hs5 ho5 hlow5 hc5 hf5; (try simp at hs5); (try simp only [Nat.zero_add, List.nil_append, List.cons_append, Nat.reduceAdd] at hown5); (try simp at ho5); (try subst ho5); try (have hne5 : g5 ≠ g2 := by (rcases ho5 with h | h <;> omega)))
    | (refine wp_region_calm (by kernel_rfl) (by kernel_rfl) ?_; repeat (first | go_big_quiet_step (fail) | quiet_step (fail))
       refine wpQuiet_nil ?_; intro u; have hzu := u.below.size; try simp at hzu))
  rw [rounds_succ]
  go_wp2_with (first
    | (at_builtin; apply append_int w.heap.size (.tmp 30) (.tmp 32) rfl rfl (hs := rfl) (hx := rfl); (case hown => first | exact World.ownsRow_nil _ _ _ _ | exact hown5 | exact own_alloc hown5 | exact own_alloc (own_alloc hown5) | exact own_alloc (own_alloc (own_alloc hown5)) | exact own_later hown5 | exact own_alloc (own_later hown5) | exact own_alloc (own_later (own_later hown5))); (case hgv => first | exact .inl rfl | exact .inr ⟨rfl, rfl⟩); (case hu => exact new_cell (by simp)); (case hn => omega); (case hbase => (try simp); omega); intro g5 c5 w5 hown5 hb5 hl5 hs5 ho5 hlow5 hc5 hf5; (try simp at hs5); (try simp only [Nat.zero_add, List.nil_append, List.cons_append, Nat.reduceAdd] at hown5); (try simp at ho5); (try subst ho5); try (have hne5 : g5 ≠ g2 := by (rcases ho5 with h | h <;> omega)))
    | (refine wp_region_calm (by kernel_rfl) (by kernel_rfl) ?_; repeat (first | go_big_quiet_step (fail) | quiet_step (fail))
       refine wpQuiet_nil ?_; intro u; have hzu := u.below.size; try simp at hzu))
  rw [rounds_succ]
  go_wp2_with (first
    | (at_builtin; apply append_int w.heap.size (.tmp 30) (.tmp 32) rfl rfl (hs := rfl) (hx := rfl); (case hown => first | exact World.ownsRow_nil _ _ _ _ | exact hown5 | exact own_alloc hown5 | exact own_alloc (own_alloc hown5) | exact own_alloc (own_alloc (own_alloc hown5)) | exact own_later hown5 | exact own_alloc (own_later hown5) | exact own_alloc (own_later (own_later hown5))); (case hgv => first | exact .inl rfl | exact .inr ⟨rfl, rfl⟩); (case hu => exact new_cell (by simp)); (case hn => omega); (case hbase => (try simp); omega); intro g5 c5 w5 hown5 hb5 hl5 hs5 ho5 hlow5 hc5 hf5; (try simp at hs5); (try simp only [Nat.zero_add, List.nil_append, List.cons_append, Nat.reduceAdd] at hown5); (try simp at ho5); (try subst ho5); try (have hne5 : g5 ≠ g2 := by (rcases ho5 with h | h <;> omega)))
    | (refine wp_region_calm (by kernel_rfl) (by kernel_rfl) ?_; repeat (first | go_big_quiet_step (fail) | quiet_step (fail))
       refine wpQuiet_nil ?_; intro u; have hzu := u.below.size; try simp at hzu))
  refine wp_loop_rounds 2 ?_
  rw [rounds_succ]
  go_wp2_with (first
    | (at_builtin; apply append_int w.heap.size (.tmp 30) (.tmp 32) rfl rfl (hs := rfl) (hx := rfl); (case hown => first | exact World.ownsRow_nil _ _ _ _ | exact hown5 | exact own_alloc hown5 | exact own_alloc (own_alloc hown5) | exact own_alloc (own_alloc (own_alloc hown5)) | exact own_later hown5 | exact own_alloc (own_later hown5) | exact own_alloc (own_later (own_later hown5))); (case hgv => first | exact .inl rfl | exact .inr ⟨rfl, rfl⟩); (case hu => exact new_cell (by simp)); (case hn => omega); (case hbase => (try simp); omega); intro g5 c5 w5 hown5 hb5 hl5 hs5 ho5 hlow5 hc5 hf5; (try simp at hs5); (try simp only [Nat.zero_add, List.nil_append, List.cons_append, Nat.reduceAdd] at hown5); (try simp at ho5); (try subst ho5); try (have hne5 : g5 ≠ g2 := by (rcases ho5 with h | h <;> omega)))
    | (refine wp_region_calm (by kernel_rfl) (by kernel_rfl) ?_; repeat (first | go_big_quiet_step (fail) | quiet_step (fail))
       refine wpQuiet_nil ?_; intro u; have hzu := u.below.size; try simp at hzu))
  rw [rounds_succ]
  go_wp2_with (first
    | (at_builtin; apply append_int w.heap.size (.tmp 30) (.tmp 32) rfl rfl (hs := rfl) (hx := rfl); (case hown => first | exact World.ownsRow_nil _ _ _ _ | exact hown5 | exact own_alloc hown5 | exact own_alloc (own_alloc hown5) | exact own_alloc (own_alloc (own_alloc hown5)) | exact own_later hown5 | exact own_alloc (own_later hown5) | exact own_alloc (own_later (own_later hown5))); (case hgv => first | exact .inl rfl | exact .inr ⟨rfl, rfl⟩); (case hu => exact new_cell (by simp)); (case hn => omega); (case hbase => (try simp); omega); intro g5 c5 w5 hown5 hb5 hl5 hs5 ho5 hlow5 hc5 hf5; (try simp at hs5); (try simp only [Nat.zero_add, List.nil_append, List.cons_append, Nat.reduceAdd] at hown5); (try simp at ho5); (try subst ho5); try (have hne5 : g5 ≠ g2 := by (rcases ho5 with h | h <;> omega)))
    | (refine wp_region_calm (by kernel_rfl) (by kernel_rfl) ?_; repeat (first | go_big_quiet_step (fail) | quiet_step (fail))
       refine wpQuiet_nil ?_; intro u; have hzu := u.below.size; try simp at hzu))
  rw [rounds_succ]
  go_wp2_with (first
    | (at_builtin; apply append_int w.heap.size (.tmp 30) (.tmp 32) rfl rfl (hs := rfl) (hx := rfl); (case hown => first | exact World.ownsRow_nil _ _ _ _ | exact hown5 | exact own_alloc hown5 | exact own_alloc (own_alloc hown5) | exact own_alloc (own_alloc (own_alloc hown5)) | exact own_later hown5 | exact own_alloc (own_later hown5) | exact own_alloc (own_later (own_later hown5))); (case hgv => first | exact .inl rfl | exact .inr ⟨rfl, rfl⟩); (case hu => exact new_cell (by simp)); (case hn => omega); (case hbase => (try simp); omega); intro g5 c5 w5 hown5 hb5 hl5 hs5 ho5 hlow5 hc5 hf5; (try simp at hs5); (try simp only [Nat.zero_add, List.nil_append, List.cons_append, Nat.reduceAdd] at hown5); (try simp at ho5); (try subst ho5); try (have hne5 : g5 ≠ g2 := by (rcases ho5 with h | h <;> omega)))
    | (refine wp_region_calm (by kernel_rfl) (by kernel_rfl) ?_; repeat (first | go_big_quiet_step (fail) | quiet_step (fail))
       refine wpQuiet_nil ?_; intro u; have hzu := u.below.size; try simp at hzu))
  refine wp_loop_rounds 2 ?_
  rw [rounds_succ]
  go_wp2_with (first
    | (at_builtin; apply append_int w.heap.size (.tmp 30) (.tmp 32) rfl rfl (hs := rfl) (hx := rfl); (case hown => first | exact World.ownsRow_nil _ _ _ _ | exact hown5 | exact own_alloc hown5 | exact own_alloc (own_alloc hown5) | exact own_alloc (own_alloc (own_alloc hown5)) | exact own_later hown5 | exact own_alloc (own_later hown5) | exact own_alloc (own_later (own_later hown5))); (case hgv => first | exact .inl rfl | exact .inr ⟨rfl, rfl⟩); (case hu => exact new_cell (by simp)); (case hn => omega); (case hbase => (try simp); omega); intro g5 c5 w5 hown5 hb5 hl5 hs5 ho5 hlow5 hc5 hf5; (try simp at hs5); (try simp only [Nat.zero_add, List.nil_append, List.cons_append, Nat.reduceAdd] at hown5); (try simp at ho5); (try subst ho5); try (have hne5 : g5 ≠ g2 := by (rcases ho5 with h | h <;> omega)))
    | (refine wp_region_calm (by kernel_rfl) (by kernel_rfl) ?_; repeat (first | go_big_quiet_step (fail) | quiet_step (fail))
       refine wpQuiet_nil ?_; intro u; have hzu := u.below.size; try simp at hzu))
  rw [rounds_succ]
  go_wp2_with (first
    | (at_builtin; apply append_int w.heap.size (.tmp 30) (.tmp 32) rfl rfl (hs := rfl) (hx := rfl); (case hown => first | exact World.ownsRow_nil _ _ _ _ | exact hown5 | exact own_alloc hown5 | exact own_alloc (own_alloc hown5) | exact own_alloc (own_alloc (own_alloc hown5)) | exact own_later hown5 | exact own_alloc (own_later hown5) | exact own_alloc (own_later (own_later hown5))); (case hgv => first | exact .inl rfl | exact .inr ⟨rfl, rfl⟩); (case hu => exact new_cell (by simp)); (case hn => omega); (case hbase => (try simp); omega); intro g5 c5 w5 hown5 hb5 hl5 hs5 ho5 hlow5 hc5 hf5; (try simp at hs5); (try simp only [Nat.zero_add, List.nil_append, List.cons_append, Nat.reduceAdd] at hown5); (try simp at ho5); (try subst ho5); try (have hne5 : g5 ≠ g2 := by (rcases ho5 with h | h <;> omega)))
    | (refine wp_region_calm (by kernel_rfl) (by kernel_rfl) ?_; repeat (first | go_big_quiet_step (fail) | quiet_step (fail))
       refine wpQuiet_nil ?_; intro u; have hzu := u.below.size; try simp at hzu))
  rw [rounds_succ]
  go_wp2_with (first
    | (at_builtin; apply append_int w.heap.size (.tmp 30) (.tmp 32) rfl rfl (hs := rfl) (hx := rfl); (case hown => first | exact World.ownsRow_nil _ _ _ _ | exact hown5 | exact own_alloc hown5 | exact own_alloc (own_alloc hown5) | exact own_alloc (own_alloc (own_alloc hown5)) | exact own_later hown5 | exact own_alloc (own_later hown5) | exact own_alloc (own_later (own_later hown5))); (case hgv => first | exact .inl rfl | exact .inr ⟨rfl, rfl⟩); (case hu => exact new_cell (by simp)); (case hn => omega); (case hbase => (try simp); omega); intro g5 c5 w5 hown5 hb5 hl5 hs5 ho5 hlow5 hc5 hf5; (try simp at hs5); (try simp only [Nat.zero_add, List.nil_append, List.cons_append, Nat.reduceAdd] at hown5); (try simp at ho5); (try subst ho5); try (have hne5 : g5 ≠ g2 := by (rcases ho5 with h | h <;> omega)))
    | (refine wp_region_calm (by kernel_rfl) (by kernel_rfl) ?_; repeat (first | go_big_quiet_step (fail) | quiet_step (fail))
       refine wpQuiet_nil ?_; intro u; have hzu := u.below.size; try simp at hzu))
  go_ret
  refine ⟨_, rfl, ?_, by first | exact hown5 | exact own_later hown5⟩
  repeat (first | exact gr0 _ | refine gr6 (by assumption) (Nat.le_refl _) ?_ | exact gr0 _ | refine gr1 ?_ _ | refine gr2 ?_ (Later.below _) | refine gr2 ?_ (by assumption) | refine gr3 ?_ | refine gr4 ?_ (by first | (simp; done) | (simp; omega) | omega) _)

theorem rparts_0 (m : Int) (w : World) (h1 : m ≠ 1) (h2 : m ≠ 2) (h3 : m ≠ 3) (h4 : m ≠ 4) :
    Calls Try.prog 59 #[.int .i64 m] w fun e w' => e = .returned (.slice none 0 0) ∧ Below w.heap.size w w' := by
  go_enter Try.func59, Try.ntmps59
  go_wp2_with (first
    | (go_at_call 83; refine (rsides_0 _ _ ‹_› ‹_› ‹_› ‹_›).mono ?_; rintro e W1 ⟨rfl, hb1⟩; obtain ⟨hc1, hf1, hz1⟩ := bcell hb1; try simp at hz1)
    | (refine wp_region_calm (by kernel_rfl) (by kernel_rfl) ?_; repeat (first | go_big_quiet_step ((first | (go_at_call 83; exact calm_call (rsides_0 _ _ ‹_› ‹_› ‹_› ‹_›)))) | quiet_step ((first | (go_at_call 83; exact calm_call (rsides_0 _ _ ‹_› ‹_› ‹_› ‹_›)))))
       refine wpQuiet_nil ?_; intro u; have hzu := u.below.size; try simp at hzu))
  refine wp_loop_rounds 2 ?_
  rw [rounds_succ]
  go_wp2
  go_ret
  refine ⟨rfl, ?_⟩
  repeat (first | exact gr0 _ | refine gr1 ?_ _ | refine gr2 ?_ (Later.below _) | refine gr2 ?_ (by assumption) | refine gr3 ?_ | refine gr4 ?_ (by first | (simp; done) | (simp; omega) | omega) _)

end Go.Proofs.Ytdpiikpodcanjaa
