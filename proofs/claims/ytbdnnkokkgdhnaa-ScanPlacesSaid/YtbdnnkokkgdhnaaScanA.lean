/- Is a place a secret one? A number in bounds; a window of a buffer. -/
import Derived.Test.YtbdnnkokkgdhnaaWin
namespace Go.Proofs.Ytbdnnkokkgdhnaa
open Go.RowKit

theorem sis_ (a i : Int) (w : World) :
    Calls Try.prog 56 #[.agg #[.int .i64 a], .int .i64 i] w fun e w' => e = .returned (.agg #[.int .i64 (secEqual a i)]) ∧ Below w.heap.size w w' := by
  go_enter Try.func56, Try.ntmps56
  go_wp2_with fail
  refine wp_region_calm_tail 4 (by kernel_rfl) (by kernel_rfl) ?_
  simp only [List.take_succ_cons, List.take_zero, List.drop_succ_cons, List.drop_zero]
  (repeat (first | go_big_quiet_step ((first | (go_at_call 19; exact calm_call (sec_of _ _)) | (go_at_call 78; exact calm_call (sec_equal _ _ _)))) | quiet_step ((first | (go_at_call 19; exact calm_call (sec_of _ _)) | (go_at_call 78; exact calm_call (sec_equal _ _ _))))))
  refine wpQuiet_nil ?_
  intro u
  have hzu := u.below.size
  try simp at hzu
  go_wp2
  exact bodyPost_ret (by simp [results, Try.results56, go_sem] <;> rfl) rfl ⟨rfl, gr4 (gr2 (gr1 (gr1 (gr0 _) _) _) u.below) (by simp) _⟩
def clipN (N : Nat) (f : Int) : Nat := if f < 0 then 0 else if (N : Int) < f then N else f.toNat
theorem clipN_le (N : Nat) (f : Int) : clipN N f ≤ N := by unfold clipN; split; omega; split <;> omega
theorem nclip_ (f : Int) (N : Nat) (w : World) :
    Calls Try.prog 71 #[.int .i64 f, .int .i64 0, .int .i64 N] w fun e w' => e = .returned (.int .i64 (clipN N f)) ∧ Below w.heap.size w w' := by
  unfold clipN
  by_cases h0 : f < 0
  · have t0 : decide (f < 0) = true := by simp; omega
    rw [if_pos h0]
    go_enter Try.func71, Try.ntmps71
    go_wp2
    go_ret
    exact ⟨rfl, gr0 _⟩
  · have t0 : decide (f < 0) = false := by simp; omega
    rw [if_neg h0]
    by_cases h1 : (N : Int) < f
    · have t1 : decide ((N : Int) < f) = true := by simp; omega
      rw [if_pos h1]
      go_enter Try.func71, Try.ntmps71
      go_wp2
      go_ret
      exact ⟨rfl, gr0 _⟩
    · have t1 : decide ((N : Int) < f) = false := by simp; omega
      rw [if_neg h1]
      have hf : ((f.toNat : Nat) : Int) = f := by omega
      rw [hf]
      go_enter Try.func71, Try.ntmps71
      go_wp2
      go_ret
      exact ⟨rfl, gr0 _⟩
set_option maxRecDepth 100000 in
set_option maxHeartbeats 4000000 in
theorem window_ {W : World} {b : Nat} {o : Option Nat} {v : Value} {L : List Int} (h : Bufc W b o v L) (f t : Int) :
    Calls Try.prog 60 #[.pointer (some ⟨b, 0, none⟩), .int .i64 f, .int .i64 t] W fun e W' => e = .returned (.func (.func 80) #[] #[.pointer (some ⟨W.heap.size, 0, none⟩), .pointer (some ⟨W.heap.size + 2, 0, none⟩), .pointer (some ⟨W.heap.size + 1, 0, none⟩)]) ∧ Below W.heap.size W W' ∧
      W'.cell? ⟨W.heap.size, 0, none⟩ = some (.pointer (some ⟨b, 0, none⟩)) ∧ W'.cell? ⟨W.heap.size + 2, 0, none⟩ = some (.int .i64 (clipN L.length t)) ∧ W'.cell? ⟨W.heap.size + 1, 0, none⟩ = some (.int .i64 (clipN L.length f)) := by
  have HL : Hid2 (∀ W', Below W.heap.size W W' → Calls Try.prog 23 #[.pointer (some ⟨b, 0, none⟩)] W' fun e W'' => e = .returned (.int .i64 L.length) ∧ Below W'.heap.size W' W'') := fun W' hb => blen_ (h.calm hb)
  clear h
  go_enter Try.func60, Try.ntmps60
  go_wp2_with fail
  refine wp_region_calm_tail 8 (by kernel_rfl) (by kernel_rfl) ?_
  simp only [List.take_succ_cons, List.take_zero, List.drop_succ_cons, List.drop_zero]
  (repeat (first | go_big_quiet_step ((first | (go_at_call 23; exact calm_call (HL.out _ (gr2 (gr1 (gr1 (gr1 (gr0 W) _) _) _) (Later.below _)))) | (go_at_call 71; exact calm_call (nclip_ _ _ _)))) | quiet_step ((first | (go_at_call 23; exact calm_call (HL.out _ (gr2 (gr1 (gr1 (gr1 (gr0 W) _) _) _) (Later.below _)))) | (go_at_call 71; exact calm_call (nclip_ _ _ _))))))
  refine wpQuiet_nil ?_
  intro u
  have hzu := u.below.size
  try simp at hzu
  go_wp2
  go_ret
  have q0 : u.at_.cell? ⟨W.heap.size, 0, none⟩ = some (.pointer (some ⟨b, 0, none⟩)) ∧ u.at_.frozen? ⟨W.heap.size, 0, none⟩ = false := ⟨(u.below.cell (p := ⟨W.heap.size, 0, none⟩) (by simp; omega)).trans (by simp [alloc_cell_if, show W.heap.size < W.heap.size + 1 + 1 by omega]), (u.below.frozen (p := ⟨W.heap.size, 0, none⟩) (by simp; omega)).trans (by simp [alloc_frozen_if, show W.heap.size < W.heap.size + 1 + 1 by omega])⟩
  have q1 : u.at_.cell? ⟨W.heap.size + 1, 0, none⟩ = some (.int .i64 f) ∧ u.at_.frozen? ⟨W.heap.size + 1, 0, none⟩ = false := ⟨(u.below.cell (p := ⟨W.heap.size + 1, 0, none⟩) (by simp)).trans (by simp [alloc_cell_if]), (u.below.frozen (p := ⟨W.heap.size + 1, 0, none⟩) (by simp)).trans (by simp [alloc_frozen_if])⟩
  have q2 : u.at_.cell? ⟨W.heap.size + 2, 0, none⟩ = some (.int .i64 t) ∧ u.at_.frozen? ⟨W.heap.size + 2, 0, none⟩ = false := ⟨(u.below.cell (p := ⟨W.heap.size + 2, 0, none⟩) (by simp)).trans (by simp [alloc_cell_if]), (u.below.frozen (p := ⟨W.heap.size + 2, 0, none⟩) (by simp)).trans (by simp [alloc_frozen_if])⟩
  refine ⟨rfl, gr4 (gr4 (gr2 (gr1 (gr1 (gr1 (gr0 _) _) _) _) u.below) (Nat.le_add_right _ _) _) (show W.heap.size ≤ W.heap.size + 1 + 1 by omega) _, ?_, ?_, ?_⟩
  · exact (cel_set (cel_set q0 (by omega)) (by omega)).1
  · exact (cel_same (cel_set q2 (by omega))).1
  · exact (cel_set (cel_same q1) (by omega)).1
end Go.Proofs.Ytbdnnkokkgdhnaa
