/- What lies over add: Idx, Br, Open; New; a recorder that is none. -/
import Derived.Test.YtbdnnkokkgdhnaaTraceA
import Derived.Deep.LoopGhost
namespace Go.Proofs.Ytbdnnkokkgdhnaa
open Go.RowKit

theorem add_none (kd n : Int) (w : World) :
    Calls Try.prog 77 #[.pointer none, .int .i64 kd, .int .i64 n] w fun e w' => e = .returned (.tuple #[]) ∧ Below w.heap.size w w' := by
  go_enter Try.func77, Try.ntmps77
  go_wp2
  refine ⟨rfl, .tuple #[], by simp [results, Try.results77], rfl, gr0 _⟩

theorem idx_ {w : World} {g : Nat} {S : St} {fp : List Nat} (h : Rc w g S fp) (hS : S.length ≤ 1000000) (n : Int) (hI : I64 n) :
    Calls Try.prog 76 #[.pointer (some ⟨g, 0, none⟩), .int .i64 n] w fun e w' => e = .returned (.tuple #[]) ∧ ∃ fp', Rc w' g (addS S (1, n)) fp' ∧ Moved fp w w' ∧ Fresh w fp fp' := by
  go_enter Try.func76, Try.ntmps76
  go_wp2_with (go_at_call 77; refine (add_ h hS 1 n (by omega) hI).mono ?_; rintro e w1 ⟨rfl, h1⟩)
  exact ⟨rfl, .tuple #[], by simp [results, Try.results76], rfl, h1⟩
theorem idx_none (n : Int) (w : World) :
    Calls Try.prog 76 #[.pointer none, .int .i64 n] w fun e w' => e = .returned (.tuple #[]) ∧ Below w.heap.size w w' := by
  go_enter Try.func76, Try.ntmps76
  go_wp2_with (go_at_call 77; refine (add_none 1 n w).mono ?_; rintro e w1 ⟨rfl, h1⟩)
  exact ⟨rfl, .tuple #[], by simp [results, Try.results76], rfl, h1⟩

theorem br_ {w : World} {g : Nat} {S : St} {fp : List Nat} (h : Rc w g S fp) (hS : S.length ≤ 1000000) (n : Int) (hI : I64 n) :
    Calls Try.prog 81 #[.pointer (some ⟨g, 0, none⟩), .int .i64 n] w fun e w' => e = .returned (.tuple #[]) ∧ ∃ fp', Rc w' g (addS S (2, n)) fp' ∧ Moved fp w w' ∧ Fresh w fp fp' := by
  go_enter Try.func81, Try.ntmps81
  go_wp2_with (go_at_call 77; refine (add_ h hS 2 n (by omega) hI).mono ?_; rintro e w1 ⟨rfl, h1⟩)
  exact ⟨rfl, .tuple #[], by simp [results, Try.results81], rfl, h1⟩
theorem br_none (n : Int) (w : World) :
    Calls Try.prog 81 #[.pointer none, .int .i64 n] w fun e w' => e = .returned (.tuple #[]) ∧ Below w.heap.size w w' := by
  go_enter Try.func81, Try.ntmps81
  go_wp2_with (go_at_call 77; refine (add_none 2 n w).mono ?_; rintro e w1 ⟨rfl, h1⟩)
  exact ⟨rfl, .tuple #[], by simp [results, Try.results81], rfl, h1⟩

theorem opens_ {w : World} {g : Nat} {S : St} {fp : List Nat} (h : Rc w g S fp) (hS : S.length ≤ 1000000) :
    Calls Try.prog 51 #[.pointer (some ⟨g, 0, none⟩)] w fun e w' => e = .returned (.tuple #[]) ∧ ∃ fp', Rc w' g (addS S (3, 0)) fp' ∧ Moved fp w w' ∧ Fresh w fp fp' := by
  go_enter Try.func51, Try.ntmps51
  go_wp2_with (go_at_call 77; refine (add_ h hS 3 0 (by omega) ⟨by omega, by omega⟩).mono ?_; rintro e w1 ⟨rfl, h1⟩)
  exact ⟨rfl, .tuple #[], by simp [results, Try.results51], rfl, h1⟩
theorem opens_none (w : World) :
    Calls Try.prog 51 #[.pointer none] w fun e w' => e = .returned (.tuple #[]) ∧ Below w.heap.size w w' := by
  go_enter Try.func51, Try.ntmps51
  go_wp2_with (go_at_call 77; refine (add_none 3 0 w).mono ?_; rintro e w1 ⟨rfl, h1⟩)
  exact ⟨rfl, .tuple #[], by simp [results, Try.results51], rfl, h1⟩

theorem new_ (w : World) :
    Calls Try.prog 16 #[] w fun e w' => e = .returned (.pointer (some ⟨w.heap.size, 0, none⟩)) ∧ w' = w.alloc (.cells #[.slice none 0 0] 84) := by
  go_enter Try.func16, Try.ntmps16
  go_wp2
  go_ret
  exact ⟨rfl, rfl⟩
theorem all_ {w : World} {g : Nat} {S : St} {v : Value} {bs : List Nat} (h : Rec w g S v bs) :
    Calls Try.prog 62 #[.pointer (some ⟨g, 0, none⟩)] w fun e w' => e = .returned v ∧ w' = w := by
  have cg : w.cell? ⟨g, 0, none⟩ = some v := by rw [cell_of_row _ _ _ _ _ _ h.head]; rfl
  clear h
  go_enter Try.func62, Try.ntmps62
  go_wp2
  go_ret
  exact ⟨rfl, rfl⟩
theorem all_none (w : World) :
    Calls Try.prog 62 #[.pointer none] w fun e w' => e = .returned (.slice none 0 0) ∧ w' = w := by
  go_enter Try.func62, Try.ntmps62
  go_wp2
  go_ret
  exact ⟨rfl, rfl⟩
end Go.Proofs.Ytbdnnkokkgdhnaa
