/- Numbers: what num.Clip and the document's Clip compute. -/
import Derived.Test.YtgegmlhpdpdnfaaProg
import Derived.Test.YtgegmlhpdpdnfaaFlow
namespace Go.Proofs.Ytgegmlhpdpdnfaa
open Go.RowKit

def clipI (n low high : Int) : Int := if n < low then low else if high < n then high else n

theorem num_clip (n low high : Int) (w : World) :
    Calls Try.prog 59 #[.int .i64 n, .int .i64 low, .int .i64 high] w fun e w' => e = .returned (.int .i64 (clipI n low high)) ∧ Below w.heap.size w w' := by
  by_cases h1 : n < low
  · go_enter Try.func59, Try.ntmps59
    go_wp2
    go_ret
    exact ⟨ret_int (by unfold clipI; rw [if_pos h1]), gr0 _⟩
  · by_cases h2 : high < n
    · go_enter Try.func59, Try.ntmps59
      go_wp2
      go_ret
      exact ⟨ret_int (by unfold clipI; rw [if_neg (by omega), if_pos h2]), gr0 _⟩
    · go_enter Try.func59, Try.ntmps59
      go_wp2
      go_ret
      exact ⟨ret_int (by unfold clipI; rw [if_neg (by omega), if_neg (by omega)]), gr0 _⟩

theorem ref01_clip (n low high : Int) (w : World) :
    Calls Try.prog 63 #[.int .i64 n, .int .i64 low, .int .i64 high] w fun e w' => e = .returned (.int .i64 (clipI n low high)) ∧ Below w.heap.size w w' := by
  by_cases h1 : n < low
  · go_enter Try.func63, Try.ntmps63
    go_wp2
    go_ret
    exact ⟨ret_int (by unfold clipI; rw [if_pos h1]), gr0 _⟩
  · by_cases h2 : high < n
    · go_enter Try.func63, Try.ntmps63
      go_wp2
      go_ret
      exact ⟨ret_int (by unfold clipI; rw [if_neg (by omega), if_pos h2]), gr0 _⟩
    · go_enter Try.func63, Try.ntmps63
      go_wp2
      go_ret
      exact ⟨ret_int (by unfold clipI; rw [if_neg (by omega), if_neg (by omega)]), gr0 _⟩

end Go.Proofs.Ytgegmlhpdpdnfaa
