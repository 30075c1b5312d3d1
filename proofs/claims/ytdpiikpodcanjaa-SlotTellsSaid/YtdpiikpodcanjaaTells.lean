/- Slots: all that is told is the chapter's answer. -/
import Derived.Test.YtdpiikpodcanjaaTells0
import Derived.Test.YtdpiikpodcanjaaTells1
import Derived.Test.YtdpiikpodcanjaaTells2
import Derived.Test.YtdpiikpodcanjaaTells3
import Derived.Test.YtdpiikpodcanjaaTells4
namespace Go.Proofs.Ytdpiikpodcanjaa
open Go.RowKit

theorem tells14 (x y m q i c a k f : Int) (w : World) (_bk : -9223372036854775808 ≤ k ∧ k ≤ 9223372036854775807) (_bf : -9223372036854775808 ≤ f ∧ f ≤ 9223372036854775807) :
    Calls Try.prog 33 #[.agg #[.int .i64 x, .int .i64 y, .int .i64 m, .int .i64 q, .int .i64 i, .int .i64 c], .int .i64 a, .int .i64 k, .int .i64 f] w fun e w' => e = .returned (.bool true) ∧ Below w.heap.size w w' := by
  rcases mode_cases m with rfl | rfl | rfl | rfl | ⟨h1, h2, h3, h4⟩
  · exact tells_1 x y q i c a k f w _bk _bf
  · exact tells_2 x y q i c a k f w _bk _bf
  · exact tells_3 x y q i c a k f w _bk _bf
  · exact tells_4 x y q i c a k f w _bk _bf
  · exact tells_0 x y m q i c a k f w _bk _bf h1 h2 h3 h4

theorem Public14 (x y m q i c : Int) (w : World) (_bx : 0 ≤ x ∧ x ≤ 65535) (_by : 0 ≤ y ∧ y ≤ 65535) (_bm : 0 ≤ m ∧ m ≤ 255) (_bq : 0 ≤ q ∧ q ≤ 255) (_bi : 0 ≤ i ∧ i ≤ 255) (_bc : 0 ≤ c ∧ c ≤ 255) :
    Calls Try.prog 32 #[.int .u16 x, .int .u16 y, .int .u8 m, .int .u8 q, .int .u8 i, .int .u8 c] w fun e w' => e = .returned (.agg #[.int .i64 (x % 300), .int .i64 (y % 300), .int .i64 (m % 6), .int .i64 (q % 103), .int .i64 (i % 30), .int .i64 (c % 6 - 1)]) ∧ Below w.heap.size w w' := by
  go_enter Try.func32, Try.ntmps32
  go_wp2_with (first
    | (refine wp_region_calm (by kernel_rfl) (by kernel_rfl) ?_; repeat (first | go_big_quiet_step (fail) | quiet_step (fail))
       refine wpQuiet_nil ?_; intro u; have hzu := u.below.size; try simp at hzu))
  refine bodyPost_ret (by simp [results, Try.results32, go_sem] <;> rfl) rfl ⟨rfl, ?_⟩
  repeat (first | exact gr0 _ | refine gr1 ?_ _ | refine gr2 ?_ (Later.below _) | refine gr2 ?_ (by assumption) | refine gr3 ?_ | refine gr4 ?_ (by first | (simp; done) | (simp; omega) | omega) _)

end Go.Proofs.Ytdpiikpodcanjaa
