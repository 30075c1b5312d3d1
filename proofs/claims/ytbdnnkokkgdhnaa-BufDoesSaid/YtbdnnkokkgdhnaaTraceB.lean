/- The words of an event, as the program reckons them. -/
import Derived.Test.YtbdnnkokkgdhnaaTraceM
import Derived.Laws.BitsAllLaws
namespace Go.Proofs.Ytbdnnkokkgdhnaa
open Go.RowKit

theorem or_add (a b i : Nat) (h : b < 2 ^ i) : (a * 2 ^ i) ||| b = a * 2 ^ i + b := by
  have := Nat.shiftLeft_add_eq_or_of_lt h a
  rw [Nat.shiftLeft_eq] at this
  exact this.symm
theorem or_kind {n k : Int} (hn : 0 ≤ n ∧ n < 268435456) (hk : 0 ≤ k ∧ k ≤ 3) : bits .or .u32 (n * 4) k = n * 4 + k := by
  rw [u32_or _ _ (by omega) (by omega) (by omega) (by omega)]
  have h := or_add n.toNat k.toNat 2 (by omega)
  rw [show (n * 4).toNat = n.toNat * 2 ^ 2 by omega, h]
  omega
theorem or_far {k : Int} (hk : 0 ≤ k ∧ k ≤ 3) : bits .or .u32 2147483648 k = 2147483648 + k := by
  rw [u32_or _ _ (by omega) (by omega) (by omega) (by omega)]
  have h := or_add 1 k.toNat 31 (by omega)
  rw [show (2147483648 : Int).toNat = 1 * 2 ^ 31 by decide, h]
  omega
theorem and_three {x : Int} (hx : 0 ≤ x ∧ x ≤ 4294967295) : bits .and .u32 x 3 = x % 4 := by
  rw [u32_and _ _ (by omega) (by omega) (by omega) (by omega)]
  have h := Nat.and_two_pow_sub_one_eq_mod x.toNat 2
  rw [show (3 : Int).toNat = 2 ^ 2 - 1 by decide, h]
  omega
theorem or_words {a b : Int} (ha : 0 ≤ a ∧ a ≤ 4294967295) (hb : 0 ≤ b ∧ b ≤ 4294967295) : bits .or .u64 (a * 4294967296) b = a * 4294967296 + b := by
  rw [u64_or _ _ (by omega) (by omega) (by omega) (by omega)]
  have h := or_add a.toNat b.toNat 32 (by omega)
  rw [show (a * 4294967296).toNat = a.toNat * 2 ^ 32 by omega, h]
  omega
theorem wrap_far {n : Int} (hn : I64 n) : wrap64 (n / 4294967296 % 4294967296 * 4294967296 + n % 4294967296) = n := by
  unfold I64 at hn; unfold wrap64; omega
end Go.Proofs.Ytbdnnkokkgdhnaa
