/- What the laws of the chapter share: plain facts. -/
import Derived.Test.YtgegmlhpdpdnfaaImg7
namespace Go.Proofs.Ytgegmlhpdpdnfaa
open Go.RowKit
theorem ceil_ok {n d : Int} (h1 : 1 ≤ n) (h2 : n ≤ 1000) (h3 : 8 ≤ d) (h4 : d ≤ 16) : ∃ A : Nat, ceilI n d = A ∧ (1 ≤ A ∧ (A : Int) ≤ n) ∧ n ≤ (A : Int) * d ∧ ((A : Int) - 1) * d < n := by
  have h5 : ¬ (n < 0 ∨ 1099511627776 < n ∨ d < 1 ∨ 1099511627776 < d) := by omega
  have h6 := ceil_q h5
  have h7 := ceil_le (d := d) (show 0 ≤ n by omega)
  have h8 := ceil_lo n d
  have e := Int.mul_ediv_add_emod (n + d - 1) d
  have e1 := Int.emod_nonneg (n + d - 1) (show d ≠ 0 by omega)
  have e2 := Int.emod_lt_of_pos (n + d - 1) (show 0 < d by omega)
  rw [h6] at h7 h8
  obtain ⟨A, hA⟩ : ∃ A : Nat, (n + d - 1) / d = A := ⟨((n + d - 1) / d).toNat, by omega⟩
  rw [hA] at e h7 h8 h6
  have e3 : d * (A : Int) = (A : Int) * d := Int.mul_comm _ _
  refine ⟨A, h6, ⟨?_, h7⟩, by omega, by rw [Int.sub_mul, Int.one_mul]; omega⟩
  rcases Nat.eq_zero_or_pos A with h | h
  · subst h; simp at e; omega
  · exact h
theorem Nums.below {k : IntKind} {v : Value} {n : Nat} {f : Nat → Int} {W W' : World} (h : Nums k v n f W) (hb : Below W.heap.size W W') : Nums k v n f W' := by
  obtain ⟨h1, q, c, h2, h3⟩ := h
  exact ⟨h1, q, c, h2, fun i hi => let ⟨cb, co, a, b, e⟩ := h3 i hi; ⟨cb, co, a, Nat.lt_of_lt_of_le b hb.size, (hb.cell (p := ⟨cb, co + i, none⟩) b).trans e⟩⟩
theorem split_len1 {x y : Int} {F : Nat → Nat → Int} {A n : Nat} : ∀ bs ∈ splitM x y 1 F A n, bs.length = 1 := by
  intro bs hb
  obtain ⟨i, _, rfl⟩ := List.mem_map.1 hb
  simp [mcuM, plsM, pls1]
theorem split_len2 {x y : Int} {F : Nat → Nat → Int} {A n : Nat} : ∀ bs ∈ splitM x y 2 F A n, bs.length = 3 := by
  intro bs hb
  obtain ⟨i, _, rfl⟩ := List.mem_map.1 hb
  simp [mcuM, plsM, pls2]
theorem split_len3 {x y : Int} {F : Nat → Nat → Int} {A n : Nat} : ∀ bs ∈ splitM x y 3 F A n, bs.length = 4 := by
  intro bs hb
  obtain ⟨i, _, rfl⟩ := List.mem_map.1 hb
  simp [mcuM, plsM, pls3]
theorem split_len4 {x y : Int} {F : Nat → Nat → Int} {A n : Nat} : ∀ bs ∈ splitM x y 4 F A n, bs.length = 6 := by
  intro bs hb
  obtain ⟨i, _, rfl⟩ := List.mem_map.1 hb
  simp [mcuM, plsM, pls4]
end Go.Proofs.Ytgegmlhpdpdnfaa
