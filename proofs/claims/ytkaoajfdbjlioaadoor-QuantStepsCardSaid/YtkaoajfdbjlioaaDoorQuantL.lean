/- Blocks by steps: plain integers. -/
import Derived.Test.YtkaoajfdbjlioaaDoorQuantS
namespace Go.Proofs.YtkaoajfdbjlioaaDoor
open Go.RowKit

theorem half_0 {d : Int} (hd : 1 ≤ d) : d / 2 / d = 0 := Int.ediv_eq_zero_of_lt (by omega) (by omega)
theorem rndD_mul (x : Int) {d : Int} (hd : 1 ≤ d) : rndD (x * d) d = x := by
  have h0 : d ≠ 0 := by omega
  have e1 : (x * d + d / 2) / d = x := by rw [Int.add_comm, Int.add_mul_ediv_right _ _ h0, half_0 hd]; omega
  have e2 : (-(x * d) + d / 2) / d = -x := by rw [← Int.neg_mul, Int.add_comm, Int.add_mul_ediv_right _ _ h0, half_0 hd]; omega
  unfold rndD
  split
  · rw [e2]; omega
  · exact e1
theorem rndD_1 (x : Int) : rndD x 1 = x := by have := rndD_mul x (d := 1) (by omega); rwa [Int.mul_one] at this
/-- Off by no more than half a step; and no greater than what was there. -/
theorem rndD_near (x : Int) {d : Int} (hd : 1 ≤ d) : (-d ≤ 2 * (x - rndD x d * d) ∧ 2 * (x - rndD x d * d) ≤ d) ∧ (0 ≤ x → 0 ≤ rndD x d ∧ rndD x d ≤ x) ∧ (x ≤ 0 → rndD x d ≤ 0 ∧ x ≤ rndD x d) ∧ (rndD x d = 0 ↔ 2 * x < d ∧ -2 * x < d) := by
  have key : ∀ n : Int, 0 ≤ n → (-d ≤ 2 * (n - (n + d / 2) / d * d) ∧ 2 * (n - (n + d / 2) / d * d) ≤ d) ∧ 0 ≤ (n + d / 2) / d ∧ (n + d / 2) / d ≤ n ∧ ((n + d / 2) / d = 0 ↔ 2 * n < d) := by
    intro n hn
    have h1 := Int.mul_ediv_add_emod (n + d / 2) d
    have h2 := Int.emod_nonneg (n + d / 2) (by omega : d ≠ 0)
    have h3 := Int.emod_lt_of_pos (n + d / 2) (by omega : 0 < d)
    rw [Int.mul_comm] at h1
    have h4 : 0 ≤ (n + d / 2) / d := Int.ediv_nonneg (by omega) (by omega)
    have h5 : (n + d / 2) / d * 1 ≤ (n + d / 2) / d * d := Int.mul_le_mul_of_nonneg_left hd h4
    rw [Int.mul_one] at h5
    refine ⟨⟨by omega, by omega⟩, h4, ?_, ?_, ?_⟩
    · rcases Int.lt_or_le n 1 with h | h
      · have : n = 0 := by omega
        subst this
        rw [Int.zero_add, half_0 hd]; exact Int.le_refl _
      · apply Int.ediv_le_of_le_mul (by omega)
        have e : n * d = (n - 1) * (d - 1) + (n - 1) + d := by rw [Int.sub_mul, Int.mul_sub, Int.mul_sub]; omega
        have : 0 ≤ (n - 1) * (d - 1) := Int.mul_nonneg (by omega) (by omega)
        omega
    · intro h
      rw [h] at h1
      omega
    · intro h
      exact Int.ediv_eq_zero_of_lt (by omega) (by omega)
  unfold rndD
  split
  · rename_i hx
    obtain ⟨⟨k1, k2⟩, k3, k4, k5⟩ := key (-x) (by omega)
    generalize (-x + d / 2) / d = r at *
    have e : -r * d = -(r * d) := Int.neg_mul _ _
    rw [e]
    refine ⟨⟨by omega, by omega⟩, fun h => by omega, fun _ => ⟨by omega, by omega⟩, fun h => ?_, fun h => ?_⟩
    · have := k5.1 (by omega); omega
    · have := k5.2 (by omega); omega
  · rename_i hx
    obtain ⟨⟨k1, k2⟩, k3, k4, k5⟩ := key x (by omega)
    refine ⟨⟨k1, k2⟩, fun _ => ⟨k3, k4⟩, fun h => ?_, fun h => ?_, fun h => k5.2 h.1⟩
    · have : x = 0 := by omega
      omega
    · have := k5.1 h; omega
theorem tells_all {x q : Nat → Int} (hx : ∀ i, i < 64 → -127 ≤ x i ∧ x i ≤ 127) (hq : ∀ i, i < 64 → 1 ≤ q i ∧ q i ≤ 255) : ∀ i, i < 64 → qfI (qbI x q) q i = x i := by
  intro i hi
  obtain ⟨h1, _, h3⟩ := zn_all i hi
  have hxi := hx i hi
  have hqi := hq _ h1
  unfold qfI qbI
  rw [h3, clip_id (lo := -2048) (hi := 2047) (by omega) (by omega)]
  have hm := mul_bd (A := 127) (B := 255) (a := x i) (b := q (zn i)) (by omega) (by omega)
  rw [clip_id (lo := -32767) (hi := 32767) (by omega) (by omega), rndD_mul _ hqi.1]
  unfold leaI
  split <;> exact clip_id (by omega) (by omega)
theorem lea_in (i : Int) : -1024 ≤ leaI i ∧ leaI i ≤ -1023 ∧ (i = 0 → leaI i = -1024) := by unfold leaI; split <;> omega
/-- Of a block of bytes: nothing is clipped. -/
theorem near_z {b q : Nat → Int} (hb : byteB b) (hq : ∀ i, i < 64 → 1 ≤ q i ∧ q i ≤ 255) {i : Nat} (hi : i < 64) : qfI (fwdI b) q i = rndD (fwdI b (zn i)) (q (zn i)) := by
  obtain ⟨h1, _, h3⟩ := zn_all i hi
  obtain ⟨f1, f2, f3⟩ := fwd_in hb (zn i) h1
  have hn := rndD_near (fwdI b (zn i)) (hq _ h1).1
  have hl := lea_in i
  unfold qfI
  rw [clip_id (lo := -32767) (hi := 32767) (by omega) (by omega)]
  have hz : i ≠ 0 → zn i ≠ 0 := fun h e => by
    rw [e] at h3
    have : iz 0 = 0 := by decide +kernel
    omega
  apply clip_id
  · rcases Int.lt_or_le (fwdI b (zn i)) 0 with h | h
    · have := (hn.2.2.1 (by omega)).2
      by_cases h0 : i = 0
      · have := hl.2.2 (by omega); omega
      · have := f3 (hz h0); omega
    · have := (hn.2.1 h).1; omega
  · rcases Int.lt_or_le (fwdI b (zn i)) 0 with h | h
    · have := (hn.2.2.1 (by omega)).1; omega
    · have := (hn.2.1 h).2; omega
theorem near_y {b q : Nat → Int} (hb : byteB b) (hq : ∀ i, i < 64 → 1 ≤ q i ∧ q i ≤ 255) {p : Nat} (hp : p < 64) : qbI (qfI (fwdI b) q) q p = rndD (fwdI b p) (q p) * q p ∧ -1024 ≤ rndD (fwdI b p) (q p) ∧ rndD (fwdI b p) (q p) ≤ 1023 := by
  obtain ⟨h1, h2⟩ := iz_all p hp
  have h3 := near_z hb hq h1
  rw [h2] at h3
  have hn := rndD_near (fwdI b p) (hq p hp).1
  obtain ⟨f1, f2, _⟩ := fwd_in hb p hp
  have hr : -1024 ≤ rndD (fwdI b p) (q p) ∧ rndD (fwdI b p) (q p) ≤ 1023 := by
    rcases Int.lt_or_le (fwdI b p) 0 with h | h
    · have := hn.2.2.1 (by omega); omega
    · have := hn.2.1 h; omega
  refine ⟨?_, hr⟩
  unfold qbI
  rw [h3, clip_id (by omega) (by omega)]
end Go.Proofs.YtkaoajfdbjlioaaDoor
