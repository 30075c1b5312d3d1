/- Slots: sums over the intervals: plain integers. -/
import Derived.Test.YtdpiikpodcanjaaSlotL
namespace Go.Proofs.Ytdpiikpodcanjaa
open Go.RowKit

/-- Held, but out of the walk's sight. -/
def Veil (p : Prop) : Prop := p
theorem Veil.out {p : Prop} (h : Veil p) : p := h
theorem wp_abs {c : Code} {P : Program} {Q : Exit → Act → World → Prop} {a : Act} {W : World} (F : World → Prop) (h1 : F W) (h2 : ∀ W, F W → c.wp P Q a W) : c.wp P Q a W := h2 W h1
theorem betw_t {n l u : Int} (h : betwI n l u = true) : l ≤ n ∧ n ≤ u := by unfold betwI at h; simpa using h
theorem check_ok {x y m q i c : Int} (h : checkI x y m q i c = 0) : (1 ≤ x ∧ x ≤ 65535) ∧ (1 ≤ y ∧ y ≤ 65535) ∧ (1 ≤ m ∧ m ≤ 4) ∧ (1 ≤ i ∧ i ≤ 65535) ∧ 0 ≤ c ∧ c ≤ 3 := by
  cases hx : betwI x 1 65535
  · simp [checkI, hx] at h
  cases hy : betwI y 1 65535
  · simp [checkI, hx, hy] at h
  cases h1 : decide (wrap64 (x * y) ≤ 67108864)
  · simp only [checkI, hx, hy, h1] at h; simp at h
  cases hm : betwI m 1 4
  · simp only [checkI, hx, hy, h1, hm] at h; simp at h
  cases hq : betwI q 1 100
  · simp only [checkI, hx, hy, h1, hm, hq] at h; simp at h
  cases hi : betwI i 1 65535
  · simp only [checkI, hx, hy, h1, hm, hq, hi] at h; simp at h
  cases hc : betwI c 0 3
  · simp only [checkI, hx, hy, h1, hm, hq, hi, hc] at h; simp at h
  exact ⟨betw_t hx, betw_t hy, betw_t hm, betw_t hi, betw_t hc⟩
theorem parts_some {m : Int} (h : 1 ≤ m ∧ m ≤ 4) : (partsN m : Int) = 1 ∨ (partsN m : Int) = 3 ∨ (partsN m : Int) = 4 ∨ (partsN m : Int) = 6 := by
  rcases (show m = 1 ∨ m = 2 ∨ m = 3 ∨ m = 4 by omega) with rfl | rfl | rfl | rfl <;> decide
theorem ceil_1 {n d : Int} (hn : 1 ≤ n ∧ n ≤ 65535) (hd : 1 ≤ d ∧ d ≤ 65535) : 1 ≤ ceilI n d := by
  rw [ceil_q (by omega)]
  exact (Int.le_ediv_iff_mul_le (by omega)).2 (by omega)
theorem mcus_1 {x y m : Int} (hx : 1 ≤ x ∧ x ≤ 65535) (hy : 1 ≤ y ∧ y ≤ 65535) (hm : 1 ≤ m ∧ m ≤ 4) : 1 ≤ mcusI x y m := by
  have hs : (8 ≤ sideW m ∧ sideW m ≤ 16) ∧ 8 ≤ sideH m ∧ sideH m ≤ 16 := by
    rcases (show m = 1 ∨ m = 2 ∨ m = 3 ∨ m = 4 by omega) with rfl | rfl | rfl | rfl <;> decide
  have hg : gridOk x y m := ⟨by omega, hx, hy⟩
  obtain ⟨e1, e2⟩ := grid_ok hg
  unfold mcusI
  rw [e1, e2]
  have h1 := ceil_1 (d := sideW m) hx (by omega)
  have h2 := ceil_1 (d := sideH m) hy (by omega)
  have := Int.mul_le_mul h1 h2 (by omega) (by omega)
  omega
theorem iv_lt {x y m i : Int} (hi : 1 ≤ i ∧ i ≤ 65535) (k : Int) : k < intervalsI x y m i ↔ k * i < mcusI x y m := by
  have hM := mcus_in x y m
  unfold intervalsI
  rw [if_neg (by omega), ceil_q (by omega)]
  have h := Int.le_ediv_iff_mul_le (a := k + 1) (b := mcusI x y m + i - 1) (c := i) (by omega)
  have e : (k + 1) * i = k * i + i := by rw [Int.add_mul, Int.one_mul]
  rw [e] at h
  constructor
  · intro h1
    have := h.1 (by omega); omega
  · intro h1
    have := h.2 (by omega); omega
/-- One round. -/
theorem sums_step {x y m i k : Int} (hi : 1 ≤ i ∧ i ≤ 65535) (hm : 1 ≤ m ∧ m ≤ 4) (hk : 0 ≤ k) (hn : k < intervalsI x y m i) :
    1 ≤ blocksI x y m i k ∧ blocksI x y m i k ≤ blocksI x y m i 0 ∧ blocksI x y m i 0 ≤ 400000 ∧ (k < intervalsI x y m i - 1 → blocksI x y m i k = blocksI x y m i 0) ∧ minI (k * i) (mcusI x y m) * partsN m + blocksI x y m i k = minI ((k + 1) * i) (mcusI x y m) * partsN m := by
  have hM := mcus_in x y m
  have h1 := (iv_lt hi k).1 hn
  have h2 := fun h => (iv_lt (x := x) (y := y) (m := m) hi (k + 1)).1 h
  have e : (k + 1) * i = k * i + i := by rw [Int.add_mul, Int.one_mul]
  rw [e] at h2
  have hki : 0 ≤ k * i := Int.mul_nonneg hk (by omega)
  have e0 : blocksI x y m i 0 = minI i (mcusI x y m) * partsN m := by unfold blocksI; rw [if_neg (by omega), Int.zero_mul, Int.sub_zero]
  have ek : blocksI x y m i k = minI i (mcusI x y m - k * i) * partsN m := by unfold blocksI; rw [if_neg (by omega)]
  rw [e0, ek, e]
  have h0 : 0 < k → i ≤ k * i := fun h => by
    have := Int.mul_le_mul_of_nonneg_right (show (1 : Int) ≤ k by omega) (show 0 ≤ i by omega)
    omega
  generalize k * i = t at *
  generalize mcusI x y m = M at *
  generalize intervalsI x y m i = N at *
  have a1 : 1 ≤ minI i (M - t) ∧ minI i (M - t) ≤ minI i M ∧ minI i M ≤ 65535 ∧ (k < N - 1 → minI i (M - t) = minI i M) ∧ minI t M + minI i (M - t) = minI (t + i) M := by
    unfold minI
    refine ⟨by split <;> omega, by (repeat' split) <;> omega, by split <;> omega, fun h => ?_, by (repeat' split) <;> omega⟩
    have := h2 (by omega)
    (repeat' split) <;> omega
  obtain ⟨b1, b2, b3, b4, b5⟩ := a1
  rw [← b5, Int.add_mul]
  rcases parts_some hm with h | h | h | h <;> rw [h] <;> exact ⟨by omega, by omega, by omega, fun h => by rw [b4 h], rfl⟩
theorem sums_0 {x y m i : Int} : minI (0 * i) (mcusI x y m) * partsN m = 0 := by
  have hM := mcus_in x y m
  have : minI (0 * i) (mcusI x y m) = 0 := by unfold minI; rw [Int.zero_mul]; split <;> omega
  rw [this, Int.zero_mul]
theorem sums_in {x y m i k : Int} (hi : 1 ≤ i ∧ i ≤ 65535) (hk : 0 ≤ k) : 0 ≤ minI (k * i) (mcusI x y m) * partsN m ∧ minI (k * i) (mcusI x y m) * partsN m ≤ 30000000000 := by
  have hM := mcus_in x y m
  have h0 : 0 ≤ k * i := Int.mul_nonneg hk (by omega)
  have h1 : 0 ≤ minI (k * i) (mcusI x y m) ∧ minI (k * i) (mcusI x y m) ≤ 4294836225 := by unfold minI; split <;> omega
  rcases parts_cases m with h | h | h | h | h | h | h <;> rw [h] <;> omega
/-- What holds when all rounds are done. -/
theorem sums_end {x y m q i c : Int} (h : checkI x y m q i c = 0) (hc : c ≤ 3) :
    1 ≤ minI (intervalsI x y m i * i) (mcusI x y m) * partsN m ∧ blocksI x y m i (intervalsI x y m i) = 0 ∧ (∀ d, c ≤ d → d ≤ 3 → roomI x y m i c ≤ roomI x y m i d) ∧ reserveI m 0 (blocksI x y m i 0) ≤ 4 * roomI x y m i c ∧ slotI x y m i c = roomI x y m i c + 2 ∧ 0 ≤ blocksI x y m i 0 ∧ blocksI x y m i 0 ≤ 400000 := by
  obtain ⟨hx, hy, hm, hi, hc0, _⟩ := check_ok h
  have hM1 := mcus_1 hx hy hm
  have hM := mcus_in x y m
  have hn0 : 0 < intervalsI x y m i := (iv_lt hi 0).2 (by rw [Int.zero_mul]; omega)
  have e0 : blocksI x y m i 0 = manyI x y m i := by unfold blocksI manyI; rw [if_neg (by omega), Int.zero_mul, Int.sub_zero]
  obtain ⟨m1, m2, _⟩ := many_in (x := x) (y := y) (m := m) hi
  have hmany : 1 ≤ manyI x y m i := by
    have a1 : 1 ≤ minI i (mcusI x y m) := by unfold minI; split <;> omega
    unfold manyI
    rcases parts_some hm with h | h | h | h <;> rw [h] <;> omega
  have hb1 := bytes_eq (n := manyI x y m i * 24) (by omega) (by omega)
  have hb2 := bytes_eq (n := manyI x y m i * 1662) (by omega) (by omega)
  have hr : ∀ d : Int, 0 ≤ d → d ≤ 3 → roomI x y m i d = bytesI (manyI x y m i * 24) + d * (bytesI (manyI x y m i * 1662) - bytesI (manyI x y m i * 24)) / 3 := fun d h1 h2 => by unfold roomI; rw [if_neg (by omega)]
  have hD : 0 ≤ bytesI (manyI x y m i * 1662) - bytesI (manyI x y m i * 24) := by omega
  have hcD : 0 ≤ c * (bytesI (manyI x y m i * 1662) - bytesI (manyI x y m i * 24)) := Int.mul_nonneg hc0 hD
  have hcD1 : ∀ d, c ≤ d → c * (bytesI (manyI x y m i * 1662) - bytesI (manyI x y m i * 24)) ≤ d * (bytesI (manyI x y m i * 1662) - bytesI (manyI x y m i * 24)) := fun d h => Int.mul_le_mul_of_nonneg_right h hD
  have r1 := hr c hc0 hc
  refine ⟨?_, ?_, ?_, ?_, ?_, by omega, by omega⟩
  · have h1 : 1 ≤ intervalsI x y m i * i := by
      have := Int.mul_le_mul (show (1 : Int) ≤ intervalsI x y m i by omega) hi.1 (by omega) (by omega)
      omega
    have a1 : 1 ≤ minI (intervalsI x y m i * i) (mcusI x y m) := by unfold minI; split <;> omega
    rcases parts_some hm with h | h | h | h <;> rw [h] <;> omega
  · unfold blocksI; rw [if_pos (by omega)]
  · intro d h1 h2
    have r3 := hcD1 d h1
    rw [r1, hr d (by omega) h2]; omega
  · rw [e0, r1]
    have : reserveI m 0 (manyI x y m i) ≤ 24 * manyI x y m i := by unfold reserveI; split <;> omega
    omega
  · unfold slotI; rw [if_neg (by rw [r1]; omega)]
theorem mul_mod {a : Int} {p : Nat} : Int.tmod (a * p) p = 0 := Int.mul_tmod_left _ _
end Go.Proofs.Ytdpiikpodcanjaa
