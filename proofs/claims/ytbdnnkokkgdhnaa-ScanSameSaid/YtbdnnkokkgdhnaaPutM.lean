/- Words laid byte by byte over noughts, and taken again: the plain law. -/
import Derived.Test.YtbdnnkokkgdhnaaMath
import Derived.Test.YtbdnnkokkgdhnaaBufM
namespace Go.Proofs.Ytbdnnkokkgdhnaa
open Go.RowKit

/-- A byte of a word's n lowest ones. -/
def digI (s : Int) (n k : Nat) : Int := bits .and .i64 (secShr s (8 * ((n : Int) - 1 - k))) 255
/-- A word at place i with bytes of s laid over it, as many as k of n, from place p on. -/
def putW (p s w : Int) (n i : Nat) : Nat → Int
  | 0 => w
  | k + 1 => bits .or .i64 (putW p s w n i k) (bits .and .i64 (secEqual p ((i : Int) - k)) (digI s n k))
/-- What is taken, with the word at place i. -/
def takeW (p w o : Int) (n i : Nat) : Nat → Int
  | 0 => o
  | k + 1 => bits .or .i64 (takeW p w o n i k) (secShl (bits .and .i64 (secEqual p ((i : Int) - k)) (digI w 1 0)) (8 * ((n : Int) - 1 - k)))
/-- A buffer's words, with k places from A on laid over. -/
def putL (L : List Int) (p s : Int) (n A : Nat) : Nat → List Int
  | 0 => L
  | k + 1 => (putL L p s n A k).set (A + k) (putW p s (L.getD (A + k) 0) n (A + k) n)
/-- What is taken of k places from A on. -/
def takeO (L : List Int) (p : Int) (n A : Nat) : Nat → Int
  | 0 => 0
  | k + 1 => takeW p (L.getD (A + k) 0) (takeO L p n A k) n (A + k) n
theorem putL_len (L : List Int) (p s : Int) (n A k : Nat) : (putL L p s n A k).length = L.length := by
  induction k with
  | zero => rfl
  | succ k ih => simp [putL, ih]
theorem putL_at (L : List Int) (p s : Int) (n A k j : Nat) (h : A + k ≤ j) : (putL L p s n A k)[j]? = L[j]? := by
  induction k with
  | zero => rfl
  | succ k ih =>
    simp only [putL]
    rw [List.getElem?_set_ne (by omega)]
    exact ih (by omega)
theorem putW_I64 {w : Int} (hw : I64 w) (p s : Int) (n i k : Nat) : I64 (putW p s w n i k) := by
  cases k with
  | zero => exact hw
  | succ k => exact bits_or_I64 _ _
theorem takeW_I64 {o : Int} (ho : I64 o) (p w : Int) (n i k : Nat) : I64 (takeW p w o n i k) := by
  cases k with
  | zero => exact ho
  | succ k => exact bits_or_I64 _ _
theorem takeO_I64 (L : List Int) (p : Int) (n A k : Nat) : I64 (takeO L p n A k) := by
  induction k with
  | zero => unfold I64; simp [takeO]
  | succ k ih => exact takeW_I64 ih _ _ _ _ _
theorem digI_I64 (s : Int) (n k : Nat) : I64 (digI s n k) := bits_and_I64 _ _
theorem putL_I64 {L : List Int} (hL : ∀ y ∈ L, I64 y) (p s : Int) (n A k : Nat) : ∀ y ∈ putL L p s n A k, I64 y := by
  induction k with
  | zero => exact hL
  | succ k ih =>
    intro y hy
    rcases List.mem_or_eq_of_mem_set hy with h | h
    · exact ih y h
    · rw [h]
      refine putW_I64 ?_ _ _ _ _ _
      unfold List.getD
      cases hg : L[A + k]? with
      | none => unfold I64; simp
      | some x => exact hL x (List.mem_of_getElem? hg)
theorem or_zero {a : Int} (h : I64 a) : bits .or .i64 a 0 = a := by
  rw [bits_or]
  rw [show (BitVec.ofInt 64 0) = 0#64 from rfl, BitVec.or_zero]
  exact ofInt_toInt h
theorem zero_or {a : Int} (h : I64 a) : bits .or .i64 0 a = a := by
  rw [bits_or, show (BitVec.ofInt 64 0) = 0#64 from rfl, BitVec.zero_or]
  exact ofInt_toInt h
theorem and_mask (b : Bool) {a : Int} (h : I64 a) : bits .and .i64 (mask b) a = if b then a else 0 := by
  rw [bits_and]
  cases b with
  | false => rw [mask_false, show (BitVec.ofInt 64 0) = 0#64 from rfl, BitVec.zero_and]; rfl
  | true => rw [mask_true, allOnes_eq, BitVec.allOnes_and]; exact ofInt_toInt h
theorem and_low (a : Int) (m : Nat) (hm : m ≤ 62) : bits .and .i64 a (2 ^ m - 1) = a % 2 ^ m := by
  rw [bits_and]
  have hp : (2 : Nat) ^ m ≤ 2 ^ 62 := Nat.pow_le_pow_right (by omega) hm
  have h1 : (1 : Nat) ≤ 2 ^ m := Nat.one_le_two_pow
  have h2 : (BitVec.ofInt 64 (2 ^ m - 1)).toNat = 2 ^ m - 1 := by
    rw [BitVec.toNat_ofInt]
    have : ((2 : Int) ^ m - 1) = ((2 ^ m - 1 : Nat) : Int) := by rw [Int.ofNat_sub h1]; simp
    rw [this]
    omega
  have h3 : (BitVec.ofInt 64 a &&& BitVec.ofInt 64 (2 ^ m - 1)).toNat = (a % 18446744073709551616).toNat % 2 ^ m := by
    rw [BitVec.toNat_and, h2, Nat.and_two_pow_sub_one_eq_mod, BitVec.toNat_ofInt]
    rfl
  have h4 := Nat.mod_lt (a % 18446744073709551616).toNat (show 2 ^ m > 0 by omega)
  rw [BitVec.toInt_eq_toNat_of_lt (by rw [h3]; omega), h3]
  have h5 : 0 ≤ a % 18446744073709551616 := by omega
  rw [Int.natCast_emod, Int.toNat_of_nonneg h5]
  have h6 : ((2 ^ m : Nat) : Int) = 2 ^ m := by simp
  rw [h6]
  exact Int.emod_emod_of_dvd a ⟨2 ^ (64 - m), by rw [← Int.pow_add, show m + (64 - m) = 64 by omega]; rfl⟩
theorem or_join {a b : Int} (j : Nat) (ha : 0 ≤ a) (hb : 0 ≤ b) (hj : b < 2 ^ j) (hs : a * 2 ^ j + b < 9223372036854775808) : bits .or .i64 (a * 2 ^ j) b = a * 2 ^ j + b := by
  obtain ⟨x, rfl⟩ : ∃ x : Nat, a = x := ⟨a.toNat, by omega⟩
  obtain ⟨y, rfl⟩ : ∃ y : Nat, b = y := ⟨b.toNat, by omega⟩
  have e1 : ((x : Int) * 2 ^ j) = ((x * 2 ^ j : Nat) : Int) := by simp
  have hy : y < 2 ^ j := by
    have : ((y : Nat) : Int) < ((2 ^ j : Nat) : Int) := by simpa using hj
    exact_mod_cast this
  rw [e1] at hs ⊢
  rw [bits_or]
  have n1 : (BitVec.ofInt 64 ((x * 2 ^ j : Nat) : Int)).toNat = x * 2 ^ j := by rw [BitVec.toNat_ofInt]; omega
  have n2 : (BitVec.ofInt 64 (y : Int)).toNat = y := by rw [BitVec.toNat_ofInt]; omega
  have n3 : (BitVec.ofInt 64 ((x * 2 ^ j : Nat) : Int) ||| BitVec.ofInt 64 (y : Int)).toNat = x * 2 ^ j + y := by
    rw [BitVec.toNat_or, n1, n2]
    have := Nat.shiftLeft_add_eq_or_of_lt hy x
    rw [Nat.shiftLeft_eq] at this
    exact this.symm
  rw [BitVec.toInt_eq_toNat_of_lt (by rw [n3]; omega), n3]
  omega
/-- The m greatest of a word's n lowest bytes, in place. -/
def topB (s : Int) (n m : Nat) : Int := (s / 2 ^ (8 * (n - m))) % 2 ^ (8 * m) * 2 ^ (8 * (n - m))
theorem shr_at (s : Int) {k : Nat} (h : k ≤ 63) : secShr s (k : Int) = s / 2 ^ k := by
  unfold secShr
  have : (shiftOf (k : Int)).toNat = k := by unfold shiftOf; omega
  rw [this, Nat.min_eq_left (by omega)]
theorem digI_eq {s : Int} {n k : Nat} (hk : k < n) (hn : n ≤ 8) : digI s n k = s / 2 ^ (8 * (n - 1 - k)) % 256 := by
  unfold digI
  rw [show (8 * ((n : Int) - 1 - k)) = ((8 * (n - 1 - k) : Nat) : Int) by omega, shr_at _ (by omega)]
  exact and_low _ 8 (by omega)
theorem top_step (s : Int) {n m : Nat} (hn : n ≤ 7) (hm : m < n) : bits .or .i64 (topB s n m) (s / 2 ^ (8 * (n - 1 - m)) % 256 * 2 ^ (8 * (n - 1 - m))) = topB s n (m + 1) := by
  unfold topB
  have hb : 0 ≤ s / 2 ^ (8 * (n - 1 - m)) % 256 := by omega
  have hb2 : s / 2 ^ (8 * (n - 1 - m)) % 256 ≤ 255 := by omega
  have hcase : (n = 1 ∧ m = 0) ∨ (n = 2 ∧ m ≤ 1) ∨ (n = 3 ∧ m ≤ 2) ∨ (n = 4 ∧ m ≤ 3) ∨ (n = 5 ∧ m ≤ 4) ∨ (n = 6 ∧ m ≤ 5) ∨ (n = 7 ∧ m ≤ 6) := by omega
  have hj := @or_join ((s / 2 ^ (8 * (n - m))) % 2 ^ (8 * m)) (s / 2 ^ (8 * (n - 1 - m)) % 256 * 2 ^ (8 * (n - 1 - m))) (8 * (n - m))
  have hm7 : m = 0 ∨ m = 1 ∨ m = 2 ∨ m = 3 ∨ m = 4 ∨ m = 5 ∨ m = 6 := by omega
  rcases hcase with ⟨rfl, h⟩ | ⟨rfl, h⟩ | ⟨rfl, h⟩ | ⟨rfl, h⟩ | ⟨rfl, h⟩ | ⟨rfl, h⟩ | ⟨rfl, h⟩ <;> rcases hm7 with rfl | rfl | rfl | rfl | rfl | rfl | rfl <;> first
    | (exfalso; omega)
    | (clear h hm hn; simp only [Nat.reduceSub, Nat.reduceMul, Nat.reduceAdd, Int.reducePow, Nat.sub_zero, Int.pow_zero, Nat.mul_zero] at hj hb hb2 ⊢; rw [hj (by omega) (by omega) (by omega) (by omega)]; omega)
theorem put_zero {p : Int} (hp : I64 p) (s : Int) {n i k : Nat} (hn : k ≤ 8) (hi : i ≤ 100000) : putW p s 0 n i k = if p ≤ i ∧ i < p + k then digI s n (i - p).toNat else 0 := by
  induction k with
  | zero => rw [if_neg (by omega)]; rfl
  | succ k ih =>
    have hik : I64 ((i : Int) - k) := by unfold I64; omega
    simp only [putW]
    rw [secEqual_eq hp hik, and_mask _ (digI_I64 _ _ _), ih (by omega)]
    by_cases h : p = (i : Int) - k
    · simp only [h, decide_true, if_true]
      rw [if_neg (by omega), if_pos (by omega), zero_or (digI_I64 _ _ _), show ((i : Int) - (i - k)).toNat = k by omega]
    · simp only [h, decide_false, Bool.false_eq_true, if_false]
      have hq : I64 (if p ≤ i ∧ i < p + k then digI s n (i - p).toNat else 0) := by
        split
        · exact digI_I64 _ _ _
        · unfold I64; omega
      rw [or_zero hq]
      by_cases h2 : p ≤ i ∧ i < p + k
      · rw [if_pos h2, if_pos (by omega)]
      · rw [if_neg h2, if_neg (by omega)]
theorem shl_byte {w : Int} (hw : 0 ≤ w ∧ w ≤ 255) {j : Nat} (hj : j ≤ 48) : secShl w (j : Int) = w * 2 ^ j := by
  unfold secShl
  have : (shiftOf (j : Int)).toNat = j := by unfold shiftOf; omega
  rw [this, Nat.min_eq_left (by omega)]
  apply wrap64_eq
  have h1 : (2 : Int) ^ j ≤ 2 ^ 48 := by
    have := Nat.pow_le_pow_right (show 2 > 0 by omega) hj
    have h2 : ((2 ^ j : Nat) : Int) ≤ ((2 ^ 48 : Nat) : Int) := by exact_mod_cast this
    simpa using h2
  have h0 : (0 : Int) ≤ 2 ^ j := Int.le_of_lt (Int.pow_pos (by omega))
  have h3 : w * 2 ^ j ≤ 255 * 2 ^ 48 := Int.mul_le_mul hw.2 h1 h0 (by omega)
  have h4 : 0 ≤ w * 2 ^ j := Int.mul_nonneg hw.1 h0
  unfold I64; omega
theorem shl_zero (j : Int) : secShl 0 j = 0 := by unfold secShl; rw [Int.zero_mul]; exact wrap64_eq (by unfold I64; omega)
theorem take_byte {p w o : Int} (hp : I64 p) (hw : 0 ≤ w ∧ w ≤ 255) (ho : I64 o) {n i k : Nat} (hk : k ≤ n) (hn : n ≤ 7) (hi : i ≤ 100000) :
    takeW p w o n i k = if p ≤ i ∧ i < p + k then bits .or .i64 o (w * 2 ^ (8 * (n - 1 - (i - p).toNat))) else o := by
  have hd : digI w 1 0 = w := by rw [digI_eq (by omega) (by omega)]; simp; omega
  have hwI : I64 w := by unfold I64; omega
  induction k with
  | zero => rw [if_neg (by omega)]; rfl
  | succ k ih =>
    have hik : I64 ((i : Int) - k) := by unfold I64; omega
    simp only [takeW]
    rw [secEqual_eq hp hik, hd, and_mask _ hwI, ih (by omega)]
    by_cases h : p = (i : Int) - k
    · simp only [h, decide_true, if_true]
      rw [if_neg (by omega), if_pos (by omega), show ((i : Int) - (i - k)).toNat = k by omega, show (8 * ((n : Int) - 1 - k)) = ((8 * (n - 1 - k) : Nat) : Int) by omega, shl_byte hw (by omega)]
    · simp only [h, decide_false, Bool.false_eq_true, if_false]
      rw [shl_zero]
      by_cases h2 : p ≤ i ∧ i < p + k
      · rw [if_pos h2, if_pos (by omega), or_zero (bits_or_I64 _ _)]
      · rw [if_neg h2, if_neg (by omega), or_zero ho]
theorem putL_get (L : List Int) (p s : Int) (n A k j : Nat) (h : A ≤ j) (h2 : j < A + k) (h3 : j < L.length) : (putL L p s n A k)[j]? = some (putW p s (L.getD j 0) n j n) := by
  induction k with
  | zero => omega
  | succ k ih =>
    simp only [putL]
    by_cases e : j = A + k
    · subst e
      rw [List.getElem?_set_self (by rw [putL_len]; exact h3)]
    · rw [List.getElem?_set_ne (by omega)]
      exact ih (by omega)
theorem take_put {p : Nat} (s : Int) {n N : Nat} (hn : n ≤ 7) (hp : p + n ≤ N) (hN : N ≤ 1000) {k : Nat} (hk : k ≤ N) : takeO (putL (List.replicate N 0) p s n 0 N) p n 0 k = topB s n (min (k - p) n) := by
  have hpI : I64 (p : Int) := by unfold I64; omega
  induction k with
  | zero => rw [Nat.zero_sub, Nat.zero_min]; simp [takeO, topB]
  | succ k ih =>
    have hg : (putL (List.replicate N 0) p s n 0 N).getD (0 + k) 0 = if (p : Int) ≤ k ∧ (k : Int) < p + n then digI s n ((k : Int) - p).toNat else 0 := by
      unfold List.getD
      rw [putL_get _ _ _ _ _ _ _ (Nat.zero_le _) (by omega) (by simp; omega)]
      have h0 : (List.replicate N (0 : Int)).getD (0 + k) 0 = 0 := by unfold List.getD; rw [List.getElem?_replicate]; split <;> rfl
      rw [h0, put_zero hpI s (by omega) (by omega)]
      simp
    simp only [takeO]
    rw [hg, ih (by omega), Nat.zero_add]
    have hT : I64 (topB s n (min (k - p) n)) := by rw [← ih (by omega)]; exact takeO_I64 _ _ _ _ _
    by_cases h : (p : Int) ≤ k ∧ (k : Int) < p + n
    · obtain ⟨m, rfl⟩ : ∃ m, k = p + m := ⟨k - p, by omega⟩
      have hm : m < n := by omega
      rw [if_pos h, show (((p + m : Nat) : Int) - p).toNat = m by omega, digI_eq hm (by omega), take_byte hpI (by omega) hT (Nat.le_refl n) hn (by omega), if_pos h, show (((p + m : Nat) : Int) - p).toNat = m by omega]
      rw [show min (p + m - p) n = m by omega, show min (p + m + 1 - p) n = m + 1 by omega]
      exact top_step s hn hm
    · rw [if_neg h, take_byte hpI (by omega) hT (Nat.le_refl n) hn (by omega), if_neg h]
      congr 1
      omega
theorem take_all {p : Nat} (s : Int) {n : Nat} (hn : n ≤ 7) (hp : p < 50) : takeO (putL (List.replicate 60 0) p s n 0 60) p n 0 60 = bits .and .i64 s (2 ^ (8 * n) - 1) := by
  rw [take_put s hn (by omega) (by omega) (Nat.le_refl _), show min (60 - p) n = n by omega, and_low _ _ (by omega)]
  unfold topB
  rw [Nat.sub_self, Nat.mul_zero, Int.pow_zero, Int.ediv_one, Int.mul_one]
end Go.Proofs.Ytbdnnkokkgdhnaa
