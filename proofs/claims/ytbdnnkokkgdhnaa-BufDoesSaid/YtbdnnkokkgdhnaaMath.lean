/- Numbers of 64 bits: what the bitwise ways of package sec come to. -/
import Derived.WalkKit
namespace Go.Proofs.Ytbdnnkokkgdhnaa
open Go.RowKit

def I64 (x : Int) : Prop := -9223372036854775808 ≤ x ∧ x ≤ 9223372036854775807

theorem wrap64_bmod (n : Int) : wrap64 n = n.bmod (2 ^ 64) := by
  unfold wrap64
  rw [Int.bmod_def]
  split <;> omega
theorem wrap64_I64 (n : Int) : I64 (wrap64 n) := by unfold wrap64 I64; omega
theorem wrap64_eq {n : Int} (h : I64 n) : wrap64 n = n := by unfold I64 at h; unfold wrap64; omega
theorem i64_wrap (n : Int) : IntKind.i64.wrap n = wrap64 n := IntWalk.i64_left n
theorem toInt_I64 (x : BitVec 64) : I64 x.toInt := by
  have h1 := BitVec.toInt_lt (x := x)
  have h2 := BitVec.le_toInt (x := x)
  simp at h1 h2
  unfold I64; omega
theorem ofInt_toInt {a : Int} (h : I64 a) : (BitVec.ofInt 64 a).toInt = a := by
  unfold I64 at h
  rw [BitVec.toInt_ofInt]
  exact Int.bmod_eq_of_le (by omega) (by omega)
theorem toInt_ofInt_wrap (a : Int) : (BitVec.ofInt 64 a).toInt = wrap64 a := by
  rw [BitVec.toInt_ofInt, wrap64_bmod]
theorem msb_ofInt {a : Int} (h : I64 a) : (BitVec.ofInt 64 a).msb = decide (a < 0) := by
  rw [BitVec.msb_eq_toInt, ofInt_toInt h]
theorem wrap_toNat (x : BitVec 64) : IntKind.i64.wrap (x.toNat : Int) = x.toInt := by
  rw [i64_wrap, wrap64_bmod, BitVec.toInt_eq_toNat_bmod]
theorem bits_and (a b : Int) : bits .and .i64 a b = (BitVec.ofInt 64 a &&& BitVec.ofInt 64 b).toInt := wrap_toNat _
theorem bits_or (a b : Int) : bits .or .i64 a b = (BitVec.ofInt 64 a ||| BitVec.ofInt 64 b).toInt := wrap_toNat _
theorem bits_xor (a b : Int) : bits .xor .i64 a b = (BitVec.ofInt 64 a ^^^ BitVec.ofInt 64 b).toInt := wrap_toNat _
theorem bits_and_I64 (a b : Int) : I64 (bits .and .i64 a b) := by rw [bits_and]; exact toInt_I64 _
theorem bits_or_I64 (a b : Int) : I64 (bits .or .i64 a b) := by rw [bits_or]; exact toInt_I64 _
theorem bits_xor_I64 (a b : Int) : I64 (bits .xor .i64 a b) := by rw [bits_xor]; exact toInt_I64 _
theorem div63 (x : BitVec 64) : x.toInt / 9223372036854775808 = if x.msb then -1 else 0 := by
  have h := BitVec.msb_eq_toInt (x := x)
  have h1 := toInt_I64 x
  unfold I64 at h1
  rw [h]
  simp only [decide_eq_true_eq]
  split <;> omega
theorem allOnes_eq : BitVec.ofInt 64 (-1) = BitVec.allOnes 64 := by decide
theorem ofInt_sub_one (a : Int) : BitVec.ofInt 64 (-1 - a) = ~~~ BitVec.ofInt 64 a := by
  rw [show (-1 - a : Int) = -1 + -a by omega, BitVec.ofInt_add, allOnes_eq, BitVec.ofInt_neg]
  rw [BitVec.not_eq_neg_add, BitVec.sub_eq_add_neg, BitVec.add_comm]
  congr 1
theorem bits_not {a : Int} (h : I64 a) : bits .xor .i64 (-1) a = -1 - a := by
  rw [bits_xor, allOnes_eq, BitVec.allOnes_xor, ← ofInt_sub_one, ofInt_toInt]
  unfold I64 at *; omega
theorem bits_xor_zero {b : Int} (h : I64 b) : bits .xor .i64 b 0 = b := by
  rw [bits_xor, show BitVec.ofInt 64 0 = 0#64 from rfl, BitVec.xor_zero, ofInt_toInt h]

/-- a mask -/
def mask (b : Bool) : Int := if b then -1 else 0
theorem mask_I64 (b : Bool) : I64 (mask b) := by unfold mask I64; split <;> omega
theorem mask_true : mask true = -1 := rfl
theorem mask_false : mask false = 0 := rfl

theorem less_core {a b : Int} (ha : I64 a) (hb : I64 b) :
    bits .xor .i64 (wrap64 (a - b)) (bits .and .i64 (bits .xor .i64 a b) (bits .xor .i64 (wrap64 (a - b)) a)) / 9223372036854775808 = mask (decide (a < b)) := by
  have hd := wrap64_I64 (a - b)
  rw [bits_xor, div63, bits_and, bits_xor, bits_xor, BitVec.ofInt_toInt, BitVec.ofInt_toInt, BitVec.ofInt_toInt]
  rw [BitVec.msb_xor, BitVec.msb_and, BitVec.msb_xor, BitVec.msb_xor, msb_ofInt ha, msb_ofInt hb, msb_ofInt hd]
  unfold mask
  congr 1
  simp only [eq_iff_iff]
  by_cases h1 : a < 0 <;> by_cases h2 : b < 0 <;> by_cases h3 : wrap64 (a - b) < 0 <;> simp only [h1, h2, h3, decide_true, decide_false, Bool.xor_false, Bool.xor_true, Bool.not_false, Bool.and_true, Bool.and_false, Bool.false_eq_true, decide_eq_true_eq, true_iff, false_iff, bne_self_eq_false] <;> unfold I64 at ha hb <;> unfold wrap64 at h3 <;> omega
theorem equal_core {a b : Int} (ha : I64 a) (hb : I64 b) :
    bits .xor .i64 (-1) (bits .or .i64 (bits .xor .i64 a b) (wrap64 (-bits .xor .i64 a b))) / 9223372036854775808 = mask (decide (a = b)) := by
  have hx := bits_xor_I64 a b
  have hz : bits .xor .i64 a b = 0 ↔ a = b := by
    rw [bits_xor]
    constructor
    · intro h
      have h0 : BitVec.ofInt 64 a ^^^ BitVec.ofInt 64 b = 0#64 := BitVec.eq_of_toInt_eq (by rw [h]; rfl)
      have h1 : BitVec.ofInt 64 a = BitVec.ofInt 64 b := BitVec.xor_eq_zero_iff.1 h0
      have := congrArg BitVec.toInt h1
      rwa [ofInt_toInt ha, ofInt_toInt hb] at this
    · rintro rfl; simp
  generalize bits .xor .i64 a b = x at *
  have hn := wrap64_I64 (-x)
  rw [bits_xor, div63, allOnes_eq, BitVec.allOnes_xor, bits_or, BitVec.ofInt_toInt, BitVec.msb_not, BitVec.msb_or, msb_ofInt hx, msb_ofInt hn]
  unfold mask
  congr 1
  simp only [eq_iff_iff, decide_eq_true_eq, ← hz, Bool.and_eq_true, Bool.not_eq_true', Bool.or_eq_false_iff, decide_eq_false_iff_not]
  unfold I64 at hx
  constructor
  · rintro ⟨_, h1, h2⟩
    unfold wrap64 at h2
    omega
  · rintro rfl
    exact ⟨by decide, by decide, by unfold wrap64; decide⟩
theorem sign_core {a : Int} (ha : I64 a) : a / 9223372036854775808 = mask (decide (a < 0)) := by
  unfold mask; unfold I64 at ha; simp only [decide_eq_true_eq]; split <;> omega
theorem select_mask {p : Bool} {a b : Int} (ha : I64 a) (hb : I64 b) :
    bits .xor .i64 b (bits .and .i64 (mask p) (bits .xor .i64 a b)) = if p then a else b := by
  rw [bits_xor b, bits_and, bits_xor, BitVec.ofInt_toInt, BitVec.ofInt_toInt]
  cases p
  · simp only [mask_false, Bool.false_eq_true, if_false]
    rw [show BitVec.ofInt 64 0 = 0#64 from rfl, BitVec.zero_and, BitVec.xor_zero, ofInt_toInt hb]
  · simp only [mask_true, if_true]
    rw [allOnes_eq, BitVec.allOnes_and, BitVec.xor_comm (BitVec.ofInt 64 a), ← BitVec.xor_assoc, BitVec.xor_self, BitVec.zero_xor, ofInt_toInt ha]
theorem select_core (m a b : Int) :
    bits .xor .i64 b (bits .and .i64 m (bits .xor .i64 a b)) = bits .or .i64 (bits .and .i64 m a) (bits .and .i64 (wrap64 (-1 - m)) b) := by
  rw [bits_xor b, bits_and, bits_xor, BitVec.ofInt_toInt, BitVec.ofInt_toInt, bits_or, bits_and, bits_and, BitVec.ofInt_toInt, BitVec.ofInt_toInt]
  have hw : BitVec.ofInt 64 (wrap64 (-1 - m)) = ~~~ BitVec.ofInt 64 m := by
    rw [← ofInt_sub_one, ← toInt_ofInt_wrap, BitVec.ofInt_toInt]
  rw [hw]
  congr 1
  ext i hi
  simp only [BitVec.getElem_xor, BitVec.getElem_and, BitVec.getElem_or, BitVec.getElem_not]
  cases (BitVec.ofInt 64 m)[i] <;> cases (BitVec.ofInt 64 a)[i] <;> cases (BitVec.ofInt 64 b)[i] <;> rfl
/-- how far, in bounds -/
def shiftOf (n : Int) : Int := max 0 (min n 63)
theorem shiftOf_in (n : Int) : 0 ≤ shiftOf n ∧ shiftOf n ≤ 63 := by unfold shiftOf; omega

/-! What the functions of package sec compute, under names that the walk leaves alone. -/
def secNot (a : Int) : Int := bits .xor .i64 (-1) a
def secNeg (a : Int) : Int := wrap64 (-a)
def secSign (a : Int) : Int := a / 9223372036854775808
def secLess (a b : Int) : Int := secSign (bits .xor .i64 (wrap64 (a - b)) (bits .and .i64 (bits .xor .i64 a b) (bits .xor .i64 (wrap64 (a - b)) a)))
def secEqual (a b : Int) : Int := secSign (bits .xor .i64 (-1) (bits .or .i64 (bits .xor .i64 a b) (wrap64 (-bits .xor .i64 a b))))
def secSelect (m a b : Int) : Int := bits .xor .i64 b (bits .and .i64 m (bits .xor .i64 a b))
def secShl (a n : Int) : Int := wrap64 (a * 2 ^ min (shiftOf n).toNat 64)
def secShr (a n : Int) : Int := a / 2 ^ min (shiftOf n).toNat 64
def secClip (a low high : Int) : Int := secSelect (secLess a low) low (secSelect (secLess high a) high a)
def secAbs (a : Int) : Int := secSelect (secSign a) (secNeg a) a
theorem secNot_eq {a : Int} (h : I64 a) : secNot a = -1 - a := bits_not h
theorem secSign_eq {a : Int} (h : I64 a) : secSign a = mask (decide (a < 0)) := sign_core h
theorem secLess_eq {a b : Int} (ha : I64 a) (hb : I64 b) : secLess a b = mask (decide (a < b)) := less_core ha hb
theorem secEqual_eq {a b : Int} (ha : I64 a) (hb : I64 b) : secEqual a b = mask (decide (a = b)) := equal_core ha hb
theorem secSelect_mask {p : Bool} {a b : Int} (ha : I64 a) (hb : I64 b) : secSelect (mask p) a b = if p then a else b := select_mask ha hb
theorem secSelect_I64 (m a b : Int) : I64 (secSelect m a b) := bits_xor_I64 _ _
theorem secNeg_I64 (a : Int) : I64 (secNeg a) := wrap64_I64 _
theorem secShl_I64 (a n : Int) : I64 (secShl a n) := wrap64_I64 _
theorem shift_min (n : Int) : min (shiftOf n).toNat 64 = (shiftOf n).toNat := by have := shiftOf_in n; omega
theorem secShr_I64 {a : Int} (n : Int) (h : I64 a) : I64 (secShr a n) := by
  unfold secShr
  have hp : (1 : Int) ≤ 2 ^ min (shiftOf n).toNat 64 := Int.pow_pos (by decide)
  generalize (2 : Int) ^ min (shiftOf n).toNat 64 = p at hp
  unfold I64 at *
  constructor
  · rcases Int.lt_or_le a 0 with h0 | h0
    · have := Int.le_ediv_of_mul_le (a := -9223372036854775808) (b := a) (c := p) (by omega) (by
        have : -9223372036854775808 * p ≤ -9223372036854775808 * 1 := Int.mul_le_mul_of_nonpos_left (by decide) hp
        omega)
      exact this
    · have := Int.ediv_nonneg h0 (by omega : 0 ≤ p); omega
  · have : a / p ≤ 9223372036854775807 := Int.ediv_le_of_le_mul (by omega) (by
      have : 9223372036854775807 * 1 ≤ 9223372036854775807 * p := Int.mul_le_mul_of_nonneg_left hp (by decide)
      omega)
    exact this
theorem secClip_eq {a low high : Int} (ha : I64 a) (hl : I64 low) (hh : I64 high) : secClip a low high = if a < low then low else if high < a then high else a := by
  unfold secClip
  rw [secLess_eq ha hl, secLess_eq hh ha, secSelect_mask hl (secSelect_I64 _ _ _), secSelect_mask hh ha]
  simp only [decide_eq_true_eq]
theorem secAbs_eq {a : Int} (ha : I64 a) : secAbs a = if a < 0 then wrap64 (-a) else a := by
  unfold secAbs
  rw [secSign_eq ha, secSelect_mask (secNeg_I64 a) ha]
  simp only [decide_eq_true_eq, secNeg]
theorem select_min {a b : Int} (ha : I64 a) (hb : I64 b) : secSelect (secLess a b) a b = if b < a then b else a := by
  rw [secLess_eq ha hb, secSelect_mask ha hb]
  by_cases h : a < b
  · rw [if_pos (by simpa using h), if_neg (by omega)]
  · rw [if_neg (by simpa using h)]; split <;> omega
theorem select_max {a b : Int} (ha : I64 a) (hb : I64 b) : secSelect (secNot (secLess a b)) a b = if a < b then b else a := by
  rw [secLess_eq ha hb, secNot_eq (mask_I64 _), show -1 - mask (decide (a < b)) = mask (!decide (a < b)) by cases decide (a < b) <;> rfl, secSelect_mask ha hb]
  by_cases h : a < b
  · rw [if_neg (by simpa using h), if_pos h]
  · rw [if_pos (by simpa using h), if_neg h]
theorem xor_xor {a : Int} (b : Int) (ha : I64 a) : bits .xor .i64 (bits .xor .i64 a b) b = a := by
  rw [bits_xor, bits_xor, BitVec.ofInt_toInt, BitVec.xor_assoc, BitVec.xor_self, BitVec.xor_zero, ofInt_toInt ha]
theorem and_or_sum (x y : BitVec 64) : (x &&& y) + (x ||| y) = x + y := by
  have h1 : x = (x &&& y) + (x &&& ~~~ y) := by
    rw [BitVec.add_eq_or_of_and_eq_zero]
    · ext i hi; simp only [BitVec.getElem_or, BitVec.getElem_and, BitVec.getElem_not]; cases x[i] <;> cases y[i] <;> rfl
    · ext i hi; simp only [BitVec.getElem_and, BitVec.getElem_not, BitVec.getElem_zero]; cases x[i] <;> cases y[i] <;> rfl
  have h2 : x ||| y = (x &&& ~~~ y) + y := by
    rw [BitVec.add_eq_or_of_and_eq_zero]
    · ext i hi; simp only [BitVec.getElem_or, BitVec.getElem_and, BitVec.getElem_not]; cases x[i] <;> cases y[i] <;> rfl
    · ext i hi; simp only [BitVec.getElem_and, BitVec.getElem_not, BitVec.getElem_zero]; cases x[i] <;> cases y[i] <;> rfl
  rw [h2, ← BitVec.add_assoc, ← h1]
theorem bits_and_or (a b : Int) : wrap64 (bits .and .i64 a b + bits .or .i64 a b) = wrap64 (a + b) := by
  rw [bits_and, bits_or, wrap64_bmod, ← BitVec.toInt_add, and_or_sum, BitVec.toInt_add, toInt_ofInt_wrap, toInt_ofInt_wrap]
  simp only [wrap64_bmod, Int.add_bmod_bmod, Int.bmod_add_bmod]
theorem secNot_not {a : Int} (ha : I64 a) : secNot (secNot a) = a := by
  rw [secNot_eq ha, secNot_eq (by unfold I64 at *; omega)]; omega
theorem neg_add (a : Int) : wrap64 (secNeg a + a) = 0 := by unfold secNeg wrap64; omega
theorem signs {a b : Int} (ha : I64 a) (hb : I64 b) : ∃ L M E, secLess a b = L ∧ secLess b a = M ∧ secEqual a b = E ∧ ((L = -1 ∧ M = 0 ∧ E = 0) ∨ (L = 0 ∧ M = -1 ∧ E = 0) ∨ (L = 0 ∧ M = 0 ∧ E = -1)) := by
  refine ⟨_, _, _, rfl, rfl, rfl, ?_⟩
  rw [secLess_eq ha hb, secLess_eq hb ha, secEqual_eq ha hb]
  rcases Int.lt_trichotomy a b with h | h | h
  · left; rw [decide_eq_true h, decide_eq_false (by omega), decide_eq_false (by omega)]; exact ⟨rfl, rfl, rfl⟩
  · right; right; rw [decide_eq_true h, decide_eq_false (by omega), decide_eq_false (by omega)]; exact ⟨rfl, rfl, rfl⟩
  · right; left; rw [decide_eq_false (by omega), decide_eq_true h, decide_eq_false (by omega)]; exact ⟨rfl, rfl, rfl⟩
theorem mask_beq (a b : Int) : mask (decide (a = b)) = mask (a == b) := by
  by_cases h : a = b
  · subst h; simp
  · rw [decide_eq_false h, beq_eq_false_iff_ne.2 h]
theorem shr_I64 {a : Int} (n : Nat) (h : I64 a) : I64 (a / 2 ^ n) := by
  have hp : (1 : Int) ≤ 2 ^ n := Int.pow_pos (by decide)
  generalize (2 : Int) ^ n = p at hp
  unfold I64 at *
  constructor
  · rcases Int.lt_or_le a 0 with h0 | h0
    · exact Int.le_ediv_of_mul_le (a := -9223372036854775808) (b := a) (c := p) (by omega) (by
        have : -9223372036854775808 * p ≤ -9223372036854775808 * 1 := Int.mul_le_mul_of_nonpos_left (by decide) hp
        omega)
    · have := Int.ediv_nonneg h0 (by omega : 0 ≤ p); omega
  · exact Int.ediv_le_of_le_mul (by omega) (by
      have : 9223372036854775807 * 1 ≤ 9223372036854775807 * p := Int.mul_le_mul_of_nonneg_left hp (by decide)
      omega)
theorem shl_shr {n k : Int} (hn : -2147483648 ≤ n ∧ n ≤ 2147483647) (hk : 0 ≤ k ∧ k < 32) : secShr (secShl n k) k = n := by
  unfold secShr secShl
  rw [shift_min, show shiftOf k = k by unfold shiftOf; omega]
  obtain ⟨m, hm⟩ : ∃ m : Nat, m = k.toNat := ⟨_, rfl⟩
  rw [← hm]
  have hm2 : m ≤ 31 := by omega
  have hp : (1 : Int) ≤ 2 ^ m := Int.pow_pos (by decide)
  have hq : (2 : Int) ^ m ≤ 2147483648 := by
    have h := Int.ofNat_le.2 (Nat.pow_le_pow_right (n := 2) (by decide) hm2)
    simpa using h
  have hi : I64 (n * 2 ^ m) := by
    generalize (2 : Int) ^ m = p at hp hq
    have h1 : n * p ≤ 2147483647 * p := Int.mul_le_mul_of_nonneg_right hn.2 (by omega)
    have h2 : -2147483648 * p ≤ n * p := Int.mul_le_mul_of_nonneg_right hn.1 (by omega)
    unfold I64; omega
  rw [wrap64_eq hi, Int.mul_ediv_cancel _ (by omega)]
end Go.Proofs.Ytbdnnkokkgdhnaa
