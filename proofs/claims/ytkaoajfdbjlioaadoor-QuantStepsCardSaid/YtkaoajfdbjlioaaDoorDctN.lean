/- What the frequencies of a block of bytes come to: plain integers. -/
import Derived.Test.YtkaoajfdbjlioaaDoorDctM
namespace Go.Proofs.YtkaoajfdbjlioaaDoor

def wI (F : Nat → Nat → Int) (i k : Nat) : Int := F (i % 8) (k % 8) * F (i / 8) (k / 8)
theorem def_w (F : Nat → Nat → Int) (lo hi : Int) (b : Nat → Int) (i : Nat) (h : ∀ k, k < 64 → lo ≤ b k ∧ b k ≤ hi) : defI F lo hi b i = sumTo 64 fun k => b k * wI F i k :=
  sumTo_congr 64 fun k hk => by rw [clip_id (h k hk).1 (h k hk).2, wI, Int.mul_assoc]
def byteB (b : Nat → Int) : Prop := ∀ k, k < 64 → -128 ≤ b k ∧ b k ≤ 127
theorem fwd_w {b : Nat → Int} (hb : byteB b) (i : Nat) : fwdI b i = rnd (sumTo 64 fun k => b k * wI facN i k) := by
  unfold fwdI
  rw [def_w _ _ _ _ _ fun k hk => ⟨by have := (hb k hk).1; omega, by have := (hb k hk).2; omega⟩]
def absI (n : Int) : Int := if n < 0 then -n else n
theorem abs_bd (n : Int) : -(absI n) ≤ n ∧ n ≤ absI n := by unfold absI; split <;> omega
theorem abs_nn (n : Int) : 0 ≤ absI n := by unfold absI; split <;> omega
theorem abs_mul (a b : Int) : absI (a * b) = absI a * absI b := by
  have h1 : ∀ n, absI n = (n.natAbs : Int) := fun n => by unfold absI; split <;> omega
  rw [h1, h1, h1, Int.natAbs_mul]; rfl
/-- The sum of the weights, and of their amounts. -/
def cI (i : Nat) : Int := sumTo 64 fun k => wI facN i k
def lI (i : Nat) : Int := sumTo 64 fun k => absI (wI facN i k)
theorem c_all : ∀ i, i < 64 → i ≠ 0 → cI i = 0 := by decide +kernel
theorem l_all : ∀ i, i < 64 → lI i ≤ 8796112000000 := by decide +kernel
theorem w_0 (k : Nat) (hk : k < 64) : wI facN 0 k = 137439249984 := by
  have h : ∀ k, k < 64 → wI facN 0 k = 137439249984 := by decide +kernel
  exact h k hk
theorem sum_0 (b : Nat → Int) : (sumTo 64 fun k => b k * wI facN 0 k) = sumTo 64 b * 137439249984 := by
  rw [← sumTo_mul']
  exact sumTo_congr 64 fun k hk => by rw [w_0 k hk]
theorem sum_in {b : Nat → Int} (hb : byteB b) : -8192 ≤ sumTo 64 b ∧ sumTo 64 b ≤ 8128 := by
  have h1 := sumTo_cbd (c := 255) 64 (f := fun k => 2 * b k + 1) fun k hk => by have := hb k hk; omega
  rw [sumTo_add, sumTo_mul, show sumTo 64 (fun _ => 1) = 64 from rfl] at h1
  omega
theorem fwd_0 {b : Nat → Int} (hb : byteB b) : fwdI b 0 = rnd (sumTo 64 b * 137439249984) := by rw [fwd_w hb, sum_0]
theorem fwd_in {b : Nat → Int} (hb : byteB b) (i : Nat) (hi : i < 64) : -1024 ≤ fwdI b i ∧ fwdI b i ≤ 1023 ∧ (i ≠ 0 → -1023 ≤ fwdI b i) := by
  by_cases h0 : i = 0
  · subst h0
    rw [fwd_0 hb]
    have h := sum_in hb
    generalize sumTo 64 b = n at h
    unfold rnd
    split <;> exact ⟨by omega, by omega, fun h => absurd rfl h⟩
  · have h1 := sumTo_bd (f := fun k => (2 * b k + 1) * wI facN i k) (g := fun k => 255 * absI (wI facN i k)) 64 fun k hk => mul_bd (A := 255) (by have := hb k hk; omega) (abs_bd _)
    rw [sumTo_mul] at h1
    have h2 : (sumTo 64 fun k => (2 * b k + 1) * wI facN i k) = 2 * (sumTo 64 fun k => b k * wI facN i k) + cI i := by
      rw [← sumTo_mul, cI, ← sumTo_add]
      exact sumTo_congr 64 fun k _ => by rw [Int.add_mul, Int.one_mul, Int.mul_assoc]
    rw [h2, c_all i hi h0] at h1
    have h3 := l_all i hi
    unfold lI at h3
    rw [fwd_w hb]
    generalize (sumTo 64 fun k => b k * wI facN i k) = s at *
    generalize (sumTo 64 fun k => absI (wI facN i k)) = l at *
    unfold rnd
    split <;> exact ⟨by omega, by omega, fun _ => by omega⟩
/-! there and back -/
def gI (a b : Nat) : Int := sumTo 8 fun u => facN u a * facN u b
def mI (j i : Nat) : Int := gI (j % 8) (i % 8) * gI (j / 8) (i / 8)
theorem dbl (g : Nat → Int) : sumTo 64 g = sumTo 8 fun r => sumTo 8 fun c => g (8 * r + c) := sumTo_block g 8
theorem m_eq (j i : Nat) : (sumTo 64 fun k => wI facN k j * wI facN k i) = mI j i := by
  rw [dbl]
  unfold mI gI
  rw [← sumTo_mul]
  refine sumTo_congr 8 fun r hr => ?_
  rw [← sumTo_mul']
  refine sumTo_congr 8 fun c hc => ?_
  unfold wI
  rw [show (8 * r + c) % 8 = c by omega, show (8 * r + c) / 8 = r by omega]
  simp only [Int.mul_assoc, Int.mul_comm, Int.mul_left_comm]
def two80 : Int := 1208925819614629174706176
def dI (j i : Nat) : Int := mI j i - if j = i then two80 else 0
def aI (i : Nat) : Int := sumTo 64 fun j => absI (dI j i)
def tI (i : Nat) : Int := sumTo 64 fun k => absI (wI facN k i)
theorem a_all : ∀ i, i < 64 → aI i ≤ 300000000000000000000 := by decide +kernel
theorem t_all : ∀ i, i < 64 → tI i ≤ 7700000000000 := by decide +kernel
theorem sum_pick (b : Nat → Int) (i : Nat) (c : Int) : ∀ n, sumTo n (fun j => b j * if j = i then c else 0) = if i < n then b i * c else 0
  | 0 => by rw [if_neg (by omega)]; rfl
  | n + 1 => by
    rw [sumTo, sum_pick b i c n]
    by_cases h : n = i
    · subst h; rw [if_neg (by omega), if_pos rfl, if_pos (by omega)]; omega
    · rw [if_neg h]
      by_cases h2 : i < n
      · rw [if_pos h2, if_pos (by omega)]; omega
      · rw [if_neg h2, if_neg (by omega)]; omega
theorem near_all {b : Nat → Int} (hb : byteB b) (i : Nat) (hi : i < 64) : -4 ≤ bwdI (fwdI b) i - b i ∧ bwdI (fwdI b) i - b i ≤ 4 := by
  have hf : ∀ k, k < 64 → -32768 ≤ fwdI b k ∧ fwdI b k ≤ 32767 := fun k hk => by have := fwd_in hb k hk; omega
  have e1 : defI facT (-32768) 32767 (fwdI b) i = sumTo 64 fun k => fwdI b k * wI facN k i := by
    rw [def_w _ _ _ _ _ hf]
    exact sumTo_congr 64 fun k _ => by unfold wI facT; rfl
  have hz := rnd_near (defI facT (-32768) 32767 (fwdI b) i)
  rw [e1] at hz
  have hzz : bwdI (fwdI b) i = rnd (sumTo 64 fun k => fwdI b k * wI facN k i) := by rw [bwdI, e1]
  rw [hzz]
  -- the rounded frequencies
  have e2 : 1099511627776 * (sumTo 64 fun k => fwdI b k * wI facN k i) = (sumTo 64 fun k => (sumTo 64 fun j => b j * wI facN k j) * wI facN k i) + sumTo 64 fun k => (1099511627776 * fwdI b k - sumTo 64 fun j => b j * wI facN k j) * wI facN k i := by
    rw [← sumTo_mul, ← sumTo_add]
    exact sumTo_congr 64 fun k _ => by rw [← Int.add_mul, show (sumTo 64 fun j => b j * wI facN k j) + (1099511627776 * fwdI b k - sumTo 64 fun j => b j * wI facN k j) = 1099511627776 * fwdI b k by omega, Int.mul_assoc]
  have e3 := sumTo_bd (f := fun k => (1099511627776 * fwdI b k - sumTo 64 fun j => b j * wI facN k j) * wI facN k i) (g := fun k => 549755813888 * absI (wI facN k i)) 64 fun k _ => by
    refine mul_bd (A := 549755813888) ?_ (abs_bd _)
    rw [fwd_w hb]
    exact rnd_near _
  rw [sumTo_mul] at e3
  have e4 : (sumTo 64 fun k => (sumTo 64 fun j => b j * wI facN k j) * wI facN k i) = sumTo 64 fun j => b j * mI j i := by
    have : (sumTo 64 fun k => (sumTo 64 fun j => b j * wI facN k j) * wI facN k i) = sumTo 64 fun k => sumTo 64 fun j => b j * (wI facN k j * wI facN k i) :=
      sumTo_congr 64 fun k _ => by rw [← sumTo_mul']; exact sumTo_congr 64 fun j _ => Int.mul_assoc _ _ _
    rw [this, sumTo_swap]
    exact sumTo_congr 64 fun j _ => by rw [sumTo_mul, m_eq]
  have e5 : (sumTo 64 fun j => b j * mI j i) = b i * two80 + sumTo 64 fun j => b j * dI j i := by
    have := sum_pick b i two80 64
    rw [if_pos hi] at this
    rw [← this, ← sumTo_add]
    exact sumTo_congr 64 fun j _ => by rw [← Int.mul_add, show (if j = i then two80 else 0) + dI j i = mI j i by unfold dI; omega]
  have e6 := sumTo_bd (f := fun j => b j * dI j i) (g := fun j => 128 * absI (dI j i)) 64 fun j hj => mul_bd (A := 128) (by have := hb j hj; omega) (abs_bd _)
  rw [sumTo_mul] at e6
  have a1 := a_all i hi
  have t1 := t_all i hi
  unfold aI at a1
  unfold tI at t1
  rw [e4, e5] at e2
  generalize (sumTo 64 fun k => fwdI b k * wI facN k i) = T at *
  generalize (sumTo 64 fun k => (1099511627776 * fwdI b k - sumTo 64 fun j => b j * wI facN k j) * wI facN k i) = R at *
  generalize (sumTo 64 fun j => b j * dI j i) = D at *
  generalize (sumTo 64 fun k => absI (wI facN k i)) = L at *
  generalize (sumTo 64 fun j => absI (dI j i)) = A at *
  clear e1 e4 e5 hzz
  generalize rnd T = z at *
  generalize b i = v at *
  rw [show two80 = 1208925819614629174706176 from rfl] at e2
  omega
/-! turned -/
theorem clip_neg (c n : Int) : clipI (-c) c (-n) = -clipI (-c) c n ∨ c < 0 := by
  unfold clipI; repeat' split
  all_goals omega
theorem fwd_neg (b : Nat → Int) (i : Nat) : fwdI (fun k => -b k) i = -fwdI b i := by
  unfold fwdI
  rw [← rnd_neg]
  congr 1
  unfold defI
  have : -(sumTo 64 fun k => clipI (-4096) 4096 (b k) * facN (i % 8) (k % 8) * facN (i / 8) (k / 8)) = (-1) * sumTo 64 fun k => clipI (-4096) 4096 (b k) * facN (i % 8) (k % 8) * facN (i / 8) (k / 8) := by omega
  rw [this, ← sumTo_mul]
  refine sumTo_congr 64 fun k _ => ?_
  have h : clipI (-4096) 4096 (-b k) = -clipI (-4096) 4096 (b k) := (clip_neg 4096 (b k)).resolve_right (by omega)
  rw [h, Int.neg_mul, Int.neg_mul, Int.neg_mul, Int.one_mul]
theorem fwd_turn (b : Nat → Int) (i : Nat) (hi : i < 64) : fwdI (fun k => b (k % 8 * 8 + k / 8)) (i % 8 * 8 + i / 8) = fwdI b i := by
  unfold fwdI defI
  congr 1
  rw [dbl, dbl, sumTo_swap]
  refine sumTo_congr 8 fun r hr => sumTo_congr 8 fun c hc => ?_
  dsimp only
  rw [show (8 * c + r) % 8 = r by omega, show (8 * c + r) / 8 = c by omega, show (8 * r + c) % 8 = c by omega, show (8 * r + c) / 8 = r by omega, show (i % 8 * 8 + i / 8) % 8 = i / 8 by omega, show (i % 8 * 8 + i / 8) / 8 = i % 8 by omega, show r * 8 + c = 8 * r + c by omega]
  rw [Int.mul_assoc, Int.mul_assoc, Int.mul_comm (facN (i / 8) r)]
/-! sums -/
theorem fwd_more {b : Nat → Int} (hb : byteB b) (m : Int) (hm : 0 ≤ m ∧ m ≤ 255) (i : Nat) (hi : i < 64) :
    (i ≠ 0 → fwdI (fun k => b k + m) i = fwdI b i) ∧ (i = 0 → fwdI b i ≤ fwdI (fun k => b k + m) i) := by
  have e : fwdI (fun k => b k + m) i = rnd ((sumTo 64 fun k => b k * wI facN i k) + m * cI i) := by
    unfold fwdI
    rw [def_w _ _ _ _ _ fun k hk => ⟨by have := (hb k hk).1; omega, by have := (hb k hk).2; omega⟩, cI, ← sumTo_mul, ← sumTo_add]
    congr 1
    exact sumTo_congr 64 fun k _ => Int.add_mul _ _ _
  refine ⟨fun h => ?_, fun h => ?_⟩
  · rw [e, c_all i hi h, Int.mul_zero, Int.add_zero, fwd_w hb]
  · rw [e, fwd_w hb]
    subst h
    have h0 : cI 0 = 8796111998976 := by decide +kernel
    rw [h0]
    generalize (sumTo 64 fun k => b k * wI facN 0 k) = s
    unfold rnd
    repeat' split
    all_goals omega
theorem fwd_sum {b : Nat → Int} (hb : byteB b) : -5 ≤ 8 * fwdI b 0 - sumTo 64 b ∧ 8 * fwdI b 0 - sumTo 64 b ≤ 5 := by
  rw [fwd_0 hb]
  have h := sum_in hb
  generalize sumTo 64 b = n at *
  unfold rnd
  split <;> omega
end Go.Proofs.YtkaoajfdbjlioaaDoor
