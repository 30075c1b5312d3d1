/- Sums, and what the frequencies of a block come to: plain integers. -/
namespace Go.Proofs.YtkaoajfdbjlioaaDoor

def sumTo : Nat → (Nat → Int) → Int
  | 0, _ => 0
  | n + 1, f => sumTo n f + f n
theorem sumTo_congr {f g : Nat → Int} : ∀ n, (∀ k, k < n → f k = g k) → sumTo n f = sumTo n g
  | 0, _ => rfl
  | n + 1, h => by rw [sumTo, sumTo, sumTo_congr n (fun k hk => h k (by omega)), h n (by omega)]
theorem sumTo_add (f g : Nat → Int) : ∀ n, sumTo n (fun k => f k + g k) = sumTo n f + sumTo n g
  | 0 => rfl
  | n + 1 => by rw [sumTo, sumTo, sumTo, sumTo_add f g n]; omega
theorem sumTo_mul (c : Int) (f : Nat → Int) : ∀ n, sumTo n (fun k => c * f k) = c * sumTo n f
  | 0 => by simp [sumTo]
  | n + 1 => by rw [sumTo, sumTo, sumTo_mul c f n, Int.mul_add]
theorem sumTo_mul' (c : Int) (f : Nat → Int) (n : Nat) : sumTo n (fun k => f k * c) = sumTo n f * c := by
  rw [Int.mul_comm (sumTo n f) c, ← sumTo_mul]
  exact sumTo_congr n fun k _ => Int.mul_comm _ _
theorem sumTo_zero : ∀ n, sumTo n (fun _ => 0) = 0
  | 0 => rfl
  | n + 1 => by rw [sumTo, sumTo_zero n]; rfl
theorem sumTo_swap (f : Nat → Nat → Int) (m : Nat) : ∀ n, sumTo n (fun i => sumTo m (fun k => f i k)) = sumTo m (fun k => sumTo n (fun i => f i k))
  | 0 => (sumTo_zero m).symm
  | n + 1 => by rw [sumTo, sumTo_swap f m n, ← sumTo_add]; rfl
theorem sumTo_block (g : Nat → Int) : ∀ n, sumTo (8 * n) g = sumTo n (fun r => sumTo 8 (fun c => g (8 * r + c)))
  | 0 => rfl
  | n + 1 => by
    have e : sumTo (8 * (n + 1)) g = sumTo (8 * n) g + g (8 * n + 0) + g (8 * n + 1) + g (8 * n + 2) + g (8 * n + 3) + g (8 * n + 4) + g (8 * n + 5) + g (8 * n + 6) + g (8 * n + 7) := rfl
    have e2 : sumTo 8 (fun c => g (8 * n + c)) = 0 + g (8 * n + 0) + g (8 * n + 1) + g (8 * n + 2) + g (8 * n + 3) + g (8 * n + 4) + g (8 * n + 5) + g (8 * n + 6) + g (8 * n + 7) := rfl
    rw [e, sumTo, e2, ← sumTo_block g n]
    omega
theorem sumTo_bd {f g : Nat → Int} : ∀ n, (∀ k, k < n → -(g k) ≤ f k ∧ f k ≤ g k) → -(sumTo n g) ≤ sumTo n f ∧ sumTo n f ≤ sumTo n g
  | 0, _ => by simp [sumTo]
  | n + 1, h => by
    have h1 := sumTo_bd n (fun k hk => h k (by omega))
    have h2 := h n (by omega)
    rw [sumTo, sumTo]
    omega
theorem sumTo_cbd {f : Nat → Int} {c : Int} (n : Nat) (h : ∀ k, k < n → -c ≤ f k ∧ f k ≤ c) : -(c * n) ≤ sumTo n f ∧ sumTo n f ≤ c * n := by
  have h1 := sumTo_bd (g := fun _ => c) n h
  have h2 : ∀ n : Nat, sumTo n (fun _ => c) = c * n := by
    intro n
    induction n with
    | zero => simp [sumTo]
    | succ n ih => rw [sumTo, ih, Int.natCast_add, Int.mul_add]; simp
  rwa [h2] at h1
theorem mul_bd {a b A B : Int} (h1 : -A ≤ a ∧ a ≤ A) (h2 : -B ≤ b ∧ b ≤ B) : -(A * B) ≤ a * b ∧ a * b ≤ A * B := by
  have hA : 0 ≤ A := by omega
  have hB : 0 ≤ B := by omega
  have k1 : a.natAbs * b.natAbs ≤ A.natAbs * B.natAbs := Nat.mul_le_mul (by omega) (by omega)
  have k2 : (a * b).natAbs = a.natAbs * b.natAbs := Int.natAbs_mul a b
  have k3 : (A * B).natAbs = A.natAbs * B.natAbs := Int.natAbs_mul A B
  have k4 : 0 ≤ A * B := Int.mul_nonneg hA hB
  omega

/-- The factors, by rows. -/
def facL : List Int :=
  [370728, 370728, 370728, 370728, 370728, 370728, 370728, 370728,
   514214, 435930, 291279, 102284, -102284, -291279, -435930, -514214,
   484379, 200636, -200636, -484379, -484379, -200636, 200636, 484379,
   435930, -102284, -514214, -291279, 291279, 514214, 102284, -435930,
   370728, -370728, -370728, 370728, 370728, -370728, -370728, 370728,
   291279, -514214, 102284, 435930, -435930, -102284, 514214, -291279,
   200636, -484379, 484379, -200636, -200636, 484379, -484379, 200636,
   102284, -291279, 435930, -514214, 514214, -435930, 291279, -102284]
def facN (u x : Nat) : Int := facL.getD (u * 8 + x) 0
def facT (x u : Nat) : Int := facN u x
def facI (u x : Int) : Int := if u < 0 ∨ 7 < u ∨ x < 0 ∨ 7 < x then 0 else facN u.toNat x.toNat
theorem facL_bd : ∀ i, i < 64 → -514214 ≤ facL.getD i 0 ∧ facL.getD i 0 ≤ 514214 := by decide +kernel
theorem fac_bd {u x : Nat} (hu : u < 8) (hx : x < 8) : -514214 ≤ facN u x ∧ facN u x ≤ 514214 := facL_bd _ (by omega)
theorem facT_bd {u x : Nat} (hu : u < 8) (hx : x < 8) : -514214 ≤ facT u x ∧ facT u x ≤ 514214 := fac_bd hx hu

def clipI (lo hi n : Int) : Int := if n < lo then lo else if hi < n then hi else n
theorem clip_in {lo hi : Int} (n : Int) (h : lo ≤ hi) : lo ≤ clipI lo hi n ∧ clipI lo hi n ≤ hi := by
  unfold clipI; repeat' split
  all_goals omega
theorem clip_id {lo hi n : Int} (h1 : lo ≤ n) (h2 : n ≤ hi) : clipI lo hi n = n := by
  unfold clipI; rw [if_neg (by omega), if_neg (by omega)]
def rnd (n : Int) : Int := if n < 0 then -((-n + 549755813888) / 1099511627776) else (n + 549755813888) / 1099511627776
theorem rnd_neg (n : Int) : rnd (-n) = -rnd n := by unfold rnd; repeat' split
                                                    all_goals omega
theorem rnd_near (n : Int) : -549755813888 ≤ 1099511627776 * rnd n - n ∧ 1099511627776 * rnd n - n ≤ 549755813888 := by
  unfold rnd; split <;> omega

/-- The first sums, along the rows. -/
def halfI (F : Nat → Nat → Int) (lo hi : Int) (b : Nat → Int) (i : Nat) : Int := sumTo 8 fun k => clipI lo hi (b (i / 8 * 8 + k)) * F (i % 8) k
/-- The second ones, along the columns. -/
def fullI (F : Nat → Nat → Int) (lo hi : Int) (b : Nat → Int) (i : Nat) : Int := sumTo 8 fun k => halfI F lo hi b (k * 8 + i % 8) * F (i / 8) k
/-- As the document has them. -/
def defI (F : Nat → Nat → Int) (lo hi : Int) (b : Nat → Int) (i : Nat) : Int := sumTo 64 fun k => clipI lo hi (b k) * F (i % 8) (k % 8) * F (i / 8) (k / 8)
theorem full_eq (F : Nat → Nat → Int) (lo hi : Int) (b : Nat → Int) (i : Nat) (_ : i < 64) : fullI F lo hi b i = defI F lo hi b i := by
  unfold fullI defI
  rw [show (64 : Nat) = 8 * 8 from rfl, sumTo_block]
  refine sumTo_congr 8 fun r hr => ?_
  unfold halfI
  rw [← sumTo_mul']
  refine sumTo_congr 8 fun c hc => ?_
  have e1 : (r * 8 + i % 8) / 8 * 8 + c = 8 * r + c := by omega
  have e2 : (r * 8 + i % 8) % 8 = i % 8 := by omega
  have e3 : (8 * r + c) % 8 = c := by omega
  have e4 : (8 * r + c) / 8 = r := by omega
  rw [e1, e2, e3, e4]
def bdF (F : Nat → Nat → Int) : Prop := ∀ u x, u < 8 → x < 8 → -514214 ≤ F u x ∧ F u x ≤ 514214
theorem half_bd {F : Nat → Nat → Int} {lo hi : Int} (hF : bdF F) (h1 : -32768 ≤ lo) (h2 : hi ≤ 32768) (h : lo ≤ hi) (b : Nat → Int) (i n : Nat) (hn : n ≤ 8) :
    -134798114816 ≤ sumTo n (fun k => clipI lo hi (b (i / 8 * 8 + k)) * F (i % 8) k) ∧ sumTo n (fun k => clipI lo hi (b (i / 8 * 8 + k)) * F (i % 8) k) ≤ 134798114816 := by
  have := sumTo_cbd (c := 16849764352) n (f := fun k => clipI lo hi (b (i / 8 * 8 + k)) * F (i % 8) k) fun k hk => by
    have a := clip_in (lo := lo) (hi := hi) (b (i / 8 * 8 + k)) h
    exact mul_bd (A := 32768) (B := 514214) (by omega) (hF _ _ (by omega) (by omega))
  omega
theorem full_bd {F : Nat → Nat → Int} {lo hi : Int} (hF : bdF F) (h1 : -32768 ≤ lo) (h2 : hi ≤ 32768) (h : lo ≤ hi) (b : Nat → Int) (i n : Nat) (hi64 : i < 64) (hn : n ≤ 8) :
    -554520622495956992 ≤ sumTo n (fun k => halfI F lo hi b (k * 8 + i % 8) * F (i / 8) k) ∧ sumTo n (fun k => halfI F lo hi b (k * 8 + i % 8) * F (i / 8) k) ≤ 554520622495956992 := by
  have := sumTo_cbd (c := 69315077811994624) n (f := fun k => halfI F lo hi b (k * 8 + i % 8) * F (i / 8) k) fun k hk => by
    have a := half_bd hF h1 h2 h b (k * 8 + i % 8) 8 (by omega)
    have := mul_bd (A := 134798114816) (B := 514214) a (hF (i / 8) k (by omega) (by omega))
    unfold halfI
    omega
  omega
theorem term_bd {F : Nat → Nat → Int} {lo hi : Int} (hF : bdF F) (h1 : -32768 ≤ lo) (h2 : hi ≤ 32768) (h : lo ≤ hi) (b : Nat → Int) (i k : Nat) (hi64 : i < 64) (hk : k < 64) :
    (-16849764352 ≤ clipI lo hi (b k) * F (i % 8) (k % 8) ∧ clipI lo hi (b k) * F (i % 8) (k % 8) ≤ 16849764352) ∧
    (-8664384726499328 ≤ clipI lo hi (b k) * F (i % 8) (k % 8) * F (i / 8) (k / 8) ∧ clipI lo hi (b k) * F (i % 8) (k % 8) * F (i / 8) (k / 8) ≤ 8664384726499328) := by
  have a := clip_in (lo := lo) (hi := hi) (b k) h
  have t := mul_bd (A := 32768) (B := 514214) (a := clipI lo hi (b k)) (b := F (i % 8) (k % 8)) (by omega) (hF _ _ (by omega) (by omega))
  have t2 := mul_bd (A := 16849764352) (B := 514214) (a := clipI lo hi (b k) * F (i % 8) (k % 8)) (b := F (i / 8) (k / 8)) (by omega) (hF _ _ (by omega) (by omega))
  exact ⟨by omega, by omega⟩
theorem def_bd {F : Nat → Nat → Int} {lo hi : Int} (hF : bdF F) (h1 : -32768 ≤ lo) (h2 : hi ≤ 32768) (h : lo ≤ hi) (b : Nat → Int) (i n : Nat) (hi64 : i < 64) (hn : n ≤ 64) :
    -554520622495956992 ≤ sumTo n (fun k => clipI lo hi (b k) * F (i % 8) (k % 8) * F (i / 8) (k / 8)) ∧ sumTo n (fun k => clipI lo hi (b k) * F (i % 8) (k % 8) * F (i / 8) (k / 8)) ≤ 554520622495956992 := by
  have := sumTo_cbd (c := 8664384726499328) n (f := fun k => clipI lo hi (b k) * F (i % 8) (k % 8) * F (i / 8) (k / 8)) fun k hk => (term_bd hF h1 h2 h b i k hi64 (by omega)).2
  omega
def fwdI (b : Nat → Int) (i : Nat) : Int := rnd (defI facN (-4096) 4096 b i)
def bwdI (b : Nat → Int) (i : Nat) : Int := rnd (defI facT (-32768) 32767 b i)
end Go.Proofs.YtkaoajfdbjlioaaDoor
