/- An image that goes on beyond its ends as its last pixels has the same blocks: plainly. -/
import Derived.Test.YtgegmlhpdpdnfaaSpM
import Derived.Test.YtgegmlhpdpdnfaaCol7
import Derived.Test.YtgegmlhpdpdnfaaFlatM
namespace Go.Proofs.Ytgegmlhpdpdnfaa
/-- where the pixel lies that stands for the k-th of the wider image -/
def atN (x y x2 : Int) (k : Nat) : Nat := idx7 x y ((k : Int) % x2) ((k : Int) / x2)
def edgeL (m x y x2 : Int) (L : Nat → Int) (k : Nat) : Int := if m = 1 then L (atN x y x2 k) else L (3 * atN x y x2 (k / 3) + k % 3)
theorem edge_part {m x y x2 : Int} {L : Nat → Int} (p k : Nat) : partF m (edgeL m x y x2 L) p k = partF m L p (atN x y x2 k) := by
  by_cases hm : m = 1
  · subst hm; simp [partF, edgeL]
  · have e0 : edgeL m x y x2 L (3 * k) = L (3 * atN x y x2 k) := by
      unfold edgeL; rw [if_neg hm, show 3 * k / 3 = k by omega, show 3 * k % 3 = 0 by omega, Nat.add_zero]
    have e1 : edgeL m x y x2 L (3 * k + 1) = L (3 * atN x y x2 k + 1) := by
      unfold edgeL; rw [if_neg hm, show (3 * k + 1) / 3 = k by omega, show (3 * k + 1) % 3 = 1 by omega]
    have e2 : edgeL m x y x2 L (3 * k + 2) = L (3 * atN x y x2 k + 2) := by
      unfold edgeL; rw [if_neg hm, show (3 * k + 2) / 3 = k by omega, show (3 * k + 2) % 3 = 2 by omega]
    unfold partF
    rw [if_neg hm, if_neg hm, e0, e1, e2]
theorem mn_in {a b : Int} (h : a ≤ b) : mn a b = a := by unfold mn; split <;> omega
theorem idx_in {x2 y2 X Y : Int} (hX : 0 ≤ X ∧ X < x2) (hY : 0 ≤ Y ∧ Y < y2) : (idx7 x2 y2 X Y : Int) = Y * x2 + X := by
  unfold idx7
  rw [mn_in (show Y ≤ y2 - 1 by omega), mn_in (show X ≤ x2 - 1 by omega)]
  have := Int.mul_nonneg hY.1 (show 0 ≤ x2 by omega)
  omega
theorem at_idx {x y x2 y2 X Y : Int} (hX : 0 ≤ X ∧ X < x2) (hY : 0 ≤ Y ∧ Y < y2) : atN x y x2 (idx7 x2 y2 X Y) = idx7 x y X Y := by
  unfold atN
  rw [idx_in hX hY]
  have e1 : (Y * x2 + X) % x2 = X := by rw [Int.add_comm, Int.add_mul_emod_self_right, Int.emod_eq_of_lt hX.1 hX.2]
  have e2 : (Y * x2 + X) / x2 = Y := by rw [Int.add_comm, Int.add_mul_ediv_right _ _ (by omega), Int.ediv_eq_zero_of_lt hX.1 hX.2, Int.zero_add]
  rw [e1, e2]
theorem bsum_edge {x y x2 y2 : Int} {f f2 : Nat → Int} (hf : ∀ k, f2 k = f (atN x y x2 k)) {qx qy a d : Int} {j : Nat} (ha : 0 < a) : ∀ n : Nat,
    (∀ t : Nat, t < n → (0 ≤ (8 * qx + (j : Int) % 8) * a + (t : Int) % a ∧ (8 * qx + (j : Int) % 8) * a + (t : Int) % a < x2) ∧ 0 ≤ (8 * qy + (j : Int) / 8) * d + (t : Int) / a ∧ (8 * qy + (j : Int) / 8) * d + (t : Int) / a < y2) →
    bsum x2 y2 f2 qx qy a d j n = bsum x y f qx qy a d j n
  | 0, _ => rfl
  | n + 1, h => by
    have h1 := h n (by omega)
    simp only [bsum]
    rw [bsum_edge hf ha n (fun t ht => h t (by omega)), hf, at_idx h1.1 h1.2]
def PlFit (x2 y2 : Int) (q : Pl) : Prop := (0 ≤ q.x ∧ 0 ≤ q.y) ∧ (8 * q.x + 8) * q.across ≤ x2 ∧ (8 * q.y + 8) * q.down ≤ y2
theorem blk_edge {x y x2 y2 : Int} {F F2 : Nat → Nat → Int} (hF : ∀ p k, F2 p k = F p (atN x y x2 k)) {q : Pl} (hq : (q.across = 1 ∧ q.down = 1) ∨ (q.across = 2 ∧ q.down = 1) ∨ (q.across = 2 ∧ q.down = 2)) (hfit : PlFit x2 y2 q) {j : Nat} (hj : j < 64) :
    blkOf x y F q j = blkOf x2 y2 F2 q j := by
  unfold blkOf bval
  obtain ⟨⟨hx0, hy0⟩, hx2, hy2⟩ := hfit
  rw [bsum_edge (x := x) (y := y) (fun k => hF q.part.toNat k) (by omega)]
  intro t ht
  have j1 : (0 : Int) ≤ (j : Int) % 8 ∧ (j : Int) % 8 ≤ 7 := by omega
  have j2 : (0 : Int) ≤ (j : Int) / 8 ∧ (j : Int) / 8 ≤ 7 := by omega
  obtain ⟨u, hu⟩ : ∃ u, (j : Int) % 8 = u := ⟨_, rfl⟩
  obtain ⟨v, hv⟩ : ∃ v, (j : Int) / 8 = v := ⟨_, rfl⟩
  rw [hu] at j1 ⊢
  rw [hv] at j2 ⊢
  clear hu hv
  rcases hq with ⟨h1, h2⟩ | ⟨h1, h2⟩ | ⟨h1, h2⟩ <;> rw [h1, h2] at ht <;> rw [h1] at hx2 ⊢ <;> rw [h2] at hy2 ⊢ <;> simp at ht <;> refine ⟨⟨?_, ?_⟩, ?_, ?_⟩ <;> omega
theorem plsM_fit {m : Int} (hm : m = 1 ∨ m = 2 ∨ m = 3 ∨ m = 4) {A B i : Nat} (hi : i < A * B) : ∀ q ∈ plsM m ((i % A : Nat) : Int) ((i / A : Nat) : Int), PlFit ((A : Int) * sideW m) ((B : Int) * sideH m) q := by
  have hA : 0 < A := by rcases Nat.eq_zero_or_pos A with h | h; · subst h; omega
                        · exact h
  have h1 : i % A < A := Nat.mod_lt _ hA
  have h2 : i / A < B := Nat.div_lt_of_lt_mul hi
  generalize i % A = u at *
  generalize i / A = v at *
  intro q hq
  rcases hm with rfl | rfl | rfl | rfl
  · have e : sideW 1 = 8 ∧ sideH 1 = 8 := by decide
    rw [e.1, e.2]
    simp [plsM, pls1] at hq; subst hq
    unfold PlFit; simp; omega
  · have e : sideW 2 = 8 ∧ sideH 2 = 8 := by decide
    rw [e.1, e.2]
    simp [plsM, pls2] at hq
    rcases hq with rfl | rfl | rfl <;> (unfold PlFit; simp; omega)
  · have e : sideW 3 = 16 ∧ sideH 3 = 8 := by decide
    rw [e.1, e.2]
    simp [plsM, pls3] at hq
    rcases hq with rfl | rfl | rfl | rfl <;> (unfold PlFit; simp; omega)
  · have e : sideW 4 = 16 ∧ sideH 4 = 16 := by decide
    rw [e.1, e.2]
    simp [plsM, pls4] at hq
    rcases hq with rfl | rfl | rfl | rfl | rfl | rfl <;> (unfold PlFit; simp; omega)
theorem edge_M {m x y : Int} {L L2 : Nat → Int} (hm : m = 1 ∨ m = 2 ∨ m = 3 ∨ m = 4) {A B : Nat} (hL : L2 = edgeL m x y ((A : Int) * sideW m) L) (i : Nat) (hi : i < A * B) (k : Nat) (f g : Nat → Int)
    (hf : (mcuM x y m (partF m L) A i)[k]? = some f) (hg : (mcuM ((A : Int) * sideW m) ((B : Int) * sideH m) m (partF m L2) A i)[k]? = some g) : ∀ j, j < 64 → f j = g j := by
  intro j hj
  subst hL
  unfold mcuM at hf hg
  rw [List.getElem?_map] at hf hg
  obtain ⟨q, hq, rfl⟩ := Option.map_eq_some_iff.1 hf
  rw [hq] at hg
  cases hg
  have hmem := List.mem_of_getElem? hq
  exact blk_edge (fun p k => edge_part p k) (plsM_sides hm q hmem) (plsM_fit hm hi q hmem) hj
end Go.Proofs.Ytgegmlhpdpdnfaa
