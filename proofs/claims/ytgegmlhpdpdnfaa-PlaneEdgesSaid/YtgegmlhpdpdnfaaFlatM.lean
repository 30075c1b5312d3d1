/- Blocks of an image of one colour, plainly. -/
import Derived.Test.YtgegmlhpdpdnfaaSpM
import Derived.Test.YtgegmlhpdpdnfaaCol7
namespace Go.Proofs.Ytgegmlhpdpdnfaa
def flatL (m r g b : Int) (k : Nat) : Int := if m = 1 then r else if k % 3 = 0 then r else if k % 3 = 1 then g else b
theorem flatL_bd {m r g b : Int} (hr : 0 ≤ r ∧ r ≤ 255) (hg : 0 ≤ g ∧ g ≤ 255) (hb : 0 ≤ b ∧ b ≤ 255) (k : Nat) : 0 ≤ flatL m r g b k ∧ flatL m r g b k ≤ 255 := by
  unfold flatL; split
  · exact hr
  · split
    · exact hr
    · split
      · exact hg
      · exact hb
def flatP (m r g b : Int) (p : Nat) : Int := if m = 1 then r else if p = 0 then lum1 r g b else if p = 1 then lum2 r g b else lum3 r g b
theorem flat_part (m r g b : Int) (p k : Nat) : partF m (flatL m r g b) p k = flatP m r g b p := by
  unfold partF flatP
  by_cases hm : m = 1
  · simp [hm, flatL]
  · have e0 : flatL m r g b (3 * k) = r := by unfold flatL; rw [if_neg hm, if_pos (by omega)]
    have e1 : flatL m r g b (3 * k + 1) = g := by unfold flatL; rw [if_neg hm, if_neg (by omega), if_pos (by omega)]
    have e2 : flatL m r g b (3 * k + 2) = b := by unfold flatL; rw [if_neg hm, if_neg (by omega), if_neg (by omega)]
    rw [if_neg hm, if_neg hm, e0, e1, e2]
theorem bsum_const {W H : Int} {f : Nat → Int} {c : Int} (hf : ∀ k, f k = c) (qx qy a d : Int) (k : Nat) : ∀ n : Nat, bsum W H f qx qy a d k n = a * d / 2 + n * c
  | 0 => by simp [bsum]
  | n + 1 => by
    rw [bsum, bsum_const hf qx qy a d k n, hf, Int.natCast_add, Int.add_mul]
    simp
    omega
theorem blk_const {W H : Int} {F : Nat → Nat → Int} {q : Pl} {c : Int} (hF : ∀ k, F q.part.toNat k = c) (hq : (q.across = 1 ∧ q.down = 1) ∨ (q.across = 2 ∧ q.down = 1) ∨ (q.across = 2 ∧ q.down = 2)) (j : Nat) : blkOf W H F q j = c := by
  unfold blkOf bval
  rw [bsum_const hF]
  rcases hq with ⟨h1, h2⟩ | ⟨h1, h2⟩ | ⟨h1, h2⟩ <;> rw [h1, h2] <;> simp <;> omega
def partsL (m : Int) : List Nat := if m = 1 then [0] else if m = 2 then [0, 1, 2] else if m = 3 then [0, 0, 1, 2] else [0, 0, 0, 0, 1, 2]
theorem plsM_parts {m x y : Int} (hm : m = 1 ∨ m = 2 ∨ m = 3 ∨ m = 4) : (plsM m x y).map (·.part.toNat) = partsL m := by
  rcases hm with rfl | rfl | rfl | rfl <;> simp [plsM, partsL, pls1, pls2, pls3, pls4]
theorem plsM_sides {m x y : Int} (hm : m = 1 ∨ m = 2 ∨ m = 3 ∨ m = 4) : ∀ q ∈ plsM m x y, (q.across = 1 ∧ q.down = 1) ∨ (q.across = 2 ∧ q.down = 1) ∨ (q.across = 2 ∧ q.down = 2) := by
  rcases hm with rfl | rfl | rfl | rfl <;> simp [plsM, pls1, pls2, pls3, pls4]
def flatV (m r g b : Int) (k : Nat) : Int := flatP m r g b ((partsL m).getD k 0)
theorem flat_M {x y m r g b : Int} (hm : m = 1 ∨ m = 2 ∨ m = 3 ∨ m = 4) {A T : Nat} : ∀ (i : Nat) bs, (splitM x y m (partF m (flatL m r g b)) A T)[i]? = some bs → ∀ (k : Nat) f, bs[k]? = some f → ∀ j, f j = flatV m r g b k := by
  intro i bs hi k f hk j
  have hmem := List.mem_of_getElem? hi
  obtain ⟨n, _, rfl⟩ := List.mem_map.1 hmem
  unfold mcuM at hk
  rw [List.getElem?_map] at hk
  obtain ⟨q, hq, rfl⟩ := Option.map_eq_some_iff.1 hk
  have hp : (partsL m)[k]? = some q.part.toNat := by rw [← plsM_parts hm, List.getElem?_map, hq]; rfl
  have hv : flatV m r g b k = flatP m r g b q.part.toNat := by unfold flatV; rw [List.getD_eq_getElem?_getD, hp]; rfl
  rw [hv]
  exact blk_const (fun k => flat_part m r g b q.part.toNat k) (plsM_sides hm q (List.mem_of_getElem? hq)) j
end Go.Proofs.Ytgegmlhpdpdnfaa
