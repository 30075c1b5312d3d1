/- What split is, in plain words. -/
import Derived.Test.YtgegmlhpdpdnfaaPlac
import Derived.Test.YtgegmlhpdpdnfaaPlop
import Derived.Test.YtgegmlhpdpdnfaaMr7
namespace Go.Proofs.Ytgegmlhpdpdnfaa
open Go.RowKit

/-- the lesser one, as the program asks -/
def mn (a b : Int) : Int := if b < a then b else a
theorem mn_le {a b : Int} : mn a b ≤ b := by unfold mn; split <;> omega
theorem mn_lo {a b l : Int} (h1 : l ≤ a) (h2 : l ≤ b) : l ≤ mn a b := by unfold mn; split <;> omega
/-- where a pixel's sample lies, beyond the ends as the last one -/
def idx7 (W H x y : Int) : Nat := (mn y (H - 1) * W + mn x (W - 1)).toNat
/-- the first j samples of a mean, and half as much as there are -/
def bsum (W H : Int) (f : Nat → Int) (qx qy a d : Int) (k : Nat) : Nat → Int
  | 0 => a * d / 2
  | j + 1 => bsum W H f qx qy a d k j + f (idx7 W H ((8 * qx + (k : Int) % 8) * a + (j : Int) % a) ((8 * qy + (k : Int) / 8) * d + (j : Int) / a))
def bval (W H : Int) (f : Nat → Int) (q : Pl) (k : Nat) : Int := bsum W H f q.x q.y q.across q.down k (q.across * q.down).toNat / (q.across * q.down)
def blkOf (W H : Int) (F : Nat → Nat → Int) (q : Pl) : Nat → Int := bval W H (F q.part.toNat) q
def plsM (m x y : Int) : List Pl := if m = 1 then pls1 x y else if m = 2 then pls2 x y else if m = 3 then pls3 x y else pls4 x y
def partF (m : Int) (L : Nat → Int) (p : Nat) (k : Nat) : Int := if m = 1 then L k else if p = 0 then lum1 (L (3 * k)) (L (3 * k + 1)) (L (3 * k + 2)) else if p = 1 then lum2 (L (3 * k)) (L (3 * k + 1)) (L (3 * k + 2)) else lum3 (L (3 * k)) (L (3 * k + 1)) (L (3 * k + 2))
def mcuM (W H m : Int) (F : Nat → Nat → Int) (cols : Nat) (i : Nat) : List (Nat → Int) := (plsM m ((i % cols : Nat) : Int) ((i / cols : Nat) : Int)).map (blkOf W H F)
def splitM (W H m : Int) (F : Nat → Nat → Int) (cols n : Nat) : List (List (Nat → Int)) := (List.range n).map (mcuM W H m F cols)
theorem splitM_len (W H m : Int) (F : Nat → Nat → Int) (cols n : Nat) : (splitM W H m F cols n).length = n := by simp [splitM]
theorem splitM_succ (W H m : Int) (F : Nat → Nat → Int) (cols n : Nat) : splitM W H m F cols (n + 1) = splitM W H m F cols n ++ [mcuM W H m F cols n] := by simp [splitM, List.range_succ]
def PlOk (m : Int) (q : Pl) : Prop := ((0 ≤ q.part ∧ q.part ≤ 2) ∧ (m = 1 → q.part = 0)) ∧ (0 ≤ q.x ∧ q.x ≤ 131072) ∧ (0 ≤ q.y ∧ q.y ≤ 131072) ∧ ((q.across = 1 ∧ q.down = 1) ∨ (q.across = 2 ∧ q.down = 1) ∨ (q.across = 2 ∧ q.down = 2))
theorem plsM_ok {m x y : Int} (hm : m = 1 ∨ m = 2 ∨ m = 3 ∨ m = 4) (hx : 0 ≤ x ∧ x ≤ 65535) (hy : 0 ≤ y ∧ y ≤ 65535) : ∀ q ∈ plsM m x y, PlOk m q := by
  intro q hq
  rcases hm with rfl | rfl | rfl | rfl <;> simp [plsM, pls1, pls2, pls3, pls4] at hq <;> (try rcases hq with rfl | rfl | rfl | rfl | rfl | rfl) <;> (try rcases hq with rfl | rfl | rfl | rfl) <;> (try rcases hq with rfl | rfl | rfl) <;> (try subst hq) <;> (refine ⟨⟨⟨?_, ?_⟩, ?_⟩, ⟨?_, ?_⟩, ⟨?_, ?_⟩, ?_⟩ <;> simp <;> omega)
theorem plsM_len {m x y : Int} : (plsM m x y).length ≤ 6 := by unfold plsM; split; exact (by decide : 1 ≤ 6); split; exact (by decide : 3 ≤ 6); split; exact (by decide : 4 ≤ 6); exact (by decide : 6 ≤ 6)
theorem each_pls {m : Int} (hm : m = 1 ∨ m = 2 ∨ m = 3 ∨ m = 4) {w0 w : World} {s : Nat} {x y : Int} (hx : 0 ≤ x ∧ x ≤ 65535) (hy : 0 ≤ y ∧ y ≤ 65535) (h0 : w0.heap[s]? = some (.cells #[.int .i64 m] 3 (0, 0))) (h1 : w0.heap[s + 1]? = some (.cells #[.int .i64 x] 3 (0, 0))) (h2 : w0.heap[s + 2]? = some (.cells #[.int .i64 y] 3 (0, 0)))
    (hB : Below w0.heap.size w0 w) (n : Nat) (hn : 2 ≤ n) :
    EachOf Fence.wide n Try.prog 73 (fun v => #[] ++ #[v] ++ #[.pointer (some ⟨s, 0, none⟩), .pointer (some ⟨s + 1, 0, none⟩), .pointer (some ⟨s + 2, 0, none⟩)]) enP (Kp2 [s, s + 1, s + 2]) (plsM m x y) w := by
  rcases hm with rfl | rfl | rfl | rfl
  · exact each_pls1 hx hy h0 h1 h2 hB n hn
  · exact each_pls2 hx hy h0 h1 h2 hB n hn
  · exact each_pls3 hx hy h0 h1 h2 hB n hn
  · exact each_pls4 hx hy h0 h1 h2 hB n hn
/-- A row of numbers that can be read. -/
def PRow (w : World) (n : Nat) (f : Nat → Int) (v : Value) : Prop := ∃ g c, v = .slice (some ⟨g, 0, none⟩) n c ∧ g < w.heap.size ∧ ∀ k, k < n → w.cell? ⟨g, k, none⟩ = some (.int .i64 (f k))
theorem PRow.below {w w' : World} {n : Nat} {f : Nat → Int} {v : Value} (h : PRow w n f v) (k : Below w.heap.size w w') : PRow w' n f v := by
  obtain ⟨g, c, h1, h2, h3⟩ := h
  exact ⟨g, c, h1, Nat.lt_of_lt_of_le h2 k.size, fun j hj => (k.cell (p := ⟨g, j, none⟩) h2).trans (h3 j hj)⟩
def PRows (w : World) (m : Int) (n : Nat) (L : Nat → Int) (v0 v1 v2 : Value) : Prop := PRow w n (partF m L 0) v0 ∧ (m ≠ 1 → PRow w n (partF m L 1) v1 ∧ PRow w n (partF m L 2) v2)
theorem PRows.below {w w' : World} {m : Int} {n : Nat} {L : Nat → Int} {v0 v1 v2 : Value} (h : PRows w m n L v0 v1 v2) (k : Below w.heap.size w w') : PRows w' m n L v0 v1 v2 :=
  ⟨h.1.below k, fun e => ⟨(h.2 e).1.below k, (h.2 e).2.below k⟩⟩
theorem partF_bd {m : Int} {L : Nat → Int} (hL : ∀ k, 0 ≤ L k ∧ L k ≤ 255) (p k : Nat) : 0 ≤ partF m L p k ∧ partF m L p k ≤ 255 := by
  unfold partF
  split
  · exact hL k
  · split
    · exact (lum_byte _ _ _).1
    · split
      · exact (lum_byte _ _ _).2.1
      · exact (lum_byte _ _ _).2.2
theorem bsum_bd {W H : Int} {f : Nat → Int} (hf : ∀ k, 0 ≤ f k ∧ f k ≤ 255) {qx qy a d : Int} {k : Nat} (ha : a * d / 2 ≤ 2 ∧ 0 ≤ a * d / 2) : ∀ j : Nat, 0 ≤ bsum W H f qx qy a d k j ∧ bsum W H f qx qy a d k j ≤ 2 + 255 * j
  | 0 => ⟨ha.2, by simp only [bsum]; omega⟩
  | j + 1 => by
    have h1 := bsum_bd (W := W) (H := H) hf (qx := qx) (qy := qy) (k := k) ha j
    have h2 := hf (idx7 W H ((8 * qx + (k : Int) % 8) * a + (j : Int) % a) ((8 * qy + (k : Int) / 8) * d + (j : Int) / a))
    simp only [bsum]
    omega
end Go.Proofs.Ytgegmlhpdpdnfaa
