/- PlaneEdges: plain facts. -/
import Derived.Test.YtgegmlhpdpdnfaaLawh
import Derived.Test.YtgegmlhpdpdnfaaEdgM
import Derived.Test.YtgegmlhpdpdnfaaEq7
namespace Go.Proofs.Ytgegmlhpdpdnfaa
open Go.RowKit
theorem ceil_mul {A : Nat} {d : Int} (h0 : 1 ≤ A) (h1 : (A : Int) ≤ 1000) (h3 : 8 ≤ d) (h4 : d ≤ 16) : ceilI ((A : Int) * d) d = A := by
  have h5 : (A : Int) * d ≤ 1000 * 16 := Int.mul_le_mul h1 h4 (by omega) (by omega)
  have h6 : 0 ≤ (A : Int) * d := Int.mul_nonneg (by omega) (by omega)
  rw [ceil_q (by omega)]
  rw [show (A : Int) * d + d - 1 = (d - 1) + (A : Int) * d by omega, Int.add_mul_ediv_right _ _ (by omega), Int.ediv_eq_zero_of_lt (by omega) (by omega), Int.zero_add]
theorem edge_same {m x y : Int} {L : Nat → Int} (hm : m = 1 ∨ m = 2 ∨ m = 3 ∨ m = 4) {A B T : Nat} (hT : A * B = T) :
    SameM (splitM x y m (partF m L) A T) (splitM ((A : Int) * sideW m) ((B : Int) * sideH m) m (partF m (edgeL m x y ((A : Int) * sideW m) L)) A T) := by
  refine ⟨by rw [splitM_len, splitM_len], fun k b1 b2 h1 h2 => ?_⟩
  unfold splitM at h1 h2
  rw [List.getElem?_map] at h1 h2
  obtain ⟨i, hi, rfl⟩ := Option.map_eq_some_iff.1 h1
  rw [hi] at h2
  cases h2
  have hik : k < T ∧ i = k := by
    obtain ⟨h3, h4⟩ := List.getElem?_eq_some_iff.1 hi
    simp at h3 h4
    omega
  refine ⟨by simp [mcuM], fun j f g hf hg => edge_M hm rfl i (by omega) j f g hf hg⟩
theorem edgeL_bd {m x y x2 : Int} {L : Nat → Int} (h : ∀ k, 0 ≤ L k ∧ L k ≤ 255) (k : Nat) : 0 ≤ edgeL m x y x2 L k ∧ edgeL m x y x2 L k ≤ 255 := by
  unfold edgeL; split <;> exact h _
theorem wpList_pushL {P : Program} {ops : Array Oper} {rest : List Oper} {o : Oper} {a : Act} {w : World} {Q : Exit → Act → World → Prop} (base : Nat) (s x : Operand) (t e : TypeId) {bytes : Nat} (hgd : o.guard = none) (ho : o.op = .call { callee := .builtin .append, args := #[s, x], argTypes := #[t, t] }) (ht : P.underlying t = some (.slice e)) (hi : Infos P e 1 bytes) (hby : bytes ≤ 1000)
    {v : Value} {n : Nat} {xs : List Value} (hs : a.eval s = v) (own : w.ownsRow base e 1 v n xs) (ad : Addr) (mm c : Nat) (news : List Value) (hx : a.eval x = .slice (some ad) mm c) (hl : news.length = mm) (hnews : ∀ j u, news[j]? = some u → w.cell? (ad.add j) = some u) (h1 : ∀ u ∈ news, u.oneCell' = true) (hn : n + mm ≤ 2000000) (hbase : base ≤ w.heap.size)
    (h : ∀ v' w', w'.ownsRow base e 1 v' (n + mm) (xs ++ news) → Sub base [e] w w' → wpList P ops Q rest (a.put o.dst v') w') : wpList P ops Q (o :: rest) a w := by
  obtain ⟨i, z, k1, k2, k3, k4, k5⟩ := hi.out
  refine wpList_append_own_at w hgd s x t ho base e i z 1 bytes ht k1 k2 k3 k4 k5 (by omega) v n xs hs own ad mm c news hx (by omega) hnews h1 (by unfold maxLen; omega) ?_ hbase (fun v' w' q1 q2 _ _ => h v' w' q1 (Sub.of_own own (Nat.le_refl _) (by simp) q2))
  have : (n + mm) * bytes ≤ 2000000 * 1000 := Nat.mul_le_mul (by omega) hby
  omega
theorem edge_1 {x y x2 : Int} {L L2 : Nat → Int} (h : edgeL 1 x y x2 L = L2) {k i : Nat} (hi : atN x y x2 k = i) : L2 k = L i := by
  subst h; subst hi; unfold edgeL; rw [if_pos rfl]
theorem edge_3 {m x y x2 : Int} (hm : m ≠ 1) {L L2 : Nat → Int} (h : edgeL m x y x2 L = L2) {k i : Nat} (hi : atN x y x2 k = i) (c : Nat) (hc : c < 3) : L2 (3 * k + c) = L (i * 3 + c) := by
  subst h; subst hi
  unfold edgeL
  rw [if_neg hm, show (3 * k + c) / 3 = k by omega, show (3 * k + c) % 3 = c by omega, Nat.mul_comm]
end Go.Proofs.Ytgegmlhpdpdnfaa
