/- Two buffers of as many words: what is seen of each, whatever they hold. -/
import Derived.Test.YtbdnnkokkgdhnaaTwo
import Derived.Test.YtbdnnkokkgdhnaaScanT
import Derived.Test.YtbdnnkokkgdhnaaScanK
namespace Go.Proofs.Ytbdnnkokkgdhnaa
open Go.RowKit

def Pair (w W : World) (b g c h n : Nat) (E F : List Ev) : Prop := ∃ L M, B2 w W b (some g) E L c (some h) F M [] ∧ (L.length = n ∧ M.length = n) ∧ (∀ y ∈ L, I64 y) ∧ (∀ y ∈ M, I64 y)
theorem Pair.swap {w W : World} {b g c h n : Nat} {E F : List Ev} (k : Pair w W b g c h n E F) : Pair w W c h b g n F E := by
  obtain ⟨L, M, k1, ⟨k2, k3⟩, k4, k5⟩ := k
  exact ⟨M, L, k1.swap, ⟨k3, k2⟩, k5, k4⟩
theorem Pair.calm {w W W' : World} {b g c h n : Nat} {E F : List Ev} (k : Pair w W b g c h n E F) (hb : Below W.heap.size W W') : Pair w W' b g c h n E F := by
  obtain ⟨L, M, k1, k2⟩ := k
  exact ⟨L, M, k1.calm hb, k2⟩
theorem Pair.below {w W : World} {b g c h n : Nat} {E F : List Ev} (k : Pair w W b g c h n E F) : Below w.heap.size w W := by
  obtain ⟨L, M, k1, k2⟩ := k
  exact k1.below
theorem Pair.rn {w W : World} {b g c h n : Nat} {E F : List Ev} (k : Pair w W b g c h n E F) : Rn W (some ⟨g, 0, none⟩) (pst E) := by
  obtain ⟨L, M, k1, k2⟩ := k
  exact k1.fst.rn
theorem Pair.bufc {w W : World} {b g c h n : Nat} {E F : List Ev} (k : Pair w W b g c h n E F) : ∃ v L, Bufc W b (some g) v L := by
  obtain ⟨L, M, k1, k2⟩ := k
  obtain ⟨v, B⟩ := k1.fst.bufc
  exact ⟨v, L, B⟩
theorem pair_load {w W : World} {b g c h n : Nat} {E F : List Ev} (k : Pair w W b g c h n E F) (hE : E.length ≤ 800000) (hn : n ≤ 1000) (p f t : Int) (hp : I64 p) :
    Calls Try.prog 41 #[.pointer (some ⟨b, 0, none⟩), .agg #[.int .i64 p], .int .i64 f, .int .i64 t] W fun e W' => (∃ x, e = .returned (.agg #[.int .i64 x])) ∧ Pair w W' b g c h n (E ++ winE (clipN n f) (clipN n t) (max (clipN n f) (clipN n t))) F := by
  obtain ⟨L, M, k1, ⟨rfl, k3⟩, k4, k5⟩ := k
  refine (B2.call k1 fun Y kk => sload_ kk hE hn k4 p f t hp).mono ?_
  rintro e W' ⟨he, kb, _⟩
  exact ⟨⟨_, he⟩, L, M, kb, ⟨rfl, k3⟩, k4, k5⟩
theorem pair_store {w W : World} {b g c h n : Nat} {E F : List Ev} (k : Pair w W b g c h n E F) (hE : E.length ≤ 800000) (hn : n ≤ 1000) (p x f t : Int) (hp : I64 p) (hx : I64 x) :
    Calls Try.prog 40 #[.pointer (some ⟨b, 0, none⟩), .agg #[.int .i64 p], .agg #[.int .i64 x], .int .i64 f, .int .i64 t] W fun e W' => e = .returned (.tuple #[]) ∧ Pair w W' b g c h n (E ++ setE (clipN n f) (clipN n t) (max (clipN n f) (clipN n t) - clipN n f)) F := by
  obtain ⟨L, M, k1, ⟨rfl, k3⟩, k4, k5⟩ := k
  refine (B2.call k1 fun Y kk => sstore_ kk hE hn k4 p x f t hp hx).mono ?_
  rintro e W' ⟨he, kb, _⟩
  exact ⟨he, _, M, kb, ⟨putAt_len _ _ _ _ _, k3⟩, putAt_I64 k4 hx _ _, k5⟩
theorem pair_put {w W : World} {b g c h n : Nat} {E F : List Ev} (k : Pair w W b g c h n E F) (hE : E.length ≤ 800000) (hn : n ≤ 1000) (p x m f t : Int) :
    Calls Try.prog 48 #[.pointer (some ⟨b, 0, none⟩), .agg #[.int .i64 p], .agg #[.int .i64 x], .int .i64 m, .int .i64 f, .int .i64 t] W fun e W' => e = .returned (.tuple #[]) ∧ Pair w W' b g c h n (E ++ setE (clipN n f) (clipN n t) (max (clipN n f) (clipN n t) - clipN n f)) F := by
  obtain ⟨L, M, k1, ⟨rfl, k3⟩, k4, k5⟩ := k
  refine (B2.call k1 fun Y kk => sput_ kk hE hn p x m f t).mono ?_
  rintro e W' ⟨he, kb, _⟩
  exact ⟨he, _, M, kb, ⟨putL_len _ _ _ _ _ _, k3⟩, putL_I64 k4 _ _ _ _ _, k5⟩
theorem pair_take {w W : World} {b g c h n : Nat} {E F : List Ev} (k : Pair w W b g c h n E F) (hE : E.length ≤ 800000) (hn : n ≤ 1000) (p m f t : Int) :
    Calls Try.prog 49 #[.pointer (some ⟨b, 0, none⟩), .agg #[.int .i64 p], .int .i64 m, .int .i64 f, .int .i64 t] W fun e W' => (∃ x, e = .returned (.agg #[.int .i64 x])) ∧ Pair w W' b g c h n (E ++ winE (clipN n f) (clipN n t) (max (clipN n f) (clipN n t))) F := by
  obtain ⟨L, M, k1, ⟨rfl, k3⟩, k4, k5⟩ := k
  refine (B2.call k1 fun Y kk => stake_ kk hE hn p m f t).mono ?_
  rintro e W' ⟨he, kb, _⟩
  exact ⟨⟨_, he⟩, L, M, kb, ⟨rfl, k3⟩, k4, k5⟩
theorem cnt_app (E F : List Ev) (k : Int) : cnt (E ++ F) k = cnt E k + cnt F k := by simp [cnt]
theorem cnt_setE2 (A Z k : Nat) : cnt (setE A Z k) 2 = 1 ∧ cnt (setE A Z k) 3 = 0 := by
  induction k with
  | zero => exact ⟨rfl, rfl⟩
  | succ k ih =>
    simp only [setE]
    rw [cnt_app, cnt_app, ih.1, ih.2]
    exact ⟨rfl, rfl⟩
theorem cnt_ones (l : List Nat) (f : Nat → Int) : cnt (l.map fun j => ((1 : Int), f j)) 2 = 0 ∧ cnt (l.map fun j => ((1 : Int), f j)) 3 = 0 := by
  induction l with
  | nil => exact ⟨rfl, rfl⟩
  | cons a l ih =>
    rw [List.map_cons, ← List.singleton_append, cnt_app, cnt_app, ih.1, ih.2]
    exact ⟨rfl, rfl⟩
theorem cnt_winE (A Z i : Nat) : cnt (winE A Z i) 2 = 1 ∧ cnt (winE A Z i) 3 = 0 := by
  unfold winE
  rw [← List.singleton_append, cnt_app, cnt_app, (cnt_ones _ _).1, (cnt_ones _ _).2]
  exact ⟨rfl, rfl⟩
end Go.Proofs.Ytbdnnkokkgdhnaa
