/- A cell that can be written: it stays where nothing old turns. -/
import Derived.Test.YtbdnnkokkgdhnaaBufX
namespace Go.Proofs.Ytbdnnkokkgdhnaa
open Go.RowKit

theorem Cel.below {W W' : World} {b i : Nat} {v : Value} (h : Cel W b i v) (hb : Below W.heap.size W W') : Cel W' b i v :=
  have z := World.block_lt_of_cell? W _ h.1
  ⟨(hb.cell (p := ⟨b, i, none⟩) z).trans h.1, (hb.frozen (p := ⟨b, i, none⟩) z).trans h.2⟩
theorem imp_elim2 {a b c : Prop} (h : a → b) (ha : a) (k : b → c) : c := k (h ha)
def Capd (v : Value) (n : Nat) : Prop := ∃ q c, v = .slice q n c ∧ n ≤ c ∧ c ≤ 9223372036854775807
end Go.Proofs.Ytbdnnkokkgdhnaa
