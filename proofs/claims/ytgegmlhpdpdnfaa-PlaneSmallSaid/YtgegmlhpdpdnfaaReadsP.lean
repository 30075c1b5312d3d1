/- What came in, opened: a slice of numbers. -/
import Derived.Test.YtgegmlhpdpdnfaaImg7
import Derived.Test.YtgegmlhpdpdnfaaReads
import Derived.ChangeSlices
namespace Go.Proofs.Ytgegmlhpdpdnfaa
open Go.RowKit Go.WideShapes Go.ChangeShapes
theorem block_lt_cell7 {w : World} {p : Addr} {v : Value} (h : w.cell? p = some v) : p.block < w.heap.size := World.block_lt_of_cell? w p h
set_option maxRecDepth 100000 in
theorem open_nums {H : Type} {enc : TypeId × Value → H} {k : IntKind} {t e : TypeId} {W : World} {base : Nat} {v : Value} {d : DataW H} {p : List MemPlace} (ht : Try.prog.underlying t = some (.slice e)) (he : Try.prog.underlying e = some (.int k)) (hc : Try.prog.cellsOf e = 1)
    (hval : Value.okWide Try.prog W .any base t v) (h : DataW.Trod enc Try.prog W 0 (fun _ => true) true t v d p) : ∃ n f, n ≤ 9223372036854775807 ∧ Nums k v n f W := by
  obtain ⟨a1, len, cap, rfl⟩ := okWide_slice ht hval
  obtain ⟨fuel, hf⟩ := h
  rcases Go.ChangeShapes.open_ints ht he hc hf with ⟨hcs, _⟩ | ⟨a, len', cap', zs, hcs, _, hl, hm, hz, _, hcell, hwz⟩
  · simp [Value.cells] at hcs
    obtain ⟨rfl, rfl, rfl⟩ := hcs
    exact ⟨0, fun _ => 0, by omega, fun i hi => absurd hi (by omega), _, _, rfl, fun i hi => absurd hi (by omega)⟩
  · simp [Value.cells] at hcs
    obtain ⟨rfl, rfl, rfl⟩ := hcs
    simp only [if_true] at hz
    unfold maxLen at hm
    have hsp : 0 < len → a.spot = none := fun h0 => by simpa [Addr.add] using World.cell?_spot (hcell 0 (by omega))
    obtain ⟨ab, ao, spot⟩ := a
    refine ⟨len, fun i => zs.getD i 0, by omega, fun i hi => ?_, _, _, rfl, fun i hi => ?_⟩
    · have : i < zs.length := by omega
      have e : zs.getD i 0 = zs[i] := by simp [List.getD, this]
      show (Lit.int k (zs.getD i 0)).wf = true
      rw [e]
      exact hwz _ (List.getElem_mem this)
    · have hspot : spot = none := hsp (by omega)
      subst hspot
      have := hcell i (by omega)
      rw [Addr.add_lit] at this
      exact ⟨ab, ao, rfl, block_lt_cell7 this, this⟩
end Go.Proofs.Ytgegmlhpdpdnfaa
