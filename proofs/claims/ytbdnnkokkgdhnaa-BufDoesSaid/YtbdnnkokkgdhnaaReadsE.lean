/- What came in, opened: a slice of deeds. -/
import Derived.Test.YtbdnnkokkgdhnaaLawBufDoes
import Derived.Test.YtbdnnkokkgdhnaaReads
import Derived.ChangeSlices
import Derived.Deep.Strs
namespace Go.Proofs.Ytbdnnkokkgdhnaa
open Go.RowKit Go.WideShapes Go.ChangeShapes

theorem c3Deed : Try.prog.cellsOf 51 = 3 := by kernel_rfl
theorem c1B : Try.prog.cellsOf 4 = 1 := by kernel_rfl
theorem c1I : Try.prog.cellsOf 3 = 1 := by kernel_rfl
/-- What a cell holds. -/
def intAt (W : World) (b o : Nat) : Int := match W.cell? ⟨b, o, none⟩ with | some (.int _ n) => n | _ => 0
def boolAt (W : World) (b o : Nat) : Bool := match W.cell? ⟨b, o, none⟩ with | some (.bool x) => x | _ => false
set_option maxRecDepth 100000 in
theorem open_dds {H : Type} {enc : TypeId × Value → H} {W : World} {base : Nat} {v : Value} {d : DataW H} {p : List MemPlace} (hval : Value.okWide Try.prog W .any base 45 v) (h : DataW.Trod enc Try.prog W 0 (fun _ => true) true 45 v d p) :
    ∃ n fs is ns, n ≤ 9223372036854775807 ∧ Dds v n fs is ns W := by
  obtain ⟨a1, len, cap, rfl⟩ := okWide_slice Try.underlying45 hval
  obtain ⟨fuel, hf⟩ := h
  rcases DataW.trod_slice Try.underlying45 hf with ⟨hcs, _⟩ | ⟨a, len', cap', es, sp, m, _, hcs, hd, _, hl, hm, hlen, hel, _, _⟩
  · simp [Value.cells] at hcs
    obtain ⟨rfl, rfl, rfl⟩ := hcs
    exact ⟨0, fun _ => false, fun _ => 0, fun _ => 0, by omega, fun i hi => absurd hi (by omega), _, _, rfl, fun i hi => absurd hi (by omega)⟩
  · simp [Value.cells] at hcs
    obtain ⟨rfl, rfl, rfl⟩ := hcs
    unfold maxLen at hm
    have each : ∀ i, i < len → ∃ (z : Bool) (x y : Int), W.cell? (a.add (i * 3)) = some (.bool z) ∧ W.cell? ((a.add (i * 3)).add 1) = some (.int .i64 x) ∧ W.cell? ((a.add (i * 3)).add 2) = some (.int .i64 y) ∧ I64 x ∧ I64 y := by
      intro i hi
      have h1 := hel i hi
      rw [c3Deed, List.getElem?_eq_getElem (by omega), Option.bind_eq_some_iff] at h1
      obtain ⟨cs, hc, ht⟩ := h1
      obtain ⟨_, hcl, hcell⟩ := World.cells?_some hc
      obtain ⟨y0, y1, y2, n', _, _, t0, t1, t2⟩ := Go.Deep.trod_struct3 Try.underlying51 ht
      match cs, hcl with
      | [e0, e1, e2], _ =>
        have q0 := hcell 0 (by omega)
        have q1 := hcell 1 (by omega)
        have q2 := hcell 2 (by omega)
        rw [c1B] at t0
        rw [c1I] at t1 t2
        obtain ⟨z, ez, _⟩ := DataW.trod_bool Try.underlying4 t0
        obtain ⟨x, ex, _, wx⟩ := DataW.trod_int Try.underlying3 t1
        obtain ⟨y, ey, _, wy⟩ := DataW.trod_int Try.underlying3 t2
        simp at ez ex ey
        subst ez ex ey
        exact ⟨z, x, y, by simpa [Addr.add] using q0, q1, q2, b64 wx, b64 wy⟩
    obtain ⟨ab, ao, spot⟩ := a
    have hsp : 0 < len → spot = none := fun h0 => by
      obtain ⟨z, x, y, hx, _⟩ := each 0 h0
      simpa [Addr.add] using World.cell?_spot hx
    have each2 : ∀ i, i < len → ∃ (z : Bool) (x y : Int), W.cell? ⟨ab, ao + i * 3, none⟩ = some (.bool z) ∧ W.cell? ⟨ab, ao + i * 3 + 1, none⟩ = some (.int .i64 x) ∧ W.cell? ⟨ab, ao + i * 3 + 2, none⟩ = some (.int .i64 y) ∧ I64 x ∧ I64 y := by
      intro i hi
      obtain ⟨z, x, y, h0, h1, h2, h3⟩ := each i hi
      have hspot : spot = none := hsp (by omega)
      subst hspot
      rw [Addr.add_lit] at h0 h1 h2
      rw [Addr.add_lit] at h1 h2
      exact ⟨z, x, y, h0, h1, h2, h3⟩
    have hsp2 : 0 < len → (⟨ab, ao, spot⟩ : Addr) = ⟨ab, ao, none⟩ := fun h => by rw [hsp h]
    refine ⟨len, fun i => boolAt W ab (ao + i * 3), fun i => intAt W ab (ao + i * 3 + 1), fun i => intAt W ab (ao + i * 3 + 2), by omega, fun i hi => ?_, _, _, rfl, fun i hi => ?_⟩
    · obtain ⟨z, x, y, h0, h1, h2, h3, h4⟩ := each2 i hi
      dsimp only [intAt]
      rw [h1, h2]
      exact ⟨h3, h4⟩
    · obtain ⟨z, x, y, h0, h1, h2, h3, h4⟩ := each2 i hi
      refine ⟨ab, ao, by rw [hsp2 (by omega)], block_lt_of_cell h0, ?_, ?_, ?_⟩
      · dsimp only [boolAt]; rw [h0]
      · dsimp only [intAt]; rw [h1]
      · dsimp only [intAt]; rw [h2]
end Go.Proofs.Ytbdnnkokkgdhnaa
