/- What came in, opened: a slice of choices, each a kind and a number. -/
import Derived.Test.YtgoflehojioedaaLayW
import Derived.Test.YtgoflehojioedaaReads
import Derived.ChangeSlices
import Derived.ChangeSame
import Derived.SizedLaws
namespace Go.Proofs.Ytgoflehojioedaa
open Go.RowKit Go.WideShapes Go.ChangeShapes

theorem c2Seen : Try.prog.cellsOf 47 = 2 := by kernel_rfl
theorem b2Seen : Try.prog.bytesOf 47 = 16 := by kernel_rfl
theorem c1U : Try.prog.cellsOf 5 = 1 := by kernel_rfl
theorem c1I : Try.prog.cellsOf 3 = 1 := by kernel_rfl
theorem bU8 {x : Int} (h : (Lit.int .u8 x).wf = true) : 0 ≤ x ∧ x ≤ 255 := by
  have hmin : IntKind.u8.min = 0 := rfl
  have hmax : IntKind.u8.max = 255 := rfl
  simp only [Lit.wf, Bool.and_eq_true, decide_eq_true_eq] at h; omega
/-- The number that a cell holds. -/
def intAt (W : World) (b o : Nat) : Int := match W.cell? ⟨b, o, none⟩ with | some (.int _ n) => n | _ => 0
set_option maxRecDepth 100000 in
theorem open_sns {H : Type} {enc : TypeId × Value → H} {W : World} {base : Nat} {v : Value} {d : DataW H} {p : List MemPlace} (hval : Value.okWide Try.prog W .any base 39 v) (h : DataW.Trod enc Try.prog W 0 (fun _ => true) true 39 v d p)
    (hsz : ∀ es sp, d = .slice es sp → (es.length + sp.length) * Try.prog.bytesOf 47 ≤ reachBytes) : ∃ n ks ns, n ≤ 8796093022208 ∧ Sns v n ks ns W := by
  obtain ⟨a1, len, cap, rfl⟩ := okWide_slice Try.underlying39 hval
  obtain ⟨fuel, hf⟩ := h
  rcases DataW.trod_slice Try.underlying39 hf with ⟨hcs, _⟩ | ⟨a, len', cap', es, sp, m, _, hcs, hd, _, hl, hm, hlen, hel, _, _⟩
  · simp [Value.cells] at hcs
    obtain ⟨rfl, rfl, rfl⟩ := hcs
    exact ⟨0, fun _ => 0, fun _ => 0, by omega, fun i hi => absurd hi (by omega), _, _, rfl, fun i hi => absurd hi (by omega)⟩
  · simp [Value.cells] at hcs
    obtain ⟨rfl, rfl, rfl⟩ := hcs
    have hb := hsz _ _ (congrArg Prod.fst hd)
    rw [b2Seen, List.length_map, List.length_map, hlen] at hb
    unfold reachBytes at hb
    have each : ∀ i, i < len → ∃ x y : Int, W.cell? (a.add (i * 2)) = some (.int .u8 x) ∧ W.cell? ((a.add (i * 2)).add 1) = some (.int .i64 y) ∧ (0 ≤ x ∧ x ≤ 255) ∧ I64 y := by
      intro i hi
      have h1 := hel i hi
      rw [c2Seen, List.getElem?_eq_getElem (by omega), Option.bind_eq_some_iff] at h1
      obtain ⟨cs, hc, ht⟩ := h1
      obtain ⟨_, hcl, hcell⟩ := World.cells?_some hc
      obtain ⟨y0, y1, n', _, _, t0, t1⟩ := trod_struct2 Try.underlying47 ht
      match cs, hcl with
      | [e0, e1], _ =>
        have q0 := hcell 0 (by omega)
        have q1 := hcell 1 (by omega)
        rw [c1U] at t0
        rw [c1I] at t1
        obtain ⟨x, ex, _, wx⟩ := DataW.trod_int Try.underlying5 t0
        obtain ⟨y, ey, _, wy⟩ := DataW.trod_int Try.underlying3 t1
        simp at ex ey
        subst ex ey
        exact ⟨x, y, by simpa [Addr.add] using q0, q1, bU8 wx, b64 wy⟩
    obtain ⟨ab, ao, spot⟩ := a
    have hsp : 0 < len → spot = none := fun h0 => by
      obtain ⟨x, y, hx, _⟩ := each 0 h0
      simpa [Addr.add] using World.cell?_spot hx
    refine ⟨len, fun i => intAt W ab (ao + i * 2), fun i => intAt W ab (ao + i * 2 + 1), by omega, fun i hi => ?_, _, _, rfl, fun i hi => ?_⟩ <;>
    · obtain ⟨x, y, hx, hy, bx, by'⟩ := each i hi
      have hspot : spot = none := hsp (by omega)
      subst hspot
      rw [Addr.add_lit] at hx hy
      rw [Addr.add_lit] at hy
      first
        | exact ⟨by simpa only [intAt, hx] using bx, by simpa only [intAt, hy] using by'⟩
        | exact ⟨ab, ao, rfl, block_lt_of_cell hx, by simp only [intAt, hx], by simp only [intAt, hy]⟩
end Go.Proofs.Ytgoflehojioedaa
