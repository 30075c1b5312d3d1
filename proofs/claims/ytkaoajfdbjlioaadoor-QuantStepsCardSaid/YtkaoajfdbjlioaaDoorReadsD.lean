/- What came in, opened: bytes, a block; the table of factors out of the row's condition. -/
import Derived.Test.YtkaoajfdbjlioaaDoorDctW
import Derived.Test.YtkaoajfdbjlioaaDoorLaid
import Derived.Test.YtkaoajfdbjlioaaDoorReads
import Derived.ChangeSlices
import Derived.LaidMore
namespace Go.Proofs.YtkaoajfdbjlioaaDoor
open Go.RowKit Go.WideShapes Go.ChangeShapes

def facRows : List (List Int) :=
  [[370728, 370728, 370728, 370728, 370728, 370728, 370728, 370728],
   [514214, 435930, 291279, 102284, -102284, -291279, -435930, -514214],
   [484379, 200636, -200636, -484379, -484379, -200636, 200636, 484379],
   [435930, -102284, -514214, -291279, 291279, 514214, 102284, -435930],
   [370728, -370728, -370728, 370728, 370728, -370728, -370728, 370728],
   [291279, -514214, 102284, 435930, -435930, -102284, 514214, -291279],
   [200636, -484379, 484379, -200636, -200636, 484379, -484379, 200636],
   [102284, -291279, 435930, -514214, 514214, -435930, 291279, -102284]]
theorem gFac : Tryd.prog.globalNamed "cyanotype/dct.factors" = some 0 := by kernel_rfl
theorem tFac : (Tryd.prog.globals[0]?).map (·.type) = some 56 := by kernel_rfl
theorem c8 : Tryd.prog.cellsOf 55 = 8 := by kernel_rfl
theorem c64 : Tryd.prog.cellsOf 56 = 8 * 8 := by kernel_rfl
theorem c1 : Tryd.prog.cellsOf 3 = 1 := by kernel_rfl
theorem c1b : Tryd.prog.cellsOf 5 = 1 := by kernel_rfl
theorem cB : Tryd.prog.cellsOf 23 = 64 := by kernel_rfl
theorem facs_of_laid {W : World} (h : laidMetH Tryd.prog [("cyanotype/dct.factors", Rows.laid_cyanotype_dct_factors)] W) : Facs W := by
  rw [MakeChecks.laidMetH_plain _ _ _ (by kernel_rfl)] at h
  have h2 : laidMet Tryd.prog (("cyanotype/dct.factors", .agg (facRows.map (Lib.tabData .i64))) :: []) W := h
  have h3 := tabIs2_of_head gFac tFac Tryd.underlying56 Tryd.underlying55 Tryd.underlying3 c1 c8 c64 h2
  have hc : ∀ i, i < 64 → W.cell? ⟨0, i, none⟩ = some (.int .i64 (facL.getD i 0)) := fun i hi => h3.cell gFac i hi
  exact ⟨block_lt_of_cell (hc 0 (by omega)), hc⟩
theorem door_met (os : Os) (args : Array Value) : laidMetH Tryd.prog [("cyanotype/dct.factors", Rows.laid_cyanotype_dct_factors)] ((World.doorLaid Tryd.prog 400 os).forCall (fun _ _ => 0) ⟨#[], args, []⟩).memory :=
  laidMetH_of_parts3 (fuel := 8) (laidMet_of_run' 8 (by kernel_rfl) (by kernel_rfl)) (by kernel_rfl) (by kernel_rfl)
section
variable {H : Type} {enc : TypeId × Value → H}
theorem bdU8 {x : Int} (h : (Lit.int .u8 x).wf = true) : 0 ≤ x ∧ x ≤ 255 := by
  have hmin : IntKind.u8.min = 0 := rfl
  have hmax : IntKind.u8.max = 255 := rfl
  simp only [Lit.wf, Bool.and_eq_true, decide_eq_true_eq] at h; omega
theorem open_u8s {W : World} {base : Nat} {v : Value} {d : DataW H} {p : List MemPlace} (hval : Value.okWide Tryd.prog W .any base 24 v) (h : DataW.Trod enc Tryd.prog W 0 (fun _ => true) true 24 v d p) : ∃ n cs, Bytes v n cs W := by
  obtain ⟨a1, len, cap, rfl⟩ := okWide_slice Tryd.underlying24 hval
  obtain ⟨fuel, hf⟩ := h
  rcases Go.ChangeShapes.open_ints Tryd.underlying24 Tryd.underlying5 c1b hf with ⟨hcs, _⟩ | ⟨a, len', cap', zs, hcs, _, hl, hm, hz, _, hcell, hwz⟩
  · simp [Value.cells] at hcs
    obtain ⟨rfl, rfl, rfl⟩ := hcs
    exact ⟨0, fun _ => 0, fun i hi => absurd hi (by omega), by omega, .inl ⟨rfl, _, _, rfl⟩⟩
  · simp [Value.cells] at hcs
    obtain ⟨rfl, rfl, rfl⟩ := hcs
    simp only [if_true] at hz
    unfold maxLen at hm
    refine ⟨len, fun i => zs.getD i 0, fun i hi => ?_, by omega, ?_⟩
    · have : i < zs.length := by omega
      have e : zs.getD i 0 = zs[i] := by simp [List.getD, this]
      show 0 ≤ zs.getD i 0 ∧ zs.getD i 0 ≤ 255
      rw [e]
      exact bdU8 (hwz _ (List.getElem_mem this))
    · by_cases h0 : len = 0
      · subst h0
        exact .inl ⟨rfl, _, _, rfl⟩
      · obtain ⟨ab, ao, spot⟩ := a
        have hspot : spot = none := by simpa [Addr.add] using World.cell?_spot (hcell 0 (by omega))
        subst hspot
        have hc : ∀ i, i < len → W.cell? ⟨ab, ao + i, none⟩ = some (.int .u8 (zs.getD i 0)) := fun i hi => by
          have := hcell i (by omega)
          rwa [Addr.add_lit] at this
        exact .inr ⟨by omega, ab, ao, cap, rfl, block_lt_of_cell (hc 0 (by omega)), hc⟩
theorem open_b {W : World} {base : Nat} {v : Value} {d : DataW H} {p : List MemPlace} (hval : Value.okWide Tryd.prog W .any base 23 v) (h : DataW.Trod enc Tryd.prog W 0 (fun _ => true) true 23 v d p) :
    ∃ b : Nat → Int, v = .agg (blk b) ∧ ∀ i, i < 64 → (Lit.int .i64 (b i)).wf = true := by
  simp only [Value.okWide, Tryd.underlying23] at hval
  obtain ⟨cs, rfl, hsz, _⟩ := hval
  rw [cB] at hsz
  obtain ⟨fuel, hf⟩ := h
  obtain ⟨xs, m, _, _, _, hl, hg⟩ := DataW.trod_array Tryd.underlying23 hf
  have each : ∀ i, i < 64 → ∃ n, cs[i]? = some (.int .i64 n) ∧ (Lit.int .i64 n).wf = true := by
    intro i hi
    have h1 := hg i hi
    have hci : i < cs.size := by omega
    rw [c1, Nat.mul_one, List.getElem?_eq_getElem (by omega : i < xs.length)] at h1
    have h2 : ((Value.agg cs).cells.toList.drop i).take 1 = [cs[i]] := by
      simp only [Value.cells]
      rw [List.drop_eq_getElem_cons (by simpa using hci)]
      simp
    rw [h2] at h1
    obtain ⟨n, e, _, hw⟩ := DataW.trod_int Tryd.underlying3 h1
    simp only [List.cons.injEq, and_true] at e
    exact ⟨n, by rw [Array.getElem?_eq_getElem hci, e], hw⟩
  refine ⟨fun i => match cs[i]? with | some (.int _ n) => n | _ => 0, ?_, fun i hi => ?_⟩
  · congr 1
    apply Array.ext_getElem?
    intro i
    by_cases hi : i < 64
    · obtain ⟨n, e, _⟩ := each i hi
      rw [blk_at hi, e]
    · rw [Array.getElem?_eq_none (by omega), Array.getElem?_eq_none (by rw [blk_size]; omega)]
  · obtain ⟨n, e, hw⟩ := each i hi
    simp only [e]
    exact hw
end
end Go.Proofs.YtkaoajfdbjlioaaDoor
