/- The tables out of the row's condition. -/
import Derived.Test.YtkaoajfdbjlioaaDoorQuant
import Derived.Test.YtkaoajfdbjlioaaDoorLaid
import Derived.Test.YtkaoajfdbjlioaaDoorReads
import Derived.LaidMore
import Derived.Stop.LaidErr
namespace Go.Proofs.YtkaoajfdbjlioaaDoor
open Go.RowKit Go.WideShapes Go.ChangeShapes

theorem gZig : Tryd.prog.globalNamed "cyanotype/quant.zigzag" = some 1 := by kernel_rfl
theorem tZig : (Tryd.prog.globals[1]?).map (·.type) = some 22 := by kernel_rfl
theorem gBas : Tryd.prog.globalNamed "cyanotype/quant.bases" = some 2 := by kernel_rfl
theorem tBas : (Tryd.prog.globals[2]?).map (·.type) = some 71 := by kernel_rfl
theorem qc1 : Tryd.prog.cellsOf 3 = 1 := by kernel_rfl
theorem qc64 : Tryd.prog.cellsOf 22 = 64 := by kernel_rfl
theorem qc128 : Tryd.prog.cellsOf 71 = 2 * 64 := by kernel_rfl
theorem fl0 : ∀ i, i < 64 → [bas0, bas1].flatten.getD (0 + i) 0 = basF0 i := by decide +kernel
theorem fl1 : ∀ i, i < 64 → [bas0, bas1].flatten.getD (64 + i) 0 = basF1 i := by decide +kernel
theorem fll : [bas0, bas1].flatten.length = 128 := by decide +kernel
theorem tabs_of_laid {W : World} (h : laidMetH Tryd.prog [("cyanotype/quant.zigzag", Rows.laid_cyanotype_quant_zigzag), ("cyanotype/quant.bases", Rows.laid_cyanotype_quant_bases)] W) : Tabs W := by
  rw [MakeChecks.laidMetH_plain _ _ _ (by kernel_rfl)] at h
  have h1 : laidMet Tryd.prog (("cyanotype/quant.zigzag", Lib.tabData .i64 zigL) :: [("cyanotype/quant.bases", Rows.laid_cyanotype_quant_bases)]) W := h
  have h2 : laidMet Tryd.prog (("cyanotype/quant.bases", .agg ([bas0, bas1].map (Lib.tabData .i64))) :: []) W := h1.tail
  have h3 := Lib.tabIs_of_head gZig tZig Tryd.underlying22 Tryd.underlying3 qc1 qc64 h1
  have h4 := tabIs2_of_head gBas tBas Tryd.underlying71 Tryd.underlying22 Tryd.underlying3 qc1 qc64 qc128 h2
  have c1 : ∀ i, i < 64 → W.cell? ⟨1, i, none⟩ = some (.int .i64 (zigN i)) := fun i hi => h3.cell gZig i hi
  have c2 : ∀ i, i < 64 → W.cell? ⟨2, 0 + i, none⟩ = some (.int .i64 (basF0 i)) := fun i hi => by rw [← fl0 i hi]; exact h4.cell gBas (0 + i) (by rw [fll]; omega)
  have c3 : ∀ i, i < 64 → W.cell? ⟨2, 64 + i, none⟩ = some (.int .i64 (basF1 i)) := fun i hi => by rw [← fl1 i hi]; exact h4.cell gBas (64 + i) (by rw [fll]; omega)
  exact ⟨⟨block_lt_of_cell (c1 0 (by omega)), block_lt_of_cell (c2 0 (by omega))⟩, c1, c2, c3⟩
theorem door_met2 (os : Os) (args : Array Value) : laidMetH Tryd.prog [("cyanotype/quant.zigzag", Rows.laid_cyanotype_quant_zigzag), ("cyanotype/quant.bases", Rows.laid_cyanotype_quant_bases)] ((World.doorLaid Tryd.prog 400 os).forCall (fun _ _ => 0) ⟨#[], args, []⟩).memory :=
  laidMetH_of_parts3 (fuel := 8) (laidMet_of_run' 8 (by kernel_rfl) (by kernel_rfl)) (by kernel_rfl) (by kernel_rfl)
end Go.Proofs.YtkaoajfdbjlioaaDoor
