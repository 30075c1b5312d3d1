/- The example of chapter 9. -/
import Derived.Test.YtkaoajfdbjlioaaDoorQuant
namespace Go.Proofs.YtkaoajfdbjlioaaDoor
open Go.RowKit

theorem kn9 : tabI 0 50 0 = 16 ∧ tabI 0 50 1 = 11 ∧ tabI 0 50 2 = 10 ∧ zigI 2 = 8 := by decide +kernel

set_option maxRecDepth 100000 in
set_option maxHeartbeats 2000000 in
theorem known09 (w : World) (hT : Tabs w) :
    Calls Tryd.prog 26 #[] w fun e w' => e = .returned (.bool true) ∧ Below w.heap.size w w' := by
  obtain ⟨k1, k2, k3, k4⟩ := kn9
  have HT : Hid (Tabs w) := hT
  clear hT
  go_enter Tryd.func26, Tryd.ntmps26
  go_wp2_with (first | (go_at_call 45; refine (table_ _ _ _ HT.out).mono ?_; rintro e W1 ⟨g, rfl, hb1, hg1, hh1⟩; have hT1 := HT.out.below hb1; have x0 := row_cell hh1 (i := 0) (by omega); have x1 := row_cell hh1 (i := 1) (by omega); have x2 := row_cell hh1 (i := 2) (by omega); have z1 := heap_lt hh1; rw [k1] at x0; rw [k2] at x1; rw [k3] at x2; clear hh1) | (go_at_call 25; refine (zig_ _ _ hT1).mono ?_; rintro e W2 ⟨rfl, hb2⟩; clear hT1; obtain ⟨hc2, hf2, hz2⟩ := bcell hb2))
  go_ret
  exact ⟨rfl, gr2 hb1 hb2⟩

end Go.Proofs.YtkaoajfdbjlioaaDoor
