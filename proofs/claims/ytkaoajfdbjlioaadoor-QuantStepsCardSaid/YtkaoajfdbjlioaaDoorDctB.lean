/- Blocks, and the sums of one. -/
import Derived.Test.YtkaoajfdbjlioaaDoorDctI
namespace Go.Proofs.YtkaoajfdbjlioaaDoor
open Go.RowKit

def blk (f : Nat → Int) : Array Value := ((List.range 64).map fun i => Value.int .i64 (f i)).toArray
theorem blk_size (f : Nat → Int) : (blk f).size = 64 := by simp [blk]
theorem blk_at {f : Nat → Int} {i : Nat} (h : i < 64) : (blk f)[i]? = some (.int .i64 (f i)) := by simp [blk, h]
theorem blk_congr {f g : Nat → Int} (h : ∀ i, i < 64 → f i = g i) : blk f = blk g := by
  unfold blk
  congr 1
  exact List.map_congr_left fun i hi => by rw [h i (List.mem_range.1 hi)]
def upTo (f : Nat → Int) (k : Nat) : Nat → Int := fun i => if i < k then f i else 0
theorem blk_all (f : Nat → Int) : blk (upTo f 64) = blk f := blk_congr fun i hi => by unfold upTo; rw [if_pos hi]
theorem blk_set (f : Nat → Int) (k : Nat) : (blk (upTo f k)).setIfInBounds k (.int .i64 (f k)) = blk (upTo f (k + 1)) := by
  apply Array.ext_getElem?
  intro i
  rw [Array.getElem?_setIfInBounds, blk_size]
  by_cases hi : i < 64
  · rw [blk_at hi, blk_at hi]
    by_cases hk : k = i
    · subst hk; rw [if_pos rfl, if_pos hi]; unfold upTo; rw [if_pos (by omega)]
    · rw [if_neg hk]; unfold upTo
      by_cases h2 : i < k
      · rw [if_pos h2, if_pos (by omega)]
      · rw [if_neg h2, if_neg (by omega)]
  · have h1 : (blk (upTo f k))[i]? = none := Array.getElem?_eq_none (by rw [blk_size]; omega)
    have h2 : (blk (upTo f (k + 1)))[i]? = none := Array.getElem?_eq_none (by rw [blk_size]; omega)
    rw [h1, h2]
    split
    · rw [if_neg (by omega)]
    · rfl

theorem padd_ (a b : Int) (w : World) :
    Calls Tryd.prog 54 #[.int .i64 a, .int .i64 b] w fun e w' => e = .returned (.int .i64 (wrap64 (a + b))) ∧ Below w.heap.size w w' := by
  go_enter Tryd.func54, Tryd.ntmps54
  go_wp2_with (first
    | (refine wp_region_calm (by kernel_rfl) (by kernel_rfl) ?_; repeat (first | go_big_quiet_step (fail) | quiet_step (fail))
       refine wpQuiet_nil ?_; intro u; have hzu := u.below.size; try simp at hzu))
  go_ret
  refine ⟨rfl, ?_⟩
  repeat (first | exact gr0 _ | refine gr1 ?_ _ | refine gr2 ?_ (Later.below _) | refine gr2 ?_ (by assumption) | refine gr3 ?_ | refine gr4 ?_ (by first | (simp; done) | (simp; omega) | omega) _)

theorem pmul_ (a b : Int) (w : World) :
    Calls Tryd.prog 55 #[.int .i64 a, .int .i64 b] w fun e w' => e = .returned (.int .i64 (wrap64 (a * b))) ∧ Below w.heap.size w w' := by
  go_enter Tryd.func55, Tryd.ntmps55
  go_wp2_with (first
    | (refine wp_region_calm (by kernel_rfl) (by kernel_rfl) ?_; repeat (first | go_big_quiet_step (fail) | quiet_step (fail))
       refine wpQuiet_nil ?_; intro u; have hzu := u.below.size; try simp at hzu))
  go_ret
  refine ⟨rfl, ?_⟩
  repeat (first | exact gr0 _ | refine gr1 ?_ _ | refine gr2 ?_ (Later.below _) | refine gr2 ?_ (by assumption) | refine gr3 ?_ | refine gr4 ?_ (by first | (simp; done) | (simp; omega) | omega) _)

theorem pround_ (a : Int) (w : World) (_b1 : -2305843009213693952 ≤ a ∧ a ≤ 2305843009213693952) :
    Calls Tryd.prog 56 #[.int .i64 a] w fun e w' => e = .returned (.int .i64 (rnd a)) ∧ Below w.heap.size w w' := by
  go_enter Tryd.func56, Tryd.ntmps56
  go_wp2_with (first
    | (go_at_call 43; refine (round_ _ _ _ ‹_› ⟨by omega, by omega⟩).mono ?_; rintro e W1 ⟨rfl, hb1⟩; obtain ⟨hc1, hf1, hz1⟩ := bcell hb1; try simp at hz1)
    | (refine wp_region_calm (by kernel_rfl) (by kernel_rfl) ?_; repeat (first | go_big_quiet_step ((first | (go_at_call 43; exact calm_call (round_ _ _ _ ‹_› ⟨by omega, by omega⟩)))) | quiet_step ((first | (go_at_call 43; exact calm_call (round_ _ _ _ ‹_› ⟨by omega, by omega⟩)))))
       refine wpQuiet_nil ?_; intro u; have hzu := u.below.size; try simp at hzu))
  go_ret
  refine ⟨by first | rfl | exact ret_int (rnd_D a), ?_⟩
  repeat (first | exact gr0 _ | refine gr1 ?_ _ | refine gr2 ?_ (Later.below _) | refine gr2 ?_ (by assumption) | refine gr3 ?_ | refine gr4 ?_ (by first | (simp; done) | (simp; omega) | omega) _)

def plainV : Array Value := #[.func (.func 54) #[] #[], .func (.func 55) #[] #[], .func (.func 56) #[] #[], .func (.func 42) #[] #[]]

end Go.Proofs.YtkaoajfdbjlioaaDoor
