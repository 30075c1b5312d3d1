/- The transform's operations, of secrets. -/
import Derived.Test.YtkaoajfdbjlioaaDoorDctR
import Derived.Test.YtkaoajfdbjlioaaDoorOpen
namespace Go.Proofs.YtkaoajfdbjlioaaDoor
open Go.RowKit

theorem shrS40 (a : Int) : secShr a 40 = a / 1099511627776 := by
  unfold secShr
  rw [show 2 ^ min (shiftOf 40).toNat 64 = (1099511627776 : Int) by decide]
theorem i64_of {a : Int} (h1 : -9223372036854775808 ≤ a) (h2 : a ≤ 9223372036854775807) : I64 a := ⟨h1, h2⟩
theorem secRound_eq {a : Int} (h : -2305843009213693952 ≤ a ∧ a ≤ 2305843009213693952) :
    secSelect (secLess a 0) (secNeg (secShr (wrap64 (secAbs a + 549755813888)) 40)) (secShr (wrap64 (secAbs a + 549755813888)) 40) = rnd a := by
  have ha : I64 a := i64_of (by omega) (by omega)
  have e1 : wrap64 (secAbs a + 549755813888) = if a < 0 then -a + 549755813888 else a + 549755813888 := by
    rw [secAbs_eq ha]
    split
    · rw [w64 (n := -a) (by omega) (by omega)]; exact w64 (by omega) (by omega)
    · exact w64 (by omega) (by omega)
  rw [e1, shrS40, secLess_eq ha (i64_of (by omega) (by omega))]
  unfold rnd
  split
  · rename_i hn
    have hk : 0 ≤ (-a + 549755813888) / 1099511627776 ∧ (-a + 549755813888) / 1099511627776 ≤ 4194304 := by omega
    rw [secSelect_mask (secNeg_I64 _) (i64_of (by omega) (by omega))]
    rw [if_pos (by simpa using hn)]
    unfold secNeg
    exact w64 (by omega) (by omega)
  · rename_i hn
    have hk : 0 ≤ (a + 549755813888) / 1099511627776 ∧ (a + 549755813888) / 1099511627776 ≤ 4194304 := by omega
    rw [secSelect_mask (secNeg_I64 _) (i64_of (by omega) (by omega))]
    rw [if_neg (by simpa using hn)]
theorem sclip_ (a lo hi : Int) (w : World) (ha : I64 a) (hl : I64 lo) (hh : I64 hi) :
    Calls Tryd.prog 52 #[.agg #[.int .i64 a], .int .i64 lo, .int .i64 hi] w fun e w' => e = .returned (.agg #[.int .i64 (clipI lo hi a)]) ∧ Below w.heap.size w w' := by
  refine (sec_clip a lo hi w).mono fun e w' h => ⟨?_, h.2⟩
  rw [h.1, secClip_eq ha hl hh]; rfl

theorem hmul_ (a n : Int) (w : World) :
    Calls Tryd.prog 59 #[.agg #[.int .i64 a], .int .i64 n] w fun e w' => e = .returned (.agg #[.int .i64 (wrap64 (a * n))]) ∧ Below w.heap.size w w' := by
  go_enter Tryd.func59, Tryd.ntmps59
  go_wp2_with fail
  refine wp_region_calm_tail 4 (by kernel_rfl) (by kernel_rfl) ?_
  simp only [List.take_succ_cons, List.take_zero, List.drop_succ_cons, List.drop_zero]
  repeat (first | go_big_quiet_step ((first | (go_at_call 49; exact calm_call (sec_of _ _)) | (go_at_call 53; exact calm_call (sec_mul _ _ _)))) | quiet_step ((first | (go_at_call 49; exact calm_call (sec_of _ _)) | (go_at_call 53; exact calm_call (sec_mul _ _ _)))))
  refine wpQuiet_nil ?_
  intro u
  have hzu := u.below.size
  try simp at hzu
  go_wp2
  exact bodyPost_ret (by simp [results, Tryd.results59, go_sem] <;> rfl) rfl ⟨rfl, by repeat (first | exact gr0 _ | refine gr1 ?_ _ | refine gr2 ?_ (Later.below _) | refine gr2 ?_ (by assumption) | refine gr3 ?_ | refine gr4 ?_ (by first | (simp; done) | (simp; omega) | omega) _)⟩

theorem hround_ (a : Int) (w : World) (h : -2305843009213693952 ≤ a ∧ a ≤ 2305843009213693952) :
    Calls Tryd.prog 60 #[.agg #[.int .i64 a]] w fun e w' => e = .returned (.agg #[.int .i64 (rnd a)]) ∧ Below w.heap.size w w' := by
  have he := secRound_eq h
  go_enter Tryd.func60, Tryd.ntmps60
  go_wp2_with (first | (go_at_call 61; refine (sec_abs _ _).mono ?_; rintro e W1 ⟨rfl, hb1⟩; obtain ⟨hc1, hf1, hz1⟩ := bcell hb1; try simp at hz1) | (go_at_call 49; refine (sec_of _ _).mono ?_; rintro e W1 ⟨rfl, hb1⟩; obtain ⟨hc1, hf1, hz1⟩ := bcell hb1; try simp at hz1) | (go_at_call 58; refine (sec_add _ _ _).mono ?_; rintro e W1 ⟨rfl, hb1⟩; obtain ⟨hc1, hf1, hz1⟩ := bcell hb1; try simp at hz1) | (go_at_call 62; refine (sec_shr _ _ _).mono ?_; rintro e W1 ⟨rfl, hb1⟩; obtain ⟨hc1, hf1, hz1⟩ := bcell hb1; try simp at hz1))
  refine wp_region_calm_tail 7 (by kernel_rfl) (by kernel_rfl) ?_
  simp only [List.take_succ_cons, List.take_zero, List.drop_succ_cons, List.drop_zero]
  repeat (first | go_big_quiet_step ((first | (go_at_call 49; exact calm_call (sec_of _ _)) | (go_at_call 64; exact calm_call (sec_less _ _ _)) | (go_at_call 65; exact calm_call (sec_neg _ _)) | (go_at_call 63; exact calm_call (sec_select _ _ _ _)))) | quiet_step ((first | (go_at_call 49; exact calm_call (sec_of _ _)) | (go_at_call 64; exact calm_call (sec_less _ _ _)) | (go_at_call 65; exact calm_call (sec_neg _ _)) | (go_at_call 63; exact calm_call (sec_select _ _ _ _)))))
  refine wpQuiet_nil ?_
  intro u
  have hzu := u.below.size
  try simp at hzu
  go_wp2
  exact bodyPost_ret (by simp [results, Tryd.results60, go_sem, *, ↓IntWalk.iteOmega] <;> rfl) rfl ⟨rfl, by repeat (first | exact gr0 _ | refine gr1 ?_ _ | refine gr2 ?_ (Later.below _) | refine gr2 ?_ (by assumption) | refine gr3 ?_ | refine gr4 ?_ (by first | (simp; done) | (simp; omega) | omega) _)⟩

def hidV : Array Value := #[.func (.func 58) #[] #[], .func (.func 59) #[] #[], .func (.func 60) #[] #[], .func (.func 52) #[] #[]]

theorem hidden_ (w : World) : Calls Tryd.prog 48 #[] w fun e w' => e = .returned (.agg hidV) ∧ Below w.heap.size w w' := by
  go_enter Tryd.func48, Tryd.ntmps48
  go_wp2
  exact bodyPost_ret (by simp [results, Tryd.results48, go_sem] <;> rfl) rfl ⟨rfl, gr1 (gr0 _) _⟩

end Go.Proofs.YtkaoajfdbjlioaaDoor
