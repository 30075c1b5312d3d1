/- Has a buffer what the document says, and was that seen? -/
import Derived.Test.YtbdnnkokkgdhnaaRef4
import Derived.Test.YtbdnnkokkgdhnaaHid
import Derived.Test.YtbdnnkokkgdhnaaKnown05
namespace Go.Proofs.Ytbdnnkokkgdhnaa
open Go.RowKit

theorem imp_elim2 {a b c : Prop} (h : a → b) (ha : a) (k : b → c) : c := k (h ha)
set_option maxRecDepth 100000 in
set_option maxHeartbeats 4000000 in
theorem rsame5_ {W : World} {b g : Nat} {v vl ve : Value} {n0 n1 : Nat} {L : List Int} {E : List Ev} (hb : Bufc W b (some g) v L) (hr : Rn W (some ⟨g, 0, none⟩) (pst E)) (hl : Ints n0 W vl L) (he : Evs n1 W ve E) (hL : L.length ≤ 1000) (hle : E.length ≤ 1000000) :
    Calls Try.prog 58 #[.pointer (some ⟨b, 0, none⟩), .agg #[vl, ve]] W fun e W' => e = .returned (.bool true) ∧ Below W.heap.size W W' := by
  obtain ⟨q, c, rfl, F1⟩ := hl.form
  obtain ⟨q', c', rfl⟩ := he.slice
  have HF := hid2 F1
  have HB := hid2 (hb.calm (gr1 (gr0 W) (.cells #[.slice q L.length c, .slice q' E.length c'] 47)))
  have HRN := hid2 (hr.below (gr1 (gr0 W) (.cells #[.slice q L.length c, .slice q' E.length c'] 47)))
  have HE := hid2 (he.zero.below (gr1 (gr0 W) (.cells #[.slice q L.length c, .slice q' E.length c'] 47)))
  have HC := hid2 (Cel2.new W (.slice q L.length c) (.slice q' E.length c') 47)
  have hL0 : (0 : Int) ≤ L.length := by omega
  have hL1 : (L.length : Int) ≤ 1000 := by omega
  clear F1 hb hr hl he
  go_enter Try.func58, Try.ntmps58
  go_wp2_with (first
    | (go_at_call 25; (with_reducible refine (bwords_ HB.out (by omega)).mono ?_); rintro e w1 ⟨vx, rfl, S1, hb1⟩; obtain ⟨qx, cx, rfl, F2⟩ := S1.form; have HF2 := hid2 F2; have HB1 := hid2 (HB.out.calm hb1); have HR1 := hid2 (HRN.out.below hb1); have HE1 := hid2 (HE.out.below hb1); have C1 := HC.out.below hb1; obtain ⟨⟨k0, k1⟩, ⟨k2, k3⟩⟩ := id C1; have kz := C1.lt; have HC1 := hid2 C1; have HB9 := hid2 (gr2 (gr1 (gr0 W) _) hb1); clear F2 S1 C1 hb1))
  refine wp_region_hid 14 [⟨9, 18, fun v W => Evs 0 W v E⟩] (by kernel_rfl) (by kernel_rfl) (by simp) (by simp) (by kernel_rfl) ?_ ?_
  · intro h hh x W W' hb hx
    simp only [List.mem_singleton] at hh
    subst hh
    exact Evs.below hx hb
  simp only [List.take_succ_cons, List.take_zero, List.drop_succ_cons, List.drop_zero]
  repeat (first | (refine wpHid_hid rfl rfl (fun X u hX K hK => ?_) ?_; (focus (have hzu := u.below.size; (try simp at hzu); (try simp only [fill, List.map_cons, List.map_nil, Act.put, List.setIfInBounds_toArray, List.set_cons_succ, List.set_cons_zero] at hK ⊢); go_step; first | (go_at_call 22; refine (eventsp_ (HR1.out.below u.below) hle).mono ?_; rintro e W ⟨v, rfl, hv, hb⟩; exact hK _ _ hb hv.zero))); (try simp only [Act.put, List.setIfInBounds_toArray, List.set_cons_succ, List.set_cons_zero])) | (refine wpHid_next rfl rfl ?_; apply Exists.intro; refine ⟨fun X u hX K hK => ?_, ?_⟩; (focus (have hzu := u.below.size; (try simp at hzu); (try (refine imp_elim2 (hX _ List.mem_cons_self) ?_ ?_; (focus (show (18 : Nat) ∈ _; decide +kernel)); intro hO0)); (try simp only [fill, List.map_cons, List.map_nil, Act.put, List.setIfInBounds_toArray, List.set_cons_succ, List.set_cons_zero] at hK ⊢); go_step; first | exact hK _ _ (gr0 _) rfl | (go_at_call 32; refine (btrace_ (HB1.out.calm u.below)).mono ?_; rintro e W ⟨rfl, hb⟩; exact hK _ _ hb rfl) | (go_at_call 31; refine (rsame_ hO0 (HE1.out.below u.below) hle hle).mono ?_; rintro e W ⟨rfl, hb⟩; rw [decide_eq_true (rfl : E = E)]; exact hK _ _ hb rfl))); (try simp only [Act.put, List.setIfInBounds_toArray, List.set_cons_succ, List.set_cons_zero])) | (refine wpHid_skip rfl rfl ?_; (try simp only [Act.put, List.setIfInBounds_toArray, List.set_cons_succ, List.set_cons_zero])))
  refine wpHid_nil ?_
  intro X W9 hb9 hR9
  try simp only [fill, List.map_cons, List.map_nil, Act.put, List.setIfInBounds_toArray, List.set_cons_succ, List.set_cons_zero]
  have C9 := HC1.out.below hb9
  have HC9 := hid2 C9
  have HB8 := hid2 (gr2 HB9.out hb9)
  have HB7 := hid2 hb9
  have HLl := hid2 (show ∀ j, j < L.length → ∃ x, L[j]? = some x from fun j hj => ⟨L[j], by simp⟩)
  generalize hn : L.length = n at *
  clear C9 hb9 hR9 hn k0 k1 k2 k3
  go_wp2
  go_loopg [6] n (fun gj i wr => ∃ jj : Nat, jj + gj = n ∧ i = .int .i64 jj ∧ Below W9.heap.size W9 wr)
  case atStart => exact ⟨0, Nat.zero_add _, rfl, gr0 _⟩
  case round =>
    obtain ⟨j, hj, rfl, HBx⟩ := hrel
    have hj9 : (0 : Int) ≤ j := by omega
    have hj7 : (j : Int) ≤ 1000 := by omega
    have HBo := hid2 HBx
    by_cases hlt : j < n
    · have t3 : decide ((j : Int) < n) = true := by simp; omega
      have hj8 : (j : Int) < n := by omega
      obtain ⟨x, hx⟩ := HLl.out j hlt
      obtain ⟨gx, rfl, _, _, hg1, q1, _⟩ := HF2.out j x hx
      obtain ⟨gl, rfl, _, _, hg2, q2, _⟩ := HF.out j x hx
      have q3 := (HBx.cell (p := ⟨gx, j, none⟩) (Nat.lt_of_lt_of_le hg1 HB7.out.size)).trans ((HB7.out.cell (p := ⟨gx, j, none⟩) hg1).trans q1)
      have q4 := (HBx.cell (p := ⟨gl, j, none⟩) (Nat.lt_of_lt_of_le hg2 HB8.out.size)).trans ((HB8.out.cell (p := ⟨gl, j, none⟩) hg2).trans q2)
      have z3 := World.block_lt_of_cell? wr _ q3
      have z4 := World.block_lt_of_cell? wr _ q4
      obtain ⟨⟨k0, k1⟩, ⟨k2, k3⟩⟩ := HC9.out.below HBx
      have kz2 := (HC9.out.below HBx).lt
      clear HBx hx q1 q2
      go_wp2_with (fail)
      refine wp_region_calm (by kernel_rfl) (by kernel_rfl) ?_
      (repeat (first | go_big_quiet_step ((go_at_call 21; exact calm_call (sopen_none _ _))) | quiet_step ((go_at_call 21; exact calm_call (sopen_none _ _)))))
      refine wpQuiet_nil ?_
      intro u
      go_wp2
      go_roundg (n - (j + 1))
      case measure => omega
      case rel => exact ⟨j + 1, by omega, by go_num, gr2 HBo.out u.below⟩
    · have t3 : decide ((j : Int) < n) = false := by simp; omega
      clear HBx
      go_wp2
      go_ret
      exact ⟨rfl, gr2 HB8.out HBo.out⟩
end Go.Proofs.Ytbdnnkokkgdhnaa
