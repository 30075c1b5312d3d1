/- ScanWindows: the walk: it returns true. -/
import Derived.Test.YtbdnnkokkgdhnaaKnown05
import Derived.Test.YtbdnnkokkgdhnaaScanS
namespace Go.Proofs.Ytbdnnkokkgdhnaa
open Go.RowKit

theorem cnt_setE (A Z k : Nat) : cnt (setE A Z k) 1 = 2 * k ∧ cnt (setE A Z k) 2 = 1 := by
  induction k with
  | zero => exact ⟨rfl, rfl⟩
  | succ k ih =>
    have h : setE A Z (k + 1) = (setE A Z k ++ [(1, ((A + k : Nat) : Int))]) ++ [(1, ((A + k : Nat) : Int))] := by simp [setE]
    rw [h, cnt_snoc, cnt_snoc, cnt_snoc, cnt_snoc, ih.1, ih.2]
    simp
    omega
theorem putAt_get {n : Nat} {p x : Int} {A M i : Nat} (hi : i < n) : (putAt (List.replicate n 0) p x A M)[i]? = some (if (i : Int) = p ∧ A ≤ i ∧ i < M then x else 0) := by
  unfold putAt
  by_cases h : (A : Int) ≤ p ∧ p < M
  · rw [if_pos h]
    unfold setL
    by_cases h2 : inL (List.replicate n 0) p
    · rw [if_pos h2]
      by_cases h3 : (i : Int) = p
      · have h4 : p.toNat = i := by omega
        rw [h4, List.getElem?_set_self (by simpa using hi), if_pos ⟨h3, by omega, by omega⟩]
      · rw [List.getElem?_set_ne (by have := h2.1; omega), if_neg (fun h => h3 h.1)]
        simp [hi]
    · rw [if_neg h2, if_neg (fun h3 => h2 ⟨by omega, by rw [List.length_replicate]; omega⟩)]
      simp [hi]
  · rw [if_neg h, if_neg (fun h3 => h ⟨by omega, by omega⟩)]
    simp [hi]

set_option maxRecDepth 100000 in
set_option maxHeartbeats 4000000 in
theorem walk_ScanWindows (n fr t p s : Int) (w : World) (_bn : 0 ≤ n ∧ n ≤ 255) (_bf : 0 ≤ fr ∧ fr ≤ 255) (_bt : 0 ≤ t ∧ t ≤ 255) (_bp : 0 ≤ p ∧ p ≤ 255) (_bs : -9223372036854775808 ≤ s ∧ s ≤ 9223372036854775807) :
    Calls Try.prog 12 #[.int .u8 n, .int .u8 fr, .int .u8 t, .int .u8 p, .int .i64 s] w fun e w' => e = .returned (.bool true) ∧ Below w.heap.size w w' := by
  obtain ⟨m, hm⟩ : ∃ m : Nat, (m : Int) = n % 60 := ⟨(n % 60).toNat, by omega⟩
  have hm1 : ∀ c : Int, c = 60 → Int.tmod n c = m := by rintro c rfl; rw [Int.tmod_eq_emod_of_nonneg (by omega), hm]
  have hm2 : ∀ c : Int, c = 60 → n % c = m := by rintro c rfl; exact hm.symm
  have hm3 : (m : Int) ≤ 59 := by omega
  have hm4 : (0 : Int) ≤ m := by omega
  clear hm
  have hs : I64 s := _bs
  have hpI : I64 p := by unfold I64; omega
  have hAe : ((clipN m fr : Nat) : Int) = if (m : Int) < fr then (m : Int) else fr := by unfold clipN; rw [if_neg (by omega)]; split <;> omega
  have hZe : ((clipN m t : Nat) : Int) = if (m : Int) < t then (m : Int) else t := by unfold clipN; rw [if_neg (by omega)]; split <;> omega
  have hAm := clipN_le m fr
  have hZm := clipN_le m t
  obtain ⟨A, hA⟩ : ∃ A, A = clipN m fr := ⟨_, rfl⟩
  obtain ⟨Z, hZ⟩ : ∃ Z, Z = clipN m t := ⟨_, rfl⟩
  rw [← hA] at hAe hAm
  rw [← hZ] at hZe hZm
  have HA := hid2 hA
  have HZ := hid2 hZ
  obtain ⟨M, hM⟩ : ∃ M, M = max A Z := ⟨_, rfl⟩
  have hMm : M ≤ m ∧ A ≤ M := by rw [hM, Nat.max_def]; split <;> omega
  have g1 := hAe.symm
  have g2 := hZe.symm
  have g3 : (if (Z : Int) < A then (A : Int) else (Z : Int)) = M := by rw [hM, Nat.max_def]; split <;> split <;> omega
  have HM := hid2 hM
  have hA0 : (0 : Int) ≤ A := by omega
  have hZ0 : (0 : Int) ≤ Z := by omega
  have hM0 : (0 : Int) ≤ M := by omega
  have hA1 : (A : Int) ≤ 59 := by omega
  have hZ1 : (Z : Int) ≤ 59 := by omega
  have hM1 : (M : Int) ≤ 59 := by omega
  have hAM : (A : Int) ≤ M := by omega
  have HC := hid2 (cnt_setE A Z (M - A))
  clear hA hZ hAe hZe hM
  by_cases hAZ : Z < A
  · have hZA : (Z : Int) < A := by omega
    have hMA : A = M := by rw [HM.out, Nat.max_def]; split <;> omega
    subst hMA
    have f1 : ((2 * (A - A) : Nat) : Int) = 0 := by omega
    go_enter Try.func12, Try.ntmps12
    go_wp2_with (first
      | (go_at_call 16; (with_reducible refine (new_ w).mono ?_); rintro e w1 ⟨rfl, hw1⟩; have H1 := one_new w; rw [← hw1] at H1; clear hw1; obtain ⟨fr0, r1, t1⟩ := One.ro (E := []) H1; clear H1)
      | (go_at_call 17; (refine (bnew_ (some w.heap.size) w1 m (by omega)).mono ?_); rintro e w2 ⟨b, rfl, hN⟩; have K2 := hN.one r1 t1; clear hN r1 t1)
      | (go_at_call 19; (with_reducible refine (sec_of s w3).mono ?_); rintro e w4 ⟨rfl, hb4⟩; have K5 := K4.calm hb4; clear K4)
      | (go_at_call 19; (with_reducible refine (sec_of p w2).mono ?_); rintro e w3 ⟨rfl, hb3⟩; have K4 := K2.calm hb3; clear K2)
      | (go_at_call 40; (with_reducible refine (sstore_ K5 (by simp) (by simp; omega) (fun y hy => by rw [(List.mem_replicate.1 hy).2]; unfold I64; omega) p s fr t hpI hs).mono ?_); rintro e w6 ⟨rfl, k6, _⟩; rw [List.length_replicate, ← HA.out, ← HZ.out, ← HM.out] at k6; have K6 := hid2 k6; obtain ⟨v6, B6⟩ := k6.bufc; clear k6 K5)
      | (go_at_call 25; (with_reducible refine (bwords_ B6 (by rw [putAt_len]; simp; omega)).mono ?_); rintro e w7 ⟨vx, rfl, S7, hb7⟩; have K7 := hid2 (K6.out.calm hb7); obtain ⟨qx, cx, hqx, F7⟩ := S7.form; rw [putAt_len, List.length_replicate] at hqx; subst hqx; have HF7 := hid2 F7; clear F7 S7 B6 hb7))
    go_loopg [17] m (fun gj i wr => ∃ jj : Nat, jj + gj = m ∧ i = .int .i64 jj ∧ Below w7.heap.size w7 wr)
    case atStart => exact ⟨0, Nat.zero_add _, rfl, gr0 _⟩
    case round =>
        obtain ⟨i, hi, rfl, HBx⟩ := hrel
        have hi9 : (0 : Int) ≤ i := by omega
        have hi7 : (i : Int) ≤ 59 := by omega
        have HBo := hid2 HBx
        clear HBx
        by_cases hlt : i < m
        · have t2 : decide ((i : Int) < m) = true := by simp; omega
          have hi8 : (i : Int) < m := by omega
          have hv := putAt_get (p := p) (x := s) (A := A) (M := A) hlt
          by_cases c0 : (i : Int) = p
          · have e0 : ((i : Int) == p) = true := by rw [beq_iff_eq]; exact c0
            by_cases c1 : A ≤ i
            · have d1 : decide ((A : Int) ≤ i) = true := by simp; omega
              by_cases c2 : i < A
              · have d2 : decide ((i : Int) < A) = true := by simp; omega
                rw [if_pos ⟨c0, c1, c2⟩] at hv
                obtain ⟨g, rfl, _, _, hg1, q1, _⟩ := HF7.out i _ hv
                have q2 := (HBo.out.cell (p := ⟨g, i, none⟩) hg1).trans q1
                have q3 := World.block_lt_of_cell? wr _ q2
                clear hv q1 c0
                go_wp2_with (go_at_call 21; (with_reducible refine (sopen_none s wr).mono ?_); rintro e w8 ⟨rfl, hb8⟩)
                go_roundg (m - (i + 1))
                case measure => omega
                case rel => exact ⟨i + 1, by omega, by go_num, gr2 HBo.out hb8⟩
              · have d2 : decide ((i : Int) < A) = false := by simp; omega
                rw [if_neg (fun h => c2 h.2.2)] at hv
                obtain ⟨g, rfl, _, _, hg1, q1, _⟩ := HF7.out i _ hv
                have q2 := (HBo.out.cell (p := ⟨g, i, none⟩) hg1).trans q1
                have q3 := World.block_lt_of_cell? wr _ q2
                clear hv q1 c0
                go_wp2_with (go_at_call 21; (with_reducible refine (sopen_none 0 wr).mono ?_); rintro e w8 ⟨rfl, hb8⟩)
                go_roundg (m - (i + 1))
                case measure => omega
                case rel => exact ⟨i + 1, by omega, by go_num, gr2 HBo.out hb8⟩
            · have d1 : decide ((A : Int) ≤ i) = false := by simp; omega
              rw [if_neg (fun h => c1 h.2.1)] at hv
              obtain ⟨g, rfl, _, _, hg1, q1, _⟩ := HF7.out i _ hv
              have q2 := (HBo.out.cell (p := ⟨g, i, none⟩) hg1).trans q1
              have q3 := World.block_lt_of_cell? wr _ q2
              clear hv q1 c0
              go_wp2_with (go_at_call 21; (with_reducible refine (sopen_none 0 wr).mono ?_); rintro e w8 ⟨rfl, hb8⟩)
              go_roundg (m - (i + 1))
              case measure => omega
              case rel => exact ⟨i + 1, by omega, by go_num, gr2 HBo.out hb8⟩
          · have e0 : ((i : Int) == p) = false := by rw [beq_eq_false_iff_ne]; exact c0
            rw [if_neg (fun h => c0 h.1)] at hv
            obtain ⟨g, rfl, _, _, hg1, q1, _⟩ := HF7.out i _ hv
            have q2 := (HBo.out.cell (p := ⟨g, i, none⟩) hg1).trans q1
            have q3 := World.block_lt_of_cell? wr _ q2
            clear hv q1 c0
            go_wp2_with (go_at_call 21; (with_reducible refine (sopen_none 0 wr).mono ?_); rintro e w8 ⟨rfl, hb8⟩)
            go_roundg (m - (i + 1))
            case measure => omega
            case rel => exact ⟨i + 1, by omega, by go_num, gr2 HBo.out hb8⟩
        · have t2 : decide ((i : Int) < m) = false := by simp; omega
          have K8 := hid2 (K7.out.calm HBo.out)
          go_wp2_with (first
            | (go_at_call 35; (with_reducible refine (known05 _).mono ?_); rintro e w9 ⟨rfl, hb9⟩; have K9 := hid2 (K8.out.calm hb9); have hrn := K9.out.rn; have hle : (addO (some w.heap.size) [] (setE A Z (A - A))).length ≤ 1000000 := Nat.le_trans (addO_len _ _ _) (by rw [setE_len]; simp only [List.length_nil]; omega); have hcn : cnt (addO (some w.heap.size) [] (setE A Z (A - A))) 1 = 2 * (A - A) ∧ cnt (addO (some w.heap.size) [] (setE A Z (A - A))) 2 = 1 := HC.out; have HCN := hid2 hcn; have HRN := hid2 hrn; clear hcn hrn)
            | (go_at_call 42; (with_reducible refine (countp_ (HRN.out.below hb10) hle 2).mono ?_); rintro e w11 ⟨rfl, hb11⟩; rw [HCN.out.2])
            | (go_at_call 42; (with_reducible refine (countp_ HRN.out hle 1).mono ?_); rintro e w10 ⟨rfl, hb10⟩; rw [HCN.out.1]))
          go_ret
          exact ⟨rfl, gr2 (gr2 K9.out.below hb10) hb11⟩
  · have hZA : (A : Int) ≤ Z := by omega
    have hMA : Z = M := by rw [HM.out, Nat.max_def]; split <;> omega
    subst hMA
    have f1 : (((2 * (Z - A) : Nat) : Int) == 2 * ((Z : Int) - A)) = true := by rw [beq_iff_eq]; omega
    go_enter Try.func12, Try.ntmps12
    go_wp2_with (first
      | (go_at_call 16; (with_reducible refine (new_ w).mono ?_); rintro e w1 ⟨rfl, hw1⟩; have H1 := one_new w; rw [← hw1] at H1; clear hw1; obtain ⟨fr0, r1, t1⟩ := One.ro (E := []) H1; clear H1)
      | (go_at_call 17; (refine (bnew_ (some w.heap.size) w1 m (by omega)).mono ?_); rintro e w2 ⟨b, rfl, hN⟩; have K2 := hN.one r1 t1; clear hN r1 t1)
      | (go_at_call 19; (with_reducible refine (sec_of s w3).mono ?_); rintro e w4 ⟨rfl, hb4⟩; have K5 := K4.calm hb4; clear K4)
      | (go_at_call 19; (with_reducible refine (sec_of p w2).mono ?_); rintro e w3 ⟨rfl, hb3⟩; have K4 := K2.calm hb3; clear K2)
      | (go_at_call 40; (with_reducible refine (sstore_ K5 (by simp) (by simp; omega) (fun y hy => by rw [(List.mem_replicate.1 hy).2]; unfold I64; omega) p s fr t hpI hs).mono ?_); rintro e w6 ⟨rfl, k6, _⟩; rw [List.length_replicate, ← HA.out, ← HZ.out, ← HM.out] at k6; have K6 := hid2 k6; obtain ⟨v6, B6⟩ := k6.bufc; clear k6 K5)
      | (go_at_call 25; (with_reducible refine (bwords_ B6 (by rw [putAt_len]; simp; omega)).mono ?_); rintro e w7 ⟨vx, rfl, S7, hb7⟩; have K7 := hid2 (K6.out.calm hb7); obtain ⟨qx, cx, hqx, F7⟩ := S7.form; rw [putAt_len, List.length_replicate] at hqx; subst hqx; have HF7 := hid2 F7; clear F7 S7 B6 hb7))
    go_loopg [17] m (fun gj i wr => ∃ jj : Nat, jj + gj = m ∧ i = .int .i64 jj ∧ Below w7.heap.size w7 wr)
    case atStart => exact ⟨0, Nat.zero_add _, rfl, gr0 _⟩
    case round =>
        obtain ⟨i, hi, rfl, HBx⟩ := hrel
        have hi9 : (0 : Int) ≤ i := by omega
        have hi7 : (i : Int) ≤ 59 := by omega
        have HBo := hid2 HBx
        clear HBx
        by_cases hlt : i < m
        · have t2 : decide ((i : Int) < m) = true := by simp; omega
          have hi8 : (i : Int) < m := by omega
          have hv := putAt_get (p := p) (x := s) (A := A) (M := Z) hlt
          by_cases c0 : (i : Int) = p
          · have e0 : ((i : Int) == p) = true := by rw [beq_iff_eq]; exact c0
            by_cases c1 : A ≤ i
            · have d1 : decide ((A : Int) ≤ i) = true := by simp; omega
              by_cases c2 : i < Z
              · have d2 : decide ((i : Int) < Z) = true := by simp; omega
                rw [if_pos ⟨c0, c1, c2⟩] at hv
                obtain ⟨g, rfl, _, _, hg1, q1, _⟩ := HF7.out i _ hv
                have q2 := (HBo.out.cell (p := ⟨g, i, none⟩) hg1).trans q1
                have q3 := World.block_lt_of_cell? wr _ q2
                clear hv q1 c0
                go_wp2_with (go_at_call 21; (with_reducible refine (sopen_none s wr).mono ?_); rintro e w8 ⟨rfl, hb8⟩)
                go_roundg (m - (i + 1))
                case measure => omega
                case rel => exact ⟨i + 1, by omega, by go_num, gr2 HBo.out hb8⟩
              · have d2 : decide ((i : Int) < Z) = false := by simp; omega
                rw [if_neg (fun h => c2 h.2.2)] at hv
                obtain ⟨g, rfl, _, _, hg1, q1, _⟩ := HF7.out i _ hv
                have q2 := (HBo.out.cell (p := ⟨g, i, none⟩) hg1).trans q1
                have q3 := World.block_lt_of_cell? wr _ q2
                clear hv q1 c0
                go_wp2_with (go_at_call 21; (with_reducible refine (sopen_none 0 wr).mono ?_); rintro e w8 ⟨rfl, hb8⟩)
                go_roundg (m - (i + 1))
                case measure => omega
                case rel => exact ⟨i + 1, by omega, by go_num, gr2 HBo.out hb8⟩
            · have d1 : decide ((A : Int) ≤ i) = false := by simp; omega
              rw [if_neg (fun h => c1 h.2.1)] at hv
              obtain ⟨g, rfl, _, _, hg1, q1, _⟩ := HF7.out i _ hv
              have q2 := (HBo.out.cell (p := ⟨g, i, none⟩) hg1).trans q1
              have q3 := World.block_lt_of_cell? wr _ q2
              clear hv q1 c0
              go_wp2_with (go_at_call 21; (with_reducible refine (sopen_none 0 wr).mono ?_); rintro e w8 ⟨rfl, hb8⟩)
              go_roundg (m - (i + 1))
              case measure => omega
              case rel => exact ⟨i + 1, by omega, by go_num, gr2 HBo.out hb8⟩
          · have e0 : ((i : Int) == p) = false := by rw [beq_eq_false_iff_ne]; exact c0
            rw [if_neg (fun h => c0 h.1)] at hv
            obtain ⟨g, rfl, _, _, hg1, q1, _⟩ := HF7.out i _ hv
            have q2 := (HBo.out.cell (p := ⟨g, i, none⟩) hg1).trans q1
            have q3 := World.block_lt_of_cell? wr _ q2
            clear hv q1 c0
            go_wp2_with (go_at_call 21; (with_reducible refine (sopen_none 0 wr).mono ?_); rintro e w8 ⟨rfl, hb8⟩)
            go_roundg (m - (i + 1))
            case measure => omega
            case rel => exact ⟨i + 1, by omega, by go_num, gr2 HBo.out hb8⟩
        · have t2 : decide ((i : Int) < m) = false := by simp; omega
          have K8 := hid2 (K7.out.calm HBo.out)
          go_wp2_with (first
            | (go_at_call 35; (with_reducible refine (known05 _).mono ?_); rintro e w9 ⟨rfl, hb9⟩; have K9 := hid2 (K8.out.calm hb9); have hrn := K9.out.rn; have hle : (addO (some w.heap.size) [] (setE A Z (Z - A))).length ≤ 1000000 := Nat.le_trans (addO_len _ _ _) (by rw [setE_len]; simp only [List.length_nil]; omega); have hcn : cnt (addO (some w.heap.size) [] (setE A Z (Z - A))) 1 = 2 * (Z - A) ∧ cnt (addO (some w.heap.size) [] (setE A Z (Z - A))) 2 = 1 := HC.out; have HCN := hid2 hcn; have HRN := hid2 hrn; clear hcn hrn)
            | (go_at_call 42; (with_reducible refine (countp_ (HRN.out.below hb10) hle 2).mono ?_); rintro e w11 ⟨rfl, hb11⟩; rw [HCN.out.2])
            | (go_at_call 42; (with_reducible refine (countp_ HRN.out hle 1).mono ?_); rintro e w10 ⟨rfl, hb10⟩; rw [HCN.out.1]))
          go_ret
          exact ⟨rfl, gr2 (gr2 K9.out.below hb10) hb11⟩
end Go.Proofs.Ytbdnnkokkgdhnaa
