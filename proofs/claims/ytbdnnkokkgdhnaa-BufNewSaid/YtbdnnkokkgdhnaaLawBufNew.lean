/- BufNew: the walk: it returns true. -/
import Derived.Test.YtbdnnkokkgdhnaaBufV
namespace Go.Proofs.Ytbdnnkokkgdhnaa
open Go.RowKit

set_option maxRecDepth 100000 in
set_option maxHeartbeats 4000000 in
theorem walk_BufNew (n : Int) (vc : Value) (m : Nat) (f : Nat → Int) (w : World) (Hc : Nums .u8 vc m f w) (hm : m ≤ 9223372036854775807) (_bn : -9223372036854775808 ≤ n ∧ n ≤ 9223372036854775807) :
    Calls Try.prog 5 #[.int .i64 n, vc] w fun e w' => e = .returned (.bool true) ∧ Below w.heap.size w w' := by
  have HC := hid2 Hc
  obtain ⟨qc, cc, rfl⟩ := Hc.form
  have HW := hid2 Hc.1
  clear Hc
  have hm0 : (0 : Int) ≤ m := by omega
  by_cases hle : m ≤ 200
  · have t1 : decide ((200 : Int) < (m : Int)) = false := by simp; omega
    have hm1 : (m : Int) ≤ 200 := by omega
    obtain ⟨u, hu⟩ : ∃ u, u = (if (300 : Int) < n then 300 else n) := ⟨_, rfl⟩
    obtain ⟨mm, hmm⟩ : ∃ mm : Nat, (mm : Int) = (if (0 : Int) < u then u else 0) := ⟨(if (0 : Int) < u then u else 0).toNat, by split <;> omega⟩
    have hmm1 : mm ≤ 300 := by rw [hu] at hmm; split at hmm <;> (try split at hmm) <;> omega
    have g1 := hu.symm
    have g2 := hmm.symm
    have hmmL : (List.replicate mm (0 : Int)).length = mm := List.length_replicate
    have hmm2 : (mm : Int) ≤ 300 := by omega
    clear hu hmm
    by_cases hok : 0 ≤ n ∧ n ≤ 1048576
    · obtain ⟨N, rfl⟩ : ∃ N : Nat, n = N := ⟨n.toNat, by omega⟩
      have k0 : decide ((0 : Int) ≤ N) = true := by simp
      have k1 : decide ((N : Int) ≤ 1048576) = true := by simp; omega
      have hN : N ≤ 1048576 := by omega
      have hN1 : (N : Int) ≤ 1048576 := by omega
      have hN0 : (0 : Int) ≤ N := by omega
      go_enter Try.func5, Try.ntmps5
      go_wp2_with (first
        | (go_at_call 17; (with_reducible refine (bnew_0 w1 mm (by omega)).mono ?_); rintro e w2 ⟨s, rfl, K2⟩)
        | (go_at_call 17; (with_reducible refine (bnew_0 w N hN).mono ?_); rintro e w1 ⟨a, rfl, K1⟩; have HB1 := hid2 K1.below; obtain ⟨va, ca⟩ := K1.bufc; have HA1 := hid2 ca; clear ca K1)
        | (go_at_call 26; (with_reducible refine (bopen_ K2 (by simp; omega) (by simp; omega)).mono ?_); rintro e w3 ⟨vl, rfl, I3, K3, _⟩; have hb3 := K3.below; rw [hmmL] at K3; obtain ⟨ql, cl, hql, F3⟩ := I3.form; rw [hmmL] at hql; subst hql; have HF3 := hid2 F3; clear F3 K2 K3 I3))
      have HB3 := hid2 (gr2 HB1.out hb3)
      have HA3 := hid2 (HA1.out.calm hb3)
      have HC3 := hid2 (HC.out.below HB3.out)
      clear hb3
      go_loopg [10] mm (fun gj i wr => ∃ jj : Nat, jj + gj = mm ∧ i = .int .i64 jj ∧ Below w3.heap.size w3 wr)
      case atStart => exact ⟨0, Nat.zero_add _, rfl, gr0 _⟩
      case round =>
        obtain ⟨j, hj, rfl, HBr⟩ := hrel
        have hj9 : (0 : Int) ≤ j := by omega
        have hj7 : (j : Int) ≤ 300 := by omega
        by_cases hlt : j < mm
        · have t2 : decide ((j : Int) < mm) = true := by simp; omega
          have hj8 : (j : Int) < mm := by omega
          obtain ⟨g, rfl, _, _, hg1, d1, _⟩ := HF3.out j 0 (by rw [List.getElem?_replicate]; simp [hlt])
          have d2 := (HBr.cell (p := ⟨g, j, none⟩) hg1).trans d1
          have z2 := World.block_lt_of_cell? wr _ d2
          have HBo := hid2 HBr
          clear HBr d1
          go_wp2
          go_roundg (mm - (j + 1))
          case measure => omega
          case rel => exact ⟨j + 1, by omega, by go_num, HBo.out⟩
        · have t2 : decide ((j : Int) < mm) = false := by simp; omega
          have hjn : j = mm := by omega
          have HBr2 := hid2 HBr
          have HCr := hid2 (HC3.out.below HBr)
          clear hjn
          go_wp2_with (first
            | (go_at_call 27; (with_reducible refine (bfrom_0 HCr.out (by omega)).mono ?_); rintro e w5 ⟨b5, rfl, K5⟩)
            | (go_at_call 26; (with_reducible refine (bopen_ K5 (by rw [lst_len]; simp; omega) (by rw [lst_len]; omega)).mono ?_); rintro e w6 ⟨vk, rfl, I6, K6, _⟩; have hb6 := K6.below; obtain ⟨qk, ck, hqk, F6⟩ := I6.form; rw [lst_len] at hqk; subst hqk; have HF6 := hid2 F6; clear F6 K5 K6 I6))
          have HB6 := hid2 (gr2 (gr2 HB3.out HBr2.out) hb6)
          have HA6 := hid2 ((HA3.out.calm HBr2.out).calm hb6)
          have HC6 := hid2 (HCr.out.below hb6)
          clear hb6
          go_loopg [13] m (fun gj i wr => ∃ jj : Nat, jj + gj = m ∧ i = .int .i64 jj ∧ Below w6.heap.size w6 wr)
          case atStart => exact ⟨0, Nat.zero_add _, rfl, gr0 _⟩
          case round =>
            obtain ⟨k, hk, rfl, HBx⟩ := hrel
            have hk9 : (0 : Int) ≤ k := by omega
            have hk7 : (k : Int) ≤ 200 := by omega
            by_cases hlk : k < m
            · have t3 : decide ((k : Int) < m) = true := by simp; omega
              have hk8 : (k : Int) < m := by omega
              obtain ⟨g, rfl, _, _, hg1, d1, _⟩ := HF6.out k (f k) (lst_at f hlk)
              obtain ⟨cb, co, rfl, hz, a1⟩ := HC6.out.at_ rfl k hlk
              have d2 := (HBx.cell (p := ⟨g, k, none⟩) hg1).trans d1
              have z2 := World.block_lt_of_cell? wr _ d2
              have a2 := (HBx.cell (p := ⟨cb, co + k, none⟩) hz).trans a1
              have a3 := World.block_lt_of_cell? wr _ a2
              obtain ⟨hx0, hx1⟩ := wfU8 (HW.out k hlk)
              have HBo := hid2 HBx
              generalize hxx : f k = x at *
              have hwr : IntKind.i64.wrap x = x := by rw [IntKind.wrap_i64]; omega
              clear HBx d1 a1 hxx
              go_wp2_with (fail)
              refine wp_region_calm (by kernel_rfl) (by kernel_rfl) ?_
              (repeat (first | go_big_quiet_step (fail) | quiet_step (fail)))
              try rw [hwr]
              refine wpQuiet_nil ?_
              intro u
              go_wp2
              go_roundg (m - (k + 1))
              case measure => omega
              case rel => exact ⟨k + 1, by omega, by go_num, gr2 HBo.out u.below⟩
            · have t3 : decide ((k : Int) < m) = false := by simp; omega
              have HBo := hid2 HBx
              clear HBx
              go_wp2_with (first
                | (go_at_call 15; (with_reducible refine (known04 _).mono ?_); rintro e w7 ⟨rfl, hb7⟩; have HA7 := hid2 ((HA6.out.calm HBo.out).calm hb7); have HB7 := hid2 (gr2 (gr2 HB6.out HBo.out) hb7))
                | (go_at_call 23; (with_reducible refine (blen_ HA7.out).mono ?_); rintro e w8 ⟨rfl, hb8⟩; rw [List.length_replicate]; have HB8 := hid2 (gr2 HB7.out hb8)))
              go_ret
              exact ⟨rfl, HB8.out⟩
    · have hno : n < 0 ∨ 1048576 < n := by omega
      by_cases hn0 : 0 ≤ n
      · have k0 : decide ((0 : Int) ≤ n) = true := by simp; omega
        have k1 : decide (n ≤ 1048576) = false := by simp; omega
        have e0 : (mm : Int) = 300 := by have g1' := g1; have g2' := g2; split at g1' <;> split at g2' <;> omega
        have e1 : ((mm : Int) == 300) = true := by rw [beq_iff_eq]; exact e0
        have HE0 := hid2 e0
        clear e0 g1 g2
        go_enter Try.func5, Try.ntmps5
        go_wp2_with (first
          | (go_at_call 17; have hc2 := bnew_0 w1 mm (by omega); rw [HE0.out] at hc2; (with_reducible refine hc2.mono ?_); rintro e w2 ⟨s, rfl, K2⟩)
          | (go_at_call 17; (with_reducible refine (bnew_0n w n hno).mono ?_); rintro e w1 ⟨rfl, hb1⟩; have HB1 := hid2 hb1; clear hb1)
          | (go_at_call 26; (with_reducible refine (bopen_ K2 (by simp; omega) (by simp; omega)).mono ?_); rintro e w3 ⟨vl, rfl, I3, K3, _⟩; have hb3 := K3.below; rw [hmmL] at K3; obtain ⟨ql, cl, hql, F3⟩ := I3.form; rw [hmmL] at hql; subst hql; have HF3 := hid2 F3; clear F3 K2 K3 I3))
        have HB3 := hid2 (gr2 HB1.out hb3)
        have HC3 := hid2 (HC.out.below HB3.out)
        clear hb3
        go_loopg [10] mm (fun gj i wr => ∃ jj : Nat, jj + gj = mm ∧ i = .int .i64 jj ∧ Below w3.heap.size w3 wr)
        case atStart => exact ⟨0, Nat.zero_add _, rfl, gr0 _⟩
        case round =>
          obtain ⟨j, hj, rfl, HBr⟩ := hrel
          have hj9 : (0 : Int) ≤ j := by omega
          have hj7 : (j : Int) ≤ 300 := by omega
          by_cases hlt : j < mm
          · have t2 : decide ((j : Int) < mm) = true := by simp; omega
            have hj8 : (j : Int) < mm := by omega
            obtain ⟨g, rfl, _, _, hg1, d1, _⟩ := HF3.out j 0 (by rw [List.getElem?_replicate]; simp [hlt])
            have d2 := (HBr.cell (p := ⟨g, j, none⟩) hg1).trans d1
            have z2 := World.block_lt_of_cell? wr _ d2
            have HBo := hid2 HBr
            clear HBr d1
            go_wp2
            go_roundg (mm - (j + 1))
            case measure => omega
            case rel => exact ⟨j + 1, by omega, by go_num, HBo.out⟩
          · have t2 : decide ((j : Int) < mm) = false := by simp; omega
            have hjn : j = mm := by omega
            have HBr2 := hid2 HBr
            have HCr := hid2 (HC3.out.below HBr)
            clear hjn
            go_wp2_with (first
              | (go_at_call 27; (with_reducible refine (bfrom_0 HCr.out (by omega)).mono ?_); rintro e w5 ⟨b5, rfl, K5⟩)
              | (go_at_call 26; (with_reducible refine (bopen_ K5 (by rw [lst_len]; simp; omega) (by rw [lst_len]; omega)).mono ?_); rintro e w6 ⟨vk, rfl, I6, K6, _⟩; have hb6 := K6.below; obtain ⟨qk, ck, hqk, F6⟩ := I6.form; rw [lst_len] at hqk; subst hqk; have HF6 := hid2 F6; clear F6 K5 K6 I6))
            have HB6 := hid2 (gr2 (gr2 HB3.out HBr2.out) hb6)
            have HC6 := hid2 (HCr.out.below hb6)
            clear hb6
            go_loopg [13] m (fun gj i wr => ∃ jj : Nat, jj + gj = m ∧ i = .int .i64 jj ∧ Below w6.heap.size w6 wr)
            case atStart => exact ⟨0, Nat.zero_add _, rfl, gr0 _⟩
            case round =>
              obtain ⟨k, hk, rfl, HBx⟩ := hrel
              have hk9 : (0 : Int) ≤ k := by omega
              have hk7 : (k : Int) ≤ 200 := by omega
              by_cases hlk : k < m
              · have t3 : decide ((k : Int) < m) = true := by simp; omega
                have hk8 : (k : Int) < m := by omega
                obtain ⟨g, rfl, _, _, hg1, d1, _⟩ := HF6.out k (f k) (lst_at f hlk)
                obtain ⟨cb, co, rfl, hz, a1⟩ := HC6.out.at_ rfl k hlk
                have d2 := (HBx.cell (p := ⟨g, k, none⟩) hg1).trans d1
                have z2 := World.block_lt_of_cell? wr _ d2
                have a2 := (HBx.cell (p := ⟨cb, co + k, none⟩) hz).trans a1
                have a3 := World.block_lt_of_cell? wr _ a2
                obtain ⟨hx0, hx1⟩ := wfU8 (HW.out k hlk)
                have HBo := hid2 HBx
                generalize hxx : f k = x at *
                have hwr : IntKind.i64.wrap x = x := by rw [IntKind.wrap_i64]; omega
                clear HBx d1 a1 hxx
                go_wp2_with (fail)
                refine wp_region_calm (by kernel_rfl) (by kernel_rfl) ?_
                (repeat (first | go_big_quiet_step (fail) | quiet_step (fail)))
                try rw [hwr]
                refine wpQuiet_nil ?_
                intro u
                go_wp2
                go_roundg (m - (k + 1))
                case measure => omega
                case rel => exact ⟨k + 1, by omega, by go_num, gr2 HBo.out u.below⟩
              · have t3 : decide ((k : Int) < m) = false := by simp; omega
                have HBo := hid2 HBx
                clear HBx
                go_wp2_with (first
                  | (go_at_call 15; (with_reducible refine (known04 _).mono ?_); rintro e w7 ⟨rfl, hb7⟩; have HB7 := hid2 (gr2 (gr2 HB6.out HBo.out) hb7))
                  | (fail))
                go_ret
                exact ⟨rfl, HB7.out⟩
      · have k0 : decide ((0 : Int) ≤ n) = false := by simp; omega
        have e0 : (mm : Int) = 0 := by have g1' := g1; have g2' := g2; split at g1' <;> split at g2' <;> omega
        have e1 : ((mm : Int) == 0) = true := by rw [beq_iff_eq]; exact e0
        have HE0 := hid2 e0
        clear e0 g1 g2
        go_enter Try.func5, Try.ntmps5
        go_wp2_with (first
          | (go_at_call 17; have hc2 := bnew_0 w1 mm (by omega); rw [HE0.out] at hc2; (with_reducible refine hc2.mono ?_); rintro e w2 ⟨s, rfl, K2⟩)
          | (go_at_call 17; (with_reducible refine (bnew_0n w n hno).mono ?_); rintro e w1 ⟨rfl, hb1⟩; have HB1 := hid2 hb1; clear hb1)
          | (go_at_call 26; (with_reducible refine (bopen_ K2 (by simp; omega) (by simp; omega)).mono ?_); rintro e w3 ⟨vl, rfl, I3, K3, _⟩; have hb3 := K3.below; rw [hmmL] at K3; obtain ⟨ql, cl, hql, F3⟩ := I3.form; rw [hmmL] at hql; subst hql; have HF3 := hid2 F3; clear F3 K2 K3 I3))
        have HB3 := hid2 (gr2 HB1.out hb3)
        have HC3 := hid2 (HC.out.below HB3.out)
        clear hb3
        go_loopg [10] mm (fun gj i wr => ∃ jj : Nat, jj + gj = mm ∧ i = .int .i64 jj ∧ Below w3.heap.size w3 wr)
        case atStart => exact ⟨0, Nat.zero_add _, rfl, gr0 _⟩
        case round =>
          obtain ⟨j, hj, rfl, HBr⟩ := hrel
          have hj9 : (0 : Int) ≤ j := by omega
          have hj7 : (j : Int) ≤ 300 := by omega
          by_cases hlt : j < mm
          · have t2 : decide ((j : Int) < mm) = true := by simp; omega
            have hj8 : (j : Int) < mm := by omega
            obtain ⟨g, rfl, _, _, hg1, d1, _⟩ := HF3.out j 0 (by rw [List.getElem?_replicate]; simp [hlt])
            have d2 := (HBr.cell (p := ⟨g, j, none⟩) hg1).trans d1
            have z2 := World.block_lt_of_cell? wr _ d2
            have HBo := hid2 HBr
            clear HBr d1
            go_wp2
            go_roundg (mm - (j + 1))
            case measure => omega
            case rel => exact ⟨j + 1, by omega, by go_num, HBo.out⟩
          · have t2 : decide ((j : Int) < mm) = false := by simp; omega
            have hjn : j = mm := by omega
            have HBr2 := hid2 HBr
            have HCr := hid2 (HC3.out.below HBr)
            clear hjn
            go_wp2_with (first
              | (go_at_call 27; (with_reducible refine (bfrom_0 HCr.out (by omega)).mono ?_); rintro e w5 ⟨b5, rfl, K5⟩)
              | (go_at_call 26; (with_reducible refine (bopen_ K5 (by rw [lst_len]; simp; omega) (by rw [lst_len]; omega)).mono ?_); rintro e w6 ⟨vk, rfl, I6, K6, _⟩; have hb6 := K6.below; obtain ⟨qk, ck, hqk, F6⟩ := I6.form; rw [lst_len] at hqk; subst hqk; have HF6 := hid2 F6; clear F6 K5 K6 I6))
            have HB6 := hid2 (gr2 (gr2 HB3.out HBr2.out) hb6)
            have HC6 := hid2 (HCr.out.below hb6)
            clear hb6
            go_loopg [13] m (fun gj i wr => ∃ jj : Nat, jj + gj = m ∧ i = .int .i64 jj ∧ Below w6.heap.size w6 wr)
            case atStart => exact ⟨0, Nat.zero_add _, rfl, gr0 _⟩
            case round =>
              obtain ⟨k, hk, rfl, HBx⟩ := hrel
              have hk9 : (0 : Int) ≤ k := by omega
              have hk7 : (k : Int) ≤ 200 := by omega
              by_cases hlk : k < m
              · have t3 : decide ((k : Int) < m) = true := by simp; omega
                have hk8 : (k : Int) < m := by omega
                obtain ⟨g, rfl, _, _, hg1, d1, _⟩ := HF6.out k (f k) (lst_at f hlk)
                obtain ⟨cb, co, rfl, hz, a1⟩ := HC6.out.at_ rfl k hlk
                have d2 := (HBx.cell (p := ⟨g, k, none⟩) hg1).trans d1
                have z2 := World.block_lt_of_cell? wr _ d2
                have a2 := (HBx.cell (p := ⟨cb, co + k, none⟩) hz).trans a1
                have a3 := World.block_lt_of_cell? wr _ a2
                obtain ⟨hx0, hx1⟩ := wfU8 (HW.out k hlk)
                have HBo := hid2 HBx
                generalize hxx : f k = x at *
                have hwr : IntKind.i64.wrap x = x := by rw [IntKind.wrap_i64]; omega
                clear HBx d1 a1 hxx
                go_wp2_with (fail)
                refine wp_region_calm (by kernel_rfl) (by kernel_rfl) ?_
                (repeat (first | go_big_quiet_step (fail) | quiet_step (fail)))
                try rw [hwr]
                refine wpQuiet_nil ?_
                intro u
                go_wp2
                go_roundg (m - (k + 1))
                case measure => omega
                case rel => exact ⟨k + 1, by omega, by go_num, gr2 HBo.out u.below⟩
              · have t3 : decide ((k : Int) < m) = false := by simp; omega
                have HBo := hid2 HBx
                clear HBx
                go_wp2_with (first
                  | (go_at_call 15; (with_reducible refine (known04 _).mono ?_); rintro e w7 ⟨rfl, hb7⟩; have HB7 := hid2 (gr2 (gr2 HB6.out HBo.out) hb7))
                  | (fail))
                go_ret
                exact ⟨rfl, HB7.out⟩
  · have t1 : decide ((200 : Int) < (m : Int)) = true := by simp; omega
    have hm1 : (m : Int) ≤ 9223372036854775807 := by omega
    go_enter Try.func5, Try.ntmps5
    go_wp2_with (first
      | (go_at_call 15; (with_reducible refine (known04 w).mono ?_); rintro e w0 ⟨rfl, hb0⟩))
    go_ret
    exact ⟨rfl, hb0⟩
end Go.Proofs.Ytbdnnkokkgdhnaa
