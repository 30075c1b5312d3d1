/- BufApart: the walk: it returns true. -/
import Derived.Test.YtbdnnkokkgdhnaaBufX
namespace Go.Proofs.Ytbdnnkokkgdhnaa
open Go.RowKit

theorem t2_one {w0 W : World} {g : Nat} (hb : Below w0.heap.size w0 W) (hg : g < W.heap.size) : T2 w0 W [] [] [g] := ⟨fun x hx => by simp at hx, fun x hx => (nomatch hx), fun x _ => ⟨(fun h => nomatch h), (fun h => nomatch h)⟩, fun x hx => by simp at hx; omega, hb⟩
theorem Bufc.set {W : World} {b g i : Nat} {o : Option Nat} {v u : Value} {L : List Int} (h : Bufc W b o v L) (hb : b ≠ g) (hv : ∀ x ∈ vb v, x ≠ g) : Bufc (W.setCell ⟨g, i, none⟩ u) b o v L :=
  h.frame (heap_setCell_other _ ⟨g, i, none⟩ b _ hb) fun x hx => heap_setCell_other _ ⟨g, i, none⟩ x _ (hv x hx)

set_option maxRecDepth 100000 in
set_option maxHeartbeats 4000000 in
theorem walk_BufApart (vl : Value) (n : Nat) (f : Nat → Int) (i x : Int) (w : World) (Hl : Nums .i64 vl n f w) (hm : n ≤ 9223372036854775807) (_bi : 0 ≤ i ∧ i ≤ 255) (_bx : -9223372036854775808 ≤ x ∧ x ≤ 9223372036854775807) :
    Calls Try.prog 4 #[vl, .int .u8 i, .int .i64 x] w fun e w' => e = .returned (.bool true) ∧ Below w.heap.size w w' := by
  have HC := hid2 Hl
  obtain ⟨ql, cl, rfl⟩ := Hl.form
  have HW := hid2 Hl.1
  clear Hl
  have hn0 : (0 : Int) ≤ n := by omega
  by_cases hle : n ≤ 40
  · have t1 : decide ((40 : Int) < (n : Int)) = false := by simp; omega
    by_cases hz : n = 0
    · subst hz
      go_enter Try.func4, Try.ntmps4
      go_wp2_with (first
        | (go_at_call 15; (with_reducible refine (known04 w).mono ?_); rintro e w0 ⟨rfl, hb0⟩))
      go_ret
      exact ⟨rfl, hb0⟩
    · have t2 : ((n : Int) == 0) = false := by rw [beq_eq_false_iff_ne]; omega
      have hn1 : (n : Int) ≤ 40 := by omega
      have hnp : 0 < n := by omega
      obtain ⟨r, hr⟩ : ∃ r : Nat, (r : Int) = i % n := ⟨(i % n).toNat, by have := Int.emod_nonneg i (show (n : Int) ≠ 0 by omega); omega⟩
      have hrn : r < n := by have := Int.emod_lt_of_pos i (show (0 : Int) < n by omega); omega
      have hr0 : (0 : Int) ≤ r := by omega
      have hr1 : (r : Int) < n := by omega
      have hq1 : Int.tmod i (n : Int) = r := by rw [Int.tmod_eq_emod_of_nonneg (by omega), hr]
      have hq2 : i % (n : Int) = r := hr.symm
      have hwi : IntKind.i64.wrap i = i := by rw [IntKind.wrap_i64]; omega
      have hwr : IntKind.i64.wrap (r : Int) = r := by rw [IntKind.wrap_i64]; omega
      clear hr
      obtain ⟨i0, hi, hz0, hz1, hz2⟩ := info_parts info_sec
      go_enter Try.func4, Try.ntmps4
      go_wp2
      go_loopg [7, 8] n (fun gj vs k wr => ∃ jj : Nat, jj + gj = n ∧ k = .int .i64 jj ∧ Secs w.heap.size wr vs (lst f jj) ∧ Below w.heap.size w wr)
      case atStart => exact ⟨0, Nat.zero_add _, rfl, World.ownsRow_nil _ _ _ _, gr0 _⟩
      case round =>
        obtain ⟨j, hj, rfl, HS, HB⟩ := hrel
        have hj9 : (0 : Int) ≤ j := by omega
        have hj7 : (j : Int) ≤ 40 := by omega
        obtain ⟨p, cv, hpv⟩ := own_form HS
        rw [lst_len] at hpv
        subst hpv
        have HS2 := hid2 HS
        have HB2 := hid2 HB
        have HLn := hid2 (lst_len f j)
        clear HS
        by_cases hlt : j < n
        · have t3 : decide ((j : Int) < n) = true := by simp; omega
          have hj8 : (j : Int) < n := by omega
          obtain ⟨cb, co, rfl, hz, a1⟩ := HC.out.at_ rfl j hlt
          have a2 := (HB.cell (p := ⟨cb, co + j, none⟩) hz).trans a1
          have a3 := World.block_lt_of_cell? wr _ a2
          have HX := hid2 (lst_succ f j)
          generalize hxx : f j = x at *
          clear a1 hxx HB
          go_wp2_with (first
            | (go_at_call 19; (with_reducible refine (sec_of x _).mono ?_); rintro e w2 ⟨rfl, hb2⟩; have hrow := World.ownsRow.alloc (HS2.out.below hb2) (.cells #[.int .i64 x] 29); rw [HLn.out] at hrow; have HR := hid2 hrow; have hz2' := gr2 HB2.out hb2; have hz3 := hz2'.size; have HB3 := hid2 hz2'; clear hrow hz2')
            | (at_builtin; refine wpList_append_lies _ rfl _ _ 37 rfl w.heap.size 29 i0 _ 1 8 Try.underlying37 hi hz0 hz1 hz2 rfl (by omega) _ j _ rfl HR.out ⟨w2.heap.size, 0, none⟩ 1 1 [.int .i64 x] rfl rfl (World.news_of_block (cs := #[.int .i64 x]) (heap_alloc_new w2 _)) (by simp [Value.oneCell']) (by omega) (by unfold maxLen; omega) (by omega) (by simp; omega) (w2.heap.size + 1) (by simp) ?_; intro gg cap1 w4 hown4 hgrow4 hat4 hlt4; have hb4 := gr5 (gr1 HB3.out (.cells #[.int .i64 x] 29)) hgrow4 (fun k hk => (HR.out.lt k hk).1); have HO4 := hid2 hown4; have HB4 := hid2 hb4; clear hown4 hgrow4 hat4 hb4))
          go_roundg (n - (j + 1))
          case measure => omega
          case rel => exact ⟨j + 1, by omega, by go_num, by rw [HX.out]; unfold Secs; rw [List.length_append, HLn.out, List.map_append]; exact HO4.out, HB4.out⟩
        · have t3 : decide ((j : Int) < n) = false := by simp; omega
          have hjn : j = n := by omega
          subst hjn
          obtain ⟨gs, rfl, hvb, hgs, hgz, _, _⟩ : ∃ gs, p = some ⟨gs, 0, none⟩ ∧ vb (.slice p j cv) = [gs] ∧ w.heap.size ≤ gs ∧ gs < wr.heap.size ∧ True ∧ True := by
            obtain ⟨q', c', hq', hf⟩ := HS2.out.form
            rw [lst_len] at hq'
            cases hq'
            obtain ⟨g, h1, h2, h3, h4, _⟩ := hf 0 (f 0) (lst_at f hnp)
            exact ⟨g, h1, h2, h3, h4, trivial, trivial⟩
          clear HB
          go_wp2_with (go_at_call 24; refine (bof_ none HS2.out (by rw [lst_len]; omega)).mono ?_; rintro e w3 ⟨b, rfl, hN⟩; obtain ⟨v0, _, _, _, hbw, hb3⟩ := id hN; have K3 := hN.one (w0 := w) (ro_none wr) (t2_one HB2.out hgz); clear hN)
          have HS3 := HS2.out.below hb3
          obtain ⟨_, _, hq3, hf3⟩ := HS3.form
          rw [lst_len] at hq3
          cases hq3
          obtain ⟨_, hg3, _, _, hz3, a1, a2⟩ := hf3 r (f r) (lst_at f hrn)
          cases hg3
          have K3' := hid2 K3
          clear HS3 hf3 K3 hb3 hbw
          go_wp2_with (fail)
          refine wp_region_calm_tail 9 (by kernel_rfl) (by kernel_rfl) ?_
          simp only [List.take_succ_cons, List.take_zero, List.drop_succ_cons, List.drop_zero]
          (repeat (first | go_big_quiet_step ((first | (go_at_call 19; exact calm_call (sec_of _ _)))) | quiet_step ((first | (go_at_call 19; exact calm_call (sec_of _ _))))))
          refine wpQuiet_nil ?_
          intro u
          have ku := K3'.out.calm u.below
          have r5 := (u.below.cell (p := ⟨gs, r, none⟩) hz3).trans a1
          have r6 := (u.below.frozen (p := ⟨gs, r, none⟩) hz3).trans a2
          have r7 := World.block_lt_of_cell? u.at_ _ r5
          have hbu := gr2 K3'.out.below u.below
          generalize u.at_ = W4 at *
          have K4 := ku.set (x := gs) (i := r) (by simp) hgs (.int .i64 x)
          obtain ⟨v4, B4⟩ := K4.bufc
          have HK4 := hid2 K4
          have HB4 := hid2 B4
          clear ku a1 a2 K3' K4 B4 hz3 hbu
          go_wp2_with (go_at_call 25; (with_reducible refine (bwords_ HB4.out (by rw [lst_len]; omega)).mono ?_); rintro e w6 ⟨vw, rfl, hs6, hb6⟩; obtain ⟨qw, cw, hqw, hf6⟩ := hs6.form; rw [lst_len] at hqw; subst hqw; obtain ⟨gw, rfl, hvw, hgw, hzw, a3, a4⟩ := hf6 r (f r) (lst_at f hrn); have HK6 := hid2 (HK4.out.more hb6 gw hgw hzw); clear hf6 hs6 hb6)
          go_wp2_with (fail)
          refine wp_region_calm_tail 9 (by kernel_rfl) (by kernel_rfl) ?_
          simp only [List.take_succ_cons, List.take_zero, List.drop_succ_cons, List.drop_zero]
          (repeat (first | go_big_quiet_step ((first | (go_at_call 19; exact calm_call (sec_of _ _)))) | quiet_step ((first | (go_at_call 19; exact calm_call (sec_of _ _))))))
          refine wpQuiet_nil ?_
          intro u
          have ku := HK6.out.calm u.below
          have s5 := (u.below.cell (p := ⟨gw, r, none⟩) hzw).trans a3
          have s6 := (u.below.frozen (p := ⟨gw, r, none⟩) hzw).trans a4
          have s7 := World.block_lt_of_cell? u.at_ _ s5
          have hgw2 : w.heap.size ≤ gw := by have := HK4.out.below.size; omega
          generalize u.at_ = W7 at *
          have K8 := hid2 ((ku.set (x := gw) (i := r) (by simp) hgw2 (.int .i64 x)).less (Y := []) (fun y hy => nomatch hy))
          clear ku a3 a4 hzw r5 r6 r7
          go_wp2_with (go_at_call 26; (with_reducible refine (bopen_ K8.out (by rw [lst_len]; simp; omega) (by rw [lst_len]; omega)).mono ?_); rintro e w9 ⟨vx, rfl, I9, K9, _⟩; have HB9 := hid2 K9.below; obtain ⟨qx, cx, hqx, F9⟩ := I9.form; rw [lst_len] at hqx; subst hqx; have HF9 := hid2 F9; clear F9 K9 I9)
          have HC9 := hid2 (HC.out.below HB9.out)
          go_loopg [12] j (fun gj k wr => ∃ jj : Nat, jj + gj = j ∧ k = .int .i64 jj ∧ Below w9.heap.size w9 wr)
          case atStart => exact ⟨0, Nat.zero_add _, rfl, gr0 _⟩
          case round =>
            obtain ⟨k, hk, rfl, HBx⟩ := hrel
            have hk9 : (0 : Int) ≤ k := by omega
            have hk7 : (k : Int) ≤ 40 := by omega
            have HBo := hid2 HBx
            by_cases hlk : k < j
            · have t4 : decide ((k : Int) < j) = true := by simp; omega
              have hk8 : (k : Int) < j := by omega
              obtain ⟨g, rfl, _, _, hg1, d1, _⟩ := HF9.out k (f k) (lst_at f hlk)
              obtain ⟨cb, co, rfl, hz, a1⟩ := HC9.out.at_ rfl k hlk
              have d2 := (HBx.cell (p := ⟨g, k, none⟩) hg1).trans d1
              have z2 := World.block_lt_of_cell? wr _ d2
              have a2 := (HBx.cell (p := ⟨cb, co + k, none⟩) hz).trans a1
              have a3 := World.block_lt_of_cell? wr _ a2
              generalize hxx : f k = y at *
              clear HBx d1 a1 hxx
              go_wp2_with (fail)
              refine wp_region_calm (by kernel_rfl) (by kernel_rfl) ?_
              (repeat (first | go_big_quiet_step (fail) | quiet_step (fail)))
              refine wpQuiet_nil ?_
              intro u
              go_wp2
              go_roundg (j - (k + 1))
              case measure => omega
              case rel => exact ⟨k + 1, by omega, by go_num, gr2 HBo.out u.below⟩
            · have t4 : decide ((k : Int) < j) = false := by simp; omega
              clear HBx
              go_wp2_with (first
                | (go_at_call 15; (with_reducible refine (known04 _).mono ?_); rintro e w12 ⟨rfl, hb12⟩; have HB12 := hid2 (gr2 HB11.out hb12); have y2 := (hb12.cell (p := ⟨w11.heap.size, 0, none⟩) (by simp)).trans (show _ = some (.int .i64 0) by simp [alloc_cell_if]); have y3 := World.block_lt_of_cell? w12 _ y2; clear hb12)
                | (go_at_call 19; (with_reducible refine (sec_of x _).mono ?_); rintro e w10 ⟨rfl, hb10⟩; have HB10a := hid2 (gr2 (gr2 HB9.out HBo.out) hb10); clear hb10)
                | (go_at_call 18; (with_reducible refine (bset_none 0 x _).mono ?_); rintro e w10 ⟨rfl, hb10⟩; have HB10 := hid2 (gr2 HB10a.out hb10); clear hb10)
                | (go_at_call 20; (with_reducible refine (bget_none 0 _).mono ?_); rintro e w11 ⟨rfl, hb11⟩; have HB11 := hid2 (gr1 (gr2 HB10.out hb11) (.cells #[.int .i64 0] 29)); clear hb11)
                | (go_at_call 23; (with_reducible refine (blen_none _).mono ?_); rintro e w13 ⟨rfl, hb13⟩; have HB13 := hid2 (gr2 HB12.out hb13); have y4 := (hb13.cell (p := ⟨w11.heap.size, 0, none⟩) y3).trans y2; have y5 := World.block_lt_of_cell? w13 _ y4; clear hb13)
                | (go_at_call 21; (with_reducible refine (sopen_none 0 _).mono ?_); rintro e w14 ⟨rfl, hb14⟩; have HB14 := hid2 (gr2 HB13.out hb14); clear hb14)
                | (go_at_call 25; (with_reducible refine (bwords_none _).mono ?_); rintro e w15 ⟨rfl, hb15⟩; have HB15 := hid2 (gr2 HB14.out hb15); clear hb15)
                | (go_at_call 26; (with_reducible refine (bopen_none _).mono ?_); rintro e w16 ⟨rfl, hb16⟩; have HB16 := hid2 (gr2 HB15.out hb16); clear hb16))
              go_ret
              exact ⟨rfl, HB16.out⟩
  · have t1 : decide ((40 : Int) < (n : Int)) = true := by simp; omega
    have hm1 : (n : Int) ≤ 9223372036854775807 := by omega
    go_enter Try.func4, Try.ntmps4
    go_wp2_with (first
      | (go_at_call 15; (with_reducible refine (known04 w).mono ?_); rintro e w0 ⟨rfl, hb0⟩))
    go_ret
    exact ⟨rfl, hb0⟩
end Go.Proofs.Ytbdnnkokkgdhnaa
