/- ScanSame: the walk: it returns true. -/
import Derived.Test.YtbdnnkokkgdhnaaOf
import Derived.Test.YtbdnnkokkgdhnaaPair
namespace Go.Proofs.Ytbdnnkokkgdhnaa
open Go.RowKit

theorem Nums.less {k : IntKind} {q : Option Addr} {n m c : Nat} {f : Nat → Int} {w : World} (h : Nums k (.slice q m c) m f w) (hn : n ≤ m) : Nums k (.slice q n c) n f w := by
  obtain ⟨h1, q', c', hv, h2⟩ := h
  cases hv
  exact ⟨fun i hi => h1 i (by omega), q, c, rfl, fun i hi => h2 i (by omega)⟩

set_option maxRecDepth 100000 in
set_option maxHeartbeats 4000000 in
theorem walk_ScanSame (vl : Value) (n : Nat) (f1 : Nat → Int) (vm : Value) (m : Nat) (f2 : Nat → Int) (a b s f t : Int) (w : World) (Hl : Nums .i64 vl n f1 w) (Hm : Nums .i64 vm m f2 w) (hl : n ≤ 9223372036854775807) (hm : m ≤ 9223372036854775807) (Hcap : Capd vm m) (_ba : -9223372036854775808 ≤ a ∧ a ≤ 9223372036854775807) (_bb : -9223372036854775808 ≤ b ∧ b ≤ 9223372036854775807) (_bs : -9223372036854775808 ≤ s ∧ s ≤ 9223372036854775807) (_bf : 0 ≤ f ∧ f ≤ 255) (_bt : 0 ≤ t ∧ t ≤ 255) :
    Calls Try.prog 14 #[vl, vm, .int .i64 a, .int .i64 b, .int .i64 s, .int .u8 f, .int .u8 t] w fun e w' => e = .returned (.bool true) ∧ Below w.heap.size w w' := by
  have HC := hid2 Hl
  have HD0 := hid2 Hm
  obtain ⟨ql, cl, rfl⟩ := Hl.form
  obtain ⟨qm, cm0, rfl, hcap1, hcap2⟩ := Hcap
  have hcap3 : (m : Int) ≤ cm0 := by omega
  have hcap4 : (cm0 : Int) ≤ 9223372036854775807 := by omega
  have hn0 : (0 : Int) ≤ n := by omega
  have hm0 : (0 : Int) ≤ m := by omega
  have hnm : (n : Int) ≤ 9223372036854775807 := by omega
  have hmm : (m : Int) ≤ 9223372036854775807 := by omega
  by_cases hle : n ≤ 40 ∧ n ≤ m
  · have t1 : decide ((40 : Int) < (n : Int)) = false := by simp; omega
    have t2 : decide ((m : Int) < (n : Int)) = false := by simp; omega
    have hn1 : (n : Int) ≤ 40 := by omega
    have hnle : (n : Int) ≤ m := by omega
    have hnlc : (n : Int) ≤ cm0 := by omega
    have hnlc2 : n ≤ cm0 := by omega
    have HD := hid2 (show Nums .i64 (.slice qm n cm0) n f2 w from Hm.less hle.2)
    have HI := hid2 (lst_I64 Hl.1)
    have HJ := hid2 (lst_I64 HD.out.1)
    have HN := hid2 (And.intro (lst_len f1 n) (lst_len f2 n))
    obtain ⟨wE, hwE⟩ : ∃ wE, wE = winE (clipN n f) (clipN n t) (max (clipN n f) (clipN n t)) := ⟨_, rfl⟩
    obtain ⟨sE, hsE⟩ : ∃ sE, sE = setE (clipN n f) (clipN n t) (max (clipN n f) (clipN n t) - clipN n f) := ⟨_, rfl⟩
    have HE := hid2 (And.intro hwE hsE)
    have hcl := clipN_le n f
    have hct := clipN_le n t
    have HL1 := hid2 (show wE.length ≤ 100 by rw [hwE]; have := winE_len (clipN n f) (clipN n t) (max (clipN n f) (clipN n t)); omega)
    have HL2 := hid2 (show sE.length ≤ 100 by rw [hsE, setE_len]; omega)
    have HCT := hid2 (show cnt (((([] ++ wE) ++ sE) ++ sE) ++ wE) 3 = 0 ∧ cnt (((([] ++ wE) ++ sE) ++ sE) ++ wE) 2 = 4 by
      rw [cnt_app, cnt_app, cnt_app, cnt_app, cnt_app, cnt_app, cnt_app, cnt_app, hwE, hsE, (cnt_winE _ _ _).1, (cnt_winE _ _ _).2, (cnt_setE2 _ _ _).1, (cnt_setE2 _ _ _).2]; exact ⟨rfl, rfl⟩)
    have HLN := hid2 (show (((([] ++ wE) ++ sE) ++ sE) ++ wE).length ≤ 1000000 by simp only [List.length_append, List.length_nil]; have := HL1.out; have := HL2.out; omega)
    have HLE := hid2 (Nat.le_trans (pst_len _) HLN.out)
    have HS0 := hid2 (show ([] : List Ev).length ≤ 800000 by simp)
    have HS1 := hid2 (show (([] : List Ev) ++ wE).length ≤ 800000 by have := HL1.out; simp; omega)
    have HS2 := hid2 (show ((([] : List Ev) ++ wE) ++ sE).length ≤ 800000 by have := HL1.out; have := HL2.out; simp; omega)
    have HS3 := hid2 (show (((([] : List Ev) ++ wE) ++ sE) ++ sE).length ≤ 800000 by have := HL1.out; have := HL2.out; simp; omega)
    clear hwE hsE hcl hct hle Hl Hm HD0
    go_enter Try.func14, Try.ntmps14
    go_wp2_with (first
      | (go_at_call 39; (with_reducible refine (of5_ HC.out (by omega)).mono ?_); rintro e w1 ⟨bx, gx, vm, rfl, K1, I1⟩; obtain ⟨pm, cm, hpm⟩ := own_form I1; rw [HN.out.1] at hpm; subst hpm; have HK1 := hid2 ((K1.less (Y := []) (fun y hy => nomatch hy)).calm (gr1 (gr0 w1) (.cells #[.slice pm n cm, .slice none 0 0] 47))); have HD1 := hid2 (HD.out.below HK1.out.below); clear K1 I1)
      | (go_at_call 39; (with_reducible refine (of5_ HD1.out (by omega)).mono ?_); rintro e w2 ⟨bz, gz, vz, rfl, K2, I2⟩; obtain ⟨pz, cz, hpz⟩ := own_form I2; rw [HN.out.2] at hpz; subst hpz; have Kw2 : Hid2 (Pair w (w2.alloc (.cells #[.slice pz n cz, .slice none 0 0] 47)) bx gx bz gz n [] []) := hid2 ⟨_, _, (B2.join HK1.out K2).calm (gr1 (gr0 w2) _), HN.out, HI.out, HJ.out⟩; clear K2 I2 HK1 HD1 HC HD)
      | (go_at_call 49; (with_reducible refine (pair_take Kw21.out.swap HS3.out (by omega) s 2 f t).mono ?_); rintro e w22 ⟨⟨vw22, rfl⟩, kw22⟩; rw [← HE.out.1] at kw22; have Kw22 := hid2 kw22.swap; clear kw22 Kw21)
      | (go_at_call 19; (with_reducible refine (sec_of s w20).mono ?_); rintro e w21 ⟨rfl, hbw21⟩; have Kw21 := hid2 (Kw20.out.calm hbw21); clear hbw21 Kw20)
      | (go_at_call 49; (with_reducible refine (pair_take Kw19.out HS3.out (by omega) b 2 f t).mono ?_); rintro e w20 ⟨⟨vw20, rfl⟩, kw20⟩; rw [← HE.out.1] at kw20; have Kw20 := hid2 kw20; clear kw20 Kw19)
      | (go_at_call 19; (with_reducible refine (sec_of b w18).mono ?_); rintro e w19 ⟨rfl, hbw19⟩; have Kw19 := hid2 (Kw18.out.calm hbw19); clear hbw19 Kw18)
      | (go_at_call 48; (with_reducible refine (pair_put Kw17.out.swap HS2.out (by omega) b b 3 f t).mono ?_); rintro e w18 ⟨rfl, kw18⟩; rw [← HE.out.2] at kw18; have Kw18 := hid2 kw18.swap; clear kw18 Kw17)
      | (go_at_call 19; (with_reducible refine (sec_of b w16).mono ?_); rintro e w17 ⟨rfl, hbw17⟩; have Kw17 := hid2 (Kw16.out.calm hbw17); clear hbw17 Kw16)
      | (go_at_call 19; (with_reducible refine (sec_of b w15).mono ?_); rintro e w16 ⟨rfl, hbw16⟩; have Kw16 := hid2 (Kw15.out.calm hbw16); clear hbw16 Kw15)
      | (go_at_call 48; (with_reducible refine (pair_put Kw14.out HS2.out (by omega) a s 3 f t).mono ?_); rintro e w15 ⟨rfl, kw15⟩; rw [← HE.out.2] at kw15; have Kw15 := hid2 kw15; clear kw15 Kw14)
      | (go_at_call 19; (with_reducible refine (sec_of s w13).mono ?_); rintro e w14 ⟨rfl, hbw14⟩; have Kw14 := hid2 (Kw13.out.calm hbw14); clear hbw14 Kw13)
      | (go_at_call 19; (with_reducible refine (sec_of a w12).mono ?_); rintro e w13 ⟨rfl, hbw13⟩; have Kw13 := hid2 (Kw12.out.calm hbw13); clear hbw13 Kw12)
      | (go_at_call 40; (with_reducible refine (pair_store Kw11.out.swap HS1.out (by omega) a a f t (by unfold I64; omega) (by unfold I64; omega)).mono ?_); rintro e w12 ⟨rfl, kw12⟩; rw [← HE.out.2] at kw12; have Kw12 := hid2 kw12.swap; clear kw12 Kw11)
      | (go_at_call 19; (with_reducible refine (sec_of a w10).mono ?_); rintro e w11 ⟨rfl, hbw11⟩; have Kw11 := hid2 (Kw10.out.calm hbw11); clear hbw11 Kw10)
      | (go_at_call 19; (with_reducible refine (sec_of a w9).mono ?_); rintro e w10 ⟨rfl, hbw10⟩; have Kw10 := hid2 (Kw9.out.calm hbw10); clear hbw10 Kw9)
      | (go_at_call 40; (with_reducible refine (pair_store Kw8.out HS1.out (by omega) b s f t (by unfold I64; omega) (by unfold I64; omega)).mono ?_); rintro e w9 ⟨rfl, kw9⟩; rw [← HE.out.2] at kw9; have Kw9 := hid2 kw9; clear kw9 Kw8)
      | (go_at_call 19; (with_reducible refine (sec_of s w7).mono ?_); rintro e w8 ⟨rfl, hbw8⟩; have Kw8 := hid2 (Kw7.out.calm hbw8); clear hbw8 Kw7)
      | (go_at_call 19; (with_reducible refine (sec_of b w6).mono ?_); rintro e w7 ⟨rfl, hbw7⟩; have Kw7 := hid2 (Kw6.out.calm hbw7); clear hbw7 Kw6)
      | (go_at_call 41; (with_reducible refine (pair_load Kw5.out.swap HS0.out (by omega) b f t (by unfold I64; omega)).mono ?_); rintro e w6 ⟨⟨vw6, rfl⟩, kw6⟩; rw [← HE.out.1] at kw6; have Kw6 := hid2 kw6.swap; clear kw6 Kw5)
      | (go_at_call 19; (with_reducible refine (sec_of b w4).mono ?_); rintro e w5 ⟨rfl, hbw5⟩; have Kw5 := hid2 (Kw4.out.calm hbw5); clear hbw5 Kw4)
      | (go_at_call 41; (with_reducible refine (pair_load Kw3.out HS0.out (by omega) a f t (by unfold I64; omega)).mono ?_); rintro e w4 ⟨⟨vw4, rfl⟩, kw4⟩; rw [← HE.out.1] at kw4; have Kw4 := hid2 kw4; clear kw4 Kw3)
      | (go_at_call 19; (with_reducible refine (sec_of a (w2.alloc (.cells #[.slice pz n cz, .slice none 0 0] 47))).mono ?_); rintro e w3 ⟨rfl, hbw3⟩; have Kw3 := hid2 (Kw2.out.calm hbw3); clear hbw3 Kw2)
      | (go_at_call 42; (refine (countp_ (RX.out.below Y7.out) HLN.out 2).mono ?_); rintro e y8 ⟨rfl, hy8⟩; rw [HCT.out.2]; have Y8 := hid2 (gr2 Y7.out hy8); clear hy8)
      | (go_at_call 32; (with_reducible refine (btrace_ (HBX.out.calm Y6.out)).mono ?_); rintro e y7 ⟨rfl, hy7⟩; have Y7 := hid2 (gr2 Y6.out hy7); clear hy7)
      | (go_at_call 42; (refine (countp_ (RX.out.below Y5.out) HLN.out 3).mono ?_); rintro e y6 ⟨rfl, hy6⟩; rw [HCT.out.1]; have Y6 := hid2 (gr2 Y5.out hy6); clear hy6)
      | (go_at_call 32; (with_reducible refine (btrace_ (HBX.out.calm Y4.out)).mono ?_); rintro e y5 ⟨rfl, hy5⟩; have Y5 := hid2 (gr2 Y4.out hy5); clear hy5)
      | (go_at_call 43; (refine (tsame_ (RX.out.below Y3.out) (RZ.out.below Y3.out) HLE.out HLE.out).mono ?_); rintro e y4 ⟨rfl, hy4⟩; have Y4 := hid2 (gr2 Y3.out hy4); clear hy4)
      | (go_at_call 32; (with_reducible refine (btrace_ HBZ2.out).mono ?_); rintro e y3 ⟨rfl, hy3⟩; have Y3 := hid2 (gr2 Y2.out hy3); clear hy3)
      | (go_at_call 32; (with_reducible refine (btrace_ HBX.out).mono ?_); rintro e y2 ⟨rfl, hy2⟩; have HBZ2 := hid2 (HBZ.out.calm hy2); have Y2 := hid2 hy2; clear hy2)
      | (go_at_call 35; (with_reducible refine (known05 w22).mono ?_); rintro e y1 ⟨rfl, hy1⟩; have KY := hid2 (Kw22.out.calm hy1); have RX := hid2 KY.out.rn; have RZ := hid2 KY.out.swap.rn; obtain ⟨vx, LX, BX⟩ := KY.out.bufc; obtain ⟨vz, LZ, BZ⟩ := KY.out.swap.bufc; have HBX := hid2 BX; have HBZ := hid2 BZ; clear BX BZ hy1))
    go_ret
    exact ⟨rfl, gr2 KY.out.below Y8.out⟩
  · by_cases h40 : n ≤ 40
    · have t1 : decide ((40 : Int) < (n : Int)) = false := by simp; omega
      have t2 : decide ((m : Int) < (n : Int)) = true := by simp; omega
      have t3 : decide (m < n) = true := by simp; omega
      clear HC HD0 hle
      go_enter Try.func14, Try.ntmps14
      go_wp2_with (first
        | (go_at_call 35; (with_reducible refine (known05 w).mono ?_); rintro e w0 ⟨rfl, hb0⟩))
      go_ret
      exact ⟨rfl, hb0⟩
    · have t1 : decide ((40 : Int) < (n : Int)) = true := by simp; omega
      clear HC HD0 hle
      go_enter Try.func14, Try.ntmps14
      go_wp2_with (first
        | (go_at_call 35; (with_reducible refine (known05 w).mono ?_); rintro e w0 ⟨rfl, hb0⟩))
      go_ret
      exact ⟨rfl, hb0⟩
end Go.Proofs.Ytbdnnkokkgdhnaa
