/- ScanStores: the walk: it returns true. -/
import Derived.Test.YtbdnnkokkgdhnaaOf
import Derived.Test.YtbdnnkokkgdhnaaScanS
import Derived.Test.YtbdnnkokkgdhnaaScanK
namespace Go.Proofs.Ytbdnnkokkgdhnaa
open Go.RowKit

theorem clip_full (n : Nat) : clipN n (n : Int) = n ∧ clipN n 0 = 0 := by
  constructor
  · unfold clipN; rw [if_neg (by omega), if_neg (by omega)]; omega
  · unfold clipN; rw [if_neg (by omega), if_neg (by omega)]; rfl
theorem putAt_set {L : List Int} {r : Nat} (x : Int) (h : r < L.length) : putAt L r x 0 L.length = L.set r x := by
  unfold putAt
  rw [if_pos (by omega), setL_in (j := r) ⟨by omega, by omega⟩]
theorem outAt_get {L : List Int} {r n : Nat} {x : Int} (hn : n = L.length) (h : L[r]? = some x) : outAt L r 0 n = x := by
  have hl := (List.getElem?_eq_some_iff.1 h).1
  unfold outAt
  rw [if_pos (by omega)]
  obtain ⟨j, hj, _, hx⟩ := getL_in (L := L) (i := (r : Int)) ⟨by omega, by omega⟩
  have : r = j := by omega
  subst this
  exact Option.some.inj (hx.symm.trans h)
theorem outAt_past {L : List Int} {n : Nat} : outAt L n 0 n = 0 := by unfold outAt; exact if_neg (by omega)

set_option maxRecDepth 100000 in
set_option maxHeartbeats 4000000 in
theorem walk_ScanStores (vl : Value) (n : Nat) (f : Nat → Int) (a s : Int) (w : World) (Hl : Nums .i64 vl n f w) (hm : n ≤ 9223372036854775807) (_ba : 0 ≤ a ∧ a ≤ 255) (_bs : -9223372036854775808 ≤ s ∧ s ≤ 9223372036854775807) :
    Calls Try.prog 9 #[vl, .int .u8 a, .int .i64 s] w fun e w' => e = .returned (.bool true) ∧ Below w.heap.size w w' := by
  have HC := hid2 Hl
  obtain ⟨ql, cl, rfl⟩ := Hl.form
  have HI := hid2 (lst_I64 Hl.1)
  clear Hl
  have hn0 : (0 : Int) ≤ n := by omega
  have hs : I64 s := _bs
  by_cases hle : n ≤ 60
  · have t1 : decide ((60 : Int) < (n : Int)) = false := by simp; omega
    by_cases hz : n = 0
    · subst hz
      clear HC HI
      go_enter Try.func9, Try.ntmps9
      go_wp2_with (first
        | (go_at_call 35; (with_reducible refine (known05 w).mono ?_); rintro e w0 ⟨rfl, hb0⟩))
      go_ret
      exact ⟨rfl, hb0⟩
    · have t2 : ((n : Int) == 0) = false := by rw [beq_eq_false_iff_ne]; omega
      have hn1 : (n : Int) ≤ 60 := by omega
      have hnp : 0 < n := by omega
      obtain ⟨r, hr⟩ : ∃ r : Nat, (r : Int) = a % n := ⟨(a % n).toNat, by have := Int.emod_nonneg a (show (n : Int) ≠ 0 by omega); omega⟩
      have hrn : r < n := by have := Int.emod_lt_of_pos a (show (0 : Int) < n by omega); omega
      have hr0 : (0 : Int) ≤ r := by omega
      have hr1 : (r : Int) < n := by omega
      have hq1 : Int.tmod a (n : Int) = r := by rw [Int.tmod_eq_emod_of_nonneg (by omega), hr]
      have hq2 : a % (n : Int) = r := hr.symm
      have hwi : IntKind.i64.wrap a = a := by rw [IntKind.wrap_i64]; omega
      have hwr : IntKind.i64.wrap (r : Int) = r := by rw [IntKind.wrap_i64]; omega
      have hrI : I64 (r : Int) := by unfold I64; omega
      have hnI : I64 (n : Int) := by unfold I64; omega
      have HP := hid2 (show putAt (lst f n) r s 0 n = (lst f n).set r s from by have := putAt_set (L := lst f n) s (r := r) (by rw [lst_len]; exact hrn); rwa [lst_len] at this)
      have HL := hid2 (And.intro (lst_len f n) (show ((lst f n).set r s).length = n by rw [List.length_set, lst_len]))
      have HF := hid2 (clip_full n)
      have HM := hid2 (show max 0 n = n by omega)
      have HI2 := hid2 (show ∀ y ∈ (lst f n).set r s, I64 y from fun y hy => (List.mem_or_eq_of_mem_set hy).elim (HI.out y) (fun h => h ▸ hs))
      have HO1 := hid2 (show outAt ((lst f n).set r s) r 0 n = s from outAt_get HL.out.2.symm (List.getElem?_set_self (by rw [lst_len]; exact hrn)))
      have HO2 := hid2 (show outAt ((lst f n).set r s) n 0 n = 0 from outAt_past)
      clear hr
      go_enter Try.func9, Try.ntmps9
      go_wp2_with (first
        | (go_at_call 39; (with_reducible refine (of5_ HC.out (by omega)).mono ?_); rintro e w1 ⟨b, g, vm, rfl, K1, I1⟩; obtain ⟨pm, cm, hpm⟩ := own_form I1; rw [HL.out.1] at hpm; subst hpm; have HK1 := hid2 ((K1.less (Y := []) (fun y hy => nomatch hy)).calm (gr1 (gr0 w1) (.cells #[.slice pm n cm, .slice none 0 0] 47))); clear K1 I1)
        | (go_at_call 40; (with_reducible refine (sstore_ HK3.out (by simp) (by rw [HL.out.1]; omega) HI.out r s 0 n hrI hs).mono ?_); rintro e w4 ⟨rfl, k4, _⟩; rw [HL.out.1, HF.out.1, HF.out.2, HM.out, HP.out, Nat.sub_zero] at k4; have HK4 := hid2 k4; clear k4)
        | (go_at_call 41; (with_reducible refine (sload_ HK7.out (Nat.le_trans (addO_len _ _ _) (Nat.add_le_add (addO_len _ _ _) (Nat.le_refl _) |> fun h => Nat.le_trans h (by rw [setE_len]; have := winE_len 0 n n; simp only [List.length_nil]; omega))) (by rw [HL.out.2]; omega) HI2.out n 0 n hnI).mono ?_); rintro e w8 ⟨rfl, k8, kx8⟩; simp only [HL.out.2, HF.out.1, HF.out.2, HM.out, HO2.out] at k8 ⊢; have HK8 := hid2 (k8.more (gr1 (gr0 w8) (.cells #[.int .i64 0] 29)) w8.heap.size (Nat.le_refl _) (by simp)); have X8 := hid2 ((kx8.at_ (by simp) X6.out)); clear k8 kx8; obtain ⟨v8, B8⟩ := HK8.out.bufc; have c8 : w8.cell? ⟨w6.heap.size, 0, none⟩ = some (.int .i64 s) := (by simp [World.cell?, X8.out]); have C8 := hid2 c8; have z8 := World.block_lt_of_cell? w8 _ c8; clear c8)
        | (go_at_call 25; (with_reducible refine (bwords_ B8 (by rw [HL.out.2]; omega)).mono ?_); rintro e w9 ⟨vx, rfl, S9, hb9⟩; have HK9 := hid2 (HK8.out.calm hb9); obtain ⟨qx, cx, hqx, F9⟩ := S9.form; rw [HL.out.2] at hqx; subst hqx; have HF9 := hid2 F9; have C9 := hid2 ((hb9.cell (p := ⟨w6.heap.size, 0, none⟩) (by simp at z8 ⊢; omega)).trans (cellA (x := .cells #[.int .i64 0] 29) C8.out)); have D9 := hid2 ((hb9.cell (p := ⟨w8.heap.size, 0, none⟩) (by simp)).trans (show (w8.alloc (.cells #[.int .i64 0] 29)).cell? ⟨w8.heap.size, 0, none⟩ = some (.int .i64 0) by simp [alloc_cell_if])); clear F9 S9 B8 hb9)
        | (go_at_call 41; (with_reducible refine (sload_ HK5.out (Nat.le_trans (addO_len _ _ _) (by rw [setE_len]; simp only [List.length_nil]; omega)) (by rw [HL.out.2]; omega) HI2.out r 0 n hrI).mono ?_); rintro e w6 ⟨rfl, k6, _⟩; simp only [HL.out.2, HF.out.1, HF.out.2, HM.out, HO1.out] at k6 ⊢; have HK6 := hid2 (k6.more (gr1 (gr0 w6) (.cells #[.int .i64 s] 29)) w6.heap.size (Nat.le_refl _) (by simp)); clear k6)
        | (go_at_call 19; (with_reducible refine (sec_of n (w6.alloc (.cells #[.int .i64 s] 29))).mono ?_); rintro e w7 ⟨rfl, hb7⟩; have HK7 := hid2 (HK6.out.calm hb7); have X6 : Hid2 (w7.heap[w6.heap.size]? = some (.cells #[.int .i64 s] 29 (0, 0))) := hid2 ((hb7.block _ (by simp)).trans (heap_alloc_new _ _)))
        | (go_at_call 19; (with_reducible refine (sec_of r w4).mono ?_); rintro e w5 ⟨rfl, hb5⟩; have HK5 := hid2 (HK4.out.calm hb5))
        | (go_at_call 19; (with_reducible refine (sec_of s w2).mono ?_); rintro e w3 ⟨rfl, hb3⟩; have HK3 := hid2 (HK2.out.calm hb3))
        | (go_at_call 19; (with_reducible refine (sec_of r _).mono ?_); rintro e w2 ⟨rfl, hb2⟩; have HK2 := hid2 (HK1.out.calm hb2)))
      go_loopg [13] n (fun gj i wr => ∃ jj : Nat, jj + gj = n ∧ i = .int .i64 jj ∧ Below w9.heap.size w9 wr)
      case atStart => exact ⟨0, Nat.zero_add _, rfl, gr0 _⟩
      case round =>
        obtain ⟨k, hk, rfl, HBx⟩ := hrel
        have hk9 : (0 : Int) ≤ k := by omega
        have hk7 : (k : Int) ≤ 60 := by omega
        have HBo := hid2 HBx
        by_cases hlk : k < n
        · have t3 : decide ((k : Int) < n) = true := by simp; omega
          have hk8 : (k : Int) < n := by omega
          by_cases hkr : k = r
          · have e0 : ((k : Int) != r) = false := by rw [hkr]; simp
            have e1 : ((k : Int) == r) = true := by rw [hkr]; simp
            clear HBx hkr
            go_wp2_with (fail)
            refine wp_region_calm (by kernel_rfl) (by kernel_rfl) ?_
            (repeat (first | go_big_quiet_step ((go_at_call 21; exact calm_call (sopen_none _ _))) | quiet_step ((go_at_call 21; exact calm_call (sopen_none _ _)))))
            refine wpQuiet_nil ?_
            intro u
            go_wp2
            go_roundg (n - (k + 1))
            case measure => omega
            case rel => exact ⟨k + 1, by omega, by go_num, gr2 HBo.out u.below⟩
          · have e0 : ((k : Int) != r) = true := by simp; omega
            have e1 : ((k : Int) == r) = false := by simp; omega
            obtain ⟨gx, rfl, _, _, hg1, q1, _⟩ := HF9.out k (f k) (by rw [List.getElem?_set_ne (fun h => hkr h.symm)]; exact lst_at f hlk)
            have q2 := (HBx.cell (p := ⟨gx, k, none⟩) hg1).trans q1
            have q3 := World.block_lt_of_cell? wr _ q2
            obtain ⟨cb, co, rfl, hz, a1⟩ := HC.out.at_ rfl k hlk
            have a2 := (HBx.cell (p := ⟨cb, co + k, none⟩) (Nat.lt_of_lt_of_le hz HK9.out.below.size)).trans ((HK9.out.below.cell (p := ⟨cb, co + k, none⟩) hz).trans a1)
            have a3 := World.block_lt_of_cell? wr _ a2
            generalize hxx : f k = y at *
            clear HBx hkr q1 a1 hxx
            go_wp2_with (fail)
            refine wp_region_calm (by kernel_rfl) (by kernel_rfl) ?_
            (repeat (first | go_big_quiet_step ((go_at_call 21; exact calm_call (sopen_none _ _))) | quiet_step ((go_at_call 21; exact calm_call (sopen_none _ _)))))
            refine wpQuiet_nil ?_
            intro u
            go_wp2
            go_roundg (n - (k + 1))
            case measure => omega
            case rel => exact ⟨k + 1, by omega, by go_num, gr2 HBo.out u.below⟩
        · have t3 : decide ((k : Int) < n) = false := by simp; omega
          have x1 := (HBx.cell (p := ⟨w6.heap.size, 0, none⟩) (World.block_lt_of_cell? w9 _ C9.out)).trans C9.out
          have y1 := (HBx.cell (p := ⟨w8.heap.size, 0, none⟩) (World.block_lt_of_cell? w9 _ D9.out)).trans D9.out
          have X1 := hid2 x1
          have Y1 := hid2 y1
          clear HBx x1 y1
          go_wp2_with (first
            | (go_at_call 35; (with_reducible refine (known05 _).mono ?_); rintro e w10 ⟨rfl, hb10⟩; have z6 := World.block_lt_of_cell? wr _ X1.out; have z7 := World.block_lt_of_cell? wr _ Y1.out; have x2 := (hb10.cell (p := ⟨w6.heap.size, 0, none⟩) z6).trans X1.out; have X2 := hid2 ((hb10.cell (p := ⟨w8.heap.size, 0, none⟩) z7).trans Y1.out); have z10 := World.block_lt_of_cell? w10 _ x2)
            | (go_at_call 21; (with_reducible refine (sopen_none s _).mono ?_); rintro e w11 ⟨rfl, hb11⟩; have z12 := World.block_lt_of_cell? w10 _ X2.out; have y2 := (hb11.cell (p := ⟨w8.heap.size, 0, none⟩) z12).trans X2.out; have z11 := World.block_lt_of_cell? w11 _ y2)
            | (go_at_call 21; (with_reducible refine (sopen_none 0 _).mono ?_); rintro e w12 ⟨rfl, hb12⟩))
          go_ret
          exact ⟨rfl, gr2 (gr2 (gr2 (gr2 HK9.out.below HBo.out) hb10) hb11) hb12⟩
  · have t1 : decide ((60 : Int) < (n : Int)) = true := by simp; omega
    have hm1 : (n : Int) ≤ 9223372036854775807 := by omega
    clear HC HI
    go_enter Try.func9, Try.ntmps9
    go_wp2_with (first
      | (go_at_call 35; (with_reducible refine (known05 w).mono ?_); rintro e w0 ⟨rfl, hb0⟩))
    go_ret
    exact ⟨rfl, hb0⟩
end Go.Proofs.Ytbdnnkokkgdhnaa
