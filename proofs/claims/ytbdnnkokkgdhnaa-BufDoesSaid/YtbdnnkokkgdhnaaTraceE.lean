/- A recorder's events, one by one. -/
import Derived.Test.YtbdnnkokkgdhnaaTraceS
import Derived.Test.YtbdnnkokkgdhnaaRange
import Derived.BigRegionIn
import Derived.Sort.CutIn
import Derived.OwnWalkIn
import Derived.TacticsInMore
import Derived.LoopNIn
import Derived.LoopIn
namespace Go.Proofs.Ytbdnnkokkgdhnaa
open Go.RowKit Go.Shelf

theorem split_at {α : Type} {l : List α} {k : Nat} {e : α} (h : l[k]? = some e) : l = l.take k ++ e :: l.drop (k + 1) := by
  obtain ⟨hk, rfl⟩ := List.getElem?_eq_some_iff.1 h
  rw [← List.drop_eq_getElem_cons hk, List.take_append_drop]
theorem encs_at {l : List Ev} {k : Nat} {e : Ev} (h : l[k]? = some e) {t : Nat} {x : Int} (hx : (enc e)[t]? = some x) : (encs l)[(encs (l.take k)).length + t]? = some x := by
  have ht : t < (enc e).length := (List.getElem?_eq_some_iff.1 hx).1
  have h1 : encs l = encs (l.take k) ++ (enc e ++ encs (l.drop (k + 1))) := by
    conv => lhs; rw [split_at h]
    rw [encs_append]; rfl
  rw [h1, List.getElem?_append_right (by omega), Nat.add_sub_cancel_left, List.getElem?_append_left ht]
  exact hx
theorem encs_succ {l : List Ev} {k : Nat} {e : Ev} (h : l[k]? = some e) : encs (l.take (k + 1)) = encs (l.take k) ++ enc e := by
  obtain ⟨hk, rfl⟩ := List.getElem?_eq_some_iff.1 h
  rw [List.take_succ_eq_append_getElem hk, encs_append]
  congr 1
  simp [encs]
theorem encs_le (l : List Ev) (k : Nat) : (encs (l.take k)).length ≤ (encs l).length := by
  conv => rhs; rw [← List.take_append_drop k l, encs_append]
  rw [List.length_append]; omega
theorem encs_lt {l : List Ev} {k : Nat} {e : Ev} (h : l[k]? = some e) : (encs (l.take k)).length + (enc e).length ≤ (encs l).length := by
  have := encs_le l (k + 1)
  rw [encs_succ h, List.length_append] at this
  exact this
theorem evs_succ {S : St} {j : Nat} {p : Part} (h : S[j]? = some p) : evs (S.take (j + 1)) = evs (S.take j) ++ p.1 := by
  obtain ⟨hk, rfl⟩ := List.getElem?_eq_some_iff.1 h
  rw [List.take_succ_eq_append_getElem hk]
  unfold evs
  rw [List.flatMap_append]
  simp only [List.flatMap_cons, List.flatMap_nil, List.append_nil]
theorem evs_pre {S : St} {j k : Nat} {p : Part} {e : Ev} (h : S[j]? = some p) (he : p.1[k]? = some e) : evs (S.take j) ++ p.1.take k ++ [e] <+: evs S := by
  refine ⟨p.1.drop (k + 1) ++ evs (S.drop (j + 1)), ?_⟩
  have h1 := split_at he
  have h2 : evs S = evs (S.take j) ++ p.1 ++ evs (S.drop (j + 1)) := by
    conv => lhs; rw [split_at h]
    simp [evs]
  rw [h2]
  conv => rhs; rw [h1]
  simp
theorem allq_ {w0 : World} {p : Option Addr} {S : St} (h : Rn w0 p S) :
    ∃ v, Pts w0 v S ∧ ∀ W, Below w0.heap.size w0 W → Calls Try.prog 62 #[.pointer p] W fun e w' => e = .returned v ∧ w' = W := by
  rcases h with ⟨rfl, rfl⟩ | ⟨g, fp, rfl, v, bs, k, _⟩
  · exact ⟨_, ⟨.none, 0, rfl, fun j p hj => by simp at hj⟩, fun W _ => all_none W⟩
  · exact ⟨v, k.pts, fun W hb => all_ (k.frame fun x hx => hb.block x (k.lt x hx))⟩
theorem wpIn_abs {c : Code} {F : Fence} {n : Nat} {P : Program} {Q : Exit → Act → World → Prop} {a : Act} {W : World} (Fc : World → Prop) (h1 : Fc W) (h2 : ∀ W, Fc W → c.wpIn F n P Q a W) : c.wpIn F n P Q a W := h2 W h1
theorem below_new {n0 : Nat} {w wr : World} (h : Below n0 w wr) (hn : n0 ≤ w.heap.size) (o : Obj) {q : Nat} : Below n0 w ((wr.alloc o).drewN q) := by
  have := h.alloc (o := o) (Nat.le_trans hn h.size)
  exact ⟨this.os, this.tape, this.output, this.size, this.block⟩
def enE (e : Ev) : Array Value := #[.agg #[.int .i64 e.1, .int .i64 e.2]]

set_option maxRecDepth 100000 in
set_option maxHeartbeats 4000000 in
theorem each_of {w0 w : World} {p : Option Addr} {S : St} (hR : Rn w0 p S) (hB : Below w0.heap.size w0 w) (hS : S.length ≤ 1000000) (n : Nat) (hn : 2 ≤ n) :
    EachOf Fence.wide n Try.prog 52 (fun y => #[.pointer p] ++ #[y] ++ #[]) enE (Below w0.heap.size) (evs S) w := by
  intro l J W hW hJ hY hJ0
  have hok := hR.ok
  obtain ⟨v, hv, hall⟩ := allq_ hR
  have hB0 : Below w0.heap.size w0 W := hB.trans (hW.mono hB.size)
  have hA := hall W hB0
  obtain ⟨q, c, rfl, hp⟩ := hv
  obtain ⟨m, hm⟩ : ∃ m, m = S.length := ⟨_, rfl⟩
  rw [← hm] at hA
  obtain ⟨n0, hn0⟩ : ∃ n0, n0 = w0.heap.size := ⟨_, rfl⟩
  rw [← hn0] at hY hB0
  have hP : Hid2 (∀ (j : Nat) (p : Part), S[j]? = some p → PartOk p ∧ ∃ gp b, q = some ⟨gp, 0, none⟩ ∧ gp < n0 ∧ b < n0 ∧ (∀ wr, Below n0 W wr → wr.cell? ⟨gp, j, none⟩ = some (pcell b p)) ∧ ∀ wr, Below n0 W wr → ∀ i x, (encs p.1)[i]? = some x → wr.cell? ⟨b, i, none⟩ = some (.int .u32 x)) := fun j p hj => by
    obtain ⟨gp, b, h1, h2, h3, h4⟩ := hp j p hj
    have h5 := heap_lt h4
    refine ⟨hok p (List.mem_of_getElem? hj), gp, b, h1, by omega, by omega, fun wr hwr => (hwr.cell (p := ⟨gp, j, none⟩) (by show gp < n0; omega)).trans ((hB0.cell (p := ⟨gp, j, none⟩) (by show gp < n0; omega)).trans h3), fun wr hwr i x hx => ?_⟩
    obtain ⟨b', c', hv', hlt', hc'⟩ := wds_part h4
    cases hv'
    exact (hwr.cell (p := ⟨b, i, none⟩) (by show b < n0; omega)).trans ((hB0.cell (p := ⟨b, i, none⟩) (by show b < n0; omega)).trans (hc' i x hx))
  have hm1 : (m : Int) ≤ 1000000 := by omega
  have hnW : n0 ≤ W.heap.size := by have := hB0.size; omega
  have HM : Hid2 (m = S.length) := hm
  clear hp hok hall hB hW hR hS hm
  have h1 : 1 ≤ n - 1 := by omega
  show CallsIn _ _ _ _ #[.pointer p, .func (.yield l) #[] #[]] _ _
  refine callsIn_of_wp Try.func52 rfl trivial ?_
  simp only [Try.ntmps52, List.size_toArray, List.length_cons, List.length_nil, Nat.reduceAdd, Nat.reduceSub, Array.replicate_succ, Array.replicate_zero, List.push_toArray, List.append_toArray, List.nil_append, List.cons_append]
  gi_wp2_with (refine ⟨trivial, fun _ => by omega, ?_⟩; gi_at_call 62; refine (callsIn_wide.2 hA).mono ?_; rintro e w' ⟨rfl, rfl⟩)
  gi_loopw [11] (fun t wr => ∃ j : Nat, j ≤ m ∧ t = .int .i64 j ∧ Below n0 w' wr ∧ J (evs (S.take j)) wr) (fun t _ => m - (intOf t).toNat)
  case atStart => exact ⟨0, Nat.zero_le _, rfl, Below.refl _ _, by simpa [evs] using hJ0⟩
  case round =>
    obtain ⟨j, hj, rfl, HB, HJ⟩ := hrel
    have hj0 : (0 : Int) ≤ j := by omega
    have hj1 : (j : Int) ≤ 1000000 := by omega
    by_cases hlt : j < m
    · have t1 : decide ((j : Int) < m) = true := by simp; omega
      have hj2 : (j : Int) < m := by omega
      obtain ⟨P, hP0⟩ : ∃ P, S[j]? = some P := ⟨S[j]'(by rw [← HM.out]; omega), by simp⟩
      obtain ⟨⟨okE, hL1, hL2⟩, gp, b, rfl, zg, zb, cg, cb⟩ := hP.out j P hP0
      have cgj := cg wr HB
      have zg2 : gp < wr.heap.size := by have := HB.size; omega
      have CB : Hid2 (∀ wr, Below n0 w' wr → ∀ i x, (encs P.1)[i]? = some x → wr.cell? ⟨b, i, none⟩ = some (.int .u32 x)) := cb
      have HP0 : Hid2 (S[j]? = some P) := hP0
      have OE : Hid2 (∀ e ∈ P.1, EvOk e) := okE
      clear cg cb hP0 okE
      unfold pcell at cgj
      obtain ⟨L, hL⟩ : ∃ L, L = (encs P.1).length := ⟨_, rfl⟩
      obtain ⟨cap, hcap⟩ : ∃ cap, cap = P.2 := ⟨_, rfl⟩
      rw [← hL, ← hcap] at cgj
      have hL3 : (L : Int) ≤ 65536 := by omega
      have HL : Hid2 (L = (encs P.1).length) := hL
      have HBo : Hid2 (Below n0 w' wr) := HB
      clear hL hcap hL1 hL2 HB
      gi_wp2
      gi_loopw [6] (fun t wx => ∃ k : Nat, k ≤ P.1.length ∧ t = .int .i64 ((encs (P.1.take k)).length : Nat) ∧ Below n0 w' wx ∧ J (evs (S.take j) ++ P.1.take k) wx) (fun t _ => L - (intOf t).toNat)
      case atStart => exact ⟨0, Nat.zero_le _, by simp [encs], HBo.out, by simpa using HJ⟩
      case round =>
        clear HJ
        obtain ⟨k, hk, rfl, HB, HJ⟩ := hrel
        obtain ⟨i, hi⟩ : ∃ i, i = (encs (P.1.take k)).length := ⟨_, rfl⟩
        have HI : Hid2 (i = (encs (P.1.take k)).length) := hi
        rw [← hi]
        have hiL : i ≤ L := by rw [hi, HL.out]; exact encs_le _ _
        clear hi
        have i0 : (0 : Int) ≤ i := by omega
        have i1 : (i : Int) ≤ 65536 := by omega
        by_cases hkl : k < P.1.length
        · obtain ⟨e, he⟩ : ∃ e, P.1[k]? = some e := ⟨P.1[k], by simp⟩
          have HE : Hid2 (P.1[k]? = some e) := he
          have oe := OE.out e (List.mem_of_getElem? he)
          have hle := encs_lt he
          rw [← HI.out, ← HL.out] at hle
          obtain ⟨e1, e2⟩ := e
          have hi2 : I64 e2 := oe.2
          obtain ⟨k1, k2⟩ : 0 ≤ e1 ∧ e1 ≤ 3 := oe.1
          unfold I64 at hi2
          obtain ⟨n1, n2⟩ := hi2
          have t2 : decide ((i : Int) < L) = true := by
            have := enc_len (e1, e2)
            simp; omega
          by_cases hsm : 0 ≤ e2 ∧ e2 < 268435456
          · have hen : enc (e1, e2) = [e2 * 4 + e1] := by unfold enc; exact if_pos hsm
            have hen0 := hen
            rw [hen] at hle
            simp only [List.length_singleton] at hle
            have c1 := CB.out wr HB i (e2 * 4 + e1) (by rw [HI.out]; exact encs_at he (t := 0) (by rw [hen]; rfl))
            have a1 : bits .and .u32 (e2 * 4 + e1) 3 = e1 := by rw [and_three (by omega)]; omega
            have a2 : (e2 * 4 + e1) / 4 = e2 := by omega
            have a3 : decide (2147483648 ≤ e2 * 4 + e1) = false := by simp; omega
            have b1 : 0 ≤ e2 * 4 + e1 := by omega
            have b2 : e2 * 4 + e1 ≤ 1073741823 := by omega
            obtain ⟨s1, s2⟩ := hsm
            generalize e2 * 4 + e1 = x at *
            have i2 : (i : Int) < L := by omega
            have zb2 : b < wr.heap.size := by have := HB.size; omega
            have HBx : Hid2 (Below n0 w' wr) := HB
            clear he HB oe hle hen
            have HEN : Hid2 _ := hen0
            clear hen0
            gi_wp2
            gi_region
            gi_upto_region 10 with fail
            refine wpIn_abs (fun W2 => W2.cell? ⟨wr.heap.size, 0, none⟩ = some (.int .i64 e1) ∧ W2.cell? ⟨wr.heap.size, 1, none⟩ = some (.int .i64 e2) ∧ Below n0 w' W2 ∧ J (evs (S.take j) ++ P.1.take k) W2) ?_ ?_
            · refine ⟨by simp [alloc_cell_if], by simp [alloc_cell_if], ?_, ?_⟩
              · have hb := HBx.out.alloc (o := .cells #[.int .i64 e1, .int .i64 e2] 81) (Nat.le_trans hnW HBx.out.size)
                exact ⟨hb.os, hb.tape, hb.output, hb.size, hb.block⟩
              · have hg := World.grownBy_alloc wr (.cells #[.int .i64 e1, .int .i64 e2] 81) none
                exact hJ _ _ _ none HJ ⟨hg.os, hg.tape, hg.output, hg.size, hg.block⟩ (fun r e => nomatch e)
            rintro W2 ⟨z1, z2, HB2, HJ2⟩
            obtain ⟨fn, tmps, assign, body, hy, hR⟩ := hY _ (e1, e2) W2 HJ2 (evs_pre HP0.out HE.out)
            dsimp only [enE] at hy
            have HB2 : Hid2 (Below n0 w' W2) := HB2
            clear HJ HJ2 HBx
            gi_wp2
            refine ⟨fun _ => by omega, hR.mono ?_⟩
            rintro e W3 ⟨rfl, hJ3, hk3⟩
            have HJ3 : Hid2 _ := hJ3
            have HK3 : Hid2 _ := hk3
            clear hJ3 hk3
            gi_wp2
            go_roundw
            case measure => simp [intOf]; omega
            case rel =>
              refine ⟨k + 1, hkl, ?_, HB2.out.trans HK3.out, ?_⟩
              · rw [encs_succ HE.out, List.length_append, ← HI.out, HEN.out]
                first | (simp; done) | (simp; omega)
              · rw [List.take_succ_eq_append_getElem hkl, (List.getElem?_eq_some_iff.1 HE.out).2, ← List.append_assoc]; exact HJ3.out
          · have hen : enc (e1, e2) = [2147483648 + e1, e2 / 4294967296 % 4294967296, e2 % 4294967296] := by unfold enc; exact if_neg hsm
            have hen0 := hen
            rw [hen] at hle
            simp only [List.length_cons, List.length_nil] at hle
            have c1 := CB.out wr HB i (2147483648 + e1) (by rw [HI.out]; exact encs_at he (t := 0) (by rw [hen]; rfl))
            have c2 := CB.out wr HB (i + 1) (e2 / 4294967296 % 4294967296) (by rw [HI.out]; exact encs_at he (t := 1) (by rw [hen]; rfl))
            have c3 := CB.out wr HB (i + 2) (e2 % 4294967296) (by rw [HI.out]; exact encs_at he (t := 2) (by rw [hen]; rfl))
            have a1 : bits .and .u32 (2147483648 + e1) 3 = e1 := by rw [and_three (by omega)]; omega
            have a2 : (2147483648 + e1) / 4 = 536870912 := by omega
            have a3 : decide (2147483648 ≤ 2147483648 + e1) = true := by simp; omega
            have b1 : 0 ≤ 2147483648 + e1 := by omega
            have b2 : 2147483648 + e1 ≤ 2147483651 := by omega
            have b3 : 2147483648 ≤ 2147483648 + e1 := by omega
            have a4 := or_words (a := e2 / 4294967296 % 4294967296) (b := e2 % 4294967296) (by omega) (by omega)
            have a5 := wrap_far (n := e2) ⟨n1, n2⟩
            have a6 : IntKind.i64.wrap (e2 / 4294967296 % 4294967296 * 4294967296 + e2 % 4294967296) = e2 := by rw [i64_wrap]; exact a5
            have b4 : 0 ≤ e2 / 4294967296 % 4294967296 := by omega
            have b5 : e2 / 4294967296 % 4294967296 ≤ 4294967295 := by omega
            have b6 : 0 ≤ e2 % 4294967296 := by omega
            have b7 : e2 % 4294967296 ≤ 4294967295 := by omega
            have HEN : Hid2 _ := hen0
            clear hen0 hen hsm a5
            generalize 2147483648 + e1 = x at *
            generalize e2 / 4294967296 % 4294967296 = hi at *
            generalize e2 % 4294967296 = lo at *
            have i2 : (i : Int) + 2 < L := by omega
            have i3 : (i : Int) < L := by omega
            have i4 : (i : Int) + 1 < L := by omega
            have zb2 : b < wr.heap.size := by have := HB.size; omega
            have HBx : Hid2 (Below n0 w' wr) := HB
            clear he HB oe hle
            gi_wp2
            gi_region
            gi_wp2
            gi_region
            gi_upto_region 10 with fail
            refine wpIn_abs (fun W2 => W2.cell? ⟨wr.heap.size, 0, none⟩ = some (.int .i64 e1) ∧ W2.cell? ⟨wr.heap.size, 1, none⟩ = some (.int .i64 e2) ∧ Below n0 w' W2 ∧ J (evs (S.take j) ++ P.1.take k) W2) ?_ ?_
            · refine ⟨by simp [alloc_cell_if], by simp [alloc_cell_if], ?_, ?_⟩
              · have hb := HBx.out.alloc (o := .cells #[.int .i64 e1, .int .i64 e2] 81) (Nat.le_trans hnW HBx.out.size)
                exact ⟨hb.os, hb.tape, hb.output, hb.size, hb.block⟩
              · have hg := World.grownBy_alloc wr (.cells #[.int .i64 e1, .int .i64 e2] 81) none
                exact hJ _ _ _ none HJ ⟨hg.os, hg.tape, hg.output, hg.size, hg.block⟩ (fun r e => nomatch e)
            rintro W2 ⟨z1, z2, HB2, HJ2⟩
            obtain ⟨fn, tmps, assign, body, hy, hR⟩ := hY _ (e1, e2) W2 HJ2 (evs_pre HP0.out HE.out)
            dsimp only [enE] at hy
            have HB2 : Hid2 (Below n0 w' W2) := HB2
            clear HJ HJ2 HBx
            gi_wp2
            refine ⟨fun _ => by omega, hR.mono ?_⟩
            rintro e W3 ⟨rfl, hJ3, hk3⟩
            have HJ3 : Hid2 _ := hJ3
            have HK3 : Hid2 _ := hk3
            clear hJ3 hk3
            gi_wp2
            go_roundw
            case measure => simp [intOf]; omega
            case rel =>
              refine ⟨k + 1, hkl, ?_, HB2.out.trans HK3.out, ?_⟩
              · rw [encs_succ HE.out, List.length_append, ← HI.out, HEN.out]
                first | (simp; done) | (simp; omega)
              · rw [List.take_succ_eq_append_getElem hkl, (List.getElem?_eq_some_iff.1 HE.out).2, ← List.append_assoc]; exact HJ3.out
        · have hkL : k = P.1.length := by omega
          have hiL2 : i = L := by rw [HI.out, HL.out, hkL, List.take_length]
          have t2 : decide ((i : Int) < L) = false := by simp; omega
          have t3 : decide (i < L) = false := by simp; omega
          have HBx : Hid2 (Below n0 w' wr) := HB
          clear HB hiL hiL2
          gi_wp2
          go_roundw
          case measure => simp [intOf]; omega
          case rel => exact ⟨j + 1, by omega, by go_num, HBx.out, by rw [evs_succ HP0.out]; rw [hkL, List.take_length] at HJ; exact HJ⟩
    · have hjm : j = m := by omega
      have t1 : decide ((j : Int) < m) = false := by simp; omega
      have t3 : decide (j < m) = false := by simp; omega
      have HJ2 : J (evs S) wr := by rw [hjm, HM.out, List.take_length] at HJ; exact HJ
      clear HJ hjm
      gi_wp2
      go_end0
      exact ⟨⟨_, rfl⟩, HJ2⟩

end Go.Proofs.Ytbdnnkokkgdhnaa
