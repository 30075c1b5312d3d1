/- Two recorders have the same, if their words are the same. -/
import Derived.Test.YtbdnnkokkgdhnaaTraceI
namespace Go.Proofs.Ytbdnnkokkgdhnaa
open Go.RowKit

/-- A slice of words. -/
def Wds (w : World) (v : Value) (l : List Int) : Prop := ∃ b c, v = .slice (some ⟨b, 0, none⟩) l.length c ∧ b < w.heap.size ∧ ∀ (j : Nat) (x : Int), l[j]? = some x → w.cell? ⟨b, j, none⟩ = some (.int .u32 x)
theorem wds_part {w : World} {b : Nat} {p : Part} (h : w.heap[b]? = some (.cells (prow p) 103 (0, 0))) : Wds w (pcell b p) (encs p.1) :=
  ⟨b, p.2, rfl, heap_lt h, fun j x hj => by
    rw [cell_of_row _ _ _ _ _ _ h]
    have hl : j < (encs p.1).length := (List.getElem?_eq_some_iff.1 hj).1
    unfold prow u32s
    rw [List.getElem?_toArray, List.getElem?_append_left (by simpa using hl), List.getElem?_map, hj]
    rfl⟩
theorem Wds.below {w w' : World} {v : Value} {l : List Int} (h : Wds w v l) (hb : Below w.heap.size w w') : Wds w' v l := by
  obtain ⟨b, c, hv, hl, hc⟩ := h
  exact ⟨b, c, hv, Nat.lt_of_lt_of_le hl hb.size, fun j x hj => (hb.cell (p := ⟨b, j, none⟩) hl).trans (hc j x hj)⟩

set_option maxRecDepth 100000 in
set_option maxHeartbeats 4000000 in
theorem eq_words {w : World} {v1 v2 : Value} {l1 l2 : List Int} (h1 : Wds w v1 l1) (h2 : Wds w v2 l2) (hn1 : l1.length ≤ 65536) (_hn2 : l2.length ≤ 65536) :
    Calls Try.prog 63 #[v1, v2] w fun e w' => e = .returned (.bool (decide (l1 = l2))) ∧ Below w.heap.size w w' := by
  obtain ⟨b1, c1, rfl, z1, r1⟩ := h1
  obtain ⟨b2, c2, rfl, z2, r2⟩ := h2
  by_cases hl : l1.length = l2.length
  · have r2 : ∀ (j : Nat) (x : Int), l2[j]? = some x → w.cell? ⟨b2, j, none⟩ = some (.int .u32 x) := r2
    have HE : Hid2 (∀ j, j ≥ l1.length → l1[j]? = l2[j]?) := fun j hj => by rw [List.getElem?_eq_none hj, List.getElem?_eq_none (by omega)]
    have HG : Hid2 (∀ j, j < l1.length → ∃ x y, l1[j]? = some x ∧ l2[j]? = some y) := fun j hj => ⟨l1[j], l2[j], by simp, by simp⟩
    rw [← hl]
    generalize l1.length = n at *
    clear hl _hn2
    have hn : (n : Int) ≤ 65536 := by omega
    go_enter Try.func63, Try.ntmps63
    go_wp2
    go_loopg [13] n (fun gj i wr => ∃ jj : Nat, jj + gj = n ∧ i = .int .i64 jj ∧ Below w.heap.size w wr ∧ Hid2 (∀ j, j < jj → l1[j]? = l2[j]?))
    case atStart => exact ⟨0, Nat.zero_add _, rfl, gr0 _, fun j hj => by omega⟩
    case round =>
      obtain ⟨i, hi, rfl, HB, HS⟩ := hrel
      by_cases hlt : i < n
      · have t1 : decide ((i : Int) < n) = true := by simp; omega
        obtain ⟨x, y, hx, hy⟩ := HG.out i hlt
        have b1c := (HB.cell (p := ⟨b1, i, none⟩) z1).trans (r1 i x hx)
        have b2c := (HB.cell (p := ⟨b2, i, none⟩) z2).trans (r2 i y hy)
        have hi9 : (0 : Int) ≤ i := by omega
        have hi8 : (i : Int) < n := by omega
        have z3 : b1 < wr.heap.size := Nat.lt_of_lt_of_le z1 HB.size
        have z4 : b2 < wr.heap.size := Nat.lt_of_lt_of_le z2 HB.size
        have HX : Hid2 (Below w.heap.size w wr) := HB
        have HY : Hid2 (l1[i]? = some x ∧ l2[i]? = some y) := ⟨hx, hy⟩
        clear HB hx hy r1 r2
        by_cases hxy : x = y
        · subst hxy
          go_wp2_with (fail)
          refine wp_region_calm (by kernel_rfl) (by kernel_rfl) ?_
          (repeat (first | go_big_quiet_step (fail) | quiet_step (fail)))
          refine wpQuiet_nil ?_
          intro u
          go_wp2
          go_roundg (n - (i + 1))
          case measure => omega
          case rel =>
            refine ⟨i + 1, by omega, by go_num, gr2 HX.out u.below, fun j hj => ?_⟩
            rcases Nat.lt_or_ge j i with h | h
            · exact HS.out j h
            · have : j = i := by omega
              subst this
              rw [HY.out.1, HY.out.2]
        · have e1 : (x == y) = false := by simpa using hxy
          have e2 : (x != y) = true := by simpa using hxy
          have e3 : decide (x = y) = false := by simpa using hxy
          go_wp2_with (fail)
          refine wp_region_calm (by kernel_rfl) (by kernel_rfl) ?_
          (repeat (first | go_big_quiet_step (fail) | quiet_step (fail)))
          refine wpQuiet_nil ?_
          intro u
          go_wp2
          go_ret
          refine ⟨?_, gr2 HX.out u.below⟩
          rw [decide_eq_false (fun e : l1 = l2 => hxy (by have h := HY.out; rw [e, h.2] at h; exact (Option.some.inj h.1).symm))]
          rfl
      · have t1 : decide ((i : Int) < n) = false := by simp; omega
        have hin : i = n := by omega
        have HX : Hid2 (Below w.heap.size w wr) := HB
        clear HB r1 r2
        go_wp2
        go_ret
        refine ⟨?_, HX.out⟩
        rw [decide_eq_true (List.ext_getElem? fun j => by
          rcases Nat.lt_or_ge j n with h | h
          · exact HS.out j (by omega)
          · exact HE.out j h)]
        rfl
  · have e0 : ((l1.length : Int) == (l2.length : Int)) = false := by simp; omega
    have e1 : ((l1.length : Int) != (l2.length : Int)) = true := by simp; omega
    have e2 : decide ((l1.length : Int) = (l2.length : Int)) = false := by simp; omega
    have hne : decide (l1 = l2) = false := decide_eq_false (fun e => hl (by rw [e]))
    rw [hne]
    generalize l1.length = m1 at *
    generalize l2.length = m2 at *
    clear r1 r2
    go_enter Try.func63, Try.ntmps63
    go_wp2
    go_ret
    exact ⟨rfl, gr0 _⟩

/-- A slice of parts. -/
def Pts (w : World) (v : Value) (S : St) : Prop := ∃ q c, v = .slice q S.length c ∧ ∀ (j : Nat) (p : Part), S[j]? = some p → ∃ gp b, q = some ⟨gp, 0, none⟩ ∧ gp < w.heap.size ∧ w.cell? ⟨gp, j, none⟩ = some (pcell b p) ∧ w.heap[b]? = some (.cells (prow p) 103 (0, 0))
theorem Pts.below {w w' : World} {v : Value} {S : St} (h : Pts w v S) (hb : Below w.heap.size w w') : Pts w' v S := by
  obtain ⟨q, c, hv, h⟩ := h
  refine ⟨q, c, hv, fun j p hj => ?_⟩
  obtain ⟨gp, b, hq, hz, hc, hh⟩ := h j p hj
  exact ⟨gp, b, hq, Nat.lt_of_lt_of_le hz hb.size, (hb.cell (p := ⟨gp, j, none⟩) hz).trans hc, (hb.block b (heap_lt hh)).trans hh⟩
theorem Rec.pts {w : World} {g : Nat} {S : St} {v : Value} {bs : List Nat} (h : Rec w g S v bs) : Pts w v S := by
  obtain ⟨q, c, hv⟩ := own_slice h.row
  refine ⟨q, c, hv, fun j p hj => ?_⟩
  have hr := h.row
  have hjl : j < S.length := (List.getElem?_eq_some_iff.1 hj).1
  obtain ⟨gp, c', hv', _, hz⟩ := hr.form (by omega)
  have hb : bs[j]? = some (bs[j]'(by rw [h.len]; exact hjl)) := List.getElem?_eq_getElem _
  rw [hv'] at hr hv
  cases hv
  refine ⟨gp, _, rfl, hz, own_cell_at hr ?_, h.part j _ p hb hj⟩
  rw [List.getElem?_zipWith, hb, hj]
/-- A recorder, or none. -/
def Rn (w : World) (p : Option Addr) (S : St) : Prop := (p = none ∧ S = []) ∨ ∃ g fp, p = some ⟨g, 0, none⟩ ∧ Rc w g S fp
theorem Rn.none (w : World) : Rn w none [] := .inl ⟨rfl, rfl⟩
theorem Rc.rn {w : World} {g : Nat} {S : St} {fp : List Nat} (h : Rc w g S fp) : Rn w (some ⟨g, 0, .none⟩) S := .inr ⟨g, fp, rfl, h⟩
theorem Rn.below {w w' : World} {p : Option Addr} {S : St} (h : Rn w p S) (hb : Below w.heap.size w w') : Rn w' p S := by
  rcases h with h | ⟨g, fp, h, k⟩
  · exact .inl h
  · exact .inr ⟨g, fp, h, k.below hb⟩
theorem Rn.ok {w : World} {p : Option Addr} {S : St} (h : Rn w p S) : ∀ q ∈ S, PartOk q := by
  rcases h with ⟨_, rfl⟩ | ⟨g, fp, _, v, bs, k, _⟩
  · intro q hq; cases hq
  · exact k.ok
theorem allp_ {w : World} {p : Option Addr} {S : St} (h : Rn w p S) :
    Calls Try.prog 62 #[.pointer p] w fun e w' => ∃ v, e = .returned v ∧ w' = w ∧ Pts w v S := by
  rcases h with ⟨rfl, rfl⟩ | ⟨g, fp, rfl, v, bs, k, _⟩
  · exact (all_none w).mono fun e w' ⟨h1, h2⟩ => ⟨_, h1, h2, .none, 0, rfl, fun j p hj => by simp at hj⟩
  · exact (all_ k).mono fun e w' ⟨h1, h2⟩ => ⟨_, h1, h2, k.pts⟩

set_option maxRecDepth 100000 in
set_option maxHeartbeats 4000000 in
theorem eq_parts {w : World} {v1 v2 : Value} {S1 S2 : St} (h1 : Pts w v1 S1) (h2 : Pts w v2 S2) (k1 : ∀ p ∈ S1, PartOk p) (k2 : ∀ p ∈ S2, PartOk p) (hn1 : S1.length ≤ 1000000) (_hn2 : S2.length ≤ 1000000) :
    Calls Try.prog 61 #[v1, v2, .func (.func 63) #[] #[]] w fun e w' => e = .returned (.bool (decide (words S1 = words S2))) ∧ Below w.heap.size w w' := by
  obtain ⟨q1, c1, rfl, r1⟩ := h1
  obtain ⟨q2, c2, rfl, r2⟩ := h2
  by_cases hl : S1.length = S2.length
  · have HE : Hid2 (∀ j, j ≥ S1.length → (words S1)[j]? = (words S2)[j]?) := fun j hj => by rw [List.getElem?_eq_none (by simpa [words] using hj), List.getElem?_eq_none (by simp [words]; omega)]
    have HG : Hid2 (∀ j, j < S1.length → ∃ x y, S1[j]? = some x ∧ S2[j]? = some y ∧ PartOk x ∧ PartOk y) := fun j hj => ⟨S1[j], S2[j], by simp, by simp, k1 _ (by simp), k2 _ (by simp)⟩
    rw [← hl]
    generalize S1.length = n at *
    clear hl _hn2
    have hn : (n : Int) ≤ 1000000 := by omega
    have R1 : Hid2 _ := r1
    have R2 : Hid2 _ := r2
    clear r1 r2 k1 k2
    go_enter Try.func61, Try.ntmps61
    go_wp2
    go_loopg [17] n (fun gj i wr => ∃ jj : Nat, jj + gj = n ∧ i = .int .i64 jj ∧ Below w.heap.size w wr ∧ Hid2 (∀ j, j < jj → (words S1)[j]? = (words S2)[j]?))
    case atStart => exact ⟨0, Nat.zero_add _, rfl, gr0 _, fun j hj => by omega⟩
    case round =>
      obtain ⟨i, hi, rfl, HB, HS⟩ := hrel
      by_cases hlt : i < n
      · have t1 : decide ((i : Int) < n) = true := by simp; omega
        obtain ⟨x, y, hx, hy, ox, oy⟩ := HG.out i hlt
        obtain ⟨g1, b1, rfl, z1, d1, e1⟩ := R1.out i x hx
        obtain ⟨g2, b2, rfl, z2, d2, e2⟩ := R2.out i y hy
        have b1c := (HB.cell (p := ⟨g1, i, none⟩) z1).trans d1
        have b2c := (HB.cell (p := ⟨g2, i, none⟩) z2).trans d2
        have hi9 : (0 : Int) ≤ i := by omega
        have hi8 : (i : Int) < n := by omega
        have z3 : g1 < wr.heap.size := Nat.lt_of_lt_of_le z1 HB.size
        have z4 : g2 < wr.heap.size := Nat.lt_of_lt_of_le z2 HB.size
        have W1 : Wds wr (pcell b1 x) (encs x.1) := (wds_part e1).below HB
        have W2 : Wds wr (pcell b2 y) (encs y.1) := (wds_part e2).below HB
        have HC := eq_words W1 W2 (by have := ox.2.1; have := ox.2.2; omega) (by have := oy.2.1; have := oy.2.2; omega)
        have HC : Hid2 _ := HC
        have HX : Hid2 (Below w.heap.size w wr) := HB
        have HY : Hid2 ((words S1)[i]? = some (encs x.1) ∧ (words S2)[i]? = some (encs y.1)) := ⟨by simp [words, hx], by simp [words, hy]⟩
        clear HB hx hy ox oy d1 d2 e1 e2 W1 W2
        generalize pcell b1 x = v1 at *
        generalize pcell b2 y = v2 at *
        obtain ⟨same, hsame⟩ : ∃ same, same = decide (encs x.1 = encs y.1) := ⟨_, rfl⟩
        rw [← hsame] at HC
        have HM : Hid2 (same = decide (encs x.1 = encs y.1)) := hsame
        clear hsame
        cases same
        · go_wp2_with (go_at_call 63; refine Calls.mono HC.out ?_; rintro e w1 ⟨rfl, hb1⟩)
          go_ret
          refine ⟨?_, gr2 HX.out hb1⟩
          have hne := of_decide_eq_false HM.out.symm
          rw [decide_eq_false (fun e : words S1 = words S2 => hne (by have h := HY.out; rw [e, h.2] at h; exact (Option.some.inj h.1).symm))]
          rfl
        · go_wp2_with (go_at_call 63; refine Calls.mono HC.out ?_; rintro e w1 ⟨rfl, hb1⟩)
          go_roundg (n - (i + 1))
          case measure => omega
          case rel =>
            refine ⟨i + 1, by omega, by go_num, gr2 HX.out hb1, fun j hj => ?_⟩
            rcases Nat.lt_or_ge j i with h | h
            · exact HS.out j h
            · have : j = i := by omega
              subst this
              rw [HY.out.1, HY.out.2, of_decide_eq_true HM.out.symm]
      · have t1 : decide ((i : Int) < n) = false := by simp; omega
        have hin : i = n := by omega
        have HX : Hid2 (Below w.heap.size w wr) := HB
        clear HB
        go_wp2
        go_ret
        refine ⟨?_, HX.out⟩
        rw [decide_eq_true (List.ext_getElem? fun j => by
          rcases Nat.lt_or_ge j n with h | h
          · exact HS.out j (by omega)
          · exact HE.out j h)]
        rfl
  · have e0 : ((S1.length : Int) == (S2.length : Int)) = false := by simp; omega
    have e1 : ((S1.length : Int) != (S2.length : Int)) = true := by simp; omega
    have e2 : decide ((S1.length : Int) = (S2.length : Int)) = false := by simp; omega
    have hne : decide (words S1 = words S2) = false := decide_eq_false (fun e => hl (by have := congrArg List.length e; simpa [words] using this))
    rw [hne]
    generalize S1.length = m1 at *
    generalize S2.length = m2 at *
    clear r1 r2
    go_enter Try.func61, Try.ntmps61
    go_wp2
    go_ret
    exact ⟨rfl, gr0 _⟩

theorem tsame_ {w : World} {p1 p2 : Option Addr} {S1 S2 : St} (h1 : Rn w p1 S1) (h2 : Rn w p2 S2) (hn1 : S1.length ≤ 1000000) (hn2 : S2.length ≤ 1000000) :
    Calls Try.prog 43 #[.pointer p1, .pointer p2] w fun e w' => e = .returned (.bool (decide (words S1 = words S2))) ∧ Below w.heap.size w w' := by
  have k1 := h1.ok
  have k2 := h2.ok
  have HA := allp_ h1
  have HB := allp_ h2
  clear h1 h2
  go_enter Try.func43, Try.ntmps43
  go_wp2_with (first
    | (go_at_call 62; refine HA.mono ?_; clear HA; rintro e w1 ⟨v1, rfl, hw1, g1⟩; subst hw1)
    | (go_at_call 62; refine HB.mono ?_; clear HB; rintro e w1 ⟨v2, rfl, hw1, g2⟩; subst hw1)
    | (go_at_call 61; refine (eq_parts g1 g2 k1 k2 hn1 hn2).mono ?_; rintro e w1 ⟨rfl, hb1⟩))
  go_ret
  exact ⟨rfl, hb1⟩

end Go.Proofs.Ytbdnnkokkgdhnaa
