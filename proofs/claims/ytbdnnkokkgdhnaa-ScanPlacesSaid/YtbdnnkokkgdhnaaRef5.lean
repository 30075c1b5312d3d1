/- The document's windows: Load, Store. -/
import Derived.Test.YtbdnnkokkgdhnaaRef4
import Derived.Test.YtbdnnkokkgdhnaaScanS
namespace Go.Proofs.Ytbdnnkokkgdhnaa
open Go.RowKit

theorem clip_eq (n : Nat) (f : Int) : ((clipN n f : Nat) : Int) = if 0 < (if (n : Int) < f then (n : Int) else f) then (if (n : Int) < f then (n : Int) else f) else 0 := by
  unfold clipN
  by_cases h : (n : Int) < f
  · rw [if_pos h]
    by_cases h0 : f < 0
    · omega
    · rw [if_neg h0, if_pos h]; split <;> omega
  · rw [if_neg h]
    by_cases h0 : f < 0
    · rw [if_pos h0, if_neg (by omega)]; rfl
    · rw [if_neg h0, if_neg h]; split <;> omega
set_option maxRecDepth 100000 in
set_option maxHeartbeats 4000000 in
theorem rwin_ {W : World} {q : Option Addr} {c n : Nat} {ve : Value} (hn : n ≤ 1000) (f t : Int) :
    Calls Try.prog 79 #[.agg #[.slice q n c, ve], .int .i64 f, .int .i64 t] W fun e W' => e = .returned (.tuple #[.int .i64 (clipN n f), .int .i64 (clipN n t)]) ∧ Below W.heap.size W W' := by
  have h1 := clip_eq n f
  have h2 := clip_eq n t
  obtain ⟨x1, hx1⟩ : ∃ x, x = (if (n : Int) < f then (n : Int) else f) := ⟨_, rfl⟩
  obtain ⟨x2, hx2⟩ : ∃ x, x = (if (n : Int) < t then (n : Int) else t) := ⟨_, rfl⟩
  rw [← hx1] at h1
  rw [← hx2] at h2
  have e1 := hx1.symm
  have e2 := hx2.symm
  obtain ⟨A, hA⟩ : ∃ A, A = clipN n f := ⟨_, rfl⟩
  obtain ⟨Z, hZ⟩ : ∃ Z, Z = clipN n t := ⟨_, rfl⟩
  rw [← hA] at h1 ⊢
  rw [← hZ] at h2 ⊢
  have e3 := h1.symm
  have e4 := h2.symm
  have hn0 : (0 : Int) ≤ n := by omega
  have hn1 : (n : Int) ≤ 1000 := by omega
  clear h1 h2 hx1 hx2 hA hZ
  go_enter Try.func79, Try.ntmps79
  go_wp2_with (fail)
  refine wp_region_calm (by kernel_rfl) (by kernel_rfl) ?_
  (repeat (first | go_big_quiet_step (fail) | quiet_step (fail)))
  refine wpQuiet_nil ?_
  intro u
  go_wp2
  go_ret2
  exact ⟨rfl, gr2 (gr1 (gr0 W) _) u.below⟩
theorem out_step {L : List Int} {p x : Int} {A j : Nat} (hA : A ≤ j) (hx : L[j]? = some x) : outAt L p A (j + 1) = if (j : Int) = p then x else outAt L p A j := by
  have hl := (List.getElem?_eq_some_iff.1 hx).1
  unfold outAt
  by_cases he : (j : Int) = p
  · subst he
    rw [if_pos (by omega), if_pos rfl]
    obtain ⟨i, hi, _, h3⟩ := getL_in (L := L) (i := (j : Int)) ⟨by omega, by omega⟩
    have : j = i := by omega
    subst this
    exact Option.some.inj (h3.symm.trans hx)
  · rw [if_neg he]
    by_cases h : (A : Int) ≤ p ∧ p < j
    · rw [if_pos h, if_pos (by omega)]
    · rw [if_neg h, if_neg (by omega)]
theorem put_step {L : List Int} {p y : Int} {A j : Nat} (x : Int) (hA : A ≤ j) (h : L[j]? = some y) : setL (putAt L p x A j) (j : Int) (if (j : Int) = p then x else y) = putAt L p x A (j + 1) := by
  have hl := (List.getElem?_eq_some_iff.1 h).1
  rw [setL_in (j := j) ⟨by omega, by rw [putAt_len]; omega⟩]
  by_cases he : (j : Int) = p
  · subst he
    rw [if_pos rfl]
    unfold putAt
    rw [if_neg (by omega), if_pos (by omega), setL_in (j := j) ⟨by omega, by omega⟩]
  · rw [if_neg he]
    have h2 : (putAt L p x A j).set j y = putAt L p x A j := by
      apply List.ext_getElem?
      intro i
      by_cases hj : j = i
      · subst hj
        rw [List.getElem?_set_self (by rw [putAt_len]; exact hl), putAt_at, h]
      · rw [List.getElem?_set_ne hj]
    rw [h2]
    unfold putAt
    by_cases h3 : (A : Int) ≤ p ∧ p < j
    · rw [if_pos h3, if_pos (by omega)]
    · rw [if_neg h3, if_neg (by omega)]
theorem getL_at {L : List Int} {j : Nat} {x : Int} (h : L[j]? = some x) : getL L (j : Int) = x ∧ inL L (j : Int) := by
  have hl := (List.getElem?_eq_some_iff.1 h).1
  have hin : inL L (j : Int) := ⟨by omega, by omega⟩
  obtain ⟨i, hi, _, h3⟩ := getL_in hin
  have : j = i := by omega
  subst this
  exact ⟨Option.some.inj (h3.symm.trans h), hin⟩

set_option maxRecDepth 100000 in
set_option maxHeartbeats 4000000 in
theorem rload_ {W : World} {vl ve : Value} {n0 n1 : Nat} {L : List Int} {E : List Ev} (hl : Ints n0 W vl L) (he : Evs n1 W ve E) (hL : L.length ≤ 1000) (hE : E.length ≤ 800000) (p f t : Int) :
    Calls Try.prog 57 #[.agg #[vl, ve], .int .i64 p, .int .i64 f, .int .i64 t] W fun e W' => ∃ ve', e = .returned (.tuple #[.agg #[vl, ve'], .int .i64 (outAt L p (clipN L.length f) (max (clipN L.length f) (clipN L.length t)))]) ∧ Evs 0 W' ve' (E ++ winE (clipN L.length f) (clipN L.length t) (max (clipN L.length f) (clipN L.length t))) ∧ NewOr W ve ve' ∧ Below W.heap.size W W' := by
  obtain ⟨q, c, rfl, _⟩ := hl.form
  obtain ⟨q', c', rfl⟩ := he.slice
  have hL0 : (0 : Int) ≤ L.length := by omega
  have hL1 : (L.length : Int) ≤ 1000 := by omega
  have hcl := clipN_le L.length f
  have hct := clipN_le L.length t
  have hB : Below W.heap.size W ((W.alloc (.cells #[.slice q L.length c, .slice q' E.length c'] 47)).alloc (.cells #[.slice none 0 0, .slice none 0 0] 47)) := gr1 (gr1 (gr0 W) _) _
  have HB := hid2 hB
  have HE := hid2 (he.zero.below hB)
  have HEl := hid2 (fun y hy => (he.lt y hy).2)
  have HIl := hid2 (fun y hy => (vb_lt hl y hy).2)
  have HI := hid2 (fun (W' : World) (hb : Below W.heap.size W W') => hl.zero.below hb)
  have HC := hid2 ((Cel2.new W (.slice q L.length c) (.slice q' E.length c') 47).below (gr1 (gr0 _) (.cells #[.slice none 0 0, .slice none 0 0] 47)))
  have hr := Cel2.new (W.alloc (.cells #[.slice q L.length c, .slice q' E.length c'] 47)) (.slice none 0 0) (.slice none 0 0) 47
  rw [World.size_alloc] at hr
  have HR := hid2 hr
  obtain ⟨A, hA⟩ : ∃ A, A = clipN L.length f := ⟨_, rfl⟩
  obtain ⟨Z, hZ⟩ : ∃ Z, Z = clipN L.length t := ⟨_, rfl⟩
  rw [← hA] at hcl ⊢
  rw [← hZ] at hct ⊢
  have HA := hid2 hA
  have HZ := hid2 hZ
  obtain ⟨M, hM⟩ : ∃ M, M = max A Z := ⟨_, rfl⟩
  have hMm : M ≤ L.length ∧ A ≤ M ∧ Z ≤ M ∧ (M = A ∨ M = Z) := by rw [hM, Nat.max_def]; split <;> omega
  rw [← hM]
  have HM := hid2 hM
  have hA0 : (0 : Int) ≤ A := by omega
  have hA1 : (A : Int) ≤ 1000 := by omega
  have hZ0 : (0 : Int) ≤ Z := by omega
  have hZ1 : (Z : Int) ≤ 1000 := by omega
  have hw : IntKind.i64.wrap ((Z : Int) - A) = (Z : Int) - A := by rw [IntKind.wrap_i64]; omega
  have hmx : (if (Z : Int) - A < 0 then (0 : Int) else (Z : Int) - A) = ((Z - A : Nat) : Int) := by split <;> omega
  clear hl he hB hr hA hZ hM
  go_enter Try.func57, Try.ntmps57
  go_wp2_with (first
    | (go_at_call 79; (with_reducible refine (rwin_ (by omega) f t).mono ?_); rintro e w1 ⟨rfl, hb1⟩; rw [← HA.out, ← HZ.out]; have HB1 := hid2 (gr2 HB.out hb1); have HE1 := hid2 (HE.out.below hb1); have C1 := HC.out.below hb1; obtain ⟨⟨k0, k1⟩, ⟨k2, k3⟩⟩ := id C1; have kz := C1.lt; have HC1 := hid2 C1; have HR1 := hid2 (HR.out.below hb1); clear C1 hb1)
    | (go_at_call 54; (with_reducible refine (radd_ HE1.out (by omega) 2 ((Z - A : Nat) : Int)).mono ?_); rintro e w2 ⟨v', rfl, E2, hb2⟩; obtain ⟨q2, c2, rfl⟩ := E2.slice1; have hz2 := HR1.out.lt; have HE2 := hid2 (E2.low (n1 := W.heap.size + 2) hz2); have HB2 := hid2 (gr2 HB1.out hb2); have C2 := HC1.out.below hb2; obtain ⟨⟨m0, m1⟩, ⟨m2, m3⟩⟩ := id C2; have mz := C2.lt; have HC2 := hid2 (C2.set1 (x := .slice q2 (E.length + 1) c2)); have HR2 := hid2 ((HR1.out.below hb2).far (c := W.heap.size) (i := 1) (x := .slice q2 (E.length + 1) c2) (by omega)); have HE3 := hid2 (HE2.out.keep (W' := (w2.setCell ⟨W.heap.size, 1, none⟩ (.slice q2 (E.length + 1) c2))) fun y hy => heap_setCell_other _ ⟨W.heap.size, 1, none⟩ y _ (fun e => by have := (HE2.out.lt y hy).1; have e : y = W.heap.size := e; omega)); have HB3 := hid2 (gr4 HB2.out (p := ⟨W.heap.size, 1, none⟩) (Nat.le_refl _) (.slice q2 (E.length + 1) c2)); clear C2 E2 hb2 k0 k1 k2 k3 kz HC1 HR1 HE1 HB1 HE2 HB2))
  go_loopg [12, 13] M (fun gj x i wr => ∃ (j : Nat) (v : Value), (A ≤ j ∧ j ≤ M) ∧ j + gj = A + M ∧ i = .int .i64 j ∧ x = .int .i64 (outAt L p A j) ∧ Cel2 wr W.heap.size (.slice q L.length c) v ∧ Cel2 wr (W.heap.size + 1) (.slice none 0 0) (.slice none 0 0) ∧ Evs 0 wr v (E ++ winE A Z j) ∧ (∀ y ∈ vb v, y ∈ vb (.slice q' E.length c') ∨ W.heap.size + 2 ≤ y) ∧ Below W.heap.size W wr)
  case atStart => exact ⟨A, _, ⟨Nat.le_refl _, hMm.2.1⟩, rfl, rfl, by rw [outAt_zero], HC2.out, HR2.out, by rw [winE_zero]; exact HE3.out.zero, fun y hy => .inr (HE3.out.lt y hy).1, HB3.out⟩
  case round =>
    clear m0 m1 m2 m3 mz HC2 HR2 HE3 HB3
    obtain ⟨j, v, ⟨hj1, hj2⟩, hj, rfl, rfl, C1, R1, E1, N1, B1⟩ := hrel
    obtain ⟨qv, cv, hv⟩ := E1.slice
    subst hv
    have hlen : (E ++ winE A Z j).length ≤ 900000 := by have := winE_len A Z j; simp; omega
    obtain ⟨Ej, hev⟩ : ∃ Ej, Ej = E ++ winE A Z j := ⟨_, rfl⟩
    rw [← hev] at hlen E1 C1 N1
    have HEV := hid2 hev
    obtain ⟨oj, hoj⟩ : ∃ oj, oj = outAt L p A j := ⟨_, rfl⟩
    rw [← hoj]
    have HOJ := hid2 hoj
    obtain ⟨⟨k0, k1⟩, ⟨k2, k3⟩⟩ := id C1
    have kz := C1.lt
    have C2 := hid2 C1
    have R2 := hid2 R1
    have E2 := hid2 E1
    have N2 := hid2 N1
    have B2 := hid2 B1
    have hj0 : (0 : Int) ≤ j := by omega
    have hj9 : (j : Int) ≤ 1000 := by omega
    clear hev hoj C1 E1 N1 B1
    by_cases hlt : j < Z
    · have t1 : decide ((j : Int) < Z) = true := by simp; omega
      have t2 : decide (j < Z) = true := by simp; omega
      have hj8 : (j : Int) < Z := by omega
      have hjL : j < L.length := by omega
      obtain ⟨x, hx⟩ : ∃ x, L[j]? = some x := ⟨L[j], by simp⟩
      have HG := hid2 (getL_at hx)
      have HST := hid2 (out_step (p := p) hj1 hx)
      have hjI : I64 (j : Int) := by unfold I64; omega
      clear R1 hx
      by_cases hjp : (j : Int) = p
      · have e0 : ((j : Int) == p) = true := by rw [beq_iff_eq]; exact hjp
        have HS2 := hid2 (show outAt L p A (j + 1) = x by rw [HST.out, if_pos hjp])
        clear hjp
        go_wp2_with (first
          | (go_at_call 30; (with_reducible refine (rget_ (HI.out wr B2.out) E2.out (by omega) hlen j hjI).mono ?_); rintro e w3 ⟨v3, rfl, E3, N3, hb3⟩; rw [HG.out.1]; rw [see_at HG.out.2] at E3; have E3 : Evs 0 w3 v3 (Ej ++ [(1, (j : Int))]) := E3; obtain ⟨q3, c3, rfl⟩ := E3.slice1; have HE3 := hid2 E3; have HN3 := hid2 N3; have HB3 := hid2 (gr2 B2.out hb3); have C3 := C2.out.below hb3; obtain ⟨⟨m0, m1⟩, ⟨m2, m3⟩⟩ := C2.out.below hb3; have mz := (C2.out.below hb3).lt; have HC3 := hid2 (((C3.set0 (x := .slice q L.length c)).set1 (x := .slice q3 (Ej.length + 1) c3)).below (gr1 (gr0 _) (.cells #[.slice q L.length c, .slice q3 (Ej.length + 1) c3] 47))); have HR3 := hid2 ((((R2.out.below hb3).far (c := W.heap.size) (i := 0) (x := .slice q L.length c) (by omega)).far (c := W.heap.size) (i := 1) (x := .slice q3 (Ej.length + 1) c3) (by omega)).below (gr1 (gr0 _) (.cells #[.slice q L.length c, .slice q3 (Ej.length + 1) c3] 47))); have hz3 := hb3.size; clear C3 E3 N3 hb3))
        go_roundg (A + M - (j + 1))
        case measure => omega
        case rel =>
          have hN4 : ∀ y ∈ vb (.slice q3 (Ej.length + 1) c3), y ∈ vb (.slice q' E.length c') ∨ W.heap.size + 2 ≤ y := fun y hy => (HN3.out y hy).elim (N2.out y) (fun h => .inr (by have := R2.out.lt; omega))
          have hE4 := HE3.out.keep (W' := ((w3.setCell ⟨W.heap.size, 0, none⟩ (.slice q L.length c)).setCell ⟨W.heap.size, 1, none⟩ (.slice q3 (Ej.length + 1) c3))) fun y hy => by
            have hne : y ≠ W.heap.size := fun e => by
              rcases hN4 y hy with h | h
              · have := HEl.out y h; omega
              · omega
            exact (heap_setCell_other _ ⟨W.heap.size, 1, none⟩ y _ hne).trans (heap_setCell_other _ ⟨W.heap.size, 0, none⟩ y _ hne)
          refine ⟨j + 1, _, ⟨by omega, by omega⟩, by omega, by go_num, by rw [HS2.out], HC3.out, HR3.out, ?_, hN4, gr1 (gr4 (gr4 HB3.out (Nat.le_refl _) _) (Nat.le_refl _) _) _⟩
          rw [winE_succ Z hj1, ← List.append_assoc, ← HEV.out]
          exact hE4.below (gr1 (gr0 _) _)
      · have e0 : ((j : Int) == p) = false := by rw [beq_eq_false_iff_ne]; exact hjp
        have HS2 := hid2 (show outAt L p A (j + 1) = oj by rw [HST.out, if_neg hjp, HOJ.out])
        clear hjp
        go_wp2_with (first
          | (go_at_call 30; (with_reducible refine (rget_ (HI.out wr B2.out) E2.out (by omega) hlen j hjI).mono ?_); rintro e w3 ⟨v3, rfl, E3, N3, hb3⟩; rw [HG.out.1]; rw [see_at HG.out.2] at E3; have E3 : Evs 0 w3 v3 (Ej ++ [(1, (j : Int))]) := E3; obtain ⟨q3, c3, rfl⟩ := E3.slice1; have HE3 := hid2 E3; have HN3 := hid2 N3; have HB3 := hid2 (gr2 B2.out hb3); have C3 := C2.out.below hb3; obtain ⟨⟨m0, m1⟩, ⟨m2, m3⟩⟩ := C2.out.below hb3; have mz := (C2.out.below hb3).lt; have HC3 := hid2 (((C3.set0 (x := .slice q L.length c)).set1 (x := .slice q3 (Ej.length + 1) c3)).below (gr1 (gr0 _) (.cells #[.slice q L.length c, .slice q3 (Ej.length + 1) c3] 47))); have HR3 := hid2 ((((R2.out.below hb3).far (c := W.heap.size) (i := 0) (x := .slice q L.length c) (by omega)).far (c := W.heap.size) (i := 1) (x := .slice q3 (Ej.length + 1) c3) (by omega)).below (gr1 (gr0 _) (.cells #[.slice q L.length c, .slice q3 (Ej.length + 1) c3] 47))); have hz3 := hb3.size; clear C3 E3 N3 hb3))
        go_roundg (A + M - (j + 1))
        case measure => omega
        case rel =>
          have hN4 : ∀ y ∈ vb (.slice q3 (Ej.length + 1) c3), y ∈ vb (.slice q' E.length c') ∨ W.heap.size + 2 ≤ y := fun y hy => (HN3.out y hy).elim (N2.out y) (fun h => .inr (by have := R2.out.lt; omega))
          have hE4 := HE3.out.keep (W' := ((w3.setCell ⟨W.heap.size, 0, none⟩ (.slice q L.length c)).setCell ⟨W.heap.size, 1, none⟩ (.slice q3 (Ej.length + 1) c3))) fun y hy => by
            have hne : y ≠ W.heap.size := fun e => by
              rcases hN4 y hy with h | h
              · have := HEl.out y h; omega
              · omega
            exact (heap_setCell_other _ ⟨W.heap.size, 1, none⟩ y _ hne).trans (heap_setCell_other _ ⟨W.heap.size, 0, none⟩ y _ hne)
          refine ⟨j + 1, _, ⟨by omega, by omega⟩, by omega, by go_num, by rw [HS2.out], HC3.out, HR3.out, ?_, hN4, gr1 (gr4 (gr4 HB3.out (Nat.le_refl _) _) (Nat.le_refl _) _) _⟩
          rw [winE_succ Z hj1, ← List.append_assoc, ← HEV.out]
          exact hE4.below (gr1 (gr0 _) _)
    · have t1 : decide ((j : Int) < Z) = false := by simp; omega
      have t2 : decide (j < Z) = false := by simp; omega
      have hjm : j = M := by omega
      obtain ⟨⟨k4, k5⟩, ⟨k6, k7⟩⟩ := id R1
      have kz2 := R1.lt
      clear R1
      go_wp2
      have D := (R2.out.set0 (x := .slice q L.length c)).set1 (x := .slice qv Ej.length cv)
      have hE4 := E2.out.keep (W' := (wr.setCell ⟨W.heap.size + 1, 0, none⟩ (.slice q L.length c)).setCell ⟨W.heap.size + 1, 1, none⟩ (.slice qv Ej.length cv)) fun y hy => by
        have hne : y ≠ W.heap.size + 1 := fun e => by
          rcases N2.out y hy with h | h
          · have := HEl.out y h; omega
          · omega
        exact (heap_setCell_other _ ⟨W.heap.size + 1, 1, none⟩ y _ hne).trans (heap_setCell_other _ ⟨W.heap.size + 1, 0, none⟩ y _ hne)
      rw [← hjm, ← HEV.out, ← HOJ.out]
      exact bodyPost_ret (v := .tuple #[.agg #[.slice q L.length c, .slice qv Ej.length cv], .int .i64 oj]) (by simp [results, Try.results57, go_sem, D.1.1, D.2.1] <;> rfl) rfl ⟨_, rfl, hE4, fun y hy => (N2.out y hy).elim .inl (fun h => .inr (by omega)), gr4 (gr4 B2.out (Nat.le_succ _) _) (Nat.le_succ _) _⟩
set_option maxRecDepth 100000 in
set_option maxHeartbeats 4000000 in
theorem rstore_ {W : World} {vl ve : Value} {n0 n1 : Nat} {L : List Int} {E : List Ev} (hl : Ints n0 W vl L) (he : Evs n1 W ve E) (hL : L.length ≤ 1000) (hE : E.length ≤ 800000) (p x f t : Int) :
    Calls Try.prog 59 #[.agg #[vl, ve], .int .i64 p, .int .i64 x, .int .i64 f, .int .i64 t] W fun e W' => ∃ vl' ve', e = .returned (.agg #[vl', ve']) ∧ Ints 0 W' vl' (putAt L p x (clipN L.length f) (max (clipN L.length f) (clipN L.length t))) ∧ Evs 0 W' ve' (E ++ setE (clipN L.length f) (clipN L.length t) (max (clipN L.length f) (clipN L.length t) - clipN L.length f)) ∧ (NewOr W vl vl' ∧ NewOr W ve ve') ∧ Below W.heap.size W W' := by
  obtain ⟨q, c, rfl, _⟩ := hl.form
  obtain ⟨q', c', rfl⟩ := he.slice
  have hL0 : (0 : Int) ≤ L.length := by omega
  have hL1 : (L.length : Int) ≤ 1000 := by omega
  have hcl := clipN_le L.length f
  have hct := clipN_le L.length t
  have hB : Below W.heap.size W ((W.alloc (.cells #[.slice q L.length c, .slice q' E.length c'] 47)).alloc (.cells #[.slice none 0 0, .slice none 0 0] 47)) := gr1 (gr1 (gr0 W) _) _
  have HB := hid2 hB
  have HE := hid2 (he.zero.below hB)
  have HEl := hid2 (fun y hy => (he.lt y hy).2)
  have HIl := hid2 (fun y hy => (vb_lt hl y hy).2)
  have HI := hid2 (fun (W' : World) (hb : Below W.heap.size W W') => hl.zero.below hb)
  have HC := hid2 ((Cel2.new W (.slice q L.length c) (.slice q' E.length c') 47).below (gr1 (gr0 _) (.cells #[.slice none 0 0, .slice none 0 0] 47)))
  have hr := Cel2.new (W.alloc (.cells #[.slice q L.length c, .slice q' E.length c'] 47)) (.slice none 0 0) (.slice none 0 0) 47
  rw [World.size_alloc] at hr
  have HR := hid2 hr
  obtain ⟨A, hA⟩ : ∃ A, A = clipN L.length f := ⟨_, rfl⟩
  obtain ⟨Z, hZ⟩ : ∃ Z, Z = clipN L.length t := ⟨_, rfl⟩
  rw [← hA] at hcl ⊢
  rw [← hZ] at hct ⊢
  have HA := hid2 hA
  have HZ := hid2 hZ
  obtain ⟨M, hM⟩ : ∃ M, M = max A Z := ⟨_, rfl⟩
  have hMm : M ≤ L.length ∧ A ≤ M ∧ Z ≤ M ∧ (M = A ∨ M = Z) := by rw [hM, Nat.max_def]; split <;> omega
  rw [← hM]
  have HM := hid2 hM
  have hA0 : (0 : Int) ≤ A := by omega
  have hA1 : (A : Int) ≤ 1000 := by omega
  have hZ0 : (0 : Int) ≤ Z := by omega
  have hZ1 : (Z : Int) ≤ 1000 := by omega
  have hw : IntKind.i64.wrap ((Z : Int) - A) = (Z : Int) - A := by rw [IntKind.wrap_i64]; omega
  have hmx : (if (Z : Int) - A < 0 then (0 : Int) else (Z : Int) - A) = ((Z - A : Nat) : Int) := by split <;> omega
  clear hl he hB hr hA hZ hM
  go_enter Try.func59, Try.ntmps59
  go_wp2_with (first
    | (go_at_call 79; (with_reducible refine (rwin_ (by omega) f t).mono ?_); rintro e w1 ⟨rfl, hb1⟩; rw [← HA.out, ← HZ.out]; have HB1 := hid2 (gr2 HB.out hb1); have HE1 := hid2 (HE.out.below hb1); have C1 := HC.out.below hb1; obtain ⟨⟨k0, k1⟩, ⟨k2, k3⟩⟩ := id C1; have kz := C1.lt; have HC1 := hid2 C1; have HR1 := hid2 (HR.out.below hb1); clear C1 hb1)
    | (go_at_call 54; (with_reducible refine (radd_ HE1.out (by omega) 2 ((Z - A : Nat) : Int)).mono ?_); rintro e w2 ⟨v', rfl, E2, hb2⟩; obtain ⟨q2, c2, rfl⟩ := E2.slice1; have hz2 := HR1.out.lt; have HE2 := hid2 (E2.low (n1 := W.heap.size + 2) hz2); have HB2 := hid2 (gr2 HB1.out hb2); have C2 := HC1.out.below hb2; obtain ⟨⟨m0, m1⟩, ⟨m2, m3⟩⟩ := id C2; have mz := C2.lt; have HC2 := hid2 (C2.set1 (x := .slice q2 (E.length + 1) c2)); have HR2 := hid2 ((HR1.out.below hb2).far (c := W.heap.size) (i := 1) (x := .slice q2 (E.length + 1) c2) (by omega)); have HE3 := hid2 (HE2.out.keep (W' := (w2.setCell ⟨W.heap.size, 1, none⟩ (.slice q2 (E.length + 1) c2))) fun y hy => heap_setCell_other _ ⟨W.heap.size, 1, none⟩ y _ (fun e => by have := (HE2.out.lt y hy).1; have e : y = W.heap.size := e; omega)); have HB3 := hid2 (gr4 HB2.out (p := ⟨W.heap.size, 1, none⟩) (Nat.le_refl _) (.slice q2 (E.length + 1) c2)); clear C2 E2 hb2 k0 k1 k2 k3 kz HC1 HR1 HE1 HB1 HE2 HB2))
  go_loopg [13] M (fun gj i wr => ∃ (j : Nat) (v u : Value), (A ≤ j ∧ j ≤ M) ∧ j + gj = A + M ∧ i = .int .i64 j ∧ Cel2 wr W.heap.size u v ∧ Cel2 wr (W.heap.size + 1) (.slice none 0 0) (.slice none 0 0) ∧ (Ints 0 wr u (putAt L p x A j) ∧ Evs 0 wr v (E ++ setE A Z (j - A))) ∧ (∀ y ∈ vb u, y ∈ vb (.slice q L.length c) ∨ W.heap.size + 2 ≤ y) ∧ (∀ y ∈ vb v, y ∈ vb (.slice q' E.length c') ∨ W.heap.size + 2 ≤ y) ∧ Below W.heap.size W wr)
  case atStart => exact ⟨A, _, _, ⟨Nat.le_refl _, hMm.2.1⟩, rfl, rfl, HC2.out, HR2.out, ⟨by rw [putAt_zero]; exact HI.out _ HB3.out, by rw [Nat.sub_self]; exact HE3.out.zero⟩, fun y hy => .inl hy, fun y hy => .inr (HE3.out.lt y hy).1, HB3.out⟩
  case round =>
    clear m0 m1 m2 m3 mz HC2 HR2 HE3 HB3
    obtain ⟨j, v, u, ⟨hj1, hj2⟩, hj, rfl, C1, R1, ⟨I1, E1⟩, NI1, N1, B1⟩ := hrel
    obtain ⟨qv, cv, hv⟩ := E1.slice
    obtain ⟨qj, cj, hu⟩ := own_form I1
    rw [putAt_len] at hu
    subst hv hu
    have hlen : (E ++ setE A Z (j - A)).length ≤ 810000 := by have := setE_len A Z (j - A); simp; omega
    obtain ⟨Ej, hev⟩ : ∃ Ej, Ej = E ++ setE A Z (j - A) := ⟨_, rfl⟩
    rw [← hev] at hlen E1 C1 N1
    have HEV := hid2 hev
    obtain ⟨Lj, hlj⟩ : ∃ Lj, Lj = putAt L p x A j := ⟨_, rfl⟩
    rw [← hlj] at I1
    have HLJ := hid2 hlj
    have HLn := hid2 (show Lj.length = L.length by rw [hlj, putAt_len])
    obtain ⟨⟨k0, k1⟩, ⟨k2, k3⟩⟩ := id C1
    have kz := C1.lt
    have C2 := hid2 C1
    have R2 := hid2 R1
    have E2 := hid2 E1
    have I2 := hid2 I1
    have N2 := hid2 N1
    have NI2 := hid2 NI1
    have B2 := hid2 B1
    have hj0 : (0 : Int) ≤ j := by omega
    have hj9 : (j : Int) ≤ 1000 := by omega
    clear hev hlj C1 E1 I1 N1 NI1 B1
    by_cases hlt : j < Z
    · have t1 : decide ((j : Int) < Z) = true := by simp; omega
      have t2 : decide (j < Z) = true := by simp; omega
      have hj8 : (j : Int) < Z := by omega
      have hjL : j < L.length := by omega
      obtain ⟨z, hz⟩ : ∃ z, L[j]? = some z := ⟨L[j], by simp⟩
      have HG := hid2 (getL_at (show Lj[j]? = some z by rw [HLJ.out, putAt_at]; exact hz))
      have HST := hid2 (put_step (p := p) x hj1 hz)
      have hjI : I64 (j : Int) := by unfold I64; omega
      clear R1 hz
      by_cases hjp : (j : Int) = p
      · have e0 : ((j : Int) == p) = true := by rw [beq_iff_eq]; exact hjp
        have HS2 := hid2 (show setL Lj j x = putAt L p x A (j + 1) by rw [← HST.out, if_pos hjp, HLJ.out])
        clear hjp
        go_wp2_with (first
          | (go_at_call 30; (with_reducible refine (rget_ I2.out E2.out (by rw [HLn.out]; omega) (by omega) j hjI).mono ?_); rintro e w3 ⟨v3, rfl, E3, N3, hb3⟩; rw [HG.out.1]; rw [see_at HG.out.2] at E3; have E3 : Evs 0 w3 v3 (Ej ++ [(1, (j : Int))]) := E3; obtain ⟨q3, c3, rfl⟩ := E3.slice1; have HE3 := hid2 (E3.below (gr1 (gr0 w3) (.cells #[.slice qj L.length cj, .slice q3 (Ej.length + 1) c3] 47))); have HI3 := hid2 ((I2.out.below hb3).below (gr1 (gr0 w3) (.cells #[.slice qj L.length cj, .slice q3 (Ej.length + 1) c3] 47))); have HN3 := hid2 N3; have HB3 := hid2 (gr1 (gr2 B2.out hb3) (.cells #[.slice qj L.length cj, .slice q3 (Ej.length + 1) c3] 47)); have C3 := C2.out.below hb3; obtain ⟨⟨m0, m1⟩, ⟨m2, m3⟩⟩ := C2.out.below hb3; have mz := (C2.out.below hb3).lt; have HC3 := hid2 (C3.below (gr1 (gr0 w3) (.cells #[.slice qj L.length cj, .slice q3 (Ej.length + 1) c3] 47))); have HR3 := hid2 ((R2.out.below hb3).below (gr1 (gr0 w3) (.cells #[.slice qj L.length cj, .slice q3 (Ej.length + 1) c3] 47))); have hz3 := hb3.size; clear C3 E3 N3 hb3)
          | (go_at_call 29; (with_reducible refine (rset_ HI3.out HE3.out (by rw [HLn.out]; omega) (by simp; omega) j x hjI).mono ?_); rintro e w4 ⟨vl4, v4, rfl, I4, E4, ⟨NI4, N4⟩, hb4⟩; rw [see_at HG.out.2] at E4; rw [HS2.out] at I4; have E4 : Evs 0 w4 v4 ((Ej ++ [(1, (j : Int))]) ++ [(1, (j : Int))]) := E4; obtain ⟨q4, c4, hq4⟩ := E4.slice1; rw [List.length_append, List.length_singleton] at hq4; subst hq4; obtain ⟨q5, c5, hq5⟩ := own_form I4; rw [putAt_len] at hq5; subst hq5; have HE4 := hid2 E4; have HI4 := hid2 I4; have HN4 := hid2 N4; have HNI4 := hid2 NI4; have HB4 := hid2 (gr2 HB3.out hb4); have C4 := HC3.out.below hb4; obtain ⟨⟨y0, y1⟩, ⟨y2, y3⟩⟩ := id C4; have yz := C4.lt; have HC4 := hid2 ((C4.set0 (x := .slice q5 L.length c5)).set1 (x := .slice q4 (Ej.length + 1 + 1) c4)); have HR4 := hid2 (((HR3.out.below hb4).far (c := W.heap.size) (i := 0) (x := .slice q5 L.length c5) (by omega)).far (c := W.heap.size) (i := 1) (x := .slice q4 (Ej.length + 1 + 1) c4) (by omega)); have hz4 := hb4.size; clear C4 E4 I4 N4 NI4 hb4))
        go_roundg (A + M - (j + 1))
        case measure => omega
        case rel =>
          have hN5 : ∀ y ∈ vb (.slice q4 (Ej.length + 1 + 1) c4), y ∈ vb (.slice q' E.length c') ∨ W.heap.size + 2 ≤ y := fun y hy => (HN4.out y hy).elim (fun h => (HN3.out y h).elim (N2.out y) (fun h => .inr (by have := R2.out.lt; omega))) (fun h => .inr (by have := R2.out.lt; simp at h; omega))
          have hN6 : ∀ y ∈ vb (.slice q5 L.length c5), y ∈ vb (.slice q L.length c) ∨ W.heap.size + 2 ≤ y := fun y hy => (HNI4.out y hy).elim (fun h => NI2.out y h) (fun h => .inr (by have := R2.out.lt; simp at h; omega))
          have far : ∀ y, y ≠ W.heap.size → ((w4.setCell ⟨W.heap.size, 0, none⟩ (.slice q5 L.length c5)).setCell ⟨W.heap.size, 1, none⟩ (.slice q4 (Ej.length + 1 + 1) c4)).heap[y]? = w4.heap[y]? := fun y hne => (heap_setCell_other _ ⟨W.heap.size, 1, none⟩ y _ hne).trans (heap_setCell_other _ ⟨W.heap.size, 0, none⟩ y _ hne)
          have hE5 := HE4.out.keep fun y hy => far y fun e => by
            rcases hN5 y hy with h | h
            · have := HEl.out y h; omega
            · omega
          have hI5 := HI4.out.keep fun y hy => far y fun e => by
            rcases hN6 y hy with h | h
            · have := HIl.out y h; omega
            · omega
          refine ⟨j + 1, _, _, ⟨by omega, by omega⟩, by omega, by go_num, HC4.out, HR4.out, ⟨hI5, ?_⟩, hN6, hN5, gr4 (gr4 HB4.out (Nat.le_refl _) _) (Nat.le_refl _) _⟩
          rw [show j + 1 - A = (j - A) + 1 by omega]
          show Evs 0 _ _ (E ++ (setE A Z (j - A) ++ [(1, ((A + (j - A) : Nat) : Int)), (1, ((A + (j - A) : Nat) : Int))]))
          rw [show A + (j - A) = j by omega, ← List.append_assoc, ← HEV.out]
          simpa using hE5
      · have e0 : ((j : Int) == p) = false := by rw [beq_eq_false_iff_ne]; exact hjp
        have HS2 := hid2 (show setL Lj j z = putAt L p x A (j + 1) by rw [← HST.out, if_neg hjp, HLJ.out])
        clear hjp
        go_wp2_with (first
          | (go_at_call 30; (with_reducible refine (rget_ I2.out E2.out (by rw [HLn.out]; omega) (by omega) j hjI).mono ?_); rintro e w3 ⟨v3, rfl, E3, N3, hb3⟩; rw [HG.out.1]; rw [see_at HG.out.2] at E3; have E3 : Evs 0 w3 v3 (Ej ++ [(1, (j : Int))]) := E3; obtain ⟨q3, c3, rfl⟩ := E3.slice1; have HE3 := hid2 (E3.below (gr1 (gr0 w3) (.cells #[.slice qj L.length cj, .slice q3 (Ej.length + 1) c3] 47))); have HI3 := hid2 ((I2.out.below hb3).below (gr1 (gr0 w3) (.cells #[.slice qj L.length cj, .slice q3 (Ej.length + 1) c3] 47))); have HN3 := hid2 N3; have HB3 := hid2 (gr1 (gr2 B2.out hb3) (.cells #[.slice qj L.length cj, .slice q3 (Ej.length + 1) c3] 47)); have C3 := C2.out.below hb3; obtain ⟨⟨m0, m1⟩, ⟨m2, m3⟩⟩ := C2.out.below hb3; have mz := (C2.out.below hb3).lt; have HC3 := hid2 (C3.below (gr1 (gr0 w3) (.cells #[.slice qj L.length cj, .slice q3 (Ej.length + 1) c3] 47))); have HR3 := hid2 ((R2.out.below hb3).below (gr1 (gr0 w3) (.cells #[.slice qj L.length cj, .slice q3 (Ej.length + 1) c3] 47))); have hz3 := hb3.size; clear C3 E3 N3 hb3)
          | (go_at_call 29; (with_reducible refine (rset_ HI3.out HE3.out (by rw [HLn.out]; omega) (by simp; omega) j z hjI).mono ?_); rintro e w4 ⟨vl4, v4, rfl, I4, E4, ⟨NI4, N4⟩, hb4⟩; rw [see_at HG.out.2] at E4; rw [HS2.out] at I4; have E4 : Evs 0 w4 v4 ((Ej ++ [(1, (j : Int))]) ++ [(1, (j : Int))]) := E4; obtain ⟨q4, c4, hq4⟩ := E4.slice1; rw [List.length_append, List.length_singleton] at hq4; subst hq4; obtain ⟨q5, c5, hq5⟩ := own_form I4; rw [putAt_len] at hq5; subst hq5; have HE4 := hid2 E4; have HI4 := hid2 I4; have HN4 := hid2 N4; have HNI4 := hid2 NI4; have HB4 := hid2 (gr2 HB3.out hb4); have C4 := HC3.out.below hb4; obtain ⟨⟨y0, y1⟩, ⟨y2, y3⟩⟩ := id C4; have yz := C4.lt; have HC4 := hid2 ((C4.set0 (x := .slice q5 L.length c5)).set1 (x := .slice q4 (Ej.length + 1 + 1) c4)); have HR4 := hid2 (((HR3.out.below hb4).far (c := W.heap.size) (i := 0) (x := .slice q5 L.length c5) (by omega)).far (c := W.heap.size) (i := 1) (x := .slice q4 (Ej.length + 1 + 1) c4) (by omega)); have hz4 := hb4.size; clear C4 E4 I4 N4 NI4 hb4))
        go_roundg (A + M - (j + 1))
        case measure => omega
        case rel =>
          have hN5 : ∀ y ∈ vb (.slice q4 (Ej.length + 1 + 1) c4), y ∈ vb (.slice q' E.length c') ∨ W.heap.size + 2 ≤ y := fun y hy => (HN4.out y hy).elim (fun h => (HN3.out y h).elim (N2.out y) (fun h => .inr (by have := R2.out.lt; omega))) (fun h => .inr (by have := R2.out.lt; simp at h; omega))
          have hN6 : ∀ y ∈ vb (.slice q5 L.length c5), y ∈ vb (.slice q L.length c) ∨ W.heap.size + 2 ≤ y := fun y hy => (HNI4.out y hy).elim (fun h => NI2.out y h) (fun h => .inr (by have := R2.out.lt; simp at h; omega))
          have far : ∀ y, y ≠ W.heap.size → ((w4.setCell ⟨W.heap.size, 0, none⟩ (.slice q5 L.length c5)).setCell ⟨W.heap.size, 1, none⟩ (.slice q4 (Ej.length + 1 + 1) c4)).heap[y]? = w4.heap[y]? := fun y hne => (heap_setCell_other _ ⟨W.heap.size, 1, none⟩ y _ hne).trans (heap_setCell_other _ ⟨W.heap.size, 0, none⟩ y _ hne)
          have hE5 := HE4.out.keep fun y hy => far y fun e => by
            rcases hN5 y hy with h | h
            · have := HEl.out y h; omega
            · omega
          have hI5 := HI4.out.keep fun y hy => far y fun e => by
            rcases hN6 y hy with h | h
            · have := HIl.out y h; omega
            · omega
          refine ⟨j + 1, _, _, ⟨by omega, by omega⟩, by omega, by go_num, HC4.out, HR4.out, ⟨hI5, ?_⟩, hN6, hN5, gr4 (gr4 HB4.out (Nat.le_refl _) _) (Nat.le_refl _) _⟩
          rw [show j + 1 - A = (j - A) + 1 by omega]
          show Evs 0 _ _ (E ++ (setE A Z (j - A) ++ [(1, ((A + (j - A) : Nat) : Int)), (1, ((A + (j - A) : Nat) : Int))]))
          rw [show A + (j - A) = j by omega, ← List.append_assoc, ← HEV.out]
          simpa using hE5
    · have t1 : decide ((j : Int) < Z) = false := by simp; omega
      have t2 : decide (j < Z) = false := by simp; omega
      have hjm : j = M := by omega
      obtain ⟨⟨k4, k5⟩, ⟨k6, k7⟩⟩ := id R1
      have kz2 := R1.lt
      clear R1
      go_wp2
      have D := (R2.out.set0 (x := .slice qj L.length cj)).set1 (x := .slice qv Ej.length cv)
      have far : ∀ y, y ≠ W.heap.size + 1 → ((wr.setCell ⟨W.heap.size + 1, 0, none⟩ (.slice qj L.length cj)).setCell ⟨W.heap.size + 1, 1, none⟩ (.slice qv Ej.length cv)).heap[y]? = wr.heap[y]? := fun y hne => (heap_setCell_other _ ⟨W.heap.size + 1, 1, none⟩ y _ hne).trans (heap_setCell_other _ ⟨W.heap.size + 1, 0, none⟩ y _ hne)
      have hE4 := E2.out.keep fun y hy => far y fun e => by
        rcases N2.out y hy with h | h
        · have := HEl.out y h; omega
        · omega
      have hI4 := I2.out.keep fun y hy => far y fun e => by
        rcases NI2.out y hy with h | h
        · have := HIl.out y h; omega
        · omega
      rw [← hjm, ← HEV.out, ← HLJ.out]
      exact bodyPost_ret (v := .agg #[.slice qj L.length cj, .slice qv Ej.length cv]) (by simp [results, Try.results59, go_sem, D.1.1, D.2.1] <;> rfl) rfl ⟨_, _, rfl, hI4, hE4, ⟨fun y hy => (NI2.out y hy).elim .inl (fun h => .inr (by omega)), fun y hy => (N2.out y hy).elim .inl (fun h => .inr (by omega))⟩, gr4 (gr4 B2.out (Nat.le_succ _) _) (Nat.le_succ _) _⟩
end Go.Proofs.Ytbdnnkokkgdhnaa
