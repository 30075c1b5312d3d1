/- Take: some bytes, from a secret place of a window on. -/
import Derived.Test.YtbdnnkokkgdhnaaScanP
namespace Go.Proofs.Ytbdnnkokkgdhnaa
open Go.RowKit Go.Shelf
attribute [local go_sem] Oper.semAt_some

theorem takeO_succ {L : List Int} {p : Int} {n A i : Nat} {y : Int} (hA : A ≤ i) (hy : L[i]? = some y) : takeW p y (takeO L p n A (i - A)) n i n = takeO L p n A (i + 1 - A) := by
  rw [show i + 1 - A = (i - A) + 1 by omega]
  simp only [takeO]
  rw [show A + (i - A) = i by omega]
  have : L.getD i 0 = y := by unfold List.getD; rw [hy]; rfl
  rw [this]
set_option maxRecDepth 100000 in
set_option maxHeartbeats 4000000 in
theorem stake_ {w0 W : World} {b : Nat} {o : Option Nat} {E : List Ev} {L : List Int} {X : List Nat} (k : B1 w0 W b o E L X) (hE : E.length ≤ 800000) (hL : L.length ≤ 1000) (p m f t : Int) :
    Calls Try.prog 49 #[.pointer (some ⟨b, 0, none⟩), .agg #[.int .i64 p], .int .i64 m, .int .i64 f, .int .i64 t] W fun e W' => e = .returned (.agg #[.int .i64 (takeO L p (clipN 8 m) (clipN L.length f) (max (clipN L.length f) (clipN L.length t) - clipN L.length f))]) ∧
      B1 w0 W' b o (addO o E (winE (clipN L.length f) (clipN L.length t) (max (clipN L.length f) (clipN L.length t)))) L X ∧ Kept X W W' := by
  have hX := k.ltX
  have hw0 := k.below.size
  have K4 := ((k.more (gr1 (gr0 W) (.cells #[.int .i64 p] 29)) W.heap.size (Nat.le_refl _) (by simp)).more (gr1 (gr0 _) (.cells #[.int .i64 m] 3)) (W.heap.size + 1) (by simp) (by simp)).more (gr1 (gr0 _) (.cells #[.int .i64 0] 29)) (W.heap.size + 2) (by simp) (by simp)
  have hs : (((W.alloc (.cells #[.int .i64 p] 29)).alloc (.cells #[.int .i64 m] 3)).alloc (.cells #[.int .i64 0] 29)).heap.size = W.heap.size + 3 := by simp
  have q0 : (((W.alloc (.cells #[.int .i64 p] 29)).alloc (.cells #[.int .i64 m] 3)).alloc (.cells #[.int .i64 0] 29)).cell? ⟨W.heap.size, 0, none⟩ = some (.int .i64 p) := by simp [alloc_cell_if, show W.heap.size < W.heap.size + 1 + 1 by omega]
  have q1 : Cel (((W.alloc (.cells #[.int .i64 p] 29)).alloc (.cells #[.int .i64 m] 3)).alloc (.cells #[.int .i64 0] 29)) (W.heap.size + 1) 0 (.int .i64 m) := ⟨by simp [alloc_cell_if], by simp [alloc_frozen_if]⟩
  have q2 : Cel (((W.alloc (.cells #[.int .i64 p] 29)).alloc (.cells #[.int .i64 m] 3)).alloc (.cells #[.int .i64 0] 29)) (W.heap.size + 2) 0 (.int .i64 0) := ⟨by simp [alloc_cell_if], by simp [alloc_frozen_if]⟩
  have kk : Kept X W (((W.alloc (.cells #[.int .i64 p] 29)).alloc (.cells #[.int .i64 m] 3)).alloc (.cells #[.int .i64 0] 29)) := Kept.calm hX (gr1 (gr1 (gr1 (gr0 W) _) _) _)
  have HX := hid2 hX
  have HKK := hid2 kk
  have HQ1 := hid2 q1
  have HQ2 := hid2 q2
  have hcl := clipN_le L.length f
  have hct := clipN_le L.length t
  have hc8 := clipN_le 8 m
  clear k hX kk q1 q2
  obtain ⟨c, hc⟩ : ∃ c, c = clipN 8 m := ⟨_, rfl⟩
  rw [← hc] at hc8 ⊢
  have HC := hid2 hc
  have hc9 : (c : Int) ≤ 8 := by omega
  have hcz : (0 : Int) ≤ c := by omega
  clear hc
  refine (callsIn_wide (n := 12)).1 ?_
  refine callsIn_of_wp_marks Try.func49 rfl trivial ?_ rfl
  simp only [Try.ntmps49, List.size_toArray, List.length_cons, List.length_nil, Nat.reduceAdd, Nat.reduceSub, Array.replicate_succ, Array.replicate_zero, List.push_toArray, List.append_toArray, List.nil_append, List.cons_append]
  gi_wp2_with (first
    | (refine ⟨trivial, ?_⟩; gi_at_call 71; refine (callsIn_wide.2 (nclip_ m 8 _)).mono ?_; rintro e w1 ⟨rfl, hb1⟩; rw [← HC.out]; have hz1 := hb1.size; rw [hs] at hz1; have r0 := (hb1.cell (p := ⟨W.heap.size, 0, none⟩) (by rw [hs]; show W.heap.size < _; omega)).trans q0; have R1 := HQ1.out.below hb1; have R2 := hid2 (HQ2.out.below hb1); have r1 := R1.1; have f1 := R1.2; have K1 := (K4.calm hb1).set (x := W.heap.size + 1) (i := 0) (by simp) (by omega) (.int .i64 c); have HK1 := hid2 K1; clear K1; have s1 := hid2 (cel_same (u := .int .i64 c) R1); clear R1; have s2 := hid2 (cel_set (u := .int .i64 c) (b' := W.heap.size + 1) (i' := 0) R2.out (by omega)); have s0' := hid2 ((World.cell?_of_block (a := ⟨W.heap.size, 0, none⟩) (heap_setCell_other w1 ⟨W.heap.size + 1, 0, none⟩ W.heap.size (.int .i64 c) (by simp))).trans r0); have kk1 : Kept X W w1 := HKK.out.trans (Kept.calm (fun y hy => (by have := HX.out y hy; rw [hs]; omega)) hb1); have HKK1 := hid2 kk1; clear kk1)
    | (refine ⟨trivial, ?_⟩; gi_at_call 19; refine (callsIn_wide.2 (sec_of 0 _)).mono ?_; rintro e w2 ⟨rfl, hb2⟩; have hz2 := hb2.size; rw [size_set] at hz2; have t0 := hid2 ((hb2.cell (p := ⟨W.heap.size, 0, none⟩) (by rw [size_set]; show W.heap.size < _; omega)).trans s0'.out); have T1 := hid2 (Cel.below s1.out hb2); have T2 := hid2 (Cel.below s2.out hb2); have HK2 := hid2 ((HK1.out.calm hb2).more (gr1 (gr0 w2) (.cells #[.int .i64 0] 29)) w2.heap.size (Nat.le_refl _) (by simp)); obtain ⟨v3, B3⟩ := HK2.out.bufc)
    | (refine ⟨trivial, ?_⟩; gi_at_call 60; refine (callsIn_wide.2 (window_ B3 f t)).mono ?_; rintro e w3 ⟨rfl, hb3, e1, e2, e3⟩))
  have hsw : (w1.setCell ⟨W.heap.size + 1, 0, none⟩ (.int .i64 c)).heap.size = w1.heap.size := size_set _ _ _
  have hs2 : (w2.alloc (.cells #[.int .i64 0] 29)).heap.size = w2.heap.size + 1 := by simp
  have hb3s := hb3.size
  rw [hs2] at e1 e2 e3 hb3s
  have zz := World.block_lt_of_cell? w3 _ e2
  simp only at zz
  have K5 := hid2 (HK2.out.mores hb3 [w2.heap.size + 1, w2.heap.size + 1 + 2, w2.heap.size + 1 + 1] (by intro y hy; rw [hs2]; simp only [List.mem_cons, List.not_mem_nil, or_false] at hy; omega))
  have hgr : Below w2.heap.size w2 (w2.alloc (.cells #[.int .i64 0] 29)) := gr1 (gr0 w2) _
  have u0 := hid2 ((hb3.cell (p := ⟨W.heap.size, 0, none⟩) (by rw [hs2]; show W.heap.size < _; omega)).trans (cellA (x := (.cells #[.int .i64 0] 29)) t0.out))
  have u1 := hid2 ((T1.out.below hgr).below hb3)
  have u2 := hid2 ((T2.out.below hgr).below hb3)
  have u3 : Cel w3 w2.heap.size 0 (.int .i64 0) := Cel.below (W := (w2.alloc (.cells #[.int .i64 0] 29))) ⟨by simp [alloc_cell_if], by simp [alloc_frozen_if]⟩ hb3
  have kk3 : Kept X W w3 := (((HKK1.out.trans ⟨fun y hy => heap_setCell_other _ ⟨W.heap.size + 1, 0, none⟩ y _ (fun e => by have := HX.out y hy; have e : y = W.heap.size + 1 := e; omega), by rw [hsw]; exact Nat.le_refl _⟩).trans (Kept.calm (fun y hy => by have := HX.out y hy; rw [hsw]; omega) hb2)).trans (Kept.calm (fun y hy => by have := HX.out y hy; omega) hgr)).trans (Kept.calm (fun y hy => by have := HX.out y hy; rw [hs2]; omega) hb3)
  generalize hAe : clipN L.length f = A at *
  generalize hZe : clipN L.length t = Z at *
  have HAe := hid2 hAe
  have HZe := hid2 hZe
  clear hAe hZe
  obtain ⟨so, hso⟩ : ∃ so, so = w2.heap.size := ⟨_, rfl⟩
  obtain ⟨s0, hs0⟩ : ∃ s0, s0 = W.heap.size := ⟨_, rfl⟩
  rw [← hso] at e1 e2 e3 K5 u3 ⊢
  rw [← hs0] at K5 u0 u1 u2 ⊢
  have HS := hid2 hs0
  have HZ := hid2 hso
  have hz9 : s0 + 3 ≤ so := by omega
  have v0 := u0.out
  have v1 := u1.out
  have v2 := u2.out
  have hw3 := K5.out.below.size
  clear K4 B3 HK1 HK2 q0 r0 r1 f1 R2 s1 s2 s0' t0 T1 T2 hb1 hz1 hb2 hz2 hb3 hs hsw hs2 hb3s hs0 hso hgr zz u0 u1 u2
  let G : Nat → World → Prop := fun i W' => W'.cell? ⟨s0, 0, none⟩ = some (.int .i64 p) ∧ W'.cell? ⟨s0 + 1, 0, none⟩ = some (.int .i64 c) ∧ Cel W' (s0 + 2) 0 (.int .i64 0) ∧ Cel W' so 0 (.int .i64 (takeO L p c A (i - A))) ∧
    (W'.cell? ⟨so + 1, 0, none⟩ = some (.pointer (some ⟨b, 0, none⟩)) ∧ W'.cell? ⟨so + 1 + 2, 0, none⟩ = some (.int .i64 Z) ∧ W'.cell? ⟨so + 1 + 1, 0, none⟩ = some (.int .i64 A)) ∧ Kept X W W'
  refine range_win (n := 12) (A := A) (Z := Z) (N := L.length) (E := fun i => addO o E (winE A Z i)) (L := fun _ => L) (E0 := E) (X := [so + 1, so + 1 + 2, so + 1 + 1] ++ (so :: (s0 + 2) :: (s0 + 1) :: s0 :: X)) (G := G) (by omega) rfl rfl hcl hct (fun _ => rfl) (by omega) (fun i hi => Nat.le_trans (addO_len _ _ _) (by have := winE_len A Z i; omega)) (by omega) (by rw [winE_zero]) ?hG (fun i W' h => h.2.2.2.2.1) K5.out ⟨v0, v1.1, v2, by rw [Nat.sub_self]; exact u3, ⟨e1, e2, e3⟩, kk3⟩
    (fun i y Bx => { tmps := #[.pointer (some ⟨b, 0, none⟩), .agg #[.int .i64 p], .int .i64 m, .int .i64 f, .int .i64 t, undef, .pointer (some ⟨s0, 0, none⟩), .pointer (some ⟨s0 + 1, 0, none⟩), undef, undef, .pointer (some ⟨s0 + 2, 0, none⟩), .pointer (some ⟨so, 0, none⟩), .int .i64 i, .pointer (some ⟨Bx, 0, none⟩), undef, .int .i64 m, .int .i64 c, .agg #[.int .i64 0], .pointer (some ⟨b, 0, none⟩), .int .i64 f, .int .i64 t,
      .func (.func 80) #[] #[.pointer (some ⟨so + 1, 0, none⟩), .pointer (some ⟨so + 1 + 2, 0, none⟩), .pointer (some ⟨so + 1 + 1, 0, none⟩)], .int .i64 i, .agg #[.int .i64 y], undef, undef, undef, undef, undef, undef, undef, undef, undef, undef, undef, undef, undef, undef, undef, undef, undef, undef, undef, undef, undef, undef], defers := [] }) ?assign ?body ?done
  case hG =>
    rintro i W1 W2 ⟨h1, h2, ⟨h3, h3'⟩, ⟨h4, h4'⟩, ⟨h6, h7, h8⟩, h9⟩ hk
    exact ⟨hk.cell (by simp) h1, hk.cell (by simp) h2, ⟨hk.cell (by simp) h3, hk.free (by simp) h3'⟩, ⟨hk.cell (by simp) h4, hk.free (by simp) h4'⟩, ⟨hk.cell (by simp) h6, hk.cell (by simp) h7, hk.cell (by simp) h8⟩, h9.trans (hk.less fun y hy => by simp [hy])⟩
  case assign =>
    rintro l Y i y W1 h1 h2 hy hB hg
    have hBl := hB.ltX
    gi_wp2
    exact ⟨Kept.calm hBl (gr1 (gr0 W1) _), W1.heap.size, rfl, hB.more (gr1 (gr0 W1) _) W1.heap.size (Nat.le_refl _) (by simp), ⟨fun h => Nat.lt_irrefl _ (hBl _ h), hB.below.size⟩, by simp [alloc_cell_if], by simp [alloc_frozen_if]⟩
  case body =>
    rintro l Y i y Bx W1 h1 h2 hy hB hYX ⟨⟨hbn, hbl⟩, hbx⟩ ⟨h3, h4, h5, h6, ⟨h8, h9, h10⟩, h11⟩
    have hil := (List.getElem?_eq_some_iff.1 hy).1
    have hi9 : (i : Int) ≤ 1000 := by omega
    have hi0 : (0 : Int) ≤ i := by omega
    have hsucc := takeO_succ (p := p) (n := c) h1 hy
    have HS2 := hid2 hsucc
    have HYX := hid2 hYX
    have hne : so ≠ Bx := fun e => hbn (by rw [← e]; simp)
    have HBN := hid2 hbn
    have H0 := hid2 (show Cel W1 so 0 (.int .i64 (takeW p y (takeO L p c A (i - A)) c i 0)) from h6)
    have HB := hid2 hB
    have HW := hid2 (show Kept X W W1 ∧ Cel W1 (s0 + 2) 0 (.int .i64 0) ∧ W1.cell? ⟨so + 1, 0, none⟩ = some (.pointer (some ⟨b, 0, none⟩)) ∧ W1.cell? ⟨so + 1 + 2, 0, none⟩ = some (.int .i64 Z) ∧ W1.cell? ⟨so + 1 + 1, 0, none⟩ = some (.int .i64 A) from ⟨h11, h5, h8, h9, h10⟩)
    obtain ⟨hb1, hb2⟩ := hbx
    clear hB hsucc hYX hy hbn h5 h6 h8 h9 h10 h11 hb2
    gi_wp2
    gi_loopw [25] (fun t wr => ∃ j : Nat, j ≤ c ∧ t = .int .i64 j ∧ Cel wr so 0 (.int .i64 (takeW p y (takeO L p c A (i - A)) c i j)) ∧ B1 w0 wr b o (addO o (addO o E (winE A Z i)) [(1, (i : Int))]) L (Bx :: (Y ++ ([so + 1, so + 1 + 2, so + 1 + 1] ++ (so :: (s0 + 2) :: (s0 + 1) :: s0 :: X)))) ∧ Kept (Bx :: (Y ++ ([so + 1, so + 1 + 2, so + 1 + 1] ++ ((s0 + 2) :: (s0 + 1) :: s0 :: X)))) W1 wr) (fun t _ => c - (intOf t).toNat)
    case atStart => exact ⟨0, Nat.zero_le _, rfl, H0.out, HB.out, Kept.refl _ _⟩
    case round =>
      obtain ⟨j, hj, rfl, ⟨cx, fx⟩, HBj, HKj⟩ := hrel
      have w3 := HKj.cell (by simp) h3
      have w4 := HKj.cell (by simp) h4
      have w5 := HKj.cell (by simp) hb1
      have zb := World.block_lt_of_cell? wr _ cx
      have z3 := World.block_lt_of_cell? wr _ w3
      have z4 := World.block_lt_of_cell? wr _ w4
      have z5 := World.block_lt_of_cell? wr _ w5
      simp only at zb z3 z4 z5
      have hj0 : (0 : Int) ≤ j := by omega
      have hj9 : (j : Int) ≤ 8 := by omega
      have hw1 : IntKind.i64.wrap ((i : Int) - j) = i - j := by rw [IntKind.wrap_i64]; omega
      have hw2 : IntKind.i64.wrap ((c : Int) - 1) = c - 1 := by rw [IntKind.wrap_i64]; omega
      have hw3 : IntKind.i64.wrap ((c : Int) - 1 - j) = c - 1 - j := by rw [IntKind.wrap_i64]; omega
      have hw4 : IntKind.i64.wrap (8 * ((c : Int) - 1 - j)) = 8 * (c - 1 - j) := by rw [IntKind.wrap_i64]; omega
      have HBJ := hid2 HBj
      have HKJ := hid2 HKj
      clear h3 h4 HBj HKj hb1
      by_cases hlt : j < c
      · have tl : decide ((j : Int) < c) = true := by simp; omega
        have hj8 : (j : Int) < c := by omega
        gi_wp2
        refine wpIn_region_calm_tail 16 (by kernel_rfl) (by kernel_rfl) (by rintro ⟨_, _, h⟩; exact nomatch h.1) ?_
        simp only [List.take_succ_cons, List.take_zero, List.drop_succ_cons, List.drop_zero]
        (repeat (first | go_big_quiet_step ((first | (go_at_call 56; exact calm_call (sis_ _ _ _)) | (go_at_call 74; exact calm_call (sdigit_ _ 1 0 (by omega) (by omega) _)) | (go_at_call 73; exact calm_call (sec_and _ _ _)) | (go_at_call 75; exact calm_call (sec_shl _ _ _)) | (go_at_call 72; exact calm_call (sec_or _ _ _)))) | quiet_step ((first | (go_at_call 56; exact calm_call (sis_ _ _ _)) | (go_at_call 74; exact calm_call (sdigit_ _ 1 0 (by omega) (by omega) _)) | (go_at_call 73; exact calm_call (sec_and _ _ _)) | (go_at_call 75; exact calm_call (sec_shl _ _ _)) | (go_at_call 72; exact calm_call (sec_or _ _ _))))))
        refine wpQuiet_nil ?_
        intro u
        have cu := (u.below.cell (p := ⟨so, 0, none⟩) zb).trans cx
        have fu := (u.below.frozen (p := ⟨so, 0, none⟩) zb).trans fx
        have ku := hid2 (HBJ.out.calm u.below)
        have kY := hid2 (HKJ.out.trans (Kept.calm (fun y hy => HBJ.out.ltX y (by simp only [List.mem_cons, List.mem_append, List.not_mem_nil, or_false] at hy ⊢; rcases hy with h | h | (h | h | h) | h | h | h | h <;> simp [h])) u.below))
        have zu := World.block_lt_of_cell? u.at_ _ cu
        simp only at zu
        generalize u.at_ = W2 at *
        clear w3 w4 w5 z3 z4 z5 cx fx zb hw1 hw2 hw3 hw4
        have hno : so ∉ (Bx :: (Y ++ ([so + 1, so + 1 + 2, so + 1 + 1] ++ ((s0 + 2) :: (s0 + 1) :: s0 :: X)))) := by
          intro h
          simp only [List.mem_cons, List.mem_append, List.not_mem_nil, or_false] at h
          have hxs := HX.out so
          have hss := HS.out
          rcases h with h | h | (h | h | h) | h | h | h | h
          · exact hne h
          · exact HYX.out so h (by simp)
          all_goals first | omega | (have := hxs h; omega)
        go_wp2
        gi_wp2
        go_roundw
        case measure => simp [intOf]; omega
        case rel => exact ⟨j + 1, by omega, by go_num, cel_same ⟨cu, fu⟩, ku.out.set (x := so) (i := 0) (by simp) (by have := HS.out; omega) _, kY.out.set hno _⟩
      · have tl : decide ((j : Int) < c) = false := by simp; omega
        have hjc : j = c := by omega
        subst hjc
        rw [HS2.out] at cx
        gi_wp2
        obtain ⟨w6, w7, w8, w9, w10⟩ := HW.out
        refine ⟨?_, HKJ.out.less fun y hy => by simp [hy], w3, w4, ⟨HKJ.out.cell (by simp) w7.1, HKJ.out.free (by simp) w7.2⟩, ⟨cx, fx⟩, ⟨HKJ.out.cell (by simp) w8, HKJ.out.cell (by simp) w9, HKJ.out.cell (by simp) w10⟩, w6.trans (HKJ.out.less fun y hy => by simp [hy])⟩
        show B1 _ _ _ _ (addO o E (winE A Z (i + 1))) _ _
        rw [winE_succ Z h1, ← addO_add]
        exact HBJ.out.less (fun y hy => by simp only [List.mem_cons]; exact .inr hy)
  case done =>
    rintro D W1 hD hB ⟨h3, h4, ⟨h5, h5'⟩, ⟨h6, h7⟩, ⟨h8, h9, h10⟩, h11⟩ hK
    have z4 := World.block_lt_of_cell? W1 _ h5
    have z6 := World.block_lt_of_cell? W1 _ h6
    simp only at z4 z6
    have HB := hid2 hB
    have HKX := hid2 h11
    have zt := World.block_lt_of_cell? w3 _ v2.1
    simp only at zt
    have hDne : D ≠ s0 + 2 := by omega
    have H3 := hid2 h3
    have H4 := hid2 h4
    clear hB h11 h3 h4 h8 h9 h10
    gi_wp2
    have hK2 : (W1.setCell ⟨s0 + 2, 0, none⟩ (.int .i64 (takeO L p c A (max A Z - A)))).heap[D]? = some (.deferred (some [])) := (heap_setCell_other _ ⟨s0 + 2, 0, none⟩ D _ hDne).trans hK
    refine ⟨by simp, .inl ⟨_, _, rfl, run_takeDeferred hK2, ?_⟩⟩
    rw [HAe.out, HZe.out]
    have hcr : ((W1.setCell ⟨s0 + 2, 0, none⟩ (.int .i64 (takeO L p c A (max A Z - A)))).putObj D (.deferred none)).cell? ⟨s0 + 2, 0, none⟩ = some (.int .i64 (takeO L p c A (max A Z - A))) :=
      (World.cell?_of_block (a := ⟨s0 + 2, 0, none⟩) (World.putObj_heap_other (Ne.symm hDne))).trans (World.cell?_setCell_same' _ _ _ (by rw [h5]; rfl))
    refine ⟨.agg #[.int .i64 (takeO L p c A (max A Z - A))], by simp [results, Try.results49, go_sem, hcr] <;> rfl, rfl, ?_, ?_⟩
    · exact (((HB.out.set (x := s0 + 2) (i := 0) (by simp) (by have := HS.out; omega) _).putObj (by simp) (by omega) _).less (fun y hy => by simp [hy]))
    · have hx := HX.out
      exact ⟨fun y hy => (World.putObj_heap_other (by have := hx y hy; have := HS.out; have := hD; omega)).trans ((HKX.out.set (fun h => by have := hx _ h; have := HS.out; omega) _).1 y hy), Nat.le_trans HKX.out.2 (by rw [World.putObj_size, size_set]; exact Nat.le_refl _)⟩
end Go.Proofs.Ytbdnnkokkgdhnaa
