/- Put: a word's bytes laid over those at a secret place on. -/
import Derived.Test.YtbdnnkokkgdhnaaScanS
import Derived.Test.YtbdnnkokkgdhnaaPutM
import Derived.Test.YtbdnnkokkgdhnaaCel
namespace Go.Proofs.Ytbdnnkokkgdhnaa
open Go.RowKit Go.Shelf
attribute [local go_sem] Oper.semAt_some

theorem sdigit_ (s : Int) (n k : Nat) (hn : (n : Int) ≤ 8) (hk : (k : Int) ≤ 8) (w : World) :
    Calls Try.prog 74 #[.agg #[.int .i64 s], .int .i64 n, .int .i64 k] w fun e w' => e = .returned (.agg #[.int .i64 (digI s n k)]) ∧ Below w.heap.size w w' := by
  unfold digI
  have hn0 : (0 : Int) ≤ n := by omega
  have hk0 : (0 : Int) ≤ k := by omega
  have q : Cel ((w.alloc (.cells #[.int .i64 s] 29)).alloc (.cells #[.int .i64 0] 29)) (w.heap.size + 1) 0 (.int .i64 0) := ⟨by simp [alloc_cell_if], by simp [alloc_frozen_if]⟩
  have hB : Below w.heap.size w ((w.alloc (.cells #[.int .i64 s] 29)).alloc (.cells #[.int .i64 0] 29)) := gr1 (gr1 (gr0 w) _) _
  have HQ := hid2 q
  clear q
  go_enter Try.func74, Try.ntmps74
  go_wp2_with (first | (go_at_call 65; refine (sec_shr _ _ _).mono ?_; rintro e w1 ⟨rfl, hb1⟩; have Q1 := hid2 (HQ.out.below hb1)) | (go_at_call 19; refine (sec_of _ _).mono ?_; rintro e w2 ⟨rfl, hb2⟩; have Q2 := hid2 (Q1.out.below hb2)) | (go_at_call 73; refine (sec_and _ _ _).mono ?_; rintro e w3 ⟨rfl, hb3⟩; have Q3 := Q2.out.below hb3; obtain ⟨q1, q2⟩ := id Q3; have z3 := World.block_lt_of_cell? w3 _ q1))
  have c3 := cel_same (u := .int .i64 (bits .and .i64 (secShr s (8 * ((n : Int) - 1 - k))) 255)) Q3
  exact bodyPost_ret (by simp [results, Try.results74, go_sem, c3.1] <;> rfl) rfl ⟨rfl, gr4 (gr2 (gr2 (gr2 hB hb1) hb2) hb3) (Nat.le_add_right _ _) _⟩
theorem putL_succ {L : List Int} {p x : Int} {n A i : Nat} {y : Int} (hA : A ≤ i) (hy : L[i]? = some y) : setL (putL L p x n A (i - A)) (i : Int) (putW p x y n i n) = putL L p x n A (i + 1 - A) := by
  have hl := (List.getElem?_eq_some_iff.1 hy).1
  rw [setL_in (j := i) ⟨by omega, by rw [putL_len]; omega⟩, show i + 1 - A = (i - A) + 1 by omega]
  simp only [putL]
  rw [show A + (i - A) = i by omega]
  have : L.getD i 0 = y := by unfold List.getD; rw [hy]; rfl
  rw [this]
set_option maxRecDepth 100000 in
set_option maxHeartbeats 4000000 in
theorem sput_ {w0 W : World} {b : Nat} {o : Option Nat} {E : List Ev} {L : List Int} {X : List Nat} (k : B1 w0 W b o E L X) (hE : E.length ≤ 800000) (hL : L.length ≤ 1000) (p x m f t : Int) :
    Calls Try.prog 48 #[.pointer (some ⟨b, 0, none⟩), .agg #[.int .i64 p], .agg #[.int .i64 x], .int .i64 m, .int .i64 f, .int .i64 t] W fun e W' => e = .returned (.tuple #[]) ∧
      B1 w0 W' b o (addO o E (setE (clipN L.length f) (clipN L.length t) (max (clipN L.length f) (clipN L.length t) - clipN L.length f))) (putL L p x (clipN 8 m) (clipN L.length f) (max (clipN L.length f) (clipN L.length t) - clipN L.length f)) X ∧ Kept X W W' := by
  have hX := k.ltX
  have hw0 := k.below.size
  have K4 := (((k.more (gr1 (gr0 W) (.cells #[.pointer (some ⟨b, 0, none⟩)] 25)) W.heap.size (Nat.le_refl _) (by simp)).more (gr1 (gr0 _) (.cells #[.int .i64 p] 29)) (W.heap.size + 1) (by simp) (by simp)).more (gr1 (gr0 _) (.cells #[.int .i64 x] 29)) (W.heap.size + 2) (by simp) (by simp)).more (gr1 (gr0 _) (.cells #[.int .i64 m] 3)) (W.heap.size + 3) (by simp) (by simp)
  have hs : ((((W.alloc (.cells #[.pointer (some ⟨b, 0, none⟩)] 25)).alloc (.cells #[.int .i64 p] 29)).alloc (.cells #[.int .i64 x] 29)).alloc (.cells #[.int .i64 m] 3)).heap.size = W.heap.size + 4 := by simp
  have q0 : ((((W.alloc (.cells #[.pointer (some ⟨b, 0, none⟩)] 25)).alloc (.cells #[.int .i64 p] 29)).alloc (.cells #[.int .i64 x] 29)).alloc (.cells #[.int .i64 m] 3)).cell? ⟨W.heap.size, 0, none⟩ = some (.pointer (some ⟨b, 0, none⟩)) := by simp [alloc_cell_if, show W.heap.size < W.heap.size + 1 + 1 by omega, show W.heap.size < W.heap.size + 1 + 1 + 1 by omega]
  have q1 : ((((W.alloc (.cells #[.pointer (some ⟨b, 0, none⟩)] 25)).alloc (.cells #[.int .i64 p] 29)).alloc (.cells #[.int .i64 x] 29)).alloc (.cells #[.int .i64 m] 3)).cell? ⟨W.heap.size + 1, 0, none⟩ = some (.int .i64 p) := by simp [alloc_cell_if, show W.heap.size + 1 < W.heap.size + 1 + 1 + 1 by omega]
  have q2 : ((((W.alloc (.cells #[.pointer (some ⟨b, 0, none⟩)] 25)).alloc (.cells #[.int .i64 p] 29)).alloc (.cells #[.int .i64 x] 29)).alloc (.cells #[.int .i64 m] 3)).cell? ⟨W.heap.size + 2, 0, none⟩ = some (.int .i64 x) := by simp [alloc_cell_if]
  have q3 : Cel ((((W.alloc (.cells #[.pointer (some ⟨b, 0, none⟩)] 25)).alloc (.cells #[.int .i64 p] 29)).alloc (.cells #[.int .i64 x] 29)).alloc (.cells #[.int .i64 m] 3)) (W.heap.size + 3) 0 (.int .i64 m) := ⟨by simp [alloc_cell_if], by simp [alloc_frozen_if]⟩
  have kk : Kept X W ((((W.alloc (.cells #[.pointer (some ⟨b, 0, none⟩)] 25)).alloc (.cells #[.int .i64 p] 29)).alloc (.cells #[.int .i64 x] 29)).alloc (.cells #[.int .i64 m] 3)) := Kept.calm hX (gr1 (gr1 (gr1 (gr1 (gr0 W) _) _) _) _)
  have HX := hid2 hX
  have HKK := hid2 kk
  have HQ3 := hid2 q3
  have hcl := clipN_le L.length f
  have hct := clipN_le L.length t
  have hc8 := clipN_le 8 m
  clear k hX kk q3
  obtain ⟨c, hc⟩ : ∃ c, c = clipN 8 m := ⟨_, rfl⟩
  rw [← hc] at hc8 ⊢
  have HC := hid2 hc
  have hc9 : (c : Int) ≤ 8 := by omega
  have hcz : (0 : Int) ≤ c := by omega
  clear hc
  refine (callsIn_wide (n := 12)).1 ?_
  refine callsIn_of_wp_marks Try.func48 rfl trivial ?_ rfl
  simp only [Try.ntmps48, List.size_toArray, List.length_cons, List.length_nil, Nat.reduceAdd, Nat.reduceSub, Array.replicate_succ, Array.replicate_zero, List.push_toArray, List.append_toArray, List.nil_append, List.cons_append]
  gi_wp2_with (first
    | (refine ⟨trivial, ?_⟩; gi_at_call 71; refine (callsIn_wide.2 (nclip_ m 8 _)).mono ?_; rintro e w1 ⟨rfl, hb1⟩; rw [← HC.out]; have hz1 := hb1.size; rw [hs] at hz1; have r0 := (hb1.cell (p := ⟨W.heap.size, 0, none⟩) (by rw [hs]; show W.heap.size < _; omega)).trans q0; have r1 := (hb1.cell (p := ⟨W.heap.size + 1, 0, none⟩) (by rw [hs]; show W.heap.size + 1 < _; omega)).trans q1; have r2 := (hb1.cell (p := ⟨W.heap.size + 2, 0, none⟩) (by rw [hs]; show W.heap.size + 2 < _; omega)).trans q2; have R3 := HQ3.out.below hb1; have r3 := R3.1; have f3 := R3.2; have K1 := (K4.calm hb1).set (x := W.heap.size + 3) (i := 0) (by simp) (by omega) (.int .i64 c); obtain ⟨v3, B3⟩ := K1.bufc; have HK1 := hid2 K1; clear K1; have s3 := (cel_same (u := .int .i64 c) R3).1; clear R3; have kk1 : Kept X W w1 := HKK.out.trans (Kept.calm (fun y hy => (by have := HX.out y hy; rw [hs]; omega)) hb1); have HKK1 := hid2 kk1; clear kk1)
    | (refine ⟨trivial, ?_⟩; gi_at_call 60; refine (callsIn_wide.2 (window_ B3 f t)).mono ?_; rintro e w3 ⟨rfl, hb3, e1, e2, e3⟩))
  have hs3 : (w1.setCell ⟨W.heap.size + 3, 0, none⟩ (.int .i64 c)).heap.size = w1.heap.size := size_set _ _ _
  have far : ∀ {q : Nat} {v : Value}, w1.cell? ⟨q, 0, none⟩ = some v → q ≠ W.heap.size + 3 → (w1.setCell ⟨W.heap.size + 3, 0, none⟩ (.int .i64 c)).cell? ⟨q, 0, none⟩ = some v := fun {q v} h hne => (World.cell?_of_block (a := ⟨q, 0, none⟩) (heap_setCell_other _ ⟨W.heap.size + 3, 0, none⟩ q _ hne)).trans h
  have hb3s := hb3.size
  rw [hs3] at e1 e2 e3 hb3s
  have K5 := hid2 (HK1.out.mores hb3 [w1.heap.size, w1.heap.size + 2, w1.heap.size + 1] (by have zz := World.block_lt_of_cell? w3 _ e2; simp only at zz; intro y hy; rw [hs3]; simp only [List.mem_cons, List.not_mem_nil, or_false] at hy; omega))
  have t0 := (hb3.cell (p := ⟨W.heap.size, 0, none⟩) (by rw [hs3]; show W.heap.size < _; omega)).trans (far r0 (by omega))
  have t1 := (hb3.cell (p := ⟨W.heap.size + 1, 0, none⟩) (by rw [hs3]; show W.heap.size + 1 < _; omega)).trans (far r1 (by omega))
  have t2 := (hb3.cell (p := ⟨W.heap.size + 2, 0, none⟩) (by rw [hs3]; show W.heap.size + 2 < _; omega)).trans (far r2 (by omega))
  have t3 := (hb3.cell (p := ⟨W.heap.size + 3, 0, none⟩) (by rw [hs3]; show W.heap.size + 3 < _; omega)).trans s3
  have kk3 : Kept X W w3 := (HKK1.out.trans ⟨fun y hy => heap_setCell_other _ ⟨W.heap.size + 3, 0, none⟩ y _ (fun e => by have := HX.out y hy; have e : y = W.heap.size + 3 := e; omega), by rw [hs3]; exact Nat.le_refl _⟩).trans (Kept.calm (fun y hy => by have := HX.out y hy; rw [hs3]; omega) hb3)
  generalize hAe : clipN L.length f = A at *
  generalize hZe : clipN L.length t = Z at *
  have HAe := hid2 hAe
  have HZe := hid2 hZe
  clear hAe hZe
  obtain ⟨sz, hsz⟩ : ∃ sz, sz = w1.heap.size := ⟨_, rfl⟩
  obtain ⟨s0, hs0⟩ : ∃ s0, s0 = W.heap.size := ⟨_, rfl⟩
  rw [← hsz] at e1 e2 e3 K5 ⊢
  rw [← hs0] at K5 t0 t1 t2 t3 ⊢
  have HS := hid2 hs0
  have HZ := hid2 hsz
  have hz9 : s0 + 4 ≤ sz := by omega
  clear K4 B3 HK1 q0 q1 q2 r0 r1 r2 r3 f3 s3 hb1 hz1 hb3 hs hs3 hb3s hs0 hsz far
  let G : Nat → World → Prop := fun i W' => W'.cell? ⟨s0, 0, none⟩ = some (.pointer (some ⟨b, 0, none⟩)) ∧ W'.cell? ⟨s0 + 1, 0, none⟩ = some (.int .i64 p) ∧ W'.cell? ⟨s0 + 2, 0, none⟩ = some (.int .i64 x) ∧ W'.cell? ⟨s0 + 3, 0, none⟩ = some (.int .i64 c) ∧
    (W'.cell? ⟨sz, 0, none⟩ = some (.pointer (some ⟨b, 0, none⟩)) ∧ W'.cell? ⟨sz + 2, 0, none⟩ = some (.int .i64 Z) ∧ W'.cell? ⟨sz + 1, 0, none⟩ = some (.int .i64 A)) ∧ Kept X W W'
  refine range_win (n := 12) (A := A) (Z := Z) (N := L.length) (E := fun i => addO o E (setE A Z (i - A))) (L := fun i => putL L p x c A (i - A)) (E0 := E) (X := [sz, sz + 2, sz + 1] ++ ((s0 + 3) :: (s0 + 2) :: (s0 + 1) :: s0 :: X)) (G := G) (by omega) rfl rfl hcl hct (fun i => putL_len _ _ _ _ _ _) (by omega) (fun i hi => Nat.le_trans (addO_len _ _ _) (by have := setE_len A Z (i - A); omega)) (by omega) (by rw [Nat.sub_self]; rfl) ?hG (fun i W' h => h.2.2.2.2.1) (by rw [Nat.sub_self]; exact K5.out) ⟨t0, t1, t2, t3, ⟨e1, e2, e3⟩, kk3⟩
    (fun i y Bx => { tmps := #[.pointer (some ⟨b, 0, none⟩), .agg #[.int .i64 p], .agg #[.int .i64 x], .int .i64 m, .int .i64 f, .int .i64 t, .pointer (some ⟨s0, 0, none⟩), .pointer (some ⟨s0 + 1, 0, none⟩), .pointer (some ⟨s0 + 2, 0, none⟩), .pointer (some ⟨s0 + 3, 0, none⟩), undef, undef, .int .i64 i, .pointer (some ⟨Bx, 0, none⟩), undef, .int .i64 m, .int .i64 c, .pointer (some ⟨b, 0, none⟩), .int .i64 f, .int .i64 t,
      .func (.func 80) #[] #[.pointer (some ⟨sz, 0, none⟩), .pointer (some ⟨sz + 2, 0, none⟩), .pointer (some ⟨sz + 1, 0, none⟩)], .int .i64 i, .agg #[.int .i64 y], undef, undef, undef, undef, undef, undef, undef, undef, undef, undef, undef, undef, undef, undef, undef, undef, undef, undef, undef, undef, undef], defers := [] }) ?assign ?body ?done
  case hG =>
    rintro i W1 W2 ⟨h1, h2, h3, h4, ⟨h6, h7, h8⟩, h9⟩ hk
    exact ⟨hk.cell (by simp) h1, hk.cell (by simp) h2, hk.cell (by simp) h3, hk.cell (by simp) h4, ⟨hk.cell (by simp) h6, hk.cell (by simp) h7, hk.cell (by simp) h8⟩, h9.trans (hk.less fun y hy => by simp [hy])⟩
  case assign =>
    rintro l Y i y W1 h1 h2 hy hB hg
    have hBl := hB.ltX
    gi_wp2
    exact ⟨Kept.calm hBl (gr1 (gr0 W1) _), W1.heap.size, rfl, hB.more (gr1 (gr0 W1) _) W1.heap.size (Nat.le_refl _) (by simp), ⟨fun h => Nat.lt_irrefl _ (hBl _ h), hB.below.size⟩, by simp [alloc_cell_if], by simp [alloc_frozen_if]⟩
  case body =>
    rintro l Y i y Bx W1 h1 h2 hy hB hYX ⟨⟨hbn, hbl⟩, hbx⟩ ⟨h3, h4, h5, h6, ⟨h8, h9, h10⟩, h11⟩
    have hy2 : L[i]? = some y := by rw [← putL_at L p x c A (i - A) i (by omega)]; exact hy
    have hil := (List.getElem?_eq_some_iff.1 hy2).1
    have hi9 : (i : Int) ≤ 1000 := by omega
    have hi0 : (0 : Int) ≤ i := by omega
    have hsucc := putL_succ (p := p) (x := x) (n := c) h1 hy2
    have hsee := seeL_in (o := o) (E := addO o (addO o E (setE A Z (i - A))) [(1, (i : Int))]) (L := putL L p x c A (i - A)) (i := (i : Int)) ⟨by omega, by rw [putL_len]; omega⟩
    have HS2 := hid2 hsucc
    have HSE := hid2 hsee
    have HYX := hid2 hYX
    have hEl : (addO o (addO o E (setE A Z (i - A))) [(1, (i : Int))]).length ≤ 1000000 := Nat.le_trans (addO_len _ _ _) (by have := addO_len o E (setE A Z (i - A)); have := setE_len A Z (i - A); simp; omega)
    have hLl : (putL L p x c A (i - A)).length ≤ 1048576 := by rw [putL_len]; omega
    have H0 := hid2 (show Cel W1 Bx 0 (.int .i64 (putW p x y c i 0)) from hbx)
    have HB := hid2 hB
    have H11 := hid2 h11
    clear hB hsucc hsee hYX hy hy2 hbx h11
    gi_wp2
    gi_loopw [24] (fun t wr => ∃ j : Nat, j ≤ c ∧ t = .int .i64 j ∧ Cel wr Bx 0 (.int .i64 (putW p x y c i j)) ∧ B1 w0 wr b o (addO o (addO o E (setE A Z (i - A))) [(1, (i : Int))]) (putL L p x c A (i - A)) (Bx :: (Y ++ ([sz, sz + 2, sz + 1] ++ ((s0 + 3) :: (s0 + 2) :: (s0 + 1) :: s0 :: X)))) ∧ Kept (Y ++ ([sz, sz + 2, sz + 1] ++ ((s0 + 3) :: (s0 + 2) :: (s0 + 1) :: s0 :: X))) W1 wr) (fun t _ => c - (intOf t).toNat)
    case atStart => exact ⟨0, Nat.zero_le _, rfl, H0.out, HB.out, Kept.refl _ _⟩
    case round =>
      obtain ⟨j, hj, rfl, HCx, HBj, HKj⟩ := hrel
      have HBN := hid2 hbn
      have w3 := HKj.cell (by simp) h3
      have w4 := HKj.cell (by simp) h4
      have w5 := HKj.cell (by simp) h5
      have w6 := HKj.cell (by simp) h6
      have HW := hid2 (show wr.cell? ⟨sz, 0, none⟩ = some (.pointer (some ⟨b, 0, none⟩)) ∧ wr.cell? ⟨sz + 2, 0, none⟩ = some (.int .i64 Z) ∧ wr.cell? ⟨sz + 1, 0, none⟩ = some (.int .i64 A) ∧ wr.cell? ⟨s0 + 3, 0, none⟩ = some (.int .i64 c) from ⟨HKj.cell (by simp) h8, HKj.cell (by simp) h9, HKj.cell (by simp) h10, w6⟩)
      have zb := World.block_lt_of_cell? wr _ HCx.1
      have z3 := World.block_lt_of_cell? wr _ w3
      have z4 := World.block_lt_of_cell? wr _ w4
      have z5 := World.block_lt_of_cell? wr _ w5
      have z6 := World.block_lt_of_cell? wr _ w6
      obtain ⟨cx, fx⟩ := HCx
      simp only at zb z3 z4 z5 z6
      have hj0 : (0 : Int) ≤ j := by omega
      have hj9 : (j : Int) ≤ 8 := by omega
      have hw1 : IntKind.i64.wrap ((i : Int) - j) = i - j := by rw [IntKind.wrap_i64]; omega
      have HBJ := hid2 HBj
      have HKJ := hid2 HKj
      clear hbn h3 h4 h5 h6 h8 h9 h10 HBj HKj
      by_cases hlt : j < c
      · have tl : decide ((j : Int) < c) = true := by simp; omega
        have hj8 : (j : Int) < c := by omega
        gi_wp2
        refine wpIn_region_calm_tail 12 (by kernel_rfl) (by kernel_rfl) (by rintro ⟨_, _, h⟩; exact nomatch h.1) ?_
        simp only [List.take_succ_cons, List.take_zero, List.drop_succ_cons, List.drop_zero]
        (repeat (first | go_big_quiet_step ((first | (go_at_call 56; exact calm_call (sis_ _ _ _)) | (go_at_call 74; exact calm_call (sdigit_ _ _ _ (by omega) (by omega) _)) | (go_at_call 73; exact calm_call (sec_and _ _ _)) | (go_at_call 72; exact calm_call (sec_or _ _ _)))) | quiet_step ((first | (go_at_call 56; exact calm_call (sis_ _ _ _)) | (go_at_call 74; exact calm_call (sdigit_ _ _ _ (by omega) (by omega) _)) | (go_at_call 73; exact calm_call (sec_and _ _ _)) | (go_at_call 72; exact calm_call (sec_or _ _ _))))))
        refine wpQuiet_nil ?_
        intro u
        have cu := (u.below.cell (p := ⟨Bx, 0, none⟩) zb).trans cx
        have fu := (u.below.frozen (p := ⟨Bx, 0, none⟩) zb).trans fx
        have ku := hid2 (HBJ.out.calm u.below)
        have kY := hid2 (HKJ.out.trans (Kept.calm (fun y hy => HBJ.out.ltX y (by simp only [List.mem_cons]; exact .inr hy)) u.below))
        have zu := World.block_lt_of_cell? u.at_ _ cu
        simp only at zu
        generalize u.at_ = W2 at *
        clear w3 w4 w5 w6 z3 z4 z5 z6 cx fx zb hw1
        go_wp2
        gi_wp2
        go_roundw
        case measure => simp [intOf]; omega
        case rel => exact ⟨j + 1, by omega, by go_num, cel_same ⟨cu, fu⟩, ku.out.set (x := Bx) (i := 0) (by simp) hbl _, kY.out.set (fun h => HBN.out h) _⟩
      · have tl : decide ((j : Int) < c) = false := by simp; omega
        have hjc : j = c := by omega
        subst hjc
        gi_wp2_with (refine ⟨trivial, ?_⟩; gi_at_call 18; refine (callsIn_of (bset_ HBJ.out hEl hLl i _)).mono ?_; rintro e W4 ⟨rfl, k4, kx4⟩)
        rw [HSE.out, HS2.out] at k4
        obtain ⟨w8, w9, w10, w11⟩ := HW.out
        refine ⟨?_, ?_, kx4.cell (by simp) w3, kx4.cell (by simp) w4, kx4.cell (by simp) w5, kx4.cell (by simp) w11, ⟨kx4.cell (by simp) w8, kx4.cell (by simp) w9, kx4.cell (by simp) w10⟩, ?_⟩
        · show B1 _ _ _ _ (addO o E (setE A Z (i + 1 - A))) (putL L p x j A (i + 1 - A)) _
          have he : addO o E (setE A Z (i + 1 - A)) = addO o (addO o (addO o E (setE A Z (i - A))) [(1, (i : Int))]) [(1, (i : Int))] := by
            rw [show i + 1 - A = (i - A) + 1 by omega, addO_add, addO_add]
            show addO o E (setE A Z (i - A) ++ [(1, ((A + (i - A) : Nat) : Int)), (1, ((A + (i - A) : Nat) : Int))]) = _
            rw [show A + (i - A) = i by omega]
            simp
          rw [he]
          exact k4.less (fun y hy => by simp only [List.mem_cons]; exact .inr hy)
        · exact (HKJ.out.less fun y hy => by simp [hy]).trans (kx4.less fun y hy => by simp [hy])
        · exact (H11.out.trans (HKJ.out.less fun y hy => by simp [hy])).trans (kx4.less fun y hy => by simp [hy])
  case done =>
    rintro D W1 hD hB ⟨h3, h4, h5, h6, ⟨h8, h9, h10⟩, h11⟩ hK
    have HB := hid2 hB
    have HKX := hid2 h11
    have zt := World.block_lt_of_cell? w3 _ e2
    simp only at zt
    have hw3 := K5.out.below.size
    clear hB h11
    gi_wp2
    refine ⟨by simp, .inl ⟨_, _, rfl, run_takeDeferred hK, ?_⟩⟩
    rw [HAe.out, HZe.out]
    refine ⟨.tuple #[], by simp [results, Try.results48], rfl, ?_, ?_⟩
    · exact ((HB.out.putObj (by simp) (by omega) _).less (fun y hy => by simp [hy]))
    · have hx := HX.out
      exact ⟨fun y hy => (World.putObj_heap_other (by have := hx y hy; have := HS.out; omega)).trans (HKX.out.1 y hy), Nat.le_trans HKX.out.2 (by rw [World.putObj_size]; exact Nat.le_refl _)⟩
end Go.Proofs.Ytbdnnkokkgdhnaa
