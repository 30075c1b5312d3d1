/- Store: a word laid at a secret place of a window. -/
import Derived.Test.YtbdnnkokkgdhnaaScanL
namespace Go.Proofs.Ytbdnnkokkgdhnaa
open Go.RowKit Go.Shelf
attribute [local go_sem] Oper.semAt_some

/-- What is seen where each place of a window is got and set, up to i. -/
def setE (A Z : Nat) : Nat → List Ev
  | 0 => [(2, ((Z - A : Nat) : Int))]
  | k + 1 => setE A Z k ++ [(1, ((A + k : Nat) : Int)), (1, ((A + k : Nat) : Int))]
theorem setE_len (A Z k : Nat) : (setE A Z k).length = 2 * k + 1 := by
  induction k with
  | zero => rfl
  | succ k ih => simp [setE, ih]; omega
/-- What is held where x has been laid at p, if it lies in the window, up to i. -/
def putAt (L : List Int) (p x : Int) (A i : Nat) : List Int := if (A : Int) ≤ p ∧ p < i then setL L p x else L
theorem putAt_len (L : List Int) (p x : Int) (A i : Nat) : (putAt L p x A i).length = L.length := by unfold putAt; split; exact setL_len _ _ _; rfl
theorem putAt_zero (L : List Int) (p x : Int) (A : Nat) : putAt L p x A A = L := by unfold putAt; exact if_neg (by omega)
theorem putAt_at (L : List Int) (p x : Int) (A i : Nat) : (putAt L p x A i)[i]? = L[i]? := by
  unfold putAt
  split
  · rename_i h
    unfold setL
    split
    · rename_i h2
      rw [List.getElem?_set_ne (by have := h2.1; omega)]
    · rfl
  · rfl
theorem putAt_succ {L : List Int} {p : Int} (hp : I64 p) {A i : Nat} {w x : Int} (hx : I64 x) (hw : I64 w) (hA : A ≤ i) (hi : i ≤ 100000) (h : L[i]? = some w) :
    setL (putAt L p x A i) (i : Int) (secSelect (secEqual p i) x w) = putAt L p x A (i + 1) := by
  have hl := (List.getElem?_eq_some_iff.1 h).1
  have hL : I64 (i : Int) := ⟨by omega, by omega⟩
  rw [secEqual_eq hp hL, secSelect_mask hx hw, setL_in (j := i) ⟨by omega, by rw [putAt_len]; omega⟩]
  by_cases he : p = i
  · subst he
    simp only [decide_true, if_true]
    unfold putAt
    rw [if_neg (by omega), if_pos (by omega), setL_in (j := i) ⟨by omega, by omega⟩]
  · simp only [he, decide_false, Bool.false_eq_true, if_false]
    have h2 : (putAt L p x A i).set i w = putAt L p x A i := by
      apply List.ext_getElem?
      intro j
      by_cases hj : i = j
      · subst hj
        rw [List.getElem?_set_self (by rw [putAt_len]; exact hl), putAt_at, h]
      · rw [List.getElem?_set_ne hj]
    rw [h2]
    unfold putAt
    by_cases h3 : (A : Int) ≤ p ∧ p < i
    · rw [if_pos h3, if_pos (by omega)]
    · rw [if_neg h3, if_neg (by omega)]
theorem putAt_I64 {L : List Int} (hI : ∀ y ∈ L, I64 y) {p x : Int} (hx : I64 x) (A i : Nat) : ∀ y ∈ putAt L p x A i, I64 y := fun y hy => by
  unfold putAt setL at hy
  split at hy
  · split at hy
    · rcases List.mem_or_eq_of_mem_set hy with h | h
      · exact hI y h
      · rw [h]; exact hx
    · exact hI y hy
  · exact hI y hy
set_option maxRecDepth 100000 in
set_option maxHeartbeats 4000000 in
theorem sstore_ {w0 W : World} {b : Nat} {o : Option Nat} {E : List Ev} {L : List Int} {X : List Nat} (k : B1 w0 W b o E L X) (hE : E.length ≤ 800000) (hL : L.length ≤ 1000) (hI : ∀ y ∈ L, I64 y) (p x f t : Int) (hp : I64 p) (hx : I64 x) :
    Calls Try.prog 40 #[.pointer (some ⟨b, 0, none⟩), .agg #[.int .i64 p], .agg #[.int .i64 x], .int .i64 f, .int .i64 t] W fun e W' => e = .returned (.tuple #[]) ∧
      B1 w0 W' b o (addO o E (setE (clipN L.length f) (clipN L.length t) (max (clipN L.length f) (clipN L.length t) - clipN L.length f))) (putAt L p x (clipN L.length f) (max (clipN L.length f) (clipN L.length t))) X ∧ Kept X W W' := by
  have hX := k.ltX
  have hw0 := k.below.size
  have K3 := ((k.more (gr1 (gr0 W) (.cells #[.pointer (some ⟨b, 0, none⟩)] 25)) W.heap.size (Nat.le_refl _) (by simp)).more (gr1 (gr0 _) (.cells #[.int .i64 p] 29)) (W.heap.size + 1) (by simp) (by simp)).more (gr1 (gr0 _) (.cells #[.int .i64 x] 29)) (W.heap.size + 2) (by simp) (by simp)
  have hs : (((W.alloc (.cells #[.pointer (some ⟨b, 0, none⟩)] 25)).alloc (.cells #[.int .i64 p] 29)).alloc (.cells #[.int .i64 x] 29)).heap.size = W.heap.size + 3 := by simp
  have r0 : (((W.alloc (.cells #[.pointer (some ⟨b, 0, none⟩)] 25)).alloc (.cells #[.int .i64 p] 29)).alloc (.cells #[.int .i64 x] 29)).cell? ⟨W.heap.size, 0, none⟩ = some (.pointer (some ⟨b, 0, none⟩)) := by simp [alloc_cell_if, show W.heap.size < W.heap.size + 1 + 1 by omega]
  have r1 : (((W.alloc (.cells #[.pointer (some ⟨b, 0, none⟩)] 25)).alloc (.cells #[.int .i64 p] 29)).alloc (.cells #[.int .i64 x] 29)).cell? ⟨W.heap.size + 1, 0, none⟩ = some (.int .i64 p) := by simp [alloc_cell_if]
  have r2 : (((W.alloc (.cells #[.pointer (some ⟨b, 0, none⟩)] 25)).alloc (.cells #[.int .i64 p] 29)).alloc (.cells #[.int .i64 x] 29)).cell? ⟨W.heap.size + 2, 0, none⟩ = some (.int .i64 x) := by simp [alloc_cell_if]
  have kk : Kept X W (((W.alloc (.cells #[.pointer (some ⟨b, 0, none⟩)] 25)).alloc (.cells #[.int .i64 p] 29)).alloc (.cells #[.int .i64 x] 29)) := Kept.calm hX (gr1 (gr1 (gr1 (gr0 W) _) _) _)
  obtain ⟨v3, B3⟩ := K3.bufc
  have HI := hid2 hI
  have HX := hid2 hX
  have hcl := clipN_le L.length f
  have hct := clipN_le L.length t
  clear k hI hX
  refine (callsIn_wide (n := 12)).1 ?_
  refine callsIn_of_wp_marks Try.func40 rfl trivial ?_ rfl
  simp only [Try.ntmps40, List.size_toArray, List.length_cons, List.length_nil, Nat.reduceAdd, Nat.reduceSub, Array.replicate_succ, Array.replicate_zero, List.push_toArray, List.append_toArray, List.nil_append, List.cons_append]
  gi_wp2_with (first
    | (refine ⟨trivial, ?_⟩; gi_at_call 60; refine (callsIn_wide.2 (window_ B3 f t)).mono ?_; rintro e w3 ⟨rfl, hb3, e1, e2, e3⟩))
  have hb3s := hb3.size
  rw [hs] at e1 e2 e3 hb3s
  have K5 := hid2 (K3.mores hb3 [W.heap.size + 3, W.heap.size + 3 + 2, W.heap.size + 3 + 1] (by have zz := World.block_lt_of_cell? w3 _ e2; simp only at zz; intro y hy; rw [hs]; simp only [List.mem_cons, List.not_mem_nil, or_false] at hy; omega))
  have t0 := (hb3.cell (p := ⟨W.heap.size, 0, none⟩) (by rw [hs]; show W.heap.size < _; omega)).trans r0
  have t1 := (hb3.cell (p := ⟨W.heap.size + 1, 0, none⟩) (by rw [hs]; show W.heap.size + 1 < _; omega)).trans r1
  have t2 := (hb3.cell (p := ⟨W.heap.size + 2, 0, none⟩) (by rw [hs]; show W.heap.size + 2 < _; omega)).trans r2
  have kk3 : Kept X W w3 := kk.trans (Kept.calm (fun y hy => by have := HX.out y hy; rw [hs]; omega) hb3)
  generalize hAe : clipN L.length f = A at *
  generalize hZe : clipN L.length t = Z at *
  have HAe := hid2 hAe
  have HZe := hid2 hZe
  clear hAe hZe
  obtain ⟨s0, hs0⟩ : ∃ s0, s0 = W.heap.size := ⟨_, rfl⟩
  rw [← hs0] at e1 e2 e3 K5 t0 t1 t2 ⊢
  have HS := hid2 hs0
  clear K3 B3 r0 r1 r2 kk hb3 hs hb3s hs0
  let G : Nat → World → Prop := fun i W' => W'.cell? ⟨s0, 0, none⟩ = some (.pointer (some ⟨b, 0, none⟩)) ∧ W'.cell? ⟨s0 + 1, 0, none⟩ = some (.int .i64 p) ∧ W'.cell? ⟨s0 + 2, 0, none⟩ = some (.int .i64 x) ∧
    (W'.cell? ⟨s0 + 3, 0, none⟩ = some (.pointer (some ⟨b, 0, none⟩)) ∧ W'.cell? ⟨s0 + 3 + 2, 0, none⟩ = some (.int .i64 Z) ∧ W'.cell? ⟨s0 + 3 + 1, 0, none⟩ = some (.int .i64 A)) ∧ Kept X W W'
  refine range_win (n := 12) (A := A) (Z := Z) (N := L.length) (E := fun i => addO o E (setE A Z (i - A))) (L := fun i => putAt L p x A i) (E0 := E) (X := [s0 + 3, s0 + 3 + 2, s0 + 3 + 1] ++ ((s0 + 2) :: (s0 + 1) :: s0 :: X)) (G := G) (by omega) rfl rfl hcl hct (fun i => putAt_len _ _ _ _ _) (by omega) (fun i hi => Nat.le_trans (addO_len _ _ _) (by have := setE_len A Z (i - A); omega)) (by omega) (by rw [Nat.sub_self]; rfl) ?hG (fun i W' h => h.2.2.2.1) (by rw [putAt_zero]; exact K5.out) ⟨t0, t1, t2, ⟨e1, e2, e3⟩, kk3⟩
    (fun i y Bx => { tmps := #[.pointer (some ⟨b, 0, none⟩), .agg #[.int .i64 p], .agg #[.int .i64 x], .int .i64 f, .int .i64 t, .pointer (some ⟨s0, 0, none⟩), .pointer (some ⟨s0 + 1, 0, none⟩), .pointer (some ⟨s0 + 2, 0, none⟩), undef, undef, .int .i64 i, .pointer (some ⟨Bx, 0, none⟩), .pointer (some ⟨b, 0, none⟩), .int .i64 f, .int .i64 t,
      .func (.func 80) #[] #[.pointer (some ⟨s0 + 3, 0, none⟩), .pointer (some ⟨s0 + 3 + 2, 0, none⟩), .pointer (some ⟨s0 + 3 + 1, 0, none⟩)], .int .i64 i, .agg #[.int .i64 y], undef, undef, undef, undef, undef, undef, undef, undef, undef], defers := [] }) ?assign ?body ?done
  case hG =>
    rintro i W1 W2 ⟨h1, h2, h3, ⟨h6, h7, h8⟩, h9⟩ hk
    exact ⟨hk.cell (by simp) h1, hk.cell (by simp) h2, hk.cell (by simp) h3, ⟨hk.cell (by simp) h6, hk.cell (by simp) h7, hk.cell (by simp) h8⟩, h9.trans (hk.less fun y hy => by simp [hy])⟩
  case assign =>
    rintro l Y i y W1 h1 h2 hy hB hg
    have hBl := hB.ltX
    gi_wp2
    exact ⟨Kept.calm hBl (gr1 (gr0 W1) _), W1.heap.size, rfl, hB.more (gr1 (gr0 W1) _) W1.heap.size (Nat.le_refl _) (by simp), ⟨fun h => Nat.lt_irrefl _ (hBl _ h), hB.below.size⟩, by simp [alloc_cell_if], by simp [alloc_frozen_if]⟩
  case body =>
    rintro l Y i y Bx W1 h1 h2 hy hB hYX ⟨-, hbx, -⟩ ⟨h3, h4, h6, ⟨h8, h9, h10⟩, h11⟩
    have z3 := World.block_lt_of_cell? W1 _ h3
    have z4 := World.block_lt_of_cell? W1 _ h4
    have z6 := World.block_lt_of_cell? W1 _ h6
    have z8 := World.block_lt_of_cell? W1 _ h8
    have z9 := World.block_lt_of_cell? W1 _ h9
    have z10 := World.block_lt_of_cell? W1 _ h10
    have zb := World.block_lt_of_cell? W1 _ hbx
    simp only at z3 z4 z6 z8 z9 z10 zb
    have hy2 : L[i]? = some y := by rw [← putAt_at L p x A i]; exact hy
    have hil := (List.getElem?_eq_some_iff.1 hy2).1
    have hyI : I64 y := HI.out y (List.mem_of_getElem? hy2)
    have hsucc := putAt_succ hp hx hyI h1 (by omega) hy2
    have hsee := seeL_in (o := o) (E := addO o (addO o E (setE A Z (i - A))) [(1, (i : Int))]) (L := putAt L p x A i) (i := (i : Int)) ⟨by omega, by rw [putAt_len]; omega⟩
    have HB := hid2 hB
    have HS2 := hid2 hsucc
    have HSE := hid2 hsee
    have hX2 := hid2 hB.ltX
    have HYX := hid2 hYX
    have hEl : (addO o (addO o E (setE A Z (i - A))) [(1, (i : Int))]).length ≤ 1000000 := Nat.le_trans (addO_len _ _ _) (by have := addO_len o E (setE A Z (i - A)); have := setE_len A Z (i - A); simp; omega)
    have hLl : (putAt L p x A i).length ≤ 1048576 := by rw [putAt_len]; omega
    clear hB hsucc hsee hYX hy hy2 hyI
    gi_wp2
    refine wpIn_region_calm_tail 8 (by kernel_rfl) (by kernel_rfl) (by rintro ⟨_, _, h⟩; exact nomatch h.1) ?_
    simp only [List.take_succ_cons, List.take_zero, List.drop_succ_cons, List.drop_zero]
    (repeat (first | go_big_quiet_step ((first | (go_at_call 56; exact calm_call (sis_ _ _ _)) | (go_at_call 55; exact calm_call (sec_select _ _ _ _)))) | quiet_step ((first | (go_at_call 56; exact calm_call (sis_ _ _ _)) | (go_at_call 55; exact calm_call (sec_select _ _ _ _))))))
    refine wpQuiet_nil ?_
    intro u
    have u3 := (u.below.cell (p := ⟨s0, 0, none⟩) z3).trans h3
    have u4 := (u.below.cell (p := ⟨s0 + 1, 0, none⟩) z4).trans h4
    have u6 := (u.below.cell (p := ⟨s0 + 2, 0, none⟩) z6).trans h6
    have u8 := (u.below.cell (p := ⟨s0 + 3, 0, none⟩) z8).trans h8
    have u9 := (u.below.cell (p := ⟨s0 + 3 + 2, 0, none⟩) z9).trans h9
    have u10 := (u.below.cell (p := ⟨s0 + 3 + 1, 0, none⟩) z10).trans h10
    have ku := hid2 (HB.out.calm u.below)
    have kY := hid2 (Kept.calm (X := Y) (fun y hy => hX2.out y (by simp [hy])) u.below)
    have kX := hid2 (h11.trans (Kept.calm (X := X) (fun y hy => hX2.out y (by simp [hy])) u.below))
    generalize u.at_ = W2 at *
    clear h3 h4 h6 h8 h9 h10 h11 z3 z4 z6 z8 z9 z10 hbx zb
    go_wp2_with (go_at_call 18; refine (bset_ ku.out hEl hLl i _).mono ?_; rintro e W4 ⟨rfl, k4, kx4⟩)
    rw [HSE.out, HS2.out] at k4
    refine ⟨?_, ?_, kx4.cell (by simp) u3, kx4.cell (by simp) u4, kx4.cell (by simp) u6, ⟨kx4.cell (by simp) u8, kx4.cell (by simp) u9, kx4.cell (by simp) u10⟩, ?_⟩
    · show B1 _ _ _ _ (addO o E (setE A Z (i + 1 - A))) (putAt L p x A (i + 1)) _
      rw [show i + 1 - A = (i - A) + 1 by omega]
      have he : addO o E (setE A Z ((i - A) + 1)) = addO o (addO o (addO o E (setE A Z (i - A))) [(1, (i : Int))]) [(1, (i : Int))] := by
        rw [addO_add, addO_add]
        show addO o E (setE A Z (i - A) ++ [(1, ((A + (i - A) : Nat) : Int)), (1, ((A + (i - A) : Nat) : Int))]) = _
        rw [show A + (i - A) = i by omega]
        simp
      rw [he]
      exact k4.less (fun y hy => by simp only [List.mem_cons]; exact .inr hy)
    · exact kY.out.trans (kx4.less fun y hy => by simp [hy])
    · exact kX.out.trans (kx4.less fun y hy => by simp [hy])
  case done =>
    rintro D W1 hD hB ⟨h3, h4, h6, ⟨h8, h9, h10⟩, h11⟩ hK
    have HB := hid2 hB
    have HKX := hid2 h11
    have zt := World.block_lt_of_cell? w3 _ t1
    simp only at zt
    have hw3 := K5.out.below.size
    clear hB h11
    gi_wp2
    refine ⟨by simp, .inl ⟨_, _, rfl, run_takeDeferred hK, ?_⟩⟩
    rw [HAe.out, HZe.out]
    refine ⟨.tuple #[], by simp [results, Try.results40], rfl, ?_, ?_⟩
    · exact ((HB.out.putObj (by simp) (by omega) _).less (fun y hy => by simp [hy]))
    · have hx := HX.out
      exact ⟨fun y hy => (World.putObj_heap_other (by have := hx y hy; have := HS.out; omega)).trans (HKX.out.1 y hy), Nat.le_trans HKX.out.2 (by rw [World.putObj_size]; exact Nat.le_refl _)⟩
end Go.Proofs.Ytbdnnkokkgdhnaa
