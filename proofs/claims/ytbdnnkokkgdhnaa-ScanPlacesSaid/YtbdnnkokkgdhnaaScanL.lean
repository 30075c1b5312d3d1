/- Load: the word at a secret place of a window. -/
import Derived.Test.YtbdnnkokkgdhnaaScanA
namespace Go.Proofs.Ytbdnnkokkgdhnaa
open Go.RowKit Go.Shelf
attribute [local go_sem] Oper.semAt_some

/-- What is seen of a window from A to Z, places up to i. -/
def winE (A Z i : Nat) : List Ev := (2, ((Z - A : Nat) : Int)) :: (List.range (i - A)).map fun j => (1, ((A + j : Nat) : Int))
theorem winE_zero (A Z : Nat) : winE A Z A = [(2, ((Z - A : Nat) : Int))] := by simp [winE]
theorem winE_succ {A i : Nat} (Z : Nat) (h : A ≤ i) : winE A Z (i + 1) = winE A Z i ++ [(1, (i : Int))] := by
  unfold winE
  rw [show i + 1 - A = (i - A) + 1 by omega, List.range_succ, List.map_append]
  simp only [List.map_cons, List.map_nil, List.cons_append]
  rw [show A + (i - A) = i by omega]
theorem winE_len (A Z i : Nat) : (winE A Z i).length ≤ i + 1 := by simp [winE]
/-- The word at a place, if it lies in a window, up to i. -/
def outAt (L : List Int) (p : Int) (A i : Nat) : Int := if (A : Int) ≤ p ∧ p < i then getL L p else 0
theorem outAt_zero (L : List Int) (p : Int) (A : Nat) : outAt L p A A = 0 := by unfold outAt; exact if_neg (by omega)
theorem outAt_I64 {L : List Int} (hI : ∀ x ∈ L, I64 x) (p : Int) (A i : Nat) : I64 (outAt L p A i) := by
  unfold outAt
  split
  · unfold getL
    split
    · rename_i h1 h2
      obtain ⟨j, hj, hl, hx⟩ := getL_in h2
      have : L.getD p.toNat 0 = L[j] := by rw [hj]; simp [List.getD, hl]
      rw [this]; exact hI _ (List.getElem_mem hl)
    · exact ⟨by omega, by omega⟩
  · exact ⟨by omega, by omega⟩
theorem outAt_succ {L : List Int} (hI : ∀ x ∈ L, I64 x) {p : Int} (hp : I64 p) {A i : Nat} {x : Int} (hA : A ≤ i) (hi : i ≤ 100000) (hx : L[i]? = some x) : secSelect (secEqual p i) x (outAt L p A i) = outAt L p A (i + 1) := by
  have hl := (List.getElem?_eq_some_iff.1 hx).1
  have hxI : I64 x := hI x (List.mem_of_getElem? hx)
  have hL : I64 (i : Int) := ⟨by omega, by omega⟩
  rw [secEqual_eq hp hL, secSelect_mask hxI (outAt_I64 hI p A i)]
  unfold outAt
  by_cases he : p = i
  · subst he
    have h2 : getL L (i : Int) = x := by
      obtain ⟨j, hj, _, h3⟩ := getL_in (L := L) (i := (i : Int)) ⟨by omega, by omega⟩
      have : i = j := by omega
      subst this
      exact Option.some.inj (h3.symm.trans hx)
    simp only [decide_true, if_true]
    rw [if_pos (by omega), h2]
  · simp only [he, decide_false, Bool.false_eq_true, if_false]
    by_cases h : (A : Int) ≤ p ∧ p < i
    · rw [if_pos h, if_pos (by omega)]
    · rw [if_neg h, if_neg (by omega)]

theorem B1.mores {w0 W W' : World} {b : Nat} {o : Option Nat} {E : List Ev} {L : List Int} {X : List Nat} (k : B1 w0 W b o E L X) (hb : Below W.heap.size W W') : ∀ (Y : List Nat), (∀ y ∈ Y, W.heap.size ≤ y ∧ y < W'.heap.size) → B1 w0 W' b o E L (Y ++ X) := fun Y hY => by
  obtain ⟨fp, h1, t⟩ := k
  refine ⟨fp, h1.below hb, ⟨t.low, t.disj, fun x hx => ?_, fun x hx => ?_, gr2 t.below hb⟩⟩
  · rcases List.mem_append.1 hx with h | h
    · exact ⟨fun hy => by have := t.lt x (.inl hy); have := (hY x h).1; omega, (fun hy => nomatch hy)⟩
    · exact t.px x h
  · rcases hx with h | h | h
    · exact Nat.lt_of_lt_of_le (t.lt x (.inl h)) hb.size
    · cases h
    · rcases List.mem_append.1 h with h | h
      · exact (hY x h).2
      · exact Nat.lt_of_lt_of_le (t.lt x (.inr (.inr h))) hb.size
set_option maxRecDepth 100000 in
set_option maxHeartbeats 4000000 in
theorem sload_ {w0 W : World} {b : Nat} {o : Option Nat} {E : List Ev} {L : List Int} {X : List Nat} (k : B1 w0 W b o E L X) (hE : E.length ≤ 800000) (hL : L.length ≤ 1000) (hI : ∀ x ∈ L, I64 x) (p f t : Int) (hp : I64 p) :
    Calls Try.prog 41 #[.pointer (some ⟨b, 0, none⟩), .agg #[.int .i64 p], .int .i64 f, .int .i64 t] W fun e W' => e = .returned (.agg #[.int .i64 (outAt L p (clipN L.length f) (max (clipN L.length f) (clipN L.length t)))]) ∧
      B1 w0 W' b o (addO o E (winE (clipN L.length f) (clipN L.length t) (max (clipN L.length f) (clipN L.length t)))) L X ∧ Kept X W W' := by
  have hX := k.ltX
  have hw0 := k.below.size
  have K2 := (k.more (gr1 (gr0 W) (.cells #[.int .i64 p] 29)) W.heap.size (Nat.le_refl _) (by simp)).more (gr1 (gr0 _) (.cells #[.int .i64 0] 29)) (W.heap.size + 1) (by simp) (by simp)
  have q0 : ((W.alloc (.cells #[.int .i64 p] 29)).alloc (.cells #[.int .i64 0] 29)).cell? ⟨W.heap.size, 0, none⟩ = some (.int .i64 p) := by simp [alloc_cell_if]
  have q1 : ((W.alloc (.cells #[.int .i64 p] 29)).alloc (.cells #[.int .i64 0] 29)).cell? ⟨W.heap.size + 1, 0, none⟩ = some (.int .i64 0) := by simp [alloc_cell_if]
  have q2 : ((W.alloc (.cells #[.int .i64 p] 29)).alloc (.cells #[.int .i64 0] 29)).frozen? ⟨W.heap.size + 1, 0, none⟩ = false := by simp [alloc_frozen_if]
  have kk : Kept X W ((W.alloc (.cells #[.int .i64 p] 29)).alloc (.cells #[.int .i64 0] 29)) := Kept.calm hX (gr1 (gr1 (gr0 W) _) _)
  have HI := hid2 hI
  have HX := hid2 hX
  have HKK := hid2 kk
  have hcl := clipN_le L.length f
  have hct := clipN_le L.length t
  clear k kk hI hX
  refine (callsIn_wide (n := 12)).1 ?_
  refine callsIn_of_wp_marks Try.func41 rfl trivial ?_ rfl
  simp only [Try.ntmps41, List.size_toArray, List.length_cons, List.length_nil, Nat.reduceAdd, Nat.reduceSub, Array.replicate_succ, Array.replicate_zero, List.push_toArray, List.append_toArray, List.nil_append, List.cons_append]
  gi_wp2_with (first
    | (refine ⟨trivial, ?_⟩; gi_at_call 19; refine (callsIn_wide.2 (sec_of 0 _)).mono ?_; rintro e w1 ⟨rfl, hb1⟩; have K3 := (K2.calm hb1).more (gr1 (gr0 w1) (.cells #[.int .i64 0] 29)) w1.heap.size (Nat.le_refl _) (by simp); have hz1 := hb1.size; (try simp at hz1); have r0 := cellA (x := .cells #[.int .i64 0] 29) ((hb1.cell (p := ⟨W.heap.size, 0, none⟩) (by simp; omega)).trans q0); have r1 := cellA (x := .cells #[.int .i64 0] 29) ((hb1.cell (p := ⟨W.heap.size + 1, 0, none⟩) (by simp)).trans q1); have r2 : (w1.alloc (.cells #[.int .i64 0] 29)).cell? ⟨w1.heap.size, 0, none⟩ = some (.int .i64 0) := (by simp [alloc_cell_if]); have f1 : (w1.alloc (.cells #[.int .i64 0] 29)).frozen? ⟨W.heap.size + 1, 0, none⟩ = false := (((gr1 (gr0 w1) _).frozen (p := ⟨W.heap.size + 1, 0, none⟩) (by show W.heap.size + 1 < _; omega)).trans ((hb1.frozen (p := ⟨W.heap.size + 1, 0, none⟩) (by simp)).trans q2)); have f2 : (w1.alloc (.cells #[.int .i64 0] 29)).frozen? ⟨w1.heap.size, 0, none⟩ = false := (by simp [alloc_frozen_if]); have kk1 : Kept X W (w1.alloc (.cells #[.int .i64 0] 29)) := (HKK.out.trans (Kept.calm (fun x hx => (by have := HX.out x hx; simp; omega)) (gr1 hb1 _))); obtain ⟨v3, B3⟩ := K3.bufc)
    | (refine ⟨trivial, ?_⟩; gi_at_call 60; refine (callsIn_wide.2 (window_ B3 f t)).mono ?_; rintro e w3 ⟨rfl, hb3, e1, e2, e3⟩))
  have hs : (w1.alloc (.cells #[.int .i64 0] 29)).heap.size = w1.heap.size + 1 := by simp
  have hb3s := hb3.size
  rw [hs] at e1 e2 e3 hb3s
  have zz := World.block_lt_of_cell? w3 _ e2
  simp only at zz
  have K5 := hid2 (K3.mores hb3 [w1.heap.size + 1, w1.heap.size + 1 + 2, w1.heap.size + 1 + 1] (by intro y hy; rw [hs]; simp only [List.mem_cons, List.not_mem_nil, or_false] at hy; omega))
  have t0 := (hb3.cell (p := ⟨W.heap.size, 0, none⟩) (by rw [hs]; show W.heap.size < _; omega)).trans r0
  have t1 := (hb3.cell (p := ⟨W.heap.size + 1, 0, none⟩) (by rw [hs]; show W.heap.size + 1 < _; omega)).trans r1
  have t2 := (hb3.cell (p := ⟨w1.heap.size, 0, none⟩) (by rw [hs]; show w1.heap.size < _; omega)).trans r2
  have g1 := (hb3.frozen (p := ⟨W.heap.size + 1, 0, none⟩) (by rw [hs]; show W.heap.size + 1 < _; omega)).trans f1
  have g2 := (hb3.frozen (p := ⟨w1.heap.size, 0, none⟩) (by rw [hs]; show w1.heap.size < _; omega)).trans f2
  have kk3 : Kept X W w3 := kk1.trans (Kept.calm (fun x hx => by have := HX.out x hx; rw [hs]; omega) hb3)
  generalize hAe : clipN L.length f = A at *
  generalize hZe : clipN L.length t = Z at *
  have HAe := hid2 hAe
  have HZe := hid2 hZe
  clear hAe hZe
  obtain ⟨sz, hsz⟩ : ∃ sz, sz = w1.heap.size := ⟨_, rfl⟩
  obtain ⟨s0, hs0⟩ : ∃ s0, s0 = W.heap.size := ⟨_, rfl⟩
  rw [← hsz] at e1 e2 e3 K5 t2 g2 ⊢
  rw [← hs0] at K5 t0 t1 g1 ⊢
  have HS := hid2 hs0
  have HZ := hid2 hsz
  have hz9 : s0 + 2 ≤ sz := by omega
  clear K2 K3 B3 q0 q1 q2 r0 r1 r2 f1 f2 kk1 hb1 hb3 hs hb3s hs0 hsz zz
  let G : Nat → World → Prop := fun i W' => W'.cell? ⟨s0, 0, none⟩ = some (.int .i64 p) ∧ (W'.cell? ⟨s0 + 1, 0, none⟩ = some (.int .i64 0) ∧ W'.frozen? ⟨s0 + 1, 0, none⟩ = false) ∧ (W'.cell? ⟨sz, 0, none⟩ = some (.int .i64 (outAt L p A i)) ∧ W'.frozen? ⟨sz, 0, none⟩ = false) ∧
    (W'.cell? ⟨sz + 1, 0, none⟩ = some (.pointer (some ⟨b, 0, none⟩)) ∧ W'.cell? ⟨sz + 1 + 2, 0, none⟩ = some (.int .i64 Z) ∧ W'.cell? ⟨sz + 1 + 1, 0, none⟩ = some (.int .i64 A)) ∧ Kept X W W'
  refine range_win (n := 12) (A := A) (Z := Z) (N := L.length) (E := fun i => addO o E (winE A Z i)) (L := fun _ => L) (E0 := E) (X := [sz + 1, sz + 1 + 2, sz + 1 + 1] ++ (sz :: (s0 + 1) :: s0 :: X)) (G := G) (by omega) rfl rfl hcl hct (fun _ => rfl) (by omega) (fun i hi => Nat.le_trans (addO_len _ _ _) (by have := winE_len A Z i; omega)) (by omega) (by rw [winE_zero]) ?hG (fun i W' h => h.2.2.2.1) K5.out ⟨t0, ⟨t1, g1⟩, ⟨by rw [outAt_zero]; exact t2, g2⟩, ⟨e1, e2, e3⟩, kk3⟩
    (fun i x Bx => { tmps := #[.pointer (some ⟨b, 0, none⟩), .agg #[.int .i64 p], .int .i64 f, .int .i64 t, undef, .pointer (some ⟨s0, 0, none⟩), undef, undef, .pointer (some ⟨s0 + 1, 0, none⟩), .pointer (some ⟨sz, 0, none⟩), .int .i64 i, .pointer (some ⟨Bx, 0, none⟩), .agg #[.int .i64 0], .pointer (some ⟨b, 0, none⟩), .int .i64 f, .int .i64 t,
      .func (.func 80) #[] #[.pointer (some ⟨sz + 1, 0, none⟩), .pointer (some ⟨sz + 1 + 2, 0, none⟩), .pointer (some ⟨sz + 1 + 1, 0, none⟩)], .int .i64 i, .agg #[.int .i64 x], undef, undef, undef, undef, undef, undef, undef], defers := [] }) ?assign ?body ?done
  case hG =>
    rintro i W1 W2 ⟨h1, ⟨h2, h3⟩, ⟨h4, h5⟩, ⟨h6, h7, h8⟩, h9⟩ hk
    exact ⟨hk.cell (by simp) h1, ⟨hk.cell (by simp) h2, hk.free (by simp) h3⟩, ⟨hk.cell (by simp) h4, hk.free (by simp) h5⟩, ⟨hk.cell (by simp) h6, hk.cell (by simp) h7, hk.cell (by simp) h8⟩, h9.trans (hk.less fun y hy => by simp [hy])⟩
  case assign =>
    rintro l Y i x W1 h1 h2 hx hB hg
    have hBl := hB.ltX
    gi_wp2
    exact ⟨Kept.calm hBl (gr1 (gr0 W1) _), W1.heap.size, rfl, hB.more (gr1 (gr0 W1) _) W1.heap.size (Nat.le_refl _) (by simp), ⟨fun h => Nat.lt_irrefl _ (hBl _ h), hB.below.size⟩, by simp [alloc_cell_if], by simp [alloc_frozen_if]⟩
  case body =>
    rintro l Y i x Bx W1 h1 h2 hx hB hYX ⟨-, hbx, -⟩ ⟨h3, ⟨h4, h5⟩, ⟨h6, h7⟩, ⟨h8, h9, h10⟩, h11⟩
    have z3 := World.block_lt_of_cell? W1 _ h3
    have z4 := World.block_lt_of_cell? W1 _ h4
    have z6 := World.block_lt_of_cell? W1 _ h6
    have z8 := World.block_lt_of_cell? W1 _ h8
    have z9 := World.block_lt_of_cell? W1 _ h9
    have z10 := World.block_lt_of_cell? W1 _ h10
    have zb := World.block_lt_of_cell? W1 _ hbx
    simp only at z3 z4 z6 z8 z9 z10 zb
    have hil : i ≤ 100000 := by have := (List.getElem?_eq_some_iff.1 hx).1; omega
    have hsucc := outAt_succ HI.out hp h1 hil hx
    have HB := hid2 hB
    have HS2 := hid2 hsucc
    have hX2 := hid2 hB.ltX
    have HYX := hid2 hYX
    clear hB hsucc hYX hx
    generalize outAt L p A i = oi at *
    gi_wp2
    refine wpIn_region_calm_tail 6 (by kernel_rfl) (by kernel_rfl) (by rintro ⟨_, _, h⟩; exact nomatch h.1) ?_
    simp only [List.take_succ_cons, List.take_zero, List.drop_succ_cons, List.drop_zero]
    (repeat (first | go_big_quiet_step ((first | (go_at_call 56; exact calm_call (sis_ _ _ _)) | (go_at_call 55; exact calm_call (sec_select _ _ _ _)))) | quiet_step ((first | (go_at_call 56; exact calm_call (sis_ _ _ _)) | (go_at_call 55; exact calm_call (sec_select _ _ _ _))))))
    refine wpQuiet_nil ?_
    intro u
    have u3 := (u.below.cell (p := ⟨s0, 0, none⟩) z3).trans h3
    have u4 := (u.below.cell (p := ⟨s0 + 1, 0, none⟩) z4).trans h4
    have u5 := (u.below.frozen (p := ⟨s0 + 1, 0, none⟩) z4).trans h5
    have u6 := (u.below.cell (p := ⟨sz, 0, none⟩) z6).trans h6
    have u7 := (u.below.frozen (p := ⟨sz, 0, none⟩) z6).trans h7
    have u8 := (u.below.cell (p := ⟨sz + 1, 0, none⟩) z8).trans h8
    have u9 := (u.below.cell (p := ⟨sz + 1 + 2, 0, none⟩) z9).trans h9
    have u10 := (u.below.cell (p := ⟨sz + 1 + 1, 0, none⟩) z10).trans h10
    have ku := hid2 (HB.out.calm u.below)
    have kY := hid2 (Kept.calm (X := Y) (fun y hy => hX2.out y (by simp [hy])) u.below)
    have kX := hid2 (h11.trans (Kept.calm (X := X) (fun y hy => hX2.out y (by simp [hy])) u.below))
    have zu := World.block_lt_of_cell? u.at_ _ u6
    simp only at zu
    generalize u.at_ = W2 at *
    clear h3 h4 h5 h6 h7 h8 h9 h10 h11 z3 z4 z6 z8 z9 z10 hbx zb
    go_wp2
    have c3 : Cel (W2.setCell ⟨sz, 0, none⟩ (.int .i64 (secSelect (secEqual p i) x oi))) sz 0 (.int .i64 (secSelect (secEqual p i) x oi)) := cel_same ⟨u6, u7⟩
    have far : ∀ {q : Nat} {v : Value}, W2.cell? ⟨q, 0, none⟩ = some v → q ≠ sz → (W2.setCell ⟨sz, 0, none⟩ (.int .i64 (secSelect (secEqual p i) x oi))).cell? ⟨q, 0, none⟩ = some v := fun {q v} h hne => (World.cell?_of_block (a := ⟨q, 0, none⟩) (heap_setCell_other _ ⟨sz, 0, none⟩ q _ hne)).trans h
    refine ⟨?_, ?_, far u3 (by omega), ⟨far u4 (by omega), ?_⟩, ?_, ⟨far u8 (by omega), far u9 (by omega), far u10 (by omega)⟩, ?_⟩
    · have := (ku.out.set (x := sz) (i := 0) (by simp) (by have := HS.out; omega) (.int .i64 (secSelect (secEqual p i) x oi))).less (Y := Y ++ ([sz + 1, sz + 1 + 2, sz + 1 + 1] ++ (sz :: (s0 + 1) :: s0 :: X))) (fun y hy => by simp only [List.mem_cons]; exact .inr hy)
      show B1 _ _ _ _ (addO o E (winE A Z (i + 1))) _ _
      rw [winE_succ Z h1, ← addO_add]
      exact this
    · exact kY.out.set (fun h => HYX.out sz h (by simp)) _
    · rw [World.frozen?_setCell]; exact u5
    · rw [← HS2.out]; exact c3
    · exact kX.out.set (fun h => by have := HX.out sz h; have := HS.out; omega) _
  case done =>
    rintro D W1 hD hB ⟨h3, ⟨h4, h5⟩, ⟨h6, h7⟩, ⟨h8, h9, h10⟩, h11⟩ hK
    have z4 := World.block_lt_of_cell? W1 _ h4
    have z6 := World.block_lt_of_cell? W1 _ h6
    simp only at z4 z6
    have HB := hid2 hB
    have HKX := hid2 h11
    have zt := World.block_lt_of_cell? w3 _ t1
    simp only at zt
    have hDne : D ≠ s0 + 1 := by omega
    clear hB h11
    gi_wp2
    have hK2 : (W1.setCell ⟨s0 + 1, 0, none⟩ (.int .i64 (outAt L p A (max A Z)))).heap[D]? = some (.deferred (some [])) := (heap_setCell_other _ ⟨s0 + 1, 0, none⟩ D _ hDne).trans hK
    refine ⟨by simp, .inl ⟨_, _, rfl, run_takeDeferred hK2, ?_⟩⟩
    rw [HAe.out, HZe.out]
    have hcr : ((W1.setCell ⟨s0 + 1, 0, none⟩ (.int .i64 (outAt L p A (max A Z)))).putObj D (.deferred none)).cell? ⟨s0 + 1, 0, none⟩ = some (.int .i64 (outAt L p A (max A Z))) :=
      (World.cell?_of_block (a := ⟨s0 + 1, 0, none⟩) (World.putObj_heap_other (Ne.symm hDne))).trans (World.cell?_setCell_same' _ _ _ (by rw [h4]; rfl))
    have hw3 := K5.out.below.size
    refine ⟨.agg #[.int .i64 (outAt L p A (max A Z))], by simp [results, Try.results41, go_sem, hcr] <;> rfl, rfl, ?_, ?_⟩
    · exact (((HB.out.set (x := s0 + 1) (i := 0) (by simp) (by have := HS.out; omega) _).putObj (by simp) (by omega) _).less (fun y hy => by simp [hy]))
    · have hx := HX.out
      exact ⟨fun y hy => (World.putObj_heap_other (by have := hx y hy; have := HS.out; have := hD; omega)).trans ((HKX.out.set (fun h => by have := hx _ h; have := HS.out; omega) _).1 y hy), Nat.le_trans HKX.out.2 (by rw [World.putObj_size, size_set]; exact Nat.le_refl _)⟩
end Go.Proofs.Ytbdnnkokkgdhnaa
