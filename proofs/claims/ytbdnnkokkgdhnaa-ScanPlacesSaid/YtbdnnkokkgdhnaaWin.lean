/- A window: its places, one by one; a range over it whose body goes on each time. -/
import Derived.Test.YtbdnnkokkgdhnaaBufV
import Derived.Test.YtbdnnkokkgdhnaaRound
import Derived.BigRegionIn
import Derived.OwnWalkIn
import Derived.TacticsInMore
import Derived.LoopNIn
import Derived.LoopIn
namespace Go.Proofs.Ytbdnnkokkgdhnaa
open Go.RowKit Go.Shelf

theorem brb_ {w0 W : World} {b : Nat} {o : Option Nat} {E : List Ev} {L : List Int} {X : List Nat} (k : B1 w0 W b o E L X) (hE : E.length ≤ 1000000) (n : Int) (hI : I64 n) :
    Calls Try.prog 81 #[rp o, .int .i64 n] W fun e W' => e = .returned (.tuple #[]) ∧ B1 w0 W' b o (addO o E [(2, n)]) L X ∧ Kept X W W' := by
  obtain ⟨fp, ⟨fr, v, r, c1, rfl, d1, d2⟩, t⟩ := k
  refine (rbr_ r hE n hI).mono ?_
  rintro e W' ⟨rfl, fr', r', m, f⟩
  exact ⟨rfl, (does_rec c1 d1 d2 r' m f).one t⟩
theorem B1.putObj {w0 W : World} {b : Nat} {o : Option Nat} {E : List Ev} {L : List Int} {X : List Nat} (k : B1 w0 W b o E L X) {l : Nat} (hl : l ∈ X) (h0 : w0.heap.size ≤ l) (ob : Obj) : B1 w0 (W.putObj l ob) b o E L X := by
  obtain ⟨fp, h1, t⟩ := k
  have hn := (t.px l hl).1
  exact ⟨fp, h1.frame fun x hx => World.putObj_heap_other (fun e => hn (e ▸ hx)), ⟨t.low, t.disj, t.px, fun x hx => by rw [World.putObj_size]; exact t.lt x hx, t.below.trans ⟨rfl, rfl, rfl, by rw [World.putObj_size]; exact Nat.le_refl _, fun x hx => World.putObj_heap_other (by omega)⟩⟩⟩
theorem seeL_in {o : Option Nat} {E : List Ev} {L : List Int} {i : Int} (h : inL L i) : seeL o E L i = addO o E [(1, i)] := by unfold seeL; exact if_pos h
set_option maxRecDepth 100000 in
set_option maxHeartbeats 4000000 in
theorem window_on {w0 : World} {b : Nat} {o : Option Nat} {pb pt pf A Z N : Nat} {E : Nat → List Ev} {L : Nat → List Int} {E0 : List Ev} {X : List Nat} {G : Nat → World → Prop} {l n : Nat} (hn : 2 ≤ n)
    (hA : A ≤ N) (hZ : Z ≤ N) (hN : ∀ i, (L i).length = N) (hN2 : N ≤ 100000) (hEl : ∀ i, i ≤ N → (E i).length ≤ 900000) (hE0 : E0.length ≤ 900000) (hE : E A = addO o E0 [(2, ((Z - A : Nat) : Int))])
    (hG : ∀ i W W', G i W → Kept X W W' → G i W')
    (hc : ∀ i W, G i W → W.cell? ⟨pb, 0, none⟩ = some (.pointer (some ⟨b, 0, none⟩)) ∧ W.cell? ⟨pt, 0, none⟩ = some (.int .i64 Z) ∧ W.cell? ⟨pf, 0, none⟩ = some (.int .i64 A))
    (hY : ∀ (i : Nat) (x : Int) (W : World), A ≤ i → i < Z → (L i)[i]? = some x → B1 w0 W b o (addO o (E i) [(1, (i : Int))]) (L i) X → G i W →
      YieldAt Fence.wide (n - 1) Try.prog l #[.int .i64 i, .agg #[.int .i64 x]] W fun e W' => e = .returned (.bool true) ∧ B1 w0 W' b o (E (i + 1)) (L (i + 1)) X ∧ G (i + 1) W')
    {W : World} (k : B1 w0 W b o E0 (L A) X) (g : G A W) :
    CallsIn Fence.wide n Try.prog 80 #[.func (.yield l) #[] #[], .pointer (some ⟨pb, 0, none⟩), .pointer (some ⟨pt, 0, none⟩), .pointer (some ⟨pf, 0, none⟩)] W fun e W' => (∃ v, e = .returned v) ∧ B1 w0 W' b o (E (max A Z)) (L (max A Z)) X ∧ G (max A Z) W' := by
  obtain ⟨c1, c2, c3⟩ := hc A W g
  have z1 := World.block_lt_of_cell? W _ c1
  have z2 := World.block_lt_of_cell? W _ c2
  have z3 := World.block_lt_of_cell? W _ c3
  obtain ⟨v0, B0⟩ := k.bufc
  have HTr : Hid2 (∀ u : Later W, Calls Try.prog 32 #[.pointer (some ⟨b, 0, none⟩)] u.at_ fun e W' => e = .returned (rp o) ∧ Below u.at_.heap.size u.at_ W') := fun u => btrace_ (B0.calm u.below)
  have HK := hid2 k
  have HG := hid2 g
  have HY := hid2 hY
  have HC := hid2 hc
  have HGK := hid2 hG
  have HE := hid2 hE
  have HEl := hid2 hEl
  have HN := hid2 hN
  have HE0 := hid2 hE0
  have hA1 : (A : Int) ≤ 100000 := by omega
  have hZ1 : (Z : Int) ≤ 100000 := by omega
  have hw : IntKind.i64.wrap ((Z : Int) - A) = (Z : Int) - A := by rw [IntKind.wrap_i64]; omega
  have hmx : (if (Z : Int) - A < 0 then (0 : Int) else (Z : Int) - A) = ((Z - A : Nat) : Int) := by split <;> omega
  have hI : I64 ((Z - A : Nat) : Int) := ⟨by omega, by omega⟩
  clear k g hY hc hG hE hEl B0 hN hE0
  have hro : ∃ r, rp o = .pointer r := ⟨_, rfl⟩
  obtain ⟨r, hr⟩ := hro
  rw [hr] at HTr
  refine callsIn_of_wp Try.func80 rfl trivial ?_
  simp only [Try.ntmps80, List.size_toArray, List.length_cons, List.length_nil, Nat.reduceAdd, Nat.reduceSub, Array.replicate_succ, Array.replicate_zero, List.push_toArray, List.append_toArray, List.nil_append, List.cons_append]
  gi_wp2
  refine wpIn_wide.2 ?_
  refine wp_region_calm_tail 6 (by kernel_rfl) (by kernel_rfl) ?_
  simp only [List.take_succ_cons, List.take_zero, List.drop_succ_cons, List.drop_zero]
  (repeat (first | go_big_quiet_step ((go_at_call 32; exact calm_call (HTr.out _))) | quiet_step ((go_at_call 32; exact calm_call (HTr.out _)))))
  refine wpQuiet_nil ?_
  intro u
  have K1 := hid2 (HK.out.calm u.below)
  have G1 := hid2 (HGK.out A _ _ HG.out (Kept.calm HK.out.ltX u.below))
  go_wp2_with (go_at_call 81; have hbr := brb_ K1.out (Nat.le_trans HE0.out (by omega)) _ hI; rw [hr] at hbr; refine hbr.mono ?_; rintro e W2 ⟨rfl, k2, kx2⟩; rw [← HE.out] at k2; have K2 := hid2 k2; have G2 := hid2 (HGK.out A _ _ G1.out kx2); obtain ⟨d1, d2, d3⟩ := HC.out A W2 G2.out; have y3 := World.block_lt_of_cell? W2 _ d3; clear k2 kx2 hbr)
  gi_wp2
  gi_loopw [5] (fun t wr => ∃ i : Nat, A ≤ i ∧ i ≤ max A Z ∧ t = .int .i64 i ∧ B1 w0 wr b o (E i) (L i) X ∧ G i wr) (fun t _ => max A Z - (intOf t).toNat)
  case atStart => exact ⟨A, Nat.le_refl _, Nat.le_max_left _ _, rfl, K2.out, G2.out⟩
  case round =>
    obtain ⟨i, hi1, hi2, rfl, HO, HGi⟩ := hrel
    obtain ⟨d1, d2, d3⟩ := HC.out i wr HGi
    have y1 := World.block_lt_of_cell? wr _ d1
    have y2 := World.block_lt_of_cell? wr _ d2
    have y3 := World.block_lt_of_cell? wr _ d3
    have hi3 : i ≤ N := by rw [Nat.max_def] at hi2; split at hi2 <;> omega
    have hi0 : (0 : Int) ≤ i := by omega
    have hi7 : (i : Int) ≤ 100000 := by omega
    by_cases hlt : i < Z
    · have t1 : decide ((i : Int) < Z) = true := by simp; omega
      have hinL : inL (L i) (i : Int) := ⟨by omega, by rw [HN.out]; omega⟩
      obtain ⟨j, hj, _, hx⟩ := getL_in hinL
      have hij : i = j := by omega
      subst hij
      have hsee := seeL_in (o := o) (E := E i) hinL
      obtain ⟨x, hgx⟩ : ∃ x, getL (L i) (i : Int) = x := ⟨_, rfl⟩
      rw [hgx] at hx
      have HGX := hid2 hgx
      clear hgx
      have HO2 := hid2 HO
      have HGi2 := hid2 HGi
      have HX := hid2 hx
      clear HO HGi hinL hj hx
      gi_wp2_with (refine ⟨trivial, fun _ => by omega, ?_⟩; gi_at_call 20; refine (callsIn_wide.2 (bget_ HO2.out (Nat.le_trans (HEl.out i hi3) (by omega)) (by rw [HN.out]; omega) i)).mono ?_; rintro e W3 ⟨rfl, k3, kx3⟩; rw [HGX.out]; rw [hsee] at k3; have K3 := hid2 k3; have G3 := hid2 (HGK.out i _ _ HGi2.out kx3); obtain ⟨fn, tmps, assign, body, hy, hR⟩ := HY.out i x W3 hi1 hlt HX.out K3.out G3.out; clear k3 kx3)
      refine ⟨fun _ => by omega, hR.mono ?_⟩
      rintro e W4 ⟨rfl, k4, g4⟩
      have K4 := hid2 k4
      have G4 := hid2 g4
      clear k4 g4
      gi_wp2
      go_roundw
      case measure => simp [intOf]; omega
      case rel => exact ⟨i + 1, by omega, by rw [Nat.max_def]; split <;> omega, by go_num, K4.out, G4.out⟩
    · have t1 : decide ((i : Int) < Z) = false := by simp; omega
      have him : i = max A Z := by rw [Nat.max_def] at hi2 ⊢; split at hi2 <;> (try split) <;> omega
      have HO2 := hid2 HO
      have HGi2 := hid2 HGi
      have HIM := hid2 him
      clear HO HGi him
      gi_wp2
      refine ⟨rfl, .tuple #[], by simp [results, Try.results80], ⟨_, rfl⟩, HIM.out ▸ HO2.out, HIM.out ▸ HGi2.out⟩
set_option maxRecDepth 100000 in
set_option maxHeartbeats 4000000 in
theorem range_win {w0 : World} {b : Nat} {o : Option Nat} {pb pt pf A Z N : Nat} {E : Nat → List Ev} {L : Nat → List Int} {E0 : List Ev} {X : List Nat} {G : Nat → World → Prop} {n : Nat} {g : Operand} {ps : Array Tmp} {assign body : Code} {Q : Exit → Act → World → Prop} {a : Act} {w : World}
    (hn : 9 ≤ n) (hg : a.eval g = .func (.func 80) #[] #[.pointer (some ⟨pb, 0, none⟩), .pointer (some ⟨pt, 0, none⟩), .pointer (some ⟨pf, 0, none⟩)]) (hps : ps.size = 2)
    (hA : A ≤ N) (hZ : Z ≤ N) (hN : ∀ i, (L i).length = N) (hN2 : N ≤ 100000) (hEl : ∀ i, i ≤ N → (E i).length ≤ 900000) (hE0 : E0.length ≤ 900000) (hE : E A = addO o E0 [(2, ((Z - A : Nat) : Int))])
    (hG : ∀ i W W', G i W → Kept X W W' → G i W')
    (hc : ∀ i W, G i W → W.cell? ⟨pb, 0, none⟩ = some (.pointer (some ⟨b, 0, none⟩)) ∧ W.cell? ⟨pt, 0, none⟩ = some (.int .i64 Z) ∧ W.cell? ⟨pf, 0, none⟩ = some (.int .i64 A))
    (k0 : B1 w0 w b o E0 (L A) X) (g0 : G A w) (act : Nat → Int → Nat → Act)
    (hassign : ∀ (l : Nat) (Y : List Nat) (i : Nat) (x : Int) (W : World), A ≤ i → i < Z → (L i)[i]? = some x → B1 w0 W b o (addO o (E i) [(1, (i : Int))]) (L i) (Y ++ X) → G i W →
      assign.wpIn (Fence.wide.inRound l) (n - 1 - 1) Try.prog (Exit.then (fun a' W' => Kept (Y ++ X) W W' ∧ ∃ Bx, a' = act i x Bx ∧ B1 w0 W' b o (addO o (E i) [(1, (i : Int))]) (L i) (Bx :: (Y ++ X)) ∧ (Bx ∉ Y ++ X ∧ w0.heap.size ≤ Bx) ∧ Cel W' Bx 0 (.int .i64 x)) (fun _ _ _ => False))
        { tmps := (ps.zip #[.int .i64 i, .agg #[.int .i64 x]]).foldl (fun t (p, v) => t.setIfInBounds p v) a.tmps, defers := [] } W)
    (hbody : ∀ (l : Nat) (Y : List Nat) (i : Nat) (x : Int) (Bx : Nat) (W : World), A ≤ i → i < Z → (L i)[i]? = some x → B1 w0 W b o (addO o (E i) [(1, (i : Int))]) (L i) (Bx :: (Y ++ X)) → (∀ y ∈ Y, y ∉ X) → (Bx ∉ Y ++ X ∧ w0.heap.size ≤ Bx) ∧ Cel W Bx 0 (.int .i64 x) → G i W →
      body.wpIn (Fence.wide.inRound l) (n - 1 - 1) Try.prog (fun e _ W' => e = .normal ∧ B1 w0 W' b o (E (i + 1)) (L (i + 1)) (Y ++ X) ∧ Kept Y W W' ∧ G (i + 1) W') (act i x Bx) W)
    (hdone : ∀ (D : Nat) (W : World), w.heap.size ≤ D → B1 w0 W b o (E (max A Z)) (L (max A Z)) (D :: X) → G (max A Z) W → W.heap[D]? = some (.deferred (some [])) → Q .normal { a with defers := { target := .collected D, args := #[] } :: a.defers } W) :
    (Code.rangeFunc g ps assign body).wpIn Fence.wide n Try.prog Q a w := by
  refine wpIn_rangeFunc fun fn hfn => ?_
  rw [Fence.wide_round]
  let LO : LoopState → Obj := fun st => .loop { state := st, pending := none, fn, tmps := a.tmps, params := ps, assign, body, defers := w.heap.size }
  have hLc : ∀ st, (LO st).isCells = false := fun _ => rfl
  obtain ⟨W1, hW1⟩ : ∃ W1, (w.alloc (.deferred (some []))).alloc (LO .ready) = W1 := ⟨_, rfl⟩
  have s1 : W1.heap.size = w.heap.size + 2 := by rw [← hW1]; simp
  have hl1 : W1.heap[w.heap.size + 1]? = some (LO .ready) := by
    rw [← hW1]
    have := World.alloc_heap_new (w.alloc (.deferred (some []))) (LO .ready)
    rwa [World.size_alloc] at this
  have hk1 : W1.heap[w.heap.size]? = some (.deferred (some [])) := by
    rw [← hW1]
    exact (Below.heap_alloc _ _ _ (by simp)).trans (World.alloc_heap_new w _)
  have hb1 : Below w.heap.size w W1 := by rw [← hW1]; exact gr1 (gr1 (gr0 w) _) _
  have hX := k0.ltX
  have hw0 := k0.below.size
  have k1 : B1 w0 W1 b o E0 (L A) ([w.heap.size + 1, w.heap.size] ++ X) := by
    have q := ((k0.more (gr1 (gr0 w) (.deferred (some []))) w.heap.size (Nat.le_refl _) (by simp)).more (gr1 (gr0 _) (LO .ready)) (w.heap.size + 1) (by simp) (by simp))
    rw [hW1] at q
    exact q
  have g1 : G A W1 := hG A _ _ g0 (Kept.calm hX hb1)
  have hYX : ∀ y ∈ [w.heap.size + 1, w.heap.size], y ∉ X := fun y hy h => by have := hX y h; simp at hy; omega
  let G' : Nat → World → Prop := fun i W => G i W ∧ W.heap[w.heap.size + 1]? = some (LO .ready) ∧ W.heap[w.heap.size]? = some (.deferred (some []))
  have keepX : ∀ (W : World) (ob : Obj), Kept X W (W.putObj (w.heap.size + 1) ob) := fun W ob => ⟨fun x hx => World.putObj_heap_other (by have := hX x hx; omega), by rw [World.putObj_size]; exact Nat.le_refl _⟩
  refine ⟨w.heap.size + 1, [{ target := .collected w.heap.size, args := #[] }], W1, { target := .fn (.func 80) #[.pointer (some ⟨pb, 0, none⟩), .pointer (some ⟨pt, 0, none⟩), .pointer (some ⟨pf, 0, none⟩)], args := #[.func (.yield (w.heap.size + 1)) #[] #[]] }, W1, 80,
    #[.func (.yield (w.heap.size + 1)) #[] #[], .pointer (some ⟨pb, 0, none⟩), .pointer (some ⟨pt, 0, none⟩), .pointer (some ⟨pf, 0, none⟩)], W1, by rw [← hW1]; exact run_enterLoop_outer _ _ _ _ _, ?_, ?_, ?_, fun _ => (by omega), ?_⟩
  · simp only [resolve, hg]
    simp [go_sem]
  · intro f' _
    trivial
  · simp [invoke, go_sem]
  · refine (window_on (X := [w.heap.size + 1, w.heap.size] ++ X) (G := G') (n := n - 1) (by omega) hA hZ hN hN2 hEl hE0 hE ?_ (fun i W h => hc i W h.1) ?_ k1 ⟨g1, hl1, hk1⟩).mono ?_
    · intro i W W' ⟨h1, h2, h3⟩ hk
      exact ⟨hG i W W' h1 (hk.less fun x hx => by simp [hx]), (hk.1 _ (by simp)).trans h2, (hk.1 _ (by simp)).trans h3⟩
    · rintro i x W hi1 hi2 hx hB ⟨hg1, hg2, hg3⟩
      have hy := run_yield (P := Try.prog) (args := #[.int .i64 i, .agg #[.int .i64 x]]) hg2 hps.symm
      refine ⟨fn, _, assign, body, hy, roundIn_of_wpIn hfn (wpIn_mono (hassign (w.heap.size + 1) [w.heap.size + 1, w.heap.size] i x W hi1 hi2 hx hB hg1) ?_)⟩
      rintro e a' Wa hp
      cases e with
      | normal =>
        obtain ⟨ka, Bx, rfl, hBa, hBn, hca⟩ := hp
        have hla := (ka.1 _ (by simp)).trans hg2
        have hka := (ka.1 _ (by simp)).trans hg3
        have lta := heap_lt hla
        have hga := hG i _ _ hg1 (ka.less fun x hx => by simp [hx])
        obtain ⟨Wb, hWb⟩ : ∃ Wb, Wa.putObj (w.heap.size + 1) (LO .busy) = Wb := ⟨_, rfl⟩
        have hbr : (Instr.beginRound (w.heap.size + 1)).run Try.prog Wa = .ok () Wb := by rw [← hWb]; exact run_beginRound hla rfl
        have hlb : Wb.heap[w.heap.size + 1]? = some (LO .busy) := by rw [← hWb]; exact World.putObj_heap_same lta
        have hkb : Wb.heap[w.heap.size]? = some (.deferred (some [])) := by rw [← hWb]; exact (World.putObj_heap_other (by omega)).trans hka
        have hBb : B1 w0 Wb b o (addO o (E i) [(1, (i : Int))]) (L i) (Bx :: ([w.heap.size + 1, w.heap.size] ++ X)) := by rw [← hWb]; exact hBa.putObj (by simp) (by omega) _
        have hgb : G i Wb := by rw [← hWb]; exact hG i _ _ hga (keepX _ _)
        have hBne : Bx ≠ w.heap.size + 1 := fun e => by
          have hca := hca.1
          rw [e] at hca
          simp only [World.cell?, hla] at hca
          cases hca
        have hcb : Cel Wb Bx 0 (.int .i64 x) := by rw [← hWb]; exact ⟨(World.cell?_of_block (a := ⟨Bx, 0, none⟩) (World.putObj_heap_other hBne)).trans hca.1, (World.frozen?_of_block (a := ⟨Bx, 0, none⟩) (World.putObj_heap_other hBne)).trans hca.2⟩
        refine ⟨Wb, hbr, wpIn_mono (hbody (w.heap.size + 1) [w.heap.size + 1, w.heap.size] i x Bx Wb hi1 hi2 hx hBb hYX ⟨hBn, hcb⟩ hgb) ?_⟩
        rintro e2 a2 Wc ⟨rfl, hBc, kc, hgc⟩
        have hlc := (kc.1 _ (by simp)).trans hlb
        have hkc := (kc.1 _ (by simp)).trans hkb
        have hen := run_endRound (P := Try.prog) none hlc
        refine ⟨_, _, hen, rfl, hBc.putObj (by simp) (by omega) _, hG _ _ _ hgc (keepX _ _), World.putObj_heap_same (heap_lt hlc), (World.putObj_heap_other (by omega)).trans hkc⟩
      | _ => exact (hp : False).elim
    · rintro e W2 ⟨⟨v, rfl⟩, hB2, hg2, hl, hk⟩
      refine ⟨none, _, run_endLoop (P := Try.prog) hl (fun h => nomatch h), hdone _ _ (Nat.le_refl _) ?_ (hG _ _ _ hg2 (keepX _ _)) ((World.putObj_heap_other (by omega)).trans hk)⟩
      exact (hB2.putObj (l := w.heap.size + 1) (by simp) (by omega) _).less fun y hy => by
        simp only [List.mem_cons, List.mem_append, List.not_mem_nil, or_false] at hy ⊢
        rcases hy with h | h
        · exact .inl (.inr h)
        · exact .inr h
end Go.Proofs.Ytbdnnkokkgdhnaa
