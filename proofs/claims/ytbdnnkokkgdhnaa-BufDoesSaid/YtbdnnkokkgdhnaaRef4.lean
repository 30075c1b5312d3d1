/- The document's buffers: a word got, a word set, all told, lists compared. -/
import Derived.Test.YtbdnnkokkgdhnaaCel
import Derived.Test.YtbdnnkokkgdhnaaApp
import Derived.RegionTactic
namespace Go.Proofs.Ytbdnnkokkgdhnaa
open Go.RowKit

/-- Two cells of a block, one after the other. -/
def Cel2 (W : World) (b : Nat) (u v : Value) : Prop := Cel W b 0 u ∧ Cel W b 1 v
theorem Cel2.below {W W' : World} {b : Nat} {u v : Value} (h : Cel2 W b u v) (hb : Below W.heap.size W W') : Cel2 W' b u v := ⟨h.1.below hb, h.2.below hb⟩
theorem Cel2.set0 {W : World} {b : Nat} {u v x : Value} (h : Cel2 W b u v) : Cel2 (W.setCell ⟨b, 0, none⟩ x) b x v :=
  ⟨cel_same h.1, (World.cell?_setCell_other _ _ _ _ (by simp)).trans h.2.1, by rw [World.frozen?_setCell]; exact h.2.2⟩
theorem Cel2.set1 {W : World} {b : Nat} {u v x : Value} (h : Cel2 W b u v) : Cel2 (W.setCell ⟨b, 1, none⟩ x) b u x :=
  ⟨⟨(World.cell?_setCell_other _ _ _ _ (by simp)).trans h.1.1, by rw [World.frozen?_setCell]; exact h.1.2⟩, cel_same h.2⟩
theorem Cel2.far {W : World} {b c i : Nat} {u v x : Value} (h : Cel2 W b u v) (hn : b ≠ c) : Cel2 (W.setCell ⟨c, i, none⟩ x) b u v := ⟨cel_set h.1 hn, cel_set h.2 hn⟩
theorem Cel2.lt {W : World} {b : Nat} {u v : Value} (h : Cel2 W b u v) : b < W.heap.size := World.block_lt_of_cell? W _ h.1.1
theorem Cel2.new (W : World) (u v : Value) (t : TypeId) : Cel2 (W.alloc (.cells #[u, v] t)) W.heap.size u v := ⟨⟨by simp [alloc_cell_if], by simp [alloc_frozen_if]⟩, ⟨by simp [alloc_cell_if], by simp [alloc_frozen_if]⟩⟩
theorem cell_other {W : World} {b i c j : Nat} {v x : Value} (h : W.cell? ⟨b, i, none⟩ = some v) (hn : b ≠ c) : (W.setCell ⟨c, j, none⟩ x).cell? ⟨b, i, none⟩ = some v := (World.cell?_of_block (a := ⟨b, i, none⟩) (heap_setCell_other _ ⟨c, j, none⟩ b _ hn)).trans h
/-- What a value lies in is what another lay in, or is new. -/
def NewOr (W : World) (v v' : Value) : Prop := ∀ y ∈ vb v', y ∈ vb v ∨ W.heap.size ≤ y
theorem NewOr.refl (W : World) (v : Value) : NewOr W v v := fun _ h => .inl h
theorem NewOr.evs {W W' : World} {n0 : Nat} {v v' : Value} {E : List Ev} (h : Evs n0 W' v' E) (hn : W.heap.size ≤ n0) : NewOr W v v' := fun y hy => .inr (Nat.le_trans hn (h.lt y hy).1)
theorem NewOr.ints {W W' : World} {n0 : Nat} {v v' : Value} {L : List Int} (h : Ints n0 W' v' L) (hn : W.heap.size ≤ n0) : NewOr W v v' := fun y hy => .inr (Nat.le_trans hn (vb_lt h y hy).1)
theorem ints_set {n0 : Nat} {W : World} {g c : Nat} {L : List Int} (h : Ints n0 W (.slice (some ⟨g, 0, none⟩) L.length c) L) (i : Nat) (x : Int) : Ints n0 (W.setCell ⟨g, i, none⟩ (.int .i64 x)) (.slice (some ⟨g, 0, none⟩) L.length c) (L.set i x) := by
  unfold Ints
  rw [List.map_set, List.length_set]
  exact own_set_in h i _
theorem below_set {w W : World} {b i : Nat} {x : Value} (h : Below w.heap.size w W) (hb : w.heap.size ≤ b) : Below w.heap.size w (W.setCell ⟨b, i, none⟩ x) := gr4 h hb x
theorem Evs.slice {n0 : Nat} {W : World} {v : Value} {E : List Ev} (h : Evs n0 W v E) : ∃ q c, v = .slice q E.length c := by
  rcases h.2 with ⟨hv, h0⟩ | ⟨g, cap, cur, hv, _⟩
  · exact ⟨none, 0, by rw [hv]; congr 1; omega⟩
  · exact ⟨_, _, hv⟩
theorem see_at {o : Option Nat} {E : List Ev} {L : List Int} {i : Int} (h : inL L i) : seeL o E L i = addO o E [(1, i)] := by unfold seeL; exact if_pos h
theorem see_no {o : Option Nat} {E : List Ev} {L : List Int} {i : Int} (h : ¬ inL L i) : seeL o E L i = E := by unfold seeL; exact if_neg h
theorem Evs.slice1 {n0 : Nat} {W : World} {v : Value} {E : List Ev} {x : Ev} (h : Evs n0 W v (E ++ [x])) : ∃ q c, v = .slice q (E.length + 1) c := by
  obtain ⟨q, c, hv⟩ := h.slice
  rw [List.length_append, List.length_singleton] at hv
  exact ⟨q, c, hv⟩
theorem Ints.zero {n0 : Nat} {W : World} {v : Value} {L : List Int} (h : Ints n0 W v L) : Ints 0 W v L := own_low h (Nat.zero_le _)
theorem Evs.zero {n0 : Nat} {W : World} {v : Value} {E : List Ev} (h : Evs n0 W v E) : Evs 0 W v E := h.low (Nat.zero_le _)

set_option maxRecDepth 100000 in
set_option maxHeartbeats 4000000 in
theorem rget_ {W : World} {vl ve : Value} {n0 n1 : Nat} {L : List Int} {E : List Ev} (hl : Ints n0 W vl L) (he : Evs n1 W ve E) (hL : L.length ≤ 1000) (hE : E.length ≤ 900000) (i : Int) (hi : I64 i) :
    Calls Try.prog 30 #[.agg #[vl, ve], .int .i64 i] W fun e W' => ∃ ve', e = .returned (.tuple #[.agg #[vl, ve'], .int .i64 (getL L i)]) ∧ Evs 0 W' ve' (seeL (some 0) E L i) ∧ NewOr W ve ve' ∧ Below W.heap.size W W' := by
  obtain ⟨q, c, rfl, F1⟩ := hl.form
  obtain ⟨q', c', rfl⟩ := he.slice
  have hL0 : (0 : Int) ≤ L.length := by omega
  have hL1 : (L.length : Int) ≤ 1000 := by omega
  unfold I64 at hi
  obtain ⟨hi1, hi2⟩ := hi
  by_cases hin : inL L i
  · obtain ⟨j, rfl, hj, hx⟩ := getL_in hin
    have hsee := see_at (o := some 0) (E := E) hin
    rw [hsee]
    generalize getL L (j : Int) = x at *
    obtain ⟨g, rfl, _, hg0, hg1, hg2, _⟩ := F1 j x hx
    have t0 : decide ((j : Int) < 0) = false := by simp
    have t1 : decide ((L.length : Int) ≤ j) = false := by simp; omega
    have t1' : decide (L.length ≤ j) = false := by simp; omega
    have hj0 : (0 : Int) ≤ j := by omega
    have hj1 : (j : Int) < L.length := by omega
    have hB : Below W.heap.size W ((W.alloc (.cells #[.slice (some ⟨g, 0, none⟩) L.length c, .slice q' E.length c'] 47)).alloc (.cells #[.slice none 0 0, .slice none 0 0] 47)) := gr1 (gr1 (gr0 W) _) _
    have HB := hid2 hB
    have HE := hid2 (he.zero.below hB)
    have HEl := hid2 (fun y hy => (he.lt y hy).2)
    have HC := hid2 ((Cel2.new W (.slice (some ⟨g, 0, none⟩) L.length c) (.slice q' E.length c') 47).below (gr1 (gr0 _) (.cells #[.slice none 0 0, .slice none 0 0] 47)))
    have hr := Cel2.new (W.alloc (.cells #[.slice (some ⟨g, 0, none⟩) L.length c, .slice q' E.length c'] 47)) (.slice none 0 0) (.slice none 0 0) 47
    rw [World.size_alloc] at hr
    have HR := hid2 hr
    clear hr
    have HG := hid2 hg2
    clear hin hsee hx F1 hl he hB hg2
    go_enter Try.func30, Try.ntmps30
    go_wp2_with (first
      | (go_at_call 54; (with_reducible refine (radd_ HE.out (by omega) 1 j).mono ?_); rintro e w1 ⟨v', rfl, E1, hb1⟩; obtain ⟨q1, c1, rfl⟩ := E1.slice1; have HE1 := hid2 (E1.low (n1 := W.heap.size + 2) (by simp)); have HB1 := hid2 (gr2 HB.out hb1); have C1 := HC.out.below hb1; have HR1 := hid2 (HR.out.below hb1); obtain ⟨⟨k0, k1⟩, ⟨k2, k3⟩⟩ := id C1; have kz := C1.lt; have HC1 := hid2 (C1.set1 (x := .slice q1 (E.length + 1) c1)); have hg3 := (HB1.out.cell (p := ⟨g, j, none⟩) hg1).trans HG.out; have HG3 := hid2 hg3; clear E1 hb1 C1 hg3))
    refine wp_abs (fun W' => Cel2 W' W.heap.size (.slice (some ⟨g, 0, none⟩) L.length c) (.slice q1 (E.length + 1) c1) ∧ Cel2 W' (W.heap.size + 1) (.slice none 0 0) (.slice none 0 0) ∧ W'.cell? ⟨g, j, none⟩ = some (.int .i64 x) ∧ Hid2 (Below W.heap.size W W') ∧ Hid2 (Evs (W.heap.size + 2) W' (.slice q1 (E.length + 1) c1) (E ++ [(1, (j : Int))]))) ⟨HC1.out, HR1.out.far (c := W.heap.size) (i := 1) (by omega), (cell_other (c := W.heap.size) (j := 1) HG3.out (Nat.ne_of_lt hg1)), hid2 (gr4 HB1.out (Nat.le_refl _) _), hid2 (HE1.out.keep fun y hy => heap_setCell_other _ ⟨W.heap.size, 1, none⟩ y _ (by have := (HE1.out.lt y hy).1; intro e; have e : y = W.heap.size := e; omega))⟩ ?_
    clear HC1 HR1 HG3 HB1 HE1 HB HE HC HR HG k0 k1 k2 k3 kz
    rintro W' ⟨⟨⟨a1, a2⟩, ⟨a3, a4⟩⟩, ⟨⟨a5, a6⟩, ⟨a7, a8⟩⟩, a9, HB, HE⟩
    have z1 := World.block_lt_of_cell? W' _ a5
    have z2 := World.block_lt_of_cell? W' _ a9
    simp only at z1 z2
    have n1 : g ≠ W.heap.size := by omega
    have n2 : g ≠ W.heap.size + 1 := by omega
    go_region
    all_goals (try go_wp2)
    have D := (Cel2.set0 (W := W') (b := W.heap.size + 1) (u := .slice none 0 0) (v := .slice none 0 0) (x := .slice (some ⟨g, 0, none⟩) L.length c) ⟨⟨a5, a6⟩, ⟨a7, a8⟩⟩).set1 (x := .slice q1 (E.length + 1) c1)
    exact bodyPost_ret (v := .tuple #[.agg #[.slice (some ⟨g, 0, none⟩) L.length c, .slice q1 (E.length + 1) c1], .int .i64 x]) (by simp [results, Try.results30, go_sem, D.1.1, D.2.1] <;> rfl) rfl ⟨_, rfl, Evs.zero (HE.out.keep fun y hy => by
      have h1 := (HE.out.lt y hy).1
      have hne : y ≠ W.heap.size + 1 := fun e => by omega
      exact (heap_setCell_other _ ⟨W.heap.size + 1, 1, none⟩ y _ hne).trans (heap_setCell_other _ ⟨W.heap.size + 1, 0, none⟩ y _ hne)), NewOr.evs HE.out (by omega), gr3 (gr4 (gr4 HB.out (Nat.le_succ _) _) (Nat.le_succ _) _)⟩
  · have hg : getL L i = 0 := by unfold getL; exact if_neg hin
    rw [see_no hin, hg]
    have hni : ¬(0 ≤ i ∧ i < L.length) := hin
    have HE := hid2 he.zero
    clear hg hin F1 hl he
    by_cases h0 : i < 0
    · have t0 : decide (i < 0) = true := by simp; omega
      go_enter Try.func30, Try.ntmps30
      go_wp2
      exact bodyPost_ret (v := .tuple #[.agg #[.slice q L.length c, .slice q' E.length c'], .int .i64 0]) (by simp [results, Try.results30, go_sem, alloc_cell_if] <;> rfl) rfl ⟨_, rfl, HE.out.below (gr1 (gr1 (gr0 W) _) _), NewOr.refl _ _, gr1 (gr1 (gr0 W) _) _⟩
    · have t0 : decide (i < 0) = false := by simp; omega
      have t1 : decide ((L.length : Int) ≤ i) = true := by simp; omega
      go_enter Try.func30, Try.ntmps30
      go_wp2
      exact bodyPost_ret (v := .tuple #[.agg #[.slice q L.length c, .slice q' E.length c'], .int .i64 0]) (by simp [results, Try.results30, go_sem, alloc_cell_if] <;> rfl) rfl ⟨_, rfl, HE.out.below (gr1 (gr1 (gr0 W) _) _), NewOr.refl _ _, gr1 (gr1 (gr0 W) _) _⟩
set_option maxRecDepth 100000 in
set_option maxHeartbeats 4000000 in
theorem rset_ {W : World} {vl ve : Value} {n0 n1 : Nat} {L : List Int} {E : List Ev} (hl : Ints n0 W vl L) (he : Evs n1 W ve E) (hL : L.length ≤ 1000) (hE : E.length ≤ 900000) (i x : Int) (hi : I64 i) :
    Calls Try.prog 29 #[.agg #[vl, ve], .int .i64 i, .int .i64 x] W fun e W' => ∃ vl' ve', e = .returned (.agg #[vl', ve']) ∧ Ints 0 W' vl' (setL L i x) ∧ Evs 0 W' ve' (seeL (some 0) E L i) ∧ (NewOr W vl vl' ∧ NewOr W ve ve') ∧ Below W.heap.size W W' := by
  obtain ⟨j0, hj0, hy0, hy1, hy2⟩ := info_parts info_int
  obtain ⟨q, c, rfl, F1⟩ := hl.form
  obtain ⟨q', c', rfl⟩ := he.slice
  have hL0 : (0 : Int) ≤ L.length := by omega
  have hL1 : (L.length : Int) ≤ 1000 := by omega
  unfold I64 at hi
  obtain ⟨hi1, hi2⟩ := hi
  by_cases hin : inL L i
  · obtain ⟨j, rfl, hj, hx⟩ := getL_in hin
    have hsee := see_at (o := some 0) (E := E) hin
    have hset : setL L (j : Int) x = L.set j x := setL_in hin x
    rw [hsee, hset]
    obtain ⟨g, rfl, _, hg0, hg1, hg2, _⟩ := F1 j _ hx
    have t0 : decide ((j : Int) < 0) = false := by simp
    have t1 : decide ((L.length : Int) ≤ j) = false := by simp; omega
    have t1' : decide (L.length ≤ j) = false := by simp; omega
    have hj0' : (0 : Int) ≤ j := by omega
    have hj1 : (j : Int) < L.length := by omega
    have hB : Below W.heap.size W ((W.alloc (.cells #[.slice (some ⟨g, 0, none⟩) L.length c, .slice q' E.length c'] 47)).alloc (.cells #[.slice none 0 0, .slice none 0 0] 47)) := gr1 (gr1 (gr0 W) _) _
    have HB := hid2 hB
    have HE := hid2 (he.zero.below hB)
    have HEl := hid2 (fun y hy => (he.lt y hy).2)
    have HC := hid2 ((Cel2.new W (.slice (some ⟨g, 0, none⟩) L.length c) (.slice q' E.length c') 47).below (gr1 (gr0 _) (.cells #[.slice none 0 0, .slice none 0 0] 47)))
    have hr := Cel2.new (W.alloc (.cells #[.slice (some ⟨g, 0, none⟩) L.length c, .slice q' E.length c'] 47)) (.slice none 0 0) (.slice none 0 0) 47
    rw [World.size_alloc] at hr
    have HR := hid2 hr
    have HI := hid2 (hl.below hB)
    have HCE := hid2 (show ∀ k u, (L.map (Value.int .i64))[k]? = some u → ((W.alloc (.cells #[.slice (some ⟨g, 0, none⟩) L.length c, .slice q' E.length c'] 47)).alloc (.cells #[.slice none 0 0, .slice none 0 0] 47)).cell? ((⟨g, 0, none⟩ : Addr).add k) = some u from fun k u hk => World.ownsRow.cells HI.out (g := g) rfl k u hk)
    have HON := hid2 (show ∀ u ∈ L.map (Value.int .i64), u.oneCell' = true from fun u hu => by obtain ⟨y, _, rfl⟩ := List.mem_map.1 hu; rfl)
    have HLE := hid2 (show (L.map (Value.int .i64)).length = L.length * 1 by simp)
    clear hin hsee hset hx F1 hl he hB hg2 hr
    go_enter Try.func29, Try.ntmps29
    go_wp2_with (first
      | (at_builtin; refine wpList_append_own_at _ rfl _ _ 36 rfl (W.heap.size + 2) 3 j0 _ 1 8 Try.underlying36 hj0 hy0 hy1 hy2 rfl (by decide) (.slice none 0 0) 0 [] rfl (World.ownsRow_nil _ _ _ _) ⟨g, 0, none⟩ L.length c (L.map (Value.int .i64)) rfl HLE.out HCE.out HON.out (by unfold maxLen; omega) (by omega) (by simp) ?_; intro v7 w1 hown1 hgrow1 _ _; have hI1 : Ints (W.heap.size + 2) w1 v7 L := (by unfold Ints; simpa using hown1); obtain ⟨q7, c7, hv7, F7⟩ := hI1.form; subst hv7; obtain ⟨g7, hq7, _, hz7, hz8, d7, d8⟩ := F7 j _ (List.getElem?_eq_getElem hj); subst hq7; have HI1 := hid2 hI1; have HB1 := hid2 (gr5 HB.out hgrow1 (fun k hk => nomatch hk)); have hb1 := gr5 (gr0 _) hgrow1 (fun k hk => nomatch hk); have HC1 := hid2 (HC.out.below hb1); have HR1 := hid2 (HR.out.below hb1); have HE1 := hid2 (HE.out.below hb1); obtain ⟨⟨k0, k1⟩, ⟨k2, k3⟩⟩ := HC1.out; have kz := HC1.out.lt; have HC2 := hid2 ((HC1.out.far (c := g7) (i := j) (x := .int .i64 x) (by omega)).set0 (x := .slice (some ⟨g7, 0, none⟩) L.length c7)); have HR2 := hid2 ((HR1.out.far (c := g7) (i := j) (x := .int .i64 x) (by omega)).far (c := W.heap.size) (i := 0) (x := .slice (some ⟨g7, 0, none⟩) L.length c7) (by omega)); have HB2 := hid2 (gr4 (gr4 HB1.out (p := ⟨g7, j, none⟩) (by show W.heap.size ≤ g7; omega) (.int .i64 x)) (p := ⟨W.heap.size, 0, none⟩) (Nat.le_refl _) (.slice (some ⟨g7, 0, none⟩) L.length c7)); have hi2 := ints_set HI1.out j x; have HI2 := hid2 (hi2.keep (W' := ((w1.setCell ⟨g7, j, none⟩ (.int .i64 x)).setCell ⟨W.heap.size, 0, none⟩ (.slice (some ⟨g7, 0, none⟩) L.length c7))) fun y hy => heap_setCell_other _ ⟨W.heap.size, 0, none⟩ y _ (fun e => by have := (vb_lt hi2 y hy).1; have e : y = W.heap.size := e; omega)); have HE2 := hid2 (HE1.out.keep (W' := ((w1.setCell ⟨g7, j, none⟩ (.int .i64 x)).setCell ⟨W.heap.size, 0, none⟩ (.slice (some ⟨g7, 0, none⟩) L.length c7))) fun y hy => (heap_setCell_other _ ⟨W.heap.size, 0, none⟩ y _ (fun e => by have := HEl.out y hy; have e : y = W.heap.size := e; omega)).trans (heap_setCell_other _ ⟨g7, j, none⟩ y _ (fun e => by have := HEl.out y hy; have e : y = g7 := e; omega))); clear hi2 hI1 F7 hown1 hgrow1 hb1)
      | (go_at_call 54; (with_reducible refine (radd_ HE2.out (by omega) 1 j).mono ?_); rintro e w3 ⟨v', rfl, E3, hb3⟩; obtain ⟨q3, c3, rfl⟩ := E3.slice1; have hz3 := HB2.out.size; have HE3 := hid2 (E3.low (n1 := W.heap.size + 2) (by have := HR2.out.lt; omega)); have HB3 := hid2 (gr2 HB2.out hb3); have HI3 := hid2 (HI2.out.below hb3); have C3 := HC2.out.below hb3; obtain ⟨⟨m0, m1⟩, ⟨m2, m3⟩⟩ := id C3; have mz := C3.lt; have HC3 := hid2 (C3.set1 (x := .slice q3 (E.length + 1) c3)); have R3 := HR2.out.below hb3; obtain ⟨⟨m4, m5⟩, ⟨m6, m7⟩⟩ := id R3; have mz2 := R3.lt; have HR3 := hid2 ((R3.far (c := W.heap.size) (i := 1) (x := .slice q3 (E.length + 1) c3) (by omega)).set0 (x := .slice (some ⟨g7, 0, none⟩) L.length c7) |>.set1 (x := .slice q3 (E.length + 1) c3)); clear C3 R3 E3 hb3))
    have D := HR3.out
    have far3 : ∀ y, W.heap.size + 2 ≤ y → (((w3.setCell ⟨W.heap.size, 1, none⟩ (.slice q3 (E.length + 1) c3)).setCell ⟨W.heap.size + 1, 0, none⟩ (.slice (some ⟨g7, 0, none⟩) L.length c7)).setCell ⟨W.heap.size + 1, 1, none⟩ (.slice q3 (E.length + 1) c3)).heap[y]? = w3.heap[y]? := fun y hy =>
      (heap_setCell_other _ ⟨W.heap.size + 1, 1, none⟩ y _ (fun e => by have e : y = W.heap.size + 1 := e; omega)).trans ((heap_setCell_other _ ⟨W.heap.size + 1, 0, none⟩ y _ (fun e => by have e : y = W.heap.size + 1 := e; omega)).trans (heap_setCell_other _ ⟨W.heap.size, 1, none⟩ y _ (fun e => by have e : y = W.heap.size := e; omega)))
    have hI4 := HI3.out.keep fun y hy => far3 y (vb_lt HI3.out y hy).1
    have hE4 := HE3.out.keep fun y hy => far3 y (HE3.out.lt y hy).1
    exact bodyPost_ret (v := .agg #[.slice (some ⟨g7, 0, none⟩) L.length c7, .slice q3 (E.length + 1) c3]) (by simp [results, Try.results29, go_sem, D.1.1, D.2.1] <;> rfl) rfl ⟨_, _, rfl, hI4.zero, hE4.zero, ⟨NewOr.ints hI4 (by omega), NewOr.evs hE4 (by omega)⟩, gr4 (gr4 (gr4 HB3.out (Nat.le_refl _) _) (Nat.le_succ _) _) (Nat.le_succ _) _⟩
  · have hg : setL L i x = L := by unfold setL; exact if_neg hin
    rw [see_no hin, hg]
    have hni : ¬(0 ≤ i ∧ i < L.length) := hin
    have HE := hid2 he.zero
    have HI := hid2 hl.zero
    clear hg hin F1 hl he
    by_cases h0 : i < 0
    · have t0 : decide (i < 0) = true := by simp; omega
      go_enter Try.func29, Try.ntmps29
      go_wp2
      exact bodyPost_ret (v := .agg #[.slice q L.length c, .slice q' E.length c']) (by simp [results, Try.results29, go_sem, alloc_cell_if] <;> rfl) rfl ⟨_, _, rfl, HI.out.below (gr1 (gr1 (gr0 W) _) _), HE.out.below (gr1 (gr1 (gr0 W) _) _), ⟨NewOr.refl _ _, NewOr.refl _ _⟩, gr1 (gr1 (gr0 W) _) _⟩
    · have t0 : decide (i < 0) = false := by simp; omega
      have t1 : decide ((L.length : Int) ≤ i) = true := by simp; omega
      go_enter Try.func29, Try.ntmps29
      go_wp2
      exact bodyPost_ret (v := .agg #[.slice q L.length c, .slice q' E.length c']) (by simp [results, Try.results29, go_sem, alloc_cell_if] <;> rfl) rfl ⟨_, _, rfl, HI.out.below (gr1 (gr1 (gr0 W) _) _), HE.out.below (gr1 (gr1 (gr0 W) _) _), ⟨NewOr.refl _ _, NewOr.refl _ _⟩, gr1 (gr1 (gr0 W) _) _⟩
set_option maxRecDepth 100000 in
set_option maxHeartbeats 4000000 in
theorem ropen4_ {W : World} {vl ve : Value} {n0 n1 : Nat} {L : List Int} {E : List Ev} (hl : Ints n0 W vl L) (he : Evs n1 W ve E) (hL : L.length ≤ 1000) (hE : E.length ≤ 900000) :
    Calls Try.prog 33 #[.agg #[vl, ve]] W fun e W' => ∃ ve', e = .returned (.agg #[vl, ve']) ∧ Evs 0 W' ve' (E ++ reps L.length) ∧ NewOr W ve ve' ∧ Below W.heap.size W W' := by
  obtain ⟨q, c, rfl, _⟩ := hl.form
  obtain ⟨q', c', rfl⟩ := he.slice
  have hL0 : (0 : Int) ≤ L.length := by omega
  have hL1 : (L.length : Int) ≤ 1000 := by omega
  have hB : Below W.heap.size W ((W.alloc (.cells #[.slice q L.length c, .slice q' E.length c'] 47)).alloc (.cells #[.slice none 0 0, .slice none 0 0] 47)) := gr1 (gr1 (gr0 W) _) _
  have HB := hid2 hB
  have HE := hid2 (he.zero.below hB)
  have HEl := hid2 (fun y hy => (he.lt y hy).2)
  have HC := hid2 ((Cel2.new W (.slice q L.length c) (.slice q' E.length c') 47).below (gr1 (gr0 _) (.cells #[.slice none 0 0, .slice none 0 0] 47)))
  have hr := Cel2.new (W.alloc (.cells #[.slice q L.length c, .slice q' E.length c'] 47)) (.slice none 0 0) (.slice none 0 0) 47
  rw [World.size_alloc] at hr
  have HR := hid2 hr
  generalize hm : L.length = m at *
  clear hl he hB hr hm
  go_enter Try.func33, Try.ntmps33
  go_wp2
  go_loopg [3] m (fun gj i wr => ∃ (j : Nat) (v : Value), j + gj = m ∧ i = .int .i64 j ∧ Cel2 wr W.heap.size (.slice q m c) v ∧ Cel2 wr (W.heap.size + 1) (.slice none 0 0) (.slice none 0 0) ∧ Evs 0 wr v (E ++ reps j) ∧ (∀ y ∈ vb v, y ∈ vb (.slice q' E.length c') ∨ W.heap.size + 2 ≤ y) ∧ Below W.heap.size W wr)
  case atStart => exact ⟨0, _, Nat.zero_add _, rfl, HC.out, HR.out, by simpa [reps] using HE.out, fun y hy => .inl hy, HB.out⟩
  case round =>
    obtain ⟨j, v, hj, rfl, C1, R1, E1, N1, B1⟩ := hrel
    obtain ⟨qv, cv, hv⟩ := E1.slice
    subst hv
    have hlen : (E ++ reps j).length ≤ 1000000 := by simp [reps]; omega
    generalize hev : E ++ reps j = Ej at *
    have HEV := hid2 hev
    obtain ⟨⟨k0, k1⟩, ⟨k2, k3⟩⟩ := id C1
    have kz := C1.lt
    have C2 := hid2 C1
    have R2 := hid2 R1
    have E2 := hid2 E1
    have N2 := hid2 N1
    have B2 := hid2 B1
    have hj0 : (0 : Int) ≤ j := by omega
    have hj9 : (j : Int) ≤ 1000 := by omega
    clear hev C1 E1 N1 B1
    by_cases hlt : j < m
    · have t1 : decide ((j : Int) < m) = true := by simp; omega
      have t2 : decide (j < m) = true := by simp; omega
      have hj8 : (j : Int) < m := by omega
      clear R1
      go_wp2_with (first
        | (go_at_call 54; (with_reducible refine (radd_ E2.out hlen 3 0).mono ?_); rintro e w3 ⟨v', rfl, E3, hb3⟩; obtain ⟨q3, c3, rfl⟩ := E3.slice1; have hz3 := R2.out.lt; have HE3 := hid2 (E3.low (n1 := W.heap.size + 2) hz3); have HB3 := hid2 (gr2 B2.out hb3); have C3 := C2.out.below hb3; obtain ⟨⟨m0, m1⟩, ⟨m2, m3⟩⟩ := id C3; have mz := C3.lt; have HC3 := hid2 (C3.set1 (x := .slice q3 (Ej.length + 1) c3)); have HR3 := hid2 ((R2.out.below hb3).far (c := W.heap.size) (i := 1) (x := .slice q3 (Ej.length + 1) c3) (by omega)); clear C3 E3 hb3))
      go_roundg (m - (j + 1))
      case measure => omega
      case rel =>
        have hE4 := HE3.out.keep (W' := w3.setCell ⟨W.heap.size, 1, none⟩ (.slice q3 (Ej.length + 1) c3)) fun y hy => heap_setCell_other _ ⟨W.heap.size, 1, none⟩ y _ (fun e => by have := (HE3.out.lt y hy).1; have e : y = W.heap.size := e; omega)
        refine ⟨j + 1, _, by omega, by go_num, HC3.out, HR3.out, ?_, fun y hy => .inr (HE3.out.lt y hy).1, gr4 HB3.out (Nat.le_refl _) _⟩
        rw [show E ++ reps (j + 1) = (E ++ reps j) ++ [(3, 0)] by simp [reps, List.replicate_succ'], HEV.out]
        exact hE4.zero
    · have t1 : decide ((j : Int) < m) = false := by simp; omega
      have t2 : decide (j < m) = false := by simp; omega
      have hjm : j = m := by omega
      subst hjm
      obtain ⟨⟨k4, k5⟩, ⟨k6, k7⟩⟩ := id R1
      have kz2 := R1.lt
      clear R1
      go_wp2
      have D := (R2.out.set0 (x := .slice q j c)).set1 (x := .slice qv Ej.length cv)
      have hE4 := E2.out.keep (W' := (wr.setCell ⟨W.heap.size + 1, 0, none⟩ (.slice q j c)).setCell ⟨W.heap.size + 1, 1, none⟩ (.slice qv Ej.length cv)) fun y hy => by
        have hne : y ≠ W.heap.size + 1 := fun e => by
          rcases N2.out y hy with h | h
          · have := HEl.out y h; omega
          · omega
        exact (heap_setCell_other _ ⟨W.heap.size + 1, 1, none⟩ y _ hne).trans (heap_setCell_other _ ⟨W.heap.size + 1, 0, none⟩ y _ hne)
      exact bodyPost_ret (v := .agg #[.slice q j c, .slice qv Ej.length cv]) (by simp [results, Try.results33, go_sem, D.1.1, D.2.1] <;> rfl) rfl ⟨_, rfl, HEV.out ▸ hE4, fun y hy => (N2.out y hy).elim .inl (fun h => .inr (by omega)), gr4 (gr4 B2.out (Nat.le_succ _) _) (Nat.le_succ _) _⟩
set_option maxRecDepth 100000 in
set_option maxHeartbeats 4000000 in
theorem rnsame4_ {W : World} {n0 n1 : Nat} {v1 v2 : Value} {L : List Int} (h1 : Ints n0 W v1 L) (h2 : Ints n1 W v2 L) (hn : L.length ≤ 1000) :
    Calls Try.prog 34 #[v1, v2] W fun e W' => e = .returned (.bool true) ∧ Below W.heap.size W W' := by
  obtain ⟨q1, c1, rfl, F1⟩ := h1.form
  obtain ⟨q2, c2, rfl, F2⟩ := h2.form
  have HG := hid2 (show ∀ j, j < L.length → ∃ x, L[j]? = some x from fun j hj => ⟨L[j], by simp⟩)
  have H1 := hid2 F1
  have H2 := hid2 F2
  clear F1 F2 h1 h2
  generalize L.length = m at *
  have hm0 : (0 : Int) ≤ m := by omega
  have hm1 : (m : Int) ≤ 1000 := by omega
  go_enter Try.func34, Try.ntmps34
  go_wp2
  go_loopg [5] m (fun gj i wr => ∃ jj : Nat, jj + gj = m ∧ i = .int .i64 jj ∧ Below W.heap.size W wr)
  case atStart => exact ⟨0, Nat.zero_add _, rfl, gr0 _⟩
  case round =>
    obtain ⟨j, hj, rfl, HB⟩ := hrel
    have hj0 : (0 : Int) ≤ j := by omega
    have hj9 : (j : Int) ≤ 1000 := by omega
    have HB2 := hid2 HB
    by_cases hlt : j < m
    · have t1 : decide ((j : Int) < m) = true := by simp; omega
      have hj8 : (j : Int) < m := by omega
      obtain ⟨x, hx⟩ := HG.out j hlt
      obtain ⟨g1, rfl, _, _, z1, d1, _⟩ := H1.out j x hx
      obtain ⟨g2, rfl, _, _, z2, d2, _⟩ := H2.out j x hx
      have e1 := (HB.cell (p := ⟨g1, j, none⟩) z1).trans d1
      have e2 := (HB.cell (p := ⟨g2, j, none⟩) z2).trans d2
      have y1 := World.block_lt_of_cell? wr _ e1
      have y2 := World.block_lt_of_cell? wr _ e2
      clear HB hx d1 d2
      go_wp2_with (fail)
      refine wp_region_calm (by kernel_rfl) (by kernel_rfl) ?_
      (repeat (first | go_big_quiet_step (fail) | quiet_step (fail)))
      refine wpQuiet_nil ?_
      intro u
      go_wp2
      go_roundg (m - (j + 1))
      case measure => omega
      case rel => exact ⟨j + 1, by omega, by go_num, gr2 HB2.out u.below⟩
    · have t1 : decide ((j : Int) < m) = false := by simp; omega
      clear HB
      go_wp2
      go_ret
      exact ⟨rfl, HB2.out⟩
end Go.Proofs.Ytbdnnkokkgdhnaa
