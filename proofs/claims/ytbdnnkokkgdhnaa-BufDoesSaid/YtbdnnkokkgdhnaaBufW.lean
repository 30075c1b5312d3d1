/- Words that are copied: Clone, Of, Words; told: Open. -/
import Derived.Test.YtbdnnkokkgdhnaaKnown04
import Derived.Test.YtbdnnkokkgdhnaaApp
import Derived.OwnWalk
namespace Go.Proofs.Ytbdnnkokkgdhnaa
open Go.RowKit

/-- A row of secrets. -/
def Secs (n0 : Nat) (W : World) (v : Value) (L : List Int) : Prop := W.ownsRow n0 29 1 v L.length (L.map (Value.int .i64))
theorem Secs.low {n0 n1 : Nat} {W : World} {v : Value} {L : List Int} (h : Secs n0 W v L) (hn : n1 ≤ n0) : Secs n1 W v L := by
  refine ⟨h.1, ?_⟩
  rcases h.2 with hn | ⟨g, cap, cur, hv, h1, h2⟩
  · exact .inl hn
  · exact .inr ⟨g, cap, cur, hv, by omega, h2⟩
theorem Secs.keep {n0 : Nat} {W W' : World} {v : Value} {L : List Int} (h : Secs n0 W v L) (hk : ∀ x ∈ vb v, W'.heap[x]? = W.heap[x]?) : Secs n0 W' v L := own_at h fun g hg => hk g (by simp [vb, hg])
theorem Secs.below {n0 : Nat} {W W' : World} {v : Value} {L : List Int} (h : Secs n0 W v L) (hb : Below W.heap.size W W') : Secs n0 W' v L := h.keep fun x hx => hb.block x (vb_lt h x hx).2
theorem Secs.form {n0 : Nat} {W : World} {v : Value} {L : List Int} (h : Secs n0 W v L) : ∃ q c, v = .slice q L.length c ∧ ∀ (j : Nat) (x : Int), L[j]? = some x → ∃ g, q = some ⟨g, 0, none⟩ ∧ vb v = [g] ∧ n0 ≤ g ∧ g < W.heap.size ∧ W.cell? ⟨g, j, none⟩ = some (.int .i64 x) ∧ W.frozen? ⟨g, j, none⟩ = false := by
  have hr := h
  rcases h.2 with ⟨rfl, h0⟩ | ⟨g, cap, cur, rfl, hb, hh, _⟩
  · refine ⟨none, 0, by rw [h0], fun j x hj => ?_⟩
    have : j < L.length := (List.getElem?_eq_some_iff.1 hj).1
    omega
  · refine ⟨some ⟨g, 0, none⟩, cap, rfl, fun j x hj => ⟨g, rfl, rfl, hb, heap_lt hh, ?_, frozen_of_row _ _ _ _ _ hh⟩⟩
    have := World.ownsRow.cells hr (g := g) rfl j (.int .i64 x) (by simp [hj])
    rwa [show (⟨g, 0, none⟩ : Addr).add j = ⟨g, j, none⟩ by unfold Addr.add; split <;> simp_all] at this
theorem Bufc.secs {W : World} {b : Nat} {o : Option Nat} {v : Value} {L : List Int} (h : Bufc W b o v L) : Secs 0 W v L := h.row

set_option maxRecDepth 100000 in
set_option maxHeartbeats 4000000 in
theorem bclone_ {n0 : Nat} {W : World} {v : Value} {L : List Int} (h : Secs n0 W v L) (hL : L.length ≤ 1048576) :
    Calls Try.prog 53 #[v] W fun e W' => ∃ v', e = .returned v' ∧ Secs W.heap.size W' v' L ∧ Below W.heap.size W W' := by
  obtain ⟨i0, hi, hz0, hz1, hz2⟩ := info_parts info_sec
  rcases id h.2 with ⟨rfl, h0⟩ | ⟨g, cap, cur, rfl, hb, hh, _⟩
  · have hL0 : L = [] := List.eq_nil_of_length_eq_zero h0
    subst hL0
    have he : ∀ w, (binOp .eql 37 (.slice none 0 0) (.slice none 0 0)).run Try.prog w = .ok (.bool true) w := fun w => by kernel_rfl
    go_enter Try.func53, Try.ntmps53
    go_wp2
    go_ret
    exact ⟨_, rfl, World.ownsRow_nil _ _ _ _, gr0 _⟩
  · have HC := hid2 (fun j u hj => World.ownsRow.cells h (g := g) rfl j u hj)
    have hone : ∀ u ∈ L.map (Value.int .i64), u.oneCell' = true := fun u hu => by obtain ⟨x, _, rfl⟩ := List.mem_map.1 hu; rfl
    have hg := heap_lt hh
    have HR : Hid2 ((W.alloc (.cells #[] 29)).ownsRow W.heap.size 29 1 (.slice (some ⟨W.heap.size, 0, none⟩) 0 0) 0 []) := ⟨rfl, .inr ⟨_, 0, #[], rfl, Nat.le_refl _, heap_alloc_new _ _, Nat.le_refl _, Nat.zero_le _, rfl, rfl⟩⟩
    have hlen : (L.map (Value.int .i64)).length = L.length * 1 := by simp
    have hcell : ∀ (W' : World), Below W.heap.size W W' → ∀ j u, (L.map (Value.int .i64))[j]? = some u → W'.cell? ((⟨g, 0, none⟩ : Addr).add j) = some u := fun W' hb j u hj => by
      have h1 := HC.out j u hj
      rw [show (⟨g, 0, none⟩ : Addr).add j = ⟨g, j, none⟩ by unfold Addr.add; split <;> simp_all] at h1 ⊢
      exact (hb.cell (p := ⟨g, j, none⟩) hg).trans h1
    have HN := hid2 hcell
    have HLm := hid2 hlen
    unfold Secs
    clear h hh hcell hlen
    have he : ∀ n w, (binOp .eql 37 (.slice (some ⟨g, 0, none⟩) n cap) (.slice none 0 0)).run Try.prog w = .ok (.bool false) w := fun n w => by kernel_rfl
    generalize L.map (Value.int .i64) = ws at *
    generalize L.length = n at *
    go_enter Try.func53, Try.ntmps53
    by_cases hn0 : n = 0
    · subst hn0
      go_wp2_with (at_builtin; refine wpList_append_fits_any _ rfl _ _ 37 rfl W.heap.size 29 i0 1 Try.underlying37 hi hz1 W.heap.size 0 0 [] rfl HR.out (some ⟨g, 0, none⟩) 0 cap ws rfl HLm.out (fun h => nomatch h) (fun ad had => by cases had; exact HN.out _ (gr1 (gr0 W) _)) hone (Nat.le_refl _) ?_; intro w1 hown hgrow; have hb1 := gr5 (gr1 (gr0 W) (.cells #[] 29)) hgrow (fun k hk => by cases hk; exact Nat.le_refl _))
      go_ret
      exact ⟨_, rfl, hown, hb1⟩
    · go_wp2_with (at_builtin; refine wpList_append_lies _ rfl _ _ 37 rfl W.heap.size 29 i0 _ 1 8 Try.underlying37 hi hz0 hz1 hz2 rfl (by omega) _ 0 [] rfl HR.out ⟨g, 0, none⟩ n cap ws rfl HLm.out (HN.out _ (gr1 (gr0 W) _)) hone (by omega) (by unfold maxLen; omega) (by omega) (by simp) (W.heap.size + 1) (by simp) ?_; intro gg cap1 w1 hown hgrow hat hlt; have hb1 := gr5 (gr1 (gr0 W) (.cells #[] 29)) hgrow (fun k hk => by cases hk; exact Nat.le_refl _))
      go_ret
      exact ⟨_, rfl, by simpa using hown, hb1⟩
theorem bof_ (o : Option Nat) {n0 : Nat} {W : World} {v : Value} {L : List Int} (h : Secs n0 W v L) (hL : L.length ≤ 1048576) :
    Calls Try.prog 24 #[rp o, v] W fun e W' => ∃ b, e = .returned (.pointer (some ⟨b, 0, none⟩)) ∧ NewB W W' b o L := by
  have HS := hid2 h
  obtain ⟨q, c, rfl, _⟩ := h.form
  have t0 : decide ((1048576 : Int) < (L.length : Int)) = false := by simp; omega
  have hro : ∃ r, rp o = .pointer r := ⟨_, rfl⟩
  obtain ⟨r, hr⟩ := hro
  rw [hr]
  clear h
  go_enter Try.func24, Try.ntmps24
  go_wp2_with (go_at_call 53; refine (bclone_ HS.out hL).mono ?_; rintro e w1 ⟨v', rfl, hs1, hb1⟩; obtain ⟨q1, c1, hq1, _⟩ := hs1.form; subst hq1)
  go_ret
  have hlt := vb_lt hs1
  exact ⟨w1.heap.size, rfl, .slice q1 L.length c1, ⟨by rw [hr]; exact heap_alloc_new _ _, World.ownsRow.alloc (hs1.low (Nat.zero_le _)) _⟩, fun hx => by have := (hlt _ hx).2; omega, fun x hx => (hlt x hx).1, hb1.size, gr1 hb1 _⟩
theorem bwords_ {W : World} {b : Nat} {o : Option Nat} {v : Value} {L : List Int} (h : Bufc W b o v L) (hL : L.length ≤ 1048576) :
    Calls Try.prog 25 #[.pointer (some ⟨b, 0, none⟩)] W fun e W' => ∃ v', e = .returned v' ∧ Secs W.heap.size W' v' L ∧ Below W.heap.size W W' := by
  obtain ⟨l1, l2, l3⟩ := h.look
  have HS := hid2 h.secs
  obtain ⟨q, c, rfl, _⟩ := h.form
  clear h
  go_enter Try.func25, Try.ntmps25
  go_wp2_with (go_at_call 53; refine (bclone_ HS.out hL).mono ?_; rintro e w1 ⟨v', rfl, hs1, hb1⟩)
  go_ret
  exact ⟨v', rfl, hs1, hb1⟩
theorem bwords_none (W : World) :
    Calls Try.prog 25 #[.pointer none] W fun e W' => e = .returned (.slice none 0 0) ∧ Below W.heap.size W W' := by
  go_enter Try.func25, Try.ntmps25
  go_wp2
  go_ret
  exact ⟨rfl, gr0 _⟩
theorem B1.grown {w0 W W' : World} {b : Nat} {o : Option Nat} {E : List Ev} {L : List Int} {v : Value} {Y : List Nat} (k : B1 w0 W b o E L (vb v ++ Y)) (hg : W.grownBy W' v.ownBlock) (hlow : ∀ x ∈ vb v, w0.heap.size ≤ x) {g : Nat} (hat : v.ownBlock = some g ∨ W.heap.size ≤ g) (hlt : g < W'.heap.size) :
    B1 w0 W' b o E L (g :: Y) := by
  obtain ⟨fp, h1, t⟩ := k
  have hne : ∀ x ∈ fp, some x ≠ v.ownBlock := fun x hx e => (t.px x (by simp [vb, ← e])).1 hx
  have hX : ∀ x ∈ fp, x < W.heap.size := fun x hx => t.lt x (.inl hx)
  refine ⟨fp, h1.frame fun x hx => hg.block x (hX x hx) (hne x hx), ⟨t.low, t.disj, fun x hx => ?_, fun x hx => ?_, ?_⟩⟩
  · rcases List.mem_cons.1 hx with rfl | hx
    · refine ⟨fun hy => ?_, fun hy => nomatch hy⟩
      rcases hat with h | h
      · exact hne x hy h.symm
      · have := hX x hy; omega
    · exact t.px x (by simp [hx])
  · rcases hx with hx | hx | hx
    · exact Nat.lt_of_lt_of_le (hX x hx) hg.size
    · cases hx
    · rcases List.mem_cons.1 hx with rfl | hx
      · exact hlt
      · exact Nat.lt_of_lt_of_le (t.lt x (.inr (.inr (by simp [hx])))) hg.size
  · exact gr5 t.below hg fun x hx => hlow x (by simp [vb, hx])
theorem sopen_b {w0 W : World} {b : Nat} {o : Option Nat} {E : List Ev} {L : List Int} {X : List Nat} (k : B1 w0 W b o E L X) (hE : E.length ≤ 1000000) (a : Int) :
    Calls Try.prog 21 #[.agg #[.int .i64 a], rp o] W fun e W' => e = .returned (.int .i64 a) ∧ B1 w0 W' b o (addO o E [(3, 0)]) L X ∧ Kept X W W' := by
  obtain ⟨fp, ⟨fr, v, r, c1, rfl, d1, d2⟩, t⟩ := k
  refine (sopen_ro r hE a).mono ?_
  rintro e W' ⟨rfl, fr', r', m, f⟩
  exact ⟨rfl, (does_rec c1 d1 d2 r' m f).one t⟩
/-- A row of numbers. -/
def Ints (n0 : Nat) (W : World) (v : Value) (L : List Int) : Prop := W.ownsRow n0 3 1 v L.length (L.map (Value.int .i64))
theorem Kept.grown {Y : List Nat} {W W' : World} {row : Option Nat} (hg : W.grownBy W' row) (hY : ∀ y ∈ Y, y < W.heap.size ∧ some y ≠ row) : Kept Y W W' := ⟨fun y hy => hg.block y (hY y hy).1 (hY y hy).2, hg.size⟩

theorem own_form {w : World} {n0 : Nat} {e : TypeId} {v : Value} {n s : Nat} {xs : List Value} (h : w.ownsRow n0 e s v n xs) : ∃ p c, v = .slice p n c := by
  rcases h.2 with ⟨rfl, rfl⟩ | ⟨g, cap, cur, rfl, _⟩
  · exact ⟨none, 0, rfl⟩
  · exact ⟨_, _, rfl⟩
theorem own_low {w : World} {n0 n1 : Nat} {e : TypeId} {v : Value} {n s : Nat} {xs : List Value} (h : w.ownsRow n1 e s v n xs) (hn : n0 ≤ n1) : w.ownsRow n0 e s v n xs := by
  refine ⟨h.1, ?_⟩
  rcases h.2 with h | ⟨g, cap, cur, hv, h1, h2⟩
  · exact .inl h
  · exact .inr ⟨g, cap, cur, hv, by omega, h2⟩
theorem hrow_le {X : List Nat} {A B : World} (h : Kept X A B) : A.heap.size ≤ B.heap.size := h.2
theorem B1.drew {w0 W : World} {b : Nat} {o : Option Nat} {E : List Ev} {L : List Int} {X : List Nat} (k : B1 w0 W b o E L X) : B1 w0 W.drew b o E L X := by
  obtain ⟨fp, h1, t⟩ := k
  exact ⟨fp, h1.frame fun _ _ => rfl, ⟨t.low, t.disj, t.px, t.lt, ⟨t.below.os, t.below.tape, t.below.output, t.below.size, t.below.block⟩⟩⟩
set_option maxRecDepth 100000 in
set_option maxHeartbeats 4000000 in
theorem bopen_ {w0 W : World} {b : Nat} {o : Option Nat} {E : List Ev} {L : List Int} {X : List Nat} (k : B1 w0 W b o E L X) (hE : E.length + L.length ≤ 1000000) (hL : L.length ≤ 1048576) :
    Calls Try.prog 26 #[.pointer (some ⟨b, 0, none⟩)] W fun e W' => ∃ v', e = .returned v' ∧ Ints W.heap.size W' v' L ∧ B1 w0 W' b o (addO o E (reps L.length)) L (vb v' ++ X) ∧ Kept X W W' := by
  have hX := k.ltX
  obtain ⟨i0, hi, hz0, hz1, hz2⟩ := info_parts info_int
  obtain ⟨v0, B0⟩ := k.bufc
  obtain ⟨r, hr⟩ : ∃ r, rp o = .pointer r := ⟨_, rfl⟩
  go_enter Try.func26, Try.ntmps26
  go_wp2_with (go_at_call 25; refine (bwords_ B0 hL).mono ?_; rintro e w1 ⟨vw, rfl, hs1, hb1⟩; obtain ⟨q, c, hq, _⟩ := hs1.form; subst hq)
  generalize hn : L.length = n at *
  obtain ⟨n1, hn1⟩ : ∃ n, n = w1.heap.size := ⟨_, rfl⟩
  have hwv := vb_lt hs1
  have K1 : B1 w0 w1 b o (addO o E (reps 0)) L (vb (.slice none 0 0) ++ (vb (.slice q n c) ++ X)) := by
    show B1 w0 w1 b o (addO o E []) L (vb (.slice q n c) ++ X)
    rw [addO_nil]
    cases q with
    | none => exact (k.calm hb1).less fun x hx => by simpa [vb, Value.ownBlock] using hx
    | some a => exact (k.more hb1 a.block (hwv _ (by simp [vb, Value.ownBlock])).1 (hwv _ (by simp [vb, Value.ownBlock])).2).less fun x hx => by simpa [vb, Value.ownBlock] using hx
  have HN := hid2 hn
  have HY : Hid2 (∀ y ∈ vb (.slice q n c) ++ X, y < n1) := fun y hy => by
    rw [hn1]
    rcases List.mem_append.1 hy with h | h
    · exact (hwv y h).2
    · have := hX y h; have := hb1.size; omega
  have HW : Hid2 (W.heap.size ≤ n1 ∧ w0.heap.size ≤ n1) := ⟨by rw [hn1]; exact hb1.size, by rw [hn1]; have := hb1.size; have := k.below.size; omega⟩
  have HX := hid2 hX
  have HK1 := hid2 (Kept.calm hX hb1)
  have HS1 := hid2 (hs1.low (Nat.zero_le _))
  have hn7 : (n : Int) ≤ 1000000 := by omega
  have HNw := hid2 hn1
  clear hX hwv hb1 hs1 k B0 hn hn1
  go_loopg [4, 10] n (fun gj vo i wr => ∃ jj : Nat, jj + gj = n ∧ i = .int .i64 jj ∧ B1 w0 wr b o (addO o E (reps jj)) L (vb vo ++ (vb (.slice q n c) ++ X)) ∧ wr.ownsRow n1 3 1 vo jj ((L.take jj).map (Value.int .i64)) ∧ Kept (vb (.slice q n c) ++ X) w1 wr)
  case atStart => exact ⟨0, Nat.zero_add _, rfl, K1, World.ownsRow_nil _ _ _ _, Kept.refl _ _⟩
  case round =>
    clear K1
    obtain ⟨j, hj, rfl, HO, Hrow, HK⟩ := hrel
    have hj9 : (0 : Int) ≤ j := by omega
    have hj7 : (j : Int) ≤ 1000000 := by omega
    obtain ⟨p, cv, rfl⟩ := own_form Hrow
    by_cases hlt : j < n
    · have t1 : decide ((j : Int) < n) = true := by simp; omega
      have hj8 : (j : Int) < n := by omega
      have hjL : j < L.length := by rw [HN.out]; exact hlt
      obtain ⟨x, hx⟩ : ∃ x, L[j]? = some x := ⟨L[j], by simp⟩
      obtain ⟨q', c', hq', hf⟩ := HS1.out.form
      rw [HN.out] at hq'
      cases hq'
      obtain ⟨g, rfl, hvb, _, hg1, d1, _⟩ := hf j x hx
      have d2 := HK.cell (b := g) (o := j) (by simp [hvb]) d1
      have z2 := World.block_lt_of_cell? wr _ d2
      obtain ⟨_, _, l1, l2, _, _⟩ := HO.look
      rw [hr] at l2
      have K5 := HO.more (gr1 (gr0 wr) (.cells #[.int .i64 x] 29)) wr.heap.size (Nat.le_refl _) (by simp)
      have HO2 := hid2 HO
      have HK2 := hid2 HK
      have HR2 := hid2 Hrow
      have HK5 := hid2 K5.drew
      have hx1 : ((wr.alloc (.cells #[.int .i64 x] 29)).cell? ⟨wr.heap.size, 0, none⟩ = some (.int .i64 x)) := by simp [alloc_cell_if]
      have l3 := cellA (x := (.cells #[.int .i64 x] 29)) l2
      have hxt : (L.take (j + 1)).map (Value.int .i64) = (L.take j).map (Value.int .i64) ++ [.int .i64 x] := by
        rw [List.take_add_one, hx]; simp
      have HXT := hid2 hxt
      have hle : (addO o E (reps j)).length ≤ 1000000 := Nat.le_trans (addO_len _ _ _) (by rw [reps_len]; omega)
      clear HO HK Hrow K5 hf hvb d1 hxt hx
      go_wp2
      refine wp_region_noPanic ?_
      refine wp_region_held_rest 7 (fun w' => w'.cell? ⟨wr.heap.size, 0, none⟩ = some (.int .i64 x) ∧ w'.cell? ⟨b, 0, none⟩ = some (.pointer r)) (by kernel_rfl) (by kernel_rfl) ⟨hx1, l3⟩ (fun _ _ _ _ _ h => h) ?_
      simp only [List.take_succ_cons, List.take_zero, List.drop_succ_cons, List.drop_zero]
      repeat (refine still_cons (by rfl) (by (intro w' hC; obtain ⟨hC1, hC2⟩ := hC; go_simp; all_goals with_reducible rfl)) ?_; try simp only [Act.put, List.setIfInBounds_toArray, List.set_cons_zero, List.set_cons_succ])
      refine still_nil ?_
      refine rest_cons fun K hK => ?_
      go_simp
      go_at_call 21
      have hso := sopen_b HK5.out hle x
      rw [hr] at hso
      refine hso.mono ?_
      rintro e w5 ⟨rfl, K6, kx⟩
      have e1 := kx.cell (b := wr.heap.size) (o := 0) (by simp) hx1
      obtain ⟨_, _, m1, m2, _, _⟩ := K6.look
      rw [hr] at m2
      have hrow5 := own_at HR2.out (w' := w5) (fun y hy => (kx.1 y (by simp [vb, hy])).trans (heap_alloc_old wr _ (HR2.out.lt y hy).2))
      have hz5 : n1 ≤ w5.heap.size := by have h1 := kx.2; simp at h1; have := hrow_le HK2.out; have := HNw.out; omega
      refine hK.out _ _ (fun _ => ⟨e1, m2⟩) ?_
      refine rest_cons fun K hK => ?_
      go_simp
      refine hK.out _ _ (fun _ => ⟨cellA e1, cellA m2⟩) ?_
      refine rest_cons fun K hK => ?_
      refine step_append_lies _ (by rfl) _ _ 36 (by rfl) n1 3 i0 _ 1 8 Try.underlying36 hi hz0 hz1 hz2 rfl (by omega) _ j _ (by rfl) (World.ownsRow.alloc hrow5 _) ⟨w5.heap.size, 0, none⟩ 1 1 [.int .i64 x] (by rfl) (by rfl) (World.news_of_block (cs := #[.int .i64 x]) (heap_alloc_new w5 _)) (by simp [Value.oneCell']) (by omega) (by unfold maxLen; omega) (by omega) (by simp; omega) (w5.heap.size + 1) (by simp) ?_
      intro gg cap1 w6 hown6 hgrow6 hat6 hlt6
      have hvb5 := vb_lt (World.ownsRow.alloc hrow5 (.cells #[.int .i64 x] 3))
      have K7 := ((K6.calm (gr1 (gr0 w5) (.cells #[.int .i64 x] 3))).less (Y := vb (.slice p j cv) ++ (vb (.slice (some ⟨g, 0, none⟩) n c) ++ X)) (fun y hy => by simp only [List.mem_cons]; exact .inr hy)).grown hgrow6 (fun y hy => Nat.le_trans HW.out.2 (hvb5 y hy).1) (hat6.imp id (fun h => by simp; omega)) hlt6
      have hgg : n1 ≤ gg := by
        rcases hat6 with h | h
        · exact (hvb5 gg (by simp [vb, h])).1
        · omega
      have K8 := hid2 K7
      have hKY : Kept (vb (.slice (some ⟨g, 0, none⟩) n c) ++ X) w1 w6 := by
        have k1 := kx.less (Y := vb (.slice (some ⟨g, 0, none⟩) n c) ++ X) (fun y hy => by simp only [List.mem_cons, List.mem_append] at hy ⊢; exact .inr (.inr hy))
        refine HK2.out.trans ((Kept.trans (B := w5) ⟨fun y hy => (k1.1 y hy).trans (heap_alloc_old wr _ (Nat.lt_of_lt_of_le (HY.out y hy) (by have := hrow_le HK2.out; have := HNw.out; omega))), Nat.le_trans (by simp) k1.2⟩ ?_))
        exact (Kept.calm (fun y hy => Nat.lt_of_lt_of_le (HY.out y hy) hz5) (gr1 (gr0 w5) (.cells #[.int .i64 x] 3))).trans (Kept.grown hgrow6 fun y hy => ⟨by have := HY.out y hy; simp; omega, fun e => by have := HY.out y hy; have := (hvb5 y (by simp [vb, ← e])).1; omega⟩)
      have HKY := hid2 hKY
      have HOW := hid2 hown6
      have q1 : w6.cell? ⟨wr.heap.size, 0, none⟩ = some (.int .i64 x) := (World.cell?_of_block (a := ⟨wr.heap.size, 0, none⟩) (hgrow6.block wr.heap.size (by have h1 := kx.2; simp at h1 ⊢; omega) (fun e => absurd (HR2.out.lt _ e.symm).2 (Nat.lt_irrefl _)))).trans (cellA e1)
      obtain ⟨_, _, _, q2, _, _⟩ := K7.look
      rw [hr] at q2
      clear K6 K7 kx hKY hown6 hgrow6 hat6 hrow5 m1 m2 e1 hvb5
      refine hK.out _ _ (fun _ => ⟨q1, q2⟩) ?_
      refine rest_cons fun K hK => ?_
      go_simp
      refine hK.out _ _ (fun h => absurd rfl h) (rest_nil (NoPanic.normal ?_))
      go_wp2
      go_roundg (n - (j + 1))
      case measure => omega
      case rel => exact ⟨j + 1, by omega, by go_num, by rw [reps_succ, ← addO_add]; exact K8.out, by rw [HXT.out]; exact HOW.out, HKY.out⟩
    · have t1 : decide ((j : Int) < n) = false := by simp; omega
      have hjn : j = n := by omega
      subst hjn
      have hT : L.take j = L := List.take_of_length_le (by rw [HN.out]; exact Nat.le_refl _)
      rw [hT] at Hrow
      have HO2 := hid2 HO
      have HK2 := hid2 HK
      have HR2 := hid2 Hrow
      clear HO HK Hrow hT
      go_wp2
      go_ret
      exact ⟨_, rfl, by show World.ownsRow _ _ _ _ _ L.length _; rw [HN.out]; exact own_low HR2.out HW.out.1, by rw [HN.out]; exact HO2.out.less (fun y hy => by simp only [List.mem_append] at hy ⊢; rcases hy with h | h; exact .inl h; exact .inr (.inr h)), HK1.out.trans (HK2.out.less fun y hy => by simp [hy])⟩
end Go.Proofs.Ytbdnnkokkgdhnaa
