/- BufDoes: the walk: it returns true. -/
import Derived.Test.YtbdnnkokkgdhnaaRef4
import Derived.Test.YtbdnnkokkgdhnaaHid
import Derived.Test.YtbdnnkokkgdhnaaOf4
import Derived.Test.YtbdnnkokkgdhnaaSched
namespace Go.Proofs.Ytbdnnkokkgdhnaa
open Go.RowKit

/-- Deeds that came in: is it a setting, of which place, what. -/
def Dds (v : Value) (m : Nat) (fs : Nat → Bool) (is ns : Nat → Int) (w : World) : Prop := (∀ i, i < m → I64 (is i) ∧ I64 (ns i)) ∧ ∃ q c, v = .slice q m c ∧ ∀ i, i < m → ∃ cb co, q = some ⟨cb, co, none⟩ ∧ cb < w.heap.size ∧ w.cell? ⟨cb, co + i * 3, none⟩ = some (.bool (fs i)) ∧ w.cell? ⟨cb, co + i * 3 + 1, none⟩ = some (.int .i64 (is i)) ∧ w.cell? ⟨cb, co + i * 3 + 2, none⟩ = some (.int .i64 (ns i))
theorem B1.cover {w0 W W' : World} {b : Nat} {o : Option Nat} {E : List Ev} {L : List Int} {X : List Nat} (k : B1 w0 W b o E L X) (hb : Below W.heap.size W W') (Y : List Nat) (hY : ∀ y ∈ Y, y ∈ X ∨ (W.heap.size ≤ y ∧ y < W'.heap.size)) : B1 w0 W' b o E L Y := by
  obtain ⟨fp, h1, t⟩ := k
  refine ⟨fp, h1.below hb, ⟨t.low, t.disj, fun y hy => ⟨fun hf => ?_, fun h => nomatch h⟩, fun y hy => ?_, gr2 t.below hb⟩⟩
  · rcases hY y hy with h | h
    · exact (t.px y h).1 hf
    · have := t.lt y (.inl hf); omega
  · rcases hy with h | h | h
    · exact Nat.lt_of_lt_of_le (t.lt y (.inl h)) hb.size
    · cases h
    · rcases hY y h with h | h
      · exact Nat.lt_of_lt_of_le (t.lt y (.inr (.inr h))) hb.size
      · exact h.2
theorem tmod_I64 {a b : Int} (ha : I64 a) (hb : 0 < b ∧ b ≤ 1000) : I64 (Int.tmod a b) := by
  unfold I64 at *
  by_cases h : a < 0
  · have h1 : Int.tmod a b = -(Int.tmod (-a) b) := by rw [Int.neg_tmod]; omega
    have h2 := Int.tmod_lt_of_pos (-a) hb.1
    have h3 := Int.tmod_nonneg b (show 0 ≤ -a by omega)
    omega
  · have h2 := Int.tmod_lt_of_pos a hb.1
    have h3 := Int.tmod_nonneg b (show 0 ≤ a by omega)
    omega

set_option maxRecDepth 100000 in
set_option maxHeartbeats 4000000 in
theorem walk_BufDoes (vl : Value) (n : Nat) (f1 : Nat → Int) (vd : Value) (m : Nat) (fs : Nat → Bool) (is ns : Nat → Int) (w : World) (Hl : Nums .i64 vl n f1 w) (hl : n ≤ 9223372036854775807) (Hd : Dds vd m fs is ns w) (hm : m ≤ 9223372036854775807) :
    Calls Try.prog 6 #[vl, vd] w fun e w' => e = .returned (.bool true) ∧ Below w.heap.size w w' := by
  have HC := hid2 Hl
  obtain ⟨ql0, cl0, rfl⟩ := Hl.form
  obtain ⟨hDI, qd, cd, rfl, hDC⟩ := Hd
  have HDC := hid2 hDC
  have HDI := hid2 hDI
  have hn0 : (0 : Int) ≤ n := by omega
  have hm0 : (0 : Int) ≤ m := by omega
  have hnm : (n : Int) ≤ 9223372036854775807 := by omega
  have hmm : (m : Int) ≤ 9223372036854775807 := by omega
  clear Hl hDC hDI
  by_cases hle : n ≤ 40 ∧ m ≤ 60
  · have t1 : decide ((40 : Int) < (n : Int)) = false := by simp; omega
    have t2 : decide ((60 : Int) < (m : Int)) = false := by simp; omega
    have hn1 : (n : Int) ≤ 40 := by omega
    have hm1 : (m : Int) ≤ 60 := by omega
    have HN := hid2 (lst_len f1 n)
    clear hle
    go_enter Try.func6, Try.ntmps6
    go_wp2_with (first
      | (go_at_call 15; (with_reducible refine (known04 w).mono ?_); rintro e w0 ⟨rfl, hb0⟩; have HC0 := hid2 (HC.out.below hb0); have HB0 := hid2 hb0; clear hb0)
      | (go_at_call 28; (with_reducible refine (of4_ HC0.out (by omega)).mono ?_); rintro e w1 ⟨b, g, vm, rfl, K1, I1⟩; obtain ⟨pm, cm, hpm⟩ := own_form I1; rw [HN.out] at hpm; subst hpm; have HK1 := hid2 (((K1.down HB0.out).more (gr1 (gr0 w1) (.cells #[.slice pm n cm, .slice none 0 0] 47)) w1.heap.size (Nat.le_refl _) (by simp)).cover (gr0 _) (w1.heap.size :: (vb (.slice pm n cm) ++ vb (.slice none 0 0))) (fun y hy => .inl (by simpa [vb, Value.ownBlock] using hy))); have HI1 := hid2 (Ints.zero I1 |>.below (gr1 (gr0 w1) (.cells #[.slice pm n cm, .slice none 0 0] 47))); have HT1 := hid2 (Cel2.new w1 (.slice pm n cm) (.slice none 0 0) 47); have HV1 := hid2 (fun y hy => (vb_lt I1 y hy).2); have hw1 := K1.below.size; have hw0 := HB0.out.size; clear K1 I1))
    go_loopg [7] m (fun gj i wr => ∃ (j : Nat) (L : List Int) (E : List Ev) (vl ve : Value), (j + gj = m ∧ L.length = n ∧ E.length ≤ j) ∧ i = .int .i64 j ∧ B1 w wr b (some g) E L (w1.heap.size :: (vb vl ++ vb ve)) ∧ Ints 0 wr vl L ∧ Evs 0 wr ve E ∧ Cel2 wr w1.heap.size vl ve ∧ (∀ y ∈ vb vl ++ vb ve, y ≠ w1.heap.size))
    case atStart => exact ⟨0, _, [], _, _, ⟨Nat.zero_add _, HN.out, Nat.le_refl _⟩, rfl, HK1.out, HI1.out, World.ownsRow_nil _ _ _ _, HT1.out, fun y hy => by have h := HV1.out y (by simpa [vb, Value.ownBlock] using hy); omega⟩
    case round =>
      clear HI1 HT1
      obtain ⟨j, L, Ej, vl, ve, ⟨hj, hL, hEj⟩, rfl, Kj, Ij, Ejj, Tj, Nj⟩ := hrel
      obtain ⟨ql, cl', hvl⟩ := own_form Ij
      rw [hL] at hvl
      subst hvl
      obtain ⟨qe, ce, hve⟩ := Ejj.slice
      subst hve
      have HK := hid2 Kj
      have HI := hid2 Ij
      have HE := hid2 Ejj
      have HT := hid2 Tj
      have HLn := hid2 hL
      have HNS := hid2 Nj
      have hj9 : (0 : Int) ≤ j := by omega
      have hj7 : (j : Int) ≤ 60 := by omega
      clear Kj Ij Ejj Nj
      by_cases hlt : j < m
      · have t3 : decide ((j : Int) < m) = true := by simp; omega
        have hj8 : (j : Int) < m := by omega
        obtain ⟨cb, co, rfl, hz, b1, b2, b3⟩ := HDC.out j hlt
        obtain ⟨hiI, hnI⟩ := HDI.out j hlt
        generalize hkf : fs j = kf at b1
        generalize hki : is j = ki at b2 hiI
        generalize hkn : ns j = kn at b3 hnI
        have HD3 := hid2 (fun (W : World) (k : Below w.heap.size w W) => (show W.cell? ⟨cb, co + j * 3, none⟩ = some (.bool kf) ∧ W.cell? ⟨cb, co + j * 3 + 1, none⟩ = some (.int .i64 ki) ∧ W.cell? ⟨cb, co + j * 3 + 2, none⟩ = some (.int .i64 kn) from ⟨(k.cell (p := ⟨cb, co + j * 3, none⟩) hz).trans b1, (k.cell (p := ⟨cb, co + j * 3 + 1, none⟩) hz).trans b2, (k.cell (p := ⟨cb, co + j * 3 + 2, none⟩) hz).trans b3⟩))
        obtain ⟨d1, d2, d3⟩ := HD3.out wr HK.out.below
        have d4 := World.block_lt_of_cell? wr _ d1
        obtain ⟨q4, hq4⟩ : ∃ q, q = Int.tmod kn 4 := ⟨_, rfl⟩
        obtain ⟨kr, hkr⟩ : ∃ q, q = Int.tmod ki ((n : Int) + 1) := ⟨_, rfl⟩
        have hkrI : I64 kr := by rw [hkr]; exact tmod_I64 hiI (by omega)
        have e1 : ∀ c : Int, c = 4 → Int.tmod kn c = q4 := by rintro c rfl; exact hq4.symm
        have e2 : ∀ c : Int, c = (n : Int) + 1 → Int.tmod ki c = kr := by rintro c rfl; exact hkr.symm
        have HII := hid2 hiI
        have HNI := hid2 hnI
        have HRI := hid2 hkrI
        unfold I64 at hiI hnI hkrI
        obtain ⟨i1, i2⟩ := hiI
        obtain ⟨i3, i4⟩ := hnI
        obtain ⟨i5, i6⟩ := hkrI
        obtain ⟨⟨k0, k1⟩, ⟨k2, k3⟩⟩ := Tj
        have kz := HT.out.lt
        clear hkf hki hkn b1 b2 b3 hz hq4 hkr hL
        by_cases hq : q4 = 0
        · have g1 : (q4 != 0) = false := by simp [hq]
          have g2 : (q4 == 0) = true := by simp [hq]
          clear hq
          cases kf with
          | true =>
            go_wp2_with (first
              | (go_at_call 19; (with_reducible refine (sec_of kn wr).mono ?_); rintro e w2 ⟨rfl, hb2⟩; have HK2 := hid2 (HK.out.calm hb2); have HI2 := hid2 (HI.out.below hb2); have HE2 := hid2 (HE.out.below hb2); have HT2 := hid2 (HT.out.below hb2); clear hb2)
              | (go_at_call 18; (refine (bset_ HK2.out (by omega) (by rw [HLn.out]; omega) ki kn).mono ?_); rintro e w3 ⟨rfl, k3, kx3⟩; have HK3 := hid2 (show B1 w w3 b (some g) (seeL (some 0) Ej L ki) (setL L ki kn) (w1.heap.size :: (vb (.slice ql n cl') ++ vb (.slice qe Ej.length ce))) from k3); have HI3 := hid2 (HI2.out.keep fun y hy => kx3.blk y (by simp [hy])); have HE3 := hid2 (HE2.out.keep fun y hy => kx3.blk y (by simp [hy])); have HT3 := hid2 (show Cel2 w3 w1.heap.size (.slice ql n cl') (.slice qe Ej.length ce) from ⟨⟨kx3.cell (by simp) HT2.out.1.1, kx3.free (by simp) HT2.out.1.2⟩, ⟨kx3.cell (by simp) HT2.out.2.1, kx3.free (by simp) HT2.out.2.2⟩⟩); obtain ⟨⟨c0, _⟩, ⟨c1, _⟩⟩ := HT3.out; have cz := HT3.out.lt; obtain ⟨a2, a3, a4⟩ := HD3.out w3 k3.below; have a5 := World.block_lt_of_cell? w3 _ a2; clear k3 kx3))
            refine wp_region_calm_tail 7 (by kernel_rfl) (by kernel_rfl) ?_
            simp only [List.take_succ_cons, List.take_zero, List.drop_succ_cons, List.drop_zero]
            (repeat (first | go_big_quiet_step (fail) | quiet_step (fail)))
            refine wpQuiet_nil ?_
            intro u
            have HK4 := hid2 (HK3.out.calm u.below)
            have HI4 := hid2 (HI3.out.below u.below)
            have HE4 := hid2 (HE3.out.below u.below)
            have HT4 := hid2 (HT3.out.below u.below)
            generalize u.at_ = w4 at *
            clear c0 c1 cz a2 a3 a4 a5 d1 d2 d3 k0 k1 k2 k3
            go_wp2_with (first
              | (go_at_call 29; (with_reducible refine (rset_ HI4.out HE4.out (by rw [HLn.out]; omega) (by omega) ki kn HII.out).mono ?_); rintro e w5 ⟨vl5, ve5, rfl, I5, E5, ⟨NI5, NE5⟩, hb5⟩; obtain ⟨q5, c5, hq5⟩ := own_form I5; rw [setL_len, HLn.out] at hq5; subst hq5; obtain ⟨E6, hE6⟩ : ∃ E6, E6 = seeL (some 0) Ej L ki := ⟨_, rfl⟩; rw [← hE6] at E5 HK4; have HE6 := hid2 hE6; obtain ⟨q6, c6, rfl⟩ := E5.slice; have HI5 := hid2 I5; have HE5 := hid2 E5; have HNI5 := hid2 NI5; have HNE5 := hid2 NE5; have HB5 := hid2 hb5; have C5 := HT4.out.below hb5; obtain ⟨⟨m0, m1⟩, ⟨m2, m3⟩⟩ := id C5; have mz := C5.lt; have HT5 := hid2 ((C5.set0 (x := .slice q5 n c5)).set1 (x := .slice q6 E6.length c6)); clear C5 I5 E5 NI5 NE5 hb5 hE6))
            go_roundg (m - (j + 1))
            case measure => omega
            case rel =>
              have hs4 := HT4.out.lt
              have hfi : ∀ y ∈ vb (.slice q5 n c5), y ≠ w1.heap.size := fun y hy => (HNI5.out y hy).elim (fun h => HNS.out y (by simp [h])) (fun h => by omega)
              have hfe : ∀ y ∈ vb (.slice q6 E6.length c6), y ≠ w1.heap.size := fun y hy => (HNE5.out y hy).elim (fun h => HNS.out y (by simp [h])) (fun h => by omega)
              have far : ∀ y, y ≠ w1.heap.size → ((w5.setCell ⟨w1.heap.size, 0, none⟩ (.slice q5 n c5)).setCell ⟨w1.heap.size, 1, none⟩ (.slice q6 E6.length c6)).heap[y]? = w5.heap[y]? := fun y hne => (heap_setCell_other _ ⟨w1.heap.size, 1, none⟩ y _ hne).trans (heap_setCell_other _ ⟨w1.heap.size, 0, none⟩ y _ hne)
              have hc := HK4.out.cover HB5.out (w1.heap.size :: (vb (.slice q5 n c5) ++ vb (.slice q6 E6.length c6))) (fun y hy => by
                rcases List.mem_cons.1 hy with h | h
                · exact .inl (by simp [h])
                · rcases List.mem_append.1 h with h | h
                  · exact (HNI5.out y h).elim (fun h2 => .inl (by simp [h2])) (fun h2 => .inr ⟨h2, (vb_lt HI5.out y h).2⟩)
                  · exact (HNE5.out y h).elim (fun h2 => .inl (by simp [h2])) (fun h2 => .inr ⟨h2, (HE5.out.lt y h).2⟩))
              refine ⟨j + 1, _, E6, _, _, ⟨by omega, by rw [setL_len, HLn.out], by rw [HE6.out]; have := seeL_len (some 0) Ej L ki; omega⟩, by go_num, ((hc.set (x := w1.heap.size) (i := 0) (by simp) (by omega) (.slice q5 n c5)).set (x := w1.heap.size) (i := 1) (by simp) (by omega) (.slice q6 E6.length c6)), HI5.out.keep (fun y hy => far y (hfi y hy)), HE5.out.keep (fun y hy => far y (hfe y hy)), HT5.out, fun y hy => ?_⟩
              rcases List.mem_append.1 hy with h | h
              · exact hfi y h
              · exact hfe y h
          | false =>
            go_wp2_with (first
              | (go_at_call 20; (refine (bget_ HK.out (by omega) (by rw [HLn.out]; omega) ki).mono ?_); rintro e w2 ⟨rfl, k2, kx2⟩; obtain ⟨xx, hxx⟩ : ∃ xx, xx = getL L ki := ⟨_, rfl⟩; rw [← hxx]; have HXX := hid2 hxx; have HK2 := hid2 ((show B1 w w2 b (some g) (seeL (some 0) Ej L ki) L (w1.heap.size :: (vb (.slice ql n cl') ++ vb (.slice qe Ej.length ce))) from k2).calm (gr1 (gr0 w2) (.cells #[.int .i64 xx] 29))); have HI2 := hid2 ((HI.out.keep fun y hy => kx2.blk y (by simp [hy])).below (gr1 (gr0 w2) (.cells #[.int .i64 xx] 29))); have HE2 := hid2 ((HE.out.keep fun y hy => kx2.blk y (by simp [hy])).below (gr1 (gr0 w2) (.cells #[.int .i64 xx] 29))); have hT2 : Cel2 w2 w1.heap.size (.slice ql n cl') (.slice qe Ej.length ce) := ⟨⟨kx2.cell (by simp) HT.out.1.1, kx2.free (by simp) HT.out.1.2⟩, ⟨kx2.cell (by simp) HT.out.2.1, kx2.free (by simp) HT.out.2.2⟩⟩; obtain ⟨⟨c0, _⟩, ⟨c1, _⟩⟩ := id hT2; have cz := hT2.lt; have HT2 := hid2 (hT2.below (gr1 (gr0 w2) (.cells #[.int .i64 xx] 29))); have HS2 := hid2 (show Cel (w2.alloc (.cells #[.int .i64 xx] 29)) w2.heap.size 0 (.int .i64 xx) from ⟨by simp [alloc_cell_if], by simp [alloc_frozen_if]⟩); clear k2 kx2 hxx hT2)
              | (go_at_call 30; (with_reducible refine (rget_ HI2.out HE2.out (by rw [HLn.out]; omega) (by omega) ki HII.out).mono ?_); rintro e w3 ⟨v3, rfl, E3, N3, hb3⟩; rw [← HXX.out]; obtain ⟨E6, hE6⟩ : ∃ E6, E6 = seeL (some 0) Ej L ki := ⟨_, rfl⟩; rw [← hE6] at E3 HK2; have HE6 := hid2 hE6; obtain ⟨q3, c3, rfl⟩ := E3.slice; have HI3 := hid2 (HI2.out.below hb3); have HE3 := hid2 E3; have HN3 := hid2 N3; have HB3 := hid2 hb3; have C3 := HT2.out.below hb3; obtain ⟨⟨m0, m1⟩, ⟨m2, m3⟩⟩ := id C3; have mz := C3.lt; have HT3 := hid2 ((C3.set0 (x := .slice ql n cl')).set1 (x := .slice q3 E6.length c3)); have s3 := (HS2.out.below hb3).1; have sz := World.block_lt_of_cell? w3 _ s3; have sne : ¬ (w2.heap.size = w1.heap.size) := (by omega); have sne2 : ¬ (w1.heap.size = w2.heap.size) := (by omega); clear C3 E3 N3 hb3 hE6 c0 c1 d1 d2 d3 k0 k1 k2 k3)
              | (go_at_call 21; (with_reducible refine (sopen_none xx _).mono ?_); rintro e w5 ⟨rfl, hb5⟩; have HB5 := hid2 hb5; clear hb5))
            go_roundg (m - (j + 1))
            case measure => omega
            case rel =>
              have hs3 := HT2.out.lt
              have hfe : ∀ y ∈ vb (.slice q3 E6.length c3), y ≠ w1.heap.size := fun y hy => (HN3.out y hy).elim (fun h => HNS.out y (by simp [h])) (fun h => by omega)
              have hfi : ∀ y ∈ vb (.slice ql n cl'), y ≠ w1.heap.size := fun y hy => HNS.out y (by simp [hy])
              have far : ∀ y, y ≠ w1.heap.size → ((w3.setCell ⟨w1.heap.size, 0, none⟩ (.slice ql n cl')).setCell ⟨w1.heap.size, 1, none⟩ (.slice q3 E6.length c3)).heap[y]? = w3.heap[y]? := fun y hne => (heap_setCell_other _ ⟨w1.heap.size, 1, none⟩ y _ hne).trans (heap_setCell_other _ ⟨w1.heap.size, 0, none⟩ y _ hne)
              have hc := HK2.out.cover HB3.out (w1.heap.size :: (vb (.slice ql n cl') ++ vb (.slice q3 E6.length c3))) (fun y hy => by
                rcases List.mem_cons.1 hy with h | h
                · exact .inl (by simp [h])
                · rcases List.mem_append.1 h with h | h
                  · exact .inl (by simp [h])
                  · exact (HN3.out y h).elim (fun h2 => .inl (by simp [h2])) (fun h2 => .inr ⟨h2, (HE3.out.lt y h).2⟩))
              have hc2 := (((hc.set (x := w1.heap.size) (i := 0) (by simp) (by omega) (.slice ql n cl')).set (x := w1.heap.size) (i := 1) (by simp) (by omega) (.slice q3 E6.length c3)).calm (gr1 (gr0 _) (.cells #[.slice ql n cl', .slice q3 E6.length c3] 47))).calm HB5.out
              refine ⟨j + 1, _, E6, _, _, ⟨by omega, HLn.out, by rw [HE6.out]; have := seeL_len (some 0) Ej L ki; omega⟩, by go_num, hc2, ((HI3.out.keep (fun y hy => far y (hfi y hy))).below (gr1 (gr0 _) (.cells #[.slice ql n cl', .slice q3 E6.length c3] 47))).below HB5.out, ((HE3.out.keep (fun y hy => far y (hfe y hy))).below (gr1 (gr0 _) (.cells #[.slice ql n cl', .slice q3 E6.length c3] 47))).below HB5.out, (HT3.out.below (gr1 (gr0 _) (.cells #[.slice ql n cl', .slice q3 E6.length c3] 47))).below HB5.out, fun y hy => ?_⟩
              rcases List.mem_append.1 hy with h | h
              · exact hfi y h
              · exact hfe y h
        · have g1 : (q4 != 0) = true := by simp [hq]
          have g2 : (q4 == 0) = false := by simp [hq]
          clear hq
          cases kf with
          | true =>
            go_wp2_with (first
              | (go_at_call 19; (with_reducible refine (sec_of kn wr).mono ?_); rintro e w2 ⟨rfl, hb2⟩; have HK2 := hid2 (HK.out.calm hb2); have HI2 := hid2 (HI.out.below hb2); have HE2 := hid2 (HE.out.below hb2); have HT2 := hid2 (HT.out.below hb2); clear hb2)
              | (go_at_call 18; (refine (bset_ HK2.out (by omega) (by rw [HLn.out]; omega) kr kn).mono ?_); rintro e w3 ⟨rfl, k3, kx3⟩; have HK3 := hid2 (show B1 w w3 b (some g) (seeL (some 0) Ej L kr) (setL L kr kn) (w1.heap.size :: (vb (.slice ql n cl') ++ vb (.slice qe Ej.length ce))) from k3); have HI3 := hid2 (HI2.out.keep fun y hy => kx3.blk y (by simp [hy])); have HE3 := hid2 (HE2.out.keep fun y hy => kx3.blk y (by simp [hy])); have HT3 := hid2 (show Cel2 w3 w1.heap.size (.slice ql n cl') (.slice qe Ej.length ce) from ⟨⟨kx3.cell (by simp) HT2.out.1.1, kx3.free (by simp) HT2.out.1.2⟩, ⟨kx3.cell (by simp) HT2.out.2.1, kx3.free (by simp) HT2.out.2.2⟩⟩); obtain ⟨⟨c0, _⟩, ⟨c1, _⟩⟩ := HT3.out; have cz := HT3.out.lt; obtain ⟨a2, a3, a4⟩ := HD3.out w3 k3.below; have a5 := World.block_lt_of_cell? w3 _ a2; clear k3 kx3))
            refine wp_region_calm_tail 7 (by kernel_rfl) (by kernel_rfl) ?_
            simp only [List.take_succ_cons, List.take_zero, List.drop_succ_cons, List.drop_zero]
            (repeat (first | go_big_quiet_step (fail) | quiet_step (fail)))
            refine wpQuiet_nil ?_
            intro u
            have HK4 := hid2 (HK3.out.calm u.below)
            have HI4 := hid2 (HI3.out.below u.below)
            have HE4 := hid2 (HE3.out.below u.below)
            have HT4 := hid2 (HT3.out.below u.below)
            generalize u.at_ = w4 at *
            clear c0 c1 cz a2 a3 a4 a5 d1 d2 d3 k0 k1 k2 k3
            go_wp2_with (first
              | (go_at_call 29; (with_reducible refine (rset_ HI4.out HE4.out (by rw [HLn.out]; omega) (by omega) kr kn HRI.out).mono ?_); rintro e w5 ⟨vl5, ve5, rfl, I5, E5, ⟨NI5, NE5⟩, hb5⟩; obtain ⟨q5, c5, hq5⟩ := own_form I5; rw [setL_len, HLn.out] at hq5; subst hq5; obtain ⟨E6, hE6⟩ : ∃ E6, E6 = seeL (some 0) Ej L kr := ⟨_, rfl⟩; rw [← hE6] at E5 HK4; have HE6 := hid2 hE6; obtain ⟨q6, c6, rfl⟩ := E5.slice; have HI5 := hid2 I5; have HE5 := hid2 E5; have HNI5 := hid2 NI5; have HNE5 := hid2 NE5; have HB5 := hid2 hb5; have C5 := HT4.out.below hb5; obtain ⟨⟨m0, m1⟩, ⟨m2, m3⟩⟩ := id C5; have mz := C5.lt; have HT5 := hid2 ((C5.set0 (x := .slice q5 n c5)).set1 (x := .slice q6 E6.length c6)); clear C5 I5 E5 NI5 NE5 hb5 hE6))
            go_roundg (m - (j + 1))
            case measure => omega
            case rel =>
              have hs4 := HT4.out.lt
              have hfi : ∀ y ∈ vb (.slice q5 n c5), y ≠ w1.heap.size := fun y hy => (HNI5.out y hy).elim (fun h => HNS.out y (by simp [h])) (fun h => by omega)
              have hfe : ∀ y ∈ vb (.slice q6 E6.length c6), y ≠ w1.heap.size := fun y hy => (HNE5.out y hy).elim (fun h => HNS.out y (by simp [h])) (fun h => by omega)
              have far : ∀ y, y ≠ w1.heap.size → ((w5.setCell ⟨w1.heap.size, 0, none⟩ (.slice q5 n c5)).setCell ⟨w1.heap.size, 1, none⟩ (.slice q6 E6.length c6)).heap[y]? = w5.heap[y]? := fun y hne => (heap_setCell_other _ ⟨w1.heap.size, 1, none⟩ y _ hne).trans (heap_setCell_other _ ⟨w1.heap.size, 0, none⟩ y _ hne)
              have hc := HK4.out.cover HB5.out (w1.heap.size :: (vb (.slice q5 n c5) ++ vb (.slice q6 E6.length c6))) (fun y hy => by
                rcases List.mem_cons.1 hy with h | h
                · exact .inl (by simp [h])
                · rcases List.mem_append.1 h with h | h
                  · exact (HNI5.out y h).elim (fun h2 => .inl (by simp [h2])) (fun h2 => .inr ⟨h2, (vb_lt HI5.out y h).2⟩)
                  · exact (HNE5.out y h).elim (fun h2 => .inl (by simp [h2])) (fun h2 => .inr ⟨h2, (HE5.out.lt y h).2⟩))
              refine ⟨j + 1, _, E6, _, _, ⟨by omega, by rw [setL_len, HLn.out], by rw [HE6.out]; have := seeL_len (some 0) Ej L kr; omega⟩, by go_num, ((hc.set (x := w1.heap.size) (i := 0) (by simp) (by omega) (.slice q5 n c5)).set (x := w1.heap.size) (i := 1) (by simp) (by omega) (.slice q6 E6.length c6)), HI5.out.keep (fun y hy => far y (hfi y hy)), HE5.out.keep (fun y hy => far y (hfe y hy)), HT5.out, fun y hy => ?_⟩
              rcases List.mem_append.1 hy with h | h
              · exact hfi y h
              · exact hfe y h
          | false =>
            go_wp2_with (first
              | (go_at_call 20; (refine (bget_ HK.out (by omega) (by rw [HLn.out]; omega) kr).mono ?_); rintro e w2 ⟨rfl, k2, kx2⟩; obtain ⟨xx, hxx⟩ : ∃ xx, xx = getL L kr := ⟨_, rfl⟩; rw [← hxx]; have HXX := hid2 hxx; have HK2 := hid2 ((show B1 w w2 b (some g) (seeL (some 0) Ej L kr) L (w1.heap.size :: (vb (.slice ql n cl') ++ vb (.slice qe Ej.length ce))) from k2).calm (gr1 (gr0 w2) (.cells #[.int .i64 xx] 29))); have HI2 := hid2 ((HI.out.keep fun y hy => kx2.blk y (by simp [hy])).below (gr1 (gr0 w2) (.cells #[.int .i64 xx] 29))); have HE2 := hid2 ((HE.out.keep fun y hy => kx2.blk y (by simp [hy])).below (gr1 (gr0 w2) (.cells #[.int .i64 xx] 29))); have hT2 : Cel2 w2 w1.heap.size (.slice ql n cl') (.slice qe Ej.length ce) := ⟨⟨kx2.cell (by simp) HT.out.1.1, kx2.free (by simp) HT.out.1.2⟩, ⟨kx2.cell (by simp) HT.out.2.1, kx2.free (by simp) HT.out.2.2⟩⟩; obtain ⟨⟨c0, _⟩, ⟨c1, _⟩⟩ := id hT2; have cz := hT2.lt; have HT2 := hid2 (hT2.below (gr1 (gr0 w2) (.cells #[.int .i64 xx] 29))); have HS2 := hid2 (show Cel (w2.alloc (.cells #[.int .i64 xx] 29)) w2.heap.size 0 (.int .i64 xx) from ⟨by simp [alloc_cell_if], by simp [alloc_frozen_if]⟩); clear k2 kx2 hxx hT2)
              | (go_at_call 30; (with_reducible refine (rget_ HI2.out HE2.out (by rw [HLn.out]; omega) (by omega) kr HRI.out).mono ?_); rintro e w3 ⟨v3, rfl, E3, N3, hb3⟩; rw [← HXX.out]; obtain ⟨E6, hE6⟩ : ∃ E6, E6 = seeL (some 0) Ej L kr := ⟨_, rfl⟩; rw [← hE6] at E3 HK2; have HE6 := hid2 hE6; obtain ⟨q3, c3, rfl⟩ := E3.slice; have HI3 := hid2 (HI2.out.below hb3); have HE3 := hid2 E3; have HN3 := hid2 N3; have HB3 := hid2 hb3; have C3 := HT2.out.below hb3; obtain ⟨⟨m0, m1⟩, ⟨m2, m3⟩⟩ := id C3; have mz := C3.lt; have HT3 := hid2 ((C3.set0 (x := .slice ql n cl')).set1 (x := .slice q3 E6.length c3)); have s3 := (HS2.out.below hb3).1; have sz := World.block_lt_of_cell? w3 _ s3; have sne : ¬ (w2.heap.size = w1.heap.size) := (by omega); have sne2 : ¬ (w1.heap.size = w2.heap.size) := (by omega); clear C3 E3 N3 hb3 hE6 c0 c1 d1 d2 d3 k0 k1 k2 k3)
              | (go_at_call 21; (with_reducible refine (sopen_none xx _).mono ?_); rintro e w5 ⟨rfl, hb5⟩; have HB5 := hid2 hb5; clear hb5))
            go_roundg (m - (j + 1))
            case measure => omega
            case rel =>
              have hs3 := HT2.out.lt
              have hfe : ∀ y ∈ vb (.slice q3 E6.length c3), y ≠ w1.heap.size := fun y hy => (HN3.out y hy).elim (fun h => HNS.out y (by simp [h])) (fun h => by omega)
              have hfi : ∀ y ∈ vb (.slice ql n cl'), y ≠ w1.heap.size := fun y hy => HNS.out y (by simp [hy])
              have far : ∀ y, y ≠ w1.heap.size → ((w3.setCell ⟨w1.heap.size, 0, none⟩ (.slice ql n cl')).setCell ⟨w1.heap.size, 1, none⟩ (.slice q3 E6.length c3)).heap[y]? = w3.heap[y]? := fun y hne => (heap_setCell_other _ ⟨w1.heap.size, 1, none⟩ y _ hne).trans (heap_setCell_other _ ⟨w1.heap.size, 0, none⟩ y _ hne)
              have hc := HK2.out.cover HB3.out (w1.heap.size :: (vb (.slice ql n cl') ++ vb (.slice q3 E6.length c3))) (fun y hy => by
                rcases List.mem_cons.1 hy with h | h
                · exact .inl (by simp [h])
                · rcases List.mem_append.1 h with h | h
                  · exact .inl (by simp [h])
                  · exact (HN3.out y h).elim (fun h2 => .inl (by simp [h2])) (fun h2 => .inr ⟨h2, (HE3.out.lt y h).2⟩))
              have hc2 := (((hc.set (x := w1.heap.size) (i := 0) (by simp) (by omega) (.slice ql n cl')).set (x := w1.heap.size) (i := 1) (by simp) (by omega) (.slice q3 E6.length c3)).calm (gr1 (gr0 _) (.cells #[.slice ql n cl', .slice q3 E6.length c3] 47))).calm HB5.out
              refine ⟨j + 1, _, E6, _, _, ⟨by omega, HLn.out, by rw [HE6.out]; have := seeL_len (some 0) Ej L kr; omega⟩, by go_num, hc2, ((HI3.out.keep (fun y hy => far y (hfi y hy))).below (gr1 (gr0 _) (.cells #[.slice ql n cl', .slice q3 E6.length c3] 47))).below HB5.out, ((HE3.out.keep (fun y hy => far y (hfe y hy))).below (gr1 (gr0 _) (.cells #[.slice ql n cl', .slice q3 E6.length c3] 47))).below HB5.out, (HT3.out.below (gr1 (gr0 _) (.cells #[.slice ql n cl', .slice q3 E6.length c3] 47))).below HB5.out, fun y hy => ?_⟩
              rcases List.mem_append.1 hy with h | h
              · exact hfi y h
              · exact hfe y h
      · have t3 : decide ((j : Int) < m) = false := by simp; omega
        have hle : Ej.length ≤ 1000000 := by omega
        clear Tj
        obtain ⟨⟨k0, k1⟩, ⟨k2, k3⟩⟩ := HT.out
        have kz := HT.out.lt
        obtain ⟨vb0, Bc⟩ := HK.out.bufc
        have HBc := hid2 Bc
        clear Bc
        go_wp2_with (first
          | (go_at_call 25; (with_reducible refine (bwords_ HBc.out (by rw [HLn.out]; omega)).mono ?_); rintro e w2 ⟨vx, rfl, S2, hb2⟩; obtain ⟨qx, cx, hqx, _⟩ := S2.form; rw [HLn.out] at hqx; subst hqx; have HK2 := hid2 (HK.out.calm hb2); have HI2 := hid2 (HI.out.below hb2); have HE2 := hid2 (HE.out.below hb2); have HT2 := hid2 (HT.out.below hb2); have HB2 := hid2 (HBc.out.calm hb2); have HR2 := hid2 HK2.out.rn; obtain ⟨⟨c0, _⟩, ⟨c1, _⟩⟩ := HT2.out; have cz := HT2.out.lt; clear S2 hb2 k0 k1 k2 k3 kz))
        refine wp_region_hid 22 [⟨17, 113, fun v W => Evs 0 W v Ej⟩] (by kernel_rfl) (by kernel_rfl) (by simp) (by simp) (by kernel_rfl) ?_ ?_
        · intro h hh x W W' hb hx
          simp only [List.mem_singleton] at hh
          subst hh
          exact Evs.below hx hb
        simp only [List.take_succ_cons, List.take_zero, List.drop_succ_cons, List.drop_zero]
        repeat (first | (refine wpHid_hid rfl rfl (fun X u hX K hK => ?_) ?_; (focus (have hzu := u.below.size; (try simp at hzu); (try simp only [fill, List.map_cons, List.map_nil, Act.put, List.setIfInBounds_toArray, List.set_cons_succ, List.set_cons_zero] at hK ⊢); go_step; first | (go_at_call 22; refine (eventsp_ (HR2.out.below u.below) hle).mono ?_; rintro e W ⟨v, rfl, hv, hb⟩; exact hK _ _ hb hv.zero))); (try simp only [Act.put, List.setIfInBounds_toArray, List.set_cons_succ, List.set_cons_zero])) | (refine wpHid_next rfl rfl ?_; apply Exists.intro; refine ⟨fun X u hX K hK => ?_, ?_⟩; (focus (have hzu := u.below.size; (try simp at hzu); (try (refine imp_elim2 (hX _ List.mem_cons_self) ?_ ?_; (focus (show (113 : Nat) ∈ _; decide +kernel)); intro hO0)); (try simp only [fill, List.map_cons, List.map_nil, Act.put, List.setIfInBounds_toArray, List.set_cons_succ, List.set_cons_zero] at hK ⊢); go_step; first | exact hK _ _ (gr0 _) rfl | (go_at_call 32; refine (btrace_ (HB2.out.calm u.below)).mono ?_; rintro e W ⟨rfl, hb⟩; exact hK _ _ hb rfl) | (go_at_call 23; refine (blen_ (HB2.out.calm u.below)).mono ?_; rintro e W ⟨rfl, hb⟩; exact hK _ _ hb rfl) | (go_at_call 31; refine (rsame_ hO0 (HE2.out.below u.below) hle hle).mono ?_; rintro e W ⟨rfl, hb⟩; rw [decide_eq_true (rfl : Ej = Ej)]; exact hK _ _ hb rfl))); (try simp only [Act.put, List.setIfInBounds_toArray, List.set_cons_succ, List.set_cons_zero])) | (refine wpHid_skip rfl rfl ?_; (try simp only [Act.put, List.setIfInBounds_toArray, List.set_cons_succ, List.set_cons_zero])))
        refine wpHid_nil ?_
        intro X W9 hb9 hR9
        try simp only [fill, List.map_cons, List.map_nil, Act.put, List.setIfInBounds_toArray, List.set_cons_succ, List.set_cons_zero]
        have HK3 := hid2 (HK2.out.calm hb9)
        have HI3 := hid2 (HI2.out.below hb9)
        have HE3 := hid2 (HE2.out.below hb9)
        have HT3 := hid2 (HT2.out.below hb9)
        obtain ⟨⟨m0, m1⟩, ⟨m2, m3⟩⟩ := HT3.out
        have mz := HT3.out.lt
        clear c0 c1 cz hb9 hR9
        go_wp2_with (first
          | (go_at_call 33; (with_reducible refine (ropen4_ HI3.out HE3.out (by rw [HLn.out]; omega) (by omega)).mono ?_); rintro e w4 ⟨v4, rfl, E4, N4, hb4⟩; obtain ⟨q4, c4, hq4⟩ := E4.slice; obtain ⟨e4, he4⟩ : ∃ e4, e4 = (Ej ++ reps L.length).length := ⟨_, rfl⟩; rw [← he4] at hq4; subst hq4; have HE4 := hid2 E4; have HN4 := hid2 N4; have HB4 := hid2 hb4; have C4 := HT3.out.below hb4; obtain ⟨⟨y0, y1⟩, ⟨y2, y3⟩⟩ := id C4; have yz := C4.lt; have HT4 := hid2 ((C4.set0 (x := .slice ql n cl')).set1 (x := .slice q4 e4 c4)); clear C4 E4 N4 hb4 m0 m1 m2 m3 mz he4))
        refine wp_abs (fun V => B1 w V b (some g) Ej L (w1.heap.size :: (vb (.slice ql n cl') ++ vb (.slice q4 e4 c4))) ∧ Ints 0 V (.slice ql n cl') L ∧ Evs 0 V (.slice q4 e4 c4) (Ej ++ reps L.length) ∧ Cel2 V w1.heap.size (.slice ql n cl') (.slice q4 e4 c4)) ?_ ?_
        · have hs3 := HT3.out.lt
          have hfe : ∀ y ∈ vb (.slice q4 e4 c4), y ≠ w1.heap.size := fun y hy => (HN4.out y hy).elim (fun h => HNS.out y (by simp [h])) (fun h => by omega)
          have hfi : ∀ y ∈ vb (.slice ql n cl'), y ≠ w1.heap.size := fun y hy => HNS.out y (by simp [hy])
          have far : ∀ y, y ≠ w1.heap.size → ((w4.setCell ⟨w1.heap.size, 0, none⟩ (.slice ql n cl')).setCell ⟨w1.heap.size, 1, none⟩ (.slice q4 e4 c4)).heap[y]? = w4.heap[y]? := fun y hne => (heap_setCell_other _ ⟨w1.heap.size, 1, none⟩ y _ hne).trans (heap_setCell_other _ ⟨w1.heap.size, 0, none⟩ y _ hne)
          have hc := HK3.out.cover HB4.out (w1.heap.size :: (vb (.slice ql n cl') ++ vb (.slice q4 e4 c4))) (fun y hy => by
            rcases List.mem_cons.1 hy with h | h
            · exact .inl (by simp [h])
            · rcases List.mem_append.1 h with h | h
              · exact .inl (by simp [h])
              · exact (HN4.out y h).elim (fun h2 => .inl (by simp [h2])) (fun h2 => .inr ⟨h2, (HE4.out.lt y h).2⟩))
          exact ⟨(hc.set (x := w1.heap.size) (i := 0) (by simp) (by omega) (.slice ql n cl')).set (x := w1.heap.size) (i := 1) (by simp) (by omega) (.slice q4 e4 c4), (HI3.out.below HB4.out).keep (fun y hy => far y (hfi y hy)), HE4.out.keep (fun y hy => far y (hfe y hy)), HT4.out⟩
        clear HT4 HE4 HN4 HB4 HK3 HI3 HE3 HT3 HK2 HI2 HE2 HT2 HB2 HR2 y0 y1 y2 y3 yz
        rintro V ⟨K5, I5, E5, T5⟩
        have HK5 := hid2 K5
        have HI5 := hid2 I5
        have HE5 := hid2 E5
        have HT5 := hid2 T5
        have HL5 := hid2 (show (Ej ++ reps L.length).length ≤ 1000000 by rw [List.length_append, reps_len, HLn.out]; omega)
        obtain ⟨⟨u0, _⟩, ⟨u1, _⟩⟩ := id T5
        have uz := T5.lt
        clear K5 I5 E5 T5
        refine wp_region_noPanic ?_
        refine wp_region_sched 13 [(0, true), (2, true), (3, true), (1, false), (4, false), (5, true), (6, true), (9, true), (10, true), (7, false), (8, false), (11, false), (12, true), (13, false)] (fun w' => w'.cell? ⟨w1.heap.size, 0, none⟩ = some (.slice ql n cl') ∧ w'.cell? ⟨w1.heap.size, 1, none⟩ = some (.slice q4 e4 c4)) (by kernel_rfl) (by kernel_rfl) ⟨u0, u1⟩ (fun _ _ _ _ _ h => h) ?_
        repeat (refine sched_still (by rfl) (by rfl) (by (intro w' hC; obtain ⟨hC1, hC2⟩ := hC; go_simp; all_goals with_reducible rfl)) ?_; try simp only [Act.put, List.setIfInBounds_toArray])
        refine sched_go (by rfl) fun K hK => ?_
        go_simp
        go_at_call 26
        refine (bopen_ HK5.out.drew (by rw [HLn.out]; omega) (by rw [HLn.out]; omega)).mono ?_
        rintro e w6 ⟨v6, rfl, I6, k6, kx6⟩
        have HK6 := hid2 (show B1 w w6 b (some g) (Ej ++ reps L.length) L (vb v6 ++ (w1.heap.size :: (vb (.slice ql n cl') ++ vb (.slice q4 e4 c4)))) from k6)
        have HI6 := hid2 I6
        have HJ6 := hid2 (HI5.out.keep (W' := w6) fun y hy => kx6.blk y (by simp [hy]))
        have HE6 := hid2 (HE5.out.keep (W' := w6) fun y hy => kx6.blk y (by simp [hy]))
        have f0 := kx6.cell (by simp) u0
        have f1 := kx6.cell (by simp) u1
        have fz := World.block_lt_of_cell? w6 _ f0
        refine hK.out _ _ (fun _ => ⟨f0, f1⟩) ?_
        clear k6 kx6 I6
        refine sched_go (by rfl) fun K hK => ?_
        go_simp
        go_at_call 34
        refine (rnsame4_ HI6.out HJ6.out (by rw [HLn.out]; omega)).mono ?_
        rintro e w7 ⟨rfl, hb7⟩
        have HK7 := hid2 (HK6.out.calm hb7)
        have HE7 := hid2 (HE6.out.below hb7)
        have f2 := (hb7.cell (p := ⟨w1.heap.size, 0, none⟩) fz).trans f0
        have f3 := (hb7.cell (p := ⟨w1.heap.size, 1, none⟩) fz).trans f1
        have fz2 := World.block_lt_of_cell? w7 _ f2
        have HR7 := hid2 HK7.out.rn
        obtain ⟨vb7, Bc7⟩ := HK7.out.bufc
        have HB7 := hid2 Bc7
        refine hK.out _ _ (fun _ => ⟨f2, f3⟩) ?_
        clear hb7 Bc7
        repeat (refine sched_still (by rfl) (by rfl) (by (intro w' hC; obtain ⟨hC1, hC2⟩ := hC; go_simp; all_goals with_reducible rfl)) ?_; try simp only [Act.put, List.setIfInBounds_toArray])
        refine sched_go (by rfl) fun K hK => ?_
        go_simp
        go_at_call 32
        refine (btrace_ HB7.out).mono ?_
        rintro e w8 ⟨rfl, hb8⟩
        have HK8 := hid2 (HK7.out.calm hb8)
        have HE8 := hid2 (HE7.out.below hb8)
        have HR8 := hid2 (HR7.out.below hb8)
        refine hK.out _ _ (fun _ => ⟨(hb8.cell (p := ⟨w1.heap.size, 0, none⟩) fz2).trans f2, (hb8.cell (p := ⟨w1.heap.size, 1, none⟩) fz2).trans f3⟩) ?_
        refine sched_go (by rfl) fun K hK => ?_
        go_simp
        go_at_call 22
        refine (eventsp_ HR8.out HL5.out).mono ?_
        rintro e w9 ⟨v9, rfl, E9, hb9⟩
        have HK9 := hid2 (HK8.out.calm hb9)
        have HE9 := hid2 (HE8.out.below hb9)
        have hz8 := Nat.lt_of_lt_of_le fz2 hb8.size
        refine hK.out _ _ (fun _ => ⟨(hb9.cell (p := ⟨w1.heap.size, 0, none⟩) hz8).trans ((hb8.cell (p := ⟨w1.heap.size, 0, none⟩) fz2).trans f2), (hb9.cell (p := ⟨w1.heap.size, 1, none⟩) hz8).trans ((hb8.cell (p := ⟨w1.heap.size, 1, none⟩) fz2).trans f3)⟩) ?_
        refine sched_go (by rfl) fun K hK => ?_
        go_simp
        go_at_call 31
        refine (rsame_ E9 HE9.out HL5.out HL5.out).mono ?_
        rintro e w10 ⟨rfl, hb10⟩
        rw [decide_eq_true (rfl : (Ej ++ reps L.length) = (Ej ++ reps L.length))]
        have hz9 := Nat.lt_of_lt_of_le hz8 hb9.size
        refine hK.out _ _ (fun _ => ⟨(hb10.cell (p := ⟨w1.heap.size, 0, none⟩) hz9).trans ((hb9.cell (p := ⟨w1.heap.size, 0, none⟩) hz8).trans ((hb8.cell (p := ⟨w1.heap.size, 0, none⟩) fz2).trans f2)), (hb10.cell (p := ⟨w1.heap.size, 1, none⟩) hz9).trans ((hb9.cell (p := ⟨w1.heap.size, 1, none⟩) hz8).trans ((hb8.cell (p := ⟨w1.heap.size, 1, none⟩) fz2).trans f3))⟩) ?_
        repeat (refine sched_still (by rfl) (by rfl) (by (intro w' hC; obtain ⟨hC1, hC2⟩ := hC; go_simp; all_goals with_reducible rfl)) ?_; try simp only [Act.put, List.setIfInBounds_toArray])
        refine sched_go (by rfl) fun K hK => ?_
        go_simp
        refine hK.out _ _ (fun h => absurd rfl h) (sched_nil (NoPanic.normal ?_))
        go_wp2
        go_ret
        exact ⟨rfl, gr2 HK9.out.below hb10⟩
  · by_cases h40 : n ≤ 40
    · have t1 : decide ((40 : Int) < (n : Int)) = false := by simp; omega
      have t2 : decide ((60 : Int) < (m : Int)) = true := by simp; omega
      clear HC HDC HDI hle
      go_enter Try.func6, Try.ntmps6
      go_wp2_with (first
        | (go_at_call 15; (with_reducible refine (known04 w).mono ?_); rintro e w0 ⟨rfl, hb0⟩))
      go_ret
      exact ⟨rfl, hb0⟩
    · have t1 : decide ((40 : Int) < (n : Int)) = true := by simp; omega
      clear HC HDC HDI hle
      go_enter Try.func6, Try.ntmps6
      go_wp2_with (first
        | (go_at_call 15; (with_reducible refine (known04 w).mono ?_); rintro e w0 ⟨rfl, hb0⟩))
      go_ret
      exact ⟨rfl, hb0⟩

end Go.Proofs.Ytbdnnkokkgdhnaa
