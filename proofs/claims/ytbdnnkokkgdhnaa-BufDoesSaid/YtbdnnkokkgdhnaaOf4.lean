/- A buffer of numbers that came in, and what chapter 4's statements make of it. -/
import Derived.Test.YtbdnnkokkgdhnaaCel
import Derived.Test.YtbdnnkokkgdhnaaApp
import Derived.Test.YtbdnnkokkgdhnaaKnown04
namespace Go.Proofs.Ytbdnnkokkgdhnaa
open Go.RowKit

set_option maxRecDepth 100000 in
set_option maxHeartbeats 4000000 in
theorem of4_ {w : World} {vl : Value} {n : Nat} {f : Nat → Int} (h : Nums .i64 vl n f w) (hn : n ≤ 1000) :
    Calls Try.prog 28 #[vl] w fun e w' => ∃ b g vm, e = .returned (.tuple #[.pointer (some ⟨b, 0, none⟩), .agg #[vm, .slice none 0 0]]) ∧ B1 w w' b (some g) [] (lst f n) (vb vm) ∧ Ints w.heap.size w' vm (lst f n) := by
  obtain ⟨i0, hi, hz0, hz1, hz2⟩ := info_parts info_sec
  obtain ⟨j0, hj0, hy0, hy1, hy2⟩ := info_parts info_int
  have HC := hid2 h
  obtain ⟨ql, cl, rfl⟩ := h.form
  have HA := hid2 (h.at_ rfl)
  clear h
  have hn0 : (0 : Int) ≤ n := by omega
  have hn1 : (n : Int) ≤ 1000 := by omega
  have hW0 := hid2 (gr1 (gr0 w) (.cells #[.slice none 0 0, .slice none 0 0] 47))
  have HT := hid2 (show Cel (w.alloc (.cells #[.slice none 0 0, .slice none 0 0] 47)) w.heap.size 0 (.slice none 0 0) ∧ Cel (w.alloc (.cells #[.slice none 0 0, .slice none 0 0] 47)) w.heap.size 1 (.slice none 0 0) from ⟨⟨by simp [alloc_cell_if], by simp [alloc_frozen_if]⟩, ⟨by simp [alloc_cell_if], by simp [alloc_frozen_if]⟩⟩)
  go_enter Try.func28, Try.ntmps28
  go_wp2
  go_loopg [4, 5] n (fun gj vs k wr => ∃ jj : Nat, jj + gj = n ∧ k = .int .i64 jj ∧ Secs (w.heap.size + 1) wr vs (lst f jj) ∧ Below (w.alloc (.cells #[.slice none 0 0, .slice none 0 0] 47)).heap.size (w.alloc (.cells #[.slice none 0 0, .slice none 0 0] 47)) wr)
  case atStart => exact ⟨0, Nat.zero_add _, rfl, World.ownsRow_nil _ _ _ _, gr0 _⟩
  case round =>
    obtain ⟨j, hj, rfl, HS, HB⟩ := hrel
    have hj9 : (0 : Int) ≤ j := by omega
    have hj7 : (j : Int) ≤ 1000 := by omega
    obtain ⟨p, cv, hpv⟩ := own_form HS
    rw [lst_len] at hpv
    subst hpv
    have HS2 := hid2 HS
    have HB2 := hid2 HB
    have HLn := hid2 (lst_len f j)
    clear HS
    by_cases hlt : j < n
    · have t3 : decide ((j : Int) < n) = true := by simp; omega
      have hj8 : (j : Int) < n := by omega
      obtain ⟨cb, co, rfl, hz, a1⟩ := HA.out j hlt
      have a2 := ((hW0.out.trans (HB.mono (by simp))).cell (p := ⟨cb, co + j, none⟩) hz).trans a1
      have a3 := World.block_lt_of_cell? wr _ a2
      have HX := hid2 (lst_succ f j)
      generalize hxx : f j = x at *
      clear a1 hxx HB
      have hzw := HB2.out.size
      simp only [World.size_alloc] at hzw
      go_wp2_with (first
        | (go_at_call 19; (with_reducible refine (sec_of x _).mono ?_); rintro e w2 ⟨rfl, hb2⟩; have hrow := World.ownsRow.alloc (HS2.out.below hb2) (.cells #[.int .i64 x] 29); rw [HLn.out] at hrow; have HR := hid2 hrow; have hz2' := gr2 HB2.out hb2; have hz3 := hz2'.size; have HB3 := hid2 hz2'; clear hrow hz2')
        | (at_builtin; refine wpList_append_lies _ rfl _ _ 37 rfl (w.heap.size + 1) 29 i0 _ 1 8 Try.underlying37 hi hz0 hz1 hz2 rfl (by omega) _ j _ rfl HR.out ⟨w2.heap.size, 0, none⟩ 1 1 [.int .i64 x] rfl rfl (World.news_of_block (cs := #[.int .i64 x]) (heap_alloc_new w2 _)) (by simp [Value.oneCell']) (by omega) (by unfold maxLen; omega) (by omega) (by simp at hz3 ⊢; omega) (w2.heap.size + 1) (by simp) ?_; intro gg cap1 w4 hown4 hgrow4 hat4 hlt4; have hb4 := gr5 (gr1 HB3.out (.cells #[.int .i64 x] 29)) hgrow4 (fun k hk => (by have := (HR.out.lt k hk).1; simp; omega)); have HO4 := hid2 hown4; have HB4 := hid2 hb4; clear hown4 hgrow4 hat4 hb4))
      go_roundg (n - (j + 1))
      case measure => omega
      case rel => exact ⟨j + 1, by omega, by go_num, by rw [HX.out]; unfold Secs; rw [List.length_append, HLn.out, List.map_append]; exact HO4.out, HB4.out⟩
    · have t3 : decide ((j : Int) < n) = false := by simp; omega
      have hjn : j = n := by omega
      subst hjn
      have hB2 := hW0.out.trans (HB.mono (show w.heap.size ≤ (w.alloc (.cells #[.slice none 0 0, .slice none 0 0] 47)).heap.size by simp))
      have hzw := HB.size
      simp only [World.size_alloc] at hzw
      have HB9 := hid2 hB2
      have c0 := HT.out.1.below HB
      have c1 := HT.out.2.below HB
      have HC0 := hid2 c0
      have HC1 := hid2 c1
      have hcel : ∀ u, (lst f j).map (Value.int .i64) = u → ∀ ad, ql = some ad → ∀ k x, u[k]? = some x → wr.cell? (ad.add k) = some x := by
        rintro u rfl ad rfl k x hk
        rw [List.getElem?_map] at hk
        cases hg : (lst f j)[k]? with
        | none => rw [hg] at hk; cases hk
        | some y =>
          rw [hg] at hk
          have hkl := (List.getElem?_eq_some_iff.1 hg).1
          rw [lst_len] at hkl
          have hy := lst_at f hkl
          rw [hg] at hy
          cases hy
          cases hk
          obtain ⟨cb, co, hq, hz, a1⟩ := HA.out k hkl
          cases hq
          have := (hB2.cell (p := ⟨cb, co + k, none⟩) hz).trans a1
          rw [show (⟨cb, co, none⟩ : Addr).add k = ⟨cb, co + k, none⟩ by unfold Addr.add; split <;> simp_all]
          exact this
      have hone : ∀ u ∈ (lst f j).map (Value.int .i64), u.oneCell' = true := fun u hu => by obtain ⟨x, _, rfl⟩ := List.mem_map.1 hu; rfl
      have hlen : ((lst f j).map (Value.int .i64)).length = j * 1 := by simp [lst_len]
      have HCE := hid2 hcel
      have HON := hid2 hone
      have HLE := hid2 hlen
      have HS3 := hid2 (fun (w1 : World) (hb : Below wr.heap.size wr w1) => (HS2.out.below hb))
      have KEY : ∀ (vm : Value) (w1 : World), Ints (w.heap.size + 1) w1 vm (lst f j) → Below wr.heap.size wr w1 → T2 w (w1.alloc (.cells #[.slice none 0 0] 84)) [w1.heap.size] [] (w.heap.size :: vb vm) := fun vm w1 hI hb => by
        have hs := hb.size
        refine ⟨fun x hx => ?_, fun x _ hx => (nomatch hx), fun x hx => ⟨fun hy => ?_, fun hy => (nomatch hy)⟩, fun x hx => ?_, gr1 (hB2.trans (hb.mono (by omega))) _⟩
        · simp only [List.mem_singleton, List.not_mem_nil, or_false] at hx; omega
        · simp only [List.mem_singleton] at hy
          subst hy
          rcases List.mem_cons.1 hx with h | h
          · omega
          · have := (vb_lt hI _ h).2; omega
        · simp only [World.size_alloc]
          rcases hx with h | h | h
          · simp only [List.mem_singleton] at h; omega
          · cases h
          · rcases List.mem_cons.1 h with h | h
            · omega
            · have := (vb_lt hI _ h).2; omega
      have HKEY := hid2 KEY
      clear hcel hone hlen KEY c0 c1 HB hB2
      have APP : ∀ (Q : Exit → Act → World → Prop), True := fun _ => trivial
      clear APP
      cases ql with
      | none =>
        have hj0 : j = 0 := by
          rcases Nat.eq_zero_or_pos j with h | h
          · exact h
          · obtain ⟨_, _, hq, _⟩ := HA.out 0 h; cases hq
        subst hj0
        have hI1 : Hid2 (Ints (w.heap.size + 1) wr (.slice none 0 0) (lst f 0)) := hid2 (World.ownsRow_nil _ _ _ _)
        have hb1 := hid2 (gr0 wr)
        go_wp2_with (first
          | (go_at_call 16; (with_reducible refine (new_ wr).mono ?_); rintro e w2 ⟨rfl, hw2⟩; have T3 := hid2 (HKEY.out (.slice none 0 0) wr hI1.out hb1.out); have R3 := rc_new wr; rw [← hw2] at T3 R3; have R4 := hid2 R3; have hb2 : Hid2 (Below wr.heap.size wr w2) := (by rw [hw2]; exact hid2 (gr1 hb1.out _)); have hI2 : Hid2 (Ints (w.heap.size + 1) w2 (.slice none 0 0) (lst f 0)) := (by rw [hw2]; exact hid2 (hI1.out.below (gr1 (gr0 wr) _))); clear R3 hw2)
          | (go_at_call 24; (refine (bof_ (some wr.heap.size) (HS3.out w2 hb2.out) (by rw [lst_len]; omega)).mono ?_); rintro e w3 ⟨b, rfl, hN⟩; have K3 := hid2 (hN.one (E := []) (show Ro w2 (some wr.heap.size) [] [wr.heap.size] from R4.out) T3.out); have hb3 : Hid2 (Below w2.heap.size w2 w3) := hid2 (by obtain ⟨_, _, _, _, _, h⟩ := hN; exact h); have hI3 := hid2 (hI2.out.below hb3.out); have D0 := HC0.out.below (gr2 hb2.out hb3.out); have D1 := HC1.out.below (gr2 hb2.out hb3.out); obtain ⟨d0, d0'⟩ := D0; obtain ⟨d1, d1'⟩ := D1; have zd := World.block_lt_of_cell? w3 _ d0; clear hN))
        have K4 := ((K3.out.set (x := w.heap.size) (i := 0) (by simp) (Nat.le_refl _) (.slice none 0 0)).set (x := w.heap.size) (i := 1) (by simp) (Nat.le_refl _) (.slice none 0 0)).less (Y := vb (.slice none 0 0)) (fun x hx => by simp [hx])
        have e1 : (w3.setCell ⟨w.heap.size, 0, none⟩ (.slice none 0 0)).cell? ⟨w.heap.size, 1, none⟩ = some (.slice none 0 0) := (World.cell?_setCell_other _ _ _ _ (by simp)).trans d1
        have e2 : ((w3.setCell ⟨w.heap.size, 0, none⟩ (.slice none 0 0)).setCell ⟨w.heap.size, 1, none⟩ (.slice none 0 0)).cell? ⟨w.heap.size, 0, none⟩ = some (.slice none 0 0) := (World.cell?_setCell_other _ _ _ _ (by simp)).trans (World.cell?_setCell_same' _ _ _ (by rw [d0]; rfl))
        have e3 : ((w3.setCell ⟨w.heap.size, 0, none⟩ (.slice none 0 0)).setCell ⟨w.heap.size, 1, none⟩ (.slice none 0 0)).cell? ⟨w.heap.size, 1, none⟩ = some (.slice none 0 0) := World.cell?_setCell_same' _ _ _ (by rw [e1]; rfl)
        have hI4 : Ints w.heap.size ((w3.setCell ⟨w.heap.size, 0, none⟩ (.slice none 0 0)).setCell ⟨w.heap.size, 1, none⟩ (.slice none 0 0)) (.slice none 0 0) (lst f 0) := own_low (hI3.out.keep fun x hx => by
          have h1 := (vb_lt hI3.out x hx).1
          have hne : x ≠ w.heap.size := fun e => by omega
          exact (heap_setCell_other _ ⟨w.heap.size, 1, none⟩ x _ hne).trans (heap_setCell_other _ ⟨w.heap.size, 0, none⟩ x _ hne)) (Nat.le_succ _)
        exact bodyPost_ret (v := .tuple #[.pointer (some ⟨b, 0, none⟩), .agg #[(.slice none 0 0), .slice none 0 0]]) (by simp [results, Try.results28, go_sem, e2, e3] <;> rfl) rfl ⟨b, wr.heap.size, (.slice none 0 0), rfl, K4, hI4⟩
      | some ad =>
        go_wp2_with (first
          | (at_builtin; refine wpList_append_own_at _ rfl _ _ 36 rfl (w.heap.size + 1) 3 j0 _ 1 8 Try.underlying36 hj0 hy0 hy1 hy2 rfl (by decide) (.slice none 0 0) 0 [] rfl (World.ownsRow_nil _ _ _ _) ad j cl ((lst f j).map (Value.int .i64)) rfl HLE.out (HCE.out _ rfl ad rfl) HON.out (by unfold maxLen; omega) (by omega) (by omega) ?_; intro vm w1 hown1 hgrow1 _ _; obtain ⟨pm, cm, hpm⟩ := own_form hown1; rw [Nat.zero_add] at hpm; subst hpm; have hI1 : Hid2 (Ints (w.heap.size + 1) w1 (.slice pm j cm) (lst f j)) := (by unfold Hid2 Ints; simpa [lst_len] using hown1); have hb1 := hid2 (gr5 (gr0 wr) hgrow1 (fun k hk => nomatch hk)); clear hown1 hgrow1)
          | (go_at_call 16; (with_reducible refine (new_ w1).mono ?_); rintro e w2 ⟨rfl, hw2⟩; have T3 := hid2 (HKEY.out (.slice pm j cm) w1 hI1.out hb1.out); have R3 := rc_new w1; rw [← hw2] at T3 R3; have R4 := hid2 R3; have hb2 : Hid2 (Below wr.heap.size wr w2) := (by rw [hw2]; exact hid2 (gr1 hb1.out _)); have hI2 : Hid2 (Ints (w.heap.size + 1) w2 (.slice pm j cm) (lst f j)) := (by rw [hw2]; exact hid2 (hI1.out.below (gr1 (gr0 w1) _))); clear R3 hw2)
          | (go_at_call 24; (refine (bof_ (some w1.heap.size) (HS3.out w2 hb2.out) (by rw [lst_len]; omega)).mono ?_); rintro e w3 ⟨b, rfl, hN⟩; have K3 := hid2 (hN.one (E := []) (show Ro w2 (some w1.heap.size) [] [w1.heap.size] from R4.out) T3.out); have hb3 : Hid2 (Below w2.heap.size w2 w3) := hid2 (by obtain ⟨_, _, _, _, _, h⟩ := hN; exact h); have hI3 := hid2 (hI2.out.below hb3.out); have D0 := HC0.out.below (gr2 hb2.out hb3.out); have D1 := HC1.out.below (gr2 hb2.out hb3.out); obtain ⟨d0, d0'⟩ := D0; obtain ⟨d1, d1'⟩ := D1; have zd := World.block_lt_of_cell? w3 _ d0; clear hN))
        have K4 := ((K3.out.set (x := w.heap.size) (i := 0) (by simp) (Nat.le_refl _) (.slice pm j cm)).set (x := w.heap.size) (i := 1) (by simp) (Nat.le_refl _) (.slice none 0 0)).less (Y := vb (.slice pm j cm)) (fun x hx => by simp [hx])
        have e1 : (w3.setCell ⟨w.heap.size, 0, none⟩ (.slice pm j cm)).cell? ⟨w.heap.size, 1, none⟩ = some (.slice none 0 0) := (World.cell?_setCell_other _ _ _ _ (by simp)).trans d1
        have e2 : ((w3.setCell ⟨w.heap.size, 0, none⟩ (.slice pm j cm)).setCell ⟨w.heap.size, 1, none⟩ (.slice none 0 0)).cell? ⟨w.heap.size, 0, none⟩ = some (.slice pm j cm) := (World.cell?_setCell_other _ _ _ _ (by simp)).trans (World.cell?_setCell_same' _ _ _ (by rw [d0]; rfl))
        have e3 : ((w3.setCell ⟨w.heap.size, 0, none⟩ (.slice pm j cm)).setCell ⟨w.heap.size, 1, none⟩ (.slice none 0 0)).cell? ⟨w.heap.size, 1, none⟩ = some (.slice none 0 0) := World.cell?_setCell_same' _ _ _ (by rw [e1]; rfl)
        have hI4 : Ints w.heap.size ((w3.setCell ⟨w.heap.size, 0, none⟩ (.slice pm j cm)).setCell ⟨w.heap.size, 1, none⟩ (.slice none 0 0)) (.slice pm j cm) (lst f j) := own_low (hI3.out.keep fun x hx => by
          have h1 := (vb_lt hI3.out x hx).1
          have hne : x ≠ w.heap.size := fun e => by omega
          exact (heap_setCell_other _ ⟨w.heap.size, 1, none⟩ x _ hne).trans (heap_setCell_other _ ⟨w.heap.size, 0, none⟩ x _ hne)) (Nat.le_succ _)
        exact bodyPost_ret (v := .tuple #[.pointer (some ⟨b, 0, none⟩), .agg #[(.slice pm j cm), .slice none 0 0]]) (by simp [results, Try.results28, go_sem, e2, e3] <;> rfl) rfl ⟨b, w1.heap.size, (.slice pm j cm), rfl, K4, hI4⟩
end Go.Proofs.Ytbdnnkokkgdhnaa
