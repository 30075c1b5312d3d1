/- A row of pixels' parts. -/
import Derived.Test.YtgegmlhpdpdnfaaSpM
import Derived.Test.YtgegmlhpdpdnfaaFork3
import Derived.Test.YtgegmlhpdpdnfaaCol7
import Derived.Deep.LoopGhost
import Derived.Deep.RegionHeld3
namespace Go.Proofs.Ytgegmlhpdpdnfaa
open Go.RowKit
theorem infos_int : Infos Try.prog 3 1 8 := by unfold Infos; kernel_rfl
theorem own_shape {w : World} {base : Nat} {e : TypeId} {size : Nat} {v : Value} {n : Nat} {xs : List Value} (h : w.ownsRow base e size v n xs) (hn : 0 < n) : ∃ g c, v = .slice (some ⟨g, 0, none⟩) n c := by
  rcases h.2 with ⟨_, h1⟩ | ⟨g, c, _, h1, _⟩
  · omega
  · exact ⟨g, c, h1⟩
def pys (m : Int) (L : Nat → Int) (n : Nat) (j : Nat) : List Value := (List.range n).map fun k => .int .i64 (partF m L j k)
theorem prow_of {W : World} {base g n c : Nat} {f : Nat → Int} (h : W.ownsRow base 3 1 (.slice (some ⟨g, 0, none⟩) n c) n ((List.range n).map fun k => .int .i64 (f k))) : PRow W n f (.slice (some ⟨g, 0, none⟩) n c) :=
  ⟨g, c, rfl, (h.lt g rfl).2, fun k hk => own_cell h (by simp [hk])⟩
theorem pys_succ {m : Int} {L : Nat → Int} {n j : Nat} : pys m L (n + 1) j = pys m L n j ++ [.int .i64 (partF m L j n)] := by simp [pys, List.range_succ]
theorem tri_nil7 {m : Int} {L : Nat → Int} {W : World} {e : TypeId} {size base : Nat} : Tri e size base W (tri (.slice none 0 0) (.slice none 0 0) (.slice none 0 0)) (fun _ => 0) (pys m L 0) := by
  rw [tri_nil]; exact Tri.nil
set_option maxRecDepth 100000 in
set_option maxHeartbeats 4000000 in
theorem parts_int {x y m q i c : Int} (hg : gridOk x y m) (hn : x * y ≤ 1048576) {N : Nat} (hN : (N : Int) = if m = 1 then x * y else 3 * (x * y)) {pg pc : Nat} {L : Nat → Int} (w : World) (hpg : pg < w.heap.size) (hp : ∀ k, k < N → w.cell? ⟨pg, k, none⟩ = some (.int .i64 (L k))) :
    Calls Try.prog 53 #[opsP, .agg #[.int .i64 x, .int .i64 y, .int .i64 m, .int .i64 q, .int .i64 i, .int .i64 c], .slice (some ⟨pg, 0, none⟩) N pc] w fun e w' => ∃ v0 v1 v2, e = .returned (.agg #[v0, v1, v2]) ∧ Below w.heap.size w w' ∧ PRows w' m (x * y).toNat L v0 v1 v2 ∧ v0.oneCell' = true ∧ v1.oneCell' = true ∧ v2.oneCell' = true := by
  have hg1 := hg.2.1
  have hg2 := hg.2.2
  have hxy : 1 ≤ x * y := by have := Int.mul_le_mul hg1.1 hg2.1 (by omega) (by omega); omega
  obtain ⟨n, hnn⟩ : ∃ n : Nat, x * y = n := ⟨(x * y).toNat, by omega⟩
  rw [hnn] at hN hn hxy ⊢
  clear hnn hg1 hg2 hg
  unfold opsP
  go_enter Try.func53, Try.ntmps53
  by_cases hm : m = 1
  · rw [if_pos hm] at hN
    subst hm
    obtain rfl : N = n := by omega
    go_wp2
    refine bodyPost_ret (v := .agg #[.slice (some ⟨pg, 0, none⟩) N pc, .slice none 0 0, .slice none 0 0]) (by simp [results, Try.results53, go_sem] <;> rfl) rfl ⟨_, _, _, rfl, ?_, ?_, rfl, rfl, rfl⟩
    · repeat (first | exact gr0 _ | refine gr1 ?_ _ | refine gr2 ?_ (Later.below _) | refine gr2 ?_ (by assumption) | refine gr3 ?_ | refine gr4 ?_ (by first | (simp; done) | (simp; omega) | omega) _)
    · refine ⟨⟨pg, pc, rfl, ?_, fun k hk => ?_⟩, fun e => absurd rfl e⟩
      · simp; omega
      · refine Eq.trans (Below.cell (p := ⟨pg, k, none⟩) (w := w) (B := w.heap.size) ?_ hpg) ((hp k hk).trans (by simp [partF]))
        repeat (first | exact gr0 _ | refine gr1 ?_ _ | refine gr2 ?_ (Later.below _) | refine gr2 ?_ (by assumption) | refine gr3 ?_ | refine gr4 ?_ (by first | (simp; done) | (simp; omega) | omega) _)
  · rw [if_neg hm] at hN
    have em : decide (m = 1) = false := by simp [hm]
    have em2 : (m == 1) = false := by simp [hm]
    go_wp2
    refine wp_abs7 (fun W => Below w.heap.size w W ∧ W.heap[w.heap.size]? = some (.cells #[Value.func (.func 56) #[] #[], Value.func (.func 57) #[] #[], Value.func (.func 58) #[] #[], Value.func (.func 59) #[] #[], Value.func (.func 60) #[] #[], Value.func (.func 61) #[] #[]] 71 (0, 0)) ∧ W.heap[w.heap.size + 1 + 1]? = some (.cells #[.slice none 0 0, .slice none 0 0, .slice none 0 0] 96 (0, 0)) ∧ W.heap[w.heap.size + 1 + 1 + 1]? = some (.cells #[.slice none 0 0, .slice none 0 0, .slice none 0 0] 96 (0, 0)) ∧ Tri 3 1 w.heap.size W (tri (.slice none 0 0) (.slice none 0 0) (.slice none 0 0)) (fun _ => 0) (pys m L 0)) ?_ ?_
    · refine ⟨?_, ?_, ?_, ?_, ?_⟩
      · repeat (first | exact gr0 _ | refine gr1 ?_ _ | refine gr2 ?_ (Later.below _) | refine gr2 ?_ (by assumption) | refine gr3 ?_ | refine gr4 ?_ (by first | (simp; done) | (simp; omega) | omega) _)
      · exact bh7 (gr1 (gr1 (gr1 (gr0 _) _) _) _) (heap_alloc_new _ _)
      · exact bh7 (gr1 (gr0 _) _) (heap_alloc_at (by simp))
      · exact heap_alloc_at (by simp)
      · exact tri_nil7
    rintro W ⟨HB, h3, h6, h7, HT⟩
    have HLP := hid2 hp
    clear hp
    go_loopg [8] N (fun gj s wr => ∃ (t i0 : Nat) (V0 V1 V2 : Value), 3 * t = i0 ∧ i0 + gj = N ∧ s = .int .i64 i0 ∧ Below w.heap.size w wr ∧ wr.heap[w.heap.size]? = some (.cells #[Value.func (.func 56) #[] #[], Value.func (.func 57) #[] #[], Value.func (.func 58) #[] #[], Value.func (.func 59) #[] #[], Value.func (.func 60) #[] #[], Value.func (.func 61) #[] #[]] 71 (0, 0)) ∧ wr.heap[w.heap.size + 1 + 1]? = some (.cells #[.slice none 0 0, .slice none 0 0, .slice none 0 0] 96 (0, 0)) ∧ wr.heap[w.heap.size + 1 + 1 + 1]? = some (.cells #[V0, V1, V2] 96 (0, 0)) ∧ Tri 3 1 w.heap.size wr (tri V0 V1 V2) (fun _ => t) (pys m L t) ∧ V0.oneCell' = true ∧ V1.oneCell' = true ∧ V2.oneCell' = true)
    case atStart => exact ⟨0, 0, _, _, _, rfl, by omega, rfl, HB, h3, h6, h7, HT, rfl, rfl, rfl⟩
    case round =>
      clear h3 h6 h7 HT HB
      obtain ⟨t, i0, V0, V1, V2, hi0, ht, rfl, HB, h3, h6, h7, HT, o0, o1, o2⟩ := hrel
      by_cases hlt : i0 < N
      · have t1 : decide ((i0 : Int) < N) = true := by simp; omega
        have hk9 : (0 : Int) ≤ i0 ∧ (i0 : Int) < N ∧ (i0 : Int) + 2 < N ∧ (N : Int) ≤ 3145728 := by omega
        have f4 := cells_at h3 4
        have e0 : wr.cell? ⟨pg, i0, none⟩ = some (.int .i64 (L i0)) := (HB.cell (p := ⟨pg, i0, none⟩) hpg).trans (HLP.out i0 (by omega))
        have e1 : wr.cell? ⟨pg, i0 + 1, none⟩ = some (.int .i64 (L (i0 + 1))) := (HB.cell (p := ⟨pg, i0 + 1, none⟩) hpg).trans (HLP.out (i0 + 1) (by omega))
        have e2 : wr.cell? ⟨pg, i0 + 2, none⟩ = some (.int .i64 (L (i0 + 2))) := (HB.cell (p := ⟨pg, i0 + 2, none⟩) hpg).trans (HLP.out (i0 + 2) (by omega))
        have p0 : pg < wr.heap.size := Nat.lt_of_lt_of_le hpg HB.size
        have p3 := heap_lt h3
        simp at f4
        have HH := hid2 (And.intro HB (And.intro h3 (And.intro h6 (And.intro h7 HT))))
        clear HB h3 h6 h7 HT
        go_wp2_with (first
          | (refine wp_region_calm (by kernel_rfl) (by kernel_rfl) ?_; repeat (first | go_big_quiet_step ((go_at_call 60; exact calm_call (luma_ _ _ _ _))) | quiet_step ((go_at_call 60; exact calm_call (luma_ _ _ _ _))))
             refine wpQuiet_nil ?_; intro u; have hzu := u.below.size; try simp at hzu))
        obtain ⟨W9, hb9⟩ := u
        simp only
        obtain ⟨HB, h3, h6, h7, HT⟩ := HH.out
        refine wp_region_noPanic ?_
        refine wp_region_fork (fun k => decide (k ∈ [2, 7, 12, 16, 17, 18, 19, 20])) [(2, false), (7, false), (12, false), (0, true), (1, true), (5, true), (6, true), (10, true), (11, true)] (7 + 5) (fun w' => w'.cell? ⟨w.heap.size + 1 + 1 + 1, 0, none⟩ = some V0 ∧ w'.cell? ⟨w.heap.size + 1 + 1 + 1, 1, none⟩ = some V1 ∧ w'.cell? ⟨w.heap.size + 1 + 1 + 1, 2, none⟩ = some V2) (by kernel_rfl) (by kernel_rfl) (LL false false false false false false false) (by kernel_rfl) ?_ ?_ ?_
        · exact ⟨cells_at (bh7 hb9 h7) 0, cells_at (bh7 hb9 h7) 1, cells_at (bh7 hb9 h7) 2⟩
        · exact fun _ _ _ _ _ h => h
        repeat (refine ahead_still (by rfl) (by rfl) (by (intro w' hC; first | (obtain ⟨hC0, hC1, hC2⟩ := hC rfl; clear hC; go_simp; done) | (go_simp; done) | (obtain ⟨hC0, hC1, hC2⟩ := hC rfl; clear hC; go_simp; all_goals with_reducible rfl) | (go_simp; all_goals with_reducible rfl))) ?_; simp only [Act.put, List.setIfInBounds_toArray, List.getElem_toArray, List.getElem_cons_succ, List.getElem_cons_zero, List.set_cons_succ, List.set_cons_zero])
        refine ahead_nil ?_
        refine fork3 (g := 5) (e := 3) (size := 1) (base := w.heap.size) (bytes := 8) (V0 := V0) (V1 := V1) (V2 := V2) (n := t) (Y0 := pys m L t 0) (Y1 := pys m L t 1) (Y2 := pys m L t 2) (U0 := [.int .i64 (lum1 (L i0) (L (i0 + 1)) (L (i0 + 2)))]) (U1 := [.int .i64 (lum2 (L i0) (L (i0 + 1)) (L (i0 + 2)))]) (U2 := [.int .i64 (lum3 (L i0) (L (i0 + 1)) (L (i0 + 2)))]) (pp := .pointer (some ⟨w.heap.size + 1 + 1 + 1, 0, none⟩)) (cs0 := #[.int .i64 (lum1 (L i0) (L (i0 + 1)) (L (i0 + 2)))]) (cs1 := #[.int .i64 (lum2 (L i0) (L (i0 + 1)) (L (i0 + 2)))]) (cs2 := #[.int .i64 (lum3 (L i0) (L (i0 + 1)) (L (i0 + 2)))]) ?_ ?_ ?_ ?_ ?_ ?_ ?_ ?_ ?_ ?_ ?_ ?_ ?_ ?_ ?_ ?_ ?_ ?_ ?_ ?_ ?_ ?_ ?_ ?_ ?_
        · kernel_rfl
        · intro W' hs
          have k7 := bsub7 hs (bh7 hb9 h7) (by decide)
          exact ⟨cells_at k7 0, cells_at k7 1, cells_at k7 2⟩
        · intro X W' K h
          exact wpOp_fill 48 rfl rfl rfl (by decide) (by kernel_rfl) h
        · intro X W' K h
          exact wpOp_fill 53 rfl rfl rfl (by decide) (by kernel_rfl) h
        · intro X W' K h
          exact wpOp_fill 58 rfl rfl rfl (by decide) (by kernel_rfl) h
        · exact ⟨_, _, _, _, rfl, rfl, rfl, rfl, rfl, fun X => ⟨by kernel_rfl, by kernel_rfl⟩⟩
        · exact ⟨_, _, _, _, rfl, rfl, rfl, rfl, rfl, fun X => ⟨by kernel_rfl, by kernel_rfl⟩⟩
        · exact ⟨_, _, _, _, rfl, rfl, rfl, rfl, rfl, fun X => ⟨by kernel_rfl, by kernel_rfl⟩⟩
        · intro X W' K h
          exact wpOp_fill 60 rfl rfl rfl (by decide) (by kernel_rfl) h
        · exact infos_int
        · rfl
        · rfl
        · rfl
        · rfl
        · rfl
        · rfl
        · omega
        · simp [Value.oneCell']
        · simp [Value.oneCell']
        · simp [Value.oneCell']
        · omega
        · omega
        · exact Nat.le_trans HB.size hb9.size
        · exact ((HT.below hb9).keep (W' := W9.drew) (fun _ _ _ _ => rfl)).congr (fun _ _ => rfl) (fun _ _ => rfl) (lt3 rfl rfl rfl)
        intro X W' J
        have k7 := bsub7 J.sub (bh7 hb9 h7) (by decide)
        have k3 := bsub7 J.sub (bh7 hb9 h3) (by decide)
        have k6 := bsub7 J.sub (bh7 hb9 h6) (by decide)
        have HB2 := (gr3 (HB.trans (hb9.mono HB.size))).trans (J.sub.below (Nat.le_trans HB.size hb9.size))
        obtain ⟨ga, ca, xa⟩ := own_shape (J.tri.own 0 (by omega)) (Nat.succ_pos _)
        obtain ⟨gb, cb, xb⟩ := own_shape (J.tri.own 1 (by omega)) (Nat.succ_pos _)
        obtain ⟨gc, cc, xc⟩ := own_shape (J.tri.own 2 (by omega)) (Nat.succ_pos _)
        have xa : X 49 = .slice (some ⟨ga, 0, none⟩) (t + 1) ca := xa
        have xb : X 54 = .slice (some ⟨gb, 0, none⟩) (t + 1) cb := xb
        have xc : X 59 = .slice (some ⟨gc, 0, none⟩) (t + 1) cc := xc
        have JT := hid2 J.tri
        rw [xa, xb, xc] at JT
        have hpp := J.pp rfl
        have g0 := cells_at k7 0
        have g1 := cells_at k7 1
        have g2 := cells_at k7 2
        have gf := row_free k7
        have gl := heap_lt k7
        simp at g0 g1 g2
        have HK := hid2 (And.intro HB2 (And.intro k3 (And.intro k6 k7)))
        clear HB2 k3 k6 k7 HB h3 h6 h7 HT J HH hb9 hzu
        simp only [fill, Act.put, List.setIfInBounds_toArray, List.set_cons_succ, List.set_cons_zero]
        rw [hpp, xa, xb, xc]
        clear hpp xa xb xc
        refine wpAnyZ_one 16 (by kernel_rfl) (wpOp_go rfl fun K hK => ?_)
        go_simp
        refine hK.out _ _ ⟨(fun h => nomatch h), ?_⟩
        clear hK K
        refine wpAnyZ_one 17 (by kernel_rfl) (wpOp_go rfl fun K hK => ?_)
        go_simp
        refine hK.out _ _ ⟨(fun h => nomatch h), ?_⟩
        clear hK K
        refine wpAnyZ_one 18 (by kernel_rfl) (wpOp_go rfl fun K hK => ?_)
        go_simp
        refine hK.out _ _ ⟨(fun h => nomatch h), ?_⟩
        clear hK K
        refine wpAnyZ_one 19 (by kernel_rfl) (wpOp_go rfl fun K hK => ?_)
        go_simp
        refine hK.out _ _ ⟨(fun h => nomatch h), ?_⟩
        clear hK K
        refine wpAnyZ_one 20 (by kernel_rfl) (wpOp_go rfl fun K hK => ?_)
        go_simp
        refine hK.out _ _ ⟨(fun h => nomatch h), ?_⟩
        clear hK K
        refine wpAnyZ_nil (by kernel_rfl) (NoPanic.normal ?_)
        have i9 : (i0 : Int) + 3 ≤ N := by omega
        have HLT := hid2 hlt
        go_wp2
        go_roundg (N - (i0 + 3))
        case measure => omega
        case rel =>
          obtain ⟨HB2, k3, k6, k7⟩ := HK.out
          refine ⟨t + 1, i0 + 3, _, _, _, by omega, by omega, by go_num, ?_, (set3_other (by omega)).trans k3, (set3_other (by omega)).trans k6, set3 k7, ?_, rfl, rfl, rfl⟩
          · exact gr4 (gr4 (gr4 HB2 (by simp; omega) _) (by simp; omega) _) (by simp; omega) _
          · refine (JT.out.keep (fun j g hj hg => set3_other ?_)).congr (fun _ _ => rfl) (lt3 rfl rfl rfl) (lt3 ?_ ?_ ?_)
            · rintro rfl
              obtain ⟨_, c5, f5, h5⟩ := own_tag (JT.out.own j hj) hg
              rw [k7] at h5
              injection h5 with h5
              injection h5 with _ h5
              exact absurd h5 (by decide)
            · show pys m L (t + 1) 0 = pys m L t 0 ++ [.int .i64 (lum1 (L i0) (L (i0 + 1)) (L (i0 + 2)))]
              subst hi0
              rw [pys_succ]; simp [partF, hm]
            · show pys m L (t + 1) 1 = pys m L t 1 ++ [.int .i64 (lum2 (L i0) (L (i0 + 1)) (L (i0 + 2)))]
              subst hi0
              rw [pys_succ]; simp [partF, hm]
            · show pys m L (t + 1) 2 = pys m L t 2 ++ [.int .i64 (lum3 (L i0) (L (i0 + 1)) (L (i0 + 2)))]
              subst hi0
              rw [pys_succ]; simp [partF, hm]
      · have t1 : decide ((i0 : Int) < N) = false := by simp; omega
        obtain rfl : t = n := by omega
        obtain ⟨g0, c0, e0⟩ := own_shape (HT.own 0 (by omega)) (by omega)
        obtain ⟨g1, c1, e1⟩ := own_shape (HT.own 1 (by omega)) (by omega)
        obtain ⟨g2, c2, e2⟩ := own_shape (HT.own 2 (by omega)) (by omega)
        have e0 : V0 = _ := e0
        have e1 : V1 = _ := e1
        have e2 : V2 = _ := e2
        subst e0 e1 e2
        have HC := hid2 (And.intro HB (And.intro HT (And.intro h6 h7)))
        have y0 := cells_at h7 0
        have y1 := cells_at h7 1
        have y2 := cells_at h7 2
        have z0 := cells_at h6 0
        have z1 := cells_at h6 1
        have z2 := cells_at h6 2
        have zf := row_free h6
        have zl := heap_lt h6
        simp at y0 y1 y2 z0 z1 z2
        clear HB HT h3 h6 h7 o0 o1 o2
        go_wp2
        refine bodyPost_ret (v := .agg #[.slice (some ⟨g0, 0, none⟩) t c0, .slice (some ⟨g1, 0, none⟩) t c1, .slice (some ⟨g2, 0, none⟩) t c2]) (by simp [results, Try.results53, go_sem, z0, z1, z2] <;> rfl) rfl ⟨_, _, _, rfl, ?_, ?_, rfl, rfl, rfl⟩
        · exact gr4 (gr4 (gr4 HC.out.1 (by simp; omega) _) (by simp; omega) _) (by simp; omega) _
        · obtain ⟨_, HT, h6, _⟩ := HC.out
          have HT2 := HT.keep (W' := ((wr.setCell ⟨w.heap.size + 1 + 1, 0, none⟩ (.slice (some ⟨g0, 0, none⟩) t c0)).setCell ⟨w.heap.size + 1 + 1, 1, none⟩ (.slice (some ⟨g1, 0, none⟩) t c1)).setCell ⟨w.heap.size + 1 + 1, 2, none⟩ (.slice (some ⟨g2, 0, none⟩) t c2)) (fun j g hj hg => set3_other (by
            rintro rfl
            obtain ⟨_, c5, f5, h5⟩ := own_tag (HT.own j hj) hg
            rw [h6] at h5
            injection h5 with h5
            injection h5 with _ h5
            exact absurd h5 (by decide)))
          rw [show ((t : Int)).toNat = t by simp]
          exact ⟨prow_of (HT2.own 0 (by omega)), fun _ => ⟨prow_of (HT2.own 1 (by omega)), prow_of (HT2.own 2 (by omega))⟩⟩
end Go.Proofs.Ytgegmlhpdpdnfaa
