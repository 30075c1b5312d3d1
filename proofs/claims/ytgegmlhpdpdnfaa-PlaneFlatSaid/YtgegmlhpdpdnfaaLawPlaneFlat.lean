/- PlaneFlat: the walk: it returns true. -/
import Derived.Test.YtgegmlhpdpdnfaaLawh
import Derived.Test.YtgegmlhpdpdnfaaFlatM
namespace Go.Proofs.Ytgegmlhpdpdnfaa
open Go.RowKit
theorem set_row {W : World} {g k : Nat} {cur : Array Value} {t : TypeId} {f : Nat × Nat} {v : Value} (h : W.heap[g]? = some (.cells cur t f)) : (W.setCell ⟨g, k, none⟩ v).heap[g]? = some (.cells (cur.setIfInBounds k v) t f) := by
  have hlt := heap_lt h
  unfold World.setCell
  simp [Array.getElem?_modify, h]
theorem set_lt {cur : Array Value} {k : Nat} {L : Nat → Int} (hk : k < cur.size) (h : ∀ j, j < k → cur[j]? = some (.int .u8 (L j))) : ∀ j, j < k + 1 → (cur.setIfInBounds k (.int .u8 (L k)))[j]? = some (.int .u8 (L j)) := by
  intro j hj
  rw [Array.getElem?_setIfInBounds]
  by_cases e : k = j
  · subst e; simp [hk]
  · rw [if_neg e]; exact h j (by omega)
set_option maxRecDepth 100000 in
set_option maxHeartbeats 4000000 in
theorem walk_PlaneFlat (a b d r gc b2 : Int) (w : World) (ba : 0 ≤ a ∧ a ≤ 255) (bb : 0 ≤ b ∧ b ≤ 255) (bd : 0 ≤ d ∧ d ≤ 255) (br : 0 ≤ r ∧ r ≤ 255) (bgc : 0 ≤ gc ∧ gc ≤ 255) (bb2 : 0 ≤ b2 ∧ b2 ≤ 255) :
    Calls Try.prog 6 #[.int .u8 a, .int .u8 b, .int .u8 d, .int .u8 r, .int .u8 gc, .int .u8 b2] w fun e w' => e = .returned (.bool true) ∧ Below w.heap.size w w' := by
  obtain ⟨x, hxe⟩ : ∃ x, 1 + a % 40 = x := ⟨_, rfl⟩
  obtain ⟨y, hye⟩ : ∃ y, 1 + b % 24 = y := ⟨_, rfl⟩
  obtain ⟨m, hme⟩ : ∃ m, 1 + d % 4 = m := ⟨_, rfl⟩
  have HP : Hid2 (∀ W, Calls Try.prog 15 #[.int .u8 a, .int .u8 b, .int .u8 d] W fun e w' => e = .returned (.agg #[.int .i64 x, .int .i64 y, .int .i64 m, .int .i64 50, .int .i64 1, .int .i64 0]) ∧ Below W.heap.size W w') := by
    intro W
    have h := Public_ a b d ba bb bd W
    rwa [hxe, hye, hme] at h
  have hx : 1 ≤ x ∧ x ≤ 40 := by omega
  have hy : 1 ≤ y ∧ y ≤ 24 := by omega
  have hm : m = 1 ∨ m = 2 ∨ m = 3 ∨ m = 4 := by omega
  clear hxe hye hme ba bb bd
  rcases hm with rfl | rfl | rfl | rfl
  · have hg : gridOk x y 1 := ⟨by decide, ⟨hx.1, by omega⟩, hy.1, by omega⟩
    have hw : sideW 1 = 8 ∧ sideH 1 = 8 := by decide
    obtain ⟨hw1, hw2⟩ := hw
    obtain ⟨A, hA, A1, A2, A3⟩ := ceil_ok (n := x) (d := 8) hx.1 (by omega) (by omega) (by omega)
    obtain ⟨B, hB, B1, B2, B3⟩ := ceil_ok (n := y) (d := 8) hy.1 (by omega) (by omega) (by omega)
    have hga : gridA x y 1 = A := by rw [(grid_ok hg).1, hw1, hA]
    have hgb : gridB x y 1 = B := by rw [(grid_ok hg).2, hw2, hB]
    have hxy : 1 ≤ x * y ∧ x * y ≤ 960 := ⟨by have := Int.mul_le_mul hx.1 hy.1 (by omega) (by omega); omega, by have := Int.mul_le_mul hx.2 hy.2 (by omega) (by omega); omega⟩
    obtain ⟨N, hN⟩ : ∃ N : Nat, (N : Int) = x * y := ⟨(x * y).toNat, by omega⟩
    have hN1 : 1 ≤ N ∧ N ≤ 2880 := by omega
    obtain ⟨T, hT⟩ : ∃ T : Nat, (A : Int) * B = T := ⟨A * B, by simp⟩
    have hT1 : 1 ≤ T ∧ T ≤ 960 := by
      have h1 := Int.mul_le_mul (show (1 : Int) ≤ A by omega) (show (1 : Int) ≤ B by omega) (by omega) (by omega)
      have h2 := Int.mul_le_mul (show (A : Int) ≤ 40 by omega) (show (B : Int) ≤ 24 by omega) (by omega) (by omega)
      omega
    have HI : Hid2 (∀ (W : World),  Calls Try.prog 16 #[.agg #[.int .i64 x, .int .i64 y, .int .i64 1, .int .i64 50, .int .i64 1, .int .i64 0], .slice none 0 0] W fun e w' => ∃ g cap, e = .returned (.agg #[.int .i64 x, .int .i64 y, .bool false, .slice (some ⟨g, 0, none⟩) N cap]) ∧ Below W.heap.size W w' ∧ w'.ownsRow W.heap.size 5 1 (.slice (some ⟨g, 0, none⟩) N cap) N (rowU (imgI 0 (fun _ => 0)) N)) := fun W => Image_ 50 1 0 hx hy (by simpa using hN) (by omega) W ⟨fun i hi => absurd hi (by omega), none, 0, rfl, fun i hi => absurd hi (by omega)⟩
    obtain ⟨M, hM⟩ : ∃ M, splitM x y 1 (partF 1 (flatL 1 r gc b2)) A T = M := ⟨_, rfl⟩
    have hMl : M.length = T := by rw [← hM]; exact splitM_len _ _ _ _ _ _
    have hMk : Hid2 (∀ bs ∈ M, bs.length = 1) := by rw [← hM]; exact split_len1
    have HSP : Hid2 (∀ (W : World) (g cap : Nat), g < W.heap.size → (∀ k, k < N → W.cell? ⟨g, k, none⟩ = some (.int .u8 ((flatL 1 r gc b2) k))) → Calls Try.prog 17 #[.agg #[.int .i64 x, .int .i64 y, .int .i64 1, .int .i64 50, .int .i64 1, .int .i64 0], .agg #[.int .i64 x, .int .i64 y, .bool false, .slice (some ⟨g, 0, none⟩) N cap]] W fun e w' => ∃ u, e = .returned u ∧ Below W.heap.size W w' ∧ RM w' u M) := fun W g cap h1 h2 => by
      have h := Split_ (q := 50) (i := 1) (c := 0) (rgb := false) (pc := cap) hg (by omega) (N := N) (by simpa using hN) (by decide) W h1 h2 (flatL_bd br bgc bb2)
      rw [hga, hgb, hT] at h
      simp only [Int.toNat_natCast] at h
      rwa [hM] at h
    have hMv : Hid2 (∀ (i : Nat) bs, M[i]? = some bs → ∀ (k : Nat) f, bs[k]? = some f → ∀ j, f j = flatV 1 r gc b2 k) := by rw [← hM]; exact flat_M (by omega)
    clear hM hga hgb hA hB hg hw1 hw2 hN hxy hx hy A1 A2 A3 B1 B2 B3 hT
    go_enter Try.func6, Try.ntmps6
    go_wp2_with (first
      | (go_at_call 15; refine (HP.out _).mono ?_; rintro e WP ⟨rfl, hbP⟩; have hzP := hbP.size)
      | (refine wpList_store_row rfl _ _ _ rfl WP.heap.size #[.int .i64 x, .int .i64 y, .int .i64 1, .int .i64 50, .int .i64 1, .int .i64 0] rfl rfl 23 #[.int .i64 0, .int .i64 0, .int .i64 0, .int .i64 0, .int .i64 0, .int .i64 0] (heap_alloc_new _ _) (by kernel_rfl) rfl rfl ?_; rw [World.setRow_alloc_new])
      | (go_at_call 16; refine (HI.out _).mono ?_; rintro e W3 ⟨gi, ci, rfl, hb3, own3⟩; have hz3 := hb3.size)
      | (refine wpList_store_row rfl _ _ _ rfl W3.heap.size #[.int .i64 x, .int .i64 y, .bool false, .slice (some ⟨gi, 0, none⟩) N ci] rfl rfl 32 #[.int .i64 0, .int .i64 0, .bool false, .slice none 0 0] (heap_alloc_new _ _) (by kernel_rfl) rfl rfl ?_; rw [World.setRow_alloc_new]))
    obtain ⟨hl3, hnil | ⟨g9, cap9, cur9, e9, hbase9, hheap9, hcap9, _, hsz9, htk9⟩⟩ := own3
    · have := hnil.2; omega
    cases e9
    have hgi := hbase9
    simp at hgi
    have hgl := heap_lt hheap9
    have hzz := hbP.size
    refine wp_abs7 (fun W => Below w.heap.size w W ∧ W.heap[WP.heap.size]? = some (.cells #[.int .i64 x, .int .i64 y, .int .i64 1, .int .i64 50, .int .i64 1, .int .i64 0] 23 (0, 0)) ∧ W.heap[WP.heap.size + 1]? = some (.cells #[.int .u8 r, .int .u8 gc, .int .u8 b2] 5 (0, 0)) ∧ W.heap[W3.heap.size]? = some (.cells #[.int .i64 x, .int .i64 y, .bool false, .slice (some ⟨gi, 0, none⟩) N ci] 32 (0, 0)) ∧ ∃ cur, W.heap[gi]? = some (.cells cur 5 (0, 0)) ∧ N ≤ cur.size) ⟨?_, ?_, ?_, ?_, cur9, ?_, by omega⟩ ?_
    · exact gr1 (gr2 (gr1 (gr1 hbP _) _) hb3) _
    · exact bh7 (gr1 (gr0 _) _) (bh7 hb3 (bh7 (gr1 (gr0 _) _) (heap_alloc_new _ _)))
    · exact bh7 (gr1 (gr0 _) _) (bh7 hb3 (heap_alloc_at (by simp)))
    · exact heap_alloc_new _ _
    · exact bh7 (gr1 (gr0 _) _) hheap9
    clear hl3 hheap9 hcap9 hsz9 htk9 hbase9
    rintro W ⟨HB0, hP0, hC0, hI0, cur0, hG0, hc0⟩
    have hg3 : WP.heap.size + 1 < W3.heap.size := by omega
    clear hb3
    go_loopg [16] N (fun gj ix wr => ∃ k : Nat, k + gj = N ∧ ix = .int .i64 k ∧ Below w.heap.size w wr ∧ wr.heap[WP.heap.size]? = some (.cells #[.int .i64 x, .int .i64 y, .int .i64 1, .int .i64 50, .int .i64 1, .int .i64 0] 23 (0, 0)) ∧ wr.heap[WP.heap.size + 1]? = some (.cells #[.int .u8 r, .int .u8 gc, .int .u8 b2] 5 (0, 0)) ∧ wr.heap[W3.heap.size]? = some (.cells #[.int .i64 x, .int .i64 y, .bool false, .slice (some ⟨gi, 0, none⟩) N ci] 32 (0, 0)) ∧ ∃ cur, wr.heap[gi]? = some (.cells cur 5 (0, 0)) ∧ N ≤ cur.size ∧ ∀ j, j < k → cur[j]? = some (.int .u8 (flatL 1 r gc b2 j)))
    case atStart => exact ⟨0, by omega, rfl, HB0, hP0, hC0, hI0, cur0, hG0, hc0, fun j hj => absurd hj (by omega)⟩
    case round =>
      clear HB0 hP0 hC0 hI0 hG0 hc0
      obtain ⟨k, hk, rfl, HB, hP, hC, hI, cur, hG, hc, hv⟩ := hrel
      have i3 := cells_at hI 3
      have p2 := cells_at hP 2
      have yi := heap_lt hI
      have yp := heap_lt hP
      have yg := heap_lt hG
      have yc := heap_lt hC
      simp at i3 p2
      by_cases hlt : k < N
      · have t1 : decide ((k : Int) < N) = true := by simp; omega
        have i9 : (0 : Int) ≤ k ∧ (k : Int) < N := by omega
        obtain ⟨rm, hrm⟩ : ∃ rm, k % 3 = rm := ⟨_, rfl⟩
        have r1 : ∀ c : Int, c = 3 → Int.tmod (k : Int) c = rm := by rintro c rfl; rw [Int.tmod_eq_emod_of_nonneg (by omega)]; omega
        have r3 : (0 : Int) ≤ rm ∧ (rm : Int) < 3 := by omega
        obtain ⟨z, hz⟩ : ∃ z, (if rm = 0 then r else if rm = 1 then gc else b2) = z := ⟨_, rfl⟩
        have c1 : wr.cell? ⟨WP.heap.size + 1, rm, none⟩ = some (.int .u8 z) := by
          have h := cells_at hC rm
          rw [h, ← hz]
          have h3 : rm = 0 ∨ rm = 1 ∨ rm = 2 := by omega
          rcases h3 with rfl | rfl | rfl <;> rfl
        obtain ⟨ug, hug⟩ : ∃ u, cur[k]? = some u := ⟨_, Array.getElem?_eq_getElem (by omega)⟩
        have g1 : wr.cell? ⟨gi, k, none⟩ = some ug := (cells_at hG k).trans hug
        have gf := row_free hG
        have HX := hid2 (And.intro HB (And.intro hP (And.intro hC (And.intro hI (And.intro hG (And.intro hc hv))))))
        have HZ := hid2 (And.intro hrm hz)
        clear HB hP hC hI hG hc hv hrm hz hug
        go_wp2
        refine wp_region_calm_tail 9 (by kernel_rfl) (by kernel_rfl) ?_
        simp only [List.take_succ_cons, List.take_zero, List.drop_succ_cons, List.drop_zero]
        repeat (first | go_big_quiet_step (fail) | quiet_step (fail))
        refine wpQuiet_nil ?_
        intro u
        obtain ⟨W9, hb9⟩ := u
        simp only
        have c9 := (hb9.cell (p := ⟨gi, k, none⟩) yg).trans g1
        have f9 := (hb9.frozen (p := ⟨gi, k, none⟩) yg).trans (gf k)
        have p9 := (hb9.cell (p := ⟨WP.heap.size, 2, none⟩) yp).trans p2
        have i8 := (hb9.cell (p := ⟨W3.heap.size, 3, none⟩) yi).trans i3
        have z9 := hb9.size
        have HX9 := hid2 hb9
        clear hb9 c1 g1 gf p2 i3
        go_wp2
        go_roundg (N - (k + 1))
        case measure => omega
        case rel =>
          obtain ⟨HB, hP, hC, hI, hG, hc, hv⟩ := HX.out
          obtain ⟨hrm, hz⟩ := HZ.out
          have hb9 := HX9.out
          have HB9 := HB.trans (hb9.mono HB.size)
          have hgw : w.heap.size ≤ gi := by omega
          have e : r = flatL 1 r gc b2 k := by unfold flatL; rw [if_pos rfl]
          refine ⟨k + 1, by omega, by go_num, gr4 (gr4 HB9 hgw _) hgw _, (set_other7 (by omega)).trans ((set_other7 (by omega)).trans (bh7 hb9 hP)), (set_other7 (by omega)).trans ((set_other7 (by omega)).trans (bh7 hb9 hC)), (set_other7 (by omega)).trans ((set_other7 (by omega)).trans (bh7 hb9 hI)), _, set_row (set_row (bh7 hb9 hG)), by simpa using hc, ?_⟩
          have h3 := set_lt (cur := cur.setIfInBounds k (.int .u8 z)) (k := k) (L := flatL 1 r gc b2) (by simp; omega) (fun j hj => by rw [Array.getElem?_setIfInBounds, if_neg (by omega)]; exact hv j hj)
          rw [← e] at h3
          exact h3
      · obtain rfl : k = N := by omega
        have t1 : decide ((k : Int) < k) = false := by simp
        have i0 := cells_at hI 0
        have i1 := cells_at hI 1
        have i2 := cells_at hI 2
        have p0 := cells_at hP 0
        have p1 := cells_at hP 1
        have p3 := cells_at hP 3
        have p4 := cells_at hP 4
        have p5 := cells_at hP 5
        simp at i0 i1 i2 p0 p1 p3 p4 p5
        have hcl : ∀ j, j < k → wr.cell? ⟨gi, j, none⟩ = some (.int .u8 ((flatL 1 r gc b2) j)) := fun j hj => (cells_at hG j).trans (hv j hj)
        have HB5 := hid2 HB
        have HM0 := hid2 (show 0 < T from hT1.1)
        clear HB hP hC hI hG hc hv
        go_wp2_with (first
          | (go_at_call 17; refine (HSP.out wr gi ci yg hcl).mono ?_; rintro e W6 ⟨v6, rfl, hb6, HR6⟩; obtain ⟨gv, ov, cv, hv6, hgv, hrv⟩ := id HR6; rw [hMl] at hv6; subst hv6))
        have HRM := hid2 HR6
        have HBB := hid2 (HB5.out.trans (hb6.mono HB5.out.size))
        clear HR6 hgv hrv hb6 hcl i0 i1 i2 i3 p0 p1 p2 p3 p4 p5 yi yp yg yc HB5
        go_loopg [18] T (fun gj ix wr => ∃ i : Nat, i + gj = T ∧ ix = .int .i64 i ∧ Below W6.heap.size W6 wr)
        case atStart => exact ⟨0, by omega, rfl, gr0 _⟩
        case round =>
          obtain ⟨i, hi, rfl, HB⟩ := hrel
          by_cases hlt : i < T
          · have t1 : decide ((i : Int) < T) = true := by simp; omega
            have i9 : (0 : Int) ≤ i ∧ (i : Int) < T := by omega
            obtain ⟨bi, hbi⟩ : ∃ f, M[i]? = some f := ⟨_, List.getElem?_eq_getElem (by omega)⟩
            obtain ⟨bz, hbz⟩ : ∃ f, M[0]? = some f := ⟨_, List.getElem?_eq_getElem (by omega)⟩
            have li := hMk.out bi (List.mem_of_getElem? hbi)
            have lz := hMk.out bz (List.mem_of_getElem? hbz)
            obtain ⟨_, _, _, e1, hgv, r1⟩ := HRM.out.below HB
            cases e1
            obtain ⟨_, q1, gu, cu, rfl, zu, su⟩ := r1 i bi hbi
            obtain ⟨_, q2, gz, cz, rfl, zz, sz⟩ := r1 0 bz hbz
            rw [li] at q1
            rw [lz, Nat.add_zero] at q2
            have HSU := hid2 su
            have HSZ := hid2 sz
            have HBI := hid2 (And.intro hbi (And.intro hbz (And.intro li lz)))
            have HB7 := hid2 HB
            clear su sz r1 hbi hbz li lz HB
            go_wp2_with (first
      | (refine wp_region_calm (by kernel_rfl) (by kernel_rfl) ?_; repeat (first | go_big_quiet_step (fail) | quiet_step (fail))
         refine wpQuiet_nil ?_; intro u; have hzu := u.below.size; try simp at hzu))
            obtain ⟨Wo, hbo⟩ := u
            simp only
            clear hzu
            obtain ⟨wo, rfl⟩ : ∃ wo, wo = wr := ⟨_, rfl⟩
            go_loopg [19] 1 (fun gj ix wr => ∃ kk : Nat, kk + gj = 1 ∧ ix = .int .i64 kk ∧ Below wo.heap.size wo wr)
            case atStart => exact ⟨0, by omega, rfl, hbo⟩
            case round =>
              obtain ⟨kk, hkk, rfl, HBk⟩ := hrel
              have q1k := (HBk.cell (p := ⟨gv, ov + i, none⟩) hgv).trans q1
              have ygk := Nat.lt_of_lt_of_le hgv HBk.size
              by_cases hlk : kk < 1
              · have t2 : decide ((kk : Int) < 1) = true := by simp; omega
                have k9 : (0 : Int) ≤ kk ∧ (kk : Int) < 1 := by omega
                obtain ⟨fi, hfi⟩ : ∃ f, bi[kk]? = some f := ⟨_, List.getElem?_eq_getElem (by rw [HBI.out.2.2.1]; omega)⟩
                obtain ⟨fz, hfz⟩ : ∃ f, bz[kk]? = some f := ⟨_, List.getElem?_eq_getElem (by rw [HBI.out.2.2.2]; omega)⟩
                obtain ⟨z, hz⟩ : ∃ z, flatV 1 r gc b2 kk = z := ⟨_, rfl⟩
                have hvi := hMv.out i bi HBI.out.1 kk fi hfi
                have hvz := hMv.out 0 bz HBI.out.2.1 kk fz hfz
                rw [hz] at hvi hvz
                have si : Hid2 (∀ j, j < 64 → wo.cell? ⟨gu, kk * 64 + j, none⟩ = some (.int .i64 z)) := fun j hj => by have h := HSU.out kk fi hfi j hj; rwa [hvi j] at h
                have sz : Hid2 (wo.cell? ⟨gz, kk * 64, none⟩ = some (.int .i64 z)) := by have h := HSZ.out kk fz hfz 0 (by omega); rwa [hvz 0] at h
                have HBq := hid2 HBk
                clear hfi hfz hz hvi hvz HBk
                go_wp2
                clear q1k ygk
                obtain ⟨wq, rfl⟩ : ∃ wq, wq = wr := ⟨_, rfl⟩
                go_loopg [20] 64 (fun gj ix wr => ∃ j : Nat, j + gj = 64 ∧ ix = .int .i64 j ∧ Below wo.heap.size wo wr)
                case atStart => exact ⟨0, by omega, rfl, HBq.out⟩
                case round =>
                  obtain ⟨j, hj, rfl, HBj⟩ := hrel
                  by_cases hlj : j < 64
                  · have t3 : decide ((j : Int) < 64) = true := by simp; omega
                    have j9 : (0 : Int) ≤ j ∧ (j : Int) < 64 := by omega
                    have q1j := (HBj.cell (p := ⟨gv, ov + i, none⟩) hgv).trans q1
                    have q2j := (HBj.cell (p := ⟨gv, ov, none⟩) hgv).trans q2
                    have s1 := (HBj.cell (p := ⟨gu, kk * 64 + j, none⟩) zu).trans (si.out j hlj)
                    have s2 := (HBj.cell (p := ⟨gz, kk * 64, none⟩) zz).trans sz.out
                    have y1 := Nat.lt_of_lt_of_le hgv HBj.size
                    have y2 := Nat.lt_of_lt_of_le zu HBj.size
                    have y3 := Nat.lt_of_lt_of_le zz HBj.size
                    go_wp2_with (first
      | (refine wp_region_calm (by kernel_rfl) (by kernel_rfl) ?_; repeat (first | go_big_quiet_step (fail) | quiet_step (fail))
         refine wpQuiet_nil ?_; intro u; have hzu := u.below.size; try simp at hzu))
                    go_roundg (64 - (j + 1))
                    case measure => omega
                    case rel => exact ⟨j + 1, by omega, by go_num, gr2 HBj u.below⟩
                  · obtain rfl : j = 64 := by omega
                    have t3 : decide (((64 : Nat) : Int) < 64) = false := rfl
                    go_wp2
                    go_roundg (1 - (kk + 1))
                    case measure => omega
                    case rel => exact ⟨kk + 1, by omega, by go_num, HBj⟩
              · obtain rfl : kk = 1 := by omega
                have t2 : decide (((1 : Nat) : Int) < 1) = false := rfl
                go_wp2
                go_roundg (M.length - (i + 1))
                case measure => omega
                case rel => exact ⟨i + 1, by omega, by go_num, HB7.out.trans (HBk.mono HB7.out.size)⟩
          · have t1 : decide ((i : Int) < T) = false := by simp; omega
            have t0 : decide (0 < T) = true := by simp; omega
            have HB9 := hid2 (HBB.out.trans (HB.mono HBB.out.size))
            clear HB
            go_wp2_with (first
              | (go_at_call 13; refine (known07 _).mono ?_; rintro e W9 ⟨rfl, hb9⟩; obtain ⟨hc9, hf9, hz9⟩ := bcell hb9; try simp at hz9))
            go_ret
            exact ⟨rfl, gr2 HB9.out hb9⟩
  · have hg : gridOk x y 2 := ⟨by decide, ⟨hx.1, by omega⟩, hy.1, by omega⟩
    have hw : sideW 2 = 8 ∧ sideH 2 = 8 := by decide
    obtain ⟨hw1, hw2⟩ := hw
    obtain ⟨A, hA, A1, A2, A3⟩ := ceil_ok (n := x) (d := 8) hx.1 (by omega) (by omega) (by omega)
    obtain ⟨B, hB, B1, B2, B3⟩ := ceil_ok (n := y) (d := 8) hy.1 (by omega) (by omega) (by omega)
    have hga : gridA x y 2 = A := by rw [(grid_ok hg).1, hw1, hA]
    have hgb : gridB x y 2 = B := by rw [(grid_ok hg).2, hw2, hB]
    have hxy : 1 ≤ x * y ∧ x * y ≤ 960 := ⟨by have := Int.mul_le_mul hx.1 hy.1 (by omega) (by omega); omega, by have := Int.mul_le_mul hx.2 hy.2 (by omega) (by omega); omega⟩
    obtain ⟨N, hN⟩ : ∃ N : Nat, (N : Int) = 3 * (x * y) := ⟨(3 * (x * y)).toNat, by omega⟩
    have hN1 : 1 ≤ N ∧ N ≤ 2880 := by omega
    obtain ⟨T, hT⟩ : ∃ T : Nat, (A : Int) * B = T := ⟨A * B, by simp⟩
    have hT1 : 1 ≤ T ∧ T ≤ 960 := by
      have h1 := Int.mul_le_mul (show (1 : Int) ≤ A by omega) (show (1 : Int) ≤ B by omega) (by omega) (by omega)
      have h2 := Int.mul_le_mul (show (A : Int) ≤ 40 by omega) (show (B : Int) ≤ 24 by omega) (by omega) (by omega)
      omega
    have HI : Hid2 (∀ (W : World),  Calls Try.prog 16 #[.agg #[.int .i64 x, .int .i64 y, .int .i64 2, .int .i64 50, .int .i64 1, .int .i64 0], .slice none 0 0] W fun e w' => ∃ g cap, e = .returned (.agg #[.int .i64 x, .int .i64 y, .bool true, .slice (some ⟨g, 0, none⟩) N cap]) ∧ Below W.heap.size W w' ∧ w'.ownsRow W.heap.size 5 1 (.slice (some ⟨g, 0, none⟩) N cap) N (rowU (imgI 0 (fun _ => 0)) N)) := fun W => Image_ 50 1 0 hx hy (by simpa using hN) (by omega) W ⟨fun i hi => absurd hi (by omega), none, 0, rfl, fun i hi => absurd hi (by omega)⟩
    obtain ⟨M, hM⟩ : ∃ M, splitM x y 2 (partF 2 (flatL 2 r gc b2)) A T = M := ⟨_, rfl⟩
    have hMl : M.length = T := by rw [← hM]; exact splitM_len _ _ _ _ _ _
    have hMk : Hid2 (∀ bs ∈ M, bs.length = 3) := by rw [← hM]; exact split_len2
    have HSP : Hid2 (∀ (W : World) (g cap : Nat), g < W.heap.size → (∀ k, k < N → W.cell? ⟨g, k, none⟩ = some (.int .u8 ((flatL 2 r gc b2) k))) → Calls Try.prog 17 #[.agg #[.int .i64 x, .int .i64 y, .int .i64 2, .int .i64 50, .int .i64 1, .int .i64 0], .agg #[.int .i64 x, .int .i64 y, .bool true, .slice (some ⟨g, 0, none⟩) N cap]] W fun e w' => ∃ u, e = .returned u ∧ Below W.heap.size W w' ∧ RM w' u M) := fun W g cap h1 h2 => by
      have h := Split_ (q := 50) (i := 1) (c := 0) (rgb := true) (pc := cap) hg (by omega) (N := N) (by simpa using hN) (by decide) W h1 h2 (flatL_bd br bgc bb2)
      rw [hga, hgb, hT] at h
      simp only [Int.toNat_natCast] at h
      rwa [hM] at h
    have hMv : Hid2 (∀ (i : Nat) bs, M[i]? = some bs → ∀ (k : Nat) f, bs[k]? = some f → ∀ j, f j = flatV 2 r gc b2 k) := by rw [← hM]; exact flat_M (by omega)
    clear hM hga hgb hA hB hg hw1 hw2 hN hxy hx hy A1 A2 A3 B1 B2 B3 hT
    go_enter Try.func6, Try.ntmps6
    go_wp2_with (first
      | (go_at_call 15; refine (HP.out _).mono ?_; rintro e WP ⟨rfl, hbP⟩; have hzP := hbP.size)
      | (refine wpList_store_row rfl _ _ _ rfl WP.heap.size #[.int .i64 x, .int .i64 y, .int .i64 2, .int .i64 50, .int .i64 1, .int .i64 0] rfl rfl 23 #[.int .i64 0, .int .i64 0, .int .i64 0, .int .i64 0, .int .i64 0, .int .i64 0] (heap_alloc_new _ _) (by kernel_rfl) rfl rfl ?_; rw [World.setRow_alloc_new])
      | (go_at_call 16; refine (HI.out _).mono ?_; rintro e W3 ⟨gi, ci, rfl, hb3, own3⟩; have hz3 := hb3.size)
      | (refine wpList_store_row rfl _ _ _ rfl W3.heap.size #[.int .i64 x, .int .i64 y, .bool true, .slice (some ⟨gi, 0, none⟩) N ci] rfl rfl 32 #[.int .i64 0, .int .i64 0, .bool false, .slice none 0 0] (heap_alloc_new _ _) (by kernel_rfl) rfl rfl ?_; rw [World.setRow_alloc_new]))
    obtain ⟨hl3, hnil | ⟨g9, cap9, cur9, e9, hbase9, hheap9, hcap9, _, hsz9, htk9⟩⟩ := own3
    · have := hnil.2; omega
    cases e9
    have hgi := hbase9
    simp at hgi
    have hgl := heap_lt hheap9
    have hzz := hbP.size
    refine wp_abs7 (fun W => Below w.heap.size w W ∧ W.heap[WP.heap.size]? = some (.cells #[.int .i64 x, .int .i64 y, .int .i64 2, .int .i64 50, .int .i64 1, .int .i64 0] 23 (0, 0)) ∧ W.heap[WP.heap.size + 1]? = some (.cells #[.int .u8 r, .int .u8 gc, .int .u8 b2] 5 (0, 0)) ∧ W.heap[W3.heap.size]? = some (.cells #[.int .i64 x, .int .i64 y, .bool true, .slice (some ⟨gi, 0, none⟩) N ci] 32 (0, 0)) ∧ ∃ cur, W.heap[gi]? = some (.cells cur 5 (0, 0)) ∧ N ≤ cur.size) ⟨?_, ?_, ?_, ?_, cur9, ?_, by omega⟩ ?_
    · exact gr1 (gr2 (gr1 (gr1 hbP _) _) hb3) _
    · exact bh7 (gr1 (gr0 _) _) (bh7 hb3 (bh7 (gr1 (gr0 _) _) (heap_alloc_new _ _)))
    · exact bh7 (gr1 (gr0 _) _) (bh7 hb3 (heap_alloc_at (by simp)))
    · exact heap_alloc_new _ _
    · exact bh7 (gr1 (gr0 _) _) hheap9
    clear hl3 hheap9 hcap9 hsz9 htk9 hbase9
    rintro W ⟨HB0, hP0, hC0, hI0, cur0, hG0, hc0⟩
    have hg3 : WP.heap.size + 1 < W3.heap.size := by omega
    clear hb3
    go_loopg [16] N (fun gj ix wr => ∃ k : Nat, k + gj = N ∧ ix = .int .i64 k ∧ Below w.heap.size w wr ∧ wr.heap[WP.heap.size]? = some (.cells #[.int .i64 x, .int .i64 y, .int .i64 2, .int .i64 50, .int .i64 1, .int .i64 0] 23 (0, 0)) ∧ wr.heap[WP.heap.size + 1]? = some (.cells #[.int .u8 r, .int .u8 gc, .int .u8 b2] 5 (0, 0)) ∧ wr.heap[W3.heap.size]? = some (.cells #[.int .i64 x, .int .i64 y, .bool true, .slice (some ⟨gi, 0, none⟩) N ci] 32 (0, 0)) ∧ ∃ cur, wr.heap[gi]? = some (.cells cur 5 (0, 0)) ∧ N ≤ cur.size ∧ ∀ j, j < k → cur[j]? = some (.int .u8 (flatL 2 r gc b2 j)))
    case atStart => exact ⟨0, by omega, rfl, HB0, hP0, hC0, hI0, cur0, hG0, hc0, fun j hj => absurd hj (by omega)⟩
    case round =>
      clear HB0 hP0 hC0 hI0 hG0 hc0
      obtain ⟨k, hk, rfl, HB, hP, hC, hI, cur, hG, hc, hv⟩ := hrel
      have i3 := cells_at hI 3
      have p2 := cells_at hP 2
      have yi := heap_lt hI
      have yp := heap_lt hP
      have yg := heap_lt hG
      have yc := heap_lt hC
      simp at i3 p2
      by_cases hlt : k < N
      · have t1 : decide ((k : Int) < N) = true := by simp; omega
        have i9 : (0 : Int) ≤ k ∧ (k : Int) < N := by omega
        obtain ⟨rm, hrm⟩ : ∃ rm, k % 3 = rm := ⟨_, rfl⟩
        have r1 : ∀ c : Int, c = 3 → Int.tmod (k : Int) c = rm := by rintro c rfl; rw [Int.tmod_eq_emod_of_nonneg (by omega)]; omega
        have r3 : (0 : Int) ≤ rm ∧ (rm : Int) < 3 := by omega
        obtain ⟨z, hz⟩ : ∃ z, (if rm = 0 then r else if rm = 1 then gc else b2) = z := ⟨_, rfl⟩
        have c1 : wr.cell? ⟨WP.heap.size + 1, rm, none⟩ = some (.int .u8 z) := by
          have h := cells_at hC rm
          rw [h, ← hz]
          have h3 : rm = 0 ∨ rm = 1 ∨ rm = 2 := by omega
          rcases h3 with rfl | rfl | rfl <;> rfl
        obtain ⟨ug, hug⟩ : ∃ u, cur[k]? = some u := ⟨_, Array.getElem?_eq_getElem (by omega)⟩
        have g1 : wr.cell? ⟨gi, k, none⟩ = some ug := (cells_at hG k).trans hug
        have gf := row_free hG
        have HX := hid2 (And.intro HB (And.intro hP (And.intro hC (And.intro hI (And.intro hG (And.intro hc hv))))))
        have HZ := hid2 (And.intro hrm hz)
        clear HB hP hC hI hG hc hv hrm hz hug
        go_wp2
        refine wp_region_calm_tail 9 (by kernel_rfl) (by kernel_rfl) ?_
        simp only [List.take_succ_cons, List.take_zero, List.drop_succ_cons, List.drop_zero]
        repeat (first | go_big_quiet_step (fail) | quiet_step (fail))
        refine wpQuiet_nil ?_
        intro u
        obtain ⟨W9, hb9⟩ := u
        simp only
        have c9 := (hb9.cell (p := ⟨gi, k, none⟩) yg).trans g1
        have f9 := (hb9.frozen (p := ⟨gi, k, none⟩) yg).trans (gf k)
        have p9 := (hb9.cell (p := ⟨WP.heap.size, 2, none⟩) yp).trans p2
        have i8 := (hb9.cell (p := ⟨W3.heap.size, 3, none⟩) yi).trans i3
        have z9 := hb9.size
        have HX9 := hid2 hb9
        clear hb9 c1 g1 gf p2 i3
        go_wp2
        go_roundg (N - (k + 1))
        case measure => omega
        case rel =>
          obtain ⟨HB, hP, hC, hI, hG, hc, hv⟩ := HX.out
          obtain ⟨hrm, hz⟩ := HZ.out
          have hb9 := HX9.out
          have HB9 := HB.trans (hb9.mono HB.size)
          have hgw : w.heap.size ≤ gi := by omega
          have e : z = flatL 2 r gc b2 k := by rw [← hz, ← hrm]; unfold flatL; rw [if_neg (show ¬ ((2 : Int) = 1) by decide)]
          rw [e]
          exact ⟨k + 1, by omega, by go_num, gr4 HB9 hgw _, (set_other7 (by omega)).trans (bh7 hb9 hP), (set_other7 (by omega)).trans (bh7 hb9 hC), (set_other7 (by omega)).trans (bh7 hb9 hI), _, set_row (bh7 hb9 hG), by simpa using hc, set_lt (by omega) hv⟩
      · obtain rfl : k = N := by omega
        have t1 : decide ((k : Int) < k) = false := by simp
        have i0 := cells_at hI 0
        have i1 := cells_at hI 1
        have i2 := cells_at hI 2
        have p0 := cells_at hP 0
        have p1 := cells_at hP 1
        have p3 := cells_at hP 3
        have p4 := cells_at hP 4
        have p5 := cells_at hP 5
        simp at i0 i1 i2 p0 p1 p3 p4 p5
        have hcl : ∀ j, j < k → wr.cell? ⟨gi, j, none⟩ = some (.int .u8 ((flatL 2 r gc b2) j)) := fun j hj => (cells_at hG j).trans (hv j hj)
        have HB5 := hid2 HB
        have HM0 := hid2 (show 0 < T from hT1.1)
        clear HB hP hC hI hG hc hv
        go_wp2_with (first
          | (go_at_call 17; refine (HSP.out wr gi ci yg hcl).mono ?_; rintro e W6 ⟨v6, rfl, hb6, HR6⟩; obtain ⟨gv, ov, cv, hv6, hgv, hrv⟩ := id HR6; rw [hMl] at hv6; subst hv6))
        have HRM := hid2 HR6
        have HBB := hid2 (HB5.out.trans (hb6.mono HB5.out.size))
        clear HR6 hgv hrv hb6 hcl i0 i1 i2 i3 p0 p1 p2 p3 p4 p5 yi yp yg yc HB5
        go_loopg [18] T (fun gj ix wr => ∃ i : Nat, i + gj = T ∧ ix = .int .i64 i ∧ Below W6.heap.size W6 wr)
        case atStart => exact ⟨0, by omega, rfl, gr0 _⟩
        case round =>
          obtain ⟨i, hi, rfl, HB⟩ := hrel
          by_cases hlt : i < T
          · have t1 : decide ((i : Int) < T) = true := by simp; omega
            have i9 : (0 : Int) ≤ i ∧ (i : Int) < T := by omega
            obtain ⟨bi, hbi⟩ : ∃ f, M[i]? = some f := ⟨_, List.getElem?_eq_getElem (by omega)⟩
            obtain ⟨bz, hbz⟩ : ∃ f, M[0]? = some f := ⟨_, List.getElem?_eq_getElem (by omega)⟩
            have li := hMk.out bi (List.mem_of_getElem? hbi)
            have lz := hMk.out bz (List.mem_of_getElem? hbz)
            obtain ⟨_, _, _, e1, hgv, r1⟩ := HRM.out.below HB
            cases e1
            obtain ⟨_, q1, gu, cu, rfl, zu, su⟩ := r1 i bi hbi
            obtain ⟨_, q2, gz, cz, rfl, zz, sz⟩ := r1 0 bz hbz
            rw [li] at q1
            rw [lz, Nat.add_zero] at q2
            have HSU := hid2 su
            have HSZ := hid2 sz
            have HBI := hid2 (And.intro hbi (And.intro hbz (And.intro li lz)))
            have HB7 := hid2 HB
            clear su sz r1 hbi hbz li lz HB
            go_wp2_with (first
      | (refine wp_region_calm (by kernel_rfl) (by kernel_rfl) ?_; repeat (first | go_big_quiet_step (fail) | quiet_step (fail))
         refine wpQuiet_nil ?_; intro u; have hzu := u.below.size; try simp at hzu))
            obtain ⟨Wo, hbo⟩ := u
            simp only
            clear hzu
            obtain ⟨wo, rfl⟩ : ∃ wo, wo = wr := ⟨_, rfl⟩
            go_loopg [19] 3 (fun gj ix wr => ∃ kk : Nat, kk + gj = 3 ∧ ix = .int .i64 kk ∧ Below wo.heap.size wo wr)
            case atStart => exact ⟨0, by omega, rfl, hbo⟩
            case round =>
              obtain ⟨kk, hkk, rfl, HBk⟩ := hrel
              have q1k := (HBk.cell (p := ⟨gv, ov + i, none⟩) hgv).trans q1
              have ygk := Nat.lt_of_lt_of_le hgv HBk.size
              by_cases hlk : kk < 3
              · have t2 : decide ((kk : Int) < 3) = true := by simp; omega
                have k9 : (0 : Int) ≤ kk ∧ (kk : Int) < 3 := by omega
                obtain ⟨fi, hfi⟩ : ∃ f, bi[kk]? = some f := ⟨_, List.getElem?_eq_getElem (by rw [HBI.out.2.2.1]; omega)⟩
                obtain ⟨fz, hfz⟩ : ∃ f, bz[kk]? = some f := ⟨_, List.getElem?_eq_getElem (by rw [HBI.out.2.2.2]; omega)⟩
                obtain ⟨z, hz⟩ : ∃ z, flatV 2 r gc b2 kk = z := ⟨_, rfl⟩
                have hvi := hMv.out i bi HBI.out.1 kk fi hfi
                have hvz := hMv.out 0 bz HBI.out.2.1 kk fz hfz
                rw [hz] at hvi hvz
                have si : Hid2 (∀ j, j < 64 → wo.cell? ⟨gu, kk * 64 + j, none⟩ = some (.int .i64 z)) := fun j hj => by have h := HSU.out kk fi hfi j hj; rwa [hvi j] at h
                have sz : Hid2 (wo.cell? ⟨gz, kk * 64, none⟩ = some (.int .i64 z)) := by have h := HSZ.out kk fz hfz 0 (by omega); rwa [hvz 0] at h
                have HBq := hid2 HBk
                clear hfi hfz hz hvi hvz HBk
                go_wp2
                clear q1k ygk
                obtain ⟨wq, rfl⟩ : ∃ wq, wq = wr := ⟨_, rfl⟩
                go_loopg [20] 64 (fun gj ix wr => ∃ j : Nat, j + gj = 64 ∧ ix = .int .i64 j ∧ Below wo.heap.size wo wr)
                case atStart => exact ⟨0, by omega, rfl, HBq.out⟩
                case round =>
                  obtain ⟨j, hj, rfl, HBj⟩ := hrel
                  by_cases hlj : j < 64
                  · have t3 : decide ((j : Int) < 64) = true := by simp; omega
                    have j9 : (0 : Int) ≤ j ∧ (j : Int) < 64 := by omega
                    have q1j := (HBj.cell (p := ⟨gv, ov + i, none⟩) hgv).trans q1
                    have q2j := (HBj.cell (p := ⟨gv, ov, none⟩) hgv).trans q2
                    have s1 := (HBj.cell (p := ⟨gu, kk * 64 + j, none⟩) zu).trans (si.out j hlj)
                    have s2 := (HBj.cell (p := ⟨gz, kk * 64, none⟩) zz).trans sz.out
                    have y1 := Nat.lt_of_lt_of_le hgv HBj.size
                    have y2 := Nat.lt_of_lt_of_le zu HBj.size
                    have y3 := Nat.lt_of_lt_of_le zz HBj.size
                    go_wp2_with (first
      | (refine wp_region_calm (by kernel_rfl) (by kernel_rfl) ?_; repeat (first | go_big_quiet_step (fail) | quiet_step (fail))
         refine wpQuiet_nil ?_; intro u; have hzu := u.below.size; try simp at hzu))
                    go_roundg (64 - (j + 1))
                    case measure => omega
                    case rel => exact ⟨j + 1, by omega, by go_num, gr2 HBj u.below⟩
                  · obtain rfl : j = 64 := by omega
                    have t3 : decide (((64 : Nat) : Int) < 64) = false := rfl
                    go_wp2
                    go_roundg (3 - (kk + 1))
                    case measure => omega
                    case rel => exact ⟨kk + 1, by omega, by go_num, HBj⟩
              · obtain rfl : kk = 3 := by omega
                have t2 : decide (((3 : Nat) : Int) < 3) = false := rfl
                go_wp2
                go_roundg (M.length - (i + 1))
                case measure => omega
                case rel => exact ⟨i + 1, by omega, by go_num, HB7.out.trans (HBk.mono HB7.out.size)⟩
          · have t1 : decide ((i : Int) < T) = false := by simp; omega
            have t0 : decide (0 < T) = true := by simp; omega
            have HB9 := hid2 (HBB.out.trans (HB.mono HBB.out.size))
            clear HB
            go_wp2_with (first
              | (go_at_call 13; refine (known07 _).mono ?_; rintro e W9 ⟨rfl, hb9⟩; obtain ⟨hc9, hf9, hz9⟩ := bcell hb9; try simp at hz9))
            go_ret
            exact ⟨rfl, gr2 HB9.out hb9⟩
  · have hg : gridOk x y 3 := ⟨by decide, ⟨hx.1, by omega⟩, hy.1, by omega⟩
    have hw : sideW 3 = 16 ∧ sideH 3 = 8 := by decide
    obtain ⟨hw1, hw2⟩ := hw
    obtain ⟨A, hA, A1, A2, A3⟩ := ceil_ok (n := x) (d := 16) hx.1 (by omega) (by omega) (by omega)
    obtain ⟨B, hB, B1, B2, B3⟩ := ceil_ok (n := y) (d := 8) hy.1 (by omega) (by omega) (by omega)
    have hga : gridA x y 3 = A := by rw [(grid_ok hg).1, hw1, hA]
    have hgb : gridB x y 3 = B := by rw [(grid_ok hg).2, hw2, hB]
    have hxy : 1 ≤ x * y ∧ x * y ≤ 960 := ⟨by have := Int.mul_le_mul hx.1 hy.1 (by omega) (by omega); omega, by have := Int.mul_le_mul hx.2 hy.2 (by omega) (by omega); omega⟩
    obtain ⟨N, hN⟩ : ∃ N : Nat, (N : Int) = 3 * (x * y) := ⟨(3 * (x * y)).toNat, by omega⟩
    have hN1 : 1 ≤ N ∧ N ≤ 2880 := by omega
    obtain ⟨T, hT⟩ : ∃ T : Nat, (A : Int) * B = T := ⟨A * B, by simp⟩
    have hT1 : 1 ≤ T ∧ T ≤ 960 := by
      have h1 := Int.mul_le_mul (show (1 : Int) ≤ A by omega) (show (1 : Int) ≤ B by omega) (by omega) (by omega)
      have h2 := Int.mul_le_mul (show (A : Int) ≤ 40 by omega) (show (B : Int) ≤ 24 by omega) (by omega) (by omega)
      omega
    have HI : Hid2 (∀ (W : World),  Calls Try.prog 16 #[.agg #[.int .i64 x, .int .i64 y, .int .i64 3, .int .i64 50, .int .i64 1, .int .i64 0], .slice none 0 0] W fun e w' => ∃ g cap, e = .returned (.agg #[.int .i64 x, .int .i64 y, .bool true, .slice (some ⟨g, 0, none⟩) N cap]) ∧ Below W.heap.size W w' ∧ w'.ownsRow W.heap.size 5 1 (.slice (some ⟨g, 0, none⟩) N cap) N (rowU (imgI 0 (fun _ => 0)) N)) := fun W => Image_ 50 1 0 hx hy (by simpa using hN) (by omega) W ⟨fun i hi => absurd hi (by omega), none, 0, rfl, fun i hi => absurd hi (by omega)⟩
    obtain ⟨M, hM⟩ : ∃ M, splitM x y 3 (partF 3 (flatL 3 r gc b2)) A T = M := ⟨_, rfl⟩
    have hMl : M.length = T := by rw [← hM]; exact splitM_len _ _ _ _ _ _
    have hMk : Hid2 (∀ bs ∈ M, bs.length = 4) := by rw [← hM]; exact split_len3
    have HSP : Hid2 (∀ (W : World) (g cap : Nat), g < W.heap.size → (∀ k, k < N → W.cell? ⟨g, k, none⟩ = some (.int .u8 ((flatL 3 r gc b2) k))) → Calls Try.prog 17 #[.agg #[.int .i64 x, .int .i64 y, .int .i64 3, .int .i64 50, .int .i64 1, .int .i64 0], .agg #[.int .i64 x, .int .i64 y, .bool true, .slice (some ⟨g, 0, none⟩) N cap]] W fun e w' => ∃ u, e = .returned u ∧ Below W.heap.size W w' ∧ RM w' u M) := fun W g cap h1 h2 => by
      have h := Split_ (q := 50) (i := 1) (c := 0) (rgb := true) (pc := cap) hg (by omega) (N := N) (by simpa using hN) (by decide) W h1 h2 (flatL_bd br bgc bb2)
      rw [hga, hgb, hT] at h
      simp only [Int.toNat_natCast] at h
      rwa [hM] at h
    have hMv : Hid2 (∀ (i : Nat) bs, M[i]? = some bs → ∀ (k : Nat) f, bs[k]? = some f → ∀ j, f j = flatV 3 r gc b2 k) := by rw [← hM]; exact flat_M (by omega)
    clear hM hga hgb hA hB hg hw1 hw2 hN hxy hx hy A1 A2 A3 B1 B2 B3 hT
    go_enter Try.func6, Try.ntmps6
    go_wp2_with (first
      | (go_at_call 15; refine (HP.out _).mono ?_; rintro e WP ⟨rfl, hbP⟩; have hzP := hbP.size)
      | (refine wpList_store_row rfl _ _ _ rfl WP.heap.size #[.int .i64 x, .int .i64 y, .int .i64 3, .int .i64 50, .int .i64 1, .int .i64 0] rfl rfl 23 #[.int .i64 0, .int .i64 0, .int .i64 0, .int .i64 0, .int .i64 0, .int .i64 0] (heap_alloc_new _ _) (by kernel_rfl) rfl rfl ?_; rw [World.setRow_alloc_new])
      | (go_at_call 16; refine (HI.out _).mono ?_; rintro e W3 ⟨gi, ci, rfl, hb3, own3⟩; have hz3 := hb3.size)
      | (refine wpList_store_row rfl _ _ _ rfl W3.heap.size #[.int .i64 x, .int .i64 y, .bool true, .slice (some ⟨gi, 0, none⟩) N ci] rfl rfl 32 #[.int .i64 0, .int .i64 0, .bool false, .slice none 0 0] (heap_alloc_new _ _) (by kernel_rfl) rfl rfl ?_; rw [World.setRow_alloc_new]))
    obtain ⟨hl3, hnil | ⟨g9, cap9, cur9, e9, hbase9, hheap9, hcap9, _, hsz9, htk9⟩⟩ := own3
    · have := hnil.2; omega
    cases e9
    have hgi := hbase9
    simp at hgi
    have hgl := heap_lt hheap9
    have hzz := hbP.size
    refine wp_abs7 (fun W => Below w.heap.size w W ∧ W.heap[WP.heap.size]? = some (.cells #[.int .i64 x, .int .i64 y, .int .i64 3, .int .i64 50, .int .i64 1, .int .i64 0] 23 (0, 0)) ∧ W.heap[WP.heap.size + 1]? = some (.cells #[.int .u8 r, .int .u8 gc, .int .u8 b2] 5 (0, 0)) ∧ W.heap[W3.heap.size]? = some (.cells #[.int .i64 x, .int .i64 y, .bool true, .slice (some ⟨gi, 0, none⟩) N ci] 32 (0, 0)) ∧ ∃ cur, W.heap[gi]? = some (.cells cur 5 (0, 0)) ∧ N ≤ cur.size) ⟨?_, ?_, ?_, ?_, cur9, ?_, by omega⟩ ?_
    · exact gr1 (gr2 (gr1 (gr1 hbP _) _) hb3) _
    · exact bh7 (gr1 (gr0 _) _) (bh7 hb3 (bh7 (gr1 (gr0 _) _) (heap_alloc_new _ _)))
    · exact bh7 (gr1 (gr0 _) _) (bh7 hb3 (heap_alloc_at (by simp)))
    · exact heap_alloc_new _ _
    · exact bh7 (gr1 (gr0 _) _) hheap9
    clear hl3 hheap9 hcap9 hsz9 htk9 hbase9
    rintro W ⟨HB0, hP0, hC0, hI0, cur0, hG0, hc0⟩
    have hg3 : WP.heap.size + 1 < W3.heap.size := by omega
    clear hb3
    go_loopg [16] N (fun gj ix wr => ∃ k : Nat, k + gj = N ∧ ix = .int .i64 k ∧ Below w.heap.size w wr ∧ wr.heap[WP.heap.size]? = some (.cells #[.int .i64 x, .int .i64 y, .int .i64 3, .int .i64 50, .int .i64 1, .int .i64 0] 23 (0, 0)) ∧ wr.heap[WP.heap.size + 1]? = some (.cells #[.int .u8 r, .int .u8 gc, .int .u8 b2] 5 (0, 0)) ∧ wr.heap[W3.heap.size]? = some (.cells #[.int .i64 x, .int .i64 y, .bool true, .slice (some ⟨gi, 0, none⟩) N ci] 32 (0, 0)) ∧ ∃ cur, wr.heap[gi]? = some (.cells cur 5 (0, 0)) ∧ N ≤ cur.size ∧ ∀ j, j < k → cur[j]? = some (.int .u8 (flatL 3 r gc b2 j)))
    case atStart => exact ⟨0, by omega, rfl, HB0, hP0, hC0, hI0, cur0, hG0, hc0, fun j hj => absurd hj (by omega)⟩
    case round =>
      clear HB0 hP0 hC0 hI0 hG0 hc0
      obtain ⟨k, hk, rfl, HB, hP, hC, hI, cur, hG, hc, hv⟩ := hrel
      have i3 := cells_at hI 3
      have p2 := cells_at hP 2
      have yi := heap_lt hI
      have yp := heap_lt hP
      have yg := heap_lt hG
      have yc := heap_lt hC
      simp at i3 p2
      by_cases hlt : k < N
      · have t1 : decide ((k : Int) < N) = true := by simp; omega
        have i9 : (0 : Int) ≤ k ∧ (k : Int) < N := by omega
        obtain ⟨rm, hrm⟩ : ∃ rm, k % 3 = rm := ⟨_, rfl⟩
        have r1 : ∀ c : Int, c = 3 → Int.tmod (k : Int) c = rm := by rintro c rfl; rw [Int.tmod_eq_emod_of_nonneg (by omega)]; omega
        have r3 : (0 : Int) ≤ rm ∧ (rm : Int) < 3 := by omega
        obtain ⟨z, hz⟩ : ∃ z, (if rm = 0 then r else if rm = 1 then gc else b2) = z := ⟨_, rfl⟩
        have c1 : wr.cell? ⟨WP.heap.size + 1, rm, none⟩ = some (.int .u8 z) := by
          have h := cells_at hC rm
          rw [h, ← hz]
          have h3 : rm = 0 ∨ rm = 1 ∨ rm = 2 := by omega
          rcases h3 with rfl | rfl | rfl <;> rfl
        obtain ⟨ug, hug⟩ : ∃ u, cur[k]? = some u := ⟨_, Array.getElem?_eq_getElem (by omega)⟩
        have g1 : wr.cell? ⟨gi, k, none⟩ = some ug := (cells_at hG k).trans hug
        have gf := row_free hG
        have HX := hid2 (And.intro HB (And.intro hP (And.intro hC (And.intro hI (And.intro hG (And.intro hc hv))))))
        have HZ := hid2 (And.intro hrm hz)
        clear HB hP hC hI hG hc hv hrm hz hug
        go_wp2
        refine wp_region_calm_tail 9 (by kernel_rfl) (by kernel_rfl) ?_
        simp only [List.take_succ_cons, List.take_zero, List.drop_succ_cons, List.drop_zero]
        repeat (first | go_big_quiet_step (fail) | quiet_step (fail))
        refine wpQuiet_nil ?_
        intro u
        obtain ⟨W9, hb9⟩ := u
        simp only
        have c9 := (hb9.cell (p := ⟨gi, k, none⟩) yg).trans g1
        have f9 := (hb9.frozen (p := ⟨gi, k, none⟩) yg).trans (gf k)
        have p9 := (hb9.cell (p := ⟨WP.heap.size, 2, none⟩) yp).trans p2
        have i8 := (hb9.cell (p := ⟨W3.heap.size, 3, none⟩) yi).trans i3
        have z9 := hb9.size
        have HX9 := hid2 hb9
        clear hb9 c1 g1 gf p2 i3
        go_wp2
        go_roundg (N - (k + 1))
        case measure => omega
        case rel =>
          obtain ⟨HB, hP, hC, hI, hG, hc, hv⟩ := HX.out
          obtain ⟨hrm, hz⟩ := HZ.out
          have hb9 := HX9.out
          have HB9 := HB.trans (hb9.mono HB.size)
          have hgw : w.heap.size ≤ gi := by omega
          have e : z = flatL 3 r gc b2 k := by rw [← hz, ← hrm]; unfold flatL; rw [if_neg (show ¬ ((3 : Int) = 1) by decide)]
          rw [e]
          exact ⟨k + 1, by omega, by go_num, gr4 HB9 hgw _, (set_other7 (by omega)).trans (bh7 hb9 hP), (set_other7 (by omega)).trans (bh7 hb9 hC), (set_other7 (by omega)).trans (bh7 hb9 hI), _, set_row (bh7 hb9 hG), by simpa using hc, set_lt (by omega) hv⟩
      · obtain rfl : k = N := by omega
        have t1 : decide ((k : Int) < k) = false := by simp
        have i0 := cells_at hI 0
        have i1 := cells_at hI 1
        have i2 := cells_at hI 2
        have p0 := cells_at hP 0
        have p1 := cells_at hP 1
        have p3 := cells_at hP 3
        have p4 := cells_at hP 4
        have p5 := cells_at hP 5
        simp at i0 i1 i2 p0 p1 p3 p4 p5
        have hcl : ∀ j, j < k → wr.cell? ⟨gi, j, none⟩ = some (.int .u8 ((flatL 3 r gc b2) j)) := fun j hj => (cells_at hG j).trans (hv j hj)
        have HB5 := hid2 HB
        have HM0 := hid2 (show 0 < T from hT1.1)
        clear HB hP hC hI hG hc hv
        go_wp2_with (first
          | (go_at_call 17; refine (HSP.out wr gi ci yg hcl).mono ?_; rintro e W6 ⟨v6, rfl, hb6, HR6⟩; obtain ⟨gv, ov, cv, hv6, hgv, hrv⟩ := id HR6; rw [hMl] at hv6; subst hv6))
        have HRM := hid2 HR6
        have HBB := hid2 (HB5.out.trans (hb6.mono HB5.out.size))
        clear HR6 hgv hrv hb6 hcl i0 i1 i2 i3 p0 p1 p2 p3 p4 p5 yi yp yg yc HB5
        go_loopg [18] T (fun gj ix wr => ∃ i : Nat, i + gj = T ∧ ix = .int .i64 i ∧ Below W6.heap.size W6 wr)
        case atStart => exact ⟨0, by omega, rfl, gr0 _⟩
        case round =>
          obtain ⟨i, hi, rfl, HB⟩ := hrel
          by_cases hlt : i < T
          · have t1 : decide ((i : Int) < T) = true := by simp; omega
            have i9 : (0 : Int) ≤ i ∧ (i : Int) < T := by omega
            obtain ⟨bi, hbi⟩ : ∃ f, M[i]? = some f := ⟨_, List.getElem?_eq_getElem (by omega)⟩
            obtain ⟨bz, hbz⟩ : ∃ f, M[0]? = some f := ⟨_, List.getElem?_eq_getElem (by omega)⟩
            have li := hMk.out bi (List.mem_of_getElem? hbi)
            have lz := hMk.out bz (List.mem_of_getElem? hbz)
            obtain ⟨_, _, _, e1, hgv, r1⟩ := HRM.out.below HB
            cases e1
            obtain ⟨_, q1, gu, cu, rfl, zu, su⟩ := r1 i bi hbi
            obtain ⟨_, q2, gz, cz, rfl, zz, sz⟩ := r1 0 bz hbz
            rw [li] at q1
            rw [lz, Nat.add_zero] at q2
            have HSU := hid2 su
            have HSZ := hid2 sz
            have HBI := hid2 (And.intro hbi (And.intro hbz (And.intro li lz)))
            have HB7 := hid2 HB
            clear su sz r1 hbi hbz li lz HB
            go_wp2_with (first
      | (refine wp_region_calm (by kernel_rfl) (by kernel_rfl) ?_; repeat (first | go_big_quiet_step (fail) | quiet_step (fail))
         refine wpQuiet_nil ?_; intro u; have hzu := u.below.size; try simp at hzu))
            obtain ⟨Wo, hbo⟩ := u
            simp only
            clear hzu
            obtain ⟨wo, rfl⟩ : ∃ wo, wo = wr := ⟨_, rfl⟩
            go_loopg [19] 4 (fun gj ix wr => ∃ kk : Nat, kk + gj = 4 ∧ ix = .int .i64 kk ∧ Below wo.heap.size wo wr)
            case atStart => exact ⟨0, by omega, rfl, hbo⟩
            case round =>
              obtain ⟨kk, hkk, rfl, HBk⟩ := hrel
              have q1k := (HBk.cell (p := ⟨gv, ov + i, none⟩) hgv).trans q1
              have ygk := Nat.lt_of_lt_of_le hgv HBk.size
              by_cases hlk : kk < 4
              · have t2 : decide ((kk : Int) < 4) = true := by simp; omega
                have k9 : (0 : Int) ≤ kk ∧ (kk : Int) < 4 := by omega
                obtain ⟨fi, hfi⟩ : ∃ f, bi[kk]? = some f := ⟨_, List.getElem?_eq_getElem (by rw [HBI.out.2.2.1]; omega)⟩
                obtain ⟨fz, hfz⟩ : ∃ f, bz[kk]? = some f := ⟨_, List.getElem?_eq_getElem (by rw [HBI.out.2.2.2]; omega)⟩
                obtain ⟨z, hz⟩ : ∃ z, flatV 3 r gc b2 kk = z := ⟨_, rfl⟩
                have hvi := hMv.out i bi HBI.out.1 kk fi hfi
                have hvz := hMv.out 0 bz HBI.out.2.1 kk fz hfz
                rw [hz] at hvi hvz
                have si : Hid2 (∀ j, j < 64 → wo.cell? ⟨gu, kk * 64 + j, none⟩ = some (.int .i64 z)) := fun j hj => by have h := HSU.out kk fi hfi j hj; rwa [hvi j] at h
                have sz : Hid2 (wo.cell? ⟨gz, kk * 64, none⟩ = some (.int .i64 z)) := by have h := HSZ.out kk fz hfz 0 (by omega); rwa [hvz 0] at h
                have HBq := hid2 HBk
                clear hfi hfz hz hvi hvz HBk
                go_wp2
                clear q1k ygk
                obtain ⟨wq, rfl⟩ : ∃ wq, wq = wr := ⟨_, rfl⟩
                go_loopg [20] 64 (fun gj ix wr => ∃ j : Nat, j + gj = 64 ∧ ix = .int .i64 j ∧ Below wo.heap.size wo wr)
                case atStart => exact ⟨0, by omega, rfl, HBq.out⟩
                case round =>
                  obtain ⟨j, hj, rfl, HBj⟩ := hrel
                  by_cases hlj : j < 64
                  · have t3 : decide ((j : Int) < 64) = true := by simp; omega
                    have j9 : (0 : Int) ≤ j ∧ (j : Int) < 64 := by omega
                    have q1j := (HBj.cell (p := ⟨gv, ov + i, none⟩) hgv).trans q1
                    have q2j := (HBj.cell (p := ⟨gv, ov, none⟩) hgv).trans q2
                    have s1 := (HBj.cell (p := ⟨gu, kk * 64 + j, none⟩) zu).trans (si.out j hlj)
                    have s2 := (HBj.cell (p := ⟨gz, kk * 64, none⟩) zz).trans sz.out
                    have y1 := Nat.lt_of_lt_of_le hgv HBj.size
                    have y2 := Nat.lt_of_lt_of_le zu HBj.size
                    have y3 := Nat.lt_of_lt_of_le zz HBj.size
                    go_wp2_with (first
      | (refine wp_region_calm (by kernel_rfl) (by kernel_rfl) ?_; repeat (first | go_big_quiet_step (fail) | quiet_step (fail))
         refine wpQuiet_nil ?_; intro u; have hzu := u.below.size; try simp at hzu))
                    go_roundg (64 - (j + 1))
                    case measure => omega
                    case rel => exact ⟨j + 1, by omega, by go_num, gr2 HBj u.below⟩
                  · obtain rfl : j = 64 := by omega
                    have t3 : decide (((64 : Nat) : Int) < 64) = false := rfl
                    go_wp2
                    go_roundg (4 - (kk + 1))
                    case measure => omega
                    case rel => exact ⟨kk + 1, by omega, by go_num, HBj⟩
              · obtain rfl : kk = 4 := by omega
                have t2 : decide (((4 : Nat) : Int) < 4) = false := rfl
                go_wp2
                go_roundg (M.length - (i + 1))
                case measure => omega
                case rel => exact ⟨i + 1, by omega, by go_num, HB7.out.trans (HBk.mono HB7.out.size)⟩
          · have t1 : decide ((i : Int) < T) = false := by simp; omega
            have t0 : decide (0 < T) = true := by simp; omega
            have HB9 := hid2 (HBB.out.trans (HB.mono HBB.out.size))
            clear HB
            go_wp2_with (first
              | (go_at_call 13; refine (known07 _).mono ?_; rintro e W9 ⟨rfl, hb9⟩; obtain ⟨hc9, hf9, hz9⟩ := bcell hb9; try simp at hz9))
            go_ret
            exact ⟨rfl, gr2 HB9.out hb9⟩
  · have hg : gridOk x y 4 := ⟨by decide, ⟨hx.1, by omega⟩, hy.1, by omega⟩
    have hw : sideW 4 = 16 ∧ sideH 4 = 16 := by decide
    obtain ⟨hw1, hw2⟩ := hw
    obtain ⟨A, hA, A1, A2, A3⟩ := ceil_ok (n := x) (d := 16) hx.1 (by omega) (by omega) (by omega)
    obtain ⟨B, hB, B1, B2, B3⟩ := ceil_ok (n := y) (d := 16) hy.1 (by omega) (by omega) (by omega)
    have hga : gridA x y 4 = A := by rw [(grid_ok hg).1, hw1, hA]
    have hgb : gridB x y 4 = B := by rw [(grid_ok hg).2, hw2, hB]
    have hxy : 1 ≤ x * y ∧ x * y ≤ 960 := ⟨by have := Int.mul_le_mul hx.1 hy.1 (by omega) (by omega); omega, by have := Int.mul_le_mul hx.2 hy.2 (by omega) (by omega); omega⟩
    obtain ⟨N, hN⟩ : ∃ N : Nat, (N : Int) = 3 * (x * y) := ⟨(3 * (x * y)).toNat, by omega⟩
    have hN1 : 1 ≤ N ∧ N ≤ 2880 := by omega
    obtain ⟨T, hT⟩ : ∃ T : Nat, (A : Int) * B = T := ⟨A * B, by simp⟩
    have hT1 : 1 ≤ T ∧ T ≤ 960 := by
      have h1 := Int.mul_le_mul (show (1 : Int) ≤ A by omega) (show (1 : Int) ≤ B by omega) (by omega) (by omega)
      have h2 := Int.mul_le_mul (show (A : Int) ≤ 40 by omega) (show (B : Int) ≤ 24 by omega) (by omega) (by omega)
      omega
    have HI : Hid2 (∀ (W : World),  Calls Try.prog 16 #[.agg #[.int .i64 x, .int .i64 y, .int .i64 4, .int .i64 50, .int .i64 1, .int .i64 0], .slice none 0 0] W fun e w' => ∃ g cap, e = .returned (.agg #[.int .i64 x, .int .i64 y, .bool true, .slice (some ⟨g, 0, none⟩) N cap]) ∧ Below W.heap.size W w' ∧ w'.ownsRow W.heap.size 5 1 (.slice (some ⟨g, 0, none⟩) N cap) N (rowU (imgI 0 (fun _ => 0)) N)) := fun W => Image_ 50 1 0 hx hy (by simpa using hN) (by omega) W ⟨fun i hi => absurd hi (by omega), none, 0, rfl, fun i hi => absurd hi (by omega)⟩
    obtain ⟨M, hM⟩ : ∃ M, splitM x y 4 (partF 4 (flatL 4 r gc b2)) A T = M := ⟨_, rfl⟩
    have hMl : M.length = T := by rw [← hM]; exact splitM_len _ _ _ _ _ _
    have hMk : Hid2 (∀ bs ∈ M, bs.length = 6) := by rw [← hM]; exact split_len4
    have HSP : Hid2 (∀ (W : World) (g cap : Nat), g < W.heap.size → (∀ k, k < N → W.cell? ⟨g, k, none⟩ = some (.int .u8 ((flatL 4 r gc b2) k))) → Calls Try.prog 17 #[.agg #[.int .i64 x, .int .i64 y, .int .i64 4, .int .i64 50, .int .i64 1, .int .i64 0], .agg #[.int .i64 x, .int .i64 y, .bool true, .slice (some ⟨g, 0, none⟩) N cap]] W fun e w' => ∃ u, e = .returned u ∧ Below W.heap.size W w' ∧ RM w' u M) := fun W g cap h1 h2 => by
      have h := Split_ (q := 50) (i := 1) (c := 0) (rgb := true) (pc := cap) hg (by omega) (N := N) (by simpa using hN) (by decide) W h1 h2 (flatL_bd br bgc bb2)
      rw [hga, hgb, hT] at h
      simp only [Int.toNat_natCast] at h
      rwa [hM] at h
    have hMv : Hid2 (∀ (i : Nat) bs, M[i]? = some bs → ∀ (k : Nat) f, bs[k]? = some f → ∀ j, f j = flatV 4 r gc b2 k) := by rw [← hM]; exact flat_M (by omega)
    clear hM hga hgb hA hB hg hw1 hw2 hN hxy hx hy A1 A2 A3 B1 B2 B3 hT
    go_enter Try.func6, Try.ntmps6
    go_wp2_with (first
      | (go_at_call 15; refine (HP.out _).mono ?_; rintro e WP ⟨rfl, hbP⟩; have hzP := hbP.size)
      | (refine wpList_store_row rfl _ _ _ rfl WP.heap.size #[.int .i64 x, .int .i64 y, .int .i64 4, .int .i64 50, .int .i64 1, .int .i64 0] rfl rfl 23 #[.int .i64 0, .int .i64 0, .int .i64 0, .int .i64 0, .int .i64 0, .int .i64 0] (heap_alloc_new _ _) (by kernel_rfl) rfl rfl ?_; rw [World.setRow_alloc_new])
      | (go_at_call 16; refine (HI.out _).mono ?_; rintro e W3 ⟨gi, ci, rfl, hb3, own3⟩; have hz3 := hb3.size)
      | (refine wpList_store_row rfl _ _ _ rfl W3.heap.size #[.int .i64 x, .int .i64 y, .bool true, .slice (some ⟨gi, 0, none⟩) N ci] rfl rfl 32 #[.int .i64 0, .int .i64 0, .bool false, .slice none 0 0] (heap_alloc_new _ _) (by kernel_rfl) rfl rfl ?_; rw [World.setRow_alloc_new]))
    obtain ⟨hl3, hnil | ⟨g9, cap9, cur9, e9, hbase9, hheap9, hcap9, _, hsz9, htk9⟩⟩ := own3
    · have := hnil.2; omega
    cases e9
    have hgi := hbase9
    simp at hgi
    have hgl := heap_lt hheap9
    have hzz := hbP.size
    refine wp_abs7 (fun W => Below w.heap.size w W ∧ W.heap[WP.heap.size]? = some (.cells #[.int .i64 x, .int .i64 y, .int .i64 4, .int .i64 50, .int .i64 1, .int .i64 0] 23 (0, 0)) ∧ W.heap[WP.heap.size + 1]? = some (.cells #[.int .u8 r, .int .u8 gc, .int .u8 b2] 5 (0, 0)) ∧ W.heap[W3.heap.size]? = some (.cells #[.int .i64 x, .int .i64 y, .bool true, .slice (some ⟨gi, 0, none⟩) N ci] 32 (0, 0)) ∧ ∃ cur, W.heap[gi]? = some (.cells cur 5 (0, 0)) ∧ N ≤ cur.size) ⟨?_, ?_, ?_, ?_, cur9, ?_, by omega⟩ ?_
    · exact gr1 (gr2 (gr1 (gr1 hbP _) _) hb3) _
    · exact bh7 (gr1 (gr0 _) _) (bh7 hb3 (bh7 (gr1 (gr0 _) _) (heap_alloc_new _ _)))
    · exact bh7 (gr1 (gr0 _) _) (bh7 hb3 (heap_alloc_at (by simp)))
    · exact heap_alloc_new _ _
    · exact bh7 (gr1 (gr0 _) _) hheap9
    clear hl3 hheap9 hcap9 hsz9 htk9 hbase9
    rintro W ⟨HB0, hP0, hC0, hI0, cur0, hG0, hc0⟩
    have hg3 : WP.heap.size + 1 < W3.heap.size := by omega
    clear hb3
    go_loopg [16] N (fun gj ix wr => ∃ k : Nat, k + gj = N ∧ ix = .int .i64 k ∧ Below w.heap.size w wr ∧ wr.heap[WP.heap.size]? = some (.cells #[.int .i64 x, .int .i64 y, .int .i64 4, .int .i64 50, .int .i64 1, .int .i64 0] 23 (0, 0)) ∧ wr.heap[WP.heap.size + 1]? = some (.cells #[.int .u8 r, .int .u8 gc, .int .u8 b2] 5 (0, 0)) ∧ wr.heap[W3.heap.size]? = some (.cells #[.int .i64 x, .int .i64 y, .bool true, .slice (some ⟨gi, 0, none⟩) N ci] 32 (0, 0)) ∧ ∃ cur, wr.heap[gi]? = some (.cells cur 5 (0, 0)) ∧ N ≤ cur.size ∧ ∀ j, j < k → cur[j]? = some (.int .u8 (flatL 4 r gc b2 j)))
    case atStart => exact ⟨0, by omega, rfl, HB0, hP0, hC0, hI0, cur0, hG0, hc0, fun j hj => absurd hj (by omega)⟩
    case round =>
      clear HB0 hP0 hC0 hI0 hG0 hc0
      obtain ⟨k, hk, rfl, HB, hP, hC, hI, cur, hG, hc, hv⟩ := hrel
      have i3 := cells_at hI 3
      have p2 := cells_at hP 2
      have yi := heap_lt hI
      have yp := heap_lt hP
      have yg := heap_lt hG
      have yc := heap_lt hC
      simp at i3 p2
      by_cases hlt : k < N
      · have t1 : decide ((k : Int) < N) = true := by simp; omega
        have i9 : (0 : Int) ≤ k ∧ (k : Int) < N := by omega
        obtain ⟨rm, hrm⟩ : ∃ rm, k % 3 = rm := ⟨_, rfl⟩
        have r1 : ∀ c : Int, c = 3 → Int.tmod (k : Int) c = rm := by rintro c rfl; rw [Int.tmod_eq_emod_of_nonneg (by omega)]; omega
        have r3 : (0 : Int) ≤ rm ∧ (rm : Int) < 3 := by omega
        obtain ⟨z, hz⟩ : ∃ z, (if rm = 0 then r else if rm = 1 then gc else b2) = z := ⟨_, rfl⟩
        have c1 : wr.cell? ⟨WP.heap.size + 1, rm, none⟩ = some (.int .u8 z) := by
          have h := cells_at hC rm
          rw [h, ← hz]
          have h3 : rm = 0 ∨ rm = 1 ∨ rm = 2 := by omega
          rcases h3 with rfl | rfl | rfl <;> rfl
        obtain ⟨ug, hug⟩ : ∃ u, cur[k]? = some u := ⟨_, Array.getElem?_eq_getElem (by omega)⟩
        have g1 : wr.cell? ⟨gi, k, none⟩ = some ug := (cells_at hG k).trans hug
        have gf := row_free hG
        have HX := hid2 (And.intro HB (And.intro hP (And.intro hC (And.intro hI (And.intro hG (And.intro hc hv))))))
        have HZ := hid2 (And.intro hrm hz)
        clear HB hP hC hI hG hc hv hrm hz hug
        go_wp2
        refine wp_region_calm_tail 9 (by kernel_rfl) (by kernel_rfl) ?_
        simp only [List.take_succ_cons, List.take_zero, List.drop_succ_cons, List.drop_zero]
        repeat (first | go_big_quiet_step (fail) | quiet_step (fail))
        refine wpQuiet_nil ?_
        intro u
        obtain ⟨W9, hb9⟩ := u
        simp only
        have c9 := (hb9.cell (p := ⟨gi, k, none⟩) yg).trans g1
        have f9 := (hb9.frozen (p := ⟨gi, k, none⟩) yg).trans (gf k)
        have p9 := (hb9.cell (p := ⟨WP.heap.size, 2, none⟩) yp).trans p2
        have i8 := (hb9.cell (p := ⟨W3.heap.size, 3, none⟩) yi).trans i3
        have z9 := hb9.size
        have HX9 := hid2 hb9
        clear hb9 c1 g1 gf p2 i3
        go_wp2
        go_roundg (N - (k + 1))
        case measure => omega
        case rel =>
          obtain ⟨HB, hP, hC, hI, hG, hc, hv⟩ := HX.out
          obtain ⟨hrm, hz⟩ := HZ.out
          have hb9 := HX9.out
          have HB9 := HB.trans (hb9.mono HB.size)
          have hgw : w.heap.size ≤ gi := by omega
          have e : z = flatL 4 r gc b2 k := by rw [← hz, ← hrm]; unfold flatL; rw [if_neg (show ¬ ((4 : Int) = 1) by decide)]
          rw [e]
          exact ⟨k + 1, by omega, by go_num, gr4 HB9 hgw _, (set_other7 (by omega)).trans (bh7 hb9 hP), (set_other7 (by omega)).trans (bh7 hb9 hC), (set_other7 (by omega)).trans (bh7 hb9 hI), _, set_row (bh7 hb9 hG), by simpa using hc, set_lt (by omega) hv⟩
      · obtain rfl : k = N := by omega
        have t1 : decide ((k : Int) < k) = false := by simp
        have i0 := cells_at hI 0
        have i1 := cells_at hI 1
        have i2 := cells_at hI 2
        have p0 := cells_at hP 0
        have p1 := cells_at hP 1
        have p3 := cells_at hP 3
        have p4 := cells_at hP 4
        have p5 := cells_at hP 5
        simp at i0 i1 i2 p0 p1 p3 p4 p5
        have hcl : ∀ j, j < k → wr.cell? ⟨gi, j, none⟩ = some (.int .u8 ((flatL 4 r gc b2) j)) := fun j hj => (cells_at hG j).trans (hv j hj)
        have HB5 := hid2 HB
        have HM0 := hid2 (show 0 < T from hT1.1)
        clear HB hP hC hI hG hc hv
        go_wp2_with (first
          | (go_at_call 17; refine (HSP.out wr gi ci yg hcl).mono ?_; rintro e W6 ⟨v6, rfl, hb6, HR6⟩; obtain ⟨gv, ov, cv, hv6, hgv, hrv⟩ := id HR6; rw [hMl] at hv6; subst hv6))
        have HRM := hid2 HR6
        have HBB := hid2 (HB5.out.trans (hb6.mono HB5.out.size))
        clear HR6 hgv hrv hb6 hcl i0 i1 i2 i3 p0 p1 p2 p3 p4 p5 yi yp yg yc HB5
        go_loopg [18] T (fun gj ix wr => ∃ i : Nat, i + gj = T ∧ ix = .int .i64 i ∧ Below W6.heap.size W6 wr)
        case atStart => exact ⟨0, by omega, rfl, gr0 _⟩
        case round =>
          obtain ⟨i, hi, rfl, HB⟩ := hrel
          by_cases hlt : i < T
          · have t1 : decide ((i : Int) < T) = true := by simp; omega
            have i9 : (0 : Int) ≤ i ∧ (i : Int) < T := by omega
            obtain ⟨bi, hbi⟩ : ∃ f, M[i]? = some f := ⟨_, List.getElem?_eq_getElem (by omega)⟩
            obtain ⟨bz, hbz⟩ : ∃ f, M[0]? = some f := ⟨_, List.getElem?_eq_getElem (by omega)⟩
            have li := hMk.out bi (List.mem_of_getElem? hbi)
            have lz := hMk.out bz (List.mem_of_getElem? hbz)
            obtain ⟨_, _, _, e1, hgv, r1⟩ := HRM.out.below HB
            cases e1
            obtain ⟨_, q1, gu, cu, rfl, zu, su⟩ := r1 i bi hbi
            obtain ⟨_, q2, gz, cz, rfl, zz, sz⟩ := r1 0 bz hbz
            rw [li] at q1
            rw [lz, Nat.add_zero] at q2
            have HSU := hid2 su
            have HSZ := hid2 sz
            have HBI := hid2 (And.intro hbi (And.intro hbz (And.intro li lz)))
            have HB7 := hid2 HB
            clear su sz r1 hbi hbz li lz HB
            go_wp2_with (first
      | (refine wp_region_calm (by kernel_rfl) (by kernel_rfl) ?_; repeat (first | go_big_quiet_step (fail) | quiet_step (fail))
         refine wpQuiet_nil ?_; intro u; have hzu := u.below.size; try simp at hzu))
            obtain ⟨Wo, hbo⟩ := u
            simp only
            clear hzu
            obtain ⟨wo, rfl⟩ : ∃ wo, wo = wr := ⟨_, rfl⟩
            go_loopg [19] 6 (fun gj ix wr => ∃ kk : Nat, kk + gj = 6 ∧ ix = .int .i64 kk ∧ Below wo.heap.size wo wr)
            case atStart => exact ⟨0, by omega, rfl, hbo⟩
            case round =>
              obtain ⟨kk, hkk, rfl, HBk⟩ := hrel
              have q1k := (HBk.cell (p := ⟨gv, ov + i, none⟩) hgv).trans q1
              have ygk := Nat.lt_of_lt_of_le hgv HBk.size
              by_cases hlk : kk < 6
              · have t2 : decide ((kk : Int) < 6) = true := by simp; omega
                have k9 : (0 : Int) ≤ kk ∧ (kk : Int) < 6 := by omega
                obtain ⟨fi, hfi⟩ : ∃ f, bi[kk]? = some f := ⟨_, List.getElem?_eq_getElem (by rw [HBI.out.2.2.1]; omega)⟩
                obtain ⟨fz, hfz⟩ : ∃ f, bz[kk]? = some f := ⟨_, List.getElem?_eq_getElem (by rw [HBI.out.2.2.2]; omega)⟩
                obtain ⟨z, hz⟩ : ∃ z, flatV 4 r gc b2 kk = z := ⟨_, rfl⟩
                have hvi := hMv.out i bi HBI.out.1 kk fi hfi
                have hvz := hMv.out 0 bz HBI.out.2.1 kk fz hfz
                rw [hz] at hvi hvz
                have si : Hid2 (∀ j, j < 64 → wo.cell? ⟨gu, kk * 64 + j, none⟩ = some (.int .i64 z)) := fun j hj => by have h := HSU.out kk fi hfi j hj; rwa [hvi j] at h
                have sz : Hid2 (wo.cell? ⟨gz, kk * 64, none⟩ = some (.int .i64 z)) := by have h := HSZ.out kk fz hfz 0 (by omega); rwa [hvz 0] at h
                have HBq := hid2 HBk
                clear hfi hfz hz hvi hvz HBk
                go_wp2
                clear q1k ygk
                obtain ⟨wq, rfl⟩ : ∃ wq, wq = wr := ⟨_, rfl⟩
                go_loopg [20] 64 (fun gj ix wr => ∃ j : Nat, j + gj = 64 ∧ ix = .int .i64 j ∧ Below wo.heap.size wo wr)
                case atStart => exact ⟨0, by omega, rfl, HBq.out⟩
                case round =>
                  obtain ⟨j, hj, rfl, HBj⟩ := hrel
                  by_cases hlj : j < 64
                  · have t3 : decide ((j : Int) < 64) = true := by simp; omega
                    have j9 : (0 : Int) ≤ j ∧ (j : Int) < 64 := by omega
                    have q1j := (HBj.cell (p := ⟨gv, ov + i, none⟩) hgv).trans q1
                    have q2j := (HBj.cell (p := ⟨gv, ov, none⟩) hgv).trans q2
                    have s1 := (HBj.cell (p := ⟨gu, kk * 64 + j, none⟩) zu).trans (si.out j hlj)
                    have s2 := (HBj.cell (p := ⟨gz, kk * 64, none⟩) zz).trans sz.out
                    have y1 := Nat.lt_of_lt_of_le hgv HBj.size
                    have y2 := Nat.lt_of_lt_of_le zu HBj.size
                    have y3 := Nat.lt_of_lt_of_le zz HBj.size
                    go_wp2_with (first
      | (refine wp_region_calm (by kernel_rfl) (by kernel_rfl) ?_; repeat (first | go_big_quiet_step (fail) | quiet_step (fail))
         refine wpQuiet_nil ?_; intro u; have hzu := u.below.size; try simp at hzu))
                    go_roundg (64 - (j + 1))
                    case measure => omega
                    case rel => exact ⟨j + 1, by omega, by go_num, gr2 HBj u.below⟩
                  · obtain rfl : j = 64 := by omega
                    have t3 : decide (((64 : Nat) : Int) < 64) = false := rfl
                    go_wp2
                    go_roundg (6 - (kk + 1))
                    case measure => omega
                    case rel => exact ⟨kk + 1, by omega, by go_num, HBj⟩
              · obtain rfl : kk = 6 := by omega
                have t2 : decide (((6 : Nat) : Int) < 6) = false := rfl
                go_wp2
                go_roundg (M.length - (i + 1))
                case measure => omega
                case rel => exact ⟨i + 1, by omega, by go_num, HB7.out.trans (HBk.mono HB7.out.size)⟩
          · have t1 : decide ((i : Int) < T) = false := by simp; omega
            have t0 : decide (0 < T) = true := by simp; omega
            have HB9 := hid2 (HBB.out.trans (HB.mono HBB.out.size))
            clear HB
            go_wp2_with (first
              | (go_at_call 13; refine (known07 _).mono ?_; rintro e W9 ⟨rfl, hb9⟩; obtain ⟨hc9, hf9, hz9⟩ := bcell hb9; try simp at hz9))
            go_ret
            exact ⟨rfl, gr2 HB9.out hb9⟩
end Go.Proofs.Ytgegmlhpdpdnfaa
