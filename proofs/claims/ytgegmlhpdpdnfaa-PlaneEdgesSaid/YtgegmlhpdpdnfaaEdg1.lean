/- PlaneEdges, mode 1: the walk: it returns true. -/
import Derived.Test.YtgegmlhpdpdnfaaEdgL
namespace Go.Proofs.Ytgegmlhpdpdnfaa
open Go.RowKit
set_option maxRecDepth 100000 in
set_option maxHeartbeats 4000000 in
theorem walkE1 {a b d x y : Int} {v : Value} {nc : Nat} {C : Nat → Int} (w : World) (H : Nums .u8 v nc C w) (hnm : nc ≤ 9223372036854775807) (hx : 1 ≤ x ∧ x ≤ 40) (hy : 1 ≤ y ∧ y ≤ 24) (HP : Hid2 (∀ W, Calls Try.prog 15 #[.int .u8 a, .int .u8 b, .int .u8 d] W fun e w' => e = .returned (.agg #[.int .i64 x, .int .i64 y, .int .i64 1, .int .i64 50, .int .i64 1, .int .i64 0]) ∧ Below W.heap.size W w')) :
    Calls Try.prog 8 #[.int .u8 a, .int .u8 b, .int .u8 d, v] w fun e w' => e = .returned (.bool true) ∧ Below w.heap.size w w' := by
  have hg : gridOk x y 1 := ⟨by decide, ⟨hx.1, by omega⟩, hy.1, by omega⟩
  have hw : sideW 1 = 8 ∧ sideH 1 = 8 := by decide
  obtain ⟨hw1, hw2⟩ := hw
  obtain ⟨A, hA, A1, A2, A3⟩ := ceil_ok (n := x) (d := 8) hx.1 (by omega) (by omega) (by omega)
  obtain ⟨B, hB, B1, B2, B3⟩ := ceil_ok (n := y) (d := 8) hy.1 (by omega) (by omega) (by omega)
  have hga : gridA x y 1 = A := by rw [(grid_ok hg).1, hw1, hA]
  have hgb : gridB x y 1 = B := by rw [(grid_ok hg).2, hw2, hB]
  have hxy : 1 ≤ x * y ∧ x * y ≤ 960 := ⟨by have := Int.mul_le_mul hx.1 hy.1 (by omega) (by omega); omega, by have := Int.mul_le_mul hx.2 hy.2 (by omega) (by omega); omega⟩
  obtain ⟨n, hn⟩ : ∃ n : Nat, (n : Int) = x * y := ⟨(x * y).toNat, by omega⟩
  obtain ⟨N, hN⟩ : ∃ N : Nat, N = 1 * n := ⟨_, rfl⟩
  have hNN : (N : Int) = x * y := by rw [hN, ← hn]; omega
  obtain ⟨T, hT⟩ : ∃ T : Nat, A * B = T := ⟨_, rfl⟩
  have a9 : (A : Int) ≤ 40 ∧ (B : Int) ≤ 24 := by omega
  have hT1 : 1 ≤ T ∧ T ≤ 960 := by
    rw [← hT]
    exact ⟨Nat.mul_le_mul (show 1 ≤ A by omega) (show 1 ≤ B by omega), Nat.mul_le_mul (show A ≤ 40 by omega) (show B ≤ 24 by omega)⟩
  have hTi : (A : Int) * B = T := by rw [← hT]; simp
  have HG : Hid2 (∀ W, Calls Try.prog 11 #[.agg #[.int .i64 x, .int .i64 y, .int .i64 1, .int .i64 50, .int .i64 1, .int .i64 0]] W fun e w' => e = .returned (.tuple #[.int .i64 A, .int .i64 B]) ∧ Below W.heap.size W w') := fun W => by have h := Grid_ x y 1 50 1 0 W; rwa [hga, hgb] at h
  have HS : Hid2 (∀ W, Calls Try.prog 20 #[.int .i64 1] W fun e w' => e = .returned (.tuple #[.int .i64 8, .int .i64 8]) ∧ Below W.heap.size W w') := fun W => by have h := Side_ 1 W; rwa [hw1, hw2] at h
  have HI : Hid2 (∀ (W : World), Nums .u8 v nc C W → Calls Try.prog 16 #[.agg #[.int .i64 x, .int .i64 y, .int .i64 1, .int .i64 50, .int .i64 1, .int .i64 0], v] W fun e w' => ∃ g cap, e = .returned (.agg #[.int .i64 x, .int .i64 y, .bool false, .slice (some ⟨g, 0, none⟩) N cap]) ∧ Below W.heap.size W w' ∧ w'.ownsRow W.heap.size 5 1 (.slice (some ⟨g, 0, none⟩) N cap) N (rowU (imgI nc C) N)) := fun W h => Image_ 50 1 0 hx hy (by simpa using hNN) hnm W h
  obtain ⟨x2, hx2⟩ : ∃ x2 : Nat, x2 = A * 8 := ⟨_, rfl⟩
  obtain ⟨y2, hy2⟩ : ∃ y2 : Nat, y2 = B * 8 := ⟨_, rfl⟩
  have x21 : 1 ≤ x2 ∧ x2 ≤ 640 := by omega
  have y21 : 1 ≤ y2 ∧ y2 ≤ 400 := by omega
  have hg2 : gridOk x2 y2 1 := ⟨by decide, ⟨by omega, by omega⟩, by omega, by omega⟩
  have hga2 : gridA x2 y2 1 = A := by rw [(grid_ok hg2).1, hw1, show (x2 : Int) = (A : Int) * 8 by omega]; exact ceil_mul (by omega) (by omega) (by omega) (by omega)
  have hgb2 : gridB x2 y2 1 = B := by rw [(grid_ok hg2).2, hw2, show (y2 : Int) = (B : Int) * 8 by omega]; exact ceil_mul (by omega) (by omega) (by omega) (by omega)
  obtain ⟨n2, hn2⟩ : ∃ n2 : Nat, x2 * y2 = n2 := ⟨_, rfl⟩
  have n21 : 1 ≤ n2 ∧ n2 ≤ 256000 := by
    rw [← hn2]
    exact ⟨Nat.mul_le_mul x21.1 y21.1, Nat.mul_le_mul x21.2 y21.2⟩
  have hn2i : (x2 : Int) * y2 = n2 := by rw [← hn2]; simp
  obtain ⟨L2, hL2⟩ : ∃ L2, edgeL 1 x y x2 (imgI nc C) = L2 := ⟨_, rfl⟩
  have hL2b : ∀ k, 0 ≤ L2 k ∧ L2 k ≤ 255 := by rw [← hL2]; exact edgeL_bd (fun k => imgI_bd nc C k)
  obtain ⟨M, hM⟩ : ∃ M, splitM x y 1 (partF 1 (imgI nc C)) A T = M := ⟨_, rfl⟩
  obtain ⟨M2, hM2⟩ : ∃ M2, splitM x2 y2 1 (partF 1 L2) A T = M2 := ⟨_, rfl⟩
  have hSM : Hid2 (SameM M M2) := by
    have h := edge_same (m := 1) (x := x) (y := y) (L := imgI nc C) (by omega) hT
    rw [hw1, hw2, show (A : Int) * 8 = x2 by omega, show (B : Int) * 8 = y2 by omega, hL2, hM, hM2] at h
    exact h
  have hMl : Hid2 (M.length = T) := by rw [← hM]; exact splitM_len _ _ _ _ _ _
  have hMk : Hid2 (∀ bs ∈ M, bs.length ≤ 6) := by rw [← hM]; exact split_len
  have HSP : Hid2 (∀ (W : World) (g cap : Nat), g < W.heap.size → (∀ k, k < N → W.cell? ⟨g, k, none⟩ = some (.int .u8 (imgI nc C k))) → Calls Try.prog 17 #[.agg #[.int .i64 x, .int .i64 y, .int .i64 1, .int .i64 50, .int .i64 1, .int .i64 0], .agg #[.int .i64 x, .int .i64 y, .bool false, .slice (some ⟨g, 0, none⟩) N cap]] W fun e w' => ∃ u, e = .returned u ∧ Below W.heap.size W w' ∧ RM w' u M) := fun W g cap h1 h2 => by
    have h := Split_ (q := 50) (i := 1) (c := 0) (rgb := false) (pc := cap) hg (by omega) (N := N) (by simpa using hNN) (by decide) W h1 h2 (fun k => imgI_bd nc C k)
    rw [hga, hgb, hTi] at h
    simp only [Int.toNat_natCast] at h
    rwa [hM] at h
  have HSQ : Hid2 (∀ (W : World) (g cap : Nat), g < W.heap.size → (∀ k, k < 1 * n2 → W.cell? ⟨g, k, none⟩ = some (.int .u8 (L2 k))) → Calls Try.prog 17 #[.agg #[.int .i64 x2, .int .i64 y2, .int .i64 1, .int .i64 50, .int .i64 1, .int .i64 0], .agg #[.int .i64 x2, .int .i64 y2, .bool false, .slice (some ⟨g, 0, none⟩) (1 * n2 : Nat) cap]] W fun e w' => ∃ u, e = .returned u ∧ Below W.heap.size W w' ∧ RM w' u M2) := fun W g cap h1 h2 => by
    have h := Split_ (q := 50) (i := 1) (c := 0) (rgb := false) (pc := cap) hg2 (by omega) (N := 1 * n2) (by rw [hn2i]; simp) (by decide) W h1 h2 hL2b
    rw [hga2, hgb2, hTi] at h
    simp only [Int.toNat_natCast] at h
    rwa [hM2] at h
  have hx2i : ∀ c : Int, c = 8 → (A : Int) * c = x2 := by rintro c rfl; omega
  have hy2i : ∀ c : Int, c = 8 → (B : Int) * c = y2 := by rintro c rfl; omega
  have hn2j : ∀ c : Int, c = y2 → (x2 : Int) * c = n2 := by rintro c rfl; exact hn2i
  have b9 : (1 : Int) ≤ x2 ∧ (x2 : Int) ≤ 640 ∧ (1 : Int) ≤ y2 ∧ (y2 : Int) ≤ 400 ∧ (1 : Int) ≤ n2 ∧ (n2 : Int) ≤ 256000 := by omega
  have HNE := hid2 (And.intro hN (And.intro hn (And.intro hx hy)))
  have HL2 := hid2 hL2
  have HXY := hid2 hxy
  have hN0 : 1 ≤ N ∧ N ≤ 2880 := by omega
  clear hN hn hxy hx hy
  clear hM hM2 hga hgb hA hB hg hg2 hga2 hgb2 hw1 hw2 hNN hL2b hTi A2 A3 B2 B3 hT hL2 hn2i hx2 hy2 hn2
  go_enter Try.func8, Try.ntmps8
  go_wp2_with (first
    | (go_at_call 15; refine (HP.out _).mono ?_; rintro e WP ⟨rfl, hbP⟩; have hzP := hbP.size)
    | (refine wpList_store_row rfl _ _ _ rfl WP.heap.size #[.int .i64 x, .int .i64 y, .int .i64 1, .int .i64 50, .int .i64 1, .int .i64 0] rfl rfl 23 #[.int .i64 0, .int .i64 0, .int .i64 0, .int .i64 0, .int .i64 0, .int .i64 0] (heap_alloc_new _ _) (by kernel_rfl) rfl rfl ?_; rw [World.setRow_alloc_new])
    | (go_at_call 16; refine (HI.out _ (H.below (gr1 hbP _))).mono ?_; rintro e W3 ⟨gi, ci, rfl, hb3, own3⟩; obtain ⟨hc3, hf3, hz3⟩ := bcell hb3; try simp at hz3)
    | (refine wpList_store_row rfl _ _ _ rfl W3.heap.size #[.int .i64 x, .int .i64 y, .bool false, .slice (some ⟨gi, 0, none⟩) N ci] rfl rfl 32 #[.int .i64 0, .int .i64 0, .bool false, .slice none 0 0] (heap_alloc_new _ _) (by kernel_rfl) rfl rfl ?_; rw [World.setRow_alloc_new])
    | (go_at_call 11; refine (HG.out _).mono ?_; rintro e W4 ⟨rfl, hb4⟩; obtain ⟨hc4, hf4, hz4⟩ := bcell hb4; try simp at hz4)
    | (go_at_call 20; refine (HS.out _).mono ?_; rintro e W5 ⟨rfl, hb5⟩; obtain ⟨hc5, hf5, hz5⟩ := bcell hb5; try simp at hz5)
    | (refine wpList_store_row rfl _ _ _ rfl W5.heap.size #[.int .i64 x, .int .i64 y, .int .i64 1, .int .i64 50, .int .i64 1, .int .i64 0] rfl rfl 23 #[.int .i64 0, .int .i64 0, .int .i64 0, .int .i64 0, .int .i64 0, .int .i64 0] (heap_alloc_new _ _) (by kernel_rfl) rfl rfl ?_; rw [World.setRow_alloc_new]))
  obtain ⟨hl3, hnil | ⟨g9, cap9, cur9, e9, hbase9, hheap9, hcap9, _, hsz9, htk9⟩⟩ := id own3
  · have := hnil.2; omega
  cases e9
  have hgl := heap_lt hheap9
  have c3 : ∀ k, k < N → W3.cell? ⟨gi, k, none⟩ = some (.int .u8 (imgI nc C k)) := fun k hk => own_cell own3 (by simp [rowU, hk])
  have hzz := hbP.size
  have hB5 := gr2 (gr2 (gr1 (gr0 W3) _) hb4) hb5
  refine wp_abs7 (fun W => (Below w.heap.size w W ∧ W.heap.size = W5.heap.size + 1 + 1) ∧ W.heap[WP.heap.size]? = some (.cells #[.int .i64 x, .int .i64 y, .int .i64 1, .int .i64 50, .int .i64 1, .int .i64 0] 23 (0, 0)) ∧ W.heap[W3.heap.size]? = some (.cells #[.int .i64 x, .int .i64 y, .bool false, .slice (some ⟨gi, 0, none⟩) N ci] 32 (0, 0)) ∧ W.heap[W5.heap.size]? = some (.cells #[.int .i64 x2, .int .i64 y2, .int .i64 1, .int .i64 50, .int .i64 1, .int .i64 0] 23 (0, 0)) ∧ W.heap[W5.heap.size + 1]? = some (.cells #[.int .i64 x2, .int .i64 y2, .bool false, .slice none 0 0] 32 (0, 0)) ∧ ∀ k, k < N → W.cell? ⟨gi, k, none⟩ = some (.int .u8 (imgI nc C k))) ⟨⟨?_, by simp⟩, ?_, ?_, ?_, ?_, ?_⟩ ?_
  · exact gr1 (gr1 (gr2 (gr2 (gr1 (gr2 (gr1 hbP _) hb3) _) hb4) hb5) _) _
  · exact bh7 (gr1 (gr1 hB5 _) _) (bh7 hb3 (heap_alloc_new _ _))
  · exact bh7 (gr1 (gr1 (gr2 (gr2 (gr0 _) hb4) hb5) _) _) (heap_alloc_new _ _)
  · exact bh7 (gr1 (gr0 _) _) (heap_alloc_new _ _)
  · exact heap_alloc_at (by simp)
  · exact fun k hk => ((gr1 (gr1 hB5 _) _).cell (p := ⟨gi, k, none⟩) hgl).trans (c3 k hk)
  rintro W8 ⟨⟨HB8, hz8⟩, hP8, hI8, hQ8, hN8, hC8⟩
  have o1 : WP.heap.size < W3.heap.size := by omega
  have o2 : W3.heap.size < W5.heap.size := by omega
  have o3 : gi < W3.heap.size := hgl
  have H8 := hid2 (And.intro HB8 (And.intro hP8 (And.intro hI8 (And.intro hQ8 hC8))))
  clear hl3 hheap9 hsz9 htk9 hbase9 hb3 hb4 hb5 hB5 c3 own3 hc3 hf3 hz3 hc4 hf4 hz4 hc5 hf5 hz5 HB8 hP8 hI8 hQ8 hC8 hgl H
  go_loopg [18] n2 (fun gj ix wr => ∃ (k : Nat) (V : Value), k + gj = n2 ∧ ix = .int .i64 k ∧ Below (W5.heap.size + 1) W8 wr ∧ wr.heap[W5.heap.size + 1]? = some (.cells #[.int .i64 x2, .int .i64 y2, .bool false, V] 32 (0, 0)) ∧ wr.ownsRow (W5.heap.size + 1) 5 1 V (1 * k) (rowU L2 (1 * k)))
  case atStart => exact ⟨0, _, by omega, rfl, Below.refl _ _, hN8, World.ownsRow_nil _ _ _ _⟩
  case round =>
    clear hN8
    obtain ⟨k, V, hk, rfl, HB, hN, hown⟩ := hrel
    have q0 := (HB.cell (p := ⟨W5.heap.size, 0, none⟩) (by simp)).trans (cells_at H8.out.2.2.2.1 0)
    have q1 := (HB.cell (p := ⟨W5.heap.size, 1, none⟩) (by simp)).trans (cells_at H8.out.2.2.2.1 1)
    have p0 := (HB.cell (p := ⟨WP.heap.size, 0, none⟩) (Nat.lt_succ_of_lt (Nat.lt_trans o1 o2))).trans (cells_at H8.out.2.1 0)
    have p1 := (HB.cell (p := ⟨WP.heap.size, 1, none⟩) (Nat.lt_succ_of_lt (Nat.lt_trans o1 o2))).trans (cells_at H8.out.2.1 1)
    have m3 := (HB.cell (p := ⟨W3.heap.size, 3, none⟩) (Nat.lt_succ_of_lt o2)).trans (cells_at H8.out.2.2.1 3)
    have n3 := cells_at hN 3
    have nf := row_free hN
    have yz := HB.size
    simp at q0 q1 p0 p1 m3 n3
    by_cases hlt : k < n2
    · have t1 : decide ((k : Int) < n2) = true := by simp; omega
      have i9 : (0 : Int) ≤ k ∧ (k : Int) < n2 := by omega
      obtain ⟨rv, hrv⟩ : ∃ rv, k % x2 = rv := ⟨_, rfl⟩
      obtain ⟨qv, hqv⟩ : ∃ qv, k / x2 = qv := ⟨_, rfl⟩
      have r1 : ∀ c : Int, c = x2 → Int.tmod (k : Int) c = rv := by rintro c rfl; rw [Int.tmod_eq_emod_of_nonneg (by omega), ← hrv]; omega
      have r2 : ∀ c : Int, c = x2 → Int.tdiv (k : Int) c = qv := by rintro c rfl; rw [Int.tdiv_eq_ediv_of_nonneg (by omega), ← hqv]; omega
      have r3 : (0 : Int) ≤ rv ∧ (rv : Int) < x2 ∧ (0 : Int) ≤ qv ∧ (qv : Int) ≤ 256000 := by
        have h1 := Nat.mod_lt k (show 0 < x2 by omega)
        have h2 := Nat.div_le_self k x2
        omega
      obtain ⟨mx, my, pr, id0, hmx, hmy, hpr, hie, hlt9, hix, bx, by_, bp, bq⟩ := idx7_ok (x := x) (y := y) (X := (rv : Int)) (Y := (qv : Int)) (n := n) HNE.out.2.2.1.1 HNE.out.2.2.2.1 r3.1 r3.2.2.1 HNE.out.2.1 (Int.le_trans HXY.out.2 (by omega))
      have hpj : ∀ c : Int, c = x → my * c = pr := by rintro c rfl; exact hpr
      have e1 : decide ((x2 : Int) < 1) = false := by simp; omega
      have hat : atN x y x2 k = id0 := by rw [← hix]; unfold atN; congr 1 <;> omega
      have b10 := HNE.out.2.2
      have hi0 : (0 : Int) ≤ id0 ∧ (id0 : Int) < n := by omega
      have HX := hid2 (And.intro HB (And.intro hN (And.intro hown hat)))
      clear HB hN hown hat hpr hix hrv hqv
      go_wp2_with (first
    | (refine wp_region_calm (by kernel_rfl) (by kernel_rfl) ?_; repeat (first | go_big_quiet_step (fail) | quiet_step (fail))
       refine wpQuiet_nil ?_; intro u; have hzu := u.below.size; try simp at hzu))
      obtain ⟨W9, hb9⟩ := u
      simp only
      clear hzu p0 p1 q0 q1 r1 r2 r3 hmx hmy hie hpj bx by_ bp bq e1 t1
      have v3 : W3.heap.size < wr.heap.size := by omega
      have v5 : W5.heap.size + 1 < wr.heap.size := by omega
      have m9 := (hb9.cell (p := ⟨W3.heap.size, 3, none⟩) v3).trans m3
      have n9 := (hb9.cell (p := ⟨W5.heap.size + 1, 3, none⟩) v5).trans n3
      have hin : id0 * 1 + 1 ≤ N := by have := HNE.out.1; omega
      have hic : (0 : Int) ≤ (id0 : Int) * 1 ∧ (id0 : Int) * 1 + 1 ≤ ci := by omega
      have y1 : W3.heap.size < W9.heap.size ∧ W5.heap.size + 1 < W9.heap.size := by have := hb9.size; omega
      have HX9 := hid2 hb9
      clear hb9 m3 n3
      refine wp_region_calm_tail 13 (by kernel_rfl) (by kernel_rfl) ?_
      simp only [List.take_succ_cons, List.take_zero, List.drop_succ_cons, List.drop_zero]
      repeat (first | go_big_quiet_step (fail) | quiet_step (fail))
      refine wpQuiet_nil ?_
      intro u
      obtain ⟨W7, hb7⟩ := u
      simp only
      obtain ⟨HB, hN, hown, hat⟩ := HX.out
      have HB7 : Below (W5.heap.size + 1) W8 W7 := (HB.trans (HX9.out.mono (by omega))).trans (hb7.mono (by omega))
      have hcW : ∀ t, t < N → W7.cell? ⟨gi, t, none⟩ = some (.int .u8 (imgI nc C t)) := fun t ht => (HB7.cell (p := ⟨gi, t, none⟩) (Nat.lt_succ_of_lt (Nat.lt_trans o3 o2))).trans (H8.out.2.2.2.2 t ht)
      have hN7 := bh7 hb7 (bh7 HX9.out hN)
      have hown7 := own_below (own_below hown HX9.out) hb7
      have yz7 : W5.heap.size + 1 ≤ W7.heap.size := by have := hb7.size; omega
      have HZ := hid2 (And.intro HB7 (And.intro hN7 hat))
      clear HB hN hown hat HB7
      go_wp2_with (first
        | (at_builtin; refine wpList_pushL (W5.heap.size + 1) (.tmp 88) (.tmp 99) 29 5 rfl rfl Try.underlying29 infos_u8 (by decide) rfl hown7 ⟨gi, id0, none⟩ 1 _ [.int .u8 (imgI nc C id0)] rfl rfl (fun j u hj => by match j, hj with
          | 0, hj => cases hj; exact hcW id0 (by omega)
          | j + 1, hj => simp at hj) (by simp [Value.oneCell']) (by omega) yz7 ?_; intro v5 w5 hown5 hs5; obtain ⟨kk5, hk5⟩ : ∃ q, 1 * k + 1 = q := ⟨_, rfl⟩; have HK5 := hid2 hk5; rw [hk5] at hown5; obtain ⟨g5, cp5, rfl⟩ := own_shape hown5 (by omega); clear hk5; have hb5 := hs5.other HZ.out.2.1 (by decide); have b5c := cells_at hb5 3; have b5f := row_free hb5; have b5l := heap_lt hb5; simp at b5c))
      go_roundg (n2 - (k + 1))
      case measure => omega
      case rel =>
        refine ⟨k + 1, .slice (some ⟨g5, 0, none⟩) kk5 cp5, by omega, by go_num, ?_, set_cell3 hb5, ?_⟩
        · exact Below.setCell (HZ.out.1.trans (hs5.below yz7)) (by simp) _
        · rw [show 1 * (k + 1) = kk5 by have := HK5.out; omega]
          have hrow : rowU L2 kk5 = rowU L2 (1 * k) ++ [.int .u8 (imgI nc C id0)] := by
            rw [← HK5.out]
            rw [show 1 * k + 1 = 1 * k + 1 from rfl, rowU_succ, Nat.one_mul, edge_1 HL2.out HZ.out.2.2]
          rw [hrow]
          refine own_of_block hown5 fun g hg => set_other7 ?_
          rintro rfl
          obtain ⟨_, c6, f6, h6⟩ := own_tag hown5 hg
          rw [hb5] at h6
          injection h6 with h6
          injection h6 with _ h6
          exact absurd h6 (by decide)
    · obtain rfl : k = n2 := by omega
      have t1 : decide ((k : Int) < k) = false := by simp
      obtain ⟨N2, hN2⟩ : ∃ N2, 1 * k = N2 := ⟨_, rfl⟩
      rw [hN2] at hown HSQ
      obtain ⟨g5, cp5, rfl⟩ := own_shape hown (by omega)
      have hg5 := (hown.lt g5 rfl).2
      have hc5 : ∀ t, t < N2 → wr.cell? ⟨g5, t, none⟩ = some (.int .u8 (L2 t)) := fun t ht => own_cell hown (by simp [rowU, ht])
      have hcW : ∀ t, t < N → wr.cell? ⟨gi, t, none⟩ = some (.int .u8 (imgI nc C t)) := fun t ht => (HB.cell (p := ⟨gi, t, none⟩) (Nat.lt_succ_of_lt (Nat.lt_trans o3 o2))).trans (H8.out.2.2.2.2 t ht)
      have hP := (HB.block WP.heap.size (Nat.lt_succ_of_lt (Nat.lt_trans o1 o2))).trans H8.out.2.1
      have hI := (HB.block W3.heap.size (Nat.lt_succ_of_lt o2)).trans H8.out.2.2.1
      have hQ := (HB.block W5.heap.size (Nat.lt_succ_self _)).trans H8.out.2.2.2.1
      have HBB : Below w.heap.size w wr := H8.out.1.trans (HB.mono (by have := hbP.size; omega))
      have HZ := hid2 (And.intro HBB (And.intro hP (And.intro hI (And.intro hQ (And.intro hN (And.intro hcW hc5))))))
      clear HBB hP hI hQ hN hcW hc5 hown hN2 HB
      go_wp2
      refine wp_region_noPanic ?_
      refine wp_region_sched 11 [(0, false), (1, false), (2, true), (3, true), (5, true), (6, true), (4, false), (7, false), (8, false), (9, false), (10, false)] (fun w' => w'.heap[WP.heap.size]? = some (.cells #[.int .i64 x, .int .i64 y, .int .i64 1, .int .i64 50, .int .i64 1, .int .i64 0] 23 (0, 0)) ∧ w'.heap[W3.heap.size]? = some (.cells #[.int .i64 x, .int .i64 y, .bool false, .slice (some ⟨gi, 0, none⟩) N ci] 32 (0, 0)) ∧ w'.heap[W5.heap.size]? = some (.cells #[.int .i64 x2, .int .i64 y2, .int .i64 1, .int .i64 50, .int .i64 1, .int .i64 0] 23 (0, 0)) ∧ w'.heap[W5.heap.size + 1]? = some (.cells #[.int .i64 x2, .int .i64 y2, .bool false, .slice (some ⟨g5, 0, none⟩) N2 cp5] 32 (0, 0))) (by kernel_rfl) (by kernel_rfl) ⟨HZ.out.2.1, HZ.out.2.2.1, HZ.out.2.2.2.1, HZ.out.2.2.2.2.1⟩ (fun _ _ _ _ _ h => h) ?_
      refine sched_go (by rfl) fun K hK => ?_
      go_simp
      go_at_call 13
      refine (known07 _).mono ?_
      rintro e W4 ⟨rfl, hb4⟩
      have hC4 := hid2 (And.intro (bh7 hb4 HZ.out.2.1) (And.intro (bh7 hb4 HZ.out.2.2.1) (And.intro (bh7 hb4 HZ.out.2.2.2.1) (bh7 hb4 HZ.out.2.2.2.2.1))))
      have hg4 := Nat.lt_of_lt_of_le hg5 hb4.size
      have hi4 : gi < W4.heap.size := Nat.lt_of_lt_of_le (Nat.lt_trans o3 o2) (by have h := hb4.size; have h2 : wr.heap.size ≤ W4.heap.size := h; omega)
      have hc4 : Hid2 ((∀ t, t < N → W4.cell? ⟨gi, t, none⟩ = some (.int .u8 (imgI nc C t))) ∧ ∀ t, t < N2 → W4.cell? ⟨g5, t, none⟩ = some (.int .u8 (L2 t))) := ⟨fun t ht => (hb4.cell (p := ⟨gi, t, none⟩) (show gi < wr.heap.size by omega)).trans (HZ.out.2.2.2.2.2.1 t ht), fun t ht => (hb4.cell (p := ⟨g5, t, none⟩) hg5).trans (HZ.out.2.2.2.2.2.2 t ht)⟩
      have HB4 := hid2 (gr2 (gr3 HZ.out.1) hb4)
      refine hK.out _ _ (fun _ => hC4.out) ?_
      clear hK K hb4
      refine sched_go (by rfl) fun K hK => ?_
      go_simp
      refine hK.out _ _ (fun _ => hC4.out) ?_
      clear hK K
      refine sched_still (by rfl) (by rfl) (by
        intro w' hC
        have k0 := cells_at hC.1 0; have k1 := cells_at hC.1 1; have k2 := cells_at hC.1 2; have k3 := cells_at hC.1 3; have k4 := cells_at hC.1 4; have k5 := cells_at hC.1 5; simp at k0 k1 k2 k3 k4 k5
        go_simp; all_goals with_reducible rfl) ?_
      simp only [Act.put, List.setIfInBounds_toArray, List.getElem_toArray, List.getElem_cons_succ, List.getElem_cons_zero, List.set_cons_succ, List.set_cons_zero]
      refine sched_still (by rfl) (by rfl) (by
        intro w' hC
        have k0 := cells_at hC.2.1 0; have k1 := cells_at hC.2.1 1; have k2 := cells_at hC.2.1 2; have k3 := cells_at hC.2.1 3; simp at k0 k1 k2 k3
        go_simp; all_goals with_reducible rfl) ?_
      simp only [Act.put, List.setIfInBounds_toArray, List.getElem_toArray, List.getElem_cons_succ, List.getElem_cons_zero, List.set_cons_succ, List.set_cons_zero]
      refine sched_still (by rfl) (by rfl) (by
        intro w' hC
        have k0 := cells_at hC.2.2.1 0; have k1 := cells_at hC.2.2.1 1; have k2 := cells_at hC.2.2.1 2; have k3 := cells_at hC.2.2.1 3; have k4 := cells_at hC.2.2.1 4; have k5 := cells_at hC.2.2.1 5; simp at k0 k1 k2 k3 k4 k5
        go_simp; all_goals with_reducible rfl) ?_
      simp only [Act.put, List.setIfInBounds_toArray, List.getElem_toArray, List.getElem_cons_succ, List.getElem_cons_zero, List.set_cons_succ, List.set_cons_zero]
      refine sched_still (by rfl) (by rfl) (by
        intro w' hC
        have k0 := cells_at hC.2.2.2 0; have k1 := cells_at hC.2.2.2 1; have k2 := cells_at hC.2.2.2 2; have k3 := cells_at hC.2.2.2 3; simp at k0 k1 k2 k3
        go_simp; all_goals with_reducible rfl) ?_
      simp only [Act.put, List.setIfInBounds_toArray, List.getElem_toArray, List.getElem_cons_succ, List.getElem_cons_zero, List.set_cons_succ, List.set_cons_zero]
      refine sched_go (by rfl) fun K hK => ?_
      go_simp
      go_at_call 17
      refine (HSP.out W4 gi ci hi4 hc4.out.1).mono ?_
      rintro e W6 ⟨u1, rfl, hb6, HR1⟩
      have hC6 := hid2 (And.intro (bh7 hb6 hC4.out.1) (And.intro (bh7 hb6 hC4.out.2.1) (And.intro (bh7 hb6 hC4.out.2.2.1) (bh7 hb6 hC4.out.2.2.2))))
      refine hK.out _ _ (fun _ => hC6.out) ?_
      clear hK K
      refine sched_go (by rfl) fun K hK => ?_
      go_simp
      go_at_call 17
      refine (HSQ.out W6 g5 cp5 (Nat.lt_of_lt_of_le hg4 hb6.size) (fun t ht => (hb6.cell (p := ⟨g5, t, none⟩) hg4).trans (hc4.out.2 t ht))).mono ?_
      rintro e W7 ⟨u2, rfl, hb7, HR2⟩
      have hC7 := hid2 (And.intro (bh7 hb7 hC6.out.1) (And.intro (bh7 hb7 hC6.out.2.1) (And.intro (bh7 hb7 hC6.out.2.2.1) (bh7 hb7 hC6.out.2.2.2))))
      refine hK.out _ _ (fun _ => hC7.out) ?_
      clear hK K
      refine sched_go (by rfl) fun K hK => ?_
      go_simp
      go_at_call 22
      refine (SameBlocks_ (HR1.below hb7) HR2 hSM.out (by rw [hMl.out]; omega) (fun b hb => by have := hMk.out b hb; omega)).mono ?_
      rintro e W9 ⟨rfl, hb9⟩
      have hC9 := hid2 (And.intro (bh7 hb9 hC7.out.1) (And.intro (bh7 hb9 hC7.out.2.1) (And.intro (bh7 hb9 hC7.out.2.2.1) (bh7 hb9 hC7.out.2.2.2))))
      refine hK.out _ _ (fun _ => hC9.out) ?_
      clear hK K
      refine sched_go (by rfl) fun K hK => ?_
      go_simp
      refine hK.out _ _ (fun _ => hC9.out) ?_
      clear hK K
      refine sched_go (by rfl) fun K hK => ?_
      go_simp
      refine hK.out _ _ (fun _ => hC9.out) (sched_nil (NoPanic.normal ?_))
      clear hK K
      go_wp2
      go_ret
      exact ⟨rfl, gr2 (gr2 (gr2 HB4.out hb6) hb7) hb9⟩
end Go.Proofs.Ytgegmlhpdpdnfaa
