/- PlaneSmall: the walk: it returns true. -/
import Derived.Test.YtgegmlhpdpdnfaaBad7
import Derived.Test.YtgegmlhpdpdnfaaImg7
namespace Go.Proofs.Ytgegmlhpdpdnfaa
open Go.RowKit
theorem RM.less {W : World} {g o n c : Nat} {M : List (List (Nat → Int))} (hl : M.length = n) (h : RM W (.slice (some ⟨g, o, none⟩) n c) M) : RM W (.slice (some ⟨g, o, none⟩) (n - 1) (c - 1)) (M.take (n - 1)) := by
  obtain ⟨g1, o1, c1, e1, h1, h2⟩ := h
  rw [hl] at e1
  cases e1
  refine ⟨g, o, c - 1, by rw [List.length_take, hl, Nat.min_eq_left (Nat.sub_le _ _)], h1, fun i bs hi => ?_⟩
  rw [List.getElem?_take] at hi
  split at hi
  · exact h2 i bs hi
  · cases hi
theorem wpQuiet_val {P : Program} {ops : Array Oper} {rest : List Oper} {o : Oper} {a : Act} {C : World → Prop} {R : Act → Prop} {v : Value} (hw : Region.wanted o (yielded ops a.tmps) = true) (hr : ∀ w', (execOp a.eval o).run P w' = .ok (.value v) w')
    (hn : wpQuiet P ops C R rest (a.put o.dst v)) : wpQuiet P ops C R (o :: rest) a :=
  wpQuiet_step fun K hK => by
    rw [if_pos hw]
    refine ⟨v, fun w' _ => ?_, hK _ hn⟩
    unfold Oper.quietAt
    rw [hr w']
    exact ⟨rfl, rfl⟩
theorem own_cap {w : World} {base : Nat} {e : TypeId} {size n g c : Nat} {xs : List Value} (h : w.ownsRow base e size (.slice (some ⟨g, 0, none⟩) n c) n xs) : n ≤ c := by
  rcases h.2 with ⟨h1, _⟩ | ⟨g9, cap, cur, hv, _, _, hc, _⟩
  · exact nomatch h1
  · cases hv; exact hc
theorem RM.tail {W : World} {g o n c : Nat} {M : List (List (Nat → Int))} (hl : M.length = n) (h : RM W (.slice (some ⟨g, o, none⟩) n c) M) : RM W (.slice (some ⟨g, o + 1, none⟩) (n - 1) (c - 1)) M.tail := by
  obtain ⟨g1, o1, c1, e1, h1, h2⟩ := h
  rw [hl] at e1
  cases e1
  refine ⟨g, o + 1, c - 1, by rw [List.length_tail, hl], h1, fun i bs hi => ?_⟩
  rw [List.getElem?_tail] at hi
  obtain ⟨u, h3, h4⟩ := h2 (i + 1) bs hi
  exact ⟨u, by rw [show o + 1 + i = o + (i + 1) by omega]; exact h3, h4⟩
set_option maxRecDepth 100000 in
set_option maxHeartbeats 4000000 in
theorem walk_PlaneSmall (a b d k : Int) (v : Value) (nc : Nat) (C : Nat → Int) (w : World) (H : Nums .u8 v nc C w) (hnm : nc ≤ 9223372036854775807) (ba : 0 ≤ a ∧ a ≤ 255) (bb : 0 ≤ b ∧ b ≤ 255) (bd : 0 ≤ d ∧ d ≤ 255) (bk : 0 ≤ k ∧ k ≤ 255) :
    Calls Try.prog 5 #[.int .u8 a, .int .u8 b, .int .u8 d, .int .u8 k, v] w fun e w' => e = .returned (.bool true) ∧ Below w.heap.size w w' := by
  obtain ⟨x, hxe⟩ : ∃ x, 1 + a % 40 = x := ⟨_, rfl⟩
  obtain ⟨y, hye⟩ : ∃ y, 1 + b % 24 = y := ⟨_, rfl⟩
  obtain ⟨m, hme⟩ : ∃ m, 1 + d % 4 = m := ⟨_, rfl⟩
  have HP : Hid2 (∀ W, Calls Try.prog 15 #[.int .u8 a, .int .u8 b, .int .u8 d] W fun e w' => e = .returned (.agg #[.int .i64 x, .int .i64 y, .int .i64 m, .int .i64 50, .int .i64 1, .int .i64 0]) ∧ Below W.heap.size W w') := by
    intro W
    have h := Public_ a b d ba bb bd W
    rwa [hxe, hye, hme] at h
  have hx : 1 ≤ x ∧ x ≤ 40 := by omega
  have hy : 1 ≤ y ∧ y ≤ 24 := by omega
  have hm : m = 1 ∨ m = 2 ∨ m = 3 ∨ m = 4 := by omega
  clear hxe hye hme ba bb bd
  have hg : gridOk x y m := ⟨by rcases hm with rfl | rfl | rfl | rfl <;> decide, ⟨hx.1, by omega⟩, hy.1, by omega⟩
  obtain ⟨A, B, hA, hB, A1, B1⟩ : ∃ A B : Nat, gridA x y m = A ∧ gridB x y m = B ∧ (1 ≤ A ∧ A ≤ 40) ∧ (1 ≤ B ∧ B ≤ 24) := by
    have hs : (8 ≤ sideW m ∧ sideW m ≤ 16) ∧ 8 ≤ sideH m ∧ sideH m ≤ 16 := by rcases hm with rfl | rfl | rfl | rfl <;> decide
    obtain ⟨A, hA, A1, _⟩ := ceil_ok (n := x) (d := sideW m) hx.1 (by omega) hs.1.1 hs.1.2
    obtain ⟨B, hB, B1, _⟩ := ceil_ok (n := y) (d := sideH m) hy.1 (by omega) hs.2.1 hs.2.2
    exact ⟨A, B, by rw [(grid_ok hg).1, hA], by rw [(grid_ok hg).2, hB], by omega, by omega⟩
  have hxy : 1 ≤ x * y ∧ x * y ≤ 960 := ⟨by have := Int.mul_le_mul hx.1 hy.1 (by omega) (by omega); omega, by have := Int.mul_le_mul hx.2 hy.2 (by omega) (by omega); omega⟩
  obtain ⟨N, hN⟩ : ∃ N : Nat, (N : Int) = if m = 1 then x * y else 3 * (x * y) := ⟨(if m = 1 then x * y else 3 * (x * y)).toNat, by split <;> omega⟩
  have hN1 : 1 ≤ N ∧ N ≤ 2880 := by split at hN <;> omega
  obtain ⟨T, hT⟩ : ∃ T : Nat, A * B = T := ⟨_, rfl⟩
  have hT1 : 1 ≤ T ∧ T ≤ 960 := by
    rw [← hT]
    exact ⟨Nat.mul_le_mul A1.1 B1.1, Nat.mul_le_mul A1.2 B1.2⟩
  have hTi : gridA x y m * gridB x y m = T := by rw [hA, hB, ← hT]; simp
  obtain ⟨rgb, hrgb⟩ : ∃ rgb, rgb = !decide (m = 1) := ⟨_, rfl⟩
  have HI : Hid2 (∀ (W : World), Nums .u8 v nc C W → Calls Try.prog 16 #[.agg #[.int .i64 x, .int .i64 y, .int .i64 m, .int .i64 50, .int .i64 1, .int .i64 0], v] W fun e w' => ∃ g cap, e = .returned (.agg #[.int .i64 x, .int .i64 y, .bool rgb, .slice (some ⟨g, 0, none⟩) N cap]) ∧ Below W.heap.size W w' ∧ w'.ownsRow W.heap.size 5 1 (.slice (some ⟨g, 0, none⟩) N cap) N (rowU (imgI nc C) N)) := fun W h => by
    rw [hrgb]
    exact Image_ 50 1 0 hx hy hN hnm W h
  obtain ⟨M, hM⟩ : ∃ M, splitM x y m (partF m (imgI nc C)) A T = M := ⟨_, rfl⟩
  have hMl : M.length = T := by rw [← hM]; exact splitM_len _ _ _ _ _ _
  have hMk : Hid2 (∀ bs ∈ M, bs.length ≤ 6) := by rw [← hM]; exact split_len
  have HSP : Hid2 (∀ (W : World) (g cap : Nat), g < W.heap.size → (∀ k, k < N → W.cell? ⟨g, k, none⟩ = some (.int .u8 (imgI nc C k))) → Calls Try.prog 17 #[.agg #[.int .i64 x, .int .i64 y, .int .i64 m, .int .i64 50, .int .i64 1, .int .i64 0], .agg #[.int .i64 x, .int .i64 y, .bool rgb, .slice (some ⟨g, 0, none⟩) N cap]] W fun e w' => ∃ u, e = .returned u ∧ Below W.heap.size W w' ∧ RM w' u M) := fun W g cap h1 h2 => by
    have h := Split_ (q := 50) (i := 1) (c := 0) (pc := cap) hg (by omega) (N := N) hN hrgb W h1 h2 (fun k => imgI_bd nc C k)
    rw [hTi, hA] at h
    simp only [Int.toNat_natCast] at h
    rwa [hM] at h
  have HJ0 : Hid2 (∀ (W : World) (qv : Option Addr) (c9 : Nat), Calls Try.prog 19 #[.agg #[.int .i64 x, .int .i64 y, .int .i64 m, .int .i64 50, .int .i64 1, .int .i64 0], .slice qv 0 c9] W fun e w' => e = .returned (.agg #[.int .i64 0, .int .i64 0, .bool false, .slice none 0 0]) ∧ Below W.heap.size W w') := fun W qv c9 => Join_bad0 (q := 50) (i := 1) (c := 0) hg (by omega) hA hB (by omega) hT (by omega) qv c9 W
  have HJR : Hid2 (∀ (W : World) (g o c9 T2 : Nat) (M2 : List (List (Nat → Int))), M2.length = T2 → T2 ≠ T → T2 ≤ 1000 → (∀ b ∈ M2, b.length ≤ 1000) → RM W (.slice (some ⟨g, o, none⟩) T2 c9) M2 → Calls Try.prog 19 #[.agg #[.int .i64 x, .int .i64 y, .int .i64 m, .int .i64 50, .int .i64 1, .int .i64 0], .slice (some ⟨g, o, none⟩) T2 c9] W fun e w' => e = .returned (.agg #[.int .i64 0, .int .i64 0, .bool false, .slice none 0 0]) ∧ Below W.heap.size W w') := fun W g o c9 T2 M2 h1 h2 h3 h4 h5 => Join_badR (q := 50) (i := 1) (c := 0) hg (by omega) hA hB (by omega) hT h1 h2 (by omega) h4 W h5
  have HS1 : Hid2 (∀ (x2 y2 : Int) (rgb2 : Bool) (pa : Option Addr) (pn pc : Nat) (W : World), ((x2 ≠ x ∨ y2 ≠ y) ∨ rgb2 ≠ rgb) → Calls Try.prog 17 #[.agg #[.int .i64 x, .int .i64 y, .int .i64 m, .int .i64 50, .int .i64 1, .int .i64 0], .agg #[.int .i64 x2, .int .i64 y2, .bool rgb2, .slice pa pn pc]] W fun e w' => e = .returned (.slice none 0 0) ∧ Below W.heap.size W w') := fun x2 y2 rgb2 pa pn pc W h => Split_bad1 (q := 50) (i := 1) (c := 0) rfl (by rw [← hrgb]; exact h) ⟨pa, pn, pc, rfl⟩ W
  have HS2 : Hid2 (∀ (W : World) (g po cap : Nat), g < W.heap.size → (∀ k, k < N - 1 → W.cell? ⟨g, po + k, none⟩ = some (.int .u8 (imgI nc C (1 + k)))) → Calls Try.prog 17 #[.agg #[.int .i64 x, .int .i64 y, .int .i64 m, .int .i64 50, .int .i64 1, .int .i64 0], .agg #[.int .i64 x, .int .i64 y, .bool rgb, .slice (some ⟨g, po, none⟩) (N - 1) cap]] W fun e w' => e = .returned (.slice none 0 0) ∧ Below W.heap.size W w') := fun W g po cap h1 h2 => Split_bad2 (q := 50) (i := 1) (c := 0) (L := fun k => imgI nc C (1 + k)) hg (by omega) rfl (by rw [← hN]; omega) (by omega) hrgb W h1 h2 (fun k => imgI_bd nc C _)
  clear hM hA hB hg hN hxy hT hTi hrgb hm
  have hk4 : k % 4 = 0 ∨ k % 4 = 1 ∨ k % 4 = 2 ∨ k % 4 = 3 := by omega
  have tk : ∀ c : Int, c = 4 → Int.tmod k c = k % 4 := by rintro c rfl; rw [Int.tmod_eq_emod_of_nonneg (by omega)]
  rcases hk4 with h4 | h4 | h4 | h4
  · rw [h4] at tk
    clear h4
    go_enter Try.func5, Try.ntmps5
    go_wp2_with (first
      | (go_at_call 15; refine (HP.out _).mono ?_; rintro e WP ⟨rfl, hbP⟩; have hzP := hbP.size)
      | (refine wpList_store_row rfl _ _ _ rfl WP.heap.size #[.int .i64 x, .int .i64 y, .int .i64 m, .int .i64 50, .int .i64 1, .int .i64 0] rfl rfl 23 #[.int .i64 0, .int .i64 0, .int .i64 0, .int .i64 0, .int .i64 0, .int .i64 0] (heap_alloc_new _ _) (by kernel_rfl) rfl rfl ?_; rw [World.setRow_alloc_new])
      | (go_at_call 16; refine (HI.out _ (H.below (gr1 hbP _))).mono ?_; rintro e W3 ⟨gi, ci, rfl, hb3, own3⟩; obtain ⟨hc3, hf3, hz3⟩ := bcell hb3; (try simp at hz3); have hgl := (own3.lt gi rfl).2; have hcap := own_cap own3; have c3 : ∀ k, k < N → W3.cell? ⟨gi, k, none⟩ = some (.int .u8 (imgI nc C k)) := fun k hk => own_cell own3 (by simp [rowU, hk]))
      | (refine wpList_store_row rfl _ _ _ rfl W3.heap.size #[.int .i64 x, .int .i64 y, .bool rgb, .slice (some ⟨gi, 0, none⟩) N ci] rfl rfl 32 #[.int .i64 0, .int .i64 0, .bool false, .slice none 0 0] (heap_alloc_new _ _) (by kernel_rfl) rfl rfl ?_; rw [World.setRow_alloc_new])
      | (go_at_call 17; refine (HSP.out _ gi _ (by simp; omega) (fun k hk => (Below.cell (gr1 (gr1 (gr0 W3) _) _) (p := ⟨gi, k, none⟩) hgl).trans (c3 k hk))).mono ?_; rintro e W6 ⟨v6, rfl, hb6, HR6⟩; obtain ⟨gv, ov, cv, hv6, hgv, hrv⟩ := id HR6; rw [hMl] at hv6; subst hv6; clear hrv; obtain ⟨hc6, hf6, hz6⟩ := bcell hb6; (try simp at hz6)))
    have HJ1 : Hid2 (∀ W, Below W6.heap.size W6 W → Calls Try.prog 19 #[.agg #[.int .i64 x, .int .i64 y, .int .i64 m, .int .i64 50, .int .i64 1, .int .i64 0], .slice (if cv = 1 then some ⟨gv, ov, none⟩ else some ⟨gv, ov + 1, none⟩) (T - 1) (cv - 1)] W fun e w' => e = .returned (.agg #[.int .i64 0, .int .i64 0, .bool false, .slice none 0 0]) ∧ Below W.heap.size W w') := fun W hW => by
      by_cases h1 : T - 1 = 0
      · rw [h1]; exact HJ0.out W _ _
      · by_cases h2 : cv = 1
        · rw [if_pos h2]
          exact HJR.out W gv ov (cv - 1) (T - 1) (M.take (T - 1)) (by rw [List.length_take, hMl]; omega) (by omega) (by omega) (fun b hb => by have := hMk.out b (List.mem_of_mem_take hb); omega) ((HR6.below hW).less hMl)
        · rw [if_neg h2]
          exact HJR.out W gv (ov + 1) (cv - 1) (T - 1) M.tail (by rw [List.length_tail, hMl]) (by omega) (by omega) (fun b hb => by have := hMk.out b (List.mem_of_mem_tail hb); omega) ((HR6.below hW).tail hMl)
    have t0 : decide (0 < T) = true := by simp; omega
    have t01 : decide ((0 : Int) < T) = true := by simp; omega
    have T9 : (1 : Int) ≤ T ∧ (T : Int) ≤ 960 := by omega
    have HB6 := hid2 (gr2 (gr1 (gr1 (gr2 (gr1 hbP _) hb3) _) _) hb6)
    clear HR6 hb6 c3 own3 hgv HSP HI HJR hbP hb3 H
    refine wp_region_calm (by kernel_rfl) (by kernel_rfl) ?_
    repeat (first | go_big_quiet_step ((first | (go_at_call 13; exact calm_call (known07 _)) | (go_at_call 17; exact calm_call (HS1.out _ _ _ _ _ _ _ (.inl (.inl (by omega))))) | (go_at_call 19; exact calm_call (HJ1.out _ (Later.below _))))) | quiet_step ((first | (go_at_call 13; exact calm_call (known07 _)) | (go_at_call 17; exact calm_call (HS1.out _ _ _ _ _ _ _ (.inl (.inl (by omega))))) | (go_at_call 19; exact calm_call (HJ1.out _ (Later.below _))))))
    refine wpQuiet_val (v := .int .i64 0) (by rfl) (fun _ => by kernel_rfl) ?_
    simp only [Act.put, List.setIfInBounds_toArray, List.set_cons_succ, List.set_cons_zero]
    repeat (first | go_big_quiet_step ((first | (go_at_call 13; exact calm_call (known07 _)) | (go_at_call 17; exact calm_call (HS1.out _ _ _ _ _ _ _ (.inl (.inl (by omega))))) | (go_at_call 19; exact calm_call (HJ0.out _ none 0)))) | quiet_step ((first | (go_at_call 13; exact calm_call (known07 _)) | (go_at_call 17; exact calm_call (HS1.out _ _ _ _ _ _ _ (.inl (.inl (by omega))))) | (go_at_call 19; exact calm_call (HJ0.out _ none 0)))))
    refine wpQuiet_val (v := .int .i64 0) (by rfl) (fun _ => by kernel_rfl) ?_
    simp only [Act.put, List.setIfInBounds_toArray, List.set_cons_succ, List.set_cons_zero]
    repeat (first | go_big_quiet_step ((first | (go_at_call 13; exact calm_call (known07 _)) | (go_at_call 17; exact calm_call (HS1.out _ _ _ _ _ _ _ (.inl (.inl (by omega))))) | (go_at_call 19; exact calm_call (HJ0.out _ none 0)))) | quiet_step ((first | (go_at_call 13; exact calm_call (known07 _)) | (go_at_call 17; exact calm_call (HS1.out _ _ _ _ _ _ _ (.inl (.inl (by omega))))) | (go_at_call 19; exact calm_call (HJ0.out _ none 0)))))
    refine wpQuiet_nil ?_
    intro u
    go_wp2
    all_goals go_ret
    all_goals exact ⟨rfl, gr2 HB6.out u.below⟩
  · rw [h4] at tk
    clear h4
    go_enter Try.func5, Try.ntmps5
    go_wp2_with (first
      | (go_at_call 15; refine (HP.out _).mono ?_; rintro e WP ⟨rfl, hbP⟩; have hzP := hbP.size)
      | (refine wpList_store_row rfl _ _ _ rfl WP.heap.size #[.int .i64 x, .int .i64 y, .int .i64 m, .int .i64 50, .int .i64 1, .int .i64 0] rfl rfl 23 #[.int .i64 0, .int .i64 0, .int .i64 0, .int .i64 0, .int .i64 0, .int .i64 0] (heap_alloc_new _ _) (by kernel_rfl) rfl rfl ?_; rw [World.setRow_alloc_new])
      | (go_at_call 16; refine (HI.out _ (H.below (gr1 hbP _))).mono ?_; rintro e W3 ⟨gi, ci, rfl, hb3, own3⟩; obtain ⟨hc3, hf3, hz3⟩ := bcell hb3; (try simp at hz3); have hgl := (own3.lt gi rfl).2; have hcap := own_cap own3; have c3 : ∀ k, k < N → W3.cell? ⟨gi, k, none⟩ = some (.int .u8 (imgI nc C k)) := fun k hk => own_cell own3 (by simp [rowU, hk]))
      | (refine wpList_store_row rfl _ _ _ rfl W3.heap.size #[.int .i64 x, .int .i64 y, .bool rgb, .slice (some ⟨gi, 0, none⟩) N ci] rfl rfl 32 #[.int .i64 0, .int .i64 0, .bool false, .slice none 0 0] (heap_alloc_new _ _) (by kernel_rfl) rfl rfl ?_; rw [World.setRow_alloc_new])
      | (go_at_call 17; refine (HSP.out _ gi _ (by simp; omega) (fun k hk => (Below.cell (gr1 (gr1 (gr0 W3) _) _) (p := ⟨gi, k, none⟩) hgl).trans (c3 k hk))).mono ?_; rintro e W6 ⟨v6, rfl, hb6, HR6⟩; obtain ⟨gv, ov, cv, hv6, hgv, hrv⟩ := id HR6; rw [hMl] at hv6; subst hv6; clear hrv; obtain ⟨hc6, hf6, hz6⟩ := bcell hb6; (try simp at hz6)))
    have HJ1 : Hid2 (∀ W, Below W6.heap.size W6 W → Calls Try.prog 19 #[.agg #[.int .i64 x, .int .i64 y, .int .i64 m, .int .i64 50, .int .i64 1, .int .i64 0], .slice (if cv = 1 then some ⟨gv, ov, none⟩ else some ⟨gv, ov + 1, none⟩) (T - 1) (cv - 1)] W fun e w' => e = .returned (.agg #[.int .i64 0, .int .i64 0, .bool false, .slice none 0 0]) ∧ Below W.heap.size W w') := fun W hW => by
      by_cases h1 : T - 1 = 0
      · rw [h1]; exact HJ0.out W _ _
      · by_cases h2 : cv = 1
        · rw [if_pos h2]
          exact HJR.out W gv ov (cv - 1) (T - 1) (M.take (T - 1)) (by rw [List.length_take, hMl]; omega) (by omega) (by omega) (fun b hb => by have := hMk.out b (List.mem_of_mem_take hb); omega) ((HR6.below hW).less hMl)
        · rw [if_neg h2]
          exact HJR.out W gv (ov + 1) (cv - 1) (T - 1) M.tail (by rw [List.length_tail, hMl]) (by omega) (by omega) (fun b hb => by have := hMk.out b (List.mem_of_mem_tail hb); omega) ((HR6.below hW).tail hMl)
    have t0 : decide (0 < T) = true := by simp; omega
    have t01 : decide ((0 : Int) < T) = true := by simp; omega
    have T9 : (1 : Int) ≤ T ∧ (T : Int) ≤ 960 := by omega
    have HB6 := hid2 (gr2 (gr1 (gr1 (gr2 (gr1 hbP _) hb3) _) _) hb6)
    clear HR6 hb6 c3 own3 hgv HSP HI HJR hbP hb3 H
    refine wp_region_calm (by kernel_rfl) (by kernel_rfl) ?_
    repeat (first | go_big_quiet_step ((first | (go_at_call 13; exact calm_call (known07 _)) | (go_at_call 17; exact calm_call (HS1.out _ _ _ _ _ _ _ (.inr (by simp)))) | (go_at_call 19; exact calm_call (HJ1.out _ (Later.below _))))) | quiet_step ((first | (go_at_call 13; exact calm_call (known07 _)) | (go_at_call 17; exact calm_call (HS1.out _ _ _ _ _ _ _ (.inr (by simp)))) | (go_at_call 19; exact calm_call (HJ1.out _ (Later.below _))))))
    refine wpQuiet_val (v := .int .i64 0) (by rfl) (fun _ => by kernel_rfl) ?_
    simp only [Act.put, List.setIfInBounds_toArray, List.set_cons_succ, List.set_cons_zero]
    repeat (first | go_big_quiet_step ((first | (go_at_call 13; exact calm_call (known07 _)) | (go_at_call 17; exact calm_call (HS1.out _ _ _ _ _ _ _ (.inr (by simp)))) | (go_at_call 19; exact calm_call (HJ0.out _ none 0)))) | quiet_step ((first | (go_at_call 13; exact calm_call (known07 _)) | (go_at_call 17; exact calm_call (HS1.out _ _ _ _ _ _ _ (.inr (by simp)))) | (go_at_call 19; exact calm_call (HJ0.out _ none 0)))))
    refine wpQuiet_val (v := .int .i64 0) (by rfl) (fun _ => by kernel_rfl) ?_
    simp only [Act.put, List.setIfInBounds_toArray, List.set_cons_succ, List.set_cons_zero]
    repeat (first | go_big_quiet_step ((first | (go_at_call 13; exact calm_call (known07 _)) | (go_at_call 17; exact calm_call (HS1.out _ _ _ _ _ _ _ (.inr (by simp)))) | (go_at_call 19; exact calm_call (HJ0.out _ none 0)))) | quiet_step ((first | (go_at_call 13; exact calm_call (known07 _)) | (go_at_call 17; exact calm_call (HS1.out _ _ _ _ _ _ _ (.inr (by simp)))) | (go_at_call 19; exact calm_call (HJ0.out _ none 0)))))
    refine wpQuiet_nil ?_
    intro u
    go_wp2
    all_goals go_ret
    all_goals exact ⟨rfl, gr2 HB6.out u.below⟩
  · rw [h4] at tk
    clear h4
    go_enter Try.func5, Try.ntmps5
    go_wp2_with (first
      | (go_at_call 15; refine (HP.out _).mono ?_; rintro e WP ⟨rfl, hbP⟩; have hzP := hbP.size)
      | (refine wpList_store_row rfl _ _ _ rfl WP.heap.size #[.int .i64 x, .int .i64 y, .int .i64 m, .int .i64 50, .int .i64 1, .int .i64 0] rfl rfl 23 #[.int .i64 0, .int .i64 0, .int .i64 0, .int .i64 0, .int .i64 0, .int .i64 0] (heap_alloc_new _ _) (by kernel_rfl) rfl rfl ?_; rw [World.setRow_alloc_new])
      | (go_at_call 16; refine (HI.out _ (H.below (gr1 hbP _))).mono ?_; rintro e W3 ⟨gi, ci, rfl, hb3, own3⟩; obtain ⟨hc3, hf3, hz3⟩ := bcell hb3; (try simp at hz3); have hgl := (own3.lt gi rfl).2; have hcap := own_cap own3; have c3 : ∀ k, k < N → W3.cell? ⟨gi, k, none⟩ = some (.int .u8 (imgI nc C k)) := fun k hk => own_cell own3 (by simp [rowU, hk]))
      | (refine wpList_store_row rfl _ _ _ rfl W3.heap.size #[.int .i64 x, .int .i64 y, .bool rgb, .slice (some ⟨gi, 0, none⟩) N ci] rfl rfl 32 #[.int .i64 0, .int .i64 0, .bool false, .slice none 0 0] (heap_alloc_new _ _) (by kernel_rfl) rfl rfl ?_; rw [World.setRow_alloc_new])
      | (go_at_call 17; refine (HSP.out _ gi _ (by simp; omega) (fun k hk => (Below.cell (gr1 (gr1 (gr0 W3) _) _) (p := ⟨gi, k, none⟩) hgl).trans (c3 k hk))).mono ?_; rintro e W6 ⟨v6, rfl, hb6, HR6⟩; obtain ⟨gv, ov, cv, hv6, hgv, hrv⟩ := id HR6; rw [hMl] at hv6; subst hv6; clear hrv; obtain ⟨hc6, hf6, hz6⟩ := bcell hb6; (try simp at hz6)))
    · have HJ1 : Hid2 (∀ W, Below W6.heap.size W6 W → Calls Try.prog 19 #[.agg #[.int .i64 x, .int .i64 y, .int .i64 m, .int .i64 50, .int .i64 1, .int .i64 0], .slice (if cv = 1 then some ⟨gv, ov, none⟩ else some ⟨gv, ov + 1, none⟩) (T - 1) (cv - 1)] W fun e w' => e = .returned (.agg #[.int .i64 0, .int .i64 0, .bool false, .slice none 0 0]) ∧ Below W.heap.size W w') := fun W hW => by
        by_cases h1 : T - 1 = 0
        · rw [h1]; exact HJ0.out W _ _
        · by_cases h2 : cv = 1
          · rw [if_pos h2]
            exact HJR.out W gv ov (cv - 1) (T - 1) (M.take (T - 1)) (by rw [List.length_take, hMl]; omega) (by omega) (by omega) (fun b hb => by have := hMk.out b (List.mem_of_mem_take hb); omega) ((HR6.below hW).less hMl)
          · rw [if_neg h2]
            exact HJR.out W gv (ov + 1) (cv - 1) (T - 1) M.tail (by rw [List.length_tail, hMl]) (by omega) (by omega) (fun b hb => by have := hMk.out b (List.mem_of_mem_tail hb); omega) ((HR6.below hW).tail hMl)
      have HS22 : Hid2 (∀ W cap, Below W6.heap.size W6 W → Calls Try.prog 17 #[.agg #[.int .i64 x, .int .i64 y, .int .i64 m, .int .i64 50, .int .i64 1, .int .i64 0], .agg #[.int .i64 x, .int .i64 y, .bool rgb, .slice (some ⟨gi, 0, none⟩) (N - 1) cap]] W fun e w' => e = .returned (.slice none 0 0) ∧ Below W.heap.size W w') := fun W cap hW => by
        have hb3' := (gr2 (gr1 (gr1 (gr0 W3) _) _) hb6)
        have hz3' : gi < W.heap.size := Nat.lt_of_lt_of_le hgl (Nat.le_trans hb3'.size hW.size)
        exact HS2.out W gi 0 cap hz3' (fun k hk => absurd hk (by omega))
      have t0 : decide (0 < T) = true := by simp; omega
      have t01 : decide ((0 : Int) < T) = true := by simp; omega
      have T9 : (1 : Int) ≤ T ∧ (T : Int) ≤ 960 := by omega
      have HB6 := hid2 (gr2 (gr1 (gr1 (gr2 (gr1 hbP _) hb3) _) _) hb6)
      clear HR6 hb6 c3 own3 hgv HSP HI HJR hbP hb3 H
      refine wp_region_calm (by kernel_rfl) (by kernel_rfl) ?_
      repeat (first | go_big_quiet_step ((first | (go_at_call 13; exact calm_call (known07 _)) | (go_at_call 17; exact calm_call (HS22.out _ _ (Later.below _))) | (go_at_call 19; exact calm_call (HJ1.out _ (Later.below _))))) | quiet_step ((first | (go_at_call 13; exact calm_call (known07 _)) | (go_at_call 17; exact calm_call (HS22.out _ _ (Later.below _))) | (go_at_call 19; exact calm_call (HJ1.out _ (Later.below _))))))
      refine wpQuiet_val (v := .int .i64 0) (by rfl) (fun _ => by kernel_rfl) ?_
      simp only [Act.put, List.setIfInBounds_toArray, List.set_cons_succ, List.set_cons_zero]
      repeat (first | go_big_quiet_step ((first | (go_at_call 13; exact calm_call (known07 _)) | (go_at_call 17; exact calm_call (HS22.out _ _ (Later.below _))) | (go_at_call 19; exact calm_call (HJ0.out _ none 0)))) | quiet_step ((first | (go_at_call 13; exact calm_call (known07 _)) | (go_at_call 17; exact calm_call (HS22.out _ _ (Later.below _))) | (go_at_call 19; exact calm_call (HJ0.out _ none 0)))))
      refine wpQuiet_val (v := .int .i64 0) (by rfl) (fun _ => by kernel_rfl) ?_
      simp only [Act.put, List.setIfInBounds_toArray, List.set_cons_succ, List.set_cons_zero]
      repeat (first | go_big_quiet_step ((first | (go_at_call 13; exact calm_call (known07 _)) | (go_at_call 17; exact calm_call (HS22.out _ _ (Later.below _))) | (go_at_call 19; exact calm_call (HJ0.out _ none 0)))) | quiet_step ((first | (go_at_call 13; exact calm_call (known07 _)) | (go_at_call 17; exact calm_call (HS22.out _ _ (Later.below _))) | (go_at_call 19; exact calm_call (HJ0.out _ none 0)))))
      refine wpQuiet_nil ?_
      intro u
      go_wp2
      all_goals go_ret
      all_goals exact ⟨rfl, gr2 HB6.out u.below⟩
    · have HJ1 : Hid2 (∀ W, Below W6.heap.size W6 W → Calls Try.prog 19 #[.agg #[.int .i64 x, .int .i64 y, .int .i64 m, .int .i64 50, .int .i64 1, .int .i64 0], .slice (if cv = 1 then some ⟨gv, ov, none⟩ else some ⟨gv, ov + 1, none⟩) (T - 1) (cv - 1)] W fun e w' => e = .returned (.agg #[.int .i64 0, .int .i64 0, .bool false, .slice none 0 0]) ∧ Below W.heap.size W w') := fun W hW => by
        by_cases h1 : T - 1 = 0
        · rw [h1]; exact HJ0.out W _ _
        · by_cases h2 : cv = 1
          · rw [if_pos h2]
            exact HJR.out W gv ov (cv - 1) (T - 1) (M.take (T - 1)) (by rw [List.length_take, hMl]; omega) (by omega) (by omega) (fun b hb => by have := hMk.out b (List.mem_of_mem_take hb); omega) ((HR6.below hW).less hMl)
          · rw [if_neg h2]
            exact HJR.out W gv (ov + 1) (cv - 1) (T - 1) M.tail (by rw [List.length_tail, hMl]) (by omega) (by omega) (fun b hb => by have := hMk.out b (List.mem_of_mem_tail hb); omega) ((HR6.below hW).tail hMl)
      have HS22 : Hid2 (∀ W cap, Below W6.heap.size W6 W → Calls Try.prog 17 #[.agg #[.int .i64 x, .int .i64 y, .int .i64 m, .int .i64 50, .int .i64 1, .int .i64 0], .agg #[.int .i64 x, .int .i64 y, .bool rgb, .slice (some ⟨gi, 1, none⟩) (N - 1) cap]] W fun e w' => e = .returned (.slice none 0 0) ∧ Below W.heap.size W w') := fun W cap hW => by
        have hb3' := (gr2 (gr1 (gr1 (gr0 W3) _) _) hb6)
        have hz3' : gi < W.heap.size := Nat.lt_of_lt_of_le hgl (Nat.le_trans hb3'.size hW.size)
        exact HS2.out W gi 1 cap hz3' (fun k hk => ((hb3'.trans (hW.mono hb3'.size)).cell (p := ⟨gi, 1 + k, none⟩) hgl).trans (c3 (1 + k) (by omega)))
      have t0 : decide (0 < T) = true := by simp; omega
      have t01 : decide ((0 : Int) < T) = true := by simp; omega
      have T9 : (1 : Int) ≤ T ∧ (T : Int) ≤ 960 := by omega
      have HB6 := hid2 (gr2 (gr1 (gr1 (gr2 (gr1 hbP _) hb3) _) _) hb6)
      clear HR6 hb6 c3 own3 hgv HSP HI HJR hbP hb3 H
      refine wp_region_calm (by kernel_rfl) (by kernel_rfl) ?_
      repeat (first | go_big_quiet_step ((first | (go_at_call 13; exact calm_call (known07 _)) | (go_at_call 17; exact calm_call (HS22.out _ _ (Later.below _))) | (go_at_call 19; exact calm_call (HJ1.out _ (Later.below _))))) | quiet_step ((first | (go_at_call 13; exact calm_call (known07 _)) | (go_at_call 17; exact calm_call (HS22.out _ _ (Later.below _))) | (go_at_call 19; exact calm_call (HJ1.out _ (Later.below _))))))
      refine wpQuiet_val (v := .int .i64 0) (by rfl) (fun _ => by kernel_rfl) ?_
      simp only [Act.put, List.setIfInBounds_toArray, List.set_cons_succ, List.set_cons_zero]
      repeat (first | go_big_quiet_step ((first | (go_at_call 13; exact calm_call (known07 _)) | (go_at_call 17; exact calm_call (HS22.out _ _ (Later.below _))) | (go_at_call 19; exact calm_call (HJ0.out _ none 0)))) | quiet_step ((first | (go_at_call 13; exact calm_call (known07 _)) | (go_at_call 17; exact calm_call (HS22.out _ _ (Later.below _))) | (go_at_call 19; exact calm_call (HJ0.out _ none 0)))))
      refine wpQuiet_val (v := .int .i64 0) (by rfl) (fun _ => by kernel_rfl) ?_
      simp only [Act.put, List.setIfInBounds_toArray, List.set_cons_succ, List.set_cons_zero]
      repeat (first | go_big_quiet_step ((first | (go_at_call 13; exact calm_call (known07 _)) | (go_at_call 17; exact calm_call (HS22.out _ _ (Later.below _))) | (go_at_call 19; exact calm_call (HJ0.out _ none 0)))) | quiet_step ((first | (go_at_call 13; exact calm_call (known07 _)) | (go_at_call 17; exact calm_call (HS22.out _ _ (Later.below _))) | (go_at_call 19; exact calm_call (HJ0.out _ none 0)))))
      refine wpQuiet_nil ?_
      intro u
      go_wp2
      all_goals go_ret
      all_goals exact ⟨rfl, gr2 HB6.out u.below⟩
  · rw [h4] at tk
    clear h4
    go_enter Try.func5, Try.ntmps5
    go_wp2_with (first
      | (go_at_call 15; refine (HP.out _).mono ?_; rintro e WP ⟨rfl, hbP⟩; have hzP := hbP.size)
      | (refine wpList_store_row rfl _ _ _ rfl WP.heap.size #[.int .i64 x, .int .i64 y, .int .i64 m, .int .i64 50, .int .i64 1, .int .i64 0] rfl rfl 23 #[.int .i64 0, .int .i64 0, .int .i64 0, .int .i64 0, .int .i64 0, .int .i64 0] (heap_alloc_new _ _) (by kernel_rfl) rfl rfl ?_; rw [World.setRow_alloc_new])
      | (go_at_call 16; refine (HI.out _ (H.below (gr1 hbP _))).mono ?_; rintro e W3 ⟨gi, ci, rfl, hb3, own3⟩; obtain ⟨hc3, hf3, hz3⟩ := bcell hb3; (try simp at hz3); have hgl := (own3.lt gi rfl).2; have hcap := own_cap own3; have c3 : ∀ k, k < N → W3.cell? ⟨gi, k, none⟩ = some (.int .u8 (imgI nc C k)) := fun k hk => own_cell own3 (by simp [rowU, hk]))
      | (refine wpList_store_row rfl _ _ _ rfl W3.heap.size #[.int .i64 x, .int .i64 y, .bool rgb, .slice (some ⟨gi, 0, none⟩) N ci] rfl rfl 32 #[.int .i64 0, .int .i64 0, .bool false, .slice none 0 0] (heap_alloc_new _ _) (by kernel_rfl) rfl rfl ?_; rw [World.setRow_alloc_new])
      | (go_at_call 17; refine (HSP.out _ gi _ (by simp; omega) (fun k hk => (Below.cell (gr1 (gr1 (gr0 W3) _) _) (p := ⟨gi, k, none⟩) hgl).trans (c3 k hk))).mono ?_; rintro e W6 ⟨v6, rfl, hb6, HR6⟩; obtain ⟨gv, ov, cv, hv6, hgv, hrv⟩ := id HR6; rw [hMl] at hv6; subst hv6; clear hrv; obtain ⟨hc6, hf6, hz6⟩ := bcell hb6; (try simp at hz6)))
    have HJ1 : Hid2 (∀ W, Below W6.heap.size W6 W → Calls Try.prog 19 #[.agg #[.int .i64 x, .int .i64 y, .int .i64 m, .int .i64 50, .int .i64 1, .int .i64 0], .slice (if cv = 1 then some ⟨gv, ov, none⟩ else some ⟨gv, ov + 1, none⟩) (T - 1) (cv - 1)] W fun e w' => e = .returned (.agg #[.int .i64 0, .int .i64 0, .bool false, .slice none 0 0]) ∧ Below W.heap.size W w') := fun W hW => by
      by_cases h1 : T - 1 = 0
      · rw [h1]; exact HJ0.out W _ _
      · by_cases h2 : cv = 1
        · rw [if_pos h2]
          exact HJR.out W gv ov (cv - 1) (T - 1) (M.take (T - 1)) (by rw [List.length_take, hMl]; omega) (by omega) (by omega) (fun b hb => by have := hMk.out b (List.mem_of_mem_take hb); omega) ((HR6.below hW).less hMl)
        · rw [if_neg h2]
          exact HJR.out W gv (ov + 1) (cv - 1) (T - 1) M.tail (by rw [List.length_tail, hMl]) (by omega) (by omega) (fun b hb => by have := hMk.out b (List.mem_of_mem_tail hb); omega) ((HR6.below hW).tail hMl)
    have t0 : decide (0 < T) = true := by simp; omega
    have t01 : decide ((0 : Int) < T) = true := by simp; omega
    have T9 : (1 : Int) ≤ T ∧ (T : Int) ≤ 960 := by omega
    have HB6 := hid2 (gr2 (gr1 (gr1 (gr2 (gr1 hbP _) hb3) _) _) hb6)
    clear HR6 hb6 c3 own3 hgv HSP HI HJR hbP hb3 H
    refine wp_region_calm (by kernel_rfl) (by kernel_rfl) ?_
    repeat (first | go_big_quiet_step ((first | (go_at_call 13; exact calm_call (known07 _)) | (go_at_call 17; exact calm_call (HS1.out _ _ _ _ _ _ _ (.inl (.inr (by omega))))) | (go_at_call 19; exact calm_call (HJ1.out _ (Later.below _))))) | quiet_step ((first | (go_at_call 13; exact calm_call (known07 _)) | (go_at_call 17; exact calm_call (HS1.out _ _ _ _ _ _ _ (.inl (.inr (by omega))))) | (go_at_call 19; exact calm_call (HJ1.out _ (Later.below _))))))
    refine wpQuiet_val (v := .int .i64 0) (by rfl) (fun _ => by kernel_rfl) ?_
    simp only [Act.put, List.setIfInBounds_toArray, List.set_cons_succ, List.set_cons_zero]
    repeat (first | go_big_quiet_step ((first | (go_at_call 13; exact calm_call (known07 _)) | (go_at_call 17; exact calm_call (HS1.out _ _ _ _ _ _ _ (.inl (.inr (by omega))))) | (go_at_call 19; exact calm_call (HJ0.out _ none 0)))) | quiet_step ((first | (go_at_call 13; exact calm_call (known07 _)) | (go_at_call 17; exact calm_call (HS1.out _ _ _ _ _ _ _ (.inl (.inr (by omega))))) | (go_at_call 19; exact calm_call (HJ0.out _ none 0)))))
    refine wpQuiet_val (v := .int .i64 0) (by rfl) (fun _ => by kernel_rfl) ?_
    simp only [Act.put, List.setIfInBounds_toArray, List.set_cons_succ, List.set_cons_zero]
    repeat (first | go_big_quiet_step ((first | (go_at_call 13; exact calm_call (known07 _)) | (go_at_call 17; exact calm_call (HS1.out _ _ _ _ _ _ _ (.inl (.inr (by omega))))) | (go_at_call 19; exact calm_call (HJ0.out _ none 0)))) | quiet_step ((first | (go_at_call 13; exact calm_call (known07 _)) | (go_at_call 17; exact calm_call (HS1.out _ _ _ _ _ _ _ (.inl (.inr (by omega))))) | (go_at_call 19; exact calm_call (HJ0.out _ none 0)))))
    refine wpQuiet_nil ?_
    intro u
    go_wp2
    all_goals go_ret
    all_goals exact ⟨rfl, gr2 HB6.out u.below⟩
end Go.Proofs.Ytgegmlhpdpdnfaa
