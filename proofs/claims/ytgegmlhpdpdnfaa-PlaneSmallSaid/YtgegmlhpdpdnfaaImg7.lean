/- Public numbers and an image, as choices say. -/
import Derived.Test.YtgegmlhpdpdnfaaSplt7
import Derived.Test.YtgegmlhpdpdnfaaSidesL
namespace Go.Proofs.Ytgegmlhpdpdnfaa
open Go.RowKit
def Nums (k : IntKind) (v : Value) (n : Nat) (f : Nat → Int) (W : World) : Prop := (∀ i, i < n → (Lit.int k (f i)).wf = true) ∧ ∃ q c, v = .slice q n c ∧ ∀ i, i < n → ∃ cb co, q = some ⟨cb, co, none⟩ ∧ cb < W.heap.size ∧ W.cell? ⟨cb, co + i, none⟩ = some (.int k (f i))
theorem u8_bd {x : Int} (h : (Lit.int .u8 x).wf = true) : 0 ≤ x ∧ x ≤ 255 := by
  have hmin : IntKind.u8.min = 0 := rfl
  have hmax : IntKind.u8.max = 255 := rfl
  simp only [Lit.wf, Bool.and_eq_true, decide_eq_true_eq] at h; omega
theorem Nums.open8 {v : Value} {n : Nat} {f : Nat → Int} {W : World} (h : Nums .u8 v n f W) : (n = 0 ∧ ∃ q c, v = .slice q 0 c) ∨ (0 < n ∧ ∃ cb co c, v = .slice (some ⟨cb, co, none⟩) n c ∧ cb < W.heap.size ∧ ∀ i, i < n → W.cell? ⟨cb, co + i, none⟩ = some (.int .u8 (f i)) ∧ 0 ≤ f i ∧ f i ≤ 255) := by
  obtain ⟨h1, q, c, rfl, h2⟩ := h
  rcases Nat.eq_zero_or_pos n with rfl | hn
  · exact .inl ⟨rfl, q, c, rfl⟩
  · obtain ⟨cb, co, rfl, h3, _⟩ := h2 0 hn
    refine .inr ⟨hn, cb, co, c, rfl, h3, fun i hi => ?_⟩
    obtain ⟨cb', co', e, _, h4⟩ := h2 i hi
    cases e
    exact ⟨h4, u8_bd (h1 i hi)⟩
def imgI (nc : Nat) (C : Nat → Int) (k : Nat) : Int := if nc = 0 then ((k : Int) * 7) % 256 else (C (k % nc) + ((k / nc : Nat) : Int)) % 256
theorem imgI_bd (nc : Nat) (C : Nat → Int) (k : Nat) : 0 ≤ imgI nc C k ∧ imgI nc C k ≤ 255 := by unfold imgI; split <;> omega
def rowU (L : Nat → Int) (n : Nat) : List Value := (List.range n).map fun k => .int .u8 (L k)
theorem rowU_succ (L : Nat → Int) (n : Nat) : rowU L (n + 1) = rowU L n ++ [.int .u8 (L n)] := by simp [rowU, List.range_succ]
theorem set_other7 {W : World} {b j k : Nat} {v : Value} (h : k ≠ b) : (W.setCell ⟨b, j, none⟩ v).heap[k]? = W.heap[k]? := by
  unfold World.setCell
  simp only [Array.getElem?_modify]
  rw [if_neg (fun e => h e.symm)]
theorem set_cell3 {W : World} {b : Nat} {t : TypeId} {f : Nat × Nat} {a0 a1 a2 a3 v : Value} (h : W.heap[b]? = some (.cells #[a0, a1, a2, a3] t f)) : (W.setCell ⟨b, 3, none⟩ v).heap[b]? = some (.cells #[a0, a1, a2, v] t f) := by
  have hlt := heap_lt h
  unfold World.setCell
  simp [Array.getElem?_modify, h]
theorem infos_u8 : Infos Try.prog 5 1 1 := by unfold Infos; kernel_rfl
set_option maxRecDepth 100000 in
set_option maxHeartbeats 4000000 in
theorem Public_ (a b d : Int) (ha : 0 ≤ a ∧ a ≤ 255) (hb : 0 ≤ b ∧ b ≤ 255) (hd : 0 ≤ d ∧ d ≤ 255) (w : World) :
    Calls Try.prog 15 #[.int .u8 a, .int .u8 b, .int .u8 d] w fun e w' => e = .returned (.agg #[.int .i64 (1 + a % 40), .int .i64 (1 + b % 24), .int .i64 (1 + d % 4), .int .i64 50, .int .i64 1, .int .i64 0]) ∧ Below w.heap.size w w' := by
  have ta : ∀ n : Int, n = 40 → Int.tmod a n = a % 40 := by rintro n rfl; rw [Int.tmod_eq_emod_of_nonneg (by omega)]
  have tb : ∀ n : Int, n = 24 → Int.tmod b n = b % 24 := by rintro n rfl; rw [Int.tmod_eq_emod_of_nonneg (by omega)]
  have td : ∀ n : Int, n = 4 → Int.tmod d n = d % 4 := by rintro n rfl; rw [Int.tmod_eq_emod_of_nonneg (by omega)]
  have ra : 0 ≤ a % 40 ∧ a % 40 ≤ 39 := by omega
  have rb : 0 ≤ b % 24 ∧ b % 24 ≤ 23 := by omega
  have rd : 0 ≤ d % 4 ∧ d % 4 ≤ 3 := by omega
  obtain ⟨A, hA⟩ : ∃ A, a % 40 = A := ⟨_, rfl⟩
  obtain ⟨B, hB⟩ : ∃ B, b % 24 = B := ⟨_, rfl⟩
  obtain ⟨E, hE⟩ : ∃ E, d % 4 = E := ⟨_, rfl⟩
  rw [hA] at ta ra ⊢
  rw [hB] at tb rb ⊢
  rw [hE] at td rd ⊢
  clear hA hB hE
  go_enter Try.func15, Try.ntmps15
  go_wp2
  refine bodyPost_ret (v := .agg #[.int .i64 (1 + A), .int .i64 (1 + B), .int .i64 (1 + E), .int .i64 50, .int .i64 1, .int .i64 0]) (by simp [results, Try.results15, go_sem] <;> rfl) rfl ⟨rfl, ?_⟩
  repeat (first | exact gr0 _ | refine gr1 ?_ _ | refine gr2 ?_ (Later.below _) | refine gr2 ?_ (by assumption) | refine gr3 ?_ | refine gr4 ?_ (by first | (simp; done) | (simp; omega) | omega) _)
set_option maxRecDepth 100000 in
set_option maxHeartbeats 4000000 in
theorem Image_pg {x y m : Int} (q i c : Int) (hx : 1 ≤ x ∧ x ≤ 40) (hy : 1 ≤ y ∧ y ≤ 24) {N : Nat} (hm : m = 1) (hN : (N : Int) = x * y) {nc cb co cc : Nat} {C : Nat → Int} (hnc : 0 < nc) (hnm : nc ≤ 9223372036854775807) (w : World) (hcb : cb < w.heap.size) (hC : ∀ i, i < nc → w.cell? ⟨cb, co + i, none⟩ = some (.int .u8 (C i)) ∧ 0 ≤ C i ∧ C i ≤ 255) :
    Calls Try.prog 16 #[.agg #[.int .i64 x, .int .i64 y, .int .i64 m, .int .i64 q, .int .i64 i, .int .i64 c], .slice (some ⟨cb, co, none⟩) nc cc] w fun e w' => ∃ g cap, e = .returned (.agg #[.int .i64 x, .int .i64 y, .bool false, .slice (some ⟨g, 0, none⟩) N cap]) ∧ Below w.heap.size w w' ∧ w'.ownsRow w.heap.size 5 1 (.slice (some ⟨g, 0, none⟩) N cap) N (rowU (imgI nc C) N) := by
  have hxy : 1 ≤ x * y ∧ x * y ≤ 960 := ⟨by have := Int.mul_le_mul hx.1 hy.1 (by omega) (by omega); omega, by have := Int.mul_le_mul hx.2 hy.2 (by omega) (by omega); omega⟩
  have hN2 : 1 ≤ N ∧ N ≤ 2880 := by omega
  have e4 : (m != 1) = false := by simp [hm]
  obtain ⟨xy, hxe⟩ : ∃ xy : Nat, x * y = xy := ⟨(x * y).toNat, by omega⟩
  rw [hxe] at hN hxy
  have hxa : ∀ b : Int, b = y → x * b = xy := by rintro b rfl; exact hxe
  have HCC := hid2 hC
  clear hC
  clear hx hy hxe hm
  go_enter Try.func16, Try.ntmps16
  go_wp2
  refine wp_abs7 (fun W => Below w.heap.size w W ∧ W.heap[w.heap.size + 1]? = some (.cells #[.int .i64 0, .int .i64 0, .bool false, .slice none 0 0] 32 (0, 0)) ∧ W.heap[w.heap.size + 1 + 1]? = some (.cells #[.int .i64 x, .int .i64 y, .bool false, .slice none 0 0] 32 (0, 0))) ?_ ?_
  · refine ⟨?_, ?_, ?_⟩
    · repeat (first | exact gr0 _ | refine gr1 ?_ _ | refine gr2 ?_ (Later.below _) | refine gr2 ?_ (by assumption) | refine gr3 ?_ | refine gr4 ?_ (by first | (simp; done) | (simp; omega) | omega) _)
    · exact bh7 (gr1 (gr0 _) _) (heap_alloc_at (by simp))
    · exact heap_alloc_at (by simp)
  rintro W ⟨HB0, h40, h50⟩
  go_loopg [7] N (fun gj ix wr => ∃ (k : Nat) (V : Value), k + gj = N ∧ ix = .int .i64 k ∧ Below w.heap.size w wr ∧ wr.heap[w.heap.size + 1]? = some (.cells #[.int .i64 0, .int .i64 0, .bool false, .slice none 0 0] 32 (0, 0)) ∧ wr.heap[w.heap.size + 1 + 1]? = some (.cells #[.int .i64 x, .int .i64 y, .bool false, V] 32 (0, 0)) ∧ wr.ownsRow w.heap.size 5 1 V k (rowU (imgI nc C) k))
  case atStart => exact ⟨0, _, by omega, rfl, HB0, h40, h50, World.ownsRow_nil _ _ _ _⟩
  case round =>
    clear HB0 h40 h50
    obtain ⟨k, V, hk, rfl, HB, h4, h5, hown⟩ := hrel
    by_cases hlt : k < N
    · have t1 : decide ((k : Int) < N) = true := by simp; omega
      have k9 : (0 : Int) ≤ k ∧ (k : Int) < N ∧ (k : Int) * 7 ≤ 20160 := by omega
      have k5 := cells_at h5 3
      have y5 := heap_lt h5
      simp at k5
      have n1 : decide ((0 : Int) < nc) = true := by simp; omega
      obtain ⟨rm, hrm⟩ : ∃ rm, k % nc = rm := ⟨_, rfl⟩
      obtain ⟨dv, hdv⟩ : ∃ dv, k / nc = dv := ⟨_, rfl⟩
      have r1 : ∀ b : Int, b = nc → Int.tmod (k : Int) b = rm := by rintro b rfl; rw [Int.tmod_eq_emod_of_nonneg (by omega), ← hrm]; omega
      have d1 : ∀ b : Int, b = nc → Int.tdiv (k : Int) b = dv := by rintro b rfl; rw [Int.tdiv_eq_ediv_of_nonneg (by omega), ← hdv]; omega
      have rl : rm < nc := by rw [← hrm]; exact Nat.mod_lt _ hnc
      have dl : dv ≤ k := by rw [← hdv]; exact Nat.div_le_self _ _
      have i9 : (0 : Int) ≤ rm ∧ (rm : Int) < nc ∧ (0 : Int) ≤ dv ∧ (dv : Int) ≤ 2880 ∧ (nc : Int) ≤ 9223372036854775807 ∧ (0 : Int) < nc := by omega
      have c1 : wr.cell? ⟨cb, co + rm, none⟩ = some (.int .u8 (C rm)) := (HB.cell (p := ⟨cb, co + rm, none⟩) hcb).trans (HCC.out rm rl).1
      have c2 := (HCC.out rm rl).2
      have c3 : cb < wr.heap.size := Nat.lt_of_lt_of_le hcb HB.size
      have HI := hid2 (show imgI nc C k = (C rm + (dv : Int)) % 256 by unfold imgI; rw [if_neg (by omega), hrm, hdv])
      clear hrm hdv
      have HX := hid2 (And.intro HB (And.intro h4 (And.intro h5 hown)))
      clear HB h4 h5 hown
      go_wp2
      refine wp_region_calm (by kernel_rfl) (by kernel_rfl) ?_
      repeat (first | go_big_quiet_step (fail) | quiet_step (fail))
      refine wpQuiet_nil ?_
      intro u
      obtain ⟨W9, hb9⟩ := u
      simp only
      obtain ⟨HB, h4, h5, hown⟩ := HX.out
      have HB9 := HB.trans (hb9.mono HB.size)
      have h49 := bh7 hb9 h4
      have h59 := bh7 hb9 h5
      have hown9 := own_below hown hb9
      have k59 := cells_at h59 3
      have y59 := heap_lt h59
      simp at k59
      clear hb9 HB h4 h5 hown HX k5 y5 c1 c3
      have HX9 := hid2 (And.intro HB9 (And.intro h49 (And.intro h59 hown9)))
      clear HB9 h49 h59
      go_wp2_with (first
        | (at_builtin; refine wpList_pushV w.heap.size (.tmp 51) (.tmp 53) 29 5 rfl rfl Try.underlying29 infos_u8 (by decide) rfl (own_alloc hown9) rfl (new_cell (by simp)) rfl (by omega) (by have := HX9.out.1.size; simp; omega) ?_; intro v5 w5 hown5 hs5 ho5; obtain ⟨g5, cp5, rfl⟩ := own_shape hown5 (by omega); have hb5 := hs5.other (bh7 (gr1 (gr0 _) _) HX9.out.2.2.1) (by decide); have b5c := cells_at hb5 3; have b5f := row_free hb5; have b5l := heap_lt hb5; simp at b5c))
      go_roundg (N - (k + 1))
      case measure => omega
      case rel =>
        obtain ⟨HB9, h49, h59, _⟩ := HX9.out
        have HB10 := (gr1 HB9 _).trans (hs5.below (by have := HB9.size; simp; omega))
        have h410 := hs5.other (bh7 (gr1 (gr0 _) _) h49) (by decide)
        refine ⟨k + 1, .slice (some ⟨g5, 0, none⟩) (k + 1) cp5, by omega, by go_num, gr4 HB10 (by simp; omega) _, (set_other7 (by simp)).trans h410, ?_, ?_⟩
        · exact set_cell3 hb5
        · rw [rowU_succ, HI.out]
          refine own_of_block hown5 fun g hg => set_other7 ?_
          rintro rfl
          obtain ⟨_, c6, f6, h6⟩ := own_tag hown5 hg
          rw [hb5] at h6
          injection h6 with h6
          injection h6 with _ h6
          exact absurd h6 (by decide)
    · obtain rfl : k = N := by omega
      have t1 : decide ((k : Int) < k) = false := by simp
      obtain ⟨g5, cp5, rfl⟩ := own_shape hown (by omega)
      have k0 := cells_at h5 0
      have k1 := cells_at h5 1
      have k2 := cells_at h5 2
      have k3 := cells_at h5 3
      have z0 := cells_at h4 0
      have z1 := cells_at h4 1
      have z2 := cells_at h4 2
      have z3 := cells_at h4 3
      have zf := row_free h4
      have zl := heap_lt h4
      simp at k0 k1 k2 k3 z0 z1 z2 z3
      have HX9 := hid2 (And.intro HB (And.intro h4 (And.intro h5 hown)))
      clear HB h4 h5 hown
      go_wp2
      refine bodyPost_ret (v := .agg #[.int .i64 x, .int .i64 y, .bool false, .slice (some ⟨g5, 0, none⟩) k cp5]) (by simp [results, Try.results16, go_sem, z0, z1, z2, z3] <;> rfl) rfl ⟨_, _, rfl, ?_, ?_⟩
      · exact gr4 (gr4 (gr4 (gr4 HX9.out.1 (by simp) _) (by simp) _) (by simp) _) (by simp) _
      · obtain ⟨_, h4, _, hown⟩ := HX9.out
        refine own_of_block hown fun g hg => ?_
        have hne : g ≠ w.heap.size + 1 := by
          rintro rfl
          obtain ⟨_, c6, f6, h6⟩ := own_tag hown hg
          rw [h4] at h6
          injection h6 with h6
          injection h6 with _ h6
          exact absurd h6 (by decide)
        rw [set_other7 hne, set_other7 hne, set_other7 hne, set_other7 hne]
set_option maxRecDepth 100000 in
set_option maxHeartbeats 4000000 in
theorem Image_pc {x y m : Int} (q i c : Int) (hx : 1 ≤ x ∧ x ≤ 40) (hy : 1 ≤ y ∧ y ≤ 24) {N : Nat} (hm : m ≠ 1) (hN : (N : Int) = 3 * (x * y)) {nc cb co cc : Nat} {C : Nat → Int} (hnc : 0 < nc) (hnm : nc ≤ 9223372036854775807) (w : World) (hcb : cb < w.heap.size) (hC : ∀ i, i < nc → w.cell? ⟨cb, co + i, none⟩ = some (.int .u8 (C i)) ∧ 0 ≤ C i ∧ C i ≤ 255) :
    Calls Try.prog 16 #[.agg #[.int .i64 x, .int .i64 y, .int .i64 m, .int .i64 q, .int .i64 i, .int .i64 c], .slice (some ⟨cb, co, none⟩) nc cc] w fun e w' => ∃ g cap, e = .returned (.agg #[.int .i64 x, .int .i64 y, .bool true, .slice (some ⟨g, 0, none⟩) N cap]) ∧ Below w.heap.size w w' ∧ w'.ownsRow w.heap.size 5 1 (.slice (some ⟨g, 0, none⟩) N cap) N (rowU (imgI nc C) N) := by
  have hxy : 1 ≤ x * y ∧ x * y ≤ 960 := ⟨by have := Int.mul_le_mul hx.1 hy.1 (by omega) (by omega); omega, by have := Int.mul_le_mul hx.2 hy.2 (by omega) (by omega); omega⟩
  have hN2 : 1 ≤ N ∧ N ≤ 2880 := by omega
  have e4 : (m != 1) = true := by simp [hm]
  obtain ⟨xy, hxe⟩ : ∃ xy : Nat, x * y = xy := ⟨(x * y).toNat, by omega⟩
  rw [hxe] at hN hxy
  have hxa : ∀ b : Int, b = y → x * b = xy := by rintro b rfl; exact hxe
  have HCC := hid2 hC
  clear hC
  clear hx hy hxe hm
  go_enter Try.func16, Try.ntmps16
  go_wp2
  refine wp_abs7 (fun W => Below w.heap.size w W ∧ W.heap[w.heap.size + 1]? = some (.cells #[.int .i64 0, .int .i64 0, .bool false, .slice none 0 0] 32 (0, 0)) ∧ W.heap[w.heap.size + 1 + 1]? = some (.cells #[.int .i64 x, .int .i64 y, .bool true, .slice none 0 0] 32 (0, 0))) ?_ ?_
  · refine ⟨?_, ?_, ?_⟩
    · repeat (first | exact gr0 _ | refine gr1 ?_ _ | refine gr2 ?_ (Later.below _) | refine gr2 ?_ (by assumption) | refine gr3 ?_ | refine gr4 ?_ (by first | (simp; done) | (simp; omega) | omega) _)
    · exact bh7 (gr1 (gr0 _) _) (heap_alloc_at (by simp))
    · exact heap_alloc_at (by simp)
  rintro W ⟨HB0, h40, h50⟩
  go_loopg [7] N (fun gj ix wr => ∃ (k : Nat) (V : Value), k + gj = N ∧ ix = .int .i64 k ∧ Below w.heap.size w wr ∧ wr.heap[w.heap.size + 1]? = some (.cells #[.int .i64 0, .int .i64 0, .bool false, .slice none 0 0] 32 (0, 0)) ∧ wr.heap[w.heap.size + 1 + 1]? = some (.cells #[.int .i64 x, .int .i64 y, .bool true, V] 32 (0, 0)) ∧ wr.ownsRow w.heap.size 5 1 V k (rowU (imgI nc C) k))
  case atStart => exact ⟨0, _, by omega, rfl, HB0, h40, h50, World.ownsRow_nil _ _ _ _⟩
  case round =>
    clear HB0 h40 h50
    obtain ⟨k, V, hk, rfl, HB, h4, h5, hown⟩ := hrel
    by_cases hlt : k < N
    · have t1 : decide ((k : Int) < N) = true := by simp; omega
      have k9 : (0 : Int) ≤ k ∧ (k : Int) < N ∧ (k : Int) * 7 ≤ 20160 := by omega
      have k5 := cells_at h5 3
      have y5 := heap_lt h5
      simp at k5
      have n1 : decide ((0 : Int) < nc) = true := by simp; omega
      obtain ⟨rm, hrm⟩ : ∃ rm, k % nc = rm := ⟨_, rfl⟩
      obtain ⟨dv, hdv⟩ : ∃ dv, k / nc = dv := ⟨_, rfl⟩
      have r1 : ∀ b : Int, b = nc → Int.tmod (k : Int) b = rm := by rintro b rfl; rw [Int.tmod_eq_emod_of_nonneg (by omega), ← hrm]; omega
      have d1 : ∀ b : Int, b = nc → Int.tdiv (k : Int) b = dv := by rintro b rfl; rw [Int.tdiv_eq_ediv_of_nonneg (by omega), ← hdv]; omega
      have rl : rm < nc := by rw [← hrm]; exact Nat.mod_lt _ hnc
      have dl : dv ≤ k := by rw [← hdv]; exact Nat.div_le_self _ _
      have i9 : (0 : Int) ≤ rm ∧ (rm : Int) < nc ∧ (0 : Int) ≤ dv ∧ (dv : Int) ≤ 2880 ∧ (nc : Int) ≤ 9223372036854775807 ∧ (0 : Int) < nc := by omega
      have c1 : wr.cell? ⟨cb, co + rm, none⟩ = some (.int .u8 (C rm)) := (HB.cell (p := ⟨cb, co + rm, none⟩) hcb).trans (HCC.out rm rl).1
      have c2 := (HCC.out rm rl).2
      have c3 : cb < wr.heap.size := Nat.lt_of_lt_of_le hcb HB.size
      have HI := hid2 (show imgI nc C k = (C rm + (dv : Int)) % 256 by unfold imgI; rw [if_neg (by omega), hrm, hdv])
      clear hrm hdv
      have HX := hid2 (And.intro HB (And.intro h4 (And.intro h5 hown)))
      clear HB h4 h5 hown
      go_wp2
      refine wp_region_calm (by kernel_rfl) (by kernel_rfl) ?_
      repeat (first | go_big_quiet_step (fail) | quiet_step (fail))
      refine wpQuiet_nil ?_
      intro u
      obtain ⟨W9, hb9⟩ := u
      simp only
      obtain ⟨HB, h4, h5, hown⟩ := HX.out
      have HB9 := HB.trans (hb9.mono HB.size)
      have h49 := bh7 hb9 h4
      have h59 := bh7 hb9 h5
      have hown9 := own_below hown hb9
      have k59 := cells_at h59 3
      have y59 := heap_lt h59
      simp at k59
      clear hb9 HB h4 h5 hown HX k5 y5 c1 c3
      have HX9 := hid2 (And.intro HB9 (And.intro h49 (And.intro h59 hown9)))
      clear HB9 h49 h59
      go_wp2_with (first
        | (at_builtin; refine wpList_pushV w.heap.size (.tmp 51) (.tmp 53) 29 5 rfl rfl Try.underlying29 infos_u8 (by decide) rfl (own_alloc hown9) rfl (new_cell (by simp)) rfl (by omega) (by have := HX9.out.1.size; simp; omega) ?_; intro v5 w5 hown5 hs5 ho5; obtain ⟨g5, cp5, rfl⟩ := own_shape hown5 (by omega); have hb5 := hs5.other (bh7 (gr1 (gr0 _) _) HX9.out.2.2.1) (by decide); have b5c := cells_at hb5 3; have b5f := row_free hb5; have b5l := heap_lt hb5; simp at b5c))
      go_roundg (N - (k + 1))
      case measure => omega
      case rel =>
        obtain ⟨HB9, h49, h59, _⟩ := HX9.out
        have HB10 := (gr1 HB9 _).trans (hs5.below (by have := HB9.size; simp; omega))
        have h410 := hs5.other (bh7 (gr1 (gr0 _) _) h49) (by decide)
        refine ⟨k + 1, .slice (some ⟨g5, 0, none⟩) (k + 1) cp5, by omega, by go_num, gr4 HB10 (by simp; omega) _, (set_other7 (by simp)).trans h410, ?_, ?_⟩
        · exact set_cell3 hb5
        · rw [rowU_succ, HI.out]
          refine own_of_block hown5 fun g hg => set_other7 ?_
          rintro rfl
          obtain ⟨_, c6, f6, h6⟩ := own_tag hown5 hg
          rw [hb5] at h6
          injection h6 with h6
          injection h6 with _ h6
          exact absurd h6 (by decide)
    · obtain rfl : k = N := by omega
      have t1 : decide ((k : Int) < k) = false := by simp
      obtain ⟨g5, cp5, rfl⟩ := own_shape hown (by omega)
      have k0 := cells_at h5 0
      have k1 := cells_at h5 1
      have k2 := cells_at h5 2
      have k3 := cells_at h5 3
      have z0 := cells_at h4 0
      have z1 := cells_at h4 1
      have z2 := cells_at h4 2
      have z3 := cells_at h4 3
      have zf := row_free h4
      have zl := heap_lt h4
      simp at k0 k1 k2 k3 z0 z1 z2 z3
      have HX9 := hid2 (And.intro HB (And.intro h4 (And.intro h5 hown)))
      clear HB h4 h5 hown
      go_wp2
      refine bodyPost_ret (v := .agg #[.int .i64 x, .int .i64 y, .bool true, .slice (some ⟨g5, 0, none⟩) k cp5]) (by simp [results, Try.results16, go_sem, z0, z1, z2, z3] <;> rfl) rfl ⟨_, _, rfl, ?_, ?_⟩
      · exact gr4 (gr4 (gr4 (gr4 HX9.out.1 (by simp) _) (by simp) _) (by simp) _) (by simp) _
      · obtain ⟨_, h4, _, hown⟩ := HX9.out
        refine own_of_block hown fun g hg => ?_
        have hne : g ≠ w.heap.size + 1 := by
          rintro rfl
          obtain ⟨_, c6, f6, h6⟩ := own_tag hown hg
          rw [h4] at h6
          injection h6 with h6
          injection h6 with _ h6
          exact absurd h6 (by decide)
        rw [set_other7 hne, set_other7 hne, set_other7 hne, set_other7 hne]
set_option maxRecDepth 100000 in
set_option maxHeartbeats 4000000 in
theorem Image_0g {x y m : Int} (q i c : Int) (hx : 1 ≤ x ∧ x ≤ 40) (hy : 1 ≤ y ∧ y ≤ 24) {N : Nat} (hm : m = 1) (hN : (N : Int) = x * y) (qv : Option Addr) (cc : Nat) (C : Nat → Int) (w : World) :
    Calls Try.prog 16 #[.agg #[.int .i64 x, .int .i64 y, .int .i64 m, .int .i64 q, .int .i64 i, .int .i64 c], .slice qv 0 cc] w fun e w' => ∃ g cap, e = .returned (.agg #[.int .i64 x, .int .i64 y, .bool false, .slice (some ⟨g, 0, none⟩) N cap]) ∧ Below w.heap.size w w' ∧ w'.ownsRow w.heap.size 5 1 (.slice (some ⟨g, 0, none⟩) N cap) N (rowU (imgI 0 C) N) := by
  have hxy : 1 ≤ x * y ∧ x * y ≤ 960 := ⟨by have := Int.mul_le_mul hx.1 hy.1 (by omega) (by omega); omega, by have := Int.mul_le_mul hx.2 hy.2 (by omega) (by omega); omega⟩
  have hN2 : 1 ≤ N ∧ N ≤ 2880 := by omega
  have e4 : (m != 1) = false := by simp [hm]
  obtain ⟨xy, hxe⟩ : ∃ xy : Nat, x * y = xy := ⟨(x * y).toNat, by omega⟩
  rw [hxe] at hN hxy
  have hxa : ∀ b : Int, b = y → x * b = xy := by rintro b rfl; exact hxe
  clear hx hy hxe hm
  go_enter Try.func16, Try.ntmps16
  go_wp2
  refine wp_abs7 (fun W => Below w.heap.size w W ∧ W.heap[w.heap.size + 1]? = some (.cells #[.int .i64 0, .int .i64 0, .bool false, .slice none 0 0] 32 (0, 0)) ∧ W.heap[w.heap.size + 1 + 1]? = some (.cells #[.int .i64 x, .int .i64 y, .bool false, .slice none 0 0] 32 (0, 0))) ?_ ?_
  · refine ⟨?_, ?_, ?_⟩
    · repeat (first | exact gr0 _ | refine gr1 ?_ _ | refine gr2 ?_ (Later.below _) | refine gr2 ?_ (by assumption) | refine gr3 ?_ | refine gr4 ?_ (by first | (simp; done) | (simp; omega) | omega) _)
    · exact bh7 (gr1 (gr0 _) _) (heap_alloc_at (by simp))
    · exact heap_alloc_at (by simp)
  rintro W ⟨HB0, h40, h50⟩
  go_loopg [7] N (fun gj ix wr => ∃ (k : Nat) (V : Value), k + gj = N ∧ ix = .int .i64 k ∧ Below w.heap.size w wr ∧ wr.heap[w.heap.size + 1]? = some (.cells #[.int .i64 0, .int .i64 0, .bool false, .slice none 0 0] 32 (0, 0)) ∧ wr.heap[w.heap.size + 1 + 1]? = some (.cells #[.int .i64 x, .int .i64 y, .bool false, V] 32 (0, 0)) ∧ wr.ownsRow w.heap.size 5 1 V k (rowU (imgI 0 C) k))
  case atStart => exact ⟨0, _, by omega, rfl, HB0, h40, h50, World.ownsRow_nil _ _ _ _⟩
  case round =>
    clear HB0 h40 h50
    obtain ⟨k, V, hk, rfl, HB, h4, h5, hown⟩ := hrel
    by_cases hlt : k < N
    · have t1 : decide ((k : Int) < N) = true := by simp; omega
      have k9 : (0 : Int) ≤ k ∧ (k : Int) < N ∧ (k : Int) * 7 ≤ 20160 := by omega
      have k5 := cells_at h5 3
      have y5 := heap_lt h5
      simp at k5
      have HI := hid2 (show imgI 0 C k = ((k : Int) * 7) % 256 by unfold imgI; rw [if_pos rfl])
      have HX := hid2 (And.intro HB (And.intro h4 (And.intro h5 hown)))
      clear HB h4 h5 hown
      obtain ⟨HB9, h49, h59, hown9⟩ := HX.out
      clear HX
      have HX9 := hid2 (And.intro HB9 (And.intro h49 (And.intro h59 hown9)))
      clear HB9 h49 h59
      go_wp2_with (first
        | (at_builtin; refine wpList_pushV w.heap.size (.tmp 51) (.tmp 53) 29 5 rfl rfl Try.underlying29 infos_u8 (by decide) rfl (own_alloc hown9) rfl (new_cell (by simp)) rfl (by omega) (by have := HX9.out.1.size; simp; omega) ?_; intro v5 w5 hown5 hs5 ho5; obtain ⟨g5, cp5, rfl⟩ := own_shape hown5 (by omega); have hb5 := hs5.other (bh7 (gr1 (gr0 _) _) HX9.out.2.2.1) (by decide); have b5c := cells_at hb5 3; have b5f := row_free hb5; have b5l := heap_lt hb5; simp at b5c))
      go_roundg (N - (k + 1))
      case measure => omega
      case rel =>
        obtain ⟨HB9, h49, h59, _⟩ := HX9.out
        have HB10 := (gr1 HB9 _).trans (hs5.below (by have := HB9.size; simp; omega))
        have h410 := hs5.other (bh7 (gr1 (gr0 _) _) h49) (by decide)
        refine ⟨k + 1, .slice (some ⟨g5, 0, none⟩) (k + 1) cp5, by omega, by go_num, gr4 HB10 (by simp; omega) _, (set_other7 (by simp)).trans h410, ?_, ?_⟩
        · exact set_cell3 hb5
        · rw [rowU_succ, HI.out]
          refine own_of_block hown5 fun g hg => set_other7 ?_
          rintro rfl
          obtain ⟨_, c6, f6, h6⟩ := own_tag hown5 hg
          rw [hb5] at h6
          injection h6 with h6
          injection h6 with _ h6
          exact absurd h6 (by decide)
    · obtain rfl : k = N := by omega
      have t1 : decide ((k : Int) < k) = false := by simp
      obtain ⟨g5, cp5, rfl⟩ := own_shape hown (by omega)
      have k0 := cells_at h5 0
      have k1 := cells_at h5 1
      have k2 := cells_at h5 2
      have k3 := cells_at h5 3
      have z0 := cells_at h4 0
      have z1 := cells_at h4 1
      have z2 := cells_at h4 2
      have z3 := cells_at h4 3
      have zf := row_free h4
      have zl := heap_lt h4
      simp at k0 k1 k2 k3 z0 z1 z2 z3
      have HX9 := hid2 (And.intro HB (And.intro h4 (And.intro h5 hown)))
      clear HB h4 h5 hown
      go_wp2
      refine bodyPost_ret (v := .agg #[.int .i64 x, .int .i64 y, .bool false, .slice (some ⟨g5, 0, none⟩) k cp5]) (by simp [results, Try.results16, go_sem, z0, z1, z2, z3] <;> rfl) rfl ⟨_, _, rfl, ?_, ?_⟩
      · exact gr4 (gr4 (gr4 (gr4 HX9.out.1 (by simp) _) (by simp) _) (by simp) _) (by simp) _
      · obtain ⟨_, h4, _, hown⟩ := HX9.out
        refine own_of_block hown fun g hg => ?_
        have hne : g ≠ w.heap.size + 1 := by
          rintro rfl
          obtain ⟨_, c6, f6, h6⟩ := own_tag hown hg
          rw [h4] at h6
          injection h6 with h6
          injection h6 with _ h6
          exact absurd h6 (by decide)
        rw [set_other7 hne, set_other7 hne, set_other7 hne, set_other7 hne]
set_option maxRecDepth 100000 in
set_option maxHeartbeats 4000000 in
theorem Image_0c {x y m : Int} (q i c : Int) (hx : 1 ≤ x ∧ x ≤ 40) (hy : 1 ≤ y ∧ y ≤ 24) {N : Nat} (hm : m ≠ 1) (hN : (N : Int) = 3 * (x * y)) (qv : Option Addr) (cc : Nat) (C : Nat → Int) (w : World) :
    Calls Try.prog 16 #[.agg #[.int .i64 x, .int .i64 y, .int .i64 m, .int .i64 q, .int .i64 i, .int .i64 c], .slice qv 0 cc] w fun e w' => ∃ g cap, e = .returned (.agg #[.int .i64 x, .int .i64 y, .bool true, .slice (some ⟨g, 0, none⟩) N cap]) ∧ Below w.heap.size w w' ∧ w'.ownsRow w.heap.size 5 1 (.slice (some ⟨g, 0, none⟩) N cap) N (rowU (imgI 0 C) N) := by
  have hxy : 1 ≤ x * y ∧ x * y ≤ 960 := ⟨by have := Int.mul_le_mul hx.1 hy.1 (by omega) (by omega); omega, by have := Int.mul_le_mul hx.2 hy.2 (by omega) (by omega); omega⟩
  have hN2 : 1 ≤ N ∧ N ≤ 2880 := by omega
  have e4 : (m != 1) = true := by simp [hm]
  obtain ⟨xy, hxe⟩ : ∃ xy : Nat, x * y = xy := ⟨(x * y).toNat, by omega⟩
  rw [hxe] at hN hxy
  have hxa : ∀ b : Int, b = y → x * b = xy := by rintro b rfl; exact hxe
  clear hx hy hxe hm
  go_enter Try.func16, Try.ntmps16
  go_wp2
  refine wp_abs7 (fun W => Below w.heap.size w W ∧ W.heap[w.heap.size + 1]? = some (.cells #[.int .i64 0, .int .i64 0, .bool false, .slice none 0 0] 32 (0, 0)) ∧ W.heap[w.heap.size + 1 + 1]? = some (.cells #[.int .i64 x, .int .i64 y, .bool true, .slice none 0 0] 32 (0, 0))) ?_ ?_
  · refine ⟨?_, ?_, ?_⟩
    · repeat (first | exact gr0 _ | refine gr1 ?_ _ | refine gr2 ?_ (Later.below _) | refine gr2 ?_ (by assumption) | refine gr3 ?_ | refine gr4 ?_ (by first | (simp; done) | (simp; omega) | omega) _)
    · exact bh7 (gr1 (gr0 _) _) (heap_alloc_at (by simp))
    · exact heap_alloc_at (by simp)
  rintro W ⟨HB0, h40, h50⟩
  go_loopg [7] N (fun gj ix wr => ∃ (k : Nat) (V : Value), k + gj = N ∧ ix = .int .i64 k ∧ Below w.heap.size w wr ∧ wr.heap[w.heap.size + 1]? = some (.cells #[.int .i64 0, .int .i64 0, .bool false, .slice none 0 0] 32 (0, 0)) ∧ wr.heap[w.heap.size + 1 + 1]? = some (.cells #[.int .i64 x, .int .i64 y, .bool true, V] 32 (0, 0)) ∧ wr.ownsRow w.heap.size 5 1 V k (rowU (imgI 0 C) k))
  case atStart => exact ⟨0, _, by omega, rfl, HB0, h40, h50, World.ownsRow_nil _ _ _ _⟩
  case round =>
    clear HB0 h40 h50
    obtain ⟨k, V, hk, rfl, HB, h4, h5, hown⟩ := hrel
    by_cases hlt : k < N
    · have t1 : decide ((k : Int) < N) = true := by simp; omega
      have k9 : (0 : Int) ≤ k ∧ (k : Int) < N ∧ (k : Int) * 7 ≤ 20160 := by omega
      have k5 := cells_at h5 3
      have y5 := heap_lt h5
      simp at k5
      have HI := hid2 (show imgI 0 C k = ((k : Int) * 7) % 256 by unfold imgI; rw [if_pos rfl])
      have HX := hid2 (And.intro HB (And.intro h4 (And.intro h5 hown)))
      clear HB h4 h5 hown
      obtain ⟨HB9, h49, h59, hown9⟩ := HX.out
      clear HX
      have HX9 := hid2 (And.intro HB9 (And.intro h49 (And.intro h59 hown9)))
      clear HB9 h49 h59
      go_wp2_with (first
        | (at_builtin; refine wpList_pushV w.heap.size (.tmp 51) (.tmp 53) 29 5 rfl rfl Try.underlying29 infos_u8 (by decide) rfl (own_alloc hown9) rfl (new_cell (by simp)) rfl (by omega) (by have := HX9.out.1.size; simp; omega) ?_; intro v5 w5 hown5 hs5 ho5; obtain ⟨g5, cp5, rfl⟩ := own_shape hown5 (by omega); have hb5 := hs5.other (bh7 (gr1 (gr0 _) _) HX9.out.2.2.1) (by decide); have b5c := cells_at hb5 3; have b5f := row_free hb5; have b5l := heap_lt hb5; simp at b5c))
      go_roundg (N - (k + 1))
      case measure => omega
      case rel =>
        obtain ⟨HB9, h49, h59, _⟩ := HX9.out
        have HB10 := (gr1 HB9 _).trans (hs5.below (by have := HB9.size; simp; omega))
        have h410 := hs5.other (bh7 (gr1 (gr0 _) _) h49) (by decide)
        refine ⟨k + 1, .slice (some ⟨g5, 0, none⟩) (k + 1) cp5, by omega, by go_num, gr4 HB10 (by simp; omega) _, (set_other7 (by simp)).trans h410, ?_, ?_⟩
        · exact set_cell3 hb5
        · rw [rowU_succ, HI.out]
          refine own_of_block hown5 fun g hg => set_other7 ?_
          rintro rfl
          obtain ⟨_, c6, f6, h6⟩ := own_tag hown5 hg
          rw [hb5] at h6
          injection h6 with h6
          injection h6 with _ h6
          exact absurd h6 (by decide)
    · obtain rfl : k = N := by omega
      have t1 : decide ((k : Int) < k) = false := by simp
      obtain ⟨g5, cp5, rfl⟩ := own_shape hown (by omega)
      have k0 := cells_at h5 0
      have k1 := cells_at h5 1
      have k2 := cells_at h5 2
      have k3 := cells_at h5 3
      have z0 := cells_at h4 0
      have z1 := cells_at h4 1
      have z2 := cells_at h4 2
      have z3 := cells_at h4 3
      have zf := row_free h4
      have zl := heap_lt h4
      simp at k0 k1 k2 k3 z0 z1 z2 z3
      have HX9 := hid2 (And.intro HB (And.intro h4 (And.intro h5 hown)))
      clear HB h4 h5 hown
      go_wp2
      refine bodyPost_ret (v := .agg #[.int .i64 x, .int .i64 y, .bool true, .slice (some ⟨g5, 0, none⟩) k cp5]) (by simp [results, Try.results16, go_sem, z0, z1, z2, z3] <;> rfl) rfl ⟨_, _, rfl, ?_, ?_⟩
      · exact gr4 (gr4 (gr4 (gr4 HX9.out.1 (by simp) _) (by simp) _) (by simp) _) (by simp) _
      · obtain ⟨_, h4, _, hown⟩ := HX9.out
        refine own_of_block hown fun g hg => ?_
        have hne : g ≠ w.heap.size + 1 := by
          rintro rfl
          obtain ⟨_, c6, f6, h6⟩ := own_tag hown hg
          rw [h4] at h6
          injection h6 with h6
          injection h6 with _ h6
          exact absurd h6 (by decide)
        rw [set_other7 hne, set_other7 hne, set_other7 hne, set_other7 hne]
theorem Image_ {x y m : Int} (q i c : Int) (hx : 1 ≤ x ∧ x ≤ 40) (hy : 1 ≤ y ∧ y ≤ 24) {N : Nat} (hN : (N : Int) = if m = 1 then x * y else 3 * (x * y)) {v : Value} {nc : Nat} {C : Nat → Int} (hnm : nc ≤ 9223372036854775807) (w : World) (H : Nums .u8 v nc C w) :
    Calls Try.prog 16 #[.agg #[.int .i64 x, .int .i64 y, .int .i64 m, .int .i64 q, .int .i64 i, .int .i64 c], v] w fun e w' => ∃ g cap, e = .returned (.agg #[.int .i64 x, .int .i64 y, .bool (!decide (m = 1)), .slice (some ⟨g, 0, none⟩) N cap]) ∧ Below w.heap.size w w' ∧ w'.ownsRow w.heap.size 5 1 (.slice (some ⟨g, 0, none⟩) N cap) N (rowU (imgI nc C) N) := by
  rcases H.open8 with ⟨rfl, qv, cc, rfl⟩ | ⟨hn, cb, co, cc, rfl, hcb, hC⟩
  · by_cases hm : m = 1
    · rw [if_pos hm] at hN
      rw [show (!decide (m = 1)) = false by simp [hm]]
      exact Image_0g q i c hx hy hm hN qv cc C w
    · rw [if_neg hm] at hN
      rw [show (!decide (m = 1)) = true by simp [hm]]
      exact Image_0c q i c hx hy hm hN qv cc C w
  · by_cases hm : m = 1
    · rw [if_pos hm] at hN
      rw [show (!decide (m = 1)) = false by simp [hm]]
      exact Image_pg q i c hx hy hm hN hn hnm w hcb hC
    · rw [if_neg hm] at hN
      rw [show (!decide (m = 1)) = true by simp [hm]]
      exact Image_pc q i c hx hy hm hN hn hnm w hcb hC
end Go.Proofs.Ytgegmlhpdpdnfaa
