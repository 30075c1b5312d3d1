/- QuantOrder: the walk: it returns true. -/
import Derived.Test.YtgegmlhpdpdnfaaDoorKnown09
namespace Go.Proofs.YtgegmlhpdpdnfaaDoor
open Go.RowKit

def seenI (x : Int) : Nat → Int
  | 0 => 0
  | k + 1 => seenI x k + if zigN k = x then 1 else 0
theorem seen_in (x : Int) : ∀ k : Nat, 0 ≤ seenI x k ∧ seenI x k ≤ k
  | 0 => ⟨Int.le_refl _, Int.le_refl _⟩
  | k + 1 => by
    have := seen_in x k
    unfold seenI
    split <;> omega
theorem seen_all : ∀ k, k < 63 → seenI (zigN k) 64 = 1 := by decide +kernel
theorem next_all : ∀ k, k < 63 → (-1 ≤ zigN (k + 1) % 8 - zigN k % 8 ∧ zigN (k + 1) % 8 - zigN k % 8 ≤ 1) ∧ (-1 ≤ zigN (k + 1) / 8 - zigN k / 8 ∧ zigN (k + 1) / 8 - zigN k / 8 ≤ 1) ∧ zigN k ≠ zigN (k + 1) := by decide +kernel
theorem zig_nat {k : Nat} (h : k < 64) : zigI k = zigN k := by unfold zigI; rw [if_neg (by omega), Int.toNat_natCast]
theorem sc_all : ∀ a : Nat, a < 101 → ∀ b : Nat, b < 101 → 1 ≤ a → a ≤ b → scI b ≤ scI a := by decide +kernel
theorem sc_mono {a b : Int} (h1 : 1 ≤ a) (h2 : b ≤ 100) (h : a ≤ b) : scI b ≤ scI a := by
  have := sc_all a.toNat (by omega) b.toNat (by omega) (by omega) (by omega)
  rwa [Int.toNat_of_nonneg (by omega), Int.toNat_of_nonneg (by omega)] at this
theorem clip_mono {lo hi a b : Int} (h : a ≤ b) (hl : lo ≤ hi) : clipI lo hi a ≤ clipI lo hi b := by
  unfold clipI
  repeat' split
  all_goals omega
theorem tab_mono (part : Int) {a b : Int} (h : a ≤ b) {j : Nat} (hj : j < 64) : tabI part b j ≤ tabI part a j := by
  have h1 := clip_mono (lo := 1) (hi := 100) h (by omega)
  have h2 := clip_in (lo := 1) (hi := 100) a (by omega)
  have h3 := clip_in (lo := 1) (hi := 100) b (by omega)
  have h4 := sc_mono h2.1 h3.2 h1
  have h5 := bas_in part hj
  have h6 : basN part j * scI (clipI 1 100 b) ≤ basN part j * scI (clipI 1 100 a) := Int.mul_le_mul_of_nonneg_left h4 (by omega)
  exact clip_mono (by omega) (by omega)
theorem tab_in (part q : Int) (j : Nat) : 1 ≤ tabI part q j ∧ tabI part q j ≤ 255 := clip_in _ (by omega)
theorem modO {n d : Int} (h0 : 0 ≤ n) (hd : 0 < d) : ∃ a : Int, (0 ≤ a ∧ a ≤ d - 1) ∧ (∀ c : Int, c = d → n % c = a) ∧ (∀ c : Int, c = d → Int.tmod n c = a) := by
  have h1 := Int.emod_nonneg n (by omega : d ≠ 0)
  have h2 := Int.emod_lt_of_pos n hd
  refine ⟨n % d, by omega, ?_, ?_⟩
  · rintro c rfl; rfl
  · rintro c rfl; exact Int.tmod_eq_emod_of_nonneg h0
theorem ord_facts {a : Int} (ha : 0 ≤ a ∧ a ≤ 62) : (0 ≤ zigI a ∧ zigI a ≤ 63) ∧ (0 ≤ zigI (a + 1) ∧ zigI (a + 1) ≤ 63) ∧ decide (-1 ≤ zigI (a + 1) % 8 - zigI a % 8) = true ∧ decide (zigI (a + 1) % 8 - zigI a % 8 ≤ 1) = true ∧ decide (-1 ≤ zigI (a + 1) / 8 - zigI a / 8) = true ∧ decide (zigI (a + 1) / 8 - zigI a / 8 ≤ 1) = true ∧ (zigI a != zigI (a + 1)) = true ∧ seenI (zigI a) 64 = 1 := by
  obtain ⟨k, rfl⟩ := Int.eq_ofNat_of_zero_le ha.1
  have hk : k < 63 := by omega
  have e1 : zigI (k : Int) = zigN k := zig_nat (by omega)
  have e2 : zigI ((k : Int) + 1) = zigN (k + 1) := by have := zig_nat (k := k + 1) (by omega); rwa [Int.natCast_add] at this
  rw [e1, e2]
  obtain ⟨⟨h1, h2⟩, ⟨h3, h4⟩, h5⟩ := next_all k hk
  exact ⟨zig_all k (by omega), zig_all (k + 1) (by omega), by simpa using h1, by simpa using h2, by simpa using h3, by simpa using h4, by simpa using h5, seen_all k hk⟩

set_option maxRecDepth 100000 in
set_option maxHeartbeats 2000000 in
theorem walk_QuantOrder (i part qa qb : Int) (w : World) (hT : Tabs w) (_bi : 0 ≤ i ∧ i ≤ 255) (_bp : 0 ≤ part ∧ part ≤ 255) (_ba : 0 ≤ qa ∧ qa ≤ 255) (_bb : 0 ≤ qb ∧ qb ≤ 255) :
    Calls Tryd.prog 4 #[.int .u8 i, .int .u8 part, .int .u8 qa, .int .u8 qb] w fun e w' => e = .returned (.bool true) ∧ Below w.heap.size w w' := by
  obtain ⟨a, ha, r1, r2⟩ := modO (n := i) (d := 63) _bi.1 (by omega)
  obtain ⟨p, hp, r3, r4⟩ := modO (n := part) (d := 2) _bp.1 (by omega)
  obtain ⟨x9, y9, d1, d2, d3, d4, d5, hs⟩ := ord_facts ha
  clear _bi _bp
  have HS : Hid (seenI (zigI a) 64 = 1) := hs
  clear hs
  go_enter Tryd.func4, Tryd.ntmps4
  go_wp2_with (go_at_call 6; refine (zig_ _ _ (by assumption)).mono ?_; rintro e Wn ⟨rfl, hbn⟩; have hTn := Tabs.below (by assumption) hbn; obtain ⟨hcn, hfn, hzn⟩ := bcell hbn)
  refine wp_abs (fun W' => Below w.heap.size w W') (by repeat (first | exact gr0 _ | refine gr2 ?_ (by assumption))) ?_
  intro W0 H9
  clear hTn hcn hfn hzn hbn
  go_loopg [14, 15] 64 (fun gj s i wr => ∃ jj : Nat, jj + gj = 64 ∧ i = .int .i64 jj ∧ s = .int .i64 (seenI (zigI a) jj) ∧ Below w.heap.size w wr)
  case atStart => exact ⟨0, rfl, rfl, rfl, H9⟩
  case round =>
    clear H9
    obtain ⟨i, hi, rfl, rfl, HB⟩ := hrel
    obtain ⟨gm, rfl⟩ : ∃ gm : Nat, gm = gk := ⟨_, rfl⟩
    have hi9 : (0 : Int) ≤ i := by omega
    have hTr := hT.below HB
    by_cases hlt : i < 64
    · have t1 : decide ((i : Int) < 64) = true := by simp; omega
      have hsn := seen_in (zigI a) i
      by_cases hz : zigI (i : Int) = zigI a
      · have t2 : (zigI (i : Int) == zigI a) = true := by simp; exact hz
        have HX : Hid (Below w.heap.size w wr ∧ seenI (zigI a) (i + 1) = seenI (zigI a) i + 1) := ⟨HB, by rw [seenI, if_pos (by rw [← zig_nat hlt]; exact hz)]⟩
        clear HB hz
        generalize seenI (zigI a) i = S at hsn HX ⊢
        go_wp2_with (go_at_call 6; refine (zig_ _ _ hTr).mono ?_; rintro e Wn ⟨rfl, hbn⟩; obtain ⟨hcn, hfn, hzn⟩ := bcell hbn)
        go_roundg (64 - (i + 1))
        case measure => omega
        case rel => exact ⟨i + 1, by omega, by go_num, by rw [HX.out.2], gr2 HX.out.1 hbn⟩
      · have t2 : (zigI (i : Int) == zigI a) = false := by simp; exact hz
        have HX : Hid (Below w.heap.size w wr ∧ seenI (zigI a) (i + 1) = seenI (zigI a) i) := ⟨HB, by rw [seenI, if_neg (by rw [← zig_nat hlt]; exact hz)]; omega⟩
        clear HB hz
        generalize seenI (zigI a) i = S at hsn HX ⊢
        go_wp2_with (go_at_call 6; refine (zig_ _ _ hTr).mono ?_; rintro e Wn ⟨rfl, hbn⟩; obtain ⟨hcn, hfn, hzn⟩ := bcell hbn)
        go_roundg (64 - (i + 1))
        case measure => omega
        case rel => exact ⟨i + 1, by omega, by go_num, by rw [HX.out.2], gr2 HX.out.1 hbn⟩
    · have hk64 : i = 64 := by omega
      subst hk64
      have t1 : decide (((64 : Nat) : Int) < 64) = false := rfl
      rw [HS.out]
      have hA : Tabs wr := hTr
      by_cases hab : qb < qa
      · skip
        go_wp2_with (first | (go_at_call 9; refine (table_ _ _ _ hA).mono ?_; clear hA; rintro e W1 ⟨g1, rfl, hb1, hg1, hh1⟩; have hA3 := hTr.below hb1) | (go_at_call 9; refine (table_ _ _ _ hA3).mono ?_; clear hA3; rintro e W2 ⟨g2, rfl, hb2, hg2, hh2⟩))
        have HB0 := gr2 (gr2 HB hb1) hb2
        have hh3 := at_be hh1 hb2
        have hz0 := Nat.le_trans hb1.size hb2.size
        clear hb1 hb2 hh1 HB hg1 hg2
        go_loopg [18] 64 (fun gj i wr => ∃ jj : Nat, jj + gj = 64 ∧ i = .int .i64 jj ∧ Below W2.heap.size W2 wr)
        case atStart => exact ⟨0, rfl, rfl, Below.refl _ _⟩
        case round =>
          obtain ⟨i, hi, rfl, HB⟩ := hrel
          have hi9 : (0 : Int) ≤ i := by omega
          by_cases hlt : i < 64
          · have t1 : decide ((i : Int) < 64) = true := by simp; omega
            have b1 : wr.cell? ⟨g1, i, none⟩ = some (.int .i64 (tabI p qb i)) := (HB.cell (p := ⟨g1, i, none⟩) (heap_lt hh3)).trans (row_cell hh3 hlt)
            have b2 : wr.cell? ⟨g2, i, none⟩ = some (.int .i64 (tabI p qa i)) := (HB.cell (p := ⟨g2, i, none⟩) (heap_lt hh2)).trans (row_cell hh2 hlt)
            have z1 : g1 < wr.heap.size := Nat.lt_of_lt_of_le (heap_lt hh3) HB.size
            have z2 : g2 < wr.heap.size := Nat.lt_of_lt_of_le (heap_lt hh2) HB.size
            have m1 := tab_mono p (a := qb) (b := qa) (by omega) hlt
            have m2 := tab_in p qb i
            have m3 := tab_in p qa i
            have HX : Hid (Below W2.heap.size W2 wr) := HB
            clear HB hh3 hh2
            generalize tabI p qb i = l at b1 m1 m2
            generalize tabI p qa i = m at b2 m1 m3
            have e1 : decide (l < m) = false := by first | (simp; done) | (simp; omega)
            have e2 : decide (m < 1) = false := by simp; omega
            have e3 : decide (255 < l) = false := by simp; omega
            go_wp2_with (fail)
            refine wp_region_calm (by kernel_rfl) (by kernel_rfl) ?_
            (repeat (first | go_big_quiet_step (fail) | quiet_step (fail)))
            refine wpQuiet_nil ?_
            intro u
            have hzu := u.below.size
            try simp at hzu
            go_wp2
            go_roundg (64 - (i + 1))
            case measure => omega
            case rel => exact ⟨i + 1, by omega, by go_num, gr2 HX.out u.below⟩
          · have hk64 : i = 64 := by omega
            subst hk64
            have t1 : decide (((64 : Nat) : Int) < 64) = false := rfl
            have hTz := hT.below (gr2 HB0 HB)
            go_wp2_with (go_at_call 5; refine (known09 _ hTz).mono ?_; rintro e W9 ⟨rfl, hb9⟩; obtain ⟨hc9, hf9, hz9⟩ := bcell hb9)
            go_ret
            exact ⟨rfl, gr2 (gr2 HB0 HB) hb9⟩
      · rcases (show qa < qb ∨ qb = qa by omega) with hab2 | hab2
        · clear hab
          go_wp2_with (first | (go_at_call 9; refine (table_ _ _ _ hA).mono ?_; clear hA; rintro e W1 ⟨g1, rfl, hb1, hg1, hh1⟩; have hA3 := hTr.below hb1) | (go_at_call 9; refine (table_ _ _ _ hA3).mono ?_; clear hA3; rintro e W2 ⟨g2, rfl, hb2, hg2, hh2⟩))
          have HB0 := gr2 (gr2 HB hb1) hb2
          have hh3 := at_be hh1 hb2
          have hz0 := Nat.le_trans hb1.size hb2.size
          clear hb1 hb2 hh1 HB hg1 hg2
          go_loopg [18] 64 (fun gj i wr => ∃ jj : Nat, jj + gj = 64 ∧ i = .int .i64 jj ∧ Below W2.heap.size W2 wr)
          case atStart => exact ⟨0, rfl, rfl, Below.refl _ _⟩
          case round =>
            obtain ⟨i, hi, rfl, HB⟩ := hrel
            have hi9 : (0 : Int) ≤ i := by omega
            by_cases hlt : i < 64
            · have t1 : decide ((i : Int) < 64) = true := by simp; omega
              have b1 : wr.cell? ⟨g1, i, none⟩ = some (.int .i64 (tabI p qa i)) := (HB.cell (p := ⟨g1, i, none⟩) (heap_lt hh3)).trans (row_cell hh3 hlt)
              have b2 : wr.cell? ⟨g2, i, none⟩ = some (.int .i64 (tabI p qb i)) := (HB.cell (p := ⟨g2, i, none⟩) (heap_lt hh2)).trans (row_cell hh2 hlt)
              have z1 : g1 < wr.heap.size := Nat.lt_of_lt_of_le (heap_lt hh3) HB.size
              have z2 : g2 < wr.heap.size := Nat.lt_of_lt_of_le (heap_lt hh2) HB.size
              have m1 := tab_mono p (a := qa) (b := qb) (by omega) hlt
              have m2 := tab_in p qa i
              have m3 := tab_in p qb i
              have HX : Hid (Below W2.heap.size W2 wr) := HB
              clear HB hh3 hh2
              generalize tabI p qa i = l at b1 m1 m2
              generalize tabI p qb i = m at b2 m1 m3
              have e1 : decide (l < m) = false := by first | (simp; done) | (simp; omega)
              have e2 : decide (m < 1) = false := by simp; omega
              have e3 : decide (255 < l) = false := by simp; omega
              go_wp2_with (fail)
              refine wp_region_calm (by kernel_rfl) (by kernel_rfl) ?_
              (repeat (first | go_big_quiet_step (fail) | quiet_step (fail)))
              refine wpQuiet_nil ?_
              intro u
              have hzu := u.below.size
              try simp at hzu
              go_wp2
              go_roundg (64 - (i + 1))
              case measure => omega
              case rel => exact ⟨i + 1, by omega, by go_num, gr2 HX.out u.below⟩
            · have hk64 : i = 64 := by omega
              subst hk64
              have t1 : decide (((64 : Nat) : Int) < 64) = false := rfl
              have hTz := hT.below (gr2 HB0 HB)
              go_wp2_with (go_at_call 5; refine (known09 _ hTz).mono ?_; rintro e W9 ⟨rfl, hb9⟩; obtain ⟨hc9, hf9, hz9⟩ := bcell hb9)
              go_ret
              exact ⟨rfl, gr2 (gr2 HB0 HB) hb9⟩
        · subst hab2
          go_wp2_with (first | (go_at_call 9; refine (table_ _ _ _ hA).mono ?_; clear hA; rintro e W1 ⟨g1, rfl, hb1, hg1, hh1⟩; have hA3 := hTr.below hb1) | (go_at_call 9; refine (table_ _ _ _ hA3).mono ?_; clear hA3; rintro e W2 ⟨g2, rfl, hb2, hg2, hh2⟩))
          have HB0 := gr2 (gr2 HB hb1) hb2
          have hh3 := at_be hh1 hb2
          have hz0 := Nat.le_trans hb1.size hb2.size
          clear hb1 hb2 hh1 HB hg1 hg2
          go_loopg [18] 64 (fun gj i wr => ∃ jj : Nat, jj + gj = 64 ∧ i = .int .i64 jj ∧ Below W2.heap.size W2 wr)
          case atStart => exact ⟨0, rfl, rfl, Below.refl _ _⟩
          case round =>
            obtain ⟨i, hi, rfl, HB⟩ := hrel
            have hi9 : (0 : Int) ≤ i := by omega
            by_cases hlt : i < 64
            · have t1 : decide ((i : Int) < 64) = true := by simp; omega
              have b1 : wr.cell? ⟨g1, i, none⟩ = some (.int .i64 (tabI p qb i)) := (HB.cell (p := ⟨g1, i, none⟩) (heap_lt hh3)).trans (row_cell hh3 hlt)
              have b2 : wr.cell? ⟨g2, i, none⟩ = some (.int .i64 (tabI p qb i)) := (HB.cell (p := ⟨g2, i, none⟩) (heap_lt hh2)).trans (row_cell hh2 hlt)
              have z1 : g1 < wr.heap.size := Nat.lt_of_lt_of_le (heap_lt hh3) HB.size
              have z2 : g2 < wr.heap.size := Nat.lt_of_lt_of_le (heap_lt hh2) HB.size
              have m1 := tab_mono p (a := qb) (b := qb) (by omega) hlt
              have m2 := tab_in p qb i
              have m3 := tab_in p qb i
              have HX : Hid (Below W2.heap.size W2 wr) := HB
              clear HB hh3 hh2
              generalize tabI p qb i = l at b1 b2 m1 m2 m3
              have e1 : decide (l < l) = false := by first | (simp; done) | (simp; omega)
              have e2 : decide (l < 1) = false := by simp; omega
              have e3 : decide (255 < l) = false := by simp; omega
              go_wp2_with (fail)
              refine wp_region_calm (by kernel_rfl) (by kernel_rfl) ?_
              (repeat (first | go_big_quiet_step (fail) | quiet_step (fail)))
              refine wpQuiet_nil ?_
              intro u
              have hzu := u.below.size
              try simp at hzu
              go_wp2
              go_roundg (64 - (i + 1))
              case measure => omega
              case rel => exact ⟨i + 1, by omega, by go_num, gr2 HX.out u.below⟩
            · have hk64 : i = 64 := by omega
              subst hk64
              have t1 : decide (((64 : Nat) : Int) < 64) = false := rfl
              have hTz := hT.below (gr2 HB0 HB)
              go_wp2_with (go_at_call 5; refine (known09 _ hTz).mono ?_; rintro e W9 ⟨rfl, hb9⟩; obtain ⟨hc9, hf9, hz9⟩ := bcell hb9)
              go_ret
              exact ⟨rfl, gr2 (gr2 HB0 HB) hb9⟩

end Go.Proofs.YtgegmlhpdpdnfaaDoor
