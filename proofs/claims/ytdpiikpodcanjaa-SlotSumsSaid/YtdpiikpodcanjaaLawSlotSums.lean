/- SlotSums: the walk: it returns true. -/
import Derived.Test.YtdpiikpodcanjaaSums
import Derived.Deep.LoopGhost
namespace Go.Proofs.Ytdpiikpodcanjaa
open Go.RowKit

theorem Public14 (x y m q i c : Int) (w : World) (_bx : 0 ≤ x ∧ x ≤ 65535) (_by : 0 ≤ y ∧ y ≤ 65535) (_bm : 0 ≤ m ∧ m ≤ 255) (_bq : 0 ≤ q ∧ q ≤ 255) (_bi : 0 ≤ i ∧ i ≤ 255) (_bc : 0 ≤ c ∧ c ≤ 255) :
    Calls Try.prog 32 #[.int .u16 x, .int .u16 y, .int .u8 m, .int .u8 q, .int .u8 i, .int .u8 c] w fun e w' => e = .returned (.agg #[.int .i64 (x % 300), .int .i64 (y % 300), .int .i64 (m % 6), .int .i64 (q % 103), .int .i64 (i % 30), .int .i64 (c % 6 - 1)]) ∧ Below w.heap.size w w' := by
  go_enter Try.func32, Try.ntmps32
  go_wp2_with (first
    | (refine wp_region_calm (by kernel_rfl) (by kernel_rfl) ?_; repeat (first | go_big_quiet_step (fail) | quiet_step (fail))
       refine wpQuiet_nil ?_; intro u; have hzu := u.below.size; try simp at hzu))
  refine bodyPost_ret (by simp [results, Try.results32, go_sem] <;> rfl) rfl ⟨rfl, ?_⟩
  repeat (first | exact gr0 _ | refine gr1 ?_ _ | refine gr2 ?_ (Later.below _) | refine gr2 ?_ (by assumption) | refine gr3 ?_ | refine gr4 ?_ (by first | (simp; done) | (simp; omega) | omega) _)


set_option maxRecDepth 100000 in
set_option maxHeartbeats 2000000 in
theorem sums_walk (px py pm pq pi pc x y m q i c N : Int) (w : World) (_bx : 0 ≤ px ∧ px ≤ 65535) (_by : 0 ≤ py ∧ py ≤ 65535) (_bm : 0 ≤ pm ∧ pm ≤ 255) (_bq : 0 ≤ pq ∧ pq ≤ 255) (_bi : 0 ≤ pi ∧ pi ≤ 255) (_bc : 0 ≤ pc ∧ pc ≤ 255) (hx : px % 300 = x) (hy : py % 300 = y) (hm : pm % 6 = m) (hq : pq % 103 = q) (hi : pi % 30 = i) (hc : pc % 6 - 1 = c) (hck : checkI x y m q i c = 0) (hN : intervalsI x y m i = N) :
    Calls Try.prog 13 #[.int .u16 px, .int .u16 py, .int .u8 pm, .int .u8 pq, .int .u8 pi, .int .u8 pc] w fun e w' => e = .returned (.bool true) ∧ Below w.heap.size w w' := by
  obtain ⟨_, _, hm5, hi5, hc5⟩ := check_ok hck
  go_enter Try.func13, Try.ntmps13
  go_wp2_with (first
    | (go_at_call 32; refine (Public14 _ _ _ _ _ _ _ _bx _by _bm _bq _bi _bc).mono ?_; rintro e W1 ⟨rfl, hb1⟩; rw [hx, hy, hm, hq, hi, hc]; have hz1 := hb1.size; try simp at hz1)
    | (go_at_call 29; refine (check_ _ _ _ _ _ _ _).mono ?_; rintro e W2 ⟨rfl, hb2⟩; rw [hck]; obtain ⟨hc2, hf2, hz2⟩ := bcell hb2; try simp at hz2)
    | (go_at_call 34; refine (intervals_ _ _ _ _ _ _ _).mono ?_; rintro e W3 ⟨rfl, hb3⟩; rw [hN]; obtain ⟨hc3, hf3, hz3⟩ := bcell hb3; try simp at hz3)
    | (go_at_call 23; refine (known14 _).mono ?_; rintro e W4 ⟨rfl, hb4⟩; obtain ⟨hc4, hf4, hz4⟩ := bcell hb4; try simp at hz4))
  obtain ⟨gp, hgp⟩ : ∃ g, g = W1.heap.size := ⟨_, rfl⟩
  rw [← hgp]
  refine wp_abs (fun W' => Below w.heap.size w W' ∧ gp < W'.heap.size ∧ W'.cell? ⟨gp, 0, none⟩ = some (.int .i64 x) ∧ W'.cell? ⟨gp, 1, none⟩ = some (.int .i64 y) ∧ W'.cell? ⟨gp, 2, none⟩ = some (.int .i64 m) ∧ W'.cell? ⟨gp, 3, none⟩ = some (.int .i64 q) ∧ W'.cell? ⟨gp, 4, none⟩ = some (.int .i64 i) ∧ W'.cell? ⟨gp, 5, none⟩ = some (.int .i64 c)) ?_ ?_
  · refine ⟨by repeat (first | exact gr0 _ | refine gr6 (by assumption) (Nat.le_refl _) ?_ | exact gr0 _ | refine gr1 ?_ _ | refine gr2 ?_ (Later.below _) | refine gr2 ?_ (by assumption) | refine gr3 ?_ | refine gr4 ?_ (by first | (simp; done) | (simp; omega) | omega) _), by rw [hgp]; omega, ?_, ?_, ?_, ?_, ?_, ?_⟩
    all_goals (simp [*]; intro h; omega)
  clear hb1 hz1 hb2 hc2 hf2 hz2 hb3 hc3 hf3 hz3 hgp
  intro W4 H9
  have HW : Veil (Below w.heap.size w W4) := H9.1
  have HC : Veil (gp < W4.heap.size ∧ W4.cell? ⟨gp, 0, none⟩ = some (.int .i64 x) ∧ W4.cell? ⟨gp, 1, none⟩ = some (.int .i64 y) ∧ W4.cell? ⟨gp, 2, none⟩ = some (.int .i64 m) ∧ W4.cell? ⟨gp, 3, none⟩ = some (.int .i64 q) ∧ W4.cell? ⟨gp, 4, none⟩ = some (.int .i64 i) ∧ W4.cell? ⟨gp, 5, none⟩ = some (.int .i64 c)) := H9.2
  have hN0 := intervals_in x y m i
  obtain ⟨Nn, hNn⟩ : ∃ Nn : Nat, (Nn : Int) = N := ⟨N.toNat, by omega⟩
  have hN9 : (Nn : Int) ≤ 4294836225 := by omega
  have hE := sums_end hck hc5.2
  rw [hN] at hE
  obtain ⟨b0, hb0⟩ : ∃ v, blocksI x y m i 0 = v := ⟨_, rfl⟩
  rw [hb0] at hE
  obtain ⟨hE1, hE2, hE3, hE4, hE5, hE6, hE7⟩ := hE
  subst hNn
  go_loopg [15, 16] Nn (fun gj va vi wr => ∃ jj : Nat, jj + gj = Nn ∧ vi = .int .i64 jj ∧ va = .int .i64 (minI (jj * i) (mcusI x y m) * partsN m) ∧ Below W4.heap.size W4 wr)
  case atStart => exact ⟨0, by omega, rfl, by rw [show ((0 : Nat) : Int) = 0 from rfl, sums_0], gr0 _⟩
  case round =>
    clear H9
    obtain ⟨j, hj, rfl, rfl, HB⟩ := hrel
    have hA := sums_in (x := x) (y := y) (m := m) (k := j) hi5 (by omega)
    have hzr := HB.size
    obtain ⟨hgp, c0, c1, c2, c3, c4, c5⟩ := HC.out
    have zc : gp < wr.heap.size := by omega
    have HX : Veil (Below W4.heap.size W4 wr) := HB
    by_cases hlt : j < Nn
    · have st := sums_step (x := x) (y := y) (k := j) hi5 hm5 (by omega) (by rw [hN]; omega)
      rw [hN, hb0] at st
      obtain ⟨b, hb⟩ : ∃ v, blocksI x y m i j = v := ⟨_, rfl⟩
      rw [hb] at st
      obtain ⟨st1, st2, st3, st4, st5⟩ := st
      have HS : Veil (minI (j * i) (mcusI x y m) * partsN m + b = minI ((j + 1) * i) (mcusI x y m) * partsN m) := st5
      clear st5 hE1 hE2 hE3 hE4 hE5
      obtain ⟨al, hal⟩ : ∃ v, minI (j * i) (mcusI x y m) * partsN m = v := ⟨_, rfl⟩
      rw [hal] at hA HS
      simp only [hal]
      have d0 : wr.cell? ⟨gp, 0, none⟩ = some (.int .i64 x) := (HB.cell (p := ⟨gp, 0, none⟩) hgp).trans c0
      have d1 : wr.cell? ⟨gp, 1, none⟩ = some (.int .i64 y) := (HB.cell (p := ⟨gp, 1, none⟩) hgp).trans c1
      have d2 : wr.cell? ⟨gp, 2, none⟩ = some (.int .i64 m) := (HB.cell (p := ⟨gp, 2, none⟩) hgp).trans c2
      have d3 : wr.cell? ⟨gp, 3, none⟩ = some (.int .i64 q) := (HB.cell (p := ⟨gp, 3, none⟩) hgp).trans c3
      have d4 : wr.cell? ⟨gp, 4, none⟩ = some (.int .i64 i) := (HB.cell (p := ⟨gp, 4, none⟩) hgp).trans c4
      have d5 : wr.cell? ⟨gp, 5, none⟩ = some (.int .i64 c) := (HB.cell (p := ⟨gp, 5, none⟩) hgp).trans c5
      clear HB c0 c1 c2 c3 c4 c5 hal
      have t1 : decide ((j : Int) < (Nn : Int)) = true := by simp; omega
      have t2 : decide (b < 1) = false := by simp; omega
      have t3 : decide (b0 < b) = false := by simp; omega
      have hj9 : (0 : Int) ≤ j := by omega
      by_cases hl : (j : Int) < (Nn : Int) - 1
      · have t4 : decide ((j : Int) < (Nn : Int) - 1) = true := by simp; omega
        have t5 : (b == b0) = true := by simp; exact st4 hl
        go_wp2_with (go_at_call 35; refine (blocks_ _ _ _ _ _ _ _ _).mono ?_; rintro e W5 ⟨rfl, hb5⟩; (first | rw [hb] | rw [hb0]); obtain ⟨hc5', hf5, hz5⟩ := bcell hb5; try simp at hz5)
        go_roundg (Nn - (j + 1))
        case measure => omega
        case rel =>
          refine ⟨j + 1, by omega, by go_num, by rw [show ((j + 1 : Nat) : Int) = (j : Int) + 1 from rfl, ← HS.out] <;> first | rfl | rw [st4 hl], ?_⟩
          repeat (first | exact HX.out | exact gr0 _ | refine gr6 (by assumption) (Nat.le_refl _) ?_ | exact HX.out | exact gr0 _ | refine gr1 ?_ _ | refine gr2 ?_ (Later.below _) | refine gr2 ?_ (by assumption) | refine gr3 ?_ | refine gr4 ?_ (by first | (simp; done) | (simp; omega) | omega) _)
      · have t4 : decide ((j : Int) < (Nn : Int) - 1) = false := by simp; omega
        go_wp2_with (go_at_call 35; refine (blocks_ _ _ _ _ _ _ _ _).mono ?_; rintro e W5 ⟨rfl, hb5⟩; (first | rw [hb] | rw [hb0]); obtain ⟨hc5', hf5, hz5⟩ := bcell hb5; try simp at hz5)
        go_roundg (Nn - (j + 1))
        case measure => omega
        case rel =>
          refine ⟨j + 1, by omega, by go_num, by rw [show ((j + 1 : Nat) : Int) = (j : Int) + 1 from rfl, ← HS.out] <;> first | rfl | rw [st4 hl], ?_⟩
          repeat (first | exact HX.out | exact gr0 _ | refine gr6 (by assumption) (Nat.le_refl _) ?_ | exact HX.out | exact gr0 _ | refine gr1 ?_ _ | refine gr2 ?_ (Later.below _) | refine gr2 ?_ (by assumption) | refine gr3 ?_ | refine gr4 ?_ (by first | (simp; done) | (simp; omega) | omega) _)
    · have hjn : j = Nn := by omega
      subst hjn
      have t1 : decide ((j : Int) < (j : Int)) = false := by simp
      have hP := parts_some hm5
      have hP0 : (partsN m : Int) ≠ 0 := by omega
      have f2 : Int.tmod (minI (j * i) (mcusI x y m) * partsN m) (partsN m) = 0 := mul_mod
      obtain ⟨al, hal⟩ : ∃ v, minI (j * i) (mcusI x y m) * partsN m = v := ⟨_, rfl⟩
      rw [hal] at hA hE1 f2
      simp only [hal]
      have hR := room_in x y m i c
      obtain ⟨Pm, hPm⟩ : ∃ v, (partsN m : Int) = v := ⟨_, rfl⟩
      have d0 : wr.cell? ⟨gp, 0, none⟩ = some (.int .i64 x) := (HB.cell (p := ⟨gp, 0, none⟩) hgp).trans c0
      have d1 : wr.cell? ⟨gp, 1, none⟩ = some (.int .i64 y) := (HB.cell (p := ⟨gp, 1, none⟩) hgp).trans c1
      have d2 : wr.cell? ⟨gp, 2, none⟩ = some (.int .i64 m) := (HB.cell (p := ⟨gp, 2, none⟩) hgp).trans c2
      have d3 : wr.cell? ⟨gp, 3, none⟩ = some (.int .i64 q) := (HB.cell (p := ⟨gp, 3, none⟩) hgp).trans c3
      have d4 : wr.cell? ⟨gp, 4, none⟩ = some (.int .i64 i) := (HB.cell (p := ⟨gp, 4, none⟩) hgp).trans c4
      have d5 : wr.cell? ⟨gp, 5, none⟩ = some (.int .i64 c) := (HB.cell (p := ⟨gp, 5, none⟩) hgp).trans c5
      have f1 : decide (0 < al) = true := by simp; omega
      have f3 : (blocksI x y m i j == 0) = true := by simp; omega
      have f5 : wrap64 (4 * roomI x y m i c) = 4 * roomI x y m i c := w64 (by omega) (by omega)
      have f6 : decide (reserveI m 0 b0 ≤ 4 * roomI x y m i c) = true := by simp; omega
      have f7 : wrap64 (roomI x y m i c + 2) = roomI x y m i c + 2 := w64 (by omega) (by omega)
      have f8 : (slotI x y m i c == roomI x y m i c + 2) = true := by simp; omega
      have HE3 : Veil (∀ d, c ≤ d → d ≤ 3 → roomI x y m i c ≤ roomI x y m i d) := hE3
      clear HB c0 c1 c2 c3 c4 c5 hal hE1 hE2 hE3 hE4 hE5 hPm
      by_cases h3 : c + 1 ≤ 3
      · have f4 : decide (roomI x y m i c ≤ roomI x y m i (c + 1)) = true := by simp; exact HE3.out _ (by omega) h3
        go_wp2_with (go_at_call 35; refine (blocks_ _ _ _ _ _ _ _ _).mono ?_; rintro e W5 ⟨rfl, hb5⟩; rw [hb0]; obtain ⟨hc5', hf5, hz5⟩ := bcell hb5; try simp at hz5)
        refine wp_region_hid 44 [⟨9, 81, fun x _ => ∃ p c, x = Value.slice p (partsN m) c⟩] (by kernel_rfl) (by kernel_rfl) (by simp) (by simp) (by kernel_rfl) ?_ ?_
        · intro h hh x W W' hb hx
          simp only [List.mem_cons, List.not_mem_nil, or_false] at hh
          rcases hh with rfl
          all_goals first | exact hx | exact own_below hx hb | (obtain ⟨g, e, h1, h2⟩ := hx; exact ⟨g, e, h1, (hb.block g (lt_of_heap h2)).trans h2⟩)
        simp only [List.take_succ_cons, List.take_zero, List.drop_succ_cons, List.drop_zero]
        repeat (first | (refine wpHid_hid rfl rfl (fun X u hX K hK => ?_) ?_; (focus (have hzu := u.below.size; (try simp at hzu); (try simp only [fill, List.map_cons, List.map_nil, Act.put, List.setIfInBounds_toArray, List.set_cons_succ, List.set_cons_zero] at hK ⊢); go_step; first | (go_at_call 30; refine (parts_len _ _).mono ?_; rintro e W ⟨p, c, rfl, hb⟩; exact hK _ _ hb ⟨p, c, rfl⟩))); (try simp only [Act.put, List.setIfInBounds_toArray, List.set_cons_succ, List.set_cons_zero])) | (refine wpHid_next rfl rfl ?_; apply Exists.intro; refine ⟨fun X u hX K hK => ?_, ?_⟩; (focus (have hzu := u.below.size; (try simp at hzu); (try (refine Exists.elim (hX _ List.mem_cons_self ?_) ?_; (focus (show (81 : Nat) ∈ _; decide +kernel)); (intro p0 hx; obtain ⟨c0, hx0⟩ := hx))); (try simp only [fill, List.map_cons, List.map_nil, Act.put, List.setIfInBounds_toArray, List.set_cons_succ, List.set_cons_zero] at hK ⊢); (try simp only [hx0] at hK ⊢); go_step; first | exact hK _ _ (gr0 _) rfl | (go_at_call 23; refine (known14 _).mono ?_; rintro e W ⟨rfl, hb⟩; exact hK _ _ hb rfl) | (go_at_call 35; refine (blocks_ _ _ _ _ _ _ _ _).mono ?_; rintro e W ⟨rfl, hb⟩; exact hK _ _ hb rfl) | (go_at_call 36; refine (room_ _ _ _ _ _ _ _).mono ?_; rintro e W ⟨rfl, hb⟩; exact hK _ _ hb rfl) | (go_at_call 37; refine (reserve_ _ _ _ _ _ _ _ _ _ (by omega) (by omega)).mono ?_; rintro e W ⟨rfl, hb⟩; exact hK _ _ hb rfl) | (go_at_call 38; refine (slot_ _ _ _ _ _ _ _).mono ?_; rintro e W ⟨rfl, hb⟩; exact hK _ _ hb rfl))); (try simp only [Act.put, List.setIfInBounds_toArray, List.set_cons_succ, List.set_cons_zero])) | (refine wpHid_skip rfl rfl ?_; (try simp only [Act.put, List.setIfInBounds_toArray, List.set_cons_succ, List.set_cons_zero])))
        refine wpHid_nil ?_
        intro X W9 hb9 hR9
        obtain ⟨p0, c0, hx0⟩ := hR9 _ List.mem_cons_self
        simp only [fill, List.map_cons, List.map_nil, Act.put, List.setIfInBounds_toArray, List.set_cons_succ, List.set_cons_zero]
        simp only [hx0]
        obtain ⟨hcW9, hfW9, hzW9⟩ := bcell hb9
        try simp at hzW9
        go_wp2
        go_ret
        refine ⟨rfl, gr2 HW.out ?_⟩
        repeat (first | exact HX.out | exact gr0 _ | refine gr6 (by assumption) (Nat.le_refl _) ?_ | exact HX.out | exact gr0 _ | refine gr1 ?_ _ | refine gr2 ?_ (Later.below _) | refine gr2 ?_ (by assumption) | refine gr3 ?_ | refine gr4 ?_ (by first | (simp; done) | (simp; omega) | omega) _)
      · have f4 : decide (roomI x y m i c ≤ roomI x y m i 3) = true := by simp; exact HE3.out _ (by omega) (by omega)
        have h4 : 3 < c + 1 := by omega
        go_wp2_with (go_at_call 35; refine (blocks_ _ _ _ _ _ _ _ _).mono ?_; rintro e W5 ⟨rfl, hb5⟩; rw [hb0]; obtain ⟨hc5', hf5, hz5⟩ := bcell hb5; try simp at hz5)
        refine wp_region_hid 44 [⟨9, 81, fun x _ => ∃ p c, x = Value.slice p (partsN m) c⟩] (by kernel_rfl) (by kernel_rfl) (by simp) (by simp) (by kernel_rfl) ?_ ?_
        · intro h hh x W W' hb hx
          simp only [List.mem_cons, List.not_mem_nil, or_false] at hh
          rcases hh with rfl
          all_goals first | exact hx | exact own_below hx hb | (obtain ⟨g, e, h1, h2⟩ := hx; exact ⟨g, e, h1, (hb.block g (lt_of_heap h2)).trans h2⟩)
        simp only [List.take_succ_cons, List.take_zero, List.drop_succ_cons, List.drop_zero]
        repeat (first | (refine wpHid_hid rfl rfl (fun X u hX K hK => ?_) ?_; (focus (have hzu := u.below.size; (try simp at hzu); (try simp only [fill, List.map_cons, List.map_nil, Act.put, List.setIfInBounds_toArray, List.set_cons_succ, List.set_cons_zero] at hK ⊢); go_step; first | (go_at_call 30; refine (parts_len _ _).mono ?_; rintro e W ⟨p, c, rfl, hb⟩; exact hK _ _ hb ⟨p, c, rfl⟩))); (try simp only [Act.put, List.setIfInBounds_toArray, List.set_cons_succ, List.set_cons_zero])) | (refine wpHid_next rfl rfl ?_; apply Exists.intro; refine ⟨fun X u hX K hK => ?_, ?_⟩; (focus (have hzu := u.below.size; (try simp at hzu); (try (refine Exists.elim (hX _ List.mem_cons_self ?_) ?_; (focus (show (81 : Nat) ∈ _; decide +kernel)); (intro p0 hx; obtain ⟨c0, hx0⟩ := hx))); (try simp only [fill, List.map_cons, List.map_nil, Act.put, List.setIfInBounds_toArray, List.set_cons_succ, List.set_cons_zero] at hK ⊢); (try simp only [hx0] at hK ⊢); go_step; first | exact hK _ _ (gr0 _) rfl | (go_at_call 23; refine (known14 _).mono ?_; rintro e W ⟨rfl, hb⟩; exact hK _ _ hb rfl) | (go_at_call 35; refine (blocks_ _ _ _ _ _ _ _ _).mono ?_; rintro e W ⟨rfl, hb⟩; exact hK _ _ hb rfl) | (go_at_call 36; refine (room_ _ _ _ _ _ _ _).mono ?_; rintro e W ⟨rfl, hb⟩; exact hK _ _ hb rfl) | (go_at_call 37; refine (reserve_ _ _ _ _ _ _ _ _ _ (by omega) (by omega)).mono ?_; rintro e W ⟨rfl, hb⟩; exact hK _ _ hb rfl) | (go_at_call 38; refine (slot_ _ _ _ _ _ _ _).mono ?_; rintro e W ⟨rfl, hb⟩; exact hK _ _ hb rfl))); (try simp only [Act.put, List.setIfInBounds_toArray, List.set_cons_succ, List.set_cons_zero])) | (refine wpHid_skip rfl rfl ?_; (try simp only [Act.put, List.setIfInBounds_toArray, List.set_cons_succ, List.set_cons_zero])))
        refine wpHid_nil ?_
        intro X W9 hb9 hR9
        obtain ⟨p0, c0, hx0⟩ := hR9 _ List.mem_cons_self
        simp only [fill, List.map_cons, List.map_nil, Act.put, List.setIfInBounds_toArray, List.set_cons_succ, List.set_cons_zero]
        simp only [hx0]
        obtain ⟨hcW9, hfW9, hzW9⟩ := bcell hb9
        try simp at hzW9
        go_wp2
        go_ret
        refine ⟨rfl, gr2 HW.out ?_⟩
        repeat (first | exact HX.out | exact gr0 _ | refine gr6 (by assumption) (Nat.le_refl _) ?_ | exact HX.out | exact gr0 _ | refine gr1 ?_ _ | refine gr2 ?_ (Later.below _) | refine gr2 ?_ (by assumption) | refine gr3 ?_ | refine gr4 ?_ (by first | (simp; done) | (simp; omega) | omega) _)

set_option maxRecDepth 100000 in
set_option maxHeartbeats 2000000 in
theorem walk_SlotSums (px py pm pq pi pc : Int) (w : World) (_bx : 0 ≤ px ∧ px ≤ 65535) (_by : 0 ≤ py ∧ py ≤ 65535) (_bm : 0 ≤ pm ∧ pm ≤ 255) (_bq : 0 ≤ pq ∧ pq ≤ 255) (_bi : 0 ≤ pi ∧ pi ≤ 255) (_bc : 0 ≤ pc ∧ pc ≤ 255) :
    Calls Try.prog 13 #[.int .u16 px, .int .u16 py, .int .u8 pm, .int .u8 pq, .int .u8 pi, .int .u8 pc] w fun e w' => e = .returned (.bool true) ∧ Below w.heap.size w w' := by
  obtain ⟨x, hx⟩ : ∃ v, px % 300 = v := ⟨_, rfl⟩
  obtain ⟨y, hy⟩ : ∃ v, py % 300 = v := ⟨_, rfl⟩
  obtain ⟨m, hm⟩ : ∃ v, pm % 6 = v := ⟨_, rfl⟩
  obtain ⟨q, hq⟩ : ∃ v, pq % 103 = v := ⟨_, rfl⟩
  obtain ⟨i, hi⟩ : ∃ v, pi % 30 = v := ⟨_, rfl⟩
  obtain ⟨c, hc⟩ : ∃ v, pc % 6 - 1 = v := ⟨_, rfl⟩
  have hcc : c ≤ 4 := by omega
  obtain ⟨ck, hck⟩ : ∃ v, checkI x y m q i c = v := ⟨_, rfl⟩
  obtain ⟨N, hN⟩ : ∃ v, intervalsI x y m i = v := ⟨_, rfl⟩
  by_cases h0 : ck = 0
  · subst h0
    exact sums_walk px py pm pq pi pc x y m q i c N w _bx _by _bm _bq _bi _bc hx hy hm hq hi hc hck hN
  · have e0 : (ck == 0) = false := by simp; omega
    go_enter Try.func13, Try.ntmps13
    go_wp2_with (first
      | (go_at_call 32; refine (Public14 _ _ _ _ _ _ _ _bx _by _bm _bq _bi _bc).mono ?_; rintro e W1 ⟨rfl, hb1⟩; rw [hx, hy, hm, hq, hi, hc]; have hz1 := hb1.size; try simp at hz1)
      | (go_at_call 29; refine (check_ _ _ _ _ _ _ _).mono ?_; rintro e W2 ⟨rfl, hb2⟩; rw [hck]; obtain ⟨hc2, hf2, hz2⟩ := bcell hb2; try simp at hz2)
      | (go_at_call 34; refine (intervals_ _ _ _ _ _ _ _).mono ?_; rintro e W3 ⟨rfl, hb3⟩; rw [hN]; obtain ⟨hc3, hf3, hz3⟩ := bcell hb3; try simp at hz3)
      | (go_at_call 23; refine (known14 _).mono ?_; rintro e W4 ⟨rfl, hb4⟩; obtain ⟨hc4, hf4, hz4⟩ := bcell hb4; try simp at hz4))
    go_ret
    refine ⟨rfl, ?_⟩
    repeat (first | exact gr0 _ | refine gr6 (by assumption) (Nat.le_refl _) ?_ | exact gr0 _ | refine gr1 ?_ _ | refine gr2 ?_ (Later.below _) | refine gr2 ?_ (by assumption) | refine gr3 ?_ | refine gr4 ?_ (by first | (simp; done) | (simp; omega) | omega) _)

end Go.Proofs.Ytdpiikpodcanjaa
