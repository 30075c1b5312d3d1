/- SlotRefuses: the walk: it returns true. -/
import Derived.Test.YtdpiikpodcanjaaSlotL
namespace Go.Proofs.Ytdpiikpodcanjaa
open Go.RowKit

theorem bt {n l u : Int} (h1 : l ≤ n) (h2 : n ≤ u) : betwI n l u = true := by unfold betwI; simp; omega
theorem bf {n l u : Int} (h : n < l ∨ u < n) : betwI n l u = false := by unfold betwI; simp; omega
theorem xy {x y : Int} (h1 : 1 ≤ x ∧ x ≤ 200) (h2 : 1 ≤ y ∧ y ≤ 200) : decide (wrap64 (x * y) ≤ 67108864) = true := by
  have h3 : 0 ≤ x * y := Int.mul_nonneg (by omega) (by omega)
  have h4 : x * y ≤ 200 * 200 := Int.mul_le_mul h1.2 h2.2 (by omega) (by omega)
  rw [w64 (by omega) (by omega)]
  simp; omega
theorem ck0 {x : Int} (y m q i c : Int) (h : x < 1 ∨ 65535 < x) : checkI x y m q i c = 10 := by unfold checkI; rw [bf h]; rfl
theorem ck1 {x y : Int} (m q i c : Int) (h1 : 1 ≤ x ∧ x ≤ 200) (h : y < 1 ∨ 65535 < y) : checkI x y m q i c = 10 := by unfold checkI; rw [bt h1.1 (by omega), bf h]; rfl
theorem ck2 {x y m : Int} (q i c : Int) (h1 : 1 ≤ x ∧ x ≤ 200) (h2 : 1 ≤ y ∧ y ≤ 200) (h : m < 1 ∨ 4 < m) : checkI x y m q i c = 11 := by unfold checkI; rw [bt h1.1 (by omega), bt h2.1 (by omega), xy h1 h2, bf h]; rfl
theorem ck3 {x y m q : Int} (i c : Int) (h1 : 1 ≤ x ∧ x ≤ 200) (h2 : 1 ≤ y ∧ y ≤ 200) (h3 : 1 ≤ m ∧ m ≤ 4) (h : q < 1 ∨ 100 < q) : checkI x y m q i c = 12 := by unfold checkI; rw [bt h1.1 (by omega), bt h2.1 (by omega), xy h1 h2, bt h3.1 h3.2, bf h]; rfl
theorem ck4 {x y m q i : Int} (c : Int) (h1 : 1 ≤ x ∧ x ≤ 200) (h2 : 1 ≤ y ∧ y ≤ 200) (h3 : 1 ≤ m ∧ m ≤ 4) (h4 : 1 ≤ q ∧ q ≤ 100) (h : i < 1 ∨ 65535 < i) : checkI x y m q i c = 13 := by unfold checkI; rw [bt h1.1 (by omega), bt h2.1 (by omega), xy h1 h2, bt h3.1 h3.2, bt h4.1 h4.2, bf h]; rfl
theorem ck5 {x y m q i c : Int} (h1 : 1 ≤ x ∧ x ≤ 200) (h2 : 1 ≤ y ∧ y ≤ 200) (h3 : 1 ≤ m ∧ m ≤ 4) (h4 : 1 ≤ q ∧ q ≤ 100) (h5 : 1 ≤ i ∧ i ≤ 9) (h : c < 0 ∨ 3 < c) : checkI x y m q i c = 14 := by unfold checkI; rw [bt h1.1 (by omega), bt h2.1 (by omega), xy h1 h2, bt h3.1 h3.2, bt h4.1 h4.2, bt h5.1 (by omega), bf h]; rfl
theorem ck6 : checkI 65535 65535 0 0 0 0 = 15 := by decide +kernel
theorem modrule {n d : Int} (h0 : 0 ≤ n) (hd : 0 < d) : ∃ a : Int, (0 ≤ a ∧ a ≤ d - 1) ∧ (∀ c : Int, c = d → n % c = a) ∧ (∀ c : Int, c = d → Int.tmod n c = a) := by
  have h1 := Int.emod_nonneg n (by omega : d ≠ 0)
  have h2 := Int.emod_lt_of_pos n hd
  refine ⟨n % d, by omega, ?_, ?_⟩
  · rintro c rfl; rfl
  · rintro c rfl; exact Int.tmod_eq_emod_of_nonneg h0

set_option maxRecDepth 100000 in
set_option maxHeartbeats 2000000 in
theorem walkr_0_t (w_ h_ mo qu it cl wh : Int) (w : World) (_bw_ : 0 ≤ w_ ∧ w_ ≤ 65535) (_bh_ : 0 ≤ h_ ∧ h_ ≤ 65535) (_bmo : 0 ≤ mo ∧ mo ≤ 255) (_bqu : 0 ≤ qu ∧ qu ≤ 255) (_bit : 0 ≤ it ∧ it ≤ 255) (_bcl : 0 ≤ cl ∧ cl ≤ 255) (_bwh : 0 ≤ wh ∧ wh ≤ 255) (hm : wh % 6 = 0) :
    Calls Try.prog 9 #[.int .u16 w_, .int .u16 h_, .int .u8 mo, .int .u8 qu, .int .u8 it, .int .u8 cl, .int .u8 wh, .bool true] w fun e w' => e = .returned (.bool true) ∧ Below w.heap.size w w' := by
  obtain ⟨a, ha, ra, sa⟩ := modrule (n := w_) (d := 200) _bw_.1 (by omega)
  obtain ⟨b, hb, rb, sb⟩ := modrule (n := h_) (d := 200) _bh_.1 (by omega)
  obtain ⟨d, hd, rd, sd⟩ := modrule (n := mo) (d := 4) _bmo.1 (by omega)
  obtain ⟨e, he, re, se⟩ := modrule (n := qu) (d := 100) _bqu.1 (by omega)
  obtain ⟨f, hf, rf, sf⟩ := modrule (n := it) (d := 9) _bit.1 (by omega)
  obtain ⟨g, hg, rg, sg⟩ := modrule (n := cl) (d := 4) _bcl.1 (by omega)
  obtain ⟨hw1, hw2⟩ : (∀ c : Int, c = 6 → wh % c = 0) ∧ (∀ c : Int, c = 6 → Int.tmod wh c = 0) := ⟨by rintro c rfl; omega, by rintro c rfl; rw [Int.tmod_eq_emod_of_nonneg (by omega)]; omega⟩
  have k1 : checkI 65536 (1 + b) (1 + d) (1 + e) (1 + f) g = 10 := ck0 _ _ _ _ _  (by omega)
  have k2 : checkI 65536 (1 + b) (1 + d) (1 + e) (1 + f) (-1) = 10 := ck0 _ _ _ _ _  (by omega)
  have k3 := ck6
  clear _bw_ _bh_ _bmo _bit _bcl _bwh hm
  go_enter Try.func9, Try.ntmps9
  go_wp2_with (first
    | (go_at_call 23; refine (known14 _).mono ?_; rintro e W1 ⟨rfl, hb1⟩; obtain ⟨hc1, hf1, hz1⟩ := bcell hb1; try simp at hz1)
    | (go_at_call 29; refine (check_ _ _ _ _ _ _ _).mono ?_; rintro e W1 ⟨rfl, hb1⟩; obtain ⟨hc1, hf1, hz1⟩ := bcell hb1; try simp at hz1))
  all_goals go_ret
  all_goals refine ⟨rfl, ?_⟩
  all_goals (repeat (first | exact gr0 _ | refine gr6 (by assumption) (Nat.le_refl _) ?_ | exact gr0 _ | refine gr1 ?_ _ | refine gr2 ?_ (Later.below _) | refine gr2 ?_ (by assumption) | refine gr3 ?_ | refine gr4 ?_ (by first | (simp; done) | (simp; omega) | omega) _))

set_option maxRecDepth 100000 in
set_option maxHeartbeats 2000000 in
theorem walkr_0_f (w_ h_ mo qu it cl wh : Int) (w : World) (_bw_ : 0 ≤ w_ ∧ w_ ≤ 65535) (_bh_ : 0 ≤ h_ ∧ h_ ≤ 65535) (_bmo : 0 ≤ mo ∧ mo ≤ 255) (_bqu : 0 ≤ qu ∧ qu ≤ 255) (_bit : 0 ≤ it ∧ it ≤ 255) (_bcl : 0 ≤ cl ∧ cl ≤ 255) (_bwh : 0 ≤ wh ∧ wh ≤ 255) (hm : wh % 6 = 0) :
    Calls Try.prog 9 #[.int .u16 w_, .int .u16 h_, .int .u8 mo, .int .u8 qu, .int .u8 it, .int .u8 cl, .int .u8 wh, .bool false] w fun e w' => e = .returned (.bool true) ∧ Below w.heap.size w w' := by
  obtain ⟨a, ha, ra, sa⟩ := modrule (n := w_) (d := 200) _bw_.1 (by omega)
  obtain ⟨b, hb, rb, sb⟩ := modrule (n := h_) (d := 200) _bh_.1 (by omega)
  obtain ⟨d, hd, rd, sd⟩ := modrule (n := mo) (d := 4) _bmo.1 (by omega)
  obtain ⟨e, he, re, se⟩ := modrule (n := qu) (d := 100) _bqu.1 (by omega)
  obtain ⟨f, hf, rf, sf⟩ := modrule (n := it) (d := 9) _bit.1 (by omega)
  obtain ⟨g, hg, rg, sg⟩ := modrule (n := cl) (d := 4) _bcl.1 (by omega)
  obtain ⟨hw1, hw2⟩ : (∀ c : Int, c = 6 → wh % c = 0) ∧ (∀ c : Int, c = 6 → Int.tmod wh c = 0) := ⟨by rintro c rfl; omega, by rintro c rfl; rw [Int.tmod_eq_emod_of_nonneg (by omega)]; omega⟩
  have k1 : checkI 0 (1 + b) (1 + d) (1 + e) (1 + f) g = 10 := ck0 _ _ _ _ _  (by omega)
  have k2 : checkI 0 (1 + b) (1 + d) (1 + e) (1 + f) (-1) = 10 := ck0 _ _ _ _ _  (by omega)
  have k3 := ck6
  clear _bw_ _bh_ _bmo _bit _bcl _bwh hm
  go_enter Try.func9, Try.ntmps9
  go_wp2_with (first
    | (go_at_call 23; refine (known14 _).mono ?_; rintro e W1 ⟨rfl, hb1⟩; obtain ⟨hc1, hf1, hz1⟩ := bcell hb1; try simp at hz1)
    | (go_at_call 29; refine (check_ _ _ _ _ _ _ _).mono ?_; rintro e W1 ⟨rfl, hb1⟩; obtain ⟨hc1, hf1, hz1⟩ := bcell hb1; try simp at hz1))
  all_goals go_ret
  all_goals refine ⟨rfl, ?_⟩
  all_goals (repeat (first | exact gr0 _ | refine gr6 (by assumption) (Nat.le_refl _) ?_ | exact gr0 _ | refine gr1 ?_ _ | refine gr2 ?_ (Later.below _) | refine gr2 ?_ (by assumption) | refine gr3 ?_ | refine gr4 ?_ (by first | (simp; done) | (simp; omega) | omega) _))

set_option maxRecDepth 100000 in
set_option maxHeartbeats 2000000 in
theorem walkr_1_t (w_ h_ mo qu it cl wh : Int) (w : World) (_bw_ : 0 ≤ w_ ∧ w_ ≤ 65535) (_bh_ : 0 ≤ h_ ∧ h_ ≤ 65535) (_bmo : 0 ≤ mo ∧ mo ≤ 255) (_bqu : 0 ≤ qu ∧ qu ≤ 255) (_bit : 0 ≤ it ∧ it ≤ 255) (_bcl : 0 ≤ cl ∧ cl ≤ 255) (_bwh : 0 ≤ wh ∧ wh ≤ 255) (hm : wh % 6 = 1) :
    Calls Try.prog 9 #[.int .u16 w_, .int .u16 h_, .int .u8 mo, .int .u8 qu, .int .u8 it, .int .u8 cl, .int .u8 wh, .bool true] w fun e w' => e = .returned (.bool true) ∧ Below w.heap.size w w' := by
  obtain ⟨a, ha, ra, sa⟩ := modrule (n := w_) (d := 200) _bw_.1 (by omega)
  obtain ⟨b, hb, rb, sb⟩ := modrule (n := h_) (d := 200) _bh_.1 (by omega)
  obtain ⟨d, hd, rd, sd⟩ := modrule (n := mo) (d := 4) _bmo.1 (by omega)
  obtain ⟨e, he, re, se⟩ := modrule (n := qu) (d := 100) _bqu.1 (by omega)
  obtain ⟨f, hf, rf, sf⟩ := modrule (n := it) (d := 9) _bit.1 (by omega)
  obtain ⟨g, hg, rg, sg⟩ := modrule (n := cl) (d := 4) _bcl.1 (by omega)
  obtain ⟨hw1, hw2⟩ : (∀ c : Int, c = 6 → wh % c = 1) ∧ (∀ c : Int, c = 6 → Int.tmod wh c = 1) := ⟨by rintro c rfl; omega, by rintro c rfl; rw [Int.tmod_eq_emod_of_nonneg (by omega)]; omega⟩
  have k1 : checkI (1 + a) 65536 (1 + d) (1 + e) (1 + f) g = 10 := ck1 _ _ _ _ (by omega) (by omega)
  have k2 : checkI (1 + a) 65536 (1 + d) (1 + e) (1 + f) (-1) = 10 := ck1 _ _ _ _ (by omega) (by omega)
  have k3 := ck6
  clear _bw_ _bh_ _bmo _bit _bcl _bwh hm
  go_enter Try.func9, Try.ntmps9
  go_wp2_with (first
    | (go_at_call 23; refine (known14 _).mono ?_; rintro e W1 ⟨rfl, hb1⟩; obtain ⟨hc1, hf1, hz1⟩ := bcell hb1; try simp at hz1)
    | (go_at_call 29; refine (check_ _ _ _ _ _ _ _).mono ?_; rintro e W1 ⟨rfl, hb1⟩; obtain ⟨hc1, hf1, hz1⟩ := bcell hb1; try simp at hz1))
  all_goals go_ret
  all_goals refine ⟨rfl, ?_⟩
  all_goals (repeat (first | exact gr0 _ | refine gr6 (by assumption) (Nat.le_refl _) ?_ | exact gr0 _ | refine gr1 ?_ _ | refine gr2 ?_ (Later.below _) | refine gr2 ?_ (by assumption) | refine gr3 ?_ | refine gr4 ?_ (by first | (simp; done) | (simp; omega) | omega) _))

set_option maxRecDepth 100000 in
set_option maxHeartbeats 2000000 in
theorem walkr_1_f (w_ h_ mo qu it cl wh : Int) (w : World) (_bw_ : 0 ≤ w_ ∧ w_ ≤ 65535) (_bh_ : 0 ≤ h_ ∧ h_ ≤ 65535) (_bmo : 0 ≤ mo ∧ mo ≤ 255) (_bqu : 0 ≤ qu ∧ qu ≤ 255) (_bit : 0 ≤ it ∧ it ≤ 255) (_bcl : 0 ≤ cl ∧ cl ≤ 255) (_bwh : 0 ≤ wh ∧ wh ≤ 255) (hm : wh % 6 = 1) :
    Calls Try.prog 9 #[.int .u16 w_, .int .u16 h_, .int .u8 mo, .int .u8 qu, .int .u8 it, .int .u8 cl, .int .u8 wh, .bool false] w fun e w' => e = .returned (.bool true) ∧ Below w.heap.size w w' := by
  obtain ⟨a, ha, ra, sa⟩ := modrule (n := w_) (d := 200) _bw_.1 (by omega)
  obtain ⟨b, hb, rb, sb⟩ := modrule (n := h_) (d := 200) _bh_.1 (by omega)
  obtain ⟨d, hd, rd, sd⟩ := modrule (n := mo) (d := 4) _bmo.1 (by omega)
  obtain ⟨e, he, re, se⟩ := modrule (n := qu) (d := 100) _bqu.1 (by omega)
  obtain ⟨f, hf, rf, sf⟩ := modrule (n := it) (d := 9) _bit.1 (by omega)
  obtain ⟨g, hg, rg, sg⟩ := modrule (n := cl) (d := 4) _bcl.1 (by omega)
  obtain ⟨hw1, hw2⟩ : (∀ c : Int, c = 6 → wh % c = 1) ∧ (∀ c : Int, c = 6 → Int.tmod wh c = 1) := ⟨by rintro c rfl; omega, by rintro c rfl; rw [Int.tmod_eq_emod_of_nonneg (by omega)]; omega⟩
  have k1 : checkI (1 + a) 0 (1 + d) (1 + e) (1 + f) g = 10 := ck1 _ _ _ _ (by omega) (by omega)
  have k2 : checkI (1 + a) 0 (1 + d) (1 + e) (1 + f) (-1) = 10 := ck1 _ _ _ _ (by omega) (by omega)
  have k3 := ck6
  clear _bw_ _bh_ _bmo _bit _bcl _bwh hm
  go_enter Try.func9, Try.ntmps9
  go_wp2_with (first
    | (go_at_call 23; refine (known14 _).mono ?_; rintro e W1 ⟨rfl, hb1⟩; obtain ⟨hc1, hf1, hz1⟩ := bcell hb1; try simp at hz1)
    | (go_at_call 29; refine (check_ _ _ _ _ _ _ _).mono ?_; rintro e W1 ⟨rfl, hb1⟩; obtain ⟨hc1, hf1, hz1⟩ := bcell hb1; try simp at hz1))
  all_goals go_ret
  all_goals refine ⟨rfl, ?_⟩
  all_goals (repeat (first | exact gr0 _ | refine gr6 (by assumption) (Nat.le_refl _) ?_ | exact gr0 _ | refine gr1 ?_ _ | refine gr2 ?_ (Later.below _) | refine gr2 ?_ (by assumption) | refine gr3 ?_ | refine gr4 ?_ (by first | (simp; done) | (simp; omega) | omega) _))

set_option maxRecDepth 100000 in
set_option maxHeartbeats 2000000 in
theorem walkr_2_t (w_ h_ mo qu it cl wh : Int) (w : World) (_bw_ : 0 ≤ w_ ∧ w_ ≤ 65535) (_bh_ : 0 ≤ h_ ∧ h_ ≤ 65535) (_bmo : 0 ≤ mo ∧ mo ≤ 255) (_bqu : 0 ≤ qu ∧ qu ≤ 255) (_bit : 0 ≤ it ∧ it ≤ 255) (_bcl : 0 ≤ cl ∧ cl ≤ 255) (_bwh : 0 ≤ wh ∧ wh ≤ 255) (hm : wh % 6 = 2) :
    Calls Try.prog 9 #[.int .u16 w_, .int .u16 h_, .int .u8 mo, .int .u8 qu, .int .u8 it, .int .u8 cl, .int .u8 wh, .bool true] w fun e w' => e = .returned (.bool true) ∧ Below w.heap.size w w' := by
  obtain ⟨a, ha, ra, sa⟩ := modrule (n := w_) (d := 200) _bw_.1 (by omega)
  obtain ⟨b, hb, rb, sb⟩ := modrule (n := h_) (d := 200) _bh_.1 (by omega)
  obtain ⟨d, hd, rd, sd⟩ := modrule (n := mo) (d := 4) _bmo.1 (by omega)
  obtain ⟨e, he, re, se⟩ := modrule (n := qu) (d := 100) _bqu.1 (by omega)
  obtain ⟨f, hf, rf, sf⟩ := modrule (n := it) (d := 9) _bit.1 (by omega)
  obtain ⟨g, hg, rg, sg⟩ := modrule (n := cl) (d := 4) _bcl.1 (by omega)
  obtain ⟨hw1, hw2⟩ : (∀ c : Int, c = 6 → wh % c = 2) ∧ (∀ c : Int, c = 6 → Int.tmod wh c = 2) := ⟨by rintro c rfl; omega, by rintro c rfl; rw [Int.tmod_eq_emod_of_nonneg (by omega)]; omega⟩
  have k1 : checkI (1 + a) (1 + b) 65536 (1 + e) (1 + f) g = 11 := ck2 _ _ _ (by omega) (by omega) (by omega)
  have k2 : checkI (1 + a) (1 + b) 65536 (1 + e) (1 + f) (-1) = 11 := ck2 _ _ _ (by omega) (by omega) (by omega)
  have k3 := ck6
  clear _bw_ _bh_ _bmo _bit _bcl _bwh hm
  go_enter Try.func9, Try.ntmps9
  go_wp2_with (first
    | (go_at_call 23; refine (known14 _).mono ?_; rintro e W1 ⟨rfl, hb1⟩; obtain ⟨hc1, hf1, hz1⟩ := bcell hb1; try simp at hz1)
    | (go_at_call 29; refine (check_ _ _ _ _ _ _ _).mono ?_; rintro e W1 ⟨rfl, hb1⟩; obtain ⟨hc1, hf1, hz1⟩ := bcell hb1; try simp at hz1))
  all_goals go_ret
  all_goals refine ⟨rfl, ?_⟩
  all_goals (repeat (first | exact gr0 _ | refine gr6 (by assumption) (Nat.le_refl _) ?_ | exact gr0 _ | refine gr1 ?_ _ | refine gr2 ?_ (Later.below _) | refine gr2 ?_ (by assumption) | refine gr3 ?_ | refine gr4 ?_ (by first | (simp; done) | (simp; omega) | omega) _))

set_option maxRecDepth 100000 in
set_option maxHeartbeats 2000000 in
theorem walkr_2_f (w_ h_ mo qu it cl wh : Int) (w : World) (_bw_ : 0 ≤ w_ ∧ w_ ≤ 65535) (_bh_ : 0 ≤ h_ ∧ h_ ≤ 65535) (_bmo : 0 ≤ mo ∧ mo ≤ 255) (_bqu : 0 ≤ qu ∧ qu ≤ 255) (_bit : 0 ≤ it ∧ it ≤ 255) (_bcl : 0 ≤ cl ∧ cl ≤ 255) (_bwh : 0 ≤ wh ∧ wh ≤ 255) (hm : wh % 6 = 2) :
    Calls Try.prog 9 #[.int .u16 w_, .int .u16 h_, .int .u8 mo, .int .u8 qu, .int .u8 it, .int .u8 cl, .int .u8 wh, .bool false] w fun e w' => e = .returned (.bool true) ∧ Below w.heap.size w w' := by
  obtain ⟨a, ha, ra, sa⟩ := modrule (n := w_) (d := 200) _bw_.1 (by omega)
  obtain ⟨b, hb, rb, sb⟩ := modrule (n := h_) (d := 200) _bh_.1 (by omega)
  obtain ⟨d, hd, rd, sd⟩ := modrule (n := mo) (d := 4) _bmo.1 (by omega)
  obtain ⟨e, he, re, se⟩ := modrule (n := qu) (d := 100) _bqu.1 (by omega)
  obtain ⟨f, hf, rf, sf⟩ := modrule (n := it) (d := 9) _bit.1 (by omega)
  obtain ⟨g, hg, rg, sg⟩ := modrule (n := cl) (d := 4) _bcl.1 (by omega)
  obtain ⟨hw1, hw2⟩ : (∀ c : Int, c = 6 → wh % c = 2) ∧ (∀ c : Int, c = 6 → Int.tmod wh c = 2) := ⟨by rintro c rfl; omega, by rintro c rfl; rw [Int.tmod_eq_emod_of_nonneg (by omega)]; omega⟩
  have k1 : checkI (1 + a) (1 + b) 0 (1 + e) (1 + f) g = 11 := ck2 _ _ _ (by omega) (by omega) (by omega)
  have k2 : checkI (1 + a) (1 + b) 0 (1 + e) (1 + f) (-1) = 11 := ck2 _ _ _ (by omega) (by omega) (by omega)
  have k3 := ck6
  clear _bw_ _bh_ _bmo _bit _bcl _bwh hm
  go_enter Try.func9, Try.ntmps9
  go_wp2_with (first
    | (go_at_call 23; refine (known14 _).mono ?_; rintro e W1 ⟨rfl, hb1⟩; obtain ⟨hc1, hf1, hz1⟩ := bcell hb1; try simp at hz1)
    | (go_at_call 29; refine (check_ _ _ _ _ _ _ _).mono ?_; rintro e W1 ⟨rfl, hb1⟩; obtain ⟨hc1, hf1, hz1⟩ := bcell hb1; try simp at hz1))
  all_goals go_ret
  all_goals refine ⟨rfl, ?_⟩
  all_goals (repeat (first | exact gr0 _ | refine gr6 (by assumption) (Nat.le_refl _) ?_ | exact gr0 _ | refine gr1 ?_ _ | refine gr2 ?_ (Later.below _) | refine gr2 ?_ (by assumption) | refine gr3 ?_ | refine gr4 ?_ (by first | (simp; done) | (simp; omega) | omega) _))

set_option maxRecDepth 100000 in
set_option maxHeartbeats 2000000 in
theorem walkr_3_t (w_ h_ mo qu it cl wh : Int) (w : World) (_bw_ : 0 ≤ w_ ∧ w_ ≤ 65535) (_bh_ : 0 ≤ h_ ∧ h_ ≤ 65535) (_bmo : 0 ≤ mo ∧ mo ≤ 255) (_bqu : 0 ≤ qu ∧ qu ≤ 255) (_bit : 0 ≤ it ∧ it ≤ 255) (_bcl : 0 ≤ cl ∧ cl ≤ 255) (_bwh : 0 ≤ wh ∧ wh ≤ 255) (hm : wh % 6 = 3) :
    Calls Try.prog 9 #[.int .u16 w_, .int .u16 h_, .int .u8 mo, .int .u8 qu, .int .u8 it, .int .u8 cl, .int .u8 wh, .bool true] w fun e w' => e = .returned (.bool true) ∧ Below w.heap.size w w' := by
  obtain ⟨a, ha, ra, sa⟩ := modrule (n := w_) (d := 200) _bw_.1 (by omega)
  obtain ⟨b, hb, rb, sb⟩ := modrule (n := h_) (d := 200) _bh_.1 (by omega)
  obtain ⟨d, hd, rd, sd⟩ := modrule (n := mo) (d := 4) _bmo.1 (by omega)
  obtain ⟨e, he, re, se⟩ := modrule (n := qu) (d := 100) _bqu.1 (by omega)
  obtain ⟨f, hf, rf, sf⟩ := modrule (n := it) (d := 9) _bit.1 (by omega)
  obtain ⟨g, hg, rg, sg⟩ := modrule (n := cl) (d := 4) _bcl.1 (by omega)
  obtain ⟨hw1, hw2⟩ : (∀ c : Int, c = 6 → wh % c = 3) ∧ (∀ c : Int, c = 6 → Int.tmod wh c = 3) := ⟨by rintro c rfl; omega, by rintro c rfl; rw [Int.tmod_eq_emod_of_nonneg (by omega)]; omega⟩
  have k1 : checkI (1 + a) (1 + b) (1 + d) 65536 (1 + f) g = 12 := ck3 _ _ (by omega) (by omega) (by omega) (by omega)
  have k2 : checkI (1 + a) (1 + b) (1 + d) 65536 (1 + f) (-1) = 12 := ck3 _ _ (by omega) (by omega) (by omega) (by omega)
  have k3 := ck6
  clear _bw_ _bh_ _bmo _bit _bcl _bwh hm
  go_enter Try.func9, Try.ntmps9
  go_wp2_with (first
    | (go_at_call 23; refine (known14 _).mono ?_; rintro e W1 ⟨rfl, hb1⟩; obtain ⟨hc1, hf1, hz1⟩ := bcell hb1; try simp at hz1)
    | (go_at_call 29; refine (check_ _ _ _ _ _ _ _).mono ?_; rintro e W1 ⟨rfl, hb1⟩; obtain ⟨hc1, hf1, hz1⟩ := bcell hb1; try simp at hz1))
  all_goals go_ret
  all_goals refine ⟨rfl, ?_⟩
  all_goals (repeat (first | exact gr0 _ | refine gr6 (by assumption) (Nat.le_refl _) ?_ | exact gr0 _ | refine gr1 ?_ _ | refine gr2 ?_ (Later.below _) | refine gr2 ?_ (by assumption) | refine gr3 ?_ | refine gr4 ?_ (by first | (simp; done) | (simp; omega) | omega) _))

set_option maxRecDepth 100000 in
set_option maxHeartbeats 2000000 in
theorem walkr_3_f (w_ h_ mo qu it cl wh : Int) (w : World) (_bw_ : 0 ≤ w_ ∧ w_ ≤ 65535) (_bh_ : 0 ≤ h_ ∧ h_ ≤ 65535) (_bmo : 0 ≤ mo ∧ mo ≤ 255) (_bqu : 0 ≤ qu ∧ qu ≤ 255) (_bit : 0 ≤ it ∧ it ≤ 255) (_bcl : 0 ≤ cl ∧ cl ≤ 255) (_bwh : 0 ≤ wh ∧ wh ≤ 255) (hm : wh % 6 = 3) :
    Calls Try.prog 9 #[.int .u16 w_, .int .u16 h_, .int .u8 mo, .int .u8 qu, .int .u8 it, .int .u8 cl, .int .u8 wh, .bool false] w fun e w' => e = .returned (.bool true) ∧ Below w.heap.size w w' := by
  obtain ⟨a, ha, ra, sa⟩ := modrule (n := w_) (d := 200) _bw_.1 (by omega)
  obtain ⟨b, hb, rb, sb⟩ := modrule (n := h_) (d := 200) _bh_.1 (by omega)
  obtain ⟨d, hd, rd, sd⟩ := modrule (n := mo) (d := 4) _bmo.1 (by omega)
  obtain ⟨e, he, re, se⟩ := modrule (n := qu) (d := 100) _bqu.1 (by omega)
  obtain ⟨f, hf, rf, sf⟩ := modrule (n := it) (d := 9) _bit.1 (by omega)
  obtain ⟨g, hg, rg, sg⟩ := modrule (n := cl) (d := 4) _bcl.1 (by omega)
  obtain ⟨hw1, hw2⟩ : (∀ c : Int, c = 6 → wh % c = 3) ∧ (∀ c : Int, c = 6 → Int.tmod wh c = 3) := ⟨by rintro c rfl; omega, by rintro c rfl; rw [Int.tmod_eq_emod_of_nonneg (by omega)]; omega⟩
  have k1 : checkI (1 + a) (1 + b) (1 + d) 0 (1 + f) g = 12 := ck3 _ _ (by omega) (by omega) (by omega) (by omega)
  have k2 : checkI (1 + a) (1 + b) (1 + d) 0 (1 + f) (-1) = 12 := ck3 _ _ (by omega) (by omega) (by omega) (by omega)
  have k3 := ck6
  clear _bw_ _bh_ _bmo _bit _bcl _bwh hm
  go_enter Try.func9, Try.ntmps9
  go_wp2_with (first
    | (go_at_call 23; refine (known14 _).mono ?_; rintro e W1 ⟨rfl, hb1⟩; obtain ⟨hc1, hf1, hz1⟩ := bcell hb1; try simp at hz1)
    | (go_at_call 29; refine (check_ _ _ _ _ _ _ _).mono ?_; rintro e W1 ⟨rfl, hb1⟩; obtain ⟨hc1, hf1, hz1⟩ := bcell hb1; try simp at hz1))
  all_goals go_ret
  all_goals refine ⟨rfl, ?_⟩
  all_goals (repeat (first | exact gr0 _ | refine gr6 (by assumption) (Nat.le_refl _) ?_ | exact gr0 _ | refine gr1 ?_ _ | refine gr2 ?_ (Later.below _) | refine gr2 ?_ (by assumption) | refine gr3 ?_ | refine gr4 ?_ (by first | (simp; done) | (simp; omega) | omega) _))

set_option maxRecDepth 100000 in
set_option maxHeartbeats 2000000 in
theorem walkr_4_t (w_ h_ mo qu it cl wh : Int) (w : World) (_bw_ : 0 ≤ w_ ∧ w_ ≤ 65535) (_bh_ : 0 ≤ h_ ∧ h_ ≤ 65535) (_bmo : 0 ≤ mo ∧ mo ≤ 255) (_bqu : 0 ≤ qu ∧ qu ≤ 255) (_bit : 0 ≤ it ∧ it ≤ 255) (_bcl : 0 ≤ cl ∧ cl ≤ 255) (_bwh : 0 ≤ wh ∧ wh ≤ 255) (hm : wh % 6 = 4) :
    Calls Try.prog 9 #[.int .u16 w_, .int .u16 h_, .int .u8 mo, .int .u8 qu, .int .u8 it, .int .u8 cl, .int .u8 wh, .bool true] w fun e w' => e = .returned (.bool true) ∧ Below w.heap.size w w' := by
  obtain ⟨a, ha, ra, sa⟩ := modrule (n := w_) (d := 200) _bw_.1 (by omega)
  obtain ⟨b, hb, rb, sb⟩ := modrule (n := h_) (d := 200) _bh_.1 (by omega)
  obtain ⟨d, hd, rd, sd⟩ := modrule (n := mo) (d := 4) _bmo.1 (by omega)
  obtain ⟨e, he, re, se⟩ := modrule (n := qu) (d := 100) _bqu.1 (by omega)
  obtain ⟨f, hf, rf, sf⟩ := modrule (n := it) (d := 9) _bit.1 (by omega)
  obtain ⟨g, hg, rg, sg⟩ := modrule (n := cl) (d := 4) _bcl.1 (by omega)
  obtain ⟨hw1, hw2⟩ : (∀ c : Int, c = 6 → wh % c = 4) ∧ (∀ c : Int, c = 6 → Int.tmod wh c = 4) := ⟨by rintro c rfl; omega, by rintro c rfl; rw [Int.tmod_eq_emod_of_nonneg (by omega)]; omega⟩
  have k1 : checkI (1 + a) (1 + b) (1 + d) (1 + e) 65536 g = 13 := ck4 _ (by omega) (by omega) (by omega) (by omega) (by omega)
  have k2 : checkI (1 + a) (1 + b) (1 + d) (1 + e) 65536 (-1) = 13 := ck4 _ (by omega) (by omega) (by omega) (by omega) (by omega)
  have k3 := ck6
  clear _bw_ _bh_ _bmo _bit _bcl _bwh hm
  go_enter Try.func9, Try.ntmps9
  go_wp2_with (first
    | (go_at_call 23; refine (known14 _).mono ?_; rintro e W1 ⟨rfl, hb1⟩; obtain ⟨hc1, hf1, hz1⟩ := bcell hb1; try simp at hz1)
    | (go_at_call 29; refine (check_ _ _ _ _ _ _ _).mono ?_; rintro e W1 ⟨rfl, hb1⟩; obtain ⟨hc1, hf1, hz1⟩ := bcell hb1; try simp at hz1))
  all_goals go_ret
  all_goals refine ⟨rfl, ?_⟩
  all_goals (repeat (first | exact gr0 _ | refine gr6 (by assumption) (Nat.le_refl _) ?_ | exact gr0 _ | refine gr1 ?_ _ | refine gr2 ?_ (Later.below _) | refine gr2 ?_ (by assumption) | refine gr3 ?_ | refine gr4 ?_ (by first | (simp; done) | (simp; omega) | omega) _))

set_option maxRecDepth 100000 in
set_option maxHeartbeats 2000000 in
theorem walkr_4_f (w_ h_ mo qu it cl wh : Int) (w : World) (_bw_ : 0 ≤ w_ ∧ w_ ≤ 65535) (_bh_ : 0 ≤ h_ ∧ h_ ≤ 65535) (_bmo : 0 ≤ mo ∧ mo ≤ 255) (_bqu : 0 ≤ qu ∧ qu ≤ 255) (_bit : 0 ≤ it ∧ it ≤ 255) (_bcl : 0 ≤ cl ∧ cl ≤ 255) (_bwh : 0 ≤ wh ∧ wh ≤ 255) (hm : wh % 6 = 4) :
    Calls Try.prog 9 #[.int .u16 w_, .int .u16 h_, .int .u8 mo, .int .u8 qu, .int .u8 it, .int .u8 cl, .int .u8 wh, .bool false] w fun e w' => e = .returned (.bool true) ∧ Below w.heap.size w w' := by
  obtain ⟨a, ha, ra, sa⟩ := modrule (n := w_) (d := 200) _bw_.1 (by omega)
  obtain ⟨b, hb, rb, sb⟩ := modrule (n := h_) (d := 200) _bh_.1 (by omega)
  obtain ⟨d, hd, rd, sd⟩ := modrule (n := mo) (d := 4) _bmo.1 (by omega)
  obtain ⟨e, he, re, se⟩ := modrule (n := qu) (d := 100) _bqu.1 (by omega)
  obtain ⟨f, hf, rf, sf⟩ := modrule (n := it) (d := 9) _bit.1 (by omega)
  obtain ⟨g, hg, rg, sg⟩ := modrule (n := cl) (d := 4) _bcl.1 (by omega)
  obtain ⟨hw1, hw2⟩ : (∀ c : Int, c = 6 → wh % c = 4) ∧ (∀ c : Int, c = 6 → Int.tmod wh c = 4) := ⟨by rintro c rfl; omega, by rintro c rfl; rw [Int.tmod_eq_emod_of_nonneg (by omega)]; omega⟩
  have k1 : checkI (1 + a) (1 + b) (1 + d) (1 + e) 0 g = 13 := ck4 _ (by omega) (by omega) (by omega) (by omega) (by omega)
  have k2 : checkI (1 + a) (1 + b) (1 + d) (1 + e) 0 (-1) = 13 := ck4 _ (by omega) (by omega) (by omega) (by omega) (by omega)
  have k3 := ck6
  clear _bw_ _bh_ _bmo _bit _bcl _bwh hm
  go_enter Try.func9, Try.ntmps9
  go_wp2_with (first
    | (go_at_call 23; refine (known14 _).mono ?_; rintro e W1 ⟨rfl, hb1⟩; obtain ⟨hc1, hf1, hz1⟩ := bcell hb1; try simp at hz1)
    | (go_at_call 29; refine (check_ _ _ _ _ _ _ _).mono ?_; rintro e W1 ⟨rfl, hb1⟩; obtain ⟨hc1, hf1, hz1⟩ := bcell hb1; try simp at hz1))
  all_goals go_ret
  all_goals refine ⟨rfl, ?_⟩
  all_goals (repeat (first | exact gr0 _ | refine gr6 (by assumption) (Nat.le_refl _) ?_ | exact gr0 _ | refine gr1 ?_ _ | refine gr2 ?_ (Later.below _) | refine gr2 ?_ (by assumption) | refine gr3 ?_ | refine gr4 ?_ (by first | (simp; done) | (simp; omega) | omega) _))

set_option maxRecDepth 100000 in
set_option maxHeartbeats 2000000 in
theorem walkr_5_t (w_ h_ mo qu it cl wh : Int) (w : World) (_bw_ : 0 ≤ w_ ∧ w_ ≤ 65535) (_bh_ : 0 ≤ h_ ∧ h_ ≤ 65535) (_bmo : 0 ≤ mo ∧ mo ≤ 255) (_bqu : 0 ≤ qu ∧ qu ≤ 255) (_bit : 0 ≤ it ∧ it ≤ 255) (_bcl : 0 ≤ cl ∧ cl ≤ 255) (_bwh : 0 ≤ wh ∧ wh ≤ 255) (hm : wh % 6 = 5) :
    Calls Try.prog 9 #[.int .u16 w_, .int .u16 h_, .int .u8 mo, .int .u8 qu, .int .u8 it, .int .u8 cl, .int .u8 wh, .bool true] w fun e w' => e = .returned (.bool true) ∧ Below w.heap.size w w' := by
  obtain ⟨a, ha, ra, sa⟩ := modrule (n := w_) (d := 200) _bw_.1 (by omega)
  obtain ⟨b, hb, rb, sb⟩ := modrule (n := h_) (d := 200) _bh_.1 (by omega)
  obtain ⟨d, hd, rd, sd⟩ := modrule (n := mo) (d := 4) _bmo.1 (by omega)
  obtain ⟨e, he, re, se⟩ := modrule (n := qu) (d := 100) _bqu.1 (by omega)
  obtain ⟨f, hf, rf, sf⟩ := modrule (n := it) (d := 9) _bit.1 (by omega)
  obtain ⟨g, hg, rg, sg⟩ := modrule (n := cl) (d := 4) _bcl.1 (by omega)
  obtain ⟨hw1, hw2⟩ : (∀ c : Int, c = 6 → wh % c = 5) ∧ (∀ c : Int, c = 6 → Int.tmod wh c = 5) := ⟨by rintro c rfl; omega, by rintro c rfl; rw [Int.tmod_eq_emod_of_nonneg (by omega)]; omega⟩
  have k1 : checkI (1 + a) (1 + b) (1 + d) (1 + e) (1 + f) 65535 = 14 := ck5  (by omega) (by omega) (by omega) (by omega) (by omega) (by omega)
  have k2 : checkI (1 + a) (1 + b) (1 + d) (1 + e) (1 + f) (-1) = 14 := ck5  (by omega) (by omega) (by omega) (by omega) (by omega) (by omega)
  have k3 := ck6
  clear _bw_ _bh_ _bmo _bit _bcl _bwh hm
  go_enter Try.func9, Try.ntmps9
  go_wp2_with (first
    | (go_at_call 23; refine (known14 _).mono ?_; rintro e W1 ⟨rfl, hb1⟩; obtain ⟨hc1, hf1, hz1⟩ := bcell hb1; try simp at hz1)
    | (go_at_call 29; refine (check_ _ _ _ _ _ _ _).mono ?_; rintro e W1 ⟨rfl, hb1⟩; obtain ⟨hc1, hf1, hz1⟩ := bcell hb1; try simp at hz1))
  all_goals go_ret
  all_goals refine ⟨rfl, ?_⟩
  all_goals (repeat (first | exact gr0 _ | refine gr6 (by assumption) (Nat.le_refl _) ?_ | exact gr0 _ | refine gr1 ?_ _ | refine gr2 ?_ (Later.below _) | refine gr2 ?_ (by assumption) | refine gr3 ?_ | refine gr4 ?_ (by first | (simp; done) | (simp; omega) | omega) _))

set_option maxRecDepth 100000 in
set_option maxHeartbeats 2000000 in
theorem walkr_5_f (w_ h_ mo qu it cl wh : Int) (w : World) (_bw_ : 0 ≤ w_ ∧ w_ ≤ 65535) (_bh_ : 0 ≤ h_ ∧ h_ ≤ 65535) (_bmo : 0 ≤ mo ∧ mo ≤ 255) (_bqu : 0 ≤ qu ∧ qu ≤ 255) (_bit : 0 ≤ it ∧ it ≤ 255) (_bcl : 0 ≤ cl ∧ cl ≤ 255) (_bwh : 0 ≤ wh ∧ wh ≤ 255) (hm : wh % 6 = 5) :
    Calls Try.prog 9 #[.int .u16 w_, .int .u16 h_, .int .u8 mo, .int .u8 qu, .int .u8 it, .int .u8 cl, .int .u8 wh, .bool false] w fun e w' => e = .returned (.bool true) ∧ Below w.heap.size w w' := by
  obtain ⟨a, ha, ra, sa⟩ := modrule (n := w_) (d := 200) _bw_.1 (by omega)
  obtain ⟨b, hb, rb, sb⟩ := modrule (n := h_) (d := 200) _bh_.1 (by omega)
  obtain ⟨d, hd, rd, sd⟩ := modrule (n := mo) (d := 4) _bmo.1 (by omega)
  obtain ⟨e, he, re, se⟩ := modrule (n := qu) (d := 100) _bqu.1 (by omega)
  obtain ⟨f, hf, rf, sf⟩ := modrule (n := it) (d := 9) _bit.1 (by omega)
  obtain ⟨g, hg, rg, sg⟩ := modrule (n := cl) (d := 4) _bcl.1 (by omega)
  obtain ⟨hw1, hw2⟩ : (∀ c : Int, c = 6 → wh % c = 5) ∧ (∀ c : Int, c = 6 → Int.tmod wh c = 5) := ⟨by rintro c rfl; omega, by rintro c rfl; rw [Int.tmod_eq_emod_of_nonneg (by omega)]; omega⟩
  have k1 : checkI (1 + a) (1 + b) (1 + d) (1 + e) (1 + f) (-1) = 14 := ck5  (by omega) (by omega) (by omega) (by omega) (by omega) (by omega)
  have k3 := ck6
  clear _bw_ _bh_ _bmo _bit _bcl _bwh hm
  go_enter Try.func9, Try.ntmps9
  go_wp2_with (first
    | (go_at_call 23; refine (known14 _).mono ?_; rintro e W1 ⟨rfl, hb1⟩; obtain ⟨hc1, hf1, hz1⟩ := bcell hb1; try simp at hz1)
    | (go_at_call 29; refine (check_ _ _ _ _ _ _ _).mono ?_; rintro e W1 ⟨rfl, hb1⟩; obtain ⟨hc1, hf1, hz1⟩ := bcell hb1; try simp at hz1))
  all_goals go_ret
  all_goals refine ⟨rfl, ?_⟩
  all_goals (repeat (first | exact gr0 _ | refine gr6 (by assumption) (Nat.le_refl _) ?_ | exact gr0 _ | refine gr1 ?_ _ | refine gr2 ?_ (Later.below _) | refine gr2 ?_ (by assumption) | refine gr3 ?_ | refine gr4 ?_ (by first | (simp; done) | (simp; omega) | omega) _))

theorem walk_SlotRefuses (w_ h_ mo qu it cl wh : Int) (bad : Bool) (w : World) (_bw_ : 0 ≤ w_ ∧ w_ ≤ 65535) (_bh_ : 0 ≤ h_ ∧ h_ ≤ 65535) (_bmo : 0 ≤ mo ∧ mo ≤ 255) (_bqu : 0 ≤ qu ∧ qu ≤ 255) (_bit : 0 ≤ it ∧ it ≤ 255) (_bcl : 0 ≤ cl ∧ cl ≤ 255) (_bwh : 0 ≤ wh ∧ wh ≤ 255) :
    Calls Try.prog 9 #[.int .u16 w_, .int .u16 h_, .int .u8 mo, .int .u8 qu, .int .u8 it, .int .u8 cl, .int .u8 wh, .bool bad] w fun e w' => e = .returned (.bool true) ∧ Below w.heap.size w w' := by
  rcases (show wh % 6 = 0 ∨ wh % 6 = 1 ∨ wh % 6 = 2 ∨ wh % 6 = 3 ∨ wh % 6 = 4 ∨ wh % 6 = 5 by omega) with h | h | h | h | h | h
  all_goals cases bad
  · exact walkr_0_f w_ h_ mo qu it cl wh w _bw_ _bh_ _bmo _bqu _bit _bcl _bwh h
  · exact walkr_0_t w_ h_ mo qu it cl wh w _bw_ _bh_ _bmo _bqu _bit _bcl _bwh h
  · exact walkr_1_f w_ h_ mo qu it cl wh w _bw_ _bh_ _bmo _bqu _bit _bcl _bwh h
  · exact walkr_1_t w_ h_ mo qu it cl wh w _bw_ _bh_ _bmo _bqu _bit _bcl _bwh h
  · exact walkr_2_f w_ h_ mo qu it cl wh w _bw_ _bh_ _bmo _bqu _bit _bcl _bwh h
  · exact walkr_2_t w_ h_ mo qu it cl wh w _bw_ _bh_ _bmo _bqu _bit _bcl _bwh h
  · exact walkr_3_f w_ h_ mo qu it cl wh w _bw_ _bh_ _bmo _bqu _bit _bcl _bwh h
  · exact walkr_3_t w_ h_ mo qu it cl wh w _bw_ _bh_ _bmo _bqu _bit _bcl _bwh h
  · exact walkr_4_f w_ h_ mo qu it cl wh w _bw_ _bh_ _bmo _bqu _bit _bcl _bwh h
  · exact walkr_4_t w_ h_ mo qu it cl wh w _bw_ _bh_ _bmo _bqu _bit _bcl _bwh h
  · exact walkr_5_f w_ h_ mo qu it cl wh w _bw_ _bh_ _bmo _bqu _bit _bcl _bwh h
  · exact walkr_5_t w_ h_ mo qu it cl wh w _bw_ _bh_ _bmo _bqu _bit _bcl _bwh h

end Go.Proofs.Ytdpiikpodcanjaa
