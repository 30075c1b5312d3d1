/- Two tables are the same; QuantTables: the walk: it returns true. -/
import Derived.Test.YtgegmlhpdpdnfaaDoorKnown09
import Derived.Test.YtgegmlhpdpdnfaaDoorQuantR
namespace Go.Proofs.YtgegmlhpdpdnfaaDoor
open Go.RowKit

set_option maxRecDepth 100000 in
set_option maxHeartbeats 2000000 in
theorem tables_ (part quality : Int) (w : World) (hT : Tabs w) :
    Calls Tryd.prog 8 #[.int .i64 part, .int .i64 quality] w fun e w' => e = .returned (.bool true) ∧ Below w.heap.size w w' := by
  have HT : Hid (Tabs w) := hT
  clear hT
  go_enter Tryd.func8, Tryd.ntmps8
  go_wp2_with (first | (go_at_call 9; refine (table_ _ _ _ HT.out).mono ?_; rintro e W1 ⟨g, rfl, hb1, hg1, hh1⟩) | (go_at_call 10; refine (rtable_ _ _ _).mono ?_; rintro e W2 ⟨v, rfl, hb2, ho2⟩; rcases ho2.2 with ⟨_, hn⟩ | ⟨g2, c2, cur2, rfl, hg2, hh2, _⟩; (focus exact absurd hn (by decide))))
  have HB0 : Below w.heap.size w W2 := gr2 hb1 hb2
  have hh3 := at_be hh1 hb2
  clear hb1 hb2 hh1
  go_loopg [7] 64 (fun gj i wr => ∃ jj : Nat, jj + gj = 64 ∧ i = .int .i64 jj ∧ Below W2.heap.size W2 wr)
  case atStart => exact ⟨0, rfl, rfl, Below.refl _ _⟩
  case round =>
    obtain ⟨i, hi, rfl, HB⟩ := hrel
    have hi9 : (0 : Int) ≤ i := by omega
    by_cases hlt : i < 64
    · have t1 : decide ((i : Int) < 64) = true := by simp; omega
      have b1 : wr.cell? ⟨g, i, none⟩ = some (.int .i64 (tabI part quality i)) := (HB.cell (p := ⟨g, i, none⟩) (heap_lt hh3)).trans (row_cell hh3 hlt)
      have b2 : wr.cell? ⟨g2, i, none⟩ = some (.int .i64 (tabI part quality i)) := (HB.cell (p := ⟨g2, i, none⟩) (heap_lt hh2)).trans (own_cell ho2 (rowL_at _ hlt))
      have z1 : g < wr.heap.size := Nat.lt_of_lt_of_le (heap_lt hh3) HB.size
      have z2 : g2 < wr.heap.size := Nat.lt_of_lt_of_le (heap_lt hh2) HB.size
      have HX : Hid (Below W2.heap.size W2 wr) := HB
      clear HB hh3 hh2 ho2
      generalize tabI part quality i = x at b1 b2
      go_wp2_with (fail)
      refine wp_region_calm (by kernel_rfl) (by kernel_rfl) ?_
      (repeat (first | go_big_quiet_step (fail) | quiet_step (fail)))
      refine wpQuiet_nil ?_
      intro u
      have hzu := u.below.size
      try simp at hzu
      go_wp2
      go_roundg (64 - (i + 1))
      case measure => omega
      case rel => exact ⟨i + 1, by omega, by go_num, gr2 HX.out u.below⟩
    · have hk64 : i = 64 := by omega
      subst hk64
      have t1 : decide (((64 : Nat) : Int) < 64) = false := rfl
      go_wp2
      go_ret
      exact ⟨rfl, gr2 HB0 HB⟩

theorem modQ {n d : Int} (h0 : 0 ≤ n) (hd : 0 < d) : ∃ a : Int, (0 ≤ a ∧ a ≤ d - 1) ∧ (∀ c : Int, c = d → n % c = a) ∧ (∀ c : Int, c = d → Int.tmod n c = a) := by
  have h1 := Int.emod_nonneg n (by omega : d ≠ 0)
  have h2 := Int.emod_lt_of_pos n hd
  refine ⟨n % d, by omega, ?_, ?_⟩
  · rintro c rfl; rfl
  · rintro c rfl; exact Int.tmod_eq_emod_of_nonneg h0

set_option maxRecDepth 100000 in
set_option maxHeartbeats 2000000 in
theorem walk_QuantTables (i part quality k j : Int) (w : World) (hT : Tabs w) (_bi : -9223372036854775808 ≤ i ∧ i ≤ 9223372036854775807) (_bp : -9223372036854775808 ≤ part ∧ part ≤ 9223372036854775807) (_bq : -9223372036854775808 ≤ quality ∧ quality ≤ 9223372036854775807) (_bk : 0 ≤ k ∧ k ≤ 255) (_bj : 0 ≤ j ∧ j ≤ 255) :
    Calls Tryd.prog 3 #[.int .i64 i, .int .i64 part, .int .i64 quality, .int .u8 k, .int .u8 j] w fun e w' => e = .returned (.bool true) ∧ Below w.heap.size w w' := by
  obtain ⟨a, ha, r1, r2⟩ := modQ (n := k) (d := 70) _bk.1 (by omega)
  obtain ⟨b, hb, r3, r4⟩ := modQ (n := k) (d := 3) _bk.1 (by omega)
  obtain ⟨d, hd, r5, r6⟩ := modQ (n := j) (d := 104) _bj.1 (by omega)
  clear _bk _bj
  go_enter Tryd.func3, Tryd.ntmps3
  go_wp2_with (first | (go_at_call 5; refine (known09 _ (by assumption)).mono ?_; rintro e Wn ⟨rfl, hbn⟩; have hTn := Tabs.below (by assumption) hbn; obtain ⟨hcn, hfn, hzn⟩ := bcell hbn) | (go_at_call 6; refine (zig_ _ _ (by assumption)).mono ?_; rintro e Wn ⟨rfl, hbn⟩; have hTn := Tabs.below (by assumption) hbn; obtain ⟨hcn, hfn, hzn⟩ := bcell hbn) | (go_at_call 7; refine (rzig_ _ _).mono ?_; rintro e Wn ⟨rfl, hbn⟩; have hTn := Tabs.below (by assumption) hbn; obtain ⟨hcn, hfn, hzn⟩ := bcell hbn) | (go_at_call 8; refine (tables_ _ _ _ (by assumption)).mono ?_; rintro e Wn ⟨rfl, hbn⟩; have hTn := Tabs.below (by assumption) hbn; obtain ⟨hcn, hfn, hzn⟩ := bcell hbn))
  go_ret
  refine ⟨rfl, ?_⟩
  repeat (first | exact gr0 _ | refine gr2 ?_ (by assumption))

end Go.Proofs.YtgegmlhpdpdnfaaDoor
