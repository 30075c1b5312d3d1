/- Steps of choices. -/
import Derived.Test.YtkaoajfdbjlioaaDoorQuantF
namespace Go.Proofs.YtkaoajfdbjlioaaDoor
open Go.RowKit

def stI (cs : Nat → Int) (n : Nat) (i : Nat) : Int := if n = 0 then 1 + i else 1 + (cs (i % n) + (i / n : Nat)) % 255
theorem st_in {cs : Nat → Int} {n : Nat} : ∀ i, i < 64 → 1 ≤ stI cs n i ∧ stI cs n i ≤ 255 := by
  intro i hi
  unfold stI
  split <;> omega
theorem st_num {cs : Nat → Int} {n i m d : Nat} (hi : i < 64) (hn : 0 < n) (hm : m = i % n) (hd : d = i / n) (hc : 0 ≤ cs m ∧ cs m ≤ 255) :
    ((0 : Int) ≤ m ∧ (m : Int) < n) ∧ ((0 : Int) ≤ d ∧ (d : Int) ≤ 63) ∧ (∀ c : Int, c = n → Int.tmod (i : Int) c = m) ∧ (∀ c : Int, c = n → Int.tdiv (i : Int) c = d) ∧ ∃ x e : Int, cs m = x ∧ (0 ≤ x ∧ x ≤ 255) ∧ (0 ≤ e ∧ e ≤ 254) ∧ (∀ c : Int, c = 255 → Int.tmod (x + d) c = e) ∧ 1 + e = stI cs n i := by
  have h1 := Nat.mod_lt i hn
  have h2 := Nat.div_le_self i n
  refine ⟨by omega, by omega, ?_, ?_, cs m, (cs m + d) % 255, rfl, hc, by omega, ?_, ?_⟩
  · rintro c rfl; rw [Int.tmod_eq_emod_of_nonneg (by omega), hm]; rfl
  · rintro c rfl; rw [Int.tdiv_eq_ediv_of_nonneg (by omega), hd]; rfl
  · rintro c rfl; exact Int.tmod_eq_emod_of_nonneg (by omega)
  · unfold stI; rw [if_neg (by omega), hm, hd]

set_option maxRecDepth 100000 in
set_option maxHeartbeats 2000000 in
theorem steps_0 (p : Option Addr) (cap : Nat) (cs : Nat → Int) (w : World) :
    Calls Tryd.prog 22 #[.slice p 0 cap] w fun e w' => ∃ v, e = .returned v ∧ Below w.heap.size w w' ∧ Stp v (stI cs 0) w' := by
  go_enter Tryd.func22, Tryd.ntmps22
  go_wp2
  go_loopg [3, 4] 64 (fun gj v9 i wr => ∃ jj : Nat, jj + gj = 64 ∧ i = .int .i64 jj ∧ Below w.heap.size w wr ∧ wr.ownsRow w.heap.size 3 1 v9 jj (rowL (stI cs 0) jj))
  case atStart => exact ⟨0, rfl, rfl, Below.refl _ _, World.ownsRow_nil _ _ _ _⟩
  case round =>
    obtain ⟨i, hi, rfl, HB, hown⟩ := hrel
    by_cases hlt : i < 64
    · have t1 : decide ((i : Int) < 64) = true := by simp; omega
      have hi9 : (0 : Int) ≤ i ∧ (i : Int) < 64 := by omega
      have z1 := HB.size
      rcases hown.2 with ⟨hn, hn0⟩ | ⟨g9, c9, cur9, hv9, hn9⟩
      · subst hn
        clear hn0
        have HX : Hid (Below w.heap.size w wr ∧ 1 + (i : Int) = stI cs 0 i) := ⟨HB, by unfold stI; rw [if_pos rfl]⟩
        clear HB
        go_wp2_with (at_builtin; apply append_int w.heap.size (.tmp 30) (.tmp 32) rfl rfl (hs := rfl) (hx := rfl); (case hown => exact own_alloc hown); (case hgv => first | exact .inl rfl | exact .inr ⟨rfl, rfl⟩); (case hu => exact new_cell (by simp)); (case hn => omega); (case hbase => (try simp); omega); intro g5 c5 w5 hown5 hbg5 hl5 hs5 ho5 hlow5 hc5 hf5; (try simp at hs5))
        go_roundg (64 - (i + 1))
        case measure => omega
        case rel =>
          obtain ⟨HB, he⟩ := HX.out
          refine ⟨i + 1, by omega, by go_num, gr6 hlow5 (Nat.le_refl _) (gr1 HB _), ?_⟩
          rw [rowL_succ, ← he]
          exact hown5
      · subst hv9
        clear hn9
        have HX : Hid (Below w.heap.size w wr ∧ 1 + (i : Int) = stI cs 0 i) := ⟨HB, by unfold stI; rw [if_pos rfl]⟩
        clear HB
        go_wp2_with (at_builtin; apply append_int w.heap.size (.tmp 30) (.tmp 32) rfl rfl (hs := rfl) (hx := rfl); (case hown => exact own_alloc hown); (case hgv => first | exact .inl rfl | exact .inr ⟨rfl, rfl⟩); (case hu => exact new_cell (by simp)); (case hn => omega); (case hbase => (try simp); omega); intro g5 c5 w5 hown5 hbg5 hl5 hs5 ho5 hlow5 hc5 hf5; (try simp at hs5))
        go_roundg (64 - (i + 1))
        case measure => omega
        case rel =>
          obtain ⟨HB, he⟩ := HX.out
          refine ⟨i + 1, by omega, by go_num, gr6 hlow5 (Nat.le_refl _) (gr1 HB _), ?_⟩
          rw [rowL_succ, ← he]
          exact hown5
    · have hk64 : i = 64 := by omega
      subst hk64
      have t1 : decide (((64 : Nat) : Int) < 64) = false := rfl
      go_wp2
      go_ret
      exact ⟨_, rfl, HB, stp_own hown st_in⟩

set_option maxRecDepth 100000 in
set_option maxHeartbeats 2000000 in
theorem steps_n (cb co n cap : Nat) (cs : Nat → Int) (w : World) (hn : 0 < n) (hn2 : n ≤ 9223372036854775807) (hcb : cb < w.heap.size) (hc : ∀ i, i < n → w.cell? ⟨cb, co + i, none⟩ = some (.int .u8 (cs i))) (hcs : ∀ i, i < n → 0 ≤ cs i ∧ cs i ≤ 255) :
    Calls Tryd.prog 22 #[.slice (some ⟨cb, co, none⟩) n cap] w fun e w' => ∃ v, e = .returned v ∧ Below w.heap.size w w' ∧ Stp v (stI cs n) w' := by
  go_enter Tryd.func22, Tryd.ntmps22
  go_wp2
  go_loopg [3, 4] 64 (fun gj v9 i wr => ∃ jj : Nat, jj + gj = 64 ∧ i = .int .i64 jj ∧ Below w.heap.size w wr ∧ wr.ownsRow w.heap.size 3 1 v9 jj (rowL (stI cs n) jj))
  case atStart => exact ⟨0, rfl, rfl, Below.refl _ _, World.ownsRow_nil _ _ _ _⟩
  case round =>
    obtain ⟨i, hi, rfl, HB, hown⟩ := hrel
    by_cases hlt : i < 64
    · have t1 : decide ((i : Int) < 64) = true := by simp; omega
      have hi9 : (0 : Int) ≤ i ∧ (i : Int) < 64 := by omega
      have z1 := HB.size
      rcases hown.2 with ⟨hn, hn0⟩ | ⟨g9, c9, cur9, hv9, hn9⟩
      · subst hn
        clear hn0
        obtain ⟨m, hm⟩ : ∃ m, m = i % n := ⟨_, rfl⟩
        obtain ⟨d, hd⟩ : ∃ d, d = i / n := ⟨_, rfl⟩
        have hmn : m < n := by rw [hm]; exact Nat.mod_lt i hn
        obtain ⟨hm9, hd9, m1, d1, x, e, hx, x9, e9, r1, hv⟩ := st_num hlt hn hm hd (hcs m hmn)
        have hcm := (HB.cell (p := ⟨cb, co + m, none⟩) hcb).trans (hc m hmn)
        rw [hx] at hcm
        have hcb1 : cb < wr.heap.size := by omega
        have t2 : decide ((0 : Int) < n) = true := by simp; omega
        have n0 : ((n : Int) == 0) = false := by simp; omega
        have hn9 : (n : Int) ≠ 0 := by omega
        have hn7 : n ≠ 0 := by omega
        have hn6 : (n == 0) = false := by simp; omega
        have HX : Hid (Below w.heap.size w wr ∧ 1 + e = stI cs n i) := ⟨HB, hv⟩
        clear HB hc hcs hm hd hx hv
        go_wp2_with (fail)
        refine wp_region_calm (by kernel_rfl) (by kernel_rfl) ?_
        (repeat (first | go_big_quiet_step (fail) | quiet_step (fail)))
        refine wpQuiet_nil ?_
        intro u
        have hzu := u.below.size
        try simp at hzu
        go_wp2_with (at_builtin; apply append_int w.heap.size (.tmp 30) (.tmp 32) rfl rfl (hs := rfl) (hx := rfl); (case hown => exact own_alloc (own_later hown)); (case hgv => first | exact .inl rfl | exact .inr ⟨rfl, rfl⟩); (case hu => exact new_cell (by simp)); (case hn => omega); (case hbase => (try simp); omega); intro g5 c5 w5 hown5 hbg5 hl5 hs5 ho5 hlow5 hc5 hf5; (try simp at hs5))
        go_roundg (64 - (i + 1))
        case measure => omega
        case rel =>
          obtain ⟨HB, he⟩ := HX.out
          refine ⟨i + 1, by omega, by go_num, gr6 hlow5 (Nat.le_refl _) (gr1 (gr2 HB u.below) _), ?_⟩
          rw [rowL_succ, ← he]
          exact hown5
      · subst hv9
        clear hn9
        obtain ⟨m, hm⟩ : ∃ m, m = i % n := ⟨_, rfl⟩
        obtain ⟨d, hd⟩ : ∃ d, d = i / n := ⟨_, rfl⟩
        have hmn : m < n := by rw [hm]; exact Nat.mod_lt i hn
        obtain ⟨hm9, hd9, m1, d1, x, e, hx, x9, e9, r1, hv⟩ := st_num hlt hn hm hd (hcs m hmn)
        have hcm := (HB.cell (p := ⟨cb, co + m, none⟩) hcb).trans (hc m hmn)
        rw [hx] at hcm
        have hcb1 : cb < wr.heap.size := by omega
        have t2 : decide ((0 : Int) < n) = true := by simp; omega
        have n0 : ((n : Int) == 0) = false := by simp; omega
        have hn9 : (n : Int) ≠ 0 := by omega
        have hn7 : n ≠ 0 := by omega
        have hn6 : (n == 0) = false := by simp; omega
        have HX : Hid (Below w.heap.size w wr ∧ 1 + e = stI cs n i) := ⟨HB, hv⟩
        clear HB hc hcs hm hd hx hv
        go_wp2_with (fail)
        refine wp_region_calm (by kernel_rfl) (by kernel_rfl) ?_
        (repeat (first | go_big_quiet_step (fail) | quiet_step (fail)))
        refine wpQuiet_nil ?_
        intro u
        have hzu := u.below.size
        try simp at hzu
        go_wp2_with (at_builtin; apply append_int w.heap.size (.tmp 30) (.tmp 32) rfl rfl (hs := rfl) (hx := rfl); (case hown => exact own_alloc (own_later hown)); (case hgv => first | exact .inl rfl | exact .inr ⟨rfl, rfl⟩); (case hu => exact new_cell (by simp)); (case hn => omega); (case hbase => (try simp); omega); intro g5 c5 w5 hown5 hbg5 hl5 hs5 ho5 hlow5 hc5 hf5; (try simp at hs5))
        go_roundg (64 - (i + 1))
        case measure => omega
        case rel =>
          obtain ⟨HB, he⟩ := HX.out
          refine ⟨i + 1, by omega, by go_num, gr6 hlow5 (Nat.le_refl _) (gr1 (gr2 HB u.below) _), ?_⟩
          rw [rowL_succ, ← he]
          exact hown5
    · have hk64 : i = 64 := by omega
      subst hk64
      have t1 : decide (((64 : Nat) : Int) < 64) = false := rfl
      go_wp2
      go_ret
      exact ⟨_, rfl, HB, stp_own hown st_in⟩

theorem steps_ {v : Value} {n : Nat} {cs : Nat → Int} {w : World} (H : Bytes v n cs w) :
    Calls Tryd.prog 22 #[v] w fun e w' => ∃ v, e = .returned v ∧ Below w.heap.size w w' ∧ Stp v (stI cs n) w' := by
  obtain ⟨h1, h2, h3⟩ := H
  rcases h3 with ⟨rfl, p, cap, rfl⟩ | ⟨h, cb, co, cap, rfl, hl, hc⟩
  · exact steps_0 p cap cs w
  · exact steps_n cb co n cap cs w h h2 hl hc h1

end Go.Proofs.YtkaoajfdbjlioaaDoor
