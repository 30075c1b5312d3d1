/- The document's own events: Add, Same, Count; what is laid as choices say. -/
import Derived.Test.YtbdnnkokkgdhnaaKnown02
import Derived.Test.YtbdnnkokkgdhnaaTraceO
import Derived.Maps.AppendAt
import Derived.OwnWalk
namespace Go.Proofs.Ytbdnnkokkgdhnaa
open Go.RowKit

def vb (v : Value) : List Nat := v.ownBlock.toList
theorem Evs.keep {n0 : Nat} {W W' : World} {v : Value} {E : List Ev} (h : Evs n0 W v E) (hk : ∀ x ∈ vb v, W'.heap[x]? = W.heap[x]?) : Evs n0 W' v E := own_at h fun g hg => hk g (by simp [vb, hg])
theorem Evs.below {n0 : Nat} {W W' : World} {v : Value} {E : List Ev} (h : Evs n0 W v E) (hb : Below W.heap.size W W') : Evs n0 W' v E := h.keep fun x hx => hb.block x (by
  simp only [vb, Option.mem_toList] at hx; exact (World.ownsRow.lt h x hx).2)
theorem Evs.low {n0 n1 : Nat} {W : World} {v : Value} {E : List Ev} (h : Evs n0 W v E) (hn : n1 ≤ n0) : Evs n1 W v E := by
  refine ⟨h.1, ?_⟩
  rcases h.2 with h0 | ⟨g, c, cur, hv, hb, r⟩
  · exact .inl h0
  · exact .inr ⟨g, c, cur, hv, Nat.le_trans hn hb, r⟩
theorem evc_one (E : List Ev) : ∀ u ∈ evc E, u.oneCell' = true := fun u hu => by
  simp only [evc, List.mem_flatMap] at hu
  obtain ⟨e, _, hu⟩ := hu
  simp at hu
  rcases hu with rfl | rfl <;> rfl
theorem Evs.lt {n0 : Nat} {W : World} {v : Value} {E : List Ev} (h : Evs n0 W v E) : ∀ x ∈ vb v, n0 ≤ x ∧ x < W.heap.size := fun x hx => by
  simp only [vb, Option.mem_toList] at hx; exact World.ownsRow.lt h x hx

set_option maxRecDepth 100000 in
set_option maxHeartbeats 4000000 in
theorem radd_ {W : World} {n0 : Nat} {v : Value} {E : List Ev} (h : Evs n0 W v E) (hE : E.length ≤ 1000000) (k x : Int) :
    Calls Try.prog 54 #[v, .int .i64 k, .int .i64 x] W fun e W' => ∃ v', e = .returned v' ∧ Evs W.heap.size W' v' (E ++ [(k, x)]) ∧ Below W.heap.size W W' := by
  obtain ⟨i0, hi, hz0, hz1, hz2⟩ := info_parts info_ev
  have LAST : ∀ (w1 : World) (v1 : Value), Evs W.heap.size w1 v1 E → Below W.heap.size W w1 → ∀ v' w', w'.ownsRow W.heap.size 81 2 v' (E.length + 1) (evc E ++ [.int .i64 k, .int .i64 x]) → (w1.alloc (.cells #[.int .i64 k, .int .i64 x] 81)).grownBy w' v1.ownBlock → Evs W.heap.size w' v' (E ++ [(k, x)]) ∧ Below W.heap.size W w' := fun w1 v1 e1 b1 v' w' ho hg => by
    refine ⟨by unfold Evs; rw [List.length_append, List.length_singleton, evc_snoc]; exact ho, ?_⟩
    exact (b1.alloc b1.size _).grown hg (by have := b1.size; simp; omega) (fun q hq => (e1.lt q (by simp [vb, hq.symm])).1)
  have hown := h
  unfold Evs at hown
  rcases h.2 with ⟨rfl, h0⟩ | ⟨g, cap, cur, rfl, _, hh, _⟩
  · have hE0 : E = [] := List.eq_nil_of_length_eq_zero h0
    subst hE0
    go_enter Try.func54, Try.ntmps54
    go_wp2_with (at_builtin; refine wpList_append_own_at _ rfl _ _ 32 rfl W.heap.size 81 i0 _ 2 16 Try.underlying32 hi hz0 hz1 hz2 rfl (by decide) (.slice none 0 0) 0 [] rfl (World.ownsRow_nil _ _ _ _) ⟨W.heap.size, 0, none⟩ 1 1 [.int .i64 k, .int .i64 x] rfl rfl (World.news_of_block (cs := #[.int .i64 k, .int .i64 x]) (heap_alloc_new _ _)) (by simp [Value.oneCell']) (by have h9 : maxLen = 9223372036854775807 := rfl; omega) (by omega) (by simp) ?_; intro v' w1 hown' hgrow _ _; have HL := LAST W (.slice none 0 0) (World.ownsRow_nil _ _ _ _) (gr0 _) v' w1 hown' hgrow; obtain ⟨g', cap', rfl⟩ := ownsRow_succ hown')
    go_ret
    exact ⟨_, rfl, HL⟩
  · have cells := World.ownsRow.cells hown (g := g) rfl
    go_enter Try.func54, Try.ntmps54
    go_wp2_with (first
      | (at_builtin; refine wpList_append_own_at _ rfl _ _ 32 rfl W.heap.size 81 i0 _ 2 16 Try.underlying32 hi hz0 hz1 hz2 rfl (by decide) v1 E.length (evc E) rfl (hown1.alloc _) ⟨w1.heap.size, 0, none⟩ 1 1 [.int .i64 k, .int .i64 x] rfl rfl (World.news_of_block (cs := #[.int .i64 k, .int .i64 x]) (heap_alloc_new _ _)) (by simp [Value.oneCell']) (by have h9 : maxLen = 9223372036854775807 := rfl; omega) (by omega) (by have := hb1.size; simp; omega) ?_; intro v' w2 hown' hgrow _ _; have HL := LAST w1 v1 hown1 hb1 v' w2 hown' hgrow; obtain ⟨g', cap', rfl⟩ := ownsRow_succ hown')
      | (at_builtin; (refine wpList_append_own_at _ rfl _ _ 32 rfl W.heap.size 81 i0 _ 2 16 Try.underlying32 hi hz0 hz1 hz2 rfl (by decide) (.slice none 0 0) 0 [] rfl (World.ownsRow_nil _ _ _ _) ⟨g, 0, none⟩ E.length cap (evc E) rfl (evc_len E) cells (evc_one E) (by have h9 : maxLen = 9223372036854775807 := rfl; omega) (by omega) (Nat.le_refl _) ?_; intro v1 w1 hown1' hgrow1 _ _; have hown1 : w1.ownsRow W.heap.size 81 2 v1 E.length (evc E) := (by simpa using hown1'); have hb1 : Below W.heap.size W w1 := (gr0 W).grown hgrow1 (Nat.le_refl _) (fun q hq => nomatch hq))))
    go_ret
    exact ⟨_, rfl, HL⟩

set_option maxRecDepth 100000 in
set_option maxHeartbeats 4000000 in
theorem rsame_ {W : World} {n0 n1 : Nat} {v1 v2 : Value} {E1 E2 : List Ev} (h1 : Evs n0 W v1 E1) (h2 : Evs n1 W v2 E2) (hn1 : E1.length ≤ 1000000) (_hn2 : E2.length ≤ 1000000) :
    Calls Try.prog 31 #[v1, v2] W fun e W' => e = .returned (.bool (decide (E1 = E2))) ∧ Below W.heap.size W W' := by
  obtain ⟨q1, c1, rfl, r1⟩ := h1.form
  obtain ⟨q2, c2, rfl, r2⟩ := h2.form
  clear h1 h2
  by_cases hl : E1.length = E2.length
  · have HE : Hid2 (∀ j, j ≥ E1.length → E1[j]? = E2[j]?) := fun j hj => by rw [List.getElem?_eq_none hj, List.getElem?_eq_none (by omega)]
    have HG : Hid2 (∀ j, j < E1.length → ∃ x y, E1[j]? = some x ∧ E2[j]? = some y) := fun j hj => ⟨E1[j], E2[j], by simp, by simp⟩
    rw [← hl]
    generalize E1.length = n at *
    clear hl _hn2
    have hn : (n : Int) ≤ 1000000 := by omega
    have R1 := hid2 r1
    have R2 := hid2 r2
    clear r1 r2
    go_enter Try.func31, Try.ntmps31
    go_wp2
    go_loopg [5] n (fun gj i wr => ∃ jj : Nat, jj + gj = n ∧ i = .int .i64 jj ∧ Below W.heap.size W wr ∧ Hid2 (∀ j, j < jj → E1[j]? = E2[j]?))
    case atStart => exact ⟨0, Nat.zero_add _, rfl, gr0 _, fun j hj => by omega⟩
    case round =>
      obtain ⟨i, hi, rfl, HB, HS⟩ := hrel
      by_cases hlt : i < n
      · have t1 : decide ((i : Int) < n) = true := by simp; omega
        obtain ⟨⟨xa, xb⟩, ⟨ya, yb⟩, hx, hy⟩ := HG.out i hlt
        obtain ⟨g1, rfl, _, z1, d1, d2⟩ := R1.out i _ hx
        obtain ⟨g2, rfl, _, z2, d3, d4⟩ := R2.out i _ hy
        have b1 := (HB.cell (p := ⟨g1, i * 2, none⟩) z1).trans d1
        have b2 := (HB.cell (p := ⟨g1, i * 2 + 1, none⟩) z1).trans d2
        have b3 := (HB.cell (p := ⟨g2, i * 2, none⟩) z2).trans d3
        have b4 := (HB.cell (p := ⟨g2, i * 2 + 1, none⟩) z2).trans d4
        have hi9 : (0 : Int) ≤ i := by omega
        have hi8 : (i : Int) < n := by omega
        have z3 : g1 < wr.heap.size := Nat.lt_of_lt_of_le z1 HB.size
        have z4 : g2 < wr.heap.size := Nat.lt_of_lt_of_le z2 HB.size
        have HX : Hid2 (Below W.heap.size W wr) := HB
        have HY : Hid2 (E1[i]? = some (xa, xb) ∧ E2[i]? = some (ya, yb)) := ⟨hx, hy⟩
        clear HB hx hy d1 d2 d3 d4
        dsimp only at b1 b2 b3 b4
        by_cases hxy : xa = ya ∧ xb = yb
        · obtain ⟨rfl, rfl⟩ := hxy
          go_wp2_with (fail)
          refine wp_region_calm (by kernel_rfl) (by kernel_rfl) ?_
          (repeat (first | go_big_quiet_step (fail) | quiet_step (fail)))
          refine wpQuiet_nil ?_
          intro u
          go_wp2
          go_roundg (n - (i + 1))
          case measure => omega
          case rel =>
            refine ⟨i + 1, by omega, by go_num, gr2 HX.out u.below, fun j hj => ?_⟩
            rcases Nat.lt_or_ge j i with h | h
            · exact HS.out j h
            · have : j = i := by omega
              subst this
              rw [HY.out.1, HY.out.2]
        · have hne : decide (E1 = E2) = false := decide_eq_false (fun e : E1 = E2 => hxy (by have h := HY.out; rw [e, h.2] at h; have h3 := Option.some.inj h.1; cases h3; exact ⟨rfl, rfl⟩))
          have HN := hid2 hne
          clear hne
          by_cases hxa : xa = ya
          · subst hxa
            have hxb : ¬ xb = yb := fun h => hxy ⟨rfl, h⟩
            have e1 : (xb == yb) = false := by simpa using hxb
            have e2 : decide (xb = yb) = false := by simpa using hxb
            clear hxy
            go_wp2_with (fail)
            refine wp_region_calm (by kernel_rfl) (by kernel_rfl) ?_
            (repeat (first | go_big_quiet_step (fail) | quiet_step (fail)))
            refine wpQuiet_nil ?_
            intro u
            go_wp2
            go_ret
            refine ⟨?_, gr2 HX.out u.below⟩
            rw [HN.out]
            rfl
          · have e1 : (xa == ya) = false := by simpa using hxa
            have e2 : decide (xa = ya) = false := by simpa using hxa
            clear hxy
            go_wp2_with (fail)
            refine wp_region_calm (by kernel_rfl) (by kernel_rfl) ?_
            (repeat (first | go_big_quiet_step (fail) | quiet_step (fail)))
            refine wpQuiet_nil ?_
            intro u
            go_wp2
            go_ret
            refine ⟨?_, gr2 HX.out u.below⟩
            rw [HN.out]
            rfl
      · have t1 : decide ((i : Int) < n) = false := by simp; omega
        have hin : i = n := by omega
        have HX : Hid2 (Below W.heap.size W wr) := HB
        clear HB
        go_wp2
        go_ret
        refine ⟨?_, HX.out⟩
        rw [decide_eq_true (List.ext_getElem? fun j => by
          rcases Nat.lt_or_ge j n with h | h
          · exact HS.out j (by omega)
          · exact HE.out j h)]
        rfl
  · have e0 : ((E1.length : Int) == (E2.length : Int)) = false := by simp; omega
    have e1 : ((E1.length : Int) != (E2.length : Int)) = true := by simp; omega
    have e2 : decide ((E1.length : Int) = (E2.length : Int)) = false := by simp; omega
    have hne : decide (E1 = E2) = false := decide_eq_false (fun e => hl (by rw [e]))
    rw [hne]
    generalize E1.length = m1 at *
    generalize E2.length = m2 at *
    clear r1 r2
    go_enter Try.func31, Try.ntmps31
    go_wp2
    go_ret
    exact ⟨rfl, gr0 _⟩


end Go.Proofs.Ytbdnnkokkgdhnaa
