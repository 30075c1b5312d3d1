/- TraceCounts: the walk: it returns true. -/
import Derived.Test.YtgoflehojioedaaLayW
namespace Go.Proofs.Ytgoflehojioedaa
open Go.RowKit

def brs (ns : Nat → Int) (n : Nat) : List Ev := (List.range n).map fun i => (2, ns i)
theorem brs_succ (ns : Nat → Int) (n : Nat) : brs ns (n + 1) = brs ns n ++ [(2, ns n)] := by simp [brs, List.range_succ]
theorem brs_len (ns : Nat → Int) (n : Nat) : (brs ns n).length = n := by simp [brs]
def Kinds3 (E : List Ev) : Prop := ∀ e ∈ E, e.1 = 1 ∨ e.1 = 2 ∨ e.1 = 3
theorem sev_kinds (ks ns : Nat → Int) (n : Nat) : Kinds3 (sev ks ns n) := fun e he => by
  simp only [sev, List.mem_map] at he
  obtain ⟨i, _, rfl⟩ := he
  unfold evOf
  split
  · exact .inl rfl
  · split
    · exact .inr (.inl rfl)
    · exact .inr (.inr rfl)
theorem brs_kinds (ns : Nat → Int) (n : Nat) : Kinds3 (brs ns n) := fun e he => by
  simp only [brs, List.mem_map] at he
  obtain ⟨i, _, rfl⟩ := he
  exact .inr (.inl rfl)
theorem cnt_kinds {E : List Ev} (h : Kinds3 E) : cnt E 1 + cnt E 2 + cnt E 3 = E.length ∧ cnt E 0 = 0 ∧ cnt E 4 = 0 := by
  induction E using snoc_ind with
  | h0 => exact ⟨rfl, rfl, rfl⟩
  | h1 l x ih =>
    obtain ⟨a, b, c⟩ := ih fun e he => h e (by simp [he])
    have hx := h x (by simp)
    simp only [cnt_snoc, List.length_append, List.length_singleton]
    rcases hx with hx | hx | hx <;> rw [hx] <;> simp <;> omega

set_option maxRecDepth 100000 in
set_option maxHeartbeats 4000000 in
theorem walk_TraceCounts (va : Value) (n : Nat) (ka na : Nat → Int) (vb' : Value) (m : Nat) (kb nb : Nat → Int) (w : World) (Ha : Sns va n ka na w) (Hb : Sns vb' m kb nb w) (hn : n ≤ 8796093022208) (hm : m ≤ 8796093022208) :
    Calls Try.prog 9 #[va, vb'] w fun e w' => e = .returned (.bool true) ∧ Below w.heap.size w w' := by
  have HA := hid2 Ha
  have HB := hid2 Hb
  obtain ⟨qa, ca, rfl⟩ := Ha.form
  obtain ⟨qb, cb, rfl⟩ := Hb.form
  clear Ha Hb
  have hn0 : (0 : Int) ≤ n := by omega
  have hm0 : (0 : Int) ≤ m := by omega
  have hn1 : (n : Int) ≤ 8796093022208 := by omega
  have hm1 : (m : Int) ≤ 8796093022208 := by omega
  by_cases hle : n + m ≤ 100
  · have t1 : decide ((100 : Int) < (n : Int) + m) = false := by simp; omega
    have hA : n ≤ 100 := by omega
    have hB : m ≤ 100 := by omega
    go_enter Try.func9, Try.ntmps9
    go_wp2_with (first
      | (go_at_call 41; (with_reducible refine (lay_ HA.out hA).mono ?_); rintro e w1 ⟨ve, rfl, H1, E1⟩; have H1 := H1.less (Y := []) (fun x hx => (nomatch hx)); generalize hAe : sev ka na n = A at *; have hAn : A.length = n := (by rw [← hAe, sev_len]); have la : A.length ≤ 100 := (by omega); have ka3 : Kinds3 A := (by rw [← hAe]; exact sev_kinds _ _ _); obtain ⟨gg, hgg⟩ : ∃ g, g = w.heap.size := ⟨_, rfl⟩; have HG := hid2 hgg; rw [← hgg] at H1 ⊢; clear hgg hAe E1)
      | (go_at_call 42; (with_reducible refine (eventsp_ H1.rn (by omega)).mono ?_); rintro e w2 ⟨v5, rfl, V5, hb2⟩; have H2 := one_vb H1 hb2 V5; clear H1))
    have H9 : One w w2 gg (pst (A ++ brs nb 0)) (vb v5) := by simpa [brs] using H2
    obtain ⟨q5, c5, hq5, V5f⟩ := V5.form
    rw [hAn] at hq5
    have HV := hid2 hq5
    have HAn := hid2 hAn
    obtain ⟨n5, hn5⟩ : ∃ k, k = w1.heap.size := ⟨_, rfl⟩
    rw [← hn5] at V5
    have HV5 := hid2 V5f
    clear H2 hb2 hn5 V5f hAn hq5
    go_loopg [8] m (fun gj i wr => ∃ jj : Nat, jj + gj = m ∧ i = .int .i64 jj ∧ One w wr gg (pst (A ++ brs nb jj)) (vb v5) ∧ Evs n5 wr v5 A)
    case atStart => exact ⟨0, Nat.zero_add _, rfl, H9, V5⟩
    case round =>
      clear H9 V5
      obtain ⟨i, hi, rfl, HO, HE⟩ := hrel
      have hi9 : (0 : Int) ≤ i := by omega
      have hi7 : (i : Int) ≤ 100 := by omega
      have HO2 := hid2 HO
      have HE2 := hid2 HE
      by_cases hlt : i < m
      · have t1 : decide ((i : Int) < m) = true := by simp; omega
        have hi8 : (i : Int) < m := by omega
        obtain ⟨hbb, q, cq, hvq, hcq⟩ := HB.out
        cases hvq
        obtain ⟨cb', co, rfl, hz, _, d2⟩ := hcq i hlt
        have b2 := (HO.below.cell (p := ⟨cb', co + i * 2 + 1, none⟩) hz).trans d2
        have z1 : cb' < wr.heap.size := Nat.lt_of_lt_of_le hz HO.below.size
        have kI := (hbb i hlt).2
        have hle2 : (A ++ brs nb i).length ≤ 1000000 := by rw [List.length_append, brs_len]; omega
        have HS := hid2 (brs_succ nb i)
        generalize hxx : nb i = xx at *
        clear hbb hcq HO HE hxx d2
        go_wp2_with (go_at_call 43; (with_reducible refine (brp_1 HO2.out hle2 xx kI).mono ?_); rintro e w5 ⟨rfl, H5, k5⟩)
        go_roundg (m - (i + 1))
        case measure => omega
        case rel => exact ⟨i + 1, by omega, by go_num, by rw [HS.out, ← List.append_assoc]; exact H5, HE2.out.keep k5.blk⟩
      · have t1 : decide ((i : Int) < m) = false := by simp; omega
        have hin : i = m := by omega
        subst hin
        generalize hBe : brs nb i = B at *
        have hBl : B.length = i := by rw [← hBe, brs_len]
        have kb3 : Kinds3 B := by rw [← hBe]; exact brs_kinds _ _
        have lab : (A ++ B).length ≤ 1000000 := by rw [List.length_append]; omega
        have hABl : (A ++ B).length = n + i := by rw [List.length_append, HAn.out, hBl]
        obtain ⟨cn1, cn2, cn3⟩ := cnt_kinds (E := A ++ B) (fun e he => by rcases List.mem_append.1 he with h | h; exact ka3 e h; exact kb3 e h)
        rw [hABl] at cn1
        clear HO HE hBe
        have x1 : (0 : Int) ≤ cnt (A ++ B) 1 ∧ (cnt (A ++ B) 1 : Int) ≤ 100 := by omega
        have x2 : (0 : Int) ≤ cnt (A ++ B) 2 ∧ (cnt (A ++ B) 2 : Int) ≤ 100 := by omega
        have x3 : (0 : Int) ≤ cnt (A ++ B) 3 ∧ (cnt (A ++ B) 3 : Int) ≤ 100 := by omega
        have s1 : ((cnt (A ++ B) 1 : Int) + cnt (A ++ B) 2 + cnt (A ++ B) 3 == (n : Int) + i) = true := by rw [beq_iff_eq]; omega
        have hn7 : (n : Int) ≤ 100 := by omega
        rw [HV.out]
        go_wp2_with (go_at_call 42; (with_reducible refine (eventsp_ HO2.out.rn lab).mono ?_); rintro e w6 ⟨v6, rfl, V6, hb6⟩; obtain ⟨q6, c6, hq6, V6f⟩ := V6.form; subst hq6; rw [hABl]; have HV6 := hid2 V6f; have H7 := HO2.out.calm hb6; have E7 := HE2.out.below hb6; clear V6 V6f)
        obtain ⟨q7, c7, hq7, V7f⟩ := E7.form
        rw [HV.out] at hq7
        injection hq7 with e1 e2 e3
        rw [← e1] at V7f
        have HV7 := hid2 V7f
        have HO7 := hid2 H7
        have HC1 := hid2 cn1
        have HC2 := hid2 cn2
        have HC3 := hid2 cn3
        clear e1 e2 e3 H7 E7 V7f HO2 HE2 HV HV5 hABl cn1 cn2 cn3
        go_loopg [10] n (fun gj k wr => ∃ jj : Nat, jj + gj = n ∧ k = .int .i64 jj ∧ Below w6.heap.size w6 wr)
        case atStart => exact ⟨0, Nat.zero_add _, rfl, gr0 _⟩
        case round =>
          obtain ⟨k, hk, rfl, HBk⟩ := hrel
          have hk9 : (0 : Int) ≤ k := by omega
          have hk7 : (k : Int) ≤ 100 := by omega
          by_cases hlk : k < n
          · have t2 : decide ((k : Int) < n) = true := by simp; omega
            have hk8 : (k : Int) < n := by omega
            have hk6 : (k : Int) < (n : Int) + i := by omega
            have hkA : k < A.length := by rw [HAn.out]; exact hlk
            obtain ⟨⟨xa, xb⟩, hx⟩ : ∃ x, A[k]? = some x := ⟨A[k], by simp⟩
            obtain ⟨g1, rfl, _, z1, d1, d2⟩ := HV7.out k _ hx
            obtain ⟨g2, rfl, _, z2, d3, d4⟩ := HV6.out k _ ((List.getElem?_append_left hkA).trans hx)
            have b1 := (HBk.cell (p := ⟨g1, k * 2, none⟩) z1).trans d1
            have b2 := (HBk.cell (p := ⟨g1, k * 2 + 1, none⟩) z1).trans d2
            have b3 := (HBk.cell (p := ⟨g2, k * 2, none⟩) z2).trans d3
            have b4 := (HBk.cell (p := ⟨g2, k * 2 + 1, none⟩) z2).trans d4
            have z3 := Nat.lt_of_lt_of_le z1 HBk.size
            have z4 := Nat.lt_of_lt_of_le z2 HBk.size
            have HX := hid2 HBk
            clear HBk hx d1 d2 d3 d4 hkA
            dsimp only at b1 b2 b3 b4
            go_wp2_with (fail)
            refine wp_region_calm (by kernel_rfl) (by kernel_rfl) ?_
            (repeat (first | go_big_quiet_step (fail) | quiet_step (fail)))
            refine wpQuiet_nil ?_
            intro u
            go_wp2
            go_roundg (n - (k + 1))
            case measure => omega
            case rel => exact ⟨k + 1, by omega, by go_num, gr2 HX.out u.below⟩
          · have t2 : decide ((k : Int) < n) = false := by simp; omega
            have HR := hid2 HO7.out.rn
            go_wp2_with (first
              | (go_at_call 40; (with_reducible refine (known02 _).mono ?_); rintro e w20 ⟨rfl, hb20⟩; have k0 := gr2 HBk hb20)
              | (go_at_call 44; (with_reducible refine (countp_ (HR.out.below k0) lab 1).mono ?_); rintro e w21 ⟨rfl, hb21⟩; have k1 := gr2 k0 hb21)
              | (go_at_call 44; (with_reducible refine (countp_ (HR.out.below k1) lab 2).mono ?_); rintro e w22 ⟨rfl, hb22⟩; have k2 := gr2 k1 hb22)
              | (go_at_call 44; (with_reducible refine (countp_ (HR.out.below k2) lab 3).mono ?_); rintro e w23 ⟨rfl, hb23⟩; have k3 := gr2 k2 hb23)
              | (go_at_call 44; (with_reducible refine (countp_ (HR.out.below k3) lab 0).mono ?_); rintro e w24 ⟨rfl, hb24⟩; have k4 := gr2 k3 hb24; rw [HC2.out])
              | (go_at_call 44; (with_reducible refine (countp_ (HR.out.below k4) lab 4).mono ?_); rintro e w25 ⟨rfl, hb25⟩; have k5 := gr2 k4 hb25; rw [HC3.out]))
            go_ret
            exact ⟨rfl, gr2 HO7.out.below k5⟩
  · have t1 : decide ((100 : Int) < (n : Int) + m) = true := by simp; omega
    go_enter Try.func9, Try.ntmps9
    go_wp2_with (first
      | (go_at_call 40; (with_reducible refine (known02 w).mono ?_); rintro e w0 ⟨rfl, hb0⟩))
    go_ret
    exact ⟨rfl, hb0⟩
end Go.Proofs.Ytgoflehojioedaa
