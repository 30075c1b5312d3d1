/- What is laid as choices say: a recorder, and the document's events. -/
import Derived.Test.YtgoflehojioedaaLay
import Derived.Deep.LoopGhost
namespace Go.Proofs.Ytgoflehojioedaa
open Go.RowKit

/-- Choices: n pairs of a kind and a number. -/
def Sns (v : Value) (n : Nat) (ks ns : Nat → Int) (w : World) : Prop := (∀ i, i < n → (0 ≤ ks i ∧ ks i ≤ 255) ∧ I64 (ns i)) ∧ ∃ q c, v = .slice q n c ∧ ∀ i, i < n → ∃ cb co, q = some ⟨cb, co, none⟩ ∧ cb < w.heap.size ∧ w.cell? ⟨cb, co + i * 2, none⟩ = some (.int .u8 (ks i)) ∧ w.cell? ⟨cb, co + i * 2 + 1, none⟩ = some (.int .i64 (ns i))
theorem Sns.below {v : Value} {n : Nat} {ks ns : Nat → Int} {w w' : World} (h : Sns v n ks ns w) (hb : Below w.heap.size w w') : Sns v n ks ns w' := by
  obtain ⟨h1, q, c, hv, h2⟩ := h
  refine ⟨h1, q, c, hv, fun i hi => ?_⟩
  obtain ⟨cb, co, hq, hz, h3, h4⟩ := h2 i hi
  exact ⟨cb, co, hq, Nat.lt_of_lt_of_le hz hb.size, (hb.cell (p := ⟨cb, co + i * 2, none⟩) hz).trans h3, (hb.cell (p := ⟨cb, co + i * 2 + 1, none⟩) hz).trans h4⟩
def evOf (k x : Int) : Ev := if k % 3 = 0 then (1, x) else if k % 3 = 1 then (2, x) else (3, 0)
def sev (ks ns : Nat → Int) (n : Nat) : List Ev := (List.range n).map fun i => evOf (ks i) (ns i)
theorem sev_succ (ks ns : Nat → Int) (n : Nat) : sev ks ns (n + 1) = sev ks ns n ++ [evOf (ks n) (ns n)] := by simp [sev, List.range_succ]
theorem sev_len (ks ns : Nat → Int) (n : Nat) : (sev ks ns n).length = n := by simp [sev]
theorem evOf_ok {k x : Int} (hx : I64 x) : EvOk (evOf k x) := by
  unfold evOf
  split
  · exact ⟨⟨(by decide : (0 : Int) ≤ 1), (by decide : (1 : Int) ≤ 3)⟩, hx⟩
  · split
    · exact ⟨⟨(by decide : (0 : Int) ≤ 2), (by decide : (2 : Int) ≤ 3)⟩, hx⟩
    · exact ⟨by decide, by unfold I64; decide⟩
theorem sev_ok {ks ns : Nat → Int} {n : Nat} (h : ∀ i, i < n → I64 (ns i)) : ∀ e ∈ sev ks ns n, EvOk e := fun e he => by
  simp only [sev, List.mem_map, List.mem_range] at he
  obtain ⟨i, hi, rfl⟩ := he
  exact evOf_ok (h i hi)
theorem one_vb {w0 W W' : World} {g : Nat} {S : St} {X : List Nat} {v : Value} {E : List Ev} (k : One w0 W g S X) (hb : Below W.heap.size W W') (he : Evs W.heap.size W' v E) : One w0 W' g S (vb v) := by
  cases hv : v.ownBlock with
  | none => exact (k.calm hb).less (fun x hx => by simp [vb, hv] at hx)
  | some b =>
    obtain ⟨h1, h2⟩ := he.lt b (by simp [vb, hv])
    exact (k.more hb b h1 h2).less (fun x hx => by simp [vb, hv] at hx; simp [hx])
theorem two_vb {w0 W W' : World} {g h : Nat} {S R : St} {X : List Nat} {v : Value} {E : List Ev} (k : Two w0 W g S h R X) (hb : Below W.heap.size W W') (he : Evs W.heap.size W' v E) : Two w0 W' g S h R (vb v ++ X) := by
  cases hv : v.ownBlock with
  | none => exact (k.calm hb).less (fun x hx => by simpa [vb, hv] using hx)
  | some b =>
    obtain ⟨h1, h2⟩ := he.lt b (by simp [vb, hv])
    exact (k.more hb b h1 h2).less (fun x hx => by simpa [vb, hv] using hx)
/-- A recorder that a calm call has made, beside one that lay there. -/
theorem two_of_ones {w0 W W' : World} {g h : Nat} {S R : St} {X Y : List Nat} (k : One w0 W g S X) (k' : One W W' h R Y) (hY : ∀ x ∈ Y, W.heap.size ≤ x) : Two w0 W' g S h R (Y ++ X) := by
  obtain ⟨fp, h1, h3⟩ := k
  obtain ⟨fq, h2, h4⟩ := k'
  have hb := h4.below
  have hs := h3.below.size
  have lp : ∀ x, x ∈ fp ∨ x ∈ X → x < W.heap.size := fun x hx => h3.lt x (by rcases hx with h | h <;> simp [h])
  have lq : ∀ x ∈ fq, W.heap.size ≤ x := fun x hx => h4.low x (.inl hx)
  refine ⟨fp, fq, h1.below hb, h2, ⟨fun x hx => ?_, fun x hx hy => ?_, fun x hx => ⟨fun hy => ?_, fun hy => ?_⟩, fun x hx => ?_, gr2 h3.below hb⟩⟩
  · rcases hx with hx | hx
    · exact h3.low x (.inl hx)
    · have := lq x hx; omega
  · have := lp x (.inl hx); have := lq x hy; omega
  · rcases List.mem_append.1 hx with hx | hx
    · have := lp x (.inl hy); have := hY x hx; omega
    · exact (h3.px x hx).1 hy
  · rcases List.mem_append.1 hx with hx | hx
    · exact (h4.px x hx).1 hy
    · have := lp x (.inr hx); have := lq x hy; omega
  · rcases hx with hx | hx | hx
    · exact Nat.lt_of_lt_of_le (lp x (.inl hx)) hb.size
    · exact h4.lt x (.inl hx)
    · rcases List.mem_append.1 hx with hx | hx
      · exact h4.lt x (.inr (.inr hx))
      · exact Nat.lt_of_lt_of_le (lp x (.inr hx)) hb.size

set_option maxRecDepth 100000 in
set_option maxHeartbeats 4000000 in
theorem lay_ {W : World} {v : Value} {n : Nat} {ks ns : Nat → Int} (H : Sns v n ks ns W) (hn : n ≤ 100) :
    Calls Try.prog 41 #[v] W fun e W' => ∃ ve, e = .returned (.tuple #[.pointer (some ⟨W.heap.size, 0, none⟩), ve]) ∧ One W W' W.heap.size (pst (sev ks ns n)) (vb ve) ∧ Evs W.heap.size W' ve (sev ks ns n) := by
  obtain ⟨hb0, q, c, rfl, hc0⟩ := H
  have HB0 := hid2 hb0
  have HC0 := hid2 hc0
  clear hb0 hc0
  have hn1 : (n : Int) ≤ 100 := by omega
  go_enter Try.func41, Try.ntmps41
  go_wp2_with (go_at_call 50; refine (new_ W).mono ?_; rintro e w1 ⟨rfl, hw1⟩; have H1 := one_new W; rw [← hw1] at H1; clear hw1)
  obtain ⟨g, hg⟩ : ∃ g, g = W.heap.size := ⟨_, rfl⟩
  rw [← hg] at H1 ⊢
  have HG := hid2 hg
  have H9 : One W w1 g (pst (sev ks ns 0)) (vb (.slice none 0 0)) := H1
  clear H1 hg
  go_loopg [5, 6] n (fun gj ve i wr => ∃ jj : Nat, jj + gj = n ∧ i = .int .i64 jj ∧ One W wr g (pst (sev ks ns jj)) (vb ve) ∧ Evs W.heap.size wr ve (sev ks ns jj))
  case atStart => exact ⟨0, Nat.zero_add _, rfl, H9, World.ownsRow_nil _ _ _ _⟩
  case round =>
    clear H9
    obtain ⟨i, hi, rfl, HO, HE⟩ := hrel
    have hi9 : (0 : Int) ≤ i := by omega
    have hi7 : (i : Int) ≤ 100 := by omega
    have HOh := hid2 HO
    have HEh := hid2 HE
    by_cases hlt : i < n
    · have t1 : decide ((i : Int) < n) = true := by simp; omega
      have hi8 : (i : Int) < n := by omega
      obtain ⟨cb, co, rfl, hz, d1, d2⟩ := HC0.out i hlt
      have hBW := HO.below
      have b1 := (hBW.cell (p := ⟨cb, co + i * 2, none⟩) hz).trans d1
      have b2 := (hBW.cell (p := ⟨cb, co + i * 2 + 1, none⟩) hz).trans d2
      have z1 : cb < wr.heap.size := Nat.lt_of_lt_of_le hz hBW.size
      obtain ⟨⟨k0, k1⟩, kI⟩ := HB0.out i hlt
      have hle : (sev ks ns i).length ≤ 1000000 := by rw [sev_len]; omega
      have HS := hid2 (sev_succ ks ns i)
      generalize hkk : ks i = kk at *
      generalize hxx : ns i = xx at *
      have D1 := hid2 d1
      have D2 := hid2 d2
      clear hkk hxx d1 d2 HO HE
      have h3 : kk % 3 = 0 ∨ kk % 3 = 1 ∨ kk % 3 = 2 := by omega
      rcases h3 with h3 | h3 | h3
      · have r1 : ∀ c : Int, c = 3 → Int.tmod kk c = 0 := by rintro c rfl; rw [Int.tmod_eq_emod_of_nonneg k0, h3]
        have r2 : ∀ c : Int, c = 3 → kk % c = 0 := by rintro c rfl; exact h3
        have HV : Hid2 (evOf kk xx = (1, xx)) := by unfold evOf; show _ = _; rw [h3]; rfl
        clear h3
        go_wp2_with (first
          | (go_at_call 48; with_reducible refine (idxp_1 HOh.out hle xx kI).mono ?_; rintro e w5 ⟨rfl, H5, k5⟩; have b3 := (H5.below.cell (p := ⟨cb, co + i * 2, none⟩) hz).trans D1.out; have b4 := (H5.below.cell (p := ⟨cb, co + i * 2 + 1, none⟩) hz).trans D2.out)
          | (go_at_call 56; with_reducible refine (radd_ (HEh.out.keep k5.blk) hle 1 xx).mono ?_; rintro e w6 ⟨ve2, rfl, HE6, hb6⟩))
        go_roundg (n - (i + 1))
        case measure => omega
        case rel => exact ⟨i + 1, by omega, by go_num, by rw [HS.out, HV.out]; exact one_vb H5 hb6 HE6, by rw [HS.out, HV.out]; exact HE6.low H5.below.size⟩
      · have r1 : ∀ c : Int, c = 3 → Int.tmod kk c = 1 := by rintro c rfl; rw [Int.tmod_eq_emod_of_nonneg k0, h3]
        have r2 : ∀ c : Int, c = 3 → kk % c = 1 := by rintro c rfl; exact h3
        have HV : Hid2 (evOf kk xx = (2, xx)) := by unfold evOf; show _ = _; rw [h3]; rfl
        clear h3
        go_wp2_with (first
          | (go_at_call 43; with_reducible refine (brp_1 HOh.out hle xx kI).mono ?_; rintro e w5 ⟨rfl, H5, k5⟩; have b3 := (H5.below.cell (p := ⟨cb, co + i * 2, none⟩) hz).trans D1.out; have b4 := (H5.below.cell (p := ⟨cb, co + i * 2 + 1, none⟩) hz).trans D2.out)
          | (go_at_call 56; with_reducible refine (radd_ (HEh.out.keep k5.blk) hle 2 xx).mono ?_; rintro e w6 ⟨ve2, rfl, HE6, hb6⟩))
        go_roundg (n - (i + 1))
        case measure => omega
        case rel => exact ⟨i + 1, by omega, by go_num, by rw [HS.out, HV.out]; exact one_vb H5 hb6 HE6, by rw [HS.out, HV.out]; exact HE6.low H5.below.size⟩
      · have r1 : ∀ c : Int, c = 3 → Int.tmod kk c = 2 := by rintro c rfl; rw [Int.tmod_eq_emod_of_nonneg k0, h3]
        have r2 : ∀ c : Int, c = 3 → kk % c = 2 := by rintro c rfl; exact h3
        have HV : Hid2 (evOf kk xx = (3, 0)) := by unfold evOf; show _ = _; rw [h3]; rfl
        clear h3
        go_wp2_with (first
          | (go_at_call 49; with_reducible refine (opensp_1 HOh.out hle).mono ?_; rintro e w5 ⟨rfl, H5, k5⟩; have b3 := (H5.below.cell (p := ⟨cb, co + i * 2, none⟩) hz).trans D1.out; have b4 := (H5.below.cell (p := ⟨cb, co + i * 2 + 1, none⟩) hz).trans D2.out)
          | (go_at_call 56; with_reducible refine (radd_ (HEh.out.keep k5.blk) hle 3 0).mono ?_; rintro e w6 ⟨ve2, rfl, HE6, hb6⟩))
        go_roundg (n - (i + 1))
        case measure => omega
        case rel => exact ⟨i + 1, by omega, by go_num, by rw [HS.out, HV.out]; exact one_vb H5 hb6 HE6, by rw [HS.out, HV.out]; exact HE6.low H5.below.size⟩
    · have hin : i = n := by omega
      have t1 : decide ((i : Int) < n) = false := by simp; omega
      clear HO HE
      subst hin
      go_wp2
      refine bodyPost_ret (results_tmp2 rfl _ _ _) rfl ?_
      refine ⟨u5, by rw [← HG.out]; rfl, HG.out ▸ HOh.out, HEh.out⟩

theorem One.down {w W W' : World} {g : Nat} {S : St} {X : List Nat} (k : One W W' g S X) (hb : Below w.heap.size w W) : One w W' g S X := by
  obtain ⟨fp, h1, h3⟩ := k
  have hs := hb.size
  exact ⟨fp, h1, ⟨fun x hx => Nat.le_trans hs (h3.low x hx), h3.disj, h3.px, h3.lt, gr2 hb h3.below⟩⟩
theorem Sns.form {v : Value} {n : Nat} {ks ns : Nat → Int} {w : World} (h : Sns v n ks ns w) : ∃ q c, v = .slice q n c := by
  obtain ⟨_, q, c, hv, _⟩ := h; exact ⟨q, c, hv⟩
end Go.Proofs.Ytgoflehojioedaa
