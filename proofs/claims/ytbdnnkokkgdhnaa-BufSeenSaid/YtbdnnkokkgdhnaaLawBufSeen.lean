/- BufSeen: the walk: it returns true. -/
import Derived.Test.YtbdnnkokkgdhnaaTwo
import Derived.Test.YtbdnnkokkgdhnaaOf4
import Derived.Test.YtbdnnkokkgdhnaaSched
namespace Go.Proofs.Ytbdnnkokkgdhnaa
open Go.RowKit

theorem lst_I64b {f : Nat → Int} {n : Nat} (h : ∀ i, i < n → (Lit.int .i64 (f i)).wf = true) : ∀ x ∈ lst f n, I64 x := fun x hx => by
  simp only [lst, List.mem_map, List.mem_range] at hx
  obtain ⟨i, hi, rfl⟩ := hx
  have := wfI64 (h i hi)
  unfold I64; omega
def zeros (n : Nat) : Array Value := (List.replicate n (Value.int .i64 0)).toArray
set_option maxRecDepth 100000 in
theorem make_ints (n : Nat) (hn : n ≤ 65536) (W : World) :
    (Instr.makeSlice 36 (.int .i64 (n : Int)) (.int .i64 (n : Int))).run Try.prog W = .ok (.slice (some ⟨W.heap.size, 0, none⟩) n n) (W.alloc (.cells (zeros n) 3)) := by
  obtain ⟨i0, hi, hz0, hz1, hz2⟩ := info_parts info_int
  have h := run_make (P := Try.prog) W 36 3 i0 (.int .i64 0) Try.underlying36 hi hz0 .i64 .i64 (n : Int) (n : Int) (by omega) (by omega) (by rw [hz2]; omega) (by omega)
  rw [h]
  simp only [Int.toNat_natCast, hz1, Nat.mul_one]
  congr 3
  unfold madeCells zeros
  apply Array.ext
  · simp
  · intro i h1 h2
    simp [Value.cells, Nat.mod_one]
theorem nums_zero (n : Nat) (W : World) {g : Nat} (hg : g = W.heap.size) : Nums .i64 (.slice (some ⟨g, 0, none⟩) n n) n (fun _ => 0) (W.alloc (.cells (zeros n) 3)) := by
  subst hg
  exact ⟨fun _ _ => rfl, _, _, rfl, fun i hi => ⟨_, _, rfl, by simp, by simp [alloc_cell_if, zeros, hi]⟩⟩
/-- What is seen of n words where place i is asked. -/
def seeN (n : Nat) (E : List Ev) (i : Int) : List Ev := if 0 ≤ i ∧ i < n then E ++ [(1, i)] else E
theorem seeN_eq {g : Nat} {E : List Ev} {L : List Int} {i : Int} : seeL (some g) E L i = seeN L.length E i := rfl
theorem seeN_len (n : Nat) (E : List Ev) (i : Int) : (seeN n E i).length ≤ E.length + 1 := by unfold seeN; split <;> simp
theorem cnt_app (E F : List Ev) (k : Int) : cnt (E ++ F) k = cnt E k + cnt F k := by simp [cnt]
theorem seeN_cnt (n : Nat) (E : List Ev) (i : Int) : cnt (seeN n E i) 3 = cnt E 3 := by
  unfold seeN
  split
  · rw [cnt_app]; rfl
  · rfl
def evn (n : Nat) (f : Nat → Int) : Nat → List Ev
  | 0 => []
  | j + 1 => seeN n (seeN n (evn n f j) (f j % 50)) (f j / 3)
theorem evn_len (n : Nat) (f : Nat → Int) (j : Nat) : (evn n f j).length ≤ 2 * j := by
  induction j with
  | zero => simp [evn]
  | succ j ih =>
    simp only [evn]
    have h1 := seeN_len n (seeN n (evn n f j) (f j % 50)) (f j / 3)
    have h2 := seeN_len n (evn n f j) (f j % 50)
    omega
theorem evn_cnt (n : Nat) (f : Nat → Int) (j : Nat) : cnt (evn n f j) 3 = 0 := by
  induction j with
  | zero => rfl
  | succ j ih => simp only [evn]; rw [seeN_cnt, seeN_cnt, ih]
def Pair4 (w W : World) (b g c h n : Nat) (E F : List Ev) : Prop := ∃ L M, B2 w W b (some g) E L c (some h) F M [] ∧ (L.length = n ∧ M.length = n) ∧ (∀ y ∈ L, I64 y) ∧ (∀ y ∈ M, I64 y)
theorem Pair4.swap {w W : World} {b g c h n : Nat} {E F : List Ev} (k : Pair4 w W b g c h n E F) : Pair4 w W c h b g n F E := by
  obtain ⟨L, M, k1, ⟨k2, k3⟩, k4, k5⟩ := k
  exact ⟨M, L, k1.swap, ⟨k3, k2⟩, k5, k4⟩
theorem Pair4.calm {w W W' : World} {b g c h n : Nat} {E F : List Ev} (k : Pair4 w W b g c h n E F) (hb : Below W.heap.size W W') : Pair4 w W' b g c h n E F := by
  obtain ⟨L, M, k1, k2⟩ := k
  exact ⟨L, M, k1.calm hb, k2⟩
theorem Pair4.below {w W : World} {b g c h n : Nat} {E F : List Ev} (k : Pair4 w W b g c h n E F) : Below w.heap.size w W := by
  obtain ⟨L, M, k1, k2⟩ := k
  exact k1.below
theorem Pair4.rn {w W : World} {b g c h n : Nat} {E F : List Ev} (k : Pair4 w W b g c h n E F) : Rn W (some ⟨g, 0, none⟩) (pst E) := by
  obtain ⟨L, M, k1, k2⟩ := k
  exact k1.fst.rn
theorem Pair4.bufc {w W : World} {b g c h n : Nat} {E F : List Ev} (k : Pair4 w W b g c h n E F) : ∃ v L, Bufc W b (some g) v L ∧ L.length = n := by
  obtain ⟨L, M, k1, ⟨k2, _⟩, _⟩ := k
  obtain ⟨v, B⟩ := k1.fst.bufc
  exact ⟨v, L, B, k2⟩
theorem getL_I64 {L : List Int} (h : ∀ y ∈ L, I64 y) (i : Int) : I64 (getL L i) := by
  unfold getL
  split
  · rename_i h2
    have hl : i.toNat < L.length := by have := h2.1; have := h2.2; omega
    have e : L.getD i.toNat 0 = L[i.toNat] := by simp [List.getD, hl]
    rw [e]; exact h _ (List.getElem_mem hl)
  · unfold I64; omega
theorem setL_I64 {L : List Int} (h : ∀ y ∈ L, I64 y) (i : Int) {x : Int} (hx : I64 x) : ∀ y ∈ setL L i x, I64 y := fun y hy => by
  unfold setL at hy
  split at hy
  · rcases List.mem_or_eq_of_mem_set hy with h1 | h1
    · exact h y h1
    · rw [h1]; exact hx
  · exact h y hy
theorem pair_set {w W : World} {b g c h n : Nat} {E F : List Ev} (k : Pair4 w W b g c h n E F) (hE : E.length ≤ 1000000) (hn : n ≤ 1000) (i x : Int) (hx : I64 x) :
    Calls Try.prog 18 #[.pointer (some ⟨b, 0, none⟩), .int .i64 i, .agg #[.int .i64 x]] W fun e W' => e = .returned (.tuple #[]) ∧ Pair4 w W' b g c h n (seeN n E i) F := by
  obtain ⟨L, M, k1, ⟨rfl, k3⟩, k4, k5⟩ := k
  refine (B2.call k1 fun Y kk => bset_ kk hE (by omega) i x).mono ?_
  rintro e W' ⟨he, kb, _⟩
  exact ⟨he, _, M, kb, ⟨setL_len _ _ _, k3⟩, setL_I64 k4 i hx, k5⟩
theorem pair_get {w W : World} {b g c h n : Nat} {E F : List Ev} (k : Pair4 w W b g c h n E F) (hE : E.length ≤ 1000000) (hn : n ≤ 1000) (i : Int) :
    Calls Try.prog 20 #[.pointer (some ⟨b, 0, none⟩), .int .i64 i] W fun e W' => (∃ x, e = .returned (.agg #[.int .i64 x]) ∧ I64 x) ∧ Pair4 w W' b g c h n (seeN n E i) F := by
  obtain ⟨L, M, k1, ⟨rfl, k3⟩, k4, k5⟩ := k
  refine (B2.call k1 fun Y kk => bget_ kk hE (by omega) i).mono ?_
  rintro e W' ⟨he, kb, _⟩
  exact ⟨⟨_, he, getL_I64 k4 i⟩, L, M, kb, ⟨rfl, k3⟩, k4, k5⟩

set_option maxRecDepth 100000 in
set_option maxHeartbeats 4000000 in
theorem walk_BufSeen (vl : Value) (n : Nat) (f1 : Nat → Int) (x : Int) (vm : Value) (m : Nat) (f2 : Nat → Int) (w : World) (Hl : Nums .i64 vl n f1 w) (Hm : Nums .u8 vm m f2 w) (hl : n ≤ 9223372036854775807) (hm : m ≤ 9223372036854775807) (_bx : -9223372036854775808 ≤ x ∧ x ≤ 9223372036854775807) :
    Calls Try.prog 10 #[vl, .int .i64 x, vm] w fun e w' => e = .returned (.bool true) ∧ Below w.heap.size w w' := by
  have HC := hid2 Hl
  have HD := hid2 Hm
  obtain ⟨ql, cl, rfl⟩ := Hl.form
  obtain ⟨qm, cm0, rfl⟩ := Hm.form
  have hn0 : (0 : Int) ≤ n := by omega
  have hm0 : (0 : Int) ≤ m := by omega
  have hnm : (n : Int) ≤ 9223372036854775807 := by omega
  have hmm : (m : Int) ≤ 9223372036854775807 := by omega
  by_cases hle : n ≤ 40 ∧ m ≤ 60
  · have t1 : decide ((40 : Int) < (n : Int)) = false := by simp; omega
    have t2 : decide ((60 : Int) < (m : Int)) = false := by simp; omega
    have hn1 : (n : Int) ≤ 40 := by omega
    have hm1 : (m : Int) ≤ 60 := by omega
    have HI := hid2 (lst_I64b Hl.1)
    have HN := hid2 (lst_len f1 n)
    have HZ := hid2 (And.intro (lst_len (fun _ => 0) n) (show ∀ y ∈ lst (fun _ => (0 : Int)) n, I64 y from fun y hy => by simp only [lst, List.mem_map, List.mem_range] at hy; obtain ⟨_, _, rfl⟩ := hy; unfold I64; omega))
    have hmk := make_ints n (by omega)
    clear hle Hl Hm
    go_enter Try.func10, Try.ntmps10
    go_wp2_with (first
      | (go_at_call 28; (with_reducible refine (of4_ HC.out (by omega)).mono ?_); rintro e w1 ⟨bx, gx, vm, rfl, K1, I1⟩; obtain ⟨pm, cm, hpm⟩ := own_form I1; rw [HN.out] at hpm; subst hpm; have HK1 := hid2 ((K1.less (Y := []) (fun y hy => nomatch hy)).calm (gr1 (gr0 w1) (.cells #[.slice pm n cm, .slice none 0 0] 47))); clear K1 I1)
      | (go_at_call 28; (with_reducible refine (of4_ (nums_zero n (w1.alloc (.cells #[.slice pm n cm, .slice none 0 0] 47)) (g := w1.heap.size + 1) (by simp)) (by omega)).mono ?_); rintro e w2 ⟨bz, gz, vz, rfl, K2, I2⟩; obtain ⟨pz, cz, hpz⟩ := own_form I2; rw [HZ.out.1] at hpz; subst hpz; have Kw2 : Hid2 (Pair4 w (w2.alloc (.cells #[.slice pz n cz, .slice none 0 0] 47)) bx gx bz gz n (evn n f2 0) (evn n f2 0)) := hid2 ⟨_, _, (B2.join (HK1.out.calm (gr1 (gr0 _) (.cells (zeros n) 3))) K2).calm (gr1 (gr0 w2) _), ⟨HN.out, HZ.out.1⟩, HI.out, HZ.out.2⟩; clear K2 I2 HK1))
    go_loopg [11] m (fun gj i wr => ∃ j : Nat, j + gj = m ∧ i = .int .i64 j ∧ Pair4 w wr bx gx bz gz n (evn n f2 j) (evn n f2 j))
    case atStart => exact ⟨0, Nat.zero_add _, rfl, Kw2.out⟩
    case round =>
      obtain ⟨j, hj, rfl, Kj⟩ := hrel
      have HK := hid2 Kj
      have hj9 : (0 : Int) ≤ j := by omega
      have hj7 : (j : Int) ≤ 60 := by omega
      have hEj := evn_len n f2 j
      have HCN := hid2 (evn_cnt n f2 j)
      have HSU := hid2 (show evn n f2 (j + 1) = seeN n (seeN n (evn n f2 j) (f2 j % 50)) (f2 j / 3) from rfl)
      obtain ⟨Ej, hev⟩ : ∃ Ej, Ej = evn n f2 j := ⟨_, rfl⟩
      rw [← hev] at HK HCN HSU hEj
      by_cases hlt : j < m
      · have t3 : decide ((j : Int) < m) = true := by simp; omega
        have hj8 : (j : Int) < m := by omega
        obtain ⟨cb, co, rfl, hz, a1⟩ := HD.out.at_ rfl j hlt
        have a2 := (HK.out.below.cell (p := ⟨cb, co + j, none⟩) hz).trans a1
        have a3 := World.block_lt_of_cell? wr _ a2
        have hb := wfU8 (HD.out.1 j hlt)
        have HB := hid2 (fun (W : World) (k : Below w.heap.size w W) => (k.cell (p := ⟨cb, co + j, none⟩) hz).trans a1)
        have HZZ := hid2 hz
        obtain ⟨y, hy⟩ : ∃ y, y = f2 j := ⟨_, rfl⟩
        rw [← hy] at a2 hb HB HSU
        obtain ⟨hb1, hb2⟩ := hb
        obtain ⟨k1, hk1⟩ : ∃ k, k = y % 50 := ⟨_, rfl⟩
        obtain ⟨k2, hk2⟩ : ∃ k, k = y / 3 := ⟨_, rfl⟩
        rw [← hk1, ← hk2] at HSU
        have e1 : ∀ c : Int, c = 50 → Int.tmod y c = k1 := by rintro c rfl; rw [Int.tmod_eq_emod_of_nonneg (by omega), hk1]
        have e2 : ∀ c : Int, c = 50 → y % c = k1 := by rintro c rfl; exact hk1.symm
        have e3 : ∀ c : Int, c = 3 → Int.tdiv y c = k2 := by rintro c rfl; rw [Int.tdiv_eq_ediv_of_nonneg (by omega), hk2]
        have e4 : ∀ c : Int, c = 3 → y / c = k2 := by rintro c rfl; exact hk2.symm
        have k1a : 0 ≤ k1 := by omega
        have k1b : k1 ≤ 49 := by omega
        have k2a : 0 ≤ k2 := by omega
        have k2b : k2 ≤ 85 := by omega
        have hwu : IntKind.u8.wrap k2 = k2 := by rw [IntKind.wrap_u8]; omega
        have hwk : IntKind.i64.wrap k2 = k2 := by rw [IntKind.wrap_i64]; omega
        have hwk1 : IntKind.i64.wrap k1 = k1 := by rw [IntKind.wrap_i64]; omega
        clear hev Kj a1 hk1 hk2 hy hz
        go_wp2_with (fail)
        refine wp_region_calm_tail 9 (by kernel_rfl) (by kernel_rfl) ?_
        simp only [List.take_succ_cons, List.take_zero, List.drop_succ_cons, List.drop_zero]
        (repeat (first | go_big_quiet_step ((go_at_call 19; exact calm_call (sec_of _ _))) | quiet_step ((go_at_call 19; exact calm_call (sec_of _ _)))))
        refine wpQuiet_nil ?_
        intro u
        have KU := hid2 (HK.out.calm u.below)
        clear a2 a3
        go_wp2_with (go_at_call 18; refine (pair_set KU.out (by omega) (by omega) k1 x _bx).mono ?_; rintro e w3 ⟨rfl, K3⟩; have HK3 := hid2 K3; have c3 := HB.out w3 K3.below; have z3 := World.block_lt_of_cell? w3 _ c3; clear K3)
        have HC3 := hid2 c3
        have hEk := Nat.le_trans (seeN_len n Ej k1) (Nat.add_le_add_right hEj 1)
        refine wp_region_noPanic ?_
        refine wp_region_sched 16 [(0, true), (1, true), (2, true), (3, true), (4, true), (5, true), (6, true), (7, true), (8, true), (9, true), (10, true), (11, true), (12, true), (13, true), (14, false), (15, false)] (fun w' => w'.cell? ⟨cb, co + j, none⟩ = some (.int .u8 y)) (by kernel_rfl) (by kernel_rfl) c3 (fun _ _ _ _ _ h => h) ?_
        repeat (refine sched_still (by rfl) (by rfl) (by (intro w' hC; obtain hC1 := hC; go_simp; all_goals with_reducible rfl)) ?_; try simp only [Act.put, List.setIfInBounds_toArray])
        refine sched_go (by rfl) fun K hK => ?_
        go_simp
        go_at_call 20
        try rw [hwk]
        refine (pair_get (HK3.out.calm (gr3 (gr0 w3))) (by omega) (by omega) k2).mono ?_
        rintro e w4 ⟨⟨zz, rfl, hzz⟩, K4⟩
        have c4 := HB.out w4 K4.below
        refine hK.out _ _ (fun _ => c4) ?_
        refine sched_go (by rfl) fun K hK => ?_
        go_simp
        go_at_call 18
        try rw [hwk1]
        refine (pair_set K4.swap (by omega) (by omega) k1 zz hzz).mono ?_
        rintro e w5 ⟨rfl, K5⟩
        have c5 := HB.out w5 K5.below
        have z5 := World.block_lt_of_cell? w5 _ c5
        refine hK.out _ _ (fun _ => c5) ?_
        refine sched_nil (NoPanic.normal ?_)
        have HK5 := hid2 K5
        clear K4 K5 HK3 HC3 c3 z3 c4
        go_wp2_with (go_at_call 20; refine (pair_get HK5.out (by have := seeN_len n Ej k1; omega) (by omega) k2).mono ?_; rintro e w6 ⟨⟨zy, rfl, hzy⟩, K6⟩; have HK6 := hid2 K6.swap; clear K6)
        go_roundg (m - (j + 1))
        case measure => omega
        case rel =>
          refine ⟨j + 1, by omega, by go_num, ?_⟩
          rw [HSU.out]
          exact HK6.out
      · have t3 : decide ((j : Int) < m) = false := by simp; omega
        have HL3 := hid2 (show Ej.length ≤ 1000000 by omega)
        have HP3 := hid2 (Nat.le_trans (pst_len Ej) HL3.out)
        clear hev Kj HSU hEj
        go_wp2_with (first
          | (go_at_call 15; (with_reducible refine (known04 wr).mono ?_); rintro e y1 ⟨rfl, hy1⟩; have KY := hid2 (HK.out.calm hy1); have RX := hid2 KY.out.rn; have RZ := hid2 KY.out.swap.rn; obtain ⟨vx, LX, BX, hlx⟩ := KY.out.bufc; obtain ⟨vz, LZ, BZ, _⟩ := KY.out.swap.bufc; have HBX := hid2 BX; have HBZ := hid2 BZ; have HLX := hid2 hlx; clear BX BZ hy1 hlx)
          | (go_at_call 32; (with_reducible refine (btrace_ (HBZ.out.calm Y5.out)).mono ?_); rintro e y6 ⟨rfl, hy6⟩; have Y6 := hid2 (gr2 Y5.out hy6); clear hy6)
          | (go_at_call 32; (with_reducible refine (btrace_ (HBX.out.calm Y4.out)).mono ?_); rintro e y5 ⟨rfl, hy5⟩; have Y5 := hid2 (gr2 Y4.out hy5); clear hy5)
          | (go_at_call 32; (with_reducible refine (btrace_ HBX.out).mono ?_); rintro e y2 ⟨rfl, hy2⟩; have Y2 := hid2 hy2; clear hy2)
          | (go_at_call 42; (refine (countp_ (RX.out.below Y2.out) HL3.out 3).mono ?_); rintro e y3 ⟨rfl, hy3⟩; rw [HCN.out]; have Y3 := hid2 (gr2 Y2.out hy3); clear hy3)
          | (go_at_call 25; (with_reducible refine (bwords_ (HBX.out.calm Y3.out) (by rw [HLX.out]; omega)).mono ?_); rintro e y4 ⟨vw, rfl, S4, hy4⟩; obtain ⟨qw, cw, rfl, _⟩ := S4.form; rw [HLX.out]; have Y4 := hid2 (gr2 Y3.out hy4); clear S4 hy4)
          | (go_at_call 43; (refine (tsame_ (RX.out.below Y6.out) (RZ.out.below Y6.out) HP3.out HP3.out).mono ?_); rintro e y7 ⟨rfl, hy7⟩; have Y7 := hid2 (gr2 Y6.out hy7); clear hy7))
        go_ret
        exact ⟨rfl, gr2 KY.out.below Y7.out⟩
  · by_cases h40 : n ≤ 40
    · have t1 : decide ((40 : Int) < (n : Int)) = false := by simp; omega
      have t2 : decide ((60 : Int) < (m : Int)) = true := by simp; omega
      clear HC HD hle
      go_enter Try.func10, Try.ntmps10
      go_wp2_with (first
        | (go_at_call 15; (with_reducible refine (known04 w).mono ?_); rintro e w0 ⟨rfl, hb0⟩))
      go_ret
      exact ⟨rfl, hb0⟩
    · have t1 : decide ((40 : Int) < (n : Int)) = true := by simp; omega
      clear HC HD hle
      go_enter Try.func10, Try.ntmps10
      go_wp2_with (first
        | (go_at_call 15; (with_reducible refine (known04 w).mono ?_); rintro e w0 ⟨rfl, hb0⟩))
      go_ret
      exact ⟨rfl, hb0⟩

end Go.Proofs.Ytbdnnkokkgdhnaa
