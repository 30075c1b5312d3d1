/- A recorder takes one more. -/
import Derived.Test.YtbdnnkokkgdhnaaTraceP
import Derived.Test.YtbdnnkokkgdhnaaHeld
import Derived.Deep.RegionHeld3
import Derived.Deep.DrawnRows
import Derived.Deep.CutRange
import Derived.BigQuiet
namespace Go.Proofs.Ytbdnnkokkgdhnaa
open Go.RowKit
attribute [local go_sem ↓] Go.wp_at_zero Go.wp_at_succ

theorem own_slice {w : World} {e : TypeId} {v : Value} {n : Nat} {xs : List Value} (h : w.ownsRow 0 e 1 v n xs) : ∃ p c, v = .slice p n c := by
  rcases h.2 with ⟨rfl, rfl⟩ | ⟨g, cap, cur, rfl, _⟩
  · exact ⟨none, 0, rfl⟩
  · exact ⟨some ⟨g, 0, none⟩, cap, rfl⟩
theorem rec_drew {w : World} {g : Nat} {S : St} {v : Value} {bs : List Nat} (h : Rec w g S v bs) (q : Nat) : Rec (w.drewN q) g S v bs := h.frame fun _ _ => rfl
theorem moved_drew (fp : List Nat) (w : World) (q : Nat) : Moved fp w (w.drewN q) := ⟨rfl, rfl, rfl, Nat.le_refl _, fun _ _ _ => rfl⟩
/-- A fact that no tactic looks into. -/
def Hid2 (p : Prop) : Prop := p
theorem Hid2.out {p : Prop} (h : Hid2 p) : p := h
theorem slice_cell {w w1 : World} {g : Nat} {S : St} {v v2 : Value} {bs : List Nat} {x : Value} (h : Rec w g S v bs) (hv : v = v2) (hg : w.grownBy w1 v2.ownBlock) (hc : w.cell? ⟨g, 0, none⟩ = some x) : w1.cell? ⟨g, 0, none⟩ = some x := by
  subst hv
  have hn := h.nodup
  simp only [List.nodup_cons, List.mem_append, not_or, Option.mem_toList] at hn
  exact (hg.cell_far ⟨g, 0, none⟩ (heap_lt h.head) (fun e => hn.1.1 e.symm)).trans hc
theorem slice_free {w w1 : World} {g : Nat} {S : St} {v v2 : Value} {bs : List Nat} (h : Rec w g S v bs) (hv : v = v2) (hg : w.grownBy w1 v2.ownBlock) (hc : w.frozen? ⟨g, 0, none⟩ = false) : w1.frozen? ⟨g, 0, none⟩ = false := by
  subst hv
  have hn := h.nodup
  simp only [List.nodup_cons, List.mem_append, not_or, Option.mem_toList] at hn
  exact (hg.frozen_far ⟨g, 0, none⟩ (heap_lt h.head) (fun e => hn.1.1 e.symm)).trans hc
theorem last_room {S : St} {b : Bool} (h : b = !(S.getLast?.any room)) :
    (b = false → ∃ I p, S = I ++ [p] ∧ room p = true) ∧ (b = true → ∀ e, addS S e = S ++ [([e], capOf S.length)]) := by
  subst h
  constructor
  · intro h
    rcases snoc_or S with rfl | ⟨I, p, rfl⟩
    · simp at h
    · exact ⟨I, p, rfl, by simpa using h⟩
  · intro h e
    unfold addS
    rw [if_neg (by simpa using h)]
def Opened (w : World) (g : Nat) (S : St) (fp : List Nat) (e : Ev) (s6 : Value) (wx : World) : Prop :=
  ∃ (I : St) (p : Part) (v2 : Value) (bs2 : List Nat), s6 = .int .i64 (I.length : Nat) ∧ Rec wx g (I ++ [p]) v2 bs2 ∧ (encs p.1).length + 3 ≤ p.2 ∧ I ++ [addP p e] = addS S e ∧
    Moved fp w wx ∧ Fresh w fp (g :: (v2.ownBlock.toList ++ bs2)) ∧ I.length ≤ 1000000
/-- What the walk wants of a last part. -/
theorem last_facts {k m : Nat} {L cap : Nat} (hm : m = k + 1) (hk : k ≤ 1000000) (hL : L ≤ cap) (hcap : cap ≤ 65536) :
    (0 : Int) ≤ k ∧ (k : Int) ≤ 1000000 ∧ (k : Int) < (m : Int) ∧ (m : Int) - 1 = (k : Int) ∧ (m : Int) ≤ 1000001 ∧ (0 : Int) ≤ L ∧ (L : Int) ≤ 65536 ∧ (cap : Int) ≤ 65536 ∧ decide ((k : Int) < 0) = false := by
  refine ⟨?_, ?_, ?_, ?_, ?_, ?_, ?_, ?_, by simp⟩ <;> omega

set_option maxRecDepth 100000 in
set_option maxHeartbeats 4000000 in
theorem add_ {w : World} {g : Nat} {S : St} {fp : List Nat} (h : Rc w g S fp) (hS : S.length ≤ 1000000) (kd n : Int) (hkd : 0 ≤ kd ∧ kd ≤ 3) (hI : I64 n) :
    Calls Try.prog 77 #[.pointer (some ⟨g, 0, none⟩), .int .i64 kd, .int .i64 n] w fun e w' => e = .returned (.tuple #[]) ∧ ∃ fp', Rc w' g (addS S (kd, n)) fp' ∧ Moved fp w w' ∧ Fresh w fp fp' := by
  obtain ⟨v, bs, h, rfl⟩ := h
  have hev : EvOk (kd, n) := ⟨hkd, hI⟩
  obtain ⟨hkd1, hkd2⟩ := hkd
  obtain ⟨i0, hi, hz0, hz1, hz2⟩ := info_parts info_row
  obtain ⟨i1, hi1, hy1, hx1, hx2⟩ := info_parts info_u32
  obtain ⟨p0, cap0, hv⟩ := own_slice h.row
  obtain ⟨m, hm⟩ : ∃ m, m = S.length := ⟨_, rfl⟩
  have hg := h.head
  have cg : w.cell? ⟨g, 0, none⟩ = some (.slice p0 m cap0) := by rw [cell_of_row _ _ _ _ _ _ hg, hv, hm]; rfl
  have fg : w.frozen? ⟨g, 0, none⟩ = false := frozen_of_row _ _ _ _ _ hg
  have lg : g < w.heap.size := heap_lt hg
  have m0 : (0 : Int) ≤ m := by omega
  have m1 : (m : Int) ≤ 1000000 := by omega
  have hm1 : m ≤ 1000000 := by omega
  obtain ⟨hd, hhd⟩ : ∃ hd : Bool, hd = !(S.getLast?.any room) := ⟨_, rfl⟩
  have HR : Hid2 (Rec w g S v bs) := h
  have HM : Hid2 (m = S.length) := hm
  have HV : Hid2 (v = .slice p0 m cap0) := hm ▸ hv
  have HH : Hid2 (hd = !(S.getLast?.any room)) := hhd
  clear hg h hS hm hv hhd
  go_enter Try.func77, Try.ntmps77
  go_wp2
  go_cut [36] from 15 to 36 (fun s36 wx => s36 = .bool hd ∧ ∃ q, wx = w.drewN q)
  case first =>
    rcases snoc_or S with hS0 | ⟨I, p, hS0⟩
    · have d1 : decide ((m : Int) - 1 < 0) = true := by rw [HM.out, hS0]; simp
      have HD : Hid2 (hd = true) := by show hd = true; rw [HH.out, hS0]; rfl
      clear hS0
      go_quiet (fail)
      go_wp2
      go_meet
      case rel => exact ⟨by rw [HD.out], _, rfl⟩
    · obtain ⟨gp, c, B, b, hv2, hbs, hB, tg, tk, tf, hb, n1, n2, n3, hp⟩ := rec_last (hS0 ▸ HR.out)
      unfold pcell at tk
      rw [hv2] at tg
      have hmk : m = I.length + 1 := by rw [HM.out, hS0]; simp
      have hv3 := HV.out.symm.trans hv2
      rw [hmk] at hv3
      obtain ⟨rfl, rfl⟩ : p0 = some ⟨gp, 0, none⟩ ∧ cap0 = c := by cases hv3; exact ⟨rfl, rfl⟩
      clear hv3
      obtain ⟨k0, k1, k2, k3, k4, c0, c1, c2, d1⟩ := last_facts (L := (encs p.1).length) (cap := p.2) hmk (by omega) hp.2.1 hp.2.2
      generalize hK : I.length = k at *
      generalize hL : (encs p.1).length = L at *
      generalize hC : p.2 = cap at *
      by_cases hr : L + 3 ≤ cap
      · have d2 : decide ((cap : Int) < (L : Int) + 3) = false := by simp; omega
        have HD : Hid2 (hd = false) := by show hd = false; rw [HH.out, hS0]; simp [room]; omega
        clear hS0 hK hL hC hbs hB hb hv2 hp hmk
        go_quiet (fail)
        go_wp2
        go_meet
        case rel => exact ⟨by rw [HD.out], _, rfl⟩
      · have d2 : decide ((cap : Int) < (L : Int) + 3) = true := by simp; omega
        have HD : Hid2 (hd = true) := by show hd = true; rw [HH.out, hS0]; simp [room]; omega
        clear hS0 hK hL hC hbs hB hb hv2 hp hmk
        go_quiet (fail)
        go_wp2
        go_meet
        case rel => exact ⟨by rw [HD.out], _, rfl⟩
  case rest =>
    obtain ⟨rfl, q, rfl⟩ := hcut
    have HQ := last_room HH.out
    go_upto_if 36 with fail
    go_cut [6] from 37 to 57 (fun s6 wx => Opened w g S (g :: (v.ownBlock.toList ++ bs)) (kd, n) s6 wx)
    case first =>
      have HQ : Hid2 ((hd = false → ∃ I p, S = I ++ [p] ∧ room p = true) ∧ (hd = true → ∀ e, addS S e = S ++ [([e], capOf S.length)])) := HQ
      clear HH
      cases hd
      · go_wp2
        go_meet
        case rel =>
          obtain ⟨I, p, hI, hr⟩ := HQ.out.1 (by trivial)
          have hm := HM.out
          subst hI
          exact ⟨I, p, v, bs, by rw [hm]; simp, rec_drew HR.out q, by simpa [room] using hr, (addS_room I p _ hr).symm, moved_drew _ _ _, Fresh.refl _ _, by simp at hm; omega⟩
      · obtain ⟨cN, hcN⟩ : ∃ cN, cN = capOf m := ⟨_, rfl⟩
        have q1 := capOf_in m
        rw [← hcN] at q1
        obtain ⟨u, hu⟩ : ∃ u : Int, u = 2 * (m : Int) := ⟨_, rfl⟩
        have q2 : IntKind.i64.wrap (2 * (m : Int)) = u := by rw [IntKind.wrap_i64, hu]; omega
        have q3 := shift_cap m u hu
        rw [← hcN] at q3
        have q4 : (if (cN : Int) < 65536 then (cN : Int) else 65536) = cN := by split <;> omega
        have q5 := make_cap cN q1.2
        have HC : Hid2 (cN = capOf m) := hcN
        have hown : Hid2 (w.ownsRow 0 100 1 (.slice p0 m cap0) m (List.zipWith pcell bs S)) := by
          have := HR.out.row
          rw [HV.out, ← HM.out] at this
          exact this
        obtain ⟨xs, hxs⟩ : ∃ xs, xs = List.zipWith pcell bs S := ⟨_, rfl⟩
        rw [← hxs] at hown
        have HX : Hid2 (xs = List.zipWith pcell bs S) := hxs
        clear hu hcN hxs
        go_wp2
        refine wp_region_noPanic ?_
        refine wp_region_held_rest 14 (fun w' => w'.cell? ⟨g, 0, none⟩ = some (.slice p0 m cap0)) (by kernel_rfl) (by kernel_rfl) cg (fun _ _ _ _ _ h => h) ?_
        simp only [List.take_succ_cons, List.take_zero, List.drop_succ_cons, List.drop_zero]
        repeat (refine still_cons (by rfl) (by (intro w' hC; obtain hC1 := hC; go_simp; all_goals with_reducible rfl)) ?_; try simp only [Act.put, List.setIfInBounds_toArray, List.set_cons_zero, List.set_cons_succ])
        refine still_nil ?_
        refine rest_cons fun K hK => ?_
        go_simp
        refine hK.out _ _ (fun _ => cell_al cg) ?_
        refine rest_cons fun K hK => ?_
        go_simp
        refine hK.out _ _ (fun _ => cell_al2 cg) ?_
        refine rest_cons fun K hK => ?_
        refine step_append_lies _ (by rfl) _ _ 82 (by rfl) 0 100 i0 _ 1 24 Try.underlying82 hi hz0 hz1 hz2 rfl (by omega) _ m xs (by rfl) (show _ from World.ownsRow.alloc (World.ownsRow.alloc (show World.ownsRow (World.drewN w _) 0 _ 1 _ m xs from hown.out) _) _) ⟨w.heap.size + 1, 0, none⟩ 1 1 [.slice (some ⟨w.heap.size, 0, none⟩) 0 cN] (by rfl) (by rfl) (news_at (by simp) _ _) (by simp [Value.oneCell']) (by omega) (by simp only [maxLen]; omega) (by omega) (Nat.zero_le _) (w.heap.size + 2) (by simp) ?_
        intro gg cap1 w1 hown1 hgrow hat hlt
        have hG := grow_two hgrow
        have hcg := slice_cell HR.out HV.out hG cg
        have hfg := slice_free HR.out HV.out hG fg
        refine hK.out _ _ (fun _ => hcg) ?_
        refine rest_cons fun K hK => ?_
        go_simp
        refine hK.out _ _ (fun _ => hcg) ?_
        refine rest_cons fun K hK => ?_
        go_simp
        refine hK.out _ _ (fun _ => hcg) ?_
        refine rest_cons fun K hK => ?_
        go_simp
        refine hK.out _ _ (fun h => absurd rfl h) (rest_nil (NoPanic.normal ?_))
        all_goals (clear q1 q2 q3 q4 q5; go_wp2)
        all_goals go_meet
        all_goals (
          have hm := HM.out
          have hv := HV.out
          have hx := HX.out
          subst hm
          subst hx
          subst hv
          have h64 := capOf_in S.length
          rw [← HC.out] at h64
          have RO := rec_open HR.out h64 hown1 hgrow hat
          exact ⟨S, ([], cN), _, _, by first | rfl | simp, RO.1, by simp [encs]; omega, ((HQ.out.2 (by trivial) _).trans (by rw [← HC.out]; rfl)).symm, RO.2.1, RO.2.2, by omega⟩)
    case rest =>
      obtain ⟨I, p, v2, bs2, rfl, R2, hroom, hadd, hM2, hF2, hI6⟩ := hcut
      obtain ⟨gp, c, B, b, hv2, hbs, hB, tg, tk, tf, hb, n1, n2, n3, hp⟩ := rec_last R2
      have lb := heap_lt hb
      have tl : gp < wc.heap.size := World.block_lt_of_cell? wc _ tk
      have HZ : ∀ w4, w4.heap[b]? = some (.cells (u32s (encs p.1) ++ u32s (enc (kd, n)) ++ List.replicate (p.2 - ((encs p.1).length + (enc (kd, n)).length)) (Value.int .u32 0)).toArray 103 (0, 0)) → wc.grownBy w4 (some b) →
          ∃ fp', Rc (w4.setCell ⟨gp, I.length, none⟩ (.slice (some ⟨b, 0, none⟩) ((encs p.1).length + (enc (kd, n)).length) p.2)) g (addS S (kd, n)) fp' ∧ Moved (g :: (v.ownBlock.toList ++ bs)) w (w4.setCell ⟨gp, I.length, none⟩ (.slice (some ⟨b, 0, none⟩) ((encs p.1).length + (enc (kd, n)).length) p.2)) ∧ Fresh w (g :: (v.ownBlock.toList ++ bs)) fp' := fun w4 h4 hg4 => by
        have RP := rec_put (kd, n) R2 hv2 hbs hev hroom h4 hg4
        exact ⟨_, ⟨v2, bs2, hadd ▸ RP.1, rfl⟩, hM2.trans hF2 RP.2, hF2⟩
      have HZ : Hid2 _ := HZ
      have hl : (u32s (encs p.1)).length = (encs p.1).length := by simp [u32s]
      have hb : wc.heap[b]? = some (.cells (u32s (encs p.1) ++ List.replicate (p.2 - (encs p.1).length) (Value.int .u32 0)).toArray 103 (0, 0)) := hb
      obtain ⟨m2, hm2⟩ : ∃ m2, m2 = I.length + 1 := ⟨_, rfl⟩
      obtain ⟨k0, k1, k2, k3, k4, c0, c1, c2, d1⟩ := last_facts (L := (encs p.1).length) (cap := p.2) hm2 hI6 hp.2.1 hp.2.2
      unfold pcell at tk
      rw [hv2, ← hm2] at tg
      clear hadd hM2 hF2 R2 hbs hB hp hv2 hm2 HR HM HV HH HQ hI6 k4 k3 hev
      generalize u32s (encs p.1) = ws at *
      generalize hK : I.length = k at *
      generalize hL : (encs p.1).length = L at *
      generalize hC : p.2 = cap at *
      clear hK hL hC
      have n4 : gp ≠ g := Ne.symm n1
      have c3 : (L : Int) + 3 ≤ cap := by omega
      have hkd : 0 ≤ kd ∧ kd ≤ 3 := ⟨hkd1, hkd2⟩
      rcases Int.lt_or_le n 0 with hn | hn
      · have he : enc (kd, n) = [2147483648 + kd, n / 4294967296 % 4294967296, n % 4294967296] := by unfold enc; exact if_neg (by omega)
        rw [he] at HZ
        have hor := or_far hkd
        have hw3 : IntKind.u32.wrap kd = kd := by rw [IntKind.wrap_u32']; omega
        have hw1 : IntKind.u64.wrap n = n % 18446744073709551616 := by rw [IntKind.wrap_u64]
        have hw2 : IntKind.u32.wrap (n % 18446744073709551616) = n % 4294967296 := by rw [IntKind.wrap_u32']; omega
        have hw4 : IntKind.u32.wrap (n % 18446744073709551616 / 4294967296) = n / 4294967296 % 4294967296 := by rw [IntKind.wrap_u32']; omega
        have e1 : decide (0 ≤ n) = false := by simp; omega
        clear he hkd hn
        go_wp2
        refine wp_region_noPanic ?_
        refine wp_region_held_rest 22 (fun w' => w'.cell? ⟨g, 0, none⟩ = some (.slice (some ⟨gp, 0, none⟩) m2 c) ∧ w'.cell? ⟨gp, k, none⟩ = some (.slice (some ⟨b, 0, none⟩) L cap)) (by kernel_rfl) (by kernel_rfl) ⟨tg, tk⟩ (fun _ _ _ _ _ h => h) ?_
        simp only [List.take_succ_cons, List.take_zero, List.drop_succ_cons, List.drop_zero]
        repeat (refine still_cons (by rfl) (by (intro w' hC; obtain ⟨hC1, hC2⟩ := hC; go_simp; all_goals with_reducible rfl)) ?_; try simp only [Act.put, List.setIfInBounds_toArray, List.set_cons_zero, List.set_cons_succ])
        refine still_nil ?_
        refine rest_cons fun K hK => ?_
        go_simp
        refine hK.out _ _ (fun _ => ⟨cell_al tg, cell_al tk⟩) ?_
        refine rest_cons fun K hK => ?_
        refine step_append_in (by rfl) _ _ 100 (by rfl) 103 i1 Try.underlying100 hi1 hx1 (b := b) (n := L) (cap := cap) (z := .int .u32 0) (ws := ws) (show _ from (heap_alloc_old _ _ lb).trans hb) hl (by rfl) (H := wc.heap.size) (m := 3) (c := 3) (news := [.int .u32 (2147483648 + kd), .int .u32 (n / 4294967296 % 4294967296), .int .u32 (n % 4294967296)]) (t' := 103) (by rfl) (show _ from heap_alloc_new _ _) (by rfl) (by simp [Value.oneCell']) (by omega) ?_
        intro w4 hb4 hgrow hsz
        have hG4 := grow_al hgrow
        have hcg := far_cell hG4 tg n2
        have hck := far_cell hG4 tk n3
        have hfk := far_free hG4 tl tf n3
        refine hK.out _ _ (fun _ => ⟨hcg, hck⟩) ?_
        refine rest_cons fun K hK => ?_
        go_simp
        refine hK.out _ _ (fun _ => ⟨hcg, hck⟩) ?_
        refine rest_cons fun K hK => ?_
        go_simp
        refine hK.out _ _ (fun h => absurd rfl h) (rest_nil (NoPanic.normal ?_))
        all_goals go_wp2
        all_goals refine ⟨rfl, .tuple #[], by simp [results, Try.results77], ?_⟩
        all_goals exact ⟨rfl, HZ.out w4 hb4 hG4⟩
      rcases Int.lt_or_le n 268435456 with hn2 | hn2
      · have hn : 0 ≤ n ∧ n < 268435456 := ⟨hn, hn2⟩
        have he : enc (kd, n) = [n * 4 + kd] := by unfold enc; exact if_pos hn
        rw [he] at HZ
        have hor := or_kind hn hkd
        have hw1 : IntKind.u32.wrap n = n := by rw [IntKind.wrap_u32']; omega
        have hw2 : IntKind.u32.wrap (n * 4) = n * 4 := by rw [IntKind.wrap_u32']; omega
        have hw3 : IntKind.u32.wrap kd = kd := by rw [IntKind.wrap_u32']; omega
        have e1 : decide (0 ≤ n) = true := by simp; omega
        have e2 : decide (n < 268435456) = true := by simp; omega
        clear he hkd
        go_wp2
        refine wp_region_noPanic ?_
        refine wp_region_held_rest 18 (fun w' => w'.cell? ⟨g, 0, none⟩ = some (.slice (some ⟨gp, 0, none⟩) m2 c) ∧ w'.cell? ⟨gp, k, none⟩ = some (.slice (some ⟨b, 0, none⟩) L cap)) (by kernel_rfl) (by kernel_rfl) ⟨tg, tk⟩ (fun _ _ _ _ _ h => h) ?_
        simp only [List.take_succ_cons, List.take_zero, List.drop_succ_cons, List.drop_zero]
        repeat (refine still_cons (by rfl) (by (intro w' hC; obtain ⟨hC1, hC2⟩ := hC; go_simp; all_goals with_reducible rfl)) ?_; try simp only [Act.put, List.setIfInBounds_toArray, List.set_cons_zero, List.set_cons_succ])
        refine still_nil ?_
        refine rest_cons fun K hK => ?_
        go_simp
        refine hK.out _ _ (fun _ => ⟨cell_al tg, cell_al tk⟩) ?_
        refine rest_cons fun K hK => ?_
        refine step_append_in (by rfl) _ _ 100 (by rfl) 103 i1 Try.underlying100 hi1 hx1 (b := b) (n := L) (cap := cap) (z := .int .u32 0) (ws := ws) (show _ from (heap_alloc_old _ _ lb).trans hb) hl (by rfl) (H := wc.heap.size) (m := 1) (c := 1) (news := [.int .u32 (n * 4 + kd)]) (t' := 103) (by rfl) (show _ from heap_alloc_new _ _) (by rfl) (by simp [Value.oneCell']) (by omega) ?_
        intro w4 hb4 hgrow hsz
        have hG4 := grow_al hgrow
        have hcg := far_cell hG4 tg n2
        have hck := far_cell hG4 tk n3
        have hfk := far_free hG4 tl tf n3
        refine hK.out _ _ (fun _ => ⟨hcg, hck⟩) ?_
        refine rest_cons fun K hK => ?_
        go_simp
        refine hK.out _ _ (fun _ => ⟨hcg, hck⟩) ?_
        refine rest_cons fun K hK => ?_
        go_simp
        refine hK.out _ _ (fun h => absurd rfl h) (rest_nil (NoPanic.normal ?_))
        all_goals go_wp2
        all_goals refine ⟨rfl, .tuple #[], by simp [results, Try.results77], ?_⟩
        all_goals exact ⟨rfl, HZ.out w4 hb4 hG4⟩
      · have hn := hn2
        have he : enc (kd, n) = [2147483648 + kd, n / 4294967296 % 4294967296, n % 4294967296] := by unfold enc; exact if_neg (by omega)
        rw [he] at HZ
        have hor := or_far hkd
        have hw3 : IntKind.u32.wrap kd = kd := by rw [IntKind.wrap_u32']; omega
        have hw1 : IntKind.u64.wrap n = n % 18446744073709551616 := by rw [IntKind.wrap_u64]
        have hw2 : IntKind.u32.wrap (n % 18446744073709551616) = n % 4294967296 := by rw [IntKind.wrap_u32']; omega
        have hw4 : IntKind.u32.wrap (n % 18446744073709551616 / 4294967296) = n / 4294967296 % 4294967296 := by rw [IntKind.wrap_u32']; omega
        have e1 : decide (0 ≤ n) = true := by simp; omega
        have e2 : decide (n < 268435456) = false := by simp; omega
        clear he hkd hn
        go_wp2
        refine wp_region_noPanic ?_
        refine wp_region_held_rest 22 (fun w' => w'.cell? ⟨g, 0, none⟩ = some (.slice (some ⟨gp, 0, none⟩) m2 c) ∧ w'.cell? ⟨gp, k, none⟩ = some (.slice (some ⟨b, 0, none⟩) L cap)) (by kernel_rfl) (by kernel_rfl) ⟨tg, tk⟩ (fun _ _ _ _ _ h => h) ?_
        simp only [List.take_succ_cons, List.take_zero, List.drop_succ_cons, List.drop_zero]
        repeat (refine still_cons (by rfl) (by (intro w' hC; obtain ⟨hC1, hC2⟩ := hC; go_simp; all_goals with_reducible rfl)) ?_; try simp only [Act.put, List.setIfInBounds_toArray, List.set_cons_zero, List.set_cons_succ])
        refine still_nil ?_
        refine rest_cons fun K hK => ?_
        go_simp
        refine hK.out _ _ (fun _ => ⟨cell_al tg, cell_al tk⟩) ?_
        refine rest_cons fun K hK => ?_
        refine step_append_in (by rfl) _ _ 100 (by rfl) 103 i1 Try.underlying100 hi1 hx1 (b := b) (n := L) (cap := cap) (z := .int .u32 0) (ws := ws) (show _ from (heap_alloc_old _ _ lb).trans hb) hl (by rfl) (H := wc.heap.size) (m := 3) (c := 3) (news := [.int .u32 (2147483648 + kd), .int .u32 (n / 4294967296 % 4294967296), .int .u32 (n % 4294967296)]) (t' := 103) (by rfl) (show _ from heap_alloc_new _ _) (by rfl) (by simp [Value.oneCell']) (by omega) ?_
        intro w4 hb4 hgrow hsz
        have hG4 := grow_al hgrow
        have hcg := far_cell hG4 tg n2
        have hck := far_cell hG4 tk n3
        have hfk := far_free hG4 tl tf n3
        refine hK.out _ _ (fun _ => ⟨hcg, hck⟩) ?_
        refine rest_cons fun K hK => ?_
        go_simp
        refine hK.out _ _ (fun _ => ⟨hcg, hck⟩) ?_
        refine rest_cons fun K hK => ?_
        go_simp
        refine hK.out _ _ (fun h => absurd rfl h) (rest_nil (NoPanic.normal ?_))
        all_goals go_wp2
        all_goals refine ⟨rfl, .tuple #[], by simp [results, Try.results77], ?_⟩
        all_goals exact ⟨rfl, HZ.out w4 hb4 hG4⟩

end Go.Proofs.Ytbdnnkokkgdhnaa
