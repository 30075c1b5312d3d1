/- Rows of blocks, compared. -/
import Derived.Test.YtgegmlhpdpdnfaaBk8
import Derived.ChangeKeysEq
namespace Go.Proofs.Ytgegmlhpdpdnfaa
open Go.RowKit
section
variable {ops : Array Oper} {rest : List Oper} {o : Oper} {a : Act} {w : World} {C : World → Prop} {R : Act → Prop}
theorem eqItems_b (w : World) (d : Nat) (f g : Nat → Int) (h : ∀ i, i < 64 → f i = g i) : ∀ is : List Nat, (∀ i ∈ is, i < 64) → (Op.eqItems (d + 1) 3 (Try.prog.cellsOf 3) (blk f) (blk g) is).run Try.prog w = .ok true w
  | [], _ => by simp [Op.eqItems]
  | i :: is, hi => by
    have h1 : i < 64 := hi i List.mem_cons_self
    have hc : Try.prog.cellsOf 3 = 1 := by kernel_rfl
    have hk : Try.prog.plainKey 3 = true := by kernel_rfl
    have e1 : (blk f)[i * Try.prog.cellsOf 3]? = some (.int .i64 (f i)) := by rw [hc, Nat.mul_one]; exact blk_at h1
    have e2 : (blk g)[i * Try.prog.cellsOf 3]? = some (.int .i64 (g i)) := by rw [hc, Nat.mul_one]; exact blk_at h1
    have ih := eqItems_b w d f g h is fun j hj => hi j (List.mem_cons_of_mem _ hj)
    simp only [Op.eqItems, Sem.run_bind, run_part_plain w hk e1, run_part_plain w hk e2, Result.andThen_ok, run_equalIn_int w d _ _ _ _ _ Try.underlying3, h i h1, BEq.rfl, Bool.not_true, Bool.false_eq_true, if_false]
    exact ih
theorem run_neq_b (w : World) {f g : Nat → Int} (h : ∀ i, i < 64 → f i = g i) : (binOp .neq 42 (.agg (blk f)) (.agg (blk g))).run Try.prog w = .ok (.bool false) w := by
  obtain ⟨i, hi⟩ := Option.isSome_iff_exists.1 (show (Try.prog.info? 3).isSome = true by kernel_rfl)
  rw [run_neq_struct, run_equalIn_array w 9999 _ _ Try.underlying42 hi, eqItems_b w 9998 f g h _ fun j hj => List.mem_range.1 hj]
  rfl
theorem run_neqop_b {f g : Nat → Int} (h : ∀ i, i < 64 → f i = g i) (w : World) (x y : Operand) (t : TypeId) (ho : o.op = .binOp .neq 42 x y t) (hx : a.eval x = .agg (blk f)) (hy : a.eval y = .agg (blk g)) : (execOp a.eval o).run Try.prog w = .ok (.value (.bool false)) w := by
  have hm : Try.prog.eqGuardType Try.prog.depth 42 = false := by kernel_rfl
  unfold execOp
  simp only [ho, hx, hy, Sem.run_bind, run_eqGuard_agg w _ _ _ _ _ _ hm, run_neq_b w h, Result.andThen_ok]
  rfl
theorem wpQuiet_neq_b {f g : Nat → Int} (h : ∀ i, i < 64 → f i = g i) (hw : Region.wanted o (yielded ops a.tmps) = true) (x y : Operand) (t : TypeId) (ho : o.op = .binOp .neq 42 x y t) (hx : a.eval x = .agg (blk f)) (hy : a.eval y = .agg (blk g))
    (hn : wpQuiet Try.prog ops C R rest (a.put o.dst (.bool false))) : wpQuiet Try.prog ops C R (o :: rest) a :=
  wpQuiet_step fun K hK => by
    rw [if_pos hw]
    refine ⟨.bool false, fun w' _ => ?_, hK _ hn⟩
    unfold Oper.quietAt
    rw [run_neqop_b h w' x y t ho hx hy]
    exact ⟨rfl, rfl⟩
theorem wpQuiet_load_bt {f : Nat → Int} (g k : Nat) (hh : ∀ w', C w' → ∀ j, j < 64 → w'.cell? ⟨g, k + j, none⟩ = some (.int .i64 (f j))) (hw : Region.wanted o (yielded ops a.tmps) = true) (x : Operand) (ho : o.op = .load 42 x) (hx : a.eval x = .pointer (some ⟨g, k, none⟩))
    (hn : wpQuiet Try.prog ops C R rest (a.put o.dst (.agg (blk f)))) : wpQuiet Try.prog ops C R (o :: rest) a :=
  wpQuiet_step fun K hK => by
    rw [if_pos hw]
    refine ⟨.agg (blk f), fun w' hC => ?_, hK _ hn⟩
    unfold Oper.quietAt execOp
    simp only [ho, hx, Instr.loadAt, Instr.sureAddr, Sem.run_bind, Sem.run_pure, Result.andThen_ok, run_loadVar_mid w' g k 42 ((List.range 64).map fun i => Value.int .i64 (f i)) _ (fun j v hv => by
      have hj : j < 64 := by have := (List.getElem?_eq_some_iff.1 hv).1; simpa using this
      rw [hh w' hC j hj, ← hv]
      simp [hj]) Try.underlying42 rfl (by rw [List.length_map, List.length_range]; kernel_rfl)]
    exact ⟨rfl, rfl⟩
end
/-- The same blocks, number by number. -/
def SameB (b1 b2 : List (Nat → Int)) : Prop := b1.length = b2.length ∧ ∀ (k : Nat) f g, b1[k]? = some f → b2[k]? = some g → ∀ j, j < 64 → f j = g j
def SameM (M1 M2 : List (List (Nat → Int))) : Prop := M1.length = M2.length ∧ ∀ (k : Nat) b1 b2, M1[k]? = some b1 → M2[k]? = some b2 → SameB b1 b2
set_option maxRecDepth 100000 in
set_option maxHeartbeats 4000000 in
theorem SameRow_ {w : World} {u1 u2 : Value} {b1 b2 : List (Nat → Int)} (h1 : RRow w u1 b1) (h2 : RRow w u2 b2) (hs : SameB b1 b2) (hn : b1.length ≤ 1000) :
    Calls Try.prog 40 #[u1, u2] w fun e w' => e = .returned (.bool true) ∧ Below w.heap.size w w' := by
  obtain ⟨g1, c1, rfl, z1, r1⟩ := h1
  obtain ⟨g2, c2, rfl, z2, r2⟩ := h2
  obtain ⟨hl, hv⟩ := hs
  rw [← hl]
  have HL := hid2 hl
  clear hl
  obtain ⟨n, hn2⟩ : ∃ n, b1.length = n := ⟨_, rfl⟩
  rw [hn2] at hn ⊢
  have HN := hid2 hn2
  have HV := hid2 hv
  have HR1 := hid2 r1
  have HR2 := hid2 r2
  clear hn2 hv r1 r2
  go_enter Try.func40, Try.ntmps40
  go_wp2
  go_loopg [5] n (fun gj ix wr => ∃ k : Nat, k + gj = n ∧ ix = .int .i64 k ∧ Below w.heap.size w wr)
  case atStart => exact ⟨0, by omega, rfl, gr0 _⟩
  case round =>
    obtain ⟨k, hk, rfl, HB⟩ := hrel
    by_cases hlt : k < n
    · have t1 : decide ((k : Int) < n) = true := by simp; omega
      have i9 : (0 : Int) ≤ k ∧ (k : Int) < n := by omega
      obtain ⟨f1, hf1⟩ : ∃ f, b1[k]? = some f := ⟨_, List.getElem?_eq_getElem (by rw [HN.out]; omega)⟩
      obtain ⟨f2, hf2⟩ : ∃ f, b2[k]? = some f := ⟨_, List.getElem?_eq_getElem (by rw [← HL.out, HN.out]; omega)⟩
      have e12 := HV.out k f1 f2 hf1 hf2
      have q1 : ∀ w', (∃ u : Later wr, w' = u.at_) → ∀ j, j < 64 → w'.cell? ⟨g1, k * 64 + j, none⟩ = some (.int .i64 (f1 j)) := by
        rintro w' ⟨u, rfl⟩ j hj
        exact ((HB.trans (u.below.mono HB.size)).cell (p := ⟨g1, k * 64 + j, none⟩) z1).trans (HR1.out k f1 hf1 j hj)
      have q2 : ∀ w', (∃ u : Later wr, w' = u.at_) → ∀ j, j < 64 → w'.cell? ⟨g2, k * 64 + j, none⟩ = some (.int .i64 (f2 j)) := by
        rintro w' ⟨u, rfl⟩ j hj
        exact ((HB.trans (u.below.mono HB.size)).cell (p := ⟨g2, k * 64 + j, none⟩) z2).trans (HR2.out k f2 hf2 j hj)
      clear hf1 hf2
      go_wp2
      refine wp_region_calm (by kernel_rfl) (by kernel_rfl) ?_
      repeat (first | (refine wpQuiet_load_bt (f := f1) g1 (k * 64) q1 rfl (.tmp 19) rfl rfl ?_) | (refine wpQuiet_load_bt (f := f2) g2 (k * 64) q2 rfl (.tmp 23) rfl rfl ?_) | (refine wpQuiet_neq_b e12 rfl (.tmp 20) (.tmp 24) _ rfl rfl rfl ?_) | go_big_quiet_step (fail) | quiet_step (fail))
      refine wpQuiet_nil ?_
      intro u
      go_wp2
      go_roundg (n - (k + 1))
      case measure => omega
      case rel => exact ⟨k + 1, by omega, by go_num, gr2 HB u.below⟩
    · have t1 : decide ((k : Int) < n) = false := by simp; omega
      go_wp2
      go_ret
      exact ⟨rfl, HB⟩
set_option maxRecDepth 100000 in
set_option maxHeartbeats 4000000 in
theorem SameBlocks_ {w : World} {u1 u2 : Value} {M1 M2 : List (List (Nat → Int))} (h1 : RM w u1 M1) (h2 : RM w u2 M2) (hs : SameM M1 M2) (hn : M1.length ≤ 100000) (h6 : ∀ b ∈ M1, b.length ≤ 1000) :
    Calls Try.prog 22 #[u1, u2] w fun e w' => e = .returned (.bool true) ∧ Below w.heap.size w w' := by
  have HR1 := hid2 h1
  have HR2 := hid2 h2
  obtain ⟨g1, o1, c1, rfl, z1, r1⟩ := h1
  obtain ⟨g2, o2, c2, rfl, z2, r2⟩ := h2
  obtain ⟨hl, hv⟩ := hs
  clear r1 r2
  obtain ⟨n, hn2⟩ : ∃ n, M1.length = n := ⟨_, rfl⟩
  have hn3 : M2.length = n := by rw [← hl, hn2]
  have HN := hid2 (And.intro hn2 hn3)
  rw [hn2] at hn ⊢
  rw [hn3]
  have HV := hid2 hv
  have H6 := hid2 h6
  clear hn2 hv hn3 hl h6
  go_enter Try.func22, Try.ntmps22
  go_wp2
  go_loopg [5] n (fun gj ix wr => ∃ k : Nat, k + gj = n ∧ ix = .int .i64 k ∧ Below w.heap.size w wr)
  case atStart => exact ⟨0, by omega, rfl, gr0 _⟩
  case round =>
    obtain ⟨k, hk, rfl, HB⟩ := hrel
    by_cases hlt : k < n
    · have t1 : decide ((k : Int) < n) = true := by simp; omega
      have i9 : (0 : Int) ≤ k ∧ (k : Int) < n := by omega
      obtain ⟨b1, hb1⟩ : ∃ f, M1[k]? = some f := ⟨_, List.getElem?_eq_getElem (by rw [HN.out.1]; omega)⟩
      obtain ⟨b2, hb2⟩ : ∃ f, M2[k]? = some f := ⟨_, List.getElem?_eq_getElem (by rw [HN.out.2]; omega)⟩
      have e12 := HV.out k b1 b2 hb1 hb2
      obtain ⟨_, _, _, e1, _, r1⟩ := HR1.out.below HB
      cases e1
      obtain ⟨v1, q1, s1⟩ := r1 k b1 hb1
      obtain ⟨_, _, _, e2, _, r2⟩ := HR2.out.below HB
      cases e2
      obtain ⟨v2, q2, s2⟩ := r2 k b2 hb2
      have HH : Hid2 (∀ W, Below wr.heap.size wr W → Calls Try.prog 40 #[v1, v2] W fun e w' => e = .returned (.bool true) ∧ Below W.heap.size W w') := fun W hW => SameRow_ (s1.below hW) (s2.below hW) e12 (H6.out b1 (List.mem_of_getElem? hb1))
      clear r1 r2 s1 s2 hb1 hb2 e12
      go_wp2
      refine wp_region_calm (by kernel_rfl) (by kernel_rfl) ?_
      repeat (first | go_big_quiet_step ((go_at_call 40; exact calm_call (HH.out _ (Later.below _)))) | quiet_step ((go_at_call 40; exact calm_call (HH.out _ (Later.below _)))))
      refine wpQuiet_nil ?_
      intro u
      go_wp2
      go_roundg (n - (k + 1))
      case measure => omega
      case rel => exact ⟨k + 1, by omega, by go_num, gr2 HB u.below⟩
    · have t1 : decide ((k : Int) < n) = false := by simp; omega
      go_wp2
      go_ret
      exact ⟨rfl, HB⟩
end Go.Proofs.Ytgegmlhpdpdnfaa
