/- Three appends of one thing each, in any order that Go leaves open. -/
import Derived.Test.YtgegmlhpdpdnfaaTri
namespace Go.Proofs.Ytgegmlhpdpdnfaa
open Go.RowKit
/-- three values by number -/
def tri {α : Type} (a b c : α) (j : Nat) : α := if j = 0 then a else if j = 1 then b else c
theorem tri_nil {α : Type} {a : α} : tri a a a = fun _ => a := by funext j; unfold tri; split; rfl; split <;> rfl
def LL (b0 b1 b2 c0 c1 c2 d : Bool) : Array Bool := #[true, true, true, b0, c0, true, true, true, b1, c1, true, true, true, b2, c2, d, false, false, false, false, false]
def ok7 (b0 b1 b2 c0 c1 c2 d : Bool) : Bool := (!c0 || b0) && (!c1 || (b1 && c0)) && (!c2 || (b2 && c1)) && (!d || c0)
def cnt7 (b0 b1 b2 c0 c1 c2 d : Bool) : Nat := b0.toNat + b1.toNat + b2.toNat + c0.toNat + c1.toNat + c2.toNat + d.toNat
def may7 (b0 b1 b2 c0 c1 c2 d : Bool) (i : Nat) : Bool := (i == 3 && !b0) || (i == 8 && !b1) || (i == 13 && !b2) || (i == 4 && b0 && !c0) || (i == 9 && b1 && c0 && !c1) || (i == 14 && b2 && c1 && !c2) || (i == 15 && c0 && !d)
def ready7 (ops : Array Oper) : Bool :=
  [false, true].all fun b0 => [false, true].all fun b1 => [false, true].all fun b2 => [false, true].all fun c0 => [false, true].all fun c1 => [false, true].all fun c2 => [false, true].all fun d =>
    !ok7 b0 b1 b2 c0 c1 c2 d || cnt7 b0 b1 b2 c0 c1 c2 d == 7 || (let l := Region.ready .any ops (LL b0 b1 b2 c0 c1 c2 d); !l.isEmpty && l.all (may7 b0 b1 b2 c0 c1 c2 d))
theorem all_bool {f : Bool → Bool} (h : [false, true].all f = true) (b : Bool) : f b = true := by
  simp at h
  cases b
  · exact h.1
  · exact h.2
theorem ready7_spec {ops : Array Oper} (h : ready7 ops = true) {b0 b1 b2 c0 c1 c2 d : Bool} (ho : ok7 b0 b1 b2 c0 c1 c2 d = true) (hc : cnt7 b0 b1 b2 c0 c1 c2 d ≠ 7) :
    Region.ready .any ops (LL b0 b1 b2 c0 c1 c2 d) ≠ [] ∧ ∀ i ∈ Region.ready .any ops (LL b0 b1 b2 c0 c1 c2 d), may7 b0 b1 b2 c0 c1 c2 d i = true := by
  have h1 := all_bool (all_bool (all_bool (all_bool (all_bool (all_bool (all_bool h b0) b1) b2) c0) c1) c2) d
  simp only [ho, Bool.not_true, Bool.false_or, Bool.or_eq_true, beq_iff_eq, hc, false_or, Bool.and_eq_true, List.all_eq_true] at h1
  exact ⟨fun e => by rw [e] at h1; simp at h1, h1.2⟩
abbrev D7 : List Nat := [48, 49, 53, 54, 58, 59, 60]
structure PInv (e : TypeId) (size base : Nat) (W0 : World) (A : Act) (V0 V1 V2 : Value) (n : Nat) (Y0 Y1 Y2 U0 U1 U2 : List Value) (pp : Value) (b0 b1 b2 c0 c1 c2 d : Bool) (X : Nat → Value) (W : World) : Prop where
  sub : Sub base [e] W0 W
  tri : Tri e size base W (tri (if c0 then X 49 else V0) (if c1 then X 54 else V1) (if c2 then X 59 else V2)) (tri (if c0 then n + 1 else n) (if c1 then n + 1 else n) (if c2 then n + 1 else n)) (tri (if c0 then Y0 ++ U0 else Y0) (if c1 then Y1 ++ U1 else Y1) (if c2 then Y2 ++ U2 else Y2))
  p0 : b0 = true → Pend e W (Go.Proofs.Ytgegmlhpdpdnfaa.tri (if c0 then X 49 else V0) (if c1 then X 54 else V1) (if c2 then X 59 else V2)) U0 (X 48)
  p1 : b1 = true → Pend e W (Go.Proofs.Ytgegmlhpdpdnfaa.tri (if c0 then X 49 else V0) (if c1 then X 54 else V1) (if c2 then X 59 else V2)) U1 (X 53)
  p2 : b2 = true → Pend e W (Go.Proofs.Ytgegmlhpdpdnfaa.tri (if c0 then X 49 else V0) (if c1 then X 54 else V1) (if c2 then X 59 else V2)) U2 (X 58)
  pp : d = true → X 60 = pp
  o0 : c0 = true → (X 49).oneCell' = true
  o1 : c1 = true → (X 54).oneCell' = true
  o2 : c2 = true → (X 59).oneCell' = true
theorem PInv.new0 {e : TypeId} {size base : Nat} {W0 : World} {A : Act} {V0 V1 V2 : Value} {n : Nat} {Y0 Y1 Y2 U0 U1 U2 : List Value} {pp : Value} {b0 b1 b2 c0 c1 c2 d : Bool} {X : Nat → Value} {W : World} {cs : Array Value} (I : PInv e size base W0 A V0 V1 V2 n Y0 Y1 Y2 U0 U1 U2 pp b0 b1 b2 c0 c1 c2 d X W) (he : cs.toList = U0) :
    PInv e size base W0 A V0 V1 V2 n Y0 Y1 Y2 U0 U1 U2 pp true b1 b2 c0 c1 c2 d (upd X 48 (.slice (some ⟨W.heap.size, 0, none⟩) 1 1)) (W.alloc (.cells cs e (0, 0))) :=
  ⟨I.sub.trans (Sub.of_below (gr1 (gr0 _) _)), I.tri.below (gr1 (gr0 _) _), fun _ => he ▸ Pend.new I.tri, fun h => (I.p1 h).below (gr1 (gr0 _) _), fun h => (I.p2 h).below (gr1 (gr0 _) _), I.pp, I.o0, I.o1, I.o2⟩
theorem PInv.new1 {e : TypeId} {size base : Nat} {W0 : World} {A : Act} {V0 V1 V2 : Value} {n : Nat} {Y0 Y1 Y2 U0 U1 U2 : List Value} {pp : Value} {b0 b1 b2 c0 c1 c2 d : Bool} {X : Nat → Value} {W : World} {cs : Array Value} (I : PInv e size base W0 A V0 V1 V2 n Y0 Y1 Y2 U0 U1 U2 pp b0 b1 b2 c0 c1 c2 d X W) (he : cs.toList = U1) :
    PInv e size base W0 A V0 V1 V2 n Y0 Y1 Y2 U0 U1 U2 pp b0 true b2 c0 c1 c2 d (upd X 53 (.slice (some ⟨W.heap.size, 0, none⟩) 1 1)) (W.alloc (.cells cs e (0, 0))) :=
  ⟨I.sub.trans (Sub.of_below (gr1 (gr0 _) _)), I.tri.below (gr1 (gr0 _) _), fun h => (I.p0 h).below (gr1 (gr0 _) _), fun _ => he ▸ Pend.new I.tri, fun h => (I.p2 h).below (gr1 (gr0 _) _), I.pp, I.o0, I.o1, I.o2⟩
theorem PInv.new2 {e : TypeId} {size base : Nat} {W0 : World} {A : Act} {V0 V1 V2 : Value} {n : Nat} {Y0 Y1 Y2 U0 U1 U2 : List Value} {pp : Value} {b0 b1 b2 c0 c1 c2 d : Bool} {X : Nat → Value} {W : World} {cs : Array Value} (I : PInv e size base W0 A V0 V1 V2 n Y0 Y1 Y2 U0 U1 U2 pp b0 b1 b2 c0 c1 c2 d X W) (he : cs.toList = U2) :
    PInv e size base W0 A V0 V1 V2 n Y0 Y1 Y2 U0 U1 U2 pp b0 b1 true c0 c1 c2 d (upd X 58 (.slice (some ⟨W.heap.size, 0, none⟩) 1 1)) (W.alloc (.cells cs e (0, 0))) :=
  ⟨I.sub.trans (Sub.of_below (gr1 (gr0 _) _)), I.tri.below (gr1 (gr0 _) _), fun h => (I.p0 h).below (gr1 (gr0 _) _), fun h => (I.p1 h).below (gr1 (gr0 _) _), fun _ => he ▸ Pend.new I.tri, I.pp, I.o0, I.o1, I.o2⟩
theorem PInv.app0 {e : TypeId} {size base : Nat} {W0 : World} {A : Act} {V0 V1 V2 : Value} {n : Nat} {Y0 Y1 Y2 U0 U1 U2 : List Value} {pp : Value} {b0 b1 b2 c1 c2 d : Bool} {X : Nat → Value} {W : World} {P : Program} {ops : Array Oper} {i : Nat} {K : Act → World → Prop} {bytes : Nat} (I : PInv e size base W0 A V0 V1 V2 n Y0 Y1 Y2 U0 U1 U2 pp b0 b1 b2 false c1 c2 d X W) (hb : b0 = true) {o : Oper} (s x : Operand) (t : TypeId) (hi : ops[i]? = some o) (hgd : o.guard = none) (ho : o.op = .call { callee := .builtin .append, args := #[s, x], argTypes := #[t, t] }) (hd : o.dst = some 49)
    (ht : P.underlying t = some (.slice e)) (hin : Infos P e size bytes) (hs : (fill D7 X A).eval s = V0) (hx : (fill D7 X A).eval x = X 48) (hl : U0.length = size) (hsz : 0 < size) (h1 : ∀ u ∈ U0, u.oneCell' = true) (hn : n ≤ 2000000) (hby : bytes ≤ 1000) (hbase : base ≤ W.heap.size)
    (hK : ∀ v' W', PInv e size base W0 A V0 V1 V2 n Y0 Y1 Y2 U0 U1 U2 pp b0 b1 b2 true c1 c2 d (upd X 49 v') W' → K (fill D7 (upd X 49 v') A) W') {Q : Exit → Act → World → Prop} : wpOp P ops Q i K (fill D7 X A) W := by
  refine wpOp_of_list hi (Tri.append (d := 0) (by omega) I.tri (I.p0 hb) hgd s x t ho ht hin hs hx hl hsz h1 hn hby hbase (fun v' W' k1 k2 k3 k4 h1 => ?_))
  rw [hd, put_fill_in (by decide)]
  refine hK v' W' ⟨I.sub.trans k2, k1.congr (lt3 rfl rfl rfl) (lt3 rfl rfl rfl) (lt3 rfl rfl rfl), fun h => ?_, fun h => ?_, fun h => ?_, I.pp, fun _ => h1, I.o1, I.o2⟩
  · exact ((I.p0 h).grow (by omega) I.tri k3 k4).congr (lt3 rfl rfl rfl)
  · exact ((I.p1 h).grow (by omega) I.tri k3 k4).congr (lt3 rfl rfl rfl)
  · exact ((I.p2 h).grow (by omega) I.tri k3 k4).congr (lt3 rfl rfl rfl)
theorem PInv.app1 {e : TypeId} {size base : Nat} {W0 : World} {A : Act} {V0 V1 V2 : Value} {n : Nat} {Y0 Y1 Y2 U0 U1 U2 : List Value} {pp : Value} {b0 b1 b2 c0 c2 d : Bool} {X : Nat → Value} {W : World} {P : Program} {ops : Array Oper} {i : Nat} {K : Act → World → Prop} {bytes : Nat} (I : PInv e size base W0 A V0 V1 V2 n Y0 Y1 Y2 U0 U1 U2 pp b0 b1 b2 c0 false c2 d X W) (hb : b1 = true) {o : Oper} (s x : Operand) (t : TypeId) (hi : ops[i]? = some o) (hgd : o.guard = none) (ho : o.op = .call { callee := .builtin .append, args := #[s, x], argTypes := #[t, t] }) (hd : o.dst = some 54)
    (ht : P.underlying t = some (.slice e)) (hin : Infos P e size bytes) (hs : (fill D7 X A).eval s = V1) (hx : (fill D7 X A).eval x = X 53) (hl : U1.length = size) (hsz : 0 < size) (h1 : ∀ u ∈ U1, u.oneCell' = true) (hn : n ≤ 2000000) (hby : bytes ≤ 1000) (hbase : base ≤ W.heap.size)
    (hK : ∀ v' W', PInv e size base W0 A V0 V1 V2 n Y0 Y1 Y2 U0 U1 U2 pp b0 b1 b2 c0 true c2 d (upd X 54 v') W' → K (fill D7 (upd X 54 v') A) W') {Q : Exit → Act → World → Prop} : wpOp P ops Q i K (fill D7 X A) W := by
  refine wpOp_of_list hi (Tri.append (d := 1) (by omega) I.tri (I.p1 hb) hgd s x t ho ht hin hs hx hl hsz h1 hn hby hbase (fun v' W' k1 k2 k3 k4 h1 => ?_))
  rw [hd, put_fill_in (by decide)]
  refine hK v' W' ⟨I.sub.trans k2, k1.congr (lt3 rfl rfl rfl) (lt3 rfl rfl rfl) (lt3 rfl rfl rfl), fun h => ?_, fun h => ?_, fun h => ?_, I.pp, I.o0, fun _ => h1, I.o2⟩
  · exact ((I.p0 h).grow (by omega) I.tri k3 k4).congr (lt3 rfl rfl rfl)
  · exact ((I.p1 h).grow (by omega) I.tri k3 k4).congr (lt3 rfl rfl rfl)
  · exact ((I.p2 h).grow (by omega) I.tri k3 k4).congr (lt3 rfl rfl rfl)
theorem PInv.app2 {e : TypeId} {size base : Nat} {W0 : World} {A : Act} {V0 V1 V2 : Value} {n : Nat} {Y0 Y1 Y2 U0 U1 U2 : List Value} {pp : Value} {b0 b1 b2 c0 c1 d : Bool} {X : Nat → Value} {W : World} {P : Program} {ops : Array Oper} {i : Nat} {K : Act → World → Prop} {bytes : Nat} (I : PInv e size base W0 A V0 V1 V2 n Y0 Y1 Y2 U0 U1 U2 pp b0 b1 b2 c0 c1 false d X W) (hb : b2 = true) {o : Oper} (s x : Operand) (t : TypeId) (hi : ops[i]? = some o) (hgd : o.guard = none) (ho : o.op = .call { callee := .builtin .append, args := #[s, x], argTypes := #[t, t] }) (hd : o.dst = some 59)
    (ht : P.underlying t = some (.slice e)) (hin : Infos P e size bytes) (hs : (fill D7 X A).eval s = V2) (hx : (fill D7 X A).eval x = X 58) (hl : U2.length = size) (hsz : 0 < size) (h1 : ∀ u ∈ U2, u.oneCell' = true) (hn : n ≤ 2000000) (hby : bytes ≤ 1000) (hbase : base ≤ W.heap.size)
    (hK : ∀ v' W', PInv e size base W0 A V0 V1 V2 n Y0 Y1 Y2 U0 U1 U2 pp b0 b1 b2 c0 c1 true d (upd X 59 v') W' → K (fill D7 (upd X 59 v') A) W') {Q : Exit → Act → World → Prop} : wpOp P ops Q i K (fill D7 X A) W := by
  refine wpOp_of_list hi (Tri.append (d := 2) (by omega) I.tri (I.p2 hb) hgd s x t ho ht hin hs hx hl hsz h1 hn hby hbase (fun v' W' k1 k2 k3 k4 h1 => ?_))
  rw [hd, put_fill_in (by decide)]
  refine hK v' W' ⟨I.sub.trans k2, k1.congr (lt3 rfl rfl rfl) (lt3 rfl rfl rfl) (lt3 rfl rfl rfl), fun h => ?_, fun h => ?_, fun h => ?_, I.pp, I.o0, I.o1, fun _ => h1⟩
  · exact ((I.p0 h).grow (by omega) I.tri k3 k4).congr (lt3 rfl rfl rfl)
  · exact ((I.p1 h).grow (by omega) I.tri k3 k4).congr (lt3 rfl rfl rfl)
  · exact ((I.p2 h).grow (by omega) I.tri k3 k4).congr (lt3 rfl rfl rfl)
theorem fork3 {P : Program} {ops : Array Oper} {Q : Exit → Act → World → Prop} {C : World → Prop} {Z : Nat → Bool} {e : TypeId} {size base bytes : Nat} {W0 : World} {A : Act} {V0 V1 V2 : Value} {n : Nat} {Y0 Y1 Y2 U0 U1 U2 : List Value} {pp : Value} {cs0 cs1 cs2 : Array Value} {g : Nat} (hr : ready7 ops = true)
    (hC : ∀ W, Sub base [e] W0 W → C W)
    (hB0 : ∀ X W K, K (fill D7 (upd X 48 (.slice (some ⟨W.heap.size, 0, none⟩) 1 1)) A) (W.alloc (.cells cs0 e (0, 0))) → wpOp P ops Q 3 K (fill D7 X A) W)
    (hB1 : ∀ X W K, K (fill D7 (upd X 53 (.slice (some ⟨W.heap.size, 0, none⟩) 1 1)) A) (W.alloc (.cells cs1 e (0, 0))) → wpOp P ops Q 8 K (fill D7 X A) W)
    (hB2 : ∀ X W K, K (fill D7 (upd X 58 (.slice (some ⟨W.heap.size, 0, none⟩) 1 1)) A) (W.alloc (.cells cs2 e (0, 0))) → wpOp P ops Q 13 K (fill D7 X A) W)
    (hA0 : ∃ o s x t, ops[4]? = some o ∧ o.guard = none ∧ o.op = .call { callee := .builtin .append, args := #[s, x], argTypes := #[t, t] } ∧ o.dst = some 49 ∧ P.underlying t = some (.slice e) ∧ ∀ X, (fill D7 X A).eval s = V0 ∧ (fill D7 X A).eval x = X 48)
    (hA1 : ∃ o s x t, ops[9]? = some o ∧ o.guard = none ∧ o.op = .call { callee := .builtin .append, args := #[s, x], argTypes := #[t, t] } ∧ o.dst = some 54 ∧ P.underlying t = some (.slice e) ∧ ∀ X, (fill D7 X A).eval s = V1 ∧ (fill D7 X A).eval x = X 53)
    (hA2 : ∃ o s x t, ops[14]? = some o ∧ o.guard = none ∧ o.op = .call { callee := .builtin .append, args := #[s, x], argTypes := #[t, t] } ∧ o.dst = some 59 ∧ P.underlying t = some (.slice e) ∧ ∀ X, (fill D7 X A).eval s = V2 ∧ (fill D7 X A).eval x = X 58)
    (hD : ∀ X W K, K (fill D7 (upd X 60 pp) A) W → wpOp P ops Q 15 K (fill D7 X A) W)
    (hin : Infos P e size bytes) (he0 : cs0.toList = U0) (he1 : cs1.toList = U1) (he2 : cs2.toList = U2) (hl0 : U0.length = size) (hl1 : U1.length = size) (hl2 : U2.length = size) (hsz : 0 < size) (h10 : ∀ u ∈ U0, u.oneCell' = true) (h11 : ∀ u ∈ U1, u.oneCell' = true) (h12 : ∀ u ∈ U2, u.oneCell' = true) (hn : n ≤ 2000000) (hby : bytes ≤ 1000) (hbase : base ≤ W0.heap.size)
    (hT : Tri e size base W0 (tri V0 V1 V2) (fun _ => n) (tri Y0 Y1 Y2))
    (hend : ∀ X W, PInv e size base W0 A V0 V1 V2 n Y0 Y1 Y2 U0 U1 U2 pp true true true true true true true X W → wpAnyZ P .any ops Q C Z g (LL true true true true true true true) (fill D7 X A) W) :
    wpAnyZ P .any ops Q C Z (7 + g) (LL false false false false false false false) A W0 := by
  refine wpAnyZ_inv (I := fun k listed a W => ∃ (b0 b1 b2 c0 c1 c2 d : Bool) (X : Nat → Value), listed = LL b0 b1 b2 c0 c1 c2 d ∧ ok7 b0 b1 b2 c0 c1 c2 d = true ∧ k + cnt7 b0 b1 b2 c0 c1 c2 d = 7 ∧ a = fill D7 X A ∧ PInv e size base W0 A V0 V1 V2 n Y0 Y1 Y2 U0 U1 U2 pp b0 b1 b2 c0 c1 c2 d X W) ?_ ?_ 7 _ _ _ ?_
  · rintro listed a W ⟨b0, b1, b2, c0, c1, c2, d, X, rfl, hok, hk, rfl, I⟩
    have h : b0 = true ∧ b1 = true ∧ b2 = true ∧ c0 = true ∧ c1 = true ∧ c2 = true ∧ d = true := by
      clear I hok
      cases b0 <;> cases b1 <;> cases b2 <;> cases c0 <;> cases c1 <;> cases c2 <;> cases d <;> first | (simp [cnt7] at hk; done) | simp
    obtain ⟨rfl, rfl, rfl, rfl, rfl, rfl, rfl⟩ := h
    exact hend X W I
  · rintro k listed a W ⟨b0, b1, b2, c0, c1, c2, d, X, rfl, hok, hk, rfl, I⟩
    have hs := ready7_spec hr hok (by omega)
    refine ⟨hs.1, fun i hi => ?_⟩
    have hm := hs.2 i hi
    clear hs hi
    have hbW : base ≤ W.heap.size := Nat.le_trans hbase I.sub.size
    simp only [may7, Bool.or_eq_true, Bool.and_eq_true, beq_iff_eq, Bool.not_eq_true'] at hm
    rcases hm with (((((⟨rfl, rfl⟩ | ⟨rfl, rfl⟩) | ⟨rfl, rfl⟩) | ⟨⟨rfl, rfl⟩, rfl⟩) | ⟨⟨⟨rfl, rfl⟩, rfl⟩, rfl⟩) | ⟨⟨⟨rfl, rfl⟩, rfl⟩, rfl⟩) | ⟨⟨rfl, rfl⟩, rfl⟩
    · exact hB0 X W _ ⟨fun _ => hC _ (I.new0 he0).sub, true, b1, b2, c0, c1, c2, d, _, rfl, by revert hok; clear I hk; revert b1 b2 c0 c1 c2 d; decide, by revert hk; simp [cnt7]; omega, rfl, I.new0 he0⟩
    · exact hB1 X W _ ⟨fun _ => hC _ (I.new1 he1).sub, b0, true, b2, c0, c1, c2, d, _, rfl, by revert hok; clear I hk; revert b0 b2 c0 c1 c2 d; decide, by revert hk; simp [cnt7]; omega, rfl, I.new1 he1⟩
    · exact hB2 X W _ ⟨fun _ => hC _ (I.new2 he2).sub, b0, b1, true, c0, c1, c2, d, _, rfl, by revert hok; clear I hk; revert b0 b1 c0 c1 c2 d; decide, by revert hk; simp [cnt7]; omega, rfl, I.new2 he2⟩
    · obtain ⟨o, s, x, t, h1, h2, h3, h4, h5, h6⟩ := hA0
      exact I.app0 rfl s x t h1 h2 h3 h4 h5 hin (h6 X).1 (h6 X).2 hl0 hsz h10 hn hby hbW (fun v' W' J => ⟨fun _ => hC _ J.sub, true, b1, b2, true, c1, c2, d, _, rfl, by revert hok; clear I J hk; revert b1 b2 c1 c2 d; decide, by revert hk; simp [cnt7]; omega, rfl, J⟩)
    · obtain ⟨o, s, x, t, h1, h2, h3, h4, h5, h6⟩ := hA1
      exact I.app1 rfl s x t h1 h2 h3 h4 h5 hin (h6 X).1 (h6 X).2 hl1 hsz h11 hn hby hbW (fun v' W' J => ⟨fun _ => hC _ J.sub, b0, true, b2, true, true, c2, d, _, rfl, by revert hok; clear I J hk; revert b0 b2 c2 d; decide, by revert hk; simp [cnt7]; omega, rfl, J⟩)
    · obtain ⟨o, s, x, t, h1, h2, h3, h4, h5, h6⟩ := hA2
      exact I.app2 rfl s x t h1 h2 h3 h4 h5 hin (h6 X).1 (h6 X).2 hl2 hsz h12 hn hby hbW (fun v' W' J => ⟨fun _ => hC _ J.sub, b0, b1, true, c0, true, true, d, _, rfl, by revert hok; clear I J hk; revert b0 b1 c0 d; decide, by revert hk; simp [cnt7]; omega, rfl, J⟩)
    · exact hD X W _ ⟨fun _ => hC _ I.sub, b0, b1, b2, true, c1, c2, true, _, rfl, by revert hok; clear I hk; revert b0 b1 b2 c1 c2; decide, by revert hk; simp [cnt7]; omega, rfl, ⟨I.sub, I.tri, I.p0, I.p1, I.p2, fun _ => rfl, I.o0, I.o1, I.o2⟩⟩
  · refine ⟨false, false, false, false, false, false, false, fun t => A.tmps.getD t undef, rfl, rfl, rfl, (fill_self _ _).symm, Sub.refl _ _ _, hT.congr (lt3 rfl rfl rfl) (lt3 rfl rfl rfl) (lt3 rfl rfl rfl), ?_, ?_, ?_, ?_, ?_, ?_, ?_⟩ <;> exact fun h => nomatch h
theorem wpOp_fill {P : Program} {ops : Array Oper} {Q : Exit → Act → World → Prop} {i : Nat} {o : Oper} {K : Act → World → Prop} {A : Act} {X : Nat → Value} {w w' : World} {v : Value} (d : Nat) (hi : ops[i]? = some o) (hg : o.guard = none) (hd : o.dst = some d) (hm : d ∈ D7) (hr : (execOp (fill D7 X A).eval o).run P w = .ok (.value v) w') (h : K (fill D7 (upd X d v) A) w') : wpOp P ops Q i K (fill D7 X A) w :=
  wpOp_val hi hg hr (by rw [hd, put_fill_in hm]; exact h)
end Go.Proofs.Ytgegmlhpdpdnfaa
