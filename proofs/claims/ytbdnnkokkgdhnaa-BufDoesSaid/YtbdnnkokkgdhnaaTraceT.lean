/- One recorder, or two, and what else lies there. -/
import Derived.Test.YtbdnnkokkgdhnaaTraceC
namespace Go.Proofs.Ytbdnnkokkgdhnaa
open Go.RowKit

/-- Two footprints of blocks made since w0, apart from each other and from X. -/
structure T2 (w0 W : World) (fp fq X : List Nat) : Prop where
  low : ∀ x, x ∈ fp ∨ x ∈ fq → w0.heap.size ≤ x
  disj : ∀ x ∈ fp, x ∉ fq
  px : ∀ x ∈ X, x ∉ fp ∧ x ∉ fq
  lt : ∀ x, x ∈ fp ∨ x ∈ fq ∨ x ∈ X → x < W.heap.size
  below : Below w0.heap.size w0 W
def Kept (X : List Nat) (W W' : World) : Prop := (∀ x ∈ X, W'.heap[x]? = W.heap[x]?) ∧ W.heap.size ≤ W'.heap.size
theorem Kept.blk {X : List Nat} {W W' : World} (h : Kept X W W') : ∀ x ∈ X, W'.heap[x]? = W.heap[x]? := h.1
theorem Kept.cell {X : List Nat} {W W' : World} (h : Kept X W W') {b o : Nat} {v : Value} (hb : b ∈ X) (hc : W.cell? ⟨b, o, none⟩ = some v) : W'.cell? ⟨b, o, none⟩ = some v := (World.cell?_of_block (a := ⟨b, o, none⟩) (h.1 b hb)).trans hc
theorem Kept.free {X : List Nat} {W W' : World} (h : Kept X W W') {b o : Nat} (hb : b ∈ X) (hc : W.frozen? ⟨b, o, none⟩ = false) : W'.frozen? ⟨b, o, none⟩ = false := (World.frozen?_of_block (a := ⟨b, o, none⟩) (h.1 b hb)).trans hc
theorem Kept.at_ {X : List Nat} {W W' : World} (h : Kept X W W') {b : Nat} {o : Obj} (hb : b ∈ X) (hc : W.heap[b]? = some o) : W'.heap[b]? = some o := (h.1 b hb).trans hc
theorem T2.swap {w0 W : World} {fp fq X : List Nat} (h : T2 w0 W fp fq X) : T2 w0 W fq fp X :=
  ⟨fun x hx => h.low x hx.symm, fun x hx hy => h.disj x hy hx, fun x hx => (h.px x hx).symm, fun x hx => h.lt x (by rcases hx with h1 | h1 | h1 <;> simp [h1]), h.below⟩
theorem T2.left {w0 W W' : World} {fp fq X fp' : List Nat} (h : T2 w0 W fp fq X) (hm : Moved fp W W') (hf : Fresh W fp fp') (hl : ∀ x ∈ fp', x < W'.heap.size) :
    T2 w0 W' fp' fq X ∧ Kept X W W' ∧ ∀ x ∈ fq, W'.heap[x]? = W.heap[x]? := by
  have hs := h.below.size
  have kx : ∀ x, x ∈ fq ∨ x ∈ X → x ∉ fp := fun x hx hy => by
    rcases hx with h1 | h1
    · exact h.disj x hy h1
    · exact (h.px x h1).1 hy
  have kl : ∀ x, x ∈ fq ∨ x ∈ X → x < W.heap.size := fun x hx => h.lt x (.inr hx)
  have kn : ∀ x, x ∈ fq ∨ x ∈ X → x ∉ fp' := fun x hx hy => by
    rcases hf x hy with h1 | h1
    · exact kx x hx h1
    · have := kl x hx; omega
  refine ⟨⟨fun x hx => ?_, fun x hx hy => kn x (.inl hy) hx, fun x hx => ⟨kn x (.inr hx), (h.px x hx).2⟩, fun x hx => ?_, ?_⟩, ⟨fun x hx => hm.block x (kl x (.inr hx)) (kx x (.inr hx)), hm.size⟩, fun x hx => hm.block x (kl x (.inl hx)) (kx x (.inl hx))⟩
  · rcases hx with hx | hx
    · rcases hf x hx with h1 | h1
      · exact h.low x (.inl h1)
      · omega
    · exact h.low x (.inr hx)
  · rcases hx with hx | hx
    · exact hl x hx
    · exact Nat.lt_of_lt_of_le (kl x hx) hm.size
  · exact h.below.trans (hm.toBelow hs fun x hx => h.low x (.inl hx))
theorem T2.calm {w0 W W' : World} {fp fq X : List Nat} (h : T2 w0 W fp fq X) (hb : Below W.heap.size W W') : T2 w0 W' fp fq X :=
  ⟨h.low, h.disj, h.px, fun x hx => Nat.lt_of_lt_of_le (h.lt x hx) hb.size, gr2 h.below hb⟩
/-- Blocks made since W lie apart. -/
theorem T2.more {w0 W W' : World} {fp fq X : List Nat} (h : T2 w0 W fp fq X) (hb : Below W.heap.size W W') (b : Nat) (hb1 : W.heap.size ≤ b) (hb2 : b < W'.heap.size) : T2 w0 W' fp fq (b :: X) := by
  have k := h.calm hb
  refine ⟨k.low, k.disj, fun x hx => ?_, fun x hx => ?_, k.below⟩
  · rcases List.mem_cons.1 hx with rfl | hx
    · exact ⟨fun hy => by have := h.lt x (.inl hy); omega, fun hy => by have := h.lt x (.inr (.inl hy)); omega⟩
    · exact k.px x hx
  · rcases hx with hx | hx | hx
    · exact k.lt x (.inl hx)
    · exact k.lt x (.inr (.inl hx))
    · rcases List.mem_cons.1 hx with rfl | hx
      · exact hb2
      · exact k.lt x (.inr (.inr hx))
theorem T2.set {w0 W : World} {fp fq X : List Nat} (h : T2 w0 W fp fq X) {b i : Nat} (hb : w0.heap.size ≤ b) (v : Value) : T2 w0 (W.setCell ⟨b, i, none⟩ v) fp fq X := by
  have hs : (W.setCell ⟨b, i, none⟩ v).heap.size = W.heap.size := size_set _ _ _
  exact ⟨h.low, h.disj, h.px, fun x hx => by rw [hs]; exact h.lt x hx, gr4 h.below hb v⟩
theorem T2.less {w0 W : World} {fp fq X Y : List Nat} (h : T2 w0 W fp fq X) (hY : ∀ x ∈ Y, x ∈ X) : T2 w0 W fp fq Y :=
  ⟨h.low, h.disj, fun x hx => h.px x (hY x hx), fun x hx => h.lt x (by rcases hx with h1 | h1 | h1 <;> simp [h1, hY]), h.below⟩
def One (w0 W : World) (g : Nat) (S : St) (X : List Nat) : Prop := ∃ fp, Rc W g S fp ∧ T2 w0 W fp [] X
def Two (w0 W : World) (g : Nat) (S : St) (h : Nat) (R : St) (X : List Nat) : Prop := ∃ fp fq, Rc W g S fp ∧ Rc W h R fq ∧ T2 w0 W fp fq X
theorem Two.swap {w0 W : World} {g h : Nat} {S R : St} {X : List Nat} : Two w0 W g S h R X → Two w0 W h R g S X := fun ⟨fp, fq, h1, h2, h3⟩ => ⟨fq, fp, h2, h1, h3.swap⟩
theorem Two.below {w0 W : World} {g h : Nat} {S R : St} {X : List Nat} : Two w0 W g S h R X → Below w0.heap.size w0 W := fun ⟨_, _, _, _, h3⟩ => h3.below
theorem One.below {w0 W : World} {g : Nat} {S : St} {X : List Nat} : One w0 W g S X → Below w0.heap.size w0 W := fun ⟨_, _, h3⟩ => h3.below
theorem Two.rn {w0 W : World} {g h : Nat} {S R : St} {X : List Nat} : Two w0 W g S h R X → Rn W (some ⟨g, 0, none⟩) S ∧ Rn W (some ⟨h, 0, none⟩) R := fun ⟨_, _, h1, h2, _⟩ => ⟨h1.rn, h2.rn⟩
theorem One.rn {w0 W : World} {g : Nat} {S : St} {X : List Nat} : One w0 W g S X → Rn W (some ⟨g, 0, none⟩) S := fun ⟨_, h1, _⟩ => h1.rn
theorem Two.calm {w0 W W' : World} {g h : Nat} {S R : St} {X : List Nat} (hb : Below W.heap.size W W') : Two w0 W g S h R X → Two w0 W' g S h R X := fun ⟨fp, fq, h1, h2, h3⟩ => ⟨fp, fq, h1.below hb, h2.below hb, h3.calm hb⟩
theorem One.calm {w0 W W' : World} {g : Nat} {S : St} {X : List Nat} (hb : Below W.heap.size W W') : One w0 W g S X → One w0 W' g S X := fun ⟨fp, h1, h3⟩ => ⟨fp, h1.below hb, h3.calm hb⟩
theorem Two.more {w0 W W' : World} {g h : Nat} {S R : St} {X : List Nat} (k : Two w0 W g S h R X) (hb : Below W.heap.size W W') (b : Nat) (hb1 : W.heap.size ≤ b) (hb2 : b < W'.heap.size) : Two w0 W' g S h R (b :: X) := by
  obtain ⟨fp, fq, h1, h2, h3⟩ := k; exact ⟨fp, fq, h1.below hb, h2.below hb, h3.more hb b hb1 hb2⟩
theorem One.more {w0 W W' : World} {g : Nat} {S : St} {X : List Nat} (k : One w0 W g S X) (hb : Below W.heap.size W W') (b : Nat) (hb1 : W.heap.size ≤ b) (hb2 : b < W'.heap.size) : One w0 W' g S (b :: X) := by
  obtain ⟨fp, h1, h3⟩ := k; exact ⟨fp, h1.below hb, h3.more hb b hb1 hb2⟩
theorem Two.set {w0 W : World} {g h : Nat} {S R : St} {X : List Nat} (k : Two w0 W g S h R X) {b i : Nat} (hb : b ∈ X) (hl : w0.heap.size ≤ b) (v : Value) : Two w0 (W.setCell ⟨b, i, none⟩ v) g S h R X := by
  obtain ⟨fp, fq, h1, h2, h3⟩ := k
  have hx := h3.px b hb
  exact ⟨fp, fq, h1.frame fun x hx' => heap_setCell_other _ ⟨b, i, none⟩ x _ (fun e => hx.1 (by have e : x = b := e; rw [← e]; exact hx')), h2.frame fun x hx' => heap_setCell_other _ ⟨b, i, none⟩ x _ (fun e => hx.2 (by have e : x = b := e; rw [← e]; exact hx')), h3.set hl v⟩
theorem Two.less {w0 W : World} {g h : Nat} {S R : St} {X Y : List Nat} (k : Two w0 W g S h R X) (hY : ∀ x ∈ Y, x ∈ X) : Two w0 W g S h R Y := by
  obtain ⟨fp, fq, h1, h2, h3⟩ := k; exact ⟨fp, fq, h1, h2, h3.less hY⟩
theorem one_new (w : World) : One w (w.alloc (.cells #[.slice none 0 0] 84)) w.heap.size [] [] :=
  ⟨_, rc_new w, ⟨fun x hx => (by simp at hx; omega), fun x _ hy => (nomatch hy), fun x hx => (nomatch hx), fun x hx => (by simp at hx; simp; omega), gr1 (gr0 w) _⟩⟩
/-- A first recorder, where others' blocks lie already. -/
theorem one_new_at {w0 W : World} (hb : Below w0.heap.size w0 W) : One w0 (W.alloc (.cells #[.slice none 0 0] 84)) W.heap.size [] [] :=
  ⟨_, rc_new W, ⟨fun x hx => (by have := hb.size; simp at hx; omega), fun x _ hy => (nomatch hy), fun x hx => (nomatch hx), fun x hx => (by simp at hx; simp; omega), gr1 hb _⟩⟩
theorem two_new {w0 W : World} {g : Nat} {S : St} {X : List Nat} (h : One w0 W g S X) : Two w0 (W.alloc (.cells #[.slice none 0 0] 84)) g S W.heap.size [] X := by
  obtain ⟨fp, h1, h3⟩ := h
  have hb := gr1 (gr0 W) (.cells #[.slice none 0 0] 84)
  have hs := h3.below.size
  refine ⟨fp, _, h1.below hb, rc_new W, ⟨fun x hx => ?_, fun x hx hy => ?_, fun x hx => ⟨(h3.px x hx).1, fun hy => ?_⟩, fun x hx => ?_, gr2 h3.below hb⟩⟩
  · rcases hx with hx | hx
    · exact h3.low x (.inl hx)
    · simp at hx; omega
  · have := h3.lt x (.inl hx); simp at hy; omega
  · have := h3.lt x (.inr (.inr hx)); simp at hy; omega
  · simp only [World.size_alloc]
    rcases hx with hx | hx | hx
    · have := h3.lt x (.inl hx); omega
    · simp at hx; omega
    · have := h3.lt x (.inr (.inr hx)); omega
/-- What a call leaves that records with the first of two. -/
def Adds (w0 W W' : World) (g : Nat) (S' : St) (h : Nat) (R : St) (X : List Nat) : Prop := Two w0 W' g S' h R X ∧ Kept X W W'
theorem adds_left {w0 W W' : World} {g h : Nat} {S' R : St} {X fp fq fp' : List Nat} (h1 : Rc W h R fq) (h3 : T2 w0 W fp fq X) (hr : Rc W' g S' fp') (hm : Moved fp W W') (hf : Fresh W fp fp') : Adds w0 W W' g S' h R X := by
  obtain ⟨k1, k2, k3⟩ := h3.left hm hf hr.lt
  exact ⟨⟨fp', fq, hr, h1.frame k3, k1⟩, k2⟩
theorem one_left {w0 W W' : World} {g : Nat} {S' : St} {X fp fp' : List Nat} (h3 : T2 w0 W fp [] X) (hr : Rc W' g S' fp') (hm : Moved fp W W') (hf : Fresh W fp fp') : One w0 W' g S' X ∧ Kept X W W' := by
  obtain ⟨k1, k2, _⟩ := h3.left hm hf hr.lt
  exact ⟨⟨fp', hr, k1⟩, k2⟩
theorem One.less {w0 W : World} {g : Nat} {S : St} {X Y : List Nat} (k : One w0 W g S X) (hY : ∀ x ∈ Y, x ∈ X) : One w0 W g S Y := by
  obtain ⟨fp, h1, h3⟩ := k; exact ⟨fp, h1, h3.less hY⟩

theorem idx_1 {w0 W : World} {g : Nat} {S : St} {X : List Nat} (k : One w0 W g S X) (hS : S.length ≤ 1000000) (n : Int) (hI : I64 n) :
    Calls Try.prog 76 #[.pointer (some ⟨g, 0, none⟩), .int .i64 n] W fun e W' => e = .returned (.tuple #[]) ∧ One w0 W' g (addS S (1, n)) X ∧ Kept X W W' := by
  obtain ⟨fp, h1, h3⟩ := k
  refine (idx_ h1 hS n hI).mono ?_
  rintro e W' ⟨rfl, fp', r, m, f⟩
  exact ⟨rfl, one_left h3 r m f⟩

theorem idx_l {w0 W : World} {g h : Nat} {S R : St} {X : List Nat} (k : Two w0 W g S h R X) (hS : S.length ≤ 1000000) (n : Int) (hI : I64 n) :
    Calls Try.prog 76 #[.pointer (some ⟨g, 0, none⟩), .int .i64 n] W fun e W' => e = .returned (.tuple #[]) ∧ Two w0 W' g (addS S (1, n)) h R X ∧ Kept X W W' := by
  obtain ⟨fp, fq, h1, h2, h3⟩ := k
  refine (idx_ h1 hS n hI).mono ?_
  rintro e W' ⟨rfl, fp', r, m, f⟩
  exact ⟨rfl, adds_left h2 h3 r m f⟩
theorem idx_r {w0 W : World} {g h : Nat} {S R : St} {X : List Nat} (k : Two w0 W g S h R X) (hR : R.length ≤ 1000000) (n : Int) (hI : I64 n) :
    Calls Try.prog 76 #[.pointer (some ⟨h, 0, none⟩), .int .i64 n] W fun e W' => e = .returned (.tuple #[]) ∧ Two w0 W' g S h (addS R (1, n)) X ∧ Kept X W W' :=
  (idx_l k.swap hR n hI).mono fun _ _ ⟨h1, h2, h3⟩ => ⟨h1, h2.swap, h3⟩

theorem br_1 {w0 W : World} {g : Nat} {S : St} {X : List Nat} (k : One w0 W g S X) (hS : S.length ≤ 1000000) (n : Int) (hI : I64 n) :
    Calls Try.prog 81 #[.pointer (some ⟨g, 0, none⟩), .int .i64 n] W fun e W' => e = .returned (.tuple #[]) ∧ One w0 W' g (addS S (2, n)) X ∧ Kept X W W' := by
  obtain ⟨fp, h1, h3⟩ := k
  refine (br_ h1 hS n hI).mono ?_
  rintro e W' ⟨rfl, fp', r, m, f⟩
  exact ⟨rfl, one_left h3 r m f⟩

theorem br_l {w0 W : World} {g h : Nat} {S R : St} {X : List Nat} (k : Two w0 W g S h R X) (hS : S.length ≤ 1000000) (n : Int) (hI : I64 n) :
    Calls Try.prog 81 #[.pointer (some ⟨g, 0, none⟩), .int .i64 n] W fun e W' => e = .returned (.tuple #[]) ∧ Two w0 W' g (addS S (2, n)) h R X ∧ Kept X W W' := by
  obtain ⟨fp, fq, h1, h2, h3⟩ := k
  refine (br_ h1 hS n hI).mono ?_
  rintro e W' ⟨rfl, fp', r, m, f⟩
  exact ⟨rfl, adds_left h2 h3 r m f⟩
theorem br_r {w0 W : World} {g h : Nat} {S R : St} {X : List Nat} (k : Two w0 W g S h R X) (hR : R.length ≤ 1000000) (n : Int) (hI : I64 n) :
    Calls Try.prog 81 #[.pointer (some ⟨h, 0, none⟩), .int .i64 n] W fun e W' => e = .returned (.tuple #[]) ∧ Two w0 W' g S h (addS R (2, n)) X ∧ Kept X W W' :=
  (br_l k.swap hR n hI).mono fun _ _ ⟨h1, h2, h3⟩ => ⟨h1, h2.swap, h3⟩

theorem opens_1 {w0 W : World} {g : Nat} {S : St} {X : List Nat} (k : One w0 W g S X) (hS : S.length ≤ 1000000) :
    Calls Try.prog 51 #[.pointer (some ⟨g, 0, none⟩)] W fun e W' => e = .returned (.tuple #[]) ∧ One w0 W' g (addS S (3, 0)) X ∧ Kept X W W' := by
  obtain ⟨fp, h1, h3⟩ := k
  refine (opens_ h1 hS ).mono ?_
  rintro e W' ⟨rfl, fp', r, m, f⟩
  exact ⟨rfl, one_left h3 r m f⟩

theorem opens_l {w0 W : World} {g h : Nat} {S R : St} {X : List Nat} (k : Two w0 W g S h R X) (hS : S.length ≤ 1000000) :
    Calls Try.prog 51 #[.pointer (some ⟨g, 0, none⟩)] W fun e W' => e = .returned (.tuple #[]) ∧ Two w0 W' g (addS S (3, 0)) h R X ∧ Kept X W W' := by
  obtain ⟨fp, fq, h1, h2, h3⟩ := k
  refine (opens_ h1 hS ).mono ?_
  rintro e W' ⟨rfl, fp', r, m, f⟩
  exact ⟨rfl, adds_left h2 h3 r m f⟩
theorem opens_r {w0 W : World} {g h : Nat} {S R : St} {X : List Nat} (k : Two w0 W g S h R X) (hR : R.length ≤ 1000000) :
    Calls Try.prog 51 #[.pointer (some ⟨h, 0, none⟩)] W fun e W' => e = .returned (.tuple #[]) ∧ Two w0 W' g S h (addS R (3, 0)) X ∧ Kept X W W' :=
  (opens_l k.swap hR ).mono fun _ _ ⟨h1, h2, h3⟩ => ⟨h1, h2.swap, h3⟩

theorem idxp_1 {w0 W : World} {g : Nat} {E : List Ev} {X : List Nat} (k : One w0 W g (pst E) X) (hS : E.length ≤ 1000000) (n : Int) (hI : I64 n) :
    Calls Try.prog 76 #[.pointer (some ⟨g, 0, none⟩), .int .i64 n] W fun e W' => e = .returned (.tuple #[]) ∧ One w0 W' g (pst (E ++ [(1, n)])) X ∧ Kept X W W' := by
  rw [pst_snoc]; exact idx_1 k (Nat.le_trans (pst_len E) hS) n hI
theorem idxp_l {w0 W : World} {g h : Nat} {E : List Ev} {R : St} {X : List Nat} (k : Two w0 W g (pst E) h R X) (hS : E.length ≤ 1000000) (n : Int) (hI : I64 n) :
    Calls Try.prog 76 #[.pointer (some ⟨g, 0, none⟩), .int .i64 n] W fun e W' => e = .returned (.tuple #[]) ∧ Two w0 W' g (pst (E ++ [(1, n)])) h R X ∧ Kept X W W' := by
  rw [pst_snoc]; exact idx_l k (Nat.le_trans (pst_len E) hS) n hI
theorem idxp_r {w0 W : World} {g h : Nat} {S : St} {E : List Ev} {X : List Nat} (k : Two w0 W g S h (pst E) X) (hS : E.length ≤ 1000000) (n : Int) (hI : I64 n) :
    Calls Try.prog 76 #[.pointer (some ⟨h, 0, none⟩), .int .i64 n] W fun e W' => e = .returned (.tuple #[]) ∧ Two w0 W' g S h (pst (E ++ [(1, n)])) X ∧ Kept X W W' := by
  rw [pst_snoc]; exact idx_r k (Nat.le_trans (pst_len E) hS) n hI

theorem brp_1 {w0 W : World} {g : Nat} {E : List Ev} {X : List Nat} (k : One w0 W g (pst E) X) (hS : E.length ≤ 1000000) (n : Int) (hI : I64 n) :
    Calls Try.prog 81 #[.pointer (some ⟨g, 0, none⟩), .int .i64 n] W fun e W' => e = .returned (.tuple #[]) ∧ One w0 W' g (pst (E ++ [(2, n)])) X ∧ Kept X W W' := by
  rw [pst_snoc]; exact br_1 k (Nat.le_trans (pst_len E) hS) n hI
theorem brp_l {w0 W : World} {g h : Nat} {E : List Ev} {R : St} {X : List Nat} (k : Two w0 W g (pst E) h R X) (hS : E.length ≤ 1000000) (n : Int) (hI : I64 n) :
    Calls Try.prog 81 #[.pointer (some ⟨g, 0, none⟩), .int .i64 n] W fun e W' => e = .returned (.tuple #[]) ∧ Two w0 W' g (pst (E ++ [(2, n)])) h R X ∧ Kept X W W' := by
  rw [pst_snoc]; exact br_l k (Nat.le_trans (pst_len E) hS) n hI
theorem brp_r {w0 W : World} {g h : Nat} {S : St} {E : List Ev} {X : List Nat} (k : Two w0 W g S h (pst E) X) (hS : E.length ≤ 1000000) (n : Int) (hI : I64 n) :
    Calls Try.prog 81 #[.pointer (some ⟨h, 0, none⟩), .int .i64 n] W fun e W' => e = .returned (.tuple #[]) ∧ Two w0 W' g S h (pst (E ++ [(2, n)])) X ∧ Kept X W W' := by
  rw [pst_snoc]; exact br_r k (Nat.le_trans (pst_len E) hS) n hI

theorem opensp_1 {w0 W : World} {g : Nat} {E : List Ev} {X : List Nat} (k : One w0 W g (pst E) X) (hS : E.length ≤ 1000000) :
    Calls Try.prog 51 #[.pointer (some ⟨g, 0, none⟩)] W fun e W' => e = .returned (.tuple #[]) ∧ One w0 W' g (pst (E ++ [(3, 0)])) X ∧ Kept X W W' := by
  rw [pst_snoc]; exact opens_1 k (Nat.le_trans (pst_len E) hS) 
theorem opensp_l {w0 W : World} {g h : Nat} {E : List Ev} {R : St} {X : List Nat} (k : Two w0 W g (pst E) h R X) (hS : E.length ≤ 1000000) :
    Calls Try.prog 51 #[.pointer (some ⟨g, 0, none⟩)] W fun e W' => e = .returned (.tuple #[]) ∧ Two w0 W' g (pst (E ++ [(3, 0)])) h R X ∧ Kept X W W' := by
  rw [pst_snoc]; exact opens_l k (Nat.le_trans (pst_len E) hS) 
theorem opensp_r {w0 W : World} {g h : Nat} {S : St} {E : List Ev} {X : List Nat} (k : Two w0 W g S h (pst E) X) (hS : E.length ≤ 1000000) :
    Calls Try.prog 51 #[.pointer (some ⟨h, 0, none⟩)] W fun e W' => e = .returned (.tuple #[]) ∧ Two w0 W' g S h (pst (E ++ [(3, 0)])) X ∧ Kept X W W' := by
  rw [pst_snoc]; exact opens_r k (Nat.le_trans (pst_len E) hS) 

theorem samep_ {w : World} {p1 p2 : Option Addr} {E1 E2 : List Ev} (h1 : Rn w p1 (pst E1)) (h2 : Rn w p2 (pst E2)) (hn1 : E1.length ≤ 1000000) (hn2 : E2.length ≤ 1000000) (o1 : ∀ e ∈ E1, EvOk e) (o2 : ∀ e ∈ E2, EvOk e) :
    Calls Try.prog 43 #[.pointer p1, .pointer p2] w fun e w' => e = .returned (.bool (decide (E1 = E2))) ∧ Below w.heap.size w w' := by
  have h := tsame_ h1 h2 (Nat.le_trans (pst_len E1) hn1) (Nat.le_trans (pst_len E2) hn2)
  rwa [decide_eq_decide.2 (same_words o1 o2)] at h
theorem countp_ {w : World} {p : Option Addr} {E : List Ev} (hR : Rn w p (pst E)) (hE : E.length ≤ 1000000) (k : Int) :
    Calls Try.prog 42 #[.pointer p, .int .i64 k] w fun e w' => e = .returned (.int .i64 (cnt E k : Nat)) ∧ Below w.heap.size w w' := by
  have h := count_ hR (Nat.le_trans (pst_len E) hE) (by rw [evs_pst]; omega) k
  rwa [evs_pst] at h
theorem eventsp_ {w : World} {p : Option Addr} {E : List Ev} (hR : Rn w p (pst E)) (hE : E.length ≤ 1000000) :
    Calls Try.prog 22 #[.pointer p] w fun e w' => ∃ v, e = .returned v ∧ Evs w.heap.size w' v E ∧ Below w.heap.size w w' := by
  have h := events_ hR (Nat.le_trans (pst_len E) hE) (by rw [evs_pst]; omega)
  rwa [evs_pst] at h

end Go.Proofs.Ytbdnnkokkgdhnaa
