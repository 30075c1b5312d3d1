/- A buffer: its words, and the recorder, if any, that it records with. -/
import Derived.Test.YtbdnnkokkgdhnaaLay
namespace Go.Proofs.Ytbdnnkokkgdhnaa
open Go.RowKit

/-- A recorder, or none. -/
def Ro (W : World) (o : Option Nat) (E : List Ev) (fp : List Nat) : Prop := match o with
  | none => fp = []
  | some g => Rc W g (pst E) fp
def rp (o : Option Nat) : Value := .pointer (o.map fun g => ⟨g, 0, none⟩)
def addO (o : Option Nat) (E : List Ev) (l : List Ev) : List Ev := match o with
  | none => E
  | some _ => E ++ l
theorem addO_nil (o : Option Nat) (E : List Ev) : addO o E [] = E := by cases o <;> simp [addO]
theorem addO_add (o : Option Nat) (E l m : List Ev) : addO o (addO o E l) m = addO o E (l ++ m) := by cases o <;> simp [addO]
theorem addO_len (o : Option Nat) (E l : List Ev) : (addO o E l).length ≤ E.length + l.length := by cases o <;> simp [addO]
theorem Ro.lt {W : World} {o : Option Nat} {E : List Ev} {fp : List Nat} (h : Ro W o E fp) : ∀ x ∈ fp, x < W.heap.size := by
  cases o with
  | none => intro x hx; have h : fp = [] := h; subst h; cases hx
  | some g => exact Rc.lt h
theorem Ro.frame {W W' : World} {o : Option Nat} {E : List Ev} {fp : List Nat} (h : Ro W o E fp) (hk : ∀ x ∈ fp, W'.heap[x]? = W.heap[x]?) : Ro W' o E fp := by
  cases o with
  | none => exact h
  | some g => exact Rc.frame h hk
theorem Ro.rn {W : World} {g : Nat} {E : List Ev} {fp : List Nat} (h : Ro W (some g) E fp) : Rn W (some ⟨g, 0, none⟩) (pst E) := Rc.rn h
/-- The struct of a buffer, and its words. -/
structure Bufc (W : World) (b : Nat) (o : Option Nat) (v : Value) (L : List Int) : Prop where
  head : W.heap[b]? = some (.cells #[rp o, v] 86 (0, 0))
  row : W.ownsRow 0 29 1 v L.length (L.map (Value.int .i64))
def Bc (W : World) (b : Nat) (o : Option Nat) (E : List Ev) (L : List Int) (fp : List Nat) : Prop := ∃ fr v, Ro W o E fr ∧ Bufc W b o v L ∧ fp = b :: (vb v ++ fr) ∧ b ∉ vb v ++ fr ∧ ∀ x ∈ vb v, x ∉ fr
theorem vb_lt {W : World} {n0 : Nat} {e : TypeId} {s n : Nat} {v : Value} {xs : List Value} (h : W.ownsRow n0 e s v n xs) : ∀ x ∈ vb v, n0 ≤ x ∧ x < W.heap.size := fun x hx => h.lt x (by simpa [vb] using hx)
theorem Bufc.frame {W W' : World} {b : Nat} {o : Option Nat} {v : Value} {L : List Int} (h : Bufc W b o v L) (hb : W'.heap[b]? = W.heap[b]?) (hk : ∀ x ∈ vb v, W'.heap[x]? = W.heap[x]?) : Bufc W' b o v L :=
  ⟨hb.trans h.head, own_at h.row fun g hg => hk g (by simp [vb, hg])⟩
theorem Bc.lt {W : World} {b : Nat} {o : Option Nat} {E : List Ev} {L : List Int} {fp : List Nat} (h : Bc W b o E L fp) : ∀ x ∈ fp, x < W.heap.size := by
  obtain ⟨fr, v, h1, h2, rfl, _, _⟩ := h
  intro x hx
  simp only [List.mem_cons, List.mem_append] at hx
  rcases hx with rfl | hx | hx
  · exact heap_lt h2.head
  · exact (vb_lt h2.row x hx).2
  · exact h1.lt x hx
theorem Bc.frame {W W' : World} {b : Nat} {o : Option Nat} {E : List Ev} {L : List Int} {fp : List Nat} (h : Bc W b o E L fp) (hk : ∀ x ∈ fp, W'.heap[x]? = W.heap[x]?) : Bc W' b o E L fp := by
  obtain ⟨fr, v, h1, h2, rfl, h3, h4⟩ := h
  exact ⟨fr, v, h1.frame fun x hx => hk x (by simp [hx]), h2.frame (hk b (by simp)) (fun x hx => hk x (by simp [hx])), rfl, h3, h4⟩
theorem Bc.below {W W' : World} {b : Nat} {o : Option Nat} {E : List Ev} {L : List Int} {fp : List Nat} (h : Bc W b o E L fp) (hb : Below W.heap.size W W') : Bc W' b o E L fp := h.frame fun x hx => hb.block x (h.lt x hx)
/-- One buffer, or two, and what else lies there. -/
def B1 (w0 W : World) (b : Nat) (o : Option Nat) (E : List Ev) (L : List Int) (X : List Nat) : Prop := ∃ fp, Bc W b o E L fp ∧ T2 w0 W fp [] X
def B2 (w0 W : World) (b : Nat) (o : Option Nat) (E : List Ev) (L : List Int) (c : Nat) (p : Option Nat) (F : List Ev) (M : List Int) (X : List Nat) : Prop := ∃ fp fq, Bc W b o E L fp ∧ Bc W c p F M fq ∧ T2 w0 W fp fq X
theorem B1.below {w0 W : World} {b : Nat} {o : Option Nat} {E : List Ev} {L : List Int} {X : List Nat} : B1 w0 W b o E L X → Below w0.heap.size w0 W := fun ⟨_, _, h⟩ => h.below
theorem B1.calm {w0 W W' : World} {b : Nat} {o : Option Nat} {E : List Ev} {L : List Int} {X : List Nat} (k : B1 w0 W b o E L X) (hb : Below W.heap.size W W') : B1 w0 W' b o E L X := by
  obtain ⟨fp, h1, h2⟩ := k; exact ⟨fp, h1.below hb, h2.calm hb⟩
theorem B1.more {w0 W W' : World} {b : Nat} {o : Option Nat} {E : List Ev} {L : List Int} {X : List Nat} (k : B1 w0 W b o E L X) (hb : Below W.heap.size W W') (x : Nat) (h1 : W.heap.size ≤ x) (h2 : x < W'.heap.size) : B1 w0 W' b o E L (x :: X) := by
  obtain ⟨fp, k1, k2⟩ := k; exact ⟨fp, k1.below hb, k2.more hb x h1 h2⟩
theorem B1.less {w0 W : World} {b : Nat} {o : Option Nat} {E : List Ev} {L : List Int} {X Y : List Nat} (k : B1 w0 W b o E L X) (hY : ∀ x ∈ Y, x ∈ X) : B1 w0 W b o E L Y := by
  obtain ⟨fp, k1, k2⟩ := k; exact ⟨fp, k1, k2.less hY⟩
theorem B1.set {w0 W : World} {b : Nat} {o : Option Nat} {E : List Ev} {L : List Int} {X : List Nat} (k : B1 w0 W b o E L X) {x i : Nat} (hx : x ∈ X) (hl : w0.heap.size ≤ x) (v : Value) : B1 w0 (W.setCell ⟨x, i, none⟩ v) b o E L X := by
  obtain ⟨fp, k1, k2⟩ := k
  have hn := (k2.px x hx).1
  exact ⟨fp, k1.frame fun y hy => heap_setCell_other _ ⟨x, i, none⟩ y _ (fun e => hn (by have e : y = x := e; rw [← e]; exact hy)), k2.set hl v⟩
theorem B1.down {w w0 W : World} {b : Nat} {o : Option Nat} {E : List Ev} {L : List Int} {X : List Nat} (k : B1 w0 W b o E L X) (hb : Below w.heap.size w w0) : B1 w W b o E L X := by
  obtain ⟨fp, k1, h3⟩ := k
  have hs := hb.size
  exact ⟨fp, k1, ⟨fun x hx => Nat.le_trans hs (h3.low x hx), h3.disj, h3.px, h3.lt, gr2 hb h3.below⟩⟩
theorem B2.below {w0 W : World} {b c : Nat} {o p : Option Nat} {E F : List Ev} {L M : List Int} {X : List Nat} : B2 w0 W b o E L c p F M X → Below w0.heap.size w0 W := fun ⟨_, _, _, _, h⟩ => h.below
theorem B2.swap {w0 W : World} {b c : Nat} {o p : Option Nat} {E F : List Ev} {L M : List Int} {X : List Nat} : B2 w0 W b o E L c p F M X → B2 w0 W c p F M b o E L X := fun ⟨fp, fq, h1, h2, h3⟩ => ⟨fq, fp, h2, h1, h3.swap⟩
theorem B2.calm {w0 W W' : World} {b c : Nat} {o p : Option Nat} {E F : List Ev} {L M : List Int} {X : List Nat} (k : B2 w0 W b o E L c p F M X) (hb : Below W.heap.size W W') : B2 w0 W' b o E L c p F M X := by
  obtain ⟨fp, fq, h1, h2, h3⟩ := k; exact ⟨fp, fq, h1.below hb, h2.below hb, h3.calm hb⟩
theorem B2.more {w0 W W' : World} {b c : Nat} {o p : Option Nat} {E F : List Ev} {L M : List Int} {X : List Nat} (k : B2 w0 W b o E L c p F M X) (hb : Below W.heap.size W W') (x : Nat) (h1 : W.heap.size ≤ x) (h2 : x < W'.heap.size) : B2 w0 W' b o E L c p F M (x :: X) := by
  obtain ⟨fp, fq, k1, k2, k3⟩ := k; exact ⟨fp, fq, k1.below hb, k2.below hb, k3.more hb x h1 h2⟩
theorem B2.less {w0 W : World} {b c : Nat} {o p : Option Nat} {E F : List Ev} {L M : List Int} {X Y : List Nat} (k : B2 w0 W b o E L c p F M X) (hY : ∀ x ∈ Y, x ∈ X) : B2 w0 W b o E L c p F M Y := by
  obtain ⟨fp, fq, k1, k2, k3⟩ := k; exact ⟨fp, fq, k1, k2, k3.less hY⟩
/-- What a call does with a buffer: the shape of all contracts. -/
def Does (W W' : World) (b : Nat) (o : Option Nat) (E : List Ev) (L : List Int) (fp : List Nat) : Prop := ∃ fp', Bc W' b o E L fp' ∧ Moved fp W W' ∧ Fresh W fp fp'
theorem Does.refl {W : World} {b : Nat} {o : Option Nat} {E : List Ev} {L : List Int} {fp : List Nat} (h : Bc W b o E L fp) : Does W W b o E L fp := ⟨fp, h, Moved.refl _ _, Fresh.refl _ _⟩
theorem Does.calm {W W' : World} {b : Nat} {o : Option Nat} {E : List Ev} {L : List Int} {fp : List Nat} (h : Bc W b o E L fp) (hb : Below W.heap.size W W') : Does W W' b o E L fp := ⟨fp, h.below hb, Moved.below hb _, Fresh.refl _ _⟩
theorem Does.one {w0 W W' : World} {b : Nat} {o : Option Nat} {E' : List Ev} {L' : List Int} {X fp : List Nat} (h3 : T2 w0 W fp [] X) (h : Does W W' b o E' L' fp) : B1 w0 W' b o E' L' X ∧ Kept X W W' := by
  obtain ⟨fp', hr, hm, hf⟩ := h
  obtain ⟨k1, k2, _⟩ := h3.left hm hf hr.lt
  exact ⟨⟨fp', hr, k1⟩, k2⟩
theorem Does.two {w0 W W' : World} {b c : Nat} {o p : Option Nat} {E' F : List Ev} {L' M : List Int} {X fp fq : List Nat} (h1 : Bc W c p F M fq) (h3 : T2 w0 W fp fq X) (h : Does W W' b o E' L' fp) : B2 w0 W' b o E' L' c p F M X ∧ Kept X W W' := by
  obtain ⟨fp', hr, hm, hf⟩ := h
  obtain ⟨k1, k2, k3⟩ := h3.left hm hf hr.lt
  exact ⟨⟨fp', fq, hr, h1.frame k3, k1⟩, k2⟩
/-- Word i, if there is one; what is seen then; what is held, with x there. -/
def inL (L : List Int) (i : Int) : Prop := 0 ≤ i ∧ i < L.length
instance (L : List Int) (i : Int) : Decidable (inL L i) := by unfold inL; infer_instance
def getL (L : List Int) (i : Int) : Int := if inL L i then L.getD i.toNat 0 else 0
def setL (L : List Int) (i x : Int) : List Int := if inL L i then L.set i.toNat x else L
def seeL (o : Option Nat) (E : List Ev) (L : List Int) (i : Int) : List Ev := if inL L i then addO o E [(1, i)] else E
theorem setL_len (L : List Int) (i x : Int) : (setL L i x).length = L.length := by unfold setL; split <;> simp
theorem seeL_len (o : Option Nat) (E : List Ev) (L : List Int) (i : Int) : (seeL o E L i).length ≤ E.length + 1 := by
  unfold seeL; split
  · exact addO_len o E _
  · omega

theorem ridx_ {W : World} {o : Option Nat} {E : List Ev} {fp : List Nat} (h : Ro W o E fp) (hE : E.length ≤ 1000000) (n : Int) (hI : I64 n) :
    Calls Try.prog 76 #[rp o, .int .i64 n] W fun e W' => e = .returned (.tuple #[]) ∧ ∃ fp', Ro W' o (addO o E [(1, n)]) fp' ∧ Moved fp W W' ∧ Fresh W fp fp' := by
  cases o with
  | none =>
    refine (idx_none n W).mono ?_
    rintro e W' ⟨rfl, hb⟩
    exact ⟨rfl, fp, h, Moved.below hb _, Fresh.refl _ _⟩
  | some g =>
    refine (idx_ (h : Rc W g (pst E) fp) (Nat.le_trans (pst_len E) hE) n hI).mono ?_
    rintro e W' ⟨rfl, fp', h1, h2, h3⟩
    exact ⟨rfl, fp', by show Rc W' g (pst (E ++ [(1, n)])) fp'; rw [pst_snoc]; exact h1, h2, h3⟩
theorem rbr_ {W : World} {o : Option Nat} {E : List Ev} {fp : List Nat} (h : Ro W o E fp) (hE : E.length ≤ 1000000) (n : Int) (hI : I64 n) :
    Calls Try.prog 81 #[rp o, .int .i64 n] W fun e W' => e = .returned (.tuple #[]) ∧ ∃ fp', Ro W' o (addO o E [(2, n)]) fp' ∧ Moved fp W W' ∧ Fresh W fp fp' := by
  cases o with
  | none =>
    refine (br_none n W).mono ?_
    rintro e W' ⟨rfl, hb⟩
    exact ⟨rfl, fp, h, Moved.below hb _, Fresh.refl _ _⟩
  | some g =>
    refine (br_ (h : Rc W g (pst E) fp) (Nat.le_trans (pst_len E) hE) n hI).mono ?_
    rintro e W' ⟨rfl, fp', h1, h2, h3⟩
    exact ⟨rfl, fp', by show Rc W' g (pst (E ++ [(2, n)])) fp'; rw [pst_snoc]; exact h1, h2, h3⟩
theorem ropens_ {W : World} {o : Option Nat} {E : List Ev} {fp : List Nat} (h : Ro W o E fp) (hE : E.length ≤ 1000000) :
    Calls Try.prog 51 #[rp o] W fun e W' => e = .returned (.tuple #[]) ∧ ∃ fp', Ro W' o (addO o E [(3, 0)]) fp' ∧ Moved fp W W' ∧ Fresh W fp fp' := by
  cases o with
  | none =>
    refine (opens_none W).mono ?_
    rintro e W' ⟨rfl, hb⟩
    exact ⟨rfl, fp, h, Moved.below hb _, Fresh.refl _ _⟩
  | some g =>
    refine (opens_ (h : Rc W g (pst E) fp) (Nat.le_trans (pst_len E) hE)).mono ?_
    rintro e W' ⟨rfl, fp', h1, h2, h3⟩
    exact ⟨rfl, fp', by show Rc W' g (pst (E ++ [(3, 0)])) fp'; rw [pst_snoc]; exact h1, h2, h3⟩
theorem Ro.below {W W' : World} {o : Option Nat} {E : List Ev} {fp : List Nat} (h : Ro W o E fp) (hb : Below W.heap.size W W') : Ro W' o E fp := h.frame fun x hx => hb.block x (h.lt x hx)
theorem Fresh.down {W W' : World} {fp fp' : List Nat} (h : Fresh W' fp fp') (hs : W.heap.size ≤ W'.heap.size) : Fresh W fp fp' := fun x hx => (h x hx).imp id (Nat.le_trans hs)
/-- A secret is told with a recorder, or none. -/
theorem sopen_ro {W : World} {o : Option Nat} {E : List Ev} {fp : List Nat} (h : Ro W o E fp) (hE : E.length ≤ 1000000) (a : Int) :
    Calls Try.prog 21 #[.agg #[.int .i64 a], rp o] W fun e W' => e = .returned (.int .i64 a) ∧ ∃ fp', Ro W' o (addO o E [(3, 0)]) fp' ∧ Moved fp W W' ∧ Fresh W fp fp' := by
  have K := h.below (gr1 (gr0 W) (.cells #[.int .i64 a] 29))
  have hn : W.heap.size ∉ fp := fun hx => by have := h.lt _ hx; omega
  generalize hr : rp o = r at *
  go_enter Try.func21, Try.ntmps21
  go_wp2_with (go_at_call 51; rw [← hr]; refine (ropens_ K hE).mono ?_; rw [hr]; rintro e W' ⟨rfl, fp', k1, k2, k3⟩; have hc : W'.cell? ⟨W.heap.size, 0, none⟩ = some (.int .i64 a) := k2.cell (by simp [alloc_cell_if]) hn; have hz : W.heap.size < W'.heap.size := World.block_lt_of_cell? W' _ hc)
  go_ret
  exact ⟨rfl, fp', k1, (moved_alloc fp W _).trans (Fresh.refl _ _) k2, k3.down (by simp)⟩
end Go.Proofs.Ytbdnnkokkgdhnaa
