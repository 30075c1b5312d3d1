/- A secret is told, and that is seen. -/
import Derived.Test.YtbdnnkokkgdhnaaTraceT
import Derived.Deep.LoopGhost
namespace Go.Proofs.Ytbdnnkokkgdhnaa
open Go.RowKit

def reps (j : Nat) : List Ev := List.replicate j (3, 0)
theorem hid2 {p : Prop} (h : p) : Hid2 p := h
theorem reps_succ (j : Nat) : reps (j + 1) = reps j ++ [(3, 0)] := List.replicate_succ'
theorem reps_len (j : Nat) : (reps j).length = j := List.length_replicate
theorem reps_ok (j : Nat) : ∀ e ∈ reps j, EvOk e := fun e he => by
  obtain ⟨_, rfl⟩ := List.mem_replicate.1 he
  exact ⟨by decide, by unfold I64; decide⟩
theorem cnt_reps (j : Nat) : cnt (reps j) 3 = j := by
  induction j with
  | zero => rfl
  | succ j ih => rw [reps_succ, cnt_snoc, ih]; rfl

theorem kept_al1 {w0 W W' : World} {g : Nat} {S : St} {X : List Nat} {o : Obj} (k : One w0 W g S X) (h : Kept (W.heap.size :: X) (W.alloc o) W') : Kept X W W' := by
  obtain ⟨fp, _, h3⟩ := k
  exact ⟨fun x hx => (h.1 x (by simp [hx])).trans (heap_alloc_old W o (h3.lt x (.inr (.inr hx)))), Nat.le_trans (by simp) h.2⟩
theorem kept_al {w0 W W' : World} {g h : Nat} {S R : St} {X : List Nat} {o : Obj} (k : Two w0 W g S h R X) (hk : Kept (W.heap.size :: X) (W.alloc o) W') : Kept X W W' := by
  obtain ⟨fp, fq, _, _, h3⟩ := k
  exact ⟨fun x hx => (hk.1 x (by simp [hx])).trans (heap_alloc_old W o (h3.lt x (.inr (.inr hx)))), Nat.le_trans (by simp) hk.2⟩
theorem sopen_1 {w0 W : World} {g : Nat} {E : List Ev} {X : List Nat} (k : One w0 W g (pst E) X) (hE : E.length ≤ 1000000) (a : Int) :
    Calls Try.prog 21 #[.agg #[.int .i64 a], .pointer (some ⟨g, 0, none⟩)] W fun e W' => e = .returned (.int .i64 a) ∧ One w0 W' g (pst (E ++ [(3, 0)])) X ∧ Kept X W W' := by
  have K := k.more (gr1 (gr0 W) (.cells #[.int .i64 a] 29)) W.heap.size (Nat.le_refl _) (by simp)
  go_enter Try.func21, Try.ntmps21
  go_wp2_with (go_at_call 51; refine (opensp_1 K hE).mono ?_; rintro e W' ⟨rfl, H, kx⟩; have hc : W'.cell? ⟨W.heap.size, 0, none⟩ = some (.int .i64 a) := kx.cell (by simp) (by simp [alloc_cell_if]); have hz : W.heap.size < W'.heap.size := World.block_lt_of_cell? W' _ hc)
  go_ret
  exact ⟨rfl, H.less (fun x hx => by simp [hx]), kept_al1 k kx⟩

theorem sopen_l {w0 W : World} {g h : Nat} {E : List Ev} {R : St} {X : List Nat} (k : Two w0 W g (pst E) h R X) (hE : E.length ≤ 1000000) (a : Int) :
    Calls Try.prog 21 #[.agg #[.int .i64 a], .pointer (some ⟨g, 0, none⟩)] W fun e W' => e = .returned (.int .i64 a) ∧ Two w0 W' g (pst (E ++ [(3, 0)])) h R X ∧ Kept X W W' := by
  have K := k.more (gr1 (gr0 W) (.cells #[.int .i64 a] 29)) W.heap.size (Nat.le_refl _) (by simp)
  go_enter Try.func21, Try.ntmps21
  go_wp2_with (go_at_call 51; refine (opensp_l K hE).mono ?_; rintro e W' ⟨rfl, H, kx⟩; have hc : W'.cell? ⟨W.heap.size, 0, none⟩ = some (.int .i64 a) := kx.cell (by simp) (by simp [alloc_cell_if]); have hz : W.heap.size < W'.heap.size := World.block_lt_of_cell? W' _ hc)
  go_ret
  exact ⟨rfl, H.less (fun x hx => by simp [hx]), kept_al k kx⟩

theorem sopen_r {w0 W : World} {g h : Nat} {E : List Ev} {R : St} {X : List Nat} (k : Two w0 W g R h (pst E) X) (hE : E.length ≤ 1000000) (a : Int) :
    Calls Try.prog 21 #[.agg #[.int .i64 a], .pointer (some ⟨h, 0, none⟩)] W fun e W' => e = .returned (.int .i64 a) ∧ Two w0 W' g R h (pst (E ++ [(3, 0)])) X ∧ Kept X W W' := by
  have K := k.more (gr1 (gr0 W) (.cells #[.int .i64 a] 29)) W.heap.size (Nat.le_refl _) (by simp)
  go_enter Try.func21, Try.ntmps21
  go_wp2_with (go_at_call 51; refine (opensp_r K hE).mono ?_; rintro e W' ⟨rfl, H, kx⟩; have hc : W'.cell? ⟨W.heap.size, 0, none⟩ = some (.int .i64 a) := kx.cell (by simp) (by simp [alloc_cell_if]); have hz : W.heap.size < W'.heap.size := World.block_lt_of_cell? W' _ hc)
  go_ret
  exact ⟨rfl, H.less (fun x hx => by simp [hx]), kept_al k kx⟩

end Go.Proofs.Ytbdnnkokkgdhnaa
