/- The places of an MCU's blocks, one by one. -/
import Derived.Test.YtgegmlhpdpdnfaaSides
import Derived.Test.YtgegmlhpdpdnfaaRange
import Derived.Test.YtgegmlhpdpdnfaaWide
import Derived.LoopNIn
import Derived.LoopIn
import Derived.BigRegionIn
import Derived.TacticsInMore
namespace Go.Proofs.Ytgegmlhpdpdnfaa
open Go.RowKit Go.Shelf

structure Pl where
  part : Int
  x : Int
  y : Int
  across : Int
  down : Int
def enP (q : Pl) : Array Value := #[.agg #[.int .i64 q.part, .int .i64 q.x, .int .i64 q.y, .int .i64 q.across, .int .i64 q.down]]
def pls1 (x y : Int) : List Pl := [⟨0, x, y, 1, 1⟩]
def pls2 (x y : Int) : List Pl := [⟨0, x, y, 1, 1⟩, ⟨1, x, y, 1, 1⟩, ⟨2, x, y, 1, 1⟩]
def pls3 (x y : Int) : List Pl := [⟨0, x * 2, y, 1, 1⟩, ⟨0, x * 2 + 1, y, 1, 1⟩, ⟨1, x, y, 2, 1⟩, ⟨2, x, y, 2, 1⟩]
def pls4 (x y : Int) : List Pl := [⟨0, x * 2, y * 2, 1, 1⟩, ⟨0, x * 2 + 1, y * 2, 1, 1⟩, ⟨0, x * 2, y * 2 + 1, 1, 1⟩, ⟨0, x * 2 + 1, y * 2 + 1, 1, 1⟩, ⟨1, x, y, 2, 2⟩, ⟨2, x, y, 2, 2⟩]
/-- What stays: some blocks, and whatever holds pairs of numbers. -/
def Kp2 (X : List Nat) (W W' : World) : Prop := (∀ b ∈ X, W'.heap[b]? = W.heap[b]?) ∧ (∀ (b : Nat) c f, W.heap[b]? = some (Obj.cells c 47 f) → W'.heap[b]? = W.heap[b]?) ∧ W.heap.size ≤ W'.heap.size
theorem grown_of_below {w w' : World} (h : Below w.heap.size w w') : w.grownBy w' none := ⟨h.os, h.tape, h.output, h.size, fun k hk _ => h.block k hk⟩
theorem ab_below {α : Type} {n : Nat} {J : List α → World → Prop} (h : AbidesFrom n J) {s : List α} {A B : World} (hj : J s A) (hb : Below A.heap.size A B) : J s B := h s A B none hj (grown_of_below hb) (fun _ e => nomatch e)
theorem Kp2.trans {X : List Nat} {A B C : World} (h : Kp2 X A B) (k : Kp2 X B C) : Kp2 X A C :=
  ⟨fun b hb => (k.1 b hb).trans (h.1 b hb), fun b c f hc => (k.2.1 b c f ((h.2.1 b c f hc).trans hc)).trans (h.2.1 b c f hc), Nat.le_trans h.2.2 k.2.2⟩
set_option maxRecDepth 100000 in
set_option maxHeartbeats 4000000 in
theorem places_ (m x y : Int) (w : World) :
    Calls Try.prog 54 #[.int .i64 m, .int .i64 x, .int .i64 y] w fun e w' => e = .returned (.func (.func 73) #[] #[.pointer (some ⟨w.heap.size, 0, none⟩), .pointer (some ⟨w.heap.size + 1, 0, none⟩), .pointer (some ⟨w.heap.size + 2, 0, none⟩)]) ∧ w' = (((w.alloc (Obj.cells #[Value.int .i64 m] 3 (0, 0))).alloc (Obj.cells #[Value.int .i64 x] 3 (0, 0))).alloc (Obj.cells #[Value.int .i64 y] 3 (0, 0))) := by
  go_enter Try.func54, Try.ntmps54
  go_wp2
  go_ret
  exact ⟨rfl, rfl⟩
theorem below_of_eq {w X : World} (h : X = w.drew) : Below w.heap.size w X := h ▸ gr3 (gr0 _)
/-- What the iterator knows: its three numbers, and the table. -/
structure PS (s g : Nat) (m x y : Int) (S : Array Value) (W : World) : Prop where
  h0 : W.heap[s]? = some (.cells #[.int .i64 m] 3 (0, 0))
  h1 : W.heap[s + 1]? = some (.cells #[.int .i64 x] 3 (0, 0))
  h2 : W.heap[s + 2]? = some (.cells #[.int .i64 y] 3 (0, 0))
  hg : W.heap[g]? = some (.cells S 47 (0, 0))
theorem PS.below {s g : Nat} {m x y : Int} {S : Array Value} {W W' : World} (h : PS s g m x y S W) (k : Below W.heap.size W W') : PS s g m x y S W' :=
  ⟨(k.block _ (heap_lt h.h0)).trans h.h0, (k.block _ (heap_lt h.h1)).trans h.h1, (k.block _ (heap_lt h.h2)).trans h.h2, (k.block _ (heap_lt h.hg)).trans h.hg⟩
theorem PS.kp {s g : Nat} {m x y : Int} {S : Array Value} {W W' : World} (h : PS s g m x y S W) (k : Kp2 [s, s + 1, s + 2] W W') : PS s g m x y S W' :=
  ⟨(k.1 _ (by simp)).trans h.h0, (k.1 _ (by simp)).trans h.h1, (k.1 _ (by simp)).trans h.h2, (k.2.1 _ _ _ h.hg).trans h.hg⟩
theorem cells_at {W : World} {g : Nat} {a : Array Value} {t : TypeId} {f : Nat × Nat} (h : W.heap[g]? = some (.cells a t f)) (j : Nat) : W.cell? ⟨g, j, none⟩ = a[j]? := by simp [World.cell?, h]
set_option maxRecDepth 100000 in
set_option maxHeartbeats 4000000 in
theorem each_pls1 {w0 w : World} {s : Nat} {x y : Int} (hx : 0 ≤ x ∧ x ≤ 65535) (hy : 0 ≤ y ∧ y ≤ 65535) (h0 : w0.heap[s]? = some (.cells #[.int .i64 1] 3 (0, 0))) (h1 : w0.heap[s + 1]? = some (.cells #[.int .i64 x] 3 (0, 0))) (h2 : w0.heap[s + 2]? = some (.cells #[.int .i64 y] 3 (0, 0)))
    (hB : Below w0.heap.size w0 w) (n : Nat) (hn : 2 ≤ n) :
    EachOf Fence.wide n Try.prog 73 (fun v => #[] ++ #[v] ++ #[.pointer (some ⟨s, 0, none⟩), .pointer (some ⟨s + 1, 0, none⟩), .pointer (some ⟨s + 2, 0, none⟩)]) enP (Kp2 [s, s + 1, s + 2]) (pls1 x y) w := by
  intro l J W hW hJ hY hJ0
  have hB0 : Below w0.heap.size w0 W := hB.trans (hW.mono hB.size)
  have a0 := (hB0.block s (heap_lt h0)).trans h0
  have a1 := (hB0.block (s + 1) (heap_lt h1)).trans h1
  have a2 := (hB0.block (s + 2) (heap_lt h2)).trans h2
  have hs2 := heap_lt a2
  have HY := hid2 hY
  have HJ := hid2 hJ
  have HJ0 := hid2 hJ0
  have c0 := cells_at a0 0
  simp at c0
  have A0 := hid2 a0
  have A1 := hid2 a1
  have A2 := hid2 a2
  obtain ⟨x0, x1⟩ := hx
  obtain ⟨y0, y1⟩ := hy
  clear hY hJ hJ0 hB hW h0 h1 h2 hB0 a0 a1 a2
  show CallsIn _ _ _ _ #[.func (.yield l) #[] #[], .pointer (some ⟨s, 0, none⟩), .pointer (some ⟨s + 1, 0, none⟩), .pointer (some ⟨s + 2, 0, none⟩)] _ _
  refine callsIn_of_wp Try.func73 rfl trivial ?_
  simp only [Try.ntmps73, List.size_toArray, List.length_cons, List.length_nil, Nat.reduceAdd, Nat.reduceSub, Array.replicate_succ, Array.replicate_zero, List.push_toArray, List.append_toArray, List.nil_append, List.cons_append]
  gi_wp2_with (refine ⟨trivial, fun _ => by omega, ?_⟩; gi_at_call 21; refine (callsIn_wide.2 (sides_1 _)).mono ?_; rintro e w1 ⟨g, rfl, hb1, hg1, hg2⟩)
  have hJ := hid2 (ab_below HJ.out HJ0.out hb1)
  have ps := hid2 ((⟨(hb1.block s (heap_lt A0.out)).trans A0.out, (hb1.block _ (heap_lt A1.out)).trans A1.out, (hb1.block _ (heap_lt A2.out)).trans A2.out, hg2⟩ : PS s g 1 x y #[Value.int .i64 1, Value.int .i64 1] w1))
  clear HJ0 A0 A1 A2 c0 hb1 hg1 hg2 hs2
  refine wpIn_loop_rounds 2 ?_
  rw [roundsIn_succ]
  have z0 := heap_lt ps.out.h0
  have z1 := heap_lt ps.out.h1
  have z2 := heap_lt ps.out.h2
  have zg := heap_lt ps.out.hg
  have d0 := cells_at ps.out.h0 0
  have d1 := cells_at ps.out.h1 0
  have d2 := cells_at ps.out.h2 0
  have e0 := cells_at ps.out.hg 0
  have e1 := cells_at ps.out.hg 1
  simp at d0 d1 d2 e0 e1
  gi_wp2
  refine wpIn_loop_rounds 2 ?_
  rw [roundsIn_succ]
  gi_wp2_with (refine wpIn_region_wide_tail (C := (· = _)) 35 (by kernel_rfl) (by kernel_rfl) rfl ?_)
  simp only [List.take_succ_cons, List.take_zero, List.drop_succ_cons, List.drop_zero]
  (repeat (first | go_big_quiet_step (fail) | quiet_step (fail)))
  refine wpQuiet_nil ?_
  intro X hX
  have hb : Below w1.heap.size w1 X := by rw [hX]; exact gr3 (gr1 (gr0 _) _)
  have h7 : X.heap[w1.heap.size]? = some (.cells #[Value.int .i64 1, Value.int .i64 1] 47 (0, 0)) := by rw [hX]; exact World.alloc_heap_new _ _
  have px := hid2 (ps.out.below hb)
  have h7x := hid2 h7
  obtain ⟨fn, tmps, assign, body, hy, hR⟩ := HY.out [] ⟨0, x, y, 1, 1⟩ X (ab_below HJ.out hJ.out hb) ⟨(pls1 x y).drop 1, rfl⟩
  unfold enP at hy
  generalize hb7 : w1.heap.size = b7 at h7x h7 ⊢
  clear hJ h7 hb hX ps hb7
  gi_wp2
  refine ⟨fun _ => by omega, hR.mono ?_⟩
  rintro e V1 ⟨rfl, hj, hk⟩
  have hJ := hid2 hj
  have ps := hid2 (px.out.kp hk)
  have H7 : Hid2 (V1.heap[b7]? = some (.cells #[Value.int .i64 1, Value.int .i64 1] 47 (0, 0))) := hid2 ((hk.2.1 _ _ _ h7x.out).trans h7x.out)
  clear hj hk px h7x hy hR fn tmps assign body
  have z0 := heap_lt ps.out.h0
  have z1 := heap_lt ps.out.h1
  have z2 := heap_lt ps.out.h2
  have zg := heap_lt ps.out.hg
  have d0 := cells_at ps.out.h0 0
  have d1 := cells_at ps.out.h1 0
  have d2 := cells_at ps.out.h2 0
  have e0 := cells_at ps.out.hg 0
  have e1 := cells_at ps.out.hg 1
  have f0 := cells_at H7.out 0
  have f1 := cells_at H7.out 1
  have z7 := heap_lt H7.out
  simp at d0 d1 d2 e0 e1 f0 f1
  gi_wp2
  rw [roundsIn_succ]
  gi_wp2
  clear f0 f1 z7 H7
  clear d0 d1 d2 e0 e1 z0 z1 z2 zg
  rw [roundsIn_succ]
  have z0 := heap_lt ps.out.h0
  have z1 := heap_lt ps.out.h1
  have z2 := heap_lt ps.out.h2
  have zg := heap_lt ps.out.hg
  have d0 := cells_at ps.out.h0 0
  have d1 := cells_at ps.out.h1 0
  have d2 := cells_at ps.out.h2 0
  have e0 := cells_at ps.out.hg 0
  have e1 := cells_at ps.out.hg 1
  simp at d0 d1 d2 e0 e1
  gi_wp2
  refine ⟨rfl, .tuple #[], by simp [results, Try.results73], ⟨_, rfl⟩, hJ.out⟩
set_option maxRecDepth 100000 in
set_option maxHeartbeats 4000000 in
theorem each_pls2 {w0 w : World} {s : Nat} {x y : Int} (hx : 0 ≤ x ∧ x ≤ 65535) (hy : 0 ≤ y ∧ y ≤ 65535) (h0 : w0.heap[s]? = some (.cells #[.int .i64 2] 3 (0, 0))) (h1 : w0.heap[s + 1]? = some (.cells #[.int .i64 x] 3 (0, 0))) (h2 : w0.heap[s + 2]? = some (.cells #[.int .i64 y] 3 (0, 0)))
    (hB : Below w0.heap.size w0 w) (n : Nat) (hn : 2 ≤ n) :
    EachOf Fence.wide n Try.prog 73 (fun v => #[] ++ #[v] ++ #[.pointer (some ⟨s, 0, none⟩), .pointer (some ⟨s + 1, 0, none⟩), .pointer (some ⟨s + 2, 0, none⟩)]) enP (Kp2 [s, s + 1, s + 2]) (pls2 x y) w := by
  intro l J W hW hJ hY hJ0
  have hB0 : Below w0.heap.size w0 W := hB.trans (hW.mono hB.size)
  have a0 := (hB0.block s (heap_lt h0)).trans h0
  have a1 := (hB0.block (s + 1) (heap_lt h1)).trans h1
  have a2 := (hB0.block (s + 2) (heap_lt h2)).trans h2
  have hs2 := heap_lt a2
  have HY := hid2 hY
  have HJ := hid2 hJ
  have HJ0 := hid2 hJ0
  have c0 := cells_at a0 0
  simp at c0
  have A0 := hid2 a0
  have A1 := hid2 a1
  have A2 := hid2 a2
  obtain ⟨x0, x1⟩ := hx
  obtain ⟨y0, y1⟩ := hy
  clear hY hJ hJ0 hB hW h0 h1 h2 hB0 a0 a1 a2
  show CallsIn _ _ _ _ #[.func (.yield l) #[] #[], .pointer (some ⟨s, 0, none⟩), .pointer (some ⟨s + 1, 0, none⟩), .pointer (some ⟨s + 2, 0, none⟩)] _ _
  refine callsIn_of_wp Try.func73 rfl trivial ?_
  simp only [Try.ntmps73, List.size_toArray, List.length_cons, List.length_nil, Nat.reduceAdd, Nat.reduceSub, Array.replicate_succ, Array.replicate_zero, List.push_toArray, List.append_toArray, List.nil_append, List.cons_append]
  gi_wp2_with (refine ⟨trivial, fun _ => by omega, ?_⟩; gi_at_call 21; refine (callsIn_wide.2 (sides_2 _)).mono ?_; rintro e w1 ⟨g, rfl, hb1, hg1, hg2⟩)
  have hJ := hid2 (ab_below HJ.out HJ0.out hb1)
  have ps := hid2 ((⟨(hb1.block s (heap_lt A0.out)).trans A0.out, (hb1.block _ (heap_lt A1.out)).trans A1.out, (hb1.block _ (heap_lt A2.out)).trans A2.out, hg2⟩ : PS s g 2 x y #[Value.int .i64 1, Value.int .i64 1, Value.int .i64 1, Value.int .i64 1, Value.int .i64 1, Value.int .i64 1] w1))
  clear HJ0 A0 A1 A2 c0 hb1 hg1 hg2 hs2
  refine wpIn_loop_rounds 4 ?_
  rw [roundsIn_succ]
  have z0 := heap_lt ps.out.h0
  have z1 := heap_lt ps.out.h1
  have z2 := heap_lt ps.out.h2
  have zg := heap_lt ps.out.hg
  have d0 := cells_at ps.out.h0 0
  have d1 := cells_at ps.out.h1 0
  have d2 := cells_at ps.out.h2 0
  have e0 := cells_at ps.out.hg 0
  have e1 := cells_at ps.out.hg 1
  have e2 := cells_at ps.out.hg 2
  have e3 := cells_at ps.out.hg 3
  have e4 := cells_at ps.out.hg 4
  have e5 := cells_at ps.out.hg 5
  simp at d0 d1 d2 e0 e1 e2 e3 e4 e5
  gi_wp2
  refine wpIn_loop_rounds 2 ?_
  rw [roundsIn_succ]
  gi_wp2_with (refine wpIn_region_wide_tail (C := (· = _)) 35 (by kernel_rfl) (by kernel_rfl) rfl ?_)
  simp only [List.take_succ_cons, List.take_zero, List.drop_succ_cons, List.drop_zero]
  (repeat (first | go_big_quiet_step (fail) | quiet_step (fail)))
  refine wpQuiet_nil ?_
  intro X hX
  have hb : Below w1.heap.size w1 X := by rw [hX]; exact gr3 (gr1 (gr0 _) _)
  have h7 : X.heap[w1.heap.size]? = some (.cells #[Value.int .i64 1, Value.int .i64 1] 47 (0, 0)) := by rw [hX]; exact World.alloc_heap_new _ _
  have px := hid2 (ps.out.below hb)
  have h7x := hid2 h7
  obtain ⟨fn, tmps, assign, body, hy, hR⟩ := HY.out [] ⟨0, x, y, 1, 1⟩ X (ab_below HJ.out hJ.out hb) ⟨(pls2 x y).drop 1, rfl⟩
  unfold enP at hy
  generalize hb7 : w1.heap.size = b7 at h7x h7 ⊢
  clear hJ h7 hb hX ps hb7
  gi_wp2
  refine ⟨fun _ => by omega, hR.mono ?_⟩
  rintro e V1 ⟨rfl, hj, hk⟩
  have hJ := hid2 hj
  have ps := hid2 (px.out.kp hk)
  have H7 : Hid2 (V1.heap[b7]? = some (.cells #[Value.int .i64 1, Value.int .i64 1] 47 (0, 0))) := hid2 ((hk.2.1 _ _ _ h7x.out).trans h7x.out)
  clear hj hk px h7x hy hR fn tmps assign body
  have z0 := heap_lt ps.out.h0
  have z1 := heap_lt ps.out.h1
  have z2 := heap_lt ps.out.h2
  have zg := heap_lt ps.out.hg
  have d0 := cells_at ps.out.h0 0
  have d1 := cells_at ps.out.h1 0
  have d2 := cells_at ps.out.h2 0
  have e0 := cells_at ps.out.hg 0
  have e1 := cells_at ps.out.hg 1
  have e2 := cells_at ps.out.hg 2
  have e3 := cells_at ps.out.hg 3
  have e4 := cells_at ps.out.hg 4
  have e5 := cells_at ps.out.hg 5
  have f0 := cells_at H7.out 0
  have f1 := cells_at H7.out 1
  have z7 := heap_lt H7.out
  simp at d0 d1 d2 e0 e1 e2 e3 e4 e5 f0 f1
  gi_wp2
  rw [roundsIn_succ]
  gi_wp2
  clear f0 f1 z7 H7
  clear d0 d1 d2 e0 e1 e2 e3 e4 e5 z0 z1 z2 zg
  rw [roundsIn_succ]
  have z0 := heap_lt ps.out.h0
  have z1 := heap_lt ps.out.h1
  have z2 := heap_lt ps.out.h2
  have zg := heap_lt ps.out.hg
  have d0 := cells_at ps.out.h0 0
  have d1 := cells_at ps.out.h1 0
  have d2 := cells_at ps.out.h2 0
  have e0 := cells_at ps.out.hg 0
  have e1 := cells_at ps.out.hg 1
  have e2 := cells_at ps.out.hg 2
  have e3 := cells_at ps.out.hg 3
  have e4 := cells_at ps.out.hg 4
  have e5 := cells_at ps.out.hg 5
  simp at d0 d1 d2 e0 e1 e2 e3 e4 e5
  gi_wp2
  refine wpIn_loop_rounds 2 ?_
  rw [roundsIn_succ]
  gi_wp2_with (refine wpIn_region_wide_tail (C := (· = _)) 35 (by kernel_rfl) (by kernel_rfl) rfl ?_)
  simp only [List.take_succ_cons, List.take_zero, List.drop_succ_cons, List.drop_zero]
  (repeat (first | go_big_quiet_step (fail) | quiet_step (fail)))
  refine wpQuiet_nil ?_
  intro X hX
  have hb : Below V1.heap.size V1 X := by rw [hX]; exact gr3 (gr1 (gr0 _) _)
  have h7 : X.heap[V1.heap.size]? = some (.cells #[Value.int .i64 1, Value.int .i64 1] 47 (0, 0)) := by rw [hX]; exact World.alloc_heap_new _ _
  have px := hid2 (ps.out.below hb)
  have h7x := hid2 h7
  obtain ⟨fn, tmps, assign, body, hy, hR⟩ := HY.out [⟨0, x, y, 1, 1⟩] ⟨1, x, y, 1, 1⟩ X (ab_below HJ.out hJ.out hb) ⟨(pls2 x y).drop 2, rfl⟩
  unfold enP at hy
  generalize hb7 : V1.heap.size = b7 at h7x h7 ⊢
  clear hJ h7 hb hX ps hb7
  gi_wp2
  refine ⟨fun _ => by omega, hR.mono ?_⟩
  rintro e V2 ⟨rfl, hj, hk⟩
  have hJ := hid2 hj
  have ps := hid2 (px.out.kp hk)
  have H7 : Hid2 (V2.heap[b7]? = some (.cells #[Value.int .i64 1, Value.int .i64 1] 47 (0, 0))) := hid2 ((hk.2.1 _ _ _ h7x.out).trans h7x.out)
  clear hj hk px h7x hy hR fn tmps assign body
  have z0 := heap_lt ps.out.h0
  have z1 := heap_lt ps.out.h1
  have z2 := heap_lt ps.out.h2
  have zg := heap_lt ps.out.hg
  have d0 := cells_at ps.out.h0 0
  have d1 := cells_at ps.out.h1 0
  have d2 := cells_at ps.out.h2 0
  have e0 := cells_at ps.out.hg 0
  have e1 := cells_at ps.out.hg 1
  have e2 := cells_at ps.out.hg 2
  have e3 := cells_at ps.out.hg 3
  have e4 := cells_at ps.out.hg 4
  have e5 := cells_at ps.out.hg 5
  have f0 := cells_at H7.out 0
  have f1 := cells_at H7.out 1
  have z7 := heap_lt H7.out
  simp at d0 d1 d2 e0 e1 e2 e3 e4 e5 f0 f1
  gi_wp2
  rw [roundsIn_succ]
  gi_wp2
  clear f0 f1 z7 H7
  clear d0 d1 d2 e0 e1 e2 e3 e4 e5 z0 z1 z2 zg
  rw [roundsIn_succ]
  have z0 := heap_lt ps.out.h0
  have z1 := heap_lt ps.out.h1
  have z2 := heap_lt ps.out.h2
  have zg := heap_lt ps.out.hg
  have d0 := cells_at ps.out.h0 0
  have d1 := cells_at ps.out.h1 0
  have d2 := cells_at ps.out.h2 0
  have e0 := cells_at ps.out.hg 0
  have e1 := cells_at ps.out.hg 1
  have e2 := cells_at ps.out.hg 2
  have e3 := cells_at ps.out.hg 3
  have e4 := cells_at ps.out.hg 4
  have e5 := cells_at ps.out.hg 5
  simp at d0 d1 d2 e0 e1 e2 e3 e4 e5
  gi_wp2
  refine wpIn_loop_rounds 2 ?_
  rw [roundsIn_succ]
  gi_wp2_with (refine wpIn_region_wide_tail (C := (· = _)) 35 (by kernel_rfl) (by kernel_rfl) rfl ?_)
  simp only [List.take_succ_cons, List.take_zero, List.drop_succ_cons, List.drop_zero]
  (repeat (first | go_big_quiet_step (fail) | quiet_step (fail)))
  refine wpQuiet_nil ?_
  intro X hX
  have hb : Below V2.heap.size V2 X := by rw [hX]; exact gr3 (gr1 (gr0 _) _)
  have h7 : X.heap[V2.heap.size]? = some (.cells #[Value.int .i64 1, Value.int .i64 1] 47 (0, 0)) := by rw [hX]; exact World.alloc_heap_new _ _
  have px := hid2 (ps.out.below hb)
  have h7x := hid2 h7
  obtain ⟨fn, tmps, assign, body, hy, hR⟩ := HY.out [⟨0, x, y, 1, 1⟩, ⟨1, x, y, 1, 1⟩] ⟨2, x, y, 1, 1⟩ X (ab_below HJ.out hJ.out hb) ⟨(pls2 x y).drop 3, rfl⟩
  unfold enP at hy
  generalize hb7 : V2.heap.size = b7 at h7x h7 ⊢
  clear hJ h7 hb hX ps hb7
  gi_wp2
  refine ⟨fun _ => by omega, hR.mono ?_⟩
  rintro e V3 ⟨rfl, hj, hk⟩
  have hJ := hid2 hj
  have ps := hid2 (px.out.kp hk)
  have H7 : Hid2 (V3.heap[b7]? = some (.cells #[Value.int .i64 1, Value.int .i64 1] 47 (0, 0))) := hid2 ((hk.2.1 _ _ _ h7x.out).trans h7x.out)
  clear hj hk px h7x hy hR fn tmps assign body
  have z0 := heap_lt ps.out.h0
  have z1 := heap_lt ps.out.h1
  have z2 := heap_lt ps.out.h2
  have zg := heap_lt ps.out.hg
  have d0 := cells_at ps.out.h0 0
  have d1 := cells_at ps.out.h1 0
  have d2 := cells_at ps.out.h2 0
  have e0 := cells_at ps.out.hg 0
  have e1 := cells_at ps.out.hg 1
  have e2 := cells_at ps.out.hg 2
  have e3 := cells_at ps.out.hg 3
  have e4 := cells_at ps.out.hg 4
  have e5 := cells_at ps.out.hg 5
  have f0 := cells_at H7.out 0
  have f1 := cells_at H7.out 1
  have z7 := heap_lt H7.out
  simp at d0 d1 d2 e0 e1 e2 e3 e4 e5 f0 f1
  gi_wp2
  rw [roundsIn_succ]
  gi_wp2
  clear f0 f1 z7 H7
  clear d0 d1 d2 e0 e1 e2 e3 e4 e5 z0 z1 z2 zg
  rw [roundsIn_succ]
  have z0 := heap_lt ps.out.h0
  have z1 := heap_lt ps.out.h1
  have z2 := heap_lt ps.out.h2
  have zg := heap_lt ps.out.hg
  have d0 := cells_at ps.out.h0 0
  have d1 := cells_at ps.out.h1 0
  have d2 := cells_at ps.out.h2 0
  have e0 := cells_at ps.out.hg 0
  have e1 := cells_at ps.out.hg 1
  have e2 := cells_at ps.out.hg 2
  have e3 := cells_at ps.out.hg 3
  have e4 := cells_at ps.out.hg 4
  have e5 := cells_at ps.out.hg 5
  simp at d0 d1 d2 e0 e1 e2 e3 e4 e5
  gi_wp2
  refine ⟨rfl, .tuple #[], by simp [results, Try.results73], ⟨_, rfl⟩, hJ.out⟩
set_option maxRecDepth 100000 in
set_option maxHeartbeats 4000000 in
theorem each_pls3 {w0 w : World} {s : Nat} {x y : Int} (hx : 0 ≤ x ∧ x ≤ 65535) (hy : 0 ≤ y ∧ y ≤ 65535) (h0 : w0.heap[s]? = some (.cells #[.int .i64 3] 3 (0, 0))) (h1 : w0.heap[s + 1]? = some (.cells #[.int .i64 x] 3 (0, 0))) (h2 : w0.heap[s + 2]? = some (.cells #[.int .i64 y] 3 (0, 0)))
    (hB : Below w0.heap.size w0 w) (n : Nat) (hn : 2 ≤ n) :
    EachOf Fence.wide n Try.prog 73 (fun v => #[] ++ #[v] ++ #[.pointer (some ⟨s, 0, none⟩), .pointer (some ⟨s + 1, 0, none⟩), .pointer (some ⟨s + 2, 0, none⟩)]) enP (Kp2 [s, s + 1, s + 2]) (pls3 x y) w := by
  intro l J W hW hJ hY hJ0
  have hB0 : Below w0.heap.size w0 W := hB.trans (hW.mono hB.size)
  have a0 := (hB0.block s (heap_lt h0)).trans h0
  have a1 := (hB0.block (s + 1) (heap_lt h1)).trans h1
  have a2 := (hB0.block (s + 2) (heap_lt h2)).trans h2
  have hs2 := heap_lt a2
  have HY := hid2 hY
  have HJ := hid2 hJ
  have HJ0 := hid2 hJ0
  have c0 := cells_at a0 0
  simp at c0
  have A0 := hid2 a0
  have A1 := hid2 a1
  have A2 := hid2 a2
  obtain ⟨x0, x1⟩ := hx
  obtain ⟨y0, y1⟩ := hy
  clear hY hJ hJ0 hB hW h0 h1 h2 hB0 a0 a1 a2
  show CallsIn _ _ _ _ #[.func (.yield l) #[] #[], .pointer (some ⟨s, 0, none⟩), .pointer (some ⟨s + 1, 0, none⟩), .pointer (some ⟨s + 2, 0, none⟩)] _ _
  refine callsIn_of_wp Try.func73 rfl trivial ?_
  simp only [Try.ntmps73, List.size_toArray, List.length_cons, List.length_nil, Nat.reduceAdd, Nat.reduceSub, Array.replicate_succ, Array.replicate_zero, List.push_toArray, List.append_toArray, List.nil_append, List.cons_append]
  gi_wp2_with (refine ⟨trivial, fun _ => by omega, ?_⟩; gi_at_call 21; refine (callsIn_wide.2 (sides_3 _)).mono ?_; rintro e w1 ⟨g, rfl, hb1, hg1, hg2⟩)
  have hJ := hid2 (ab_below HJ.out HJ0.out hb1)
  have ps := hid2 ((⟨(hb1.block s (heap_lt A0.out)).trans A0.out, (hb1.block _ (heap_lt A1.out)).trans A1.out, (hb1.block _ (heap_lt A2.out)).trans A2.out, hg2⟩ : PS s g 3 x y #[Value.int .i64 2, Value.int .i64 1, Value.int .i64 1, Value.int .i64 1, Value.int .i64 1, Value.int .i64 1] w1))
  clear HJ0 A0 A1 A2 c0 hb1 hg1 hg2 hs2
  refine wpIn_loop_rounds 4 ?_
  rw [roundsIn_succ]
  have z0 := heap_lt ps.out.h0
  have z1 := heap_lt ps.out.h1
  have z2 := heap_lt ps.out.h2
  have zg := heap_lt ps.out.hg
  have d0 := cells_at ps.out.h0 0
  have d1 := cells_at ps.out.h1 0
  have d2 := cells_at ps.out.h2 0
  have e0 := cells_at ps.out.hg 0
  have e1 := cells_at ps.out.hg 1
  have e2 := cells_at ps.out.hg 2
  have e3 := cells_at ps.out.hg 3
  have e4 := cells_at ps.out.hg 4
  have e5 := cells_at ps.out.hg 5
  simp at d0 d1 d2 e0 e1 e2 e3 e4 e5
  gi_wp2
  refine wpIn_loop_rounds 3 ?_
  rw [roundsIn_succ]
  gi_wp2_with (refine wpIn_region_wide_tail (C := (· = _)) 35 (by kernel_rfl) (by kernel_rfl) rfl ?_)
  simp only [List.take_succ_cons, List.take_zero, List.drop_succ_cons, List.drop_zero]
  (repeat (first | go_big_quiet_step (fail) | quiet_step (fail)))
  refine wpQuiet_nil ?_
  intro X hX
  have hb : Below w1.heap.size w1 X := by rw [hX]; exact gr3 (gr1 (gr0 _) _)
  have h7 : X.heap[w1.heap.size]? = some (.cells #[Value.int .i64 2, Value.int .i64 1] 47 (0, 0)) := by rw [hX]; exact World.alloc_heap_new _ _
  have px := hid2 (ps.out.below hb)
  have h7x := hid2 h7
  obtain ⟨fn, tmps, assign, body, hy, hR⟩ := HY.out [] ⟨0, x * 2, y, 1, 1⟩ X (ab_below HJ.out hJ.out hb) ⟨(pls3 x y).drop 1, rfl⟩
  unfold enP at hy
  generalize hb7 : w1.heap.size = b7 at h7x h7 ⊢
  clear hJ h7 hb hX ps hb7
  gi_wp2
  refine ⟨fun _ => by omega, hR.mono ?_⟩
  rintro e V1 ⟨rfl, hj, hk⟩
  have hJ := hid2 hj
  have ps := hid2 (px.out.kp hk)
  have H7 : Hid2 (V1.heap[b7]? = some (.cells #[Value.int .i64 2, Value.int .i64 1] 47 (0, 0))) := hid2 ((hk.2.1 _ _ _ h7x.out).trans h7x.out)
  clear hj hk px h7x hy hR fn tmps assign body
  have z0 := heap_lt ps.out.h0
  have z1 := heap_lt ps.out.h1
  have z2 := heap_lt ps.out.h2
  have zg := heap_lt ps.out.hg
  have d0 := cells_at ps.out.h0 0
  have d1 := cells_at ps.out.h1 0
  have d2 := cells_at ps.out.h2 0
  have e0 := cells_at ps.out.hg 0
  have e1 := cells_at ps.out.hg 1
  have e2 := cells_at ps.out.hg 2
  have e3 := cells_at ps.out.hg 3
  have e4 := cells_at ps.out.hg 4
  have e5 := cells_at ps.out.hg 5
  have f0 := cells_at H7.out 0
  have f1 := cells_at H7.out 1
  have z7 := heap_lt H7.out
  simp at d0 d1 d2 e0 e1 e2 e3 e4 e5 f0 f1
  gi_wp2
  rw [roundsIn_succ]
  gi_wp2_with (refine wpIn_region_wide_tail (C := (· = _)) 35 (by kernel_rfl) (by kernel_rfl) rfl ?_)
  simp only [List.take_succ_cons, List.take_zero, List.drop_succ_cons, List.drop_zero]
  (repeat (first | go_big_quiet_step (fail) | quiet_step (fail)))
  refine wpQuiet_nil ?_
  intro X hX
  have hb : Below V1.heap.size V1 X := by rw [hX]; exact gr3 (gr0 _)
  have h7 : X.heap[b7]? = some (.cells #[Value.int .i64 2, Value.int .i64 1] 47 (0, 0)) := (hb.block _ (heap_lt H7.out)).trans H7.out
  have px := hid2 (ps.out.below hb)
  have h7x := hid2 h7
  obtain ⟨fn, tmps, assign, body, hy, hR⟩ := HY.out [⟨0, x * 2, y, 1, 1⟩] ⟨0, x * 2 + 1, y, 1, 1⟩ X (ab_below HJ.out hJ.out hb) ⟨(pls3 x y).drop 2, rfl⟩
  unfold enP at hy
  clear hJ h7 hb hX ps H7
  gi_wp2
  refine ⟨fun _ => by omega, hR.mono ?_⟩
  rintro e V2 ⟨rfl, hj, hk⟩
  have hJ := hid2 hj
  have ps := hid2 (px.out.kp hk)
  have H7 : Hid2 (V2.heap[b7]? = some (.cells #[Value.int .i64 2, Value.int .i64 1] 47 (0, 0))) := hid2 ((hk.2.1 _ _ _ h7x.out).trans h7x.out)
  clear hj hk px h7x hy hR fn tmps assign body
  have z0 := heap_lt ps.out.h0
  have z1 := heap_lt ps.out.h1
  have z2 := heap_lt ps.out.h2
  have zg := heap_lt ps.out.hg
  have d0 := cells_at ps.out.h0 0
  have d1 := cells_at ps.out.h1 0
  have d2 := cells_at ps.out.h2 0
  have e0 := cells_at ps.out.hg 0
  have e1 := cells_at ps.out.hg 1
  have e2 := cells_at ps.out.hg 2
  have e3 := cells_at ps.out.hg 3
  have e4 := cells_at ps.out.hg 4
  have e5 := cells_at ps.out.hg 5
  have f0 := cells_at H7.out 0
  have f1 := cells_at H7.out 1
  have z7 := heap_lt H7.out
  simp at d0 d1 d2 e0 e1 e2 e3 e4 e5 f0 f1
  gi_wp2
  rw [roundsIn_succ]
  gi_wp2
  clear f0 f1 z7 H7
  clear d0 d1 d2 e0 e1 e2 e3 e4 e5 z0 z1 z2 zg
  rw [roundsIn_succ]
  have z0 := heap_lt ps.out.h0
  have z1 := heap_lt ps.out.h1
  have z2 := heap_lt ps.out.h2
  have zg := heap_lt ps.out.hg
  have d0 := cells_at ps.out.h0 0
  have d1 := cells_at ps.out.h1 0
  have d2 := cells_at ps.out.h2 0
  have e0 := cells_at ps.out.hg 0
  have e1 := cells_at ps.out.hg 1
  have e2 := cells_at ps.out.hg 2
  have e3 := cells_at ps.out.hg 3
  have e4 := cells_at ps.out.hg 4
  have e5 := cells_at ps.out.hg 5
  simp at d0 d1 d2 e0 e1 e2 e3 e4 e5
  gi_wp2
  refine wpIn_loop_rounds 2 ?_
  rw [roundsIn_succ]
  gi_wp2_with (refine wpIn_region_wide_tail (C := (· = _)) 35 (by kernel_rfl) (by kernel_rfl) rfl ?_)
  simp only [List.take_succ_cons, List.take_zero, List.drop_succ_cons, List.drop_zero]
  (repeat (first | go_big_quiet_step (fail) | quiet_step (fail)))
  refine wpQuiet_nil ?_
  intro X hX
  have hb : Below V2.heap.size V2 X := by rw [hX]; exact gr3 (gr1 (gr0 _) _)
  have h7 : X.heap[V2.heap.size]? = some (.cells #[Value.int .i64 1, Value.int .i64 1] 47 (0, 0)) := by rw [hX]; exact World.alloc_heap_new _ _
  have px := hid2 (ps.out.below hb)
  have h7x := hid2 h7
  obtain ⟨fn, tmps, assign, body, hy, hR⟩ := HY.out [⟨0, x * 2, y, 1, 1⟩, ⟨0, x * 2 + 1, y, 1, 1⟩] ⟨1, x, y, 2, 1⟩ X (ab_below HJ.out hJ.out hb) ⟨(pls3 x y).drop 3, rfl⟩
  unfold enP at hy
  generalize hb7 : V2.heap.size = b7 at h7x h7 ⊢
  clear hJ h7 hb hX ps hb7
  gi_wp2
  refine ⟨fun _ => by omega, hR.mono ?_⟩
  rintro e V3 ⟨rfl, hj, hk⟩
  have hJ := hid2 hj
  have ps := hid2 (px.out.kp hk)
  have H7 : Hid2 (V3.heap[b7]? = some (.cells #[Value.int .i64 1, Value.int .i64 1] 47 (0, 0))) := hid2 ((hk.2.1 _ _ _ h7x.out).trans h7x.out)
  clear hj hk px h7x hy hR fn tmps assign body
  have z0 := heap_lt ps.out.h0
  have z1 := heap_lt ps.out.h1
  have z2 := heap_lt ps.out.h2
  have zg := heap_lt ps.out.hg
  have d0 := cells_at ps.out.h0 0
  have d1 := cells_at ps.out.h1 0
  have d2 := cells_at ps.out.h2 0
  have e0 := cells_at ps.out.hg 0
  have e1 := cells_at ps.out.hg 1
  have e2 := cells_at ps.out.hg 2
  have e3 := cells_at ps.out.hg 3
  have e4 := cells_at ps.out.hg 4
  have e5 := cells_at ps.out.hg 5
  have f0 := cells_at H7.out 0
  have f1 := cells_at H7.out 1
  have z7 := heap_lt H7.out
  simp at d0 d1 d2 e0 e1 e2 e3 e4 e5 f0 f1
  gi_wp2
  rw [roundsIn_succ]
  gi_wp2
  clear f0 f1 z7 H7
  clear d0 d1 d2 e0 e1 e2 e3 e4 e5 z0 z1 z2 zg
  rw [roundsIn_succ]
  have z0 := heap_lt ps.out.h0
  have z1 := heap_lt ps.out.h1
  have z2 := heap_lt ps.out.h2
  have zg := heap_lt ps.out.hg
  have d0 := cells_at ps.out.h0 0
  have d1 := cells_at ps.out.h1 0
  have d2 := cells_at ps.out.h2 0
  have e0 := cells_at ps.out.hg 0
  have e1 := cells_at ps.out.hg 1
  have e2 := cells_at ps.out.hg 2
  have e3 := cells_at ps.out.hg 3
  have e4 := cells_at ps.out.hg 4
  have e5 := cells_at ps.out.hg 5
  simp at d0 d1 d2 e0 e1 e2 e3 e4 e5
  gi_wp2
  refine wpIn_loop_rounds 2 ?_
  rw [roundsIn_succ]
  gi_wp2_with (refine wpIn_region_wide_tail (C := (· = _)) 35 (by kernel_rfl) (by kernel_rfl) rfl ?_)
  simp only [List.take_succ_cons, List.take_zero, List.drop_succ_cons, List.drop_zero]
  (repeat (first | go_big_quiet_step (fail) | quiet_step (fail)))
  refine wpQuiet_nil ?_
  intro X hX
  have hb : Below V3.heap.size V3 X := by rw [hX]; exact gr3 (gr1 (gr0 _) _)
  have h7 : X.heap[V3.heap.size]? = some (.cells #[Value.int .i64 1, Value.int .i64 1] 47 (0, 0)) := by rw [hX]; exact World.alloc_heap_new _ _
  have px := hid2 (ps.out.below hb)
  have h7x := hid2 h7
  obtain ⟨fn, tmps, assign, body, hy, hR⟩ := HY.out [⟨0, x * 2, y, 1, 1⟩, ⟨0, x * 2 + 1, y, 1, 1⟩, ⟨1, x, y, 2, 1⟩] ⟨2, x, y, 2, 1⟩ X (ab_below HJ.out hJ.out hb) ⟨(pls3 x y).drop 4, rfl⟩
  unfold enP at hy
  generalize hb7 : V3.heap.size = b7 at h7x h7 ⊢
  clear hJ h7 hb hX ps hb7
  gi_wp2
  refine ⟨fun _ => by omega, hR.mono ?_⟩
  rintro e V4 ⟨rfl, hj, hk⟩
  have hJ := hid2 hj
  have ps := hid2 (px.out.kp hk)
  have H7 : Hid2 (V4.heap[b7]? = some (.cells #[Value.int .i64 1, Value.int .i64 1] 47 (0, 0))) := hid2 ((hk.2.1 _ _ _ h7x.out).trans h7x.out)
  clear hj hk px h7x hy hR fn tmps assign body
  have z0 := heap_lt ps.out.h0
  have z1 := heap_lt ps.out.h1
  have z2 := heap_lt ps.out.h2
  have zg := heap_lt ps.out.hg
  have d0 := cells_at ps.out.h0 0
  have d1 := cells_at ps.out.h1 0
  have d2 := cells_at ps.out.h2 0
  have e0 := cells_at ps.out.hg 0
  have e1 := cells_at ps.out.hg 1
  have e2 := cells_at ps.out.hg 2
  have e3 := cells_at ps.out.hg 3
  have e4 := cells_at ps.out.hg 4
  have e5 := cells_at ps.out.hg 5
  have f0 := cells_at H7.out 0
  have f1 := cells_at H7.out 1
  have z7 := heap_lt H7.out
  simp at d0 d1 d2 e0 e1 e2 e3 e4 e5 f0 f1
  gi_wp2
  rw [roundsIn_succ]
  gi_wp2
  clear f0 f1 z7 H7
  clear d0 d1 d2 e0 e1 e2 e3 e4 e5 z0 z1 z2 zg
  rw [roundsIn_succ]
  have z0 := heap_lt ps.out.h0
  have z1 := heap_lt ps.out.h1
  have z2 := heap_lt ps.out.h2
  have zg := heap_lt ps.out.hg
  have d0 := cells_at ps.out.h0 0
  have d1 := cells_at ps.out.h1 0
  have d2 := cells_at ps.out.h2 0
  have e0 := cells_at ps.out.hg 0
  have e1 := cells_at ps.out.hg 1
  have e2 := cells_at ps.out.hg 2
  have e3 := cells_at ps.out.hg 3
  have e4 := cells_at ps.out.hg 4
  have e5 := cells_at ps.out.hg 5
  simp at d0 d1 d2 e0 e1 e2 e3 e4 e5
  gi_wp2
  refine ⟨rfl, .tuple #[], by simp [results, Try.results73], ⟨_, rfl⟩, hJ.out⟩
set_option maxRecDepth 100000 in
set_option maxHeartbeats 4000000 in
theorem each_pls4 {w0 w : World} {s : Nat} {x y : Int} (hx : 0 ≤ x ∧ x ≤ 65535) (hy : 0 ≤ y ∧ y ≤ 65535) (h0 : w0.heap[s]? = some (.cells #[.int .i64 4] 3 (0, 0))) (h1 : w0.heap[s + 1]? = some (.cells #[.int .i64 x] 3 (0, 0))) (h2 : w0.heap[s + 2]? = some (.cells #[.int .i64 y] 3 (0, 0)))
    (hB : Below w0.heap.size w0 w) (n : Nat) (hn : 2 ≤ n) :
    EachOf Fence.wide n Try.prog 73 (fun v => #[] ++ #[v] ++ #[.pointer (some ⟨s, 0, none⟩), .pointer (some ⟨s + 1, 0, none⟩), .pointer (some ⟨s + 2, 0, none⟩)]) enP (Kp2 [s, s + 1, s + 2]) (pls4 x y) w := by
  intro l J W hW hJ hY hJ0
  have hB0 : Below w0.heap.size w0 W := hB.trans (hW.mono hB.size)
  have a0 := (hB0.block s (heap_lt h0)).trans h0
  have a1 := (hB0.block (s + 1) (heap_lt h1)).trans h1
  have a2 := (hB0.block (s + 2) (heap_lt h2)).trans h2
  have hs2 := heap_lt a2
  have HY := hid2 hY
  have HJ := hid2 hJ
  have HJ0 := hid2 hJ0
  have c0 := cells_at a0 0
  simp at c0
  have A0 := hid2 a0
  have A1 := hid2 a1
  have A2 := hid2 a2
  obtain ⟨x0, x1⟩ := hx
  obtain ⟨y0, y1⟩ := hy
  clear hY hJ hJ0 hB hW h0 h1 h2 hB0 a0 a1 a2
  show CallsIn _ _ _ _ #[.func (.yield l) #[] #[], .pointer (some ⟨s, 0, none⟩), .pointer (some ⟨s + 1, 0, none⟩), .pointer (some ⟨s + 2, 0, none⟩)] _ _
  refine callsIn_of_wp Try.func73 rfl trivial ?_
  simp only [Try.ntmps73, List.size_toArray, List.length_cons, List.length_nil, Nat.reduceAdd, Nat.reduceSub, Array.replicate_succ, Array.replicate_zero, List.push_toArray, List.append_toArray, List.nil_append, List.cons_append]
  gi_wp2_with (refine ⟨trivial, fun _ => by omega, ?_⟩; gi_at_call 21; refine (callsIn_wide.2 (sides_4 _)).mono ?_; rintro e w1 ⟨g, rfl, hb1, hg1, hg2⟩)
  have hJ := hid2 (ab_below HJ.out HJ0.out hb1)
  have ps := hid2 ((⟨(hb1.block s (heap_lt A0.out)).trans A0.out, (hb1.block _ (heap_lt A1.out)).trans A1.out, (hb1.block _ (heap_lt A2.out)).trans A2.out, hg2⟩ : PS s g 4 x y #[Value.int .i64 2, Value.int .i64 2, Value.int .i64 1, Value.int .i64 1, Value.int .i64 1, Value.int .i64 1] w1))
  clear HJ0 A0 A1 A2 c0 hb1 hg1 hg2 hs2
  refine wpIn_loop_rounds 4 ?_
  rw [roundsIn_succ]
  have z0 := heap_lt ps.out.h0
  have z1 := heap_lt ps.out.h1
  have z2 := heap_lt ps.out.h2
  have zg := heap_lt ps.out.hg
  have d0 := cells_at ps.out.h0 0
  have d1 := cells_at ps.out.h1 0
  have d2 := cells_at ps.out.h2 0
  have e0 := cells_at ps.out.hg 0
  have e1 := cells_at ps.out.hg 1
  have e2 := cells_at ps.out.hg 2
  have e3 := cells_at ps.out.hg 3
  have e4 := cells_at ps.out.hg 4
  have e5 := cells_at ps.out.hg 5
  simp at d0 d1 d2 e0 e1 e2 e3 e4 e5
  gi_wp2
  refine wpIn_loop_rounds 5 ?_
  rw [roundsIn_succ]
  gi_wp2_with (refine wpIn_region_wide_tail (C := (· = _)) 35 (by kernel_rfl) (by kernel_rfl) rfl ?_)
  simp only [List.take_succ_cons, List.take_zero, List.drop_succ_cons, List.drop_zero]
  (repeat (first | go_big_quiet_step (fail) | quiet_step (fail)))
  refine wpQuiet_nil ?_
  intro X hX
  have hb : Below w1.heap.size w1 X := by rw [hX]; exact gr3 (gr1 (gr0 _) _)
  have h7 : X.heap[w1.heap.size]? = some (.cells #[Value.int .i64 2, Value.int .i64 2] 47 (0, 0)) := by rw [hX]; exact World.alloc_heap_new _ _
  have px := hid2 (ps.out.below hb)
  have h7x := hid2 h7
  obtain ⟨fn, tmps, assign, body, hy, hR⟩ := HY.out [] ⟨0, x * 2, y * 2, 1, 1⟩ X (ab_below HJ.out hJ.out hb) ⟨(pls4 x y).drop 1, rfl⟩
  unfold enP at hy
  generalize hb7 : w1.heap.size = b7 at h7x h7 ⊢
  clear hJ h7 hb hX ps hb7
  gi_wp2
  refine ⟨fun _ => by omega, hR.mono ?_⟩
  rintro e V1 ⟨rfl, hj, hk⟩
  have hJ := hid2 hj
  have ps := hid2 (px.out.kp hk)
  have H7 : Hid2 (V1.heap[b7]? = some (.cells #[Value.int .i64 2, Value.int .i64 2] 47 (0, 0))) := hid2 ((hk.2.1 _ _ _ h7x.out).trans h7x.out)
  clear hj hk px h7x hy hR fn tmps assign body
  have z0 := heap_lt ps.out.h0
  have z1 := heap_lt ps.out.h1
  have z2 := heap_lt ps.out.h2
  have zg := heap_lt ps.out.hg
  have d0 := cells_at ps.out.h0 0
  have d1 := cells_at ps.out.h1 0
  have d2 := cells_at ps.out.h2 0
  have e0 := cells_at ps.out.hg 0
  have e1 := cells_at ps.out.hg 1
  have e2 := cells_at ps.out.hg 2
  have e3 := cells_at ps.out.hg 3
  have e4 := cells_at ps.out.hg 4
  have e5 := cells_at ps.out.hg 5
  have f0 := cells_at H7.out 0
  have f1 := cells_at H7.out 1
  have z7 := heap_lt H7.out
  simp at d0 d1 d2 e0 e1 e2 e3 e4 e5 f0 f1
  gi_wp2
  rw [roundsIn_succ]
  gi_wp2_with (refine wpIn_region_wide_tail (C := (· = _)) 35 (by kernel_rfl) (by kernel_rfl) rfl ?_)
  simp only [List.take_succ_cons, List.take_zero, List.drop_succ_cons, List.drop_zero]
  (repeat (first | go_big_quiet_step (fail) | quiet_step (fail)))
  refine wpQuiet_nil ?_
  intro X hX
  have hb : Below V1.heap.size V1 X := by rw [hX]; exact gr3 (gr0 _)
  have h7 : X.heap[b7]? = some (.cells #[Value.int .i64 2, Value.int .i64 2] 47 (0, 0)) := (hb.block _ (heap_lt H7.out)).trans H7.out
  have px := hid2 (ps.out.below hb)
  have h7x := hid2 h7
  obtain ⟨fn, tmps, assign, body, hy, hR⟩ := HY.out [⟨0, x * 2, y * 2, 1, 1⟩] ⟨0, x * 2 + 1, y * 2, 1, 1⟩ X (ab_below HJ.out hJ.out hb) ⟨(pls4 x y).drop 2, rfl⟩
  unfold enP at hy
  clear hJ h7 hb hX ps H7
  gi_wp2
  refine ⟨fun _ => by omega, hR.mono ?_⟩
  rintro e V2 ⟨rfl, hj, hk⟩
  have hJ := hid2 hj
  have ps := hid2 (px.out.kp hk)
  have H7 : Hid2 (V2.heap[b7]? = some (.cells #[Value.int .i64 2, Value.int .i64 2] 47 (0, 0))) := hid2 ((hk.2.1 _ _ _ h7x.out).trans h7x.out)
  clear hj hk px h7x hy hR fn tmps assign body
  have z0 := heap_lt ps.out.h0
  have z1 := heap_lt ps.out.h1
  have z2 := heap_lt ps.out.h2
  have zg := heap_lt ps.out.hg
  have d0 := cells_at ps.out.h0 0
  have d1 := cells_at ps.out.h1 0
  have d2 := cells_at ps.out.h2 0
  have e0 := cells_at ps.out.hg 0
  have e1 := cells_at ps.out.hg 1
  have e2 := cells_at ps.out.hg 2
  have e3 := cells_at ps.out.hg 3
  have e4 := cells_at ps.out.hg 4
  have e5 := cells_at ps.out.hg 5
  have f0 := cells_at H7.out 0
  have f1 := cells_at H7.out 1
  have z7 := heap_lt H7.out
  simp at d0 d1 d2 e0 e1 e2 e3 e4 e5 f0 f1
  gi_wp2
  rw [roundsIn_succ]
  gi_wp2_with (refine wpIn_region_wide_tail (C := (· = _)) 35 (by kernel_rfl) (by kernel_rfl) rfl ?_)
  simp only [List.take_succ_cons, List.take_zero, List.drop_succ_cons, List.drop_zero]
  (repeat (first | go_big_quiet_step (fail) | quiet_step (fail)))
  refine wpQuiet_nil ?_
  intro X hX
  have hb : Below V2.heap.size V2 X := by rw [hX]; exact gr3 (gr0 _)
  have h7 : X.heap[b7]? = some (.cells #[Value.int .i64 2, Value.int .i64 2] 47 (0, 0)) := (hb.block _ (heap_lt H7.out)).trans H7.out
  have px := hid2 (ps.out.below hb)
  have h7x := hid2 h7
  obtain ⟨fn, tmps, assign, body, hy, hR⟩ := HY.out [⟨0, x * 2, y * 2, 1, 1⟩, ⟨0, x * 2 + 1, y * 2, 1, 1⟩] ⟨0, x * 2, y * 2 + 1, 1, 1⟩ X (ab_below HJ.out hJ.out hb) ⟨(pls4 x y).drop 3, rfl⟩
  unfold enP at hy
  clear hJ h7 hb hX ps H7
  gi_wp2
  refine ⟨fun _ => by omega, hR.mono ?_⟩
  rintro e V3 ⟨rfl, hj, hk⟩
  have hJ := hid2 hj
  have ps := hid2 (px.out.kp hk)
  have H7 : Hid2 (V3.heap[b7]? = some (.cells #[Value.int .i64 2, Value.int .i64 2] 47 (0, 0))) := hid2 ((hk.2.1 _ _ _ h7x.out).trans h7x.out)
  clear hj hk px h7x hy hR fn tmps assign body
  have z0 := heap_lt ps.out.h0
  have z1 := heap_lt ps.out.h1
  have z2 := heap_lt ps.out.h2
  have zg := heap_lt ps.out.hg
  have d0 := cells_at ps.out.h0 0
  have d1 := cells_at ps.out.h1 0
  have d2 := cells_at ps.out.h2 0
  have e0 := cells_at ps.out.hg 0
  have e1 := cells_at ps.out.hg 1
  have e2 := cells_at ps.out.hg 2
  have e3 := cells_at ps.out.hg 3
  have e4 := cells_at ps.out.hg 4
  have e5 := cells_at ps.out.hg 5
  have f0 := cells_at H7.out 0
  have f1 := cells_at H7.out 1
  have z7 := heap_lt H7.out
  simp at d0 d1 d2 e0 e1 e2 e3 e4 e5 f0 f1
  gi_wp2
  rw [roundsIn_succ]
  gi_wp2_with (refine wpIn_region_wide_tail (C := (· = _)) 35 (by kernel_rfl) (by kernel_rfl) rfl ?_)
  simp only [List.take_succ_cons, List.take_zero, List.drop_succ_cons, List.drop_zero]
  (repeat (first | go_big_quiet_step (fail) | quiet_step (fail)))
  refine wpQuiet_nil ?_
  intro X hX
  have hb : Below V3.heap.size V3 X := by rw [hX]; exact gr3 (gr0 _)
  have h7 : X.heap[b7]? = some (.cells #[Value.int .i64 2, Value.int .i64 2] 47 (0, 0)) := (hb.block _ (heap_lt H7.out)).trans H7.out
  have px := hid2 (ps.out.below hb)
  have h7x := hid2 h7
  obtain ⟨fn, tmps, assign, body, hy, hR⟩ := HY.out [⟨0, x * 2, y * 2, 1, 1⟩, ⟨0, x * 2 + 1, y * 2, 1, 1⟩, ⟨0, x * 2, y * 2 + 1, 1, 1⟩] ⟨0, x * 2 + 1, y * 2 + 1, 1, 1⟩ X (ab_below HJ.out hJ.out hb) ⟨(pls4 x y).drop 4, rfl⟩
  unfold enP at hy
  clear hJ h7 hb hX ps H7
  gi_wp2
  refine ⟨fun _ => by omega, hR.mono ?_⟩
  rintro e V4 ⟨rfl, hj, hk⟩
  have hJ := hid2 hj
  have ps := hid2 (px.out.kp hk)
  have H7 : Hid2 (V4.heap[b7]? = some (.cells #[Value.int .i64 2, Value.int .i64 2] 47 (0, 0))) := hid2 ((hk.2.1 _ _ _ h7x.out).trans h7x.out)
  clear hj hk px h7x hy hR fn tmps assign body
  have z0 := heap_lt ps.out.h0
  have z1 := heap_lt ps.out.h1
  have z2 := heap_lt ps.out.h2
  have zg := heap_lt ps.out.hg
  have d0 := cells_at ps.out.h0 0
  have d1 := cells_at ps.out.h1 0
  have d2 := cells_at ps.out.h2 0
  have e0 := cells_at ps.out.hg 0
  have e1 := cells_at ps.out.hg 1
  have e2 := cells_at ps.out.hg 2
  have e3 := cells_at ps.out.hg 3
  have e4 := cells_at ps.out.hg 4
  have e5 := cells_at ps.out.hg 5
  have f0 := cells_at H7.out 0
  have f1 := cells_at H7.out 1
  have z7 := heap_lt H7.out
  simp at d0 d1 d2 e0 e1 e2 e3 e4 e5 f0 f1
  gi_wp2
  rw [roundsIn_succ]
  gi_wp2
  clear f0 f1 z7 H7
  clear d0 d1 d2 e0 e1 e2 e3 e4 e5 z0 z1 z2 zg
  rw [roundsIn_succ]
  have z0 := heap_lt ps.out.h0
  have z1 := heap_lt ps.out.h1
  have z2 := heap_lt ps.out.h2
  have zg := heap_lt ps.out.hg
  have d0 := cells_at ps.out.h0 0
  have d1 := cells_at ps.out.h1 0
  have d2 := cells_at ps.out.h2 0
  have e0 := cells_at ps.out.hg 0
  have e1 := cells_at ps.out.hg 1
  have e2 := cells_at ps.out.hg 2
  have e3 := cells_at ps.out.hg 3
  have e4 := cells_at ps.out.hg 4
  have e5 := cells_at ps.out.hg 5
  simp at d0 d1 d2 e0 e1 e2 e3 e4 e5
  gi_wp2
  refine wpIn_loop_rounds 2 ?_
  rw [roundsIn_succ]
  gi_wp2_with (refine wpIn_region_wide_tail (C := (· = _)) 35 (by kernel_rfl) (by kernel_rfl) rfl ?_)
  simp only [List.take_succ_cons, List.take_zero, List.drop_succ_cons, List.drop_zero]
  (repeat (first | go_big_quiet_step (fail) | quiet_step (fail)))
  refine wpQuiet_nil ?_
  intro X hX
  have hb : Below V4.heap.size V4 X := by rw [hX]; exact gr3 (gr1 (gr0 _) _)
  have h7 : X.heap[V4.heap.size]? = some (.cells #[Value.int .i64 1, Value.int .i64 1] 47 (0, 0)) := by rw [hX]; exact World.alloc_heap_new _ _
  have px := hid2 (ps.out.below hb)
  have h7x := hid2 h7
  obtain ⟨fn, tmps, assign, body, hy, hR⟩ := HY.out [⟨0, x * 2, y * 2, 1, 1⟩, ⟨0, x * 2 + 1, y * 2, 1, 1⟩, ⟨0, x * 2, y * 2 + 1, 1, 1⟩, ⟨0, x * 2 + 1, y * 2 + 1, 1, 1⟩] ⟨1, x, y, 2, 2⟩ X (ab_below HJ.out hJ.out hb) ⟨(pls4 x y).drop 5, rfl⟩
  unfold enP at hy
  generalize hb7 : V4.heap.size = b7 at h7x h7 ⊢
  clear hJ h7 hb hX ps hb7
  gi_wp2
  refine ⟨fun _ => by omega, hR.mono ?_⟩
  rintro e V5 ⟨rfl, hj, hk⟩
  have hJ := hid2 hj
  have ps := hid2 (px.out.kp hk)
  have H7 : Hid2 (V5.heap[b7]? = some (.cells #[Value.int .i64 1, Value.int .i64 1] 47 (0, 0))) := hid2 ((hk.2.1 _ _ _ h7x.out).trans h7x.out)
  clear hj hk px h7x hy hR fn tmps assign body
  have z0 := heap_lt ps.out.h0
  have z1 := heap_lt ps.out.h1
  have z2 := heap_lt ps.out.h2
  have zg := heap_lt ps.out.hg
  have d0 := cells_at ps.out.h0 0
  have d1 := cells_at ps.out.h1 0
  have d2 := cells_at ps.out.h2 0
  have e0 := cells_at ps.out.hg 0
  have e1 := cells_at ps.out.hg 1
  have e2 := cells_at ps.out.hg 2
  have e3 := cells_at ps.out.hg 3
  have e4 := cells_at ps.out.hg 4
  have e5 := cells_at ps.out.hg 5
  have f0 := cells_at H7.out 0
  have f1 := cells_at H7.out 1
  have z7 := heap_lt H7.out
  simp at d0 d1 d2 e0 e1 e2 e3 e4 e5 f0 f1
  gi_wp2
  rw [roundsIn_succ]
  gi_wp2
  clear f0 f1 z7 H7
  clear d0 d1 d2 e0 e1 e2 e3 e4 e5 z0 z1 z2 zg
  rw [roundsIn_succ]
  have z0 := heap_lt ps.out.h0
  have z1 := heap_lt ps.out.h1
  have z2 := heap_lt ps.out.h2
  have zg := heap_lt ps.out.hg
  have d0 := cells_at ps.out.h0 0
  have d1 := cells_at ps.out.h1 0
  have d2 := cells_at ps.out.h2 0
  have e0 := cells_at ps.out.hg 0
  have e1 := cells_at ps.out.hg 1
  have e2 := cells_at ps.out.hg 2
  have e3 := cells_at ps.out.hg 3
  have e4 := cells_at ps.out.hg 4
  have e5 := cells_at ps.out.hg 5
  simp at d0 d1 d2 e0 e1 e2 e3 e4 e5
  gi_wp2
  refine wpIn_loop_rounds 2 ?_
  rw [roundsIn_succ]
  gi_wp2_with (refine wpIn_region_wide_tail (C := (· = _)) 35 (by kernel_rfl) (by kernel_rfl) rfl ?_)
  simp only [List.take_succ_cons, List.take_zero, List.drop_succ_cons, List.drop_zero]
  (repeat (first | go_big_quiet_step (fail) | quiet_step (fail)))
  refine wpQuiet_nil ?_
  intro X hX
  have hb : Below V5.heap.size V5 X := by rw [hX]; exact gr3 (gr1 (gr0 _) _)
  have h7 : X.heap[V5.heap.size]? = some (.cells #[Value.int .i64 1, Value.int .i64 1] 47 (0, 0)) := by rw [hX]; exact World.alloc_heap_new _ _
  have px := hid2 (ps.out.below hb)
  have h7x := hid2 h7
  obtain ⟨fn, tmps, assign, body, hy, hR⟩ := HY.out [⟨0, x * 2, y * 2, 1, 1⟩, ⟨0, x * 2 + 1, y * 2, 1, 1⟩, ⟨0, x * 2, y * 2 + 1, 1, 1⟩, ⟨0, x * 2 + 1, y * 2 + 1, 1, 1⟩, ⟨1, x, y, 2, 2⟩] ⟨2, x, y, 2, 2⟩ X (ab_below HJ.out hJ.out hb) ⟨(pls4 x y).drop 6, rfl⟩
  unfold enP at hy
  generalize hb7 : V5.heap.size = b7 at h7x h7 ⊢
  clear hJ h7 hb hX ps hb7
  gi_wp2
  refine ⟨fun _ => by omega, hR.mono ?_⟩
  rintro e V6 ⟨rfl, hj, hk⟩
  have hJ := hid2 hj
  have ps := hid2 (px.out.kp hk)
  have H7 : Hid2 (V6.heap[b7]? = some (.cells #[Value.int .i64 1, Value.int .i64 1] 47 (0, 0))) := hid2 ((hk.2.1 _ _ _ h7x.out).trans h7x.out)
  clear hj hk px h7x hy hR fn tmps assign body
  have z0 := heap_lt ps.out.h0
  have z1 := heap_lt ps.out.h1
  have z2 := heap_lt ps.out.h2
  have zg := heap_lt ps.out.hg
  have d0 := cells_at ps.out.h0 0
  have d1 := cells_at ps.out.h1 0
  have d2 := cells_at ps.out.h2 0
  have e0 := cells_at ps.out.hg 0
  have e1 := cells_at ps.out.hg 1
  have e2 := cells_at ps.out.hg 2
  have e3 := cells_at ps.out.hg 3
  have e4 := cells_at ps.out.hg 4
  have e5 := cells_at ps.out.hg 5
  have f0 := cells_at H7.out 0
  have f1 := cells_at H7.out 1
  have z7 := heap_lt H7.out
  simp at d0 d1 d2 e0 e1 e2 e3 e4 e5 f0 f1
  gi_wp2
  rw [roundsIn_succ]
  gi_wp2
  clear f0 f1 z7 H7
  clear d0 d1 d2 e0 e1 e2 e3 e4 e5 z0 z1 z2 zg
  rw [roundsIn_succ]
  have z0 := heap_lt ps.out.h0
  have z1 := heap_lt ps.out.h1
  have z2 := heap_lt ps.out.h2
  have zg := heap_lt ps.out.hg
  have d0 := cells_at ps.out.h0 0
  have d1 := cells_at ps.out.h1 0
  have d2 := cells_at ps.out.h2 0
  have e0 := cells_at ps.out.hg 0
  have e1 := cells_at ps.out.hg 1
  have e2 := cells_at ps.out.hg 2
  have e3 := cells_at ps.out.hg 3
  have e4 := cells_at ps.out.hg 4
  have e5 := cells_at ps.out.hg 5
  simp at d0 d1 d2 e0 e1 e2 e3 e4 e5
  gi_wp2
  refine ⟨rfl, .tuple #[], by simp [results, Try.results73], ⟨_, rfl⟩, hJ.out⟩
end Go.Proofs.Ytgegmlhpdpdnfaa
