/- The row's last step for a law that only reads what is handed in, whatever its arguments are; and a struct of integers opened. -/
import Derived.Test.YtgegmlhpdpdnfaaProg
import Derived.Test.YtgegmlhpdpdnfaaShut
import Derived.ReadAgain
import Derived.OpenShut
import Derived.Deep.Fields
import Derived.ProofKit
namespace Go.Proofs.Ytgegmlhpdpdnfaa
open Go.RowKit Go.WideShapes Go.ChangeShapes Go.Deep

theorem kids : Kids Try.prog (· < Try.prog.types.size) := kids_rows (by kernel_rfl) (by kernel_rfl)
theorem full : ∀ t e, t < Try.prog.types.size → Try.prog.underlying t = some (.slice e) → 0 < Try.prog.cellsOf e := slices_full_of Try.prog (by kernel_rfl)
section
variable {H : Type} {enc : TypeId × Value → H} {P : Program}
theorem Trod_carry {W W' : World} {base : Nat} {sp : Nat → Bool} {hd : Bool} {t : TypeId} {v : Value} {d : DataW H} {ps : List MemPlace}
    (h : DataW.Trod enc P W base sp hd t v d ps) (hs : ∀ p ∈ ps, W.sameAt W' p) : DataW.Trod enc P W' base sp hd t v d ps := by
  obtain ⟨n, hn⟩ := h
  exact ⟨n, DataW.trod_carry n _ _ _ hn hs⟩
theorem TrodAll_carry {W W' : World} {base : Nat} {sp : Nat → Bool} {hd : Bool} : ∀ {ts : List TypeId} {vs : List Value} {ds : List (DataW H)} {ps : List MemPlace},
    DataW.TrodAll enc P W base sp hd ts vs ds ps → (∀ p ∈ ps, W.sameAt W' p) → DataW.TrodAll enc P W' base sp hd ts vs ds ps
  | [], [], [], _, h, _ => h
  | _ :: _, _ :: _, _ :: _, _, ⟨p, q, h1, h2, e⟩, hs =>
    ⟨p, q, Trod_carry h1 (fun x hx => hs x (by rw [e]; exact List.mem_append_left _ hx)), TrodAll_carry h2 (fun x hx => hs x (by rw [e]; exact List.mem_append_right _ hx)), e⟩
theorem post_of_reads {f : Func} {s : ChangeSpec} {apart fresh handsOn again : Bool} {W W' : World} {args : Array Value} {v : Value} {ds gs : List (DataW H)} {before pa : List MemPlace}
    (K : Kids P (· < P.types.size)) (hz : ∀ t e, t < P.types.size → P.underlying t = some (.slice e) → 0 < P.cellsOf e) (hts : ∀ t ∈ f.params.toList, t < P.types.size)
    (hW : DataW.Whole enc P f.params.toList s.vars apart W args.toList ds gs before)
    (hA : DataW.TrodAll enc P W 0 (fun _ => true) true f.params.toList args.toList ds pa)
    (hres : ∀ (b : Nat) (sp : Nat → Bool) (hd : Bool), DataW.TrodAll enc P W' b sp hd f.resultTypes.toList (v.resultList f.resultTypes.size) (s.fn H (ds ++ gs)).results [])
    (hargs : (s.fn H (ds ++ gs)).args = ds)
    (hvars : ∀ sp : Nat → Bool, (∀ p ∈ before, sp p.block = true) → DataW.TrodVars enc P W' sp s.vars (s.fn H (ds ++ gs)).vars [])
    (hps : before = pa) (hb : Below W.heap.size W W')
    (hok : ∀ (j : Nat) (t : TypeId) (r : Value), f.resultTypes[j]? = some t → (v.resultList f.resultTypes.size)[j]? = some r → Value.okWide P W' .any 0 t r) :
    s.post enc P f apart fresh handsOn again W args v W' := by
  subst hps
  refine post_of_below (pa := before) (pv := []) hW hres (fun sp hsp => ?_) hvars (by simp) hb hok
  rw [hargs]
  exact DataW.TrodAll.respare K hz hts (TrodAll_carry hA (fun p hp => hb.same (hW.lt p hp))) hsp
theorem open_ints {r : Reach} {w : World} {base b0 : Nat} {sp : Nat → Bool} {hd : Bool} {t : TypeId} {fs : Array Field} {v : Value} {d : DataW H} {p : List MemPlace} (hs : P.underlying t = some (.struct fs)) (hone : oneCellFields P fs = true)
    (hC : P.cellsOf t = fs.size) (hint : ∀ (j : Nat) (f : Field), fs[j]? = some f → P.underlying f.type = some (.int .i64)) (hv : Value.okWide P w r b0 t v) (h : DataW.Trod enc P w base sp hd t v d p) :
    ∃ cs : Array Value, v = .agg cs ∧ cs.size = fs.size ∧ ∀ j, j < fs.size → ∃ m, cs[j]? = some (.int .i64 m) ∧ (Lit.int .i64 m).wf = true := by
  obtain ⟨cs, rfl, hsz⟩ := okWide_struct hs hv
  obtain ⟨fuel, hf⟩ := h
  obtain ⟨ys, n, _, _, _, hyl, hg⟩ := DataW.trod_struct hs hf
  refine ⟨cs, rfl, hsz.trans hC, fun j hj => ?_⟩
  have hf' : fs[j]? = some fs[j] := Array.getElem?_eq_getElem hj
  obtain ⟨o, k⟩ := hone_of hone j _ hf'
  have h1 := hg j _ hf'
  have hcj : j < cs.size := by omega
  rw [o, k, List.getElem?_eq_getElem (by omega : j < ys.length)] at h1
  have h2 : ((Value.agg cs).cells.toList.drop j).take 1 = [cs[j]] := by
    simp only [Value.cells]
    rw [List.drop_eq_getElem_cons (by simpa using hcj)]
    simp
  rw [h2] at h1
  obtain ⟨m, e, _, hw⟩ := DataW.trod_int (hint j _ hf') h1
  simp only [List.cons.injEq, and_true] at e
  exact ⟨m, by rw [Array.getElem?_eq_getElem hcj, e], hw⟩
end
theorem array6 {cs : Array Value} {a b c d e f : Value} (h : cs.size = 6) (h0 : cs[0]? = some a) (h1 : cs[1]? = some b) (h2 : cs[2]? = some c) (h3 : cs[3]? = some d) (h4 : cs[4]? = some e) (h5 : cs[5]? = some f) : cs = #[a, b, c, d, e, f] := by
  apply Array.ext_getElem?
  intro i
  match i with
  | 0 => exact h0
  | 1 => exact h1
  | 2 => exact h2
  | 3 => exact h3
  | 4 => exact h4
  | 5 => exact h5
  | n + 6 => rw [Array.getElem?_eq_none (by omega), Array.getElem?_eq_none (by simp)]
theorem b64 {x : Int} (h : (Lit.int .i64 x).wf = true) : -9223372036854775808 ≤ x ∧ x ≤ 9223372036854775807 := by
  have hmin : IntKind.i64.min = -9223372036854775808 := rfl
  have hmax : IntKind.i64.max = 9223372036854775807 := rfl
  simp only [Lit.wf, Bool.and_eq_true, decide_eq_true_eq] at h; omega
set_option maxRecDepth 100000 in
theorem open_P {H : Type} {enc : TypeId × Value → H} {r : Reach} {w : World} {base b0 : Nat} {sp : Nat → Bool} {hd : Bool} {v : Value} {d : DataW H} {p : List MemPlace} (hv : Value.okWide Try.prog w r b0 23 v) (h : DataW.Trod enc Try.prog w base sp hd 23 v d p) :
    ∃ x y m q i c : Int, v = .agg #[.int .i64 x, .int .i64 y, .int .i64 m, .int .i64 q, .int .i64 i, .int .i64 c] ∧ ((-9223372036854775808 ≤ x ∧ x ≤ 9223372036854775807) ∧ (-9223372036854775808 ≤ y ∧ y ≤ 9223372036854775807) ∧ (-9223372036854775808 ≤ m ∧ m ≤ 9223372036854775807) ∧ (-9223372036854775808 ≤ q ∧ q ≤ 9223372036854775807) ∧ (-9223372036854775808 ≤ i ∧ i ≤ 9223372036854775807) ∧ (-9223372036854775808 ≤ c ∧ c ≤ 9223372036854775807)) := by
  obtain ⟨cs, rfl, hsz, hj⟩ := open_ints Try.underlying23 (by kernel_rfl) (by kernel_rfl) (fun j f hf => by
    match j, hf with
    | 0, hf => cases hf; exact Try.underlying3
    | 1, hf => cases hf; exact Try.underlying3
    | 2, hf => cases hf; exact Try.underlying3
    | 3, hf => cases hf; exact Try.underlying3
    | 4, hf => cases hf; exact Try.underlying3
    | 5, hf => cases hf; exact Try.underlying3
    | n + 6, hf => simp at hf) hv h
  obtain ⟨x, hx, wx⟩ := hj 0 (by decide)
  obtain ⟨y, hy, wy⟩ := hj 1 (by decide)
  obtain ⟨m, hm, wm⟩ := hj 2 (by decide)
  obtain ⟨q, hq, wq⟩ := hj 3 (by decide)
  obtain ⟨i, hi, wi⟩ := hj 4 (by decide)
  obtain ⟨c, hc, wc⟩ := hj 5 (by decide)
  exact ⟨x, y, m, q, i, c, by rw [array6 hsz hx hy hm hq hi hc], b64 wx, b64 wy, b64 wm, b64 wq, b64 wi, b64 wc⟩
end Go.Proofs.Ytgegmlhpdpdnfaa
