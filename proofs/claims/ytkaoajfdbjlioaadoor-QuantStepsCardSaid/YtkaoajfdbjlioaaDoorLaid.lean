/- Listed tables: their cells. -/
import Derived.Test.YtkaoajfdbjlioaaDoorRows
import Derived.Lib.LaidTab
namespace Go.Proofs.YtkaoajfdbjlioaaDoor
open Go

theorem chunk_ext {α : Type} {m : Nat} : ∀ {rows : List (List α)} {cs : List α}, cs.length = rows.length * m → (∀ i r, rows[i]? = some r → (cs.drop (i * m)).take m = r) → cs = rows.flatten
  | [], cs, hl, _ => by
    have : cs = [] := List.eq_nil_of_length_eq_zero (by simpa using hl)
    simp [this]
  | r :: rows, cs, hl, h => by
    have h0 : cs.take m = r := by simpa using h 0 r rfl
    have h1 : cs.drop m = rows.flatten := chunk_ext (m := m) (by rw [List.length_drop, hl, List.length_cons, Nat.succ_mul]; omega) (fun i r hi => by
      have := h (i + 1) r (by simpa using hi)
      rw [Nat.succ_mul, Nat.add_comm, ← List.drop_drop] at this
      exact this)
    rw [List.flatten_cons, ← h1, ← h0, List.take_append_drop]
theorem cells_of_tab2 {H : Type} {enc : TypeId × Value → H} {P : Program} {w : World} {base : Nat} {sp : Nat → Bool} {held : Bool} {fuel : Nat} {t e i : TypeId} {n m : Nat} {k : IntKind} {cs : List Value} {rows : List (List Int)} {p : List MemPlace}
    (ht : P.underlying t = some (.array n e)) (he : P.underlying e = some (.array m i)) (hi : P.underlying i = some (.int k)) (hci : P.cellsOf i = 1) (hce : P.cellsOf e = m) (hct : P.cellsOf t = n * m)
    (h : DataW.trod enc P w base sp held fuel t cs = some (.agg (rows.map (Lib.tabData k)), p)) : cs = rows.flatten.map fun z => Value.int k z := by
  cases fuel with
  | zero => simp [DataW.trod] at h
  | succ fuel =>
    simp only [DataW.trod, ht, hce, hct] at h
    split at h
    · rename_i hl
      obtain ⟨xs, hm, hx⟩ := Option.map_eq_some_iff.1 h
      have hxs : xs.map (·.1) = rows.map (Lib.tabData k) := by
        have := congrArg Prod.fst hx
        simpa using this
      have hxl : xs.length = n := by simpa using Lib.mapM_length hm
      have hrl : rows.length = n := by
        have := congrArg List.length hxs
        simp at this
        omega
      rw [List.map_flatten]
      refine chunk_ext (m := m) (by rw [List.length_map, hrl]; exact hl) fun j r hj => ?_
      rw [List.getElem?_map, Option.map_eq_some_iff] at hj
      obtain ⟨r0, hr0, rfl⟩ := hj
      have hjn : j < n := by rw [← hrl]; exact (List.getElem?_eq_some_iff.1 hr0).1
      obtain ⟨b, hb, hf⟩ := Lib.mapM_at hm j j (by simp [hjn])
      have h2 : (xs.map (·.1))[j]? = some b.1 := by simp [hb]
      rw [hxs, List.getElem?_map, hr0] at h2
      have h3 : b = (Lib.tabData k r0, b.2) := by
        obtain ⟨b1, b2⟩ := b
        simp only [Option.map_some, Option.some.injEq] at h2
        rw [h2]
      rw [h3] at hf
      exact Lib.cells_of_tab he hi hci hce hf
    · cases h
/-- A nested table that stands first on the list. -/
theorem tabIs2_of_head {P : Program} {W : World} {name : String} {k : IntKind} {rows : List (List Int)} {rest : List (String × DataW Unit)} {g : Nat} {t e i : TypeId} {n m : Nat}
    (hg : P.globalNamed name = some g) (hty : (P.globals[g]?).map (·.type) = some t) (ht : P.underlying t = some (.array n e)) (he : P.underlying e = some (.array m i)) (hi : P.underlying i = some (.int k)) (hci : P.cellsOf i = 1) (hce : P.cellsOf e = m) (hct : P.cellsOf t = n * m)
    (h : laidMet P ((name, .agg (rows.map (Lib.tabData k))) :: rest) W) : Lib.TabIs P W name k rows.flatten := by
  obtain ⟨ps, ⟨g', t', cs, fuel, p, q, hg', ht', hvar, hd, _, _⟩, _⟩ := h
  obtain rfl := Option.some.inj (hg.symm.trans hg')
  obtain rfl := Option.some.inj (hty.symm.trans ht')
  unfold Lib.TabIs
  rw [hvar, ← cells_of_tab2 ht he hi hci hce hct hd]
end Go.Proofs.YtkaoajfdbjlioaaDoor
