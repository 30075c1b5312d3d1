/- A secret more in a row of the call's own; a row of secrets spoilt. -/
import Derived.Test.YtbdnnkokkgdhnaaBufV
namespace Go.Proofs.Ytbdnnkokkgdhnaa
open Go.RowKit

theorem Secs.set {n0 : Nat} {W : World} {g n c : Nat} {L : List Int} (h : Secs n0 W (.slice (some ⟨g, 0, none⟩) n c) L) (hn : n = L.length) (i : Nat) (x : Int) : Secs n0 (W.setCell ⟨g, i, none⟩ (.int .i64 x)) (.slice (some ⟨g, 0, none⟩) n c) (L.set i x) := by
  subst hn
  unfold Secs
  rw [List.map_set, List.length_set]
  exact own_set_in h i _
theorem set_below {n0 : Nat} {w W : World} {g i : Nat} (h : Below n0 w W) (hg : n0 ≤ g) (v : Value) : Below n0 w (W.setCell ⟨g, i, none⟩ v) :=
  ⟨h.os, h.tape, h.output, by rw [size_set]; exact h.size, fun k hk => (heap_setCell_other _ ⟨g, i, none⟩ k _ (fun e => by have e : k = g := e; omega)).trans (h.block k hk)⟩
end Go.Proofs.Ytbdnnkokkgdhnaa
