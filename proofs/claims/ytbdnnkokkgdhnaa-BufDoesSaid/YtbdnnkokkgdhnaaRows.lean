/-
  No cell of these rows narrows 'for every input' (looked for: loops, veiled, ifaces, maps, wideKeys, modest, calm, conditions, laid).
  DERIVED. THE GIVEN ROWS OF THIS SEAT. 12 by the template 'for every input the law returns true; each argument reads behind the call as it read before'; 0 by the template 'total and deterministic' (their statements: YtbdnnkokkgdhnaaTotals.lean).
  GIVEN WITH THE SEED: the statements are not yours to turn. If you find one false, say at which input.
  Laid BY PROGRAM, IN A SANDBOX (cutbox-rows.mjs): the forced cells as the released guide's own fill.sh prints them over the translation b59a984bda64e348… (all of the seat's roots in one cut). By AI agents, Wed Nov 11 2026. No macro, syntax, notation, axiom, sorry.
-/
import Derived.Test.YtbdnnkokkgdhnaaChecked
import GoSem.Claim
import GoSem.ClaimJoined
import GoSem.ClaimMapViews
import Derived.JoinedTies
import Derived.KernelRfl
namespace Go.Proofs.Ytbdnnkokkgdhnaa
/- THE CELL 'sum', in the pinned program and in every row, IS THE sha256 OF THE DUMP (.gsa) THAT YtbdnnkokkgdhnaaProg.lean LOADS. Nothing in Lean hashes anything: it is a label: what it is worth is what the hold of that sum in a sandbox is worth. -/
noncomputable def Try.pinned : Pinned := { name := "ytbdnnkokkgdhnaa", sum := "b59a984bda64e3484535a02b404ae983eca24a2a97cefc849295101750ed4a2b", checked := Try.checked }
namespace Rows
def none {H : Type} : Left H := { results := [], args := [] }

/-- 'cyanotypelaw04.BufEdges': WHATEVER THE INPUT: true; the input reads as it did. -/
def bufEdgesSpec : ChangeSpec := { name := "bufEdges", fn := fun _ => fun
  | [d1, d2, d3] => { results := [.lit (.bool true)], args := [d1, d2, d3] }
  | _ => none }
def bufEdgesRow : OpenClaim := { program := "ytbdnnkokkgdhnaa", sum := "b59a984bda64e3484535a02b404ae983eca24a2a97cefc849295101750ed4a2b", func := "cyanotype/cyanotypelaw04.BufEdges", spec := "bufEdges", unfollowed := true, recurses := true, apart := false }
def BufEdgesSaid : Prop := bufEdgesRow.holds Try.pinned (OpenSpec.ofChange bufEdgesSpec)

/-- ITS FALSE NEIGHBOUR: 'it returns false'. Refute it at one input. -/
def bufEdgesWrong : ChangeSpec := { name := "bufEdges", fn := fun _ => fun
  | [d1, d2, d3] => { results := [.lit (.bool false)], args := [d1, d2, d3] }
  | _ => none }
def BufEdgesWrongFalsely : Prop := bufEdgesRow.holds Try.pinned (OpenSpec.ofChange bufEdgesWrong)

/-- 'cyanotypelaw04.BufApart': WHATEVER THE INPUT: true; the input reads as it did. -/
def bufApartSpec : ChangeSpec := { name := "bufApart", fn := fun _ => fun
  | [d1, d2, d3] => { results := [.lit (.bool true)], args := [d1, d2, d3] }
  | _ => none }
def bufApartRow : OpenClaim := { program := "ytbdnnkokkgdhnaa", sum := "b59a984bda64e3484535a02b404ae983eca24a2a97cefc849295101750ed4a2b", func := "cyanotype/cyanotypelaw04.BufApart", spec := "bufApart", unfollowed := true, recurses := true, apart := false }
def BufApartSaid : Prop := bufApartRow.holds Try.pinned (OpenSpec.ofChange bufApartSpec)

/-- ITS FALSE NEIGHBOUR: 'it returns false'. Refute it at one input. -/
def bufApartWrong : ChangeSpec := { name := "bufApart", fn := fun _ => fun
  | [d1, d2, d3] => { results := [.lit (.bool false)], args := [d1, d2, d3] }
  | _ => none }
def BufApartWrongFalsely : Prop := bufApartRow.holds Try.pinned (OpenSpec.ofChange bufApartWrong)

/-- 'cyanotypelaw04.BufNew': WHATEVER THE INPUT: true; the input reads as it did. -/
def bufNewSpec : ChangeSpec := { name := "bufNew", fn := fun _ => fun
  | [d1, d2] => { results := [.lit (.bool true)], args := [d1, d2] }
  | _ => none }
def bufNewRow : OpenClaim := { program := "ytbdnnkokkgdhnaa", sum := "b59a984bda64e3484535a02b404ae983eca24a2a97cefc849295101750ed4a2b", func := "cyanotype/cyanotypelaw04.BufNew", spec := "bufNew", unfollowed := true, recurses := true, apart := false }
def BufNewSaid : Prop := bufNewRow.holds Try.pinned (OpenSpec.ofChange bufNewSpec)

/-- ITS FALSE NEIGHBOUR: 'it returns false'. Refute it at one input. -/
def bufNewWrong : ChangeSpec := { name := "bufNew", fn := fun _ => fun
  | [d1, d2] => { results := [.lit (.bool false)], args := [d1, d2] }
  | _ => none }
def BufNewWrongFalsely : Prop := bufNewRow.holds Try.pinned (OpenSpec.ofChange bufNewWrong)

/-- 'cyanotypelaw04.BufDoes': WHATEVER THE INPUT: true; the input reads as it did. -/
def bufDoesSpec : ChangeSpec := { name := "bufDoes", fn := fun _ => fun
  | [d1, d2] => { results := [.lit (.bool true)], args := [d1, d2] }
  | _ => none }
def bufDoesRow : OpenClaim := { program := "ytbdnnkokkgdhnaa", sum := "b59a984bda64e3484535a02b404ae983eca24a2a97cefc849295101750ed4a2b", func := "cyanotype/cyanotypelaw04.BufDoes", spec := "bufDoes", unfollowed := true, recurses := true, apart := false }
def BufDoesSaid : Prop := bufDoesRow.holds Try.pinned (OpenSpec.ofChange bufDoesSpec)

/-- ITS FALSE NEIGHBOUR: 'it returns false'. Refute it at one input. -/
def bufDoesWrong : ChangeSpec := { name := "bufDoes", fn := fun _ => fun
  | [d1, d2] => { results := [.lit (.bool false)], args := [d1, d2] }
  | _ => none }
def BufDoesWrongFalsely : Prop := bufDoesRow.holds Try.pinned (OpenSpec.ofChange bufDoesWrong)

/-- 'cyanotypelaw05.ScanLooks': WHATEVER THE INPUT: true; the input reads as it did. -/
def scanLooksSpec : ChangeSpec := { name := "scanLooks", fn := fun _ => fun
  | [d1, d2, d3] => { results := [.lit (.bool true)], args := [d1, d2, d3] }
  | _ => none }
def scanLooksRow : OpenClaim := { program := "ytbdnnkokkgdhnaa", sum := "b59a984bda64e3484535a02b404ae983eca24a2a97cefc849295101750ed4a2b", func := "cyanotype/cyanotypelaw05.ScanLooks", spec := "scanLooks", unfollowed := true, recurses := true, apart := false }
def ScanLooksSaid : Prop := scanLooksRow.holds Try.pinned (OpenSpec.ofChange scanLooksSpec)

/-- ITS FALSE NEIGHBOUR: 'it returns false'. Refute it at one input. -/
def scanLooksWrong : ChangeSpec := { name := "scanLooks", fn := fun _ => fun
  | [d1, d2, d3] => { results := [.lit (.bool false)], args := [d1, d2, d3] }
  | _ => none }
def ScanLooksWrongFalsely : Prop := scanLooksRow.holds Try.pinned (OpenSpec.ofChange scanLooksWrong)

/-- 'cyanotypelaw05.ScanPlaces': WHATEVER THE INPUT: true; the input reads as it did. -/
def scanPlacesSpec : ChangeSpec := { name := "scanPlaces", fn := fun _ => fun
  | [d1, d2, d3, d4, d5, d6] => { results := [.lit (.bool true)], args := [d1, d2, d3, d4, d5, d6] }
  | _ => none }
def scanPlacesRow : OpenClaim := { program := "ytbdnnkokkgdhnaa", sum := "b59a984bda64e3484535a02b404ae983eca24a2a97cefc849295101750ed4a2b", func := "cyanotype/cyanotypelaw05.ScanPlaces", spec := "scanPlaces", unfollowed := true, recurses := true, apart := false }
def ScanPlacesSaid : Prop := scanPlacesRow.holds Try.pinned (OpenSpec.ofChange scanPlacesSpec)

/-- ITS FALSE NEIGHBOUR: 'it returns false'. Refute it at one input. -/
def scanPlacesWrong : ChangeSpec := { name := "scanPlaces", fn := fun _ => fun
  | [d1, d2, d3, d4, d5, d6] => { results := [.lit (.bool false)], args := [d1, d2, d3, d4, d5, d6] }
  | _ => none }
def ScanPlacesWrongFalsely : Prop := scanPlacesRow.holds Try.pinned (OpenSpec.ofChange scanPlacesWrong)

/-- 'cyanotypelaw05.ScanStores': WHATEVER THE INPUT: true; the input reads as it did. -/
def scanStoresSpec : ChangeSpec := { name := "scanStores", fn := fun _ => fun
  | [d1, d2, d3] => { results := [.lit (.bool true)], args := [d1, d2, d3] }
  | _ => none }
def scanStoresRow : OpenClaim := { program := "ytbdnnkokkgdhnaa", sum := "b59a984bda64e3484535a02b404ae983eca24a2a97cefc849295101750ed4a2b", func := "cyanotype/cyanotypelaw05.ScanStores", spec := "scanStores", unfollowed := true, recurses := true, apart := false }
def ScanStoresSaid : Prop := scanStoresRow.holds Try.pinned (OpenSpec.ofChange scanStoresSpec)

/-- ITS FALSE NEIGHBOUR: 'it returns false'. Refute it at one input. -/
def scanStoresWrong : ChangeSpec := { name := "scanStores", fn := fun _ => fun
  | [d1, d2, d3] => { results := [.lit (.bool false)], args := [d1, d2, d3] }
  | _ => none }
def ScanStoresWrongFalsely : Prop := scanStoresRow.holds Try.pinned (OpenSpec.ofChange scanStoresWrong)

/-- 'cyanotypelaw04.BufSeen': WHATEVER THE INPUT: true; the input reads as it did. -/
def bufSeenSpec : ChangeSpec := { name := "bufSeen", fn := fun _ => fun
  | [d1, d2, d3] => { results := [.lit (.bool true)], args := [d1, d2, d3] }
  | _ => none }
def bufSeenRow : OpenClaim := { program := "ytbdnnkokkgdhnaa", sum := "b59a984bda64e3484535a02b404ae983eca24a2a97cefc849295101750ed4a2b", func := "cyanotype/cyanotypelaw04.BufSeen", spec := "bufSeen", unfollowed := true, recurses := true, apart := false }
def BufSeenSaid : Prop := bufSeenRow.holds Try.pinned (OpenSpec.ofChange bufSeenSpec)

/-- ITS FALSE NEIGHBOUR: 'it returns false'. Refute it at one input. -/
def bufSeenWrong : ChangeSpec := { name := "bufSeen", fn := fun _ => fun
  | [d1, d2, d3] => { results := [.lit (.bool false)], args := [d1, d2, d3] }
  | _ => none }
def BufSeenWrongFalsely : Prop := bufSeenRow.holds Try.pinned (OpenSpec.ofChange bufSeenWrong)

/-- 'cyanotypelaw05.ScanDivides': WHATEVER THE INPUT: true; the input reads as it did. -/
def scanDividesSpec : ChangeSpec := { name := "scanDivides", fn := fun _ => fun
  | [d1, d2, d3, d4] => { results := [.lit (.bool true)], args := [d1, d2, d3, d4] }
  | _ => none }
def scanDividesRow : OpenClaim := { program := "ytbdnnkokkgdhnaa", sum := "b59a984bda64e3484535a02b404ae983eca24a2a97cefc849295101750ed4a2b", func := "cyanotype/cyanotypelaw05.ScanDivides", spec := "scanDivides", unfollowed := true, recurses := true, apart := false }
def ScanDividesSaid : Prop := scanDividesRow.holds Try.pinned (OpenSpec.ofChange scanDividesSpec)

/-- ITS FALSE NEIGHBOUR: 'it returns false'. Refute it at one input. -/
def scanDividesWrong : ChangeSpec := { name := "scanDivides", fn := fun _ => fun
  | [d1, d2, d3, d4] => { results := [.lit (.bool false)], args := [d1, d2, d3, d4] }
  | _ => none }
def ScanDividesWrongFalsely : Prop := scanDividesRow.holds Try.pinned (OpenSpec.ofChange scanDividesWrong)

/-- 'cyanotypelaw05.ScanWindows': WHATEVER THE INPUT: true; the input reads as it did. -/
def scanWindowsSpec : ChangeSpec := { name := "scanWindows", fn := fun _ => fun
  | [d1, d2, d3, d4, d5] => { results := [.lit (.bool true)], args := [d1, d2, d3, d4, d5] }
  | _ => none }
def scanWindowsRow : OpenClaim := { program := "ytbdnnkokkgdhnaa", sum := "b59a984bda64e3484535a02b404ae983eca24a2a97cefc849295101750ed4a2b", func := "cyanotype/cyanotypelaw05.ScanWindows", spec := "scanWindows", unfollowed := true, recurses := true, apart := false }
def ScanWindowsSaid : Prop := scanWindowsRow.holds Try.pinned (OpenSpec.ofChange scanWindowsSpec)

/-- ITS FALSE NEIGHBOUR: 'it returns false'. Refute it at one input. -/
def scanWindowsWrong : ChangeSpec := { name := "scanWindows", fn := fun _ => fun
  | [d1, d2, d3, d4, d5] => { results := [.lit (.bool false)], args := [d1, d2, d3, d4, d5] }
  | _ => none }
def ScanWindowsWrongFalsely : Prop := scanWindowsRow.holds Try.pinned (OpenSpec.ofChange scanWindowsWrong)

/-- 'cyanotypelaw05.ScanBack': WHATEVER THE INPUT: true; the input reads as it did. -/
def scanBackSpec : ChangeSpec := { name := "scanBack", fn := fun _ => fun
  | [d1, d2, d3] => { results := [.lit (.bool true)], args := [d1, d2, d3] }
  | _ => none }
def scanBackRow : OpenClaim := { program := "ytbdnnkokkgdhnaa", sum := "b59a984bda64e3484535a02b404ae983eca24a2a97cefc849295101750ed4a2b", func := "cyanotype/cyanotypelaw05.ScanBack", spec := "scanBack", unfollowed := true, recurses := true, apart := false }
def ScanBackSaid : Prop := scanBackRow.holds Try.pinned (OpenSpec.ofChange scanBackSpec)

/-- ITS FALSE NEIGHBOUR: 'it returns false'. Refute it at one input. -/
def scanBackWrong : ChangeSpec := { name := "scanBack", fn := fun _ => fun
  | [d1, d2, d3] => { results := [.lit (.bool false)], args := [d1, d2, d3] }
  | _ => none }
def ScanBackWrongFalsely : Prop := scanBackRow.holds Try.pinned (OpenSpec.ofChange scanBackWrong)

/-- 'cyanotypelaw05.ScanSame': WHATEVER THE INPUT: true; the input reads as it did. -/
def scanSameSpec : ChangeSpec := { name := "scanSame", fn := fun _ => fun
  | [d1, d2, d3, d4, d5, d6, d7] => { results := [.lit (.bool true)], args := [d1, d2, d3, d4, d5, d6, d7] }
  | _ => none }
def scanSameRow : OpenClaim := { program := "ytbdnnkokkgdhnaa", sum := "b59a984bda64e3484535a02b404ae983eca24a2a97cefc849295101750ed4a2b", func := "cyanotype/cyanotypelaw05.ScanSame", spec := "scanSame", unfollowed := true, recurses := true, apart := false }
def ScanSameSaid : Prop := scanSameRow.holds Try.pinned (OpenSpec.ofChange scanSameSpec)

/-- ITS FALSE NEIGHBOUR: 'it returns false'. Refute it at one input. -/
def scanSameWrong : ChangeSpec := { name := "scanSame", fn := fun _ => fun
  | [d1, d2, d3, d4, d5, d6, d7] => { results := [.lit (.bool false)], args := [d1, d2, d3, d4, d5, d6, d7] }
  | _ => none }
def ScanSameWrongFalsely : Prop := scanSameRow.holds Try.pinned (OpenSpec.ofChange scanSameWrong)

/- THE SECOND FORM. 'bulk': how many values and letters a reading holds, each counted each time it is reached (what is shared counts as often as it is met; a slice's spare places count too). A statement '..UptoSaid' is the law's where the arguments, and the package variables that the reading takes, are together of bulk at most 1048576: NARROWER than '..Said'. Prove '..Said' where nothing that the law and all that it calls make is longer than what came in: it says more and counts as full. Else prove '..UptoSaid'. A law counts once. -/
mutual
def uptoBulk {H : Type} : DataW H → Nat
  | .lit (.string bytes) => bytes.length + 1
  | .lit _ => 1
  | .nil => 1
  | .ptr d => uptoBulk d + 1
  | .slice elems spare => uptoBulkAll elems + uptoBulkAll spare + 1
  | .agg parts => uptoBulkAll parts + 1
  | .iface _ d => uptoBulk d + 1
  | .map entries => uptoBulkEntries entries + 1
  | .held _ => 1
def uptoBulkAll {H : Type} : List (DataW H) → Nat
  | [] => 0
  | d :: r => uptoBulk d + uptoBulkAll r
def uptoBulkEntries {H : Type} : List (Lit × DataW H) → Nat
  | [] => 0
  | x :: r => uptoBulkEntry x + uptoBulkEntries r
def uptoBulkEntry {H : Type} : Lit × DataW H → Nat
  | (.string bytes, d) => bytes.length + uptoBulk d + 1
  | (_, d) => uptoBulk d + 1
 end
def uptoSmall : (H : Type) → List (DataW H) → Bool := fun _ ds => decide (uptoBulkAll ds ≤ 1048576)
def OpenSpec.upto (s : _root_.Go.ChangeSpec) : _root_.Go.OpenSpec := { _root_.Go.OpenSpec.ofChange s with cond := some uptoSmall }

/-- 'cyanotypelaw04.BufEdges', WHERE WHAT IT READS IS OF BULK AT MOST 1048576: true; the input reads as it did. -/
def bufEdgesUptoRow : OpenClaim := { program := "ytbdnnkokkgdhnaa", sum := "b59a984bda64e3484535a02b404ae983eca24a2a97cefc849295101750ed4a2b", func := "cyanotype/cyanotypelaw04.BufEdges", spec := "bufEdges", unfollowed := true, recurses := true, apart := false, narrowed := true }
def BufEdgesUptoSaid : Prop := bufEdgesUptoRow.holds Try.pinned (OpenSpec.upto bufEdgesSpec)

/-- 'cyanotypelaw04.BufApart', WHERE WHAT IT READS IS OF BULK AT MOST 1048576: true; the input reads as it did. -/
def bufApartUptoRow : OpenClaim := { program := "ytbdnnkokkgdhnaa", sum := "b59a984bda64e3484535a02b404ae983eca24a2a97cefc849295101750ed4a2b", func := "cyanotype/cyanotypelaw04.BufApart", spec := "bufApart", unfollowed := true, recurses := true, apart := false, narrowed := true }
def BufApartUptoSaid : Prop := bufApartUptoRow.holds Try.pinned (OpenSpec.upto bufApartSpec)

/-- 'cyanotypelaw04.BufNew', WHERE WHAT IT READS IS OF BULK AT MOST 1048576: true; the input reads as it did. -/
def bufNewUptoRow : OpenClaim := { program := "ytbdnnkokkgdhnaa", sum := "b59a984bda64e3484535a02b404ae983eca24a2a97cefc849295101750ed4a2b", func := "cyanotype/cyanotypelaw04.BufNew", spec := "bufNew", unfollowed := true, recurses := true, apart := false, narrowed := true }
def BufNewUptoSaid : Prop := bufNewUptoRow.holds Try.pinned (OpenSpec.upto bufNewSpec)

/-- 'cyanotypelaw04.BufDoes', WHERE WHAT IT READS IS OF BULK AT MOST 1048576: true; the input reads as it did. -/
def bufDoesUptoRow : OpenClaim := { program := "ytbdnnkokkgdhnaa", sum := "b59a984bda64e3484535a02b404ae983eca24a2a97cefc849295101750ed4a2b", func := "cyanotype/cyanotypelaw04.BufDoes", spec := "bufDoes", unfollowed := true, recurses := true, apart := false, narrowed := true }
def BufDoesUptoSaid : Prop := bufDoesUptoRow.holds Try.pinned (OpenSpec.upto bufDoesSpec)

/-- 'cyanotypelaw05.ScanLooks', WHERE WHAT IT READS IS OF BULK AT MOST 1048576: true; the input reads as it did. -/
def scanLooksUptoRow : OpenClaim := { program := "ytbdnnkokkgdhnaa", sum := "b59a984bda64e3484535a02b404ae983eca24a2a97cefc849295101750ed4a2b", func := "cyanotype/cyanotypelaw05.ScanLooks", spec := "scanLooks", unfollowed := true, recurses := true, apart := false, narrowed := true }
def ScanLooksUptoSaid : Prop := scanLooksUptoRow.holds Try.pinned (OpenSpec.upto scanLooksSpec)

/-- 'cyanotypelaw05.ScanPlaces', WHERE WHAT IT READS IS OF BULK AT MOST 1048576: true; the input reads as it did. -/
def scanPlacesUptoRow : OpenClaim := { program := "ytbdnnkokkgdhnaa", sum := "b59a984bda64e3484535a02b404ae983eca24a2a97cefc849295101750ed4a2b", func := "cyanotype/cyanotypelaw05.ScanPlaces", spec := "scanPlaces", unfollowed := true, recurses := true, apart := false, narrowed := true }
def ScanPlacesUptoSaid : Prop := scanPlacesUptoRow.holds Try.pinned (OpenSpec.upto scanPlacesSpec)

/-- 'cyanotypelaw05.ScanStores', WHERE WHAT IT READS IS OF BULK AT MOST 1048576: true; the input reads as it did. -/
def scanStoresUptoRow : OpenClaim := { program := "ytbdnnkokkgdhnaa", sum := "b59a984bda64e3484535a02b404ae983eca24a2a97cefc849295101750ed4a2b", func := "cyanotype/cyanotypelaw05.ScanStores", spec := "scanStores", unfollowed := true, recurses := true, apart := false, narrowed := true }
def ScanStoresUptoSaid : Prop := scanStoresUptoRow.holds Try.pinned (OpenSpec.upto scanStoresSpec)

/-- 'cyanotypelaw04.BufSeen', WHERE WHAT IT READS IS OF BULK AT MOST 1048576: true; the input reads as it did. -/
def bufSeenUptoRow : OpenClaim := { program := "ytbdnnkokkgdhnaa", sum := "b59a984bda64e3484535a02b404ae983eca24a2a97cefc849295101750ed4a2b", func := "cyanotype/cyanotypelaw04.BufSeen", spec := "bufSeen", unfollowed := true, recurses := true, apart := false, narrowed := true }
def BufSeenUptoSaid : Prop := bufSeenUptoRow.holds Try.pinned (OpenSpec.upto bufSeenSpec)

/-- 'cyanotypelaw05.ScanDivides', WHERE WHAT IT READS IS OF BULK AT MOST 1048576: true; the input reads as it did. -/
def scanDividesUptoRow : OpenClaim := { program := "ytbdnnkokkgdhnaa", sum := "b59a984bda64e3484535a02b404ae983eca24a2a97cefc849295101750ed4a2b", func := "cyanotype/cyanotypelaw05.ScanDivides", spec := "scanDivides", unfollowed := true, recurses := true, apart := false, narrowed := true }
def ScanDividesUptoSaid : Prop := scanDividesUptoRow.holds Try.pinned (OpenSpec.upto scanDividesSpec)

/-- 'cyanotypelaw05.ScanWindows', WHERE WHAT IT READS IS OF BULK AT MOST 1048576: true; the input reads as it did. -/
def scanWindowsUptoRow : OpenClaim := { program := "ytbdnnkokkgdhnaa", sum := "b59a984bda64e3484535a02b404ae983eca24a2a97cefc849295101750ed4a2b", func := "cyanotype/cyanotypelaw05.ScanWindows", spec := "scanWindows", unfollowed := true, recurses := true, apart := false, narrowed := true }
def ScanWindowsUptoSaid : Prop := scanWindowsUptoRow.holds Try.pinned (OpenSpec.upto scanWindowsSpec)

/-- 'cyanotypelaw05.ScanBack', WHERE WHAT IT READS IS OF BULK AT MOST 1048576: true; the input reads as it did. -/
def scanBackUptoRow : OpenClaim := { program := "ytbdnnkokkgdhnaa", sum := "b59a984bda64e3484535a02b404ae983eca24a2a97cefc849295101750ed4a2b", func := "cyanotype/cyanotypelaw05.ScanBack", spec := "scanBack", unfollowed := true, recurses := true, apart := false, narrowed := true }
def ScanBackUptoSaid : Prop := scanBackUptoRow.holds Try.pinned (OpenSpec.upto scanBackSpec)

/-- 'cyanotypelaw05.ScanSame', WHERE WHAT IT READS IS OF BULK AT MOST 1048576: true; the input reads as it did. -/
def scanSameUptoRow : OpenClaim := { program := "ytbdnnkokkgdhnaa", sum := "b59a984bda64e3484535a02b404ae983eca24a2a97cefc849295101750ed4a2b", func := "cyanotype/cyanotypelaw05.ScanSame", spec := "scanSame", unfollowed := true, recurses := true, apart := false, narrowed := true }
def ScanSameUptoSaid : Prop := scanSameUptoRow.holds Try.pinned (OpenSpec.upto scanSameSpec)

end Rows
end Go.Proofs.Ytbdnnkokkgdhnaa
