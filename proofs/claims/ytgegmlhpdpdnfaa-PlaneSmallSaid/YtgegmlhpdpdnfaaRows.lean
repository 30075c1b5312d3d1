/-
  No cell of these rows narrows 'for every input' (looked for: loops, veiled, ifaces, maps, wideKeys, modest, calm, conditions, laid).
  DERIVED. THE GIVEN ROWS OF THIS SEAT. 8 by the template 'for every input the law returns true; each argument reads behind the call as it read before'; 0 by the template 'total and deterministic' (their statements: YtgegmlhpdpdnfaaTotals.lean).
  GIVEN WITH THE SEED: the statements are not yours to turn. If you find one false, say at which input.
  Laid BY PROGRAM, IN A SANDBOX (cutbox-rows.mjs): the forced cells as the released guide's own fill.sh prints them over the translation f16db5519f84cd5d… (all of the seat's roots in one cut). By AI agents, Wed Nov 11 2026. No macro, syntax, notation, axiom, sorry.
-/
import Derived.Test.YtgegmlhpdpdnfaaChecked
import GoSem.Claim
import GoSem.ClaimJoined
import GoSem.ClaimMapViews
import Derived.JoinedTies
import Derived.KernelRfl
namespace Go.Proofs.Ytgegmlhpdpdnfaa
/- THE CELL 'sum', in the pinned program and in every row, IS THE sha256 OF THE DUMP (.gsa) THAT YtgegmlhpdpdnfaaProg.lean LOADS. Nothing in Lean hashes anything: it is a label: what it is worth is what the hold of that sum in a sandbox is worth. -/
noncomputable def Try.pinned : Pinned := { name := "ytgegmlhpdpdnfaa", sum := "f16db5519f84cd5d473bdd3cbda64dfd6f81d0b3d1dca3dd02ac8d31ecc6c1de", checked := Try.checked }
namespace Rows
def none {H : Type} : Left H := { results := [], args := [] }

/-- 'cyanotypelaw07.PlaneSides': WHATEVER THE INPUT: true; the input reads as it did. -/
def planeSidesSpec : ChangeSpec := { name := "planeSides", fn := fun _ => fun
  | [d1, d2, d3] => { results := [.lit (.bool true)], args := [d1, d2, d3] }
  | _ => none }
def planeSidesRow : OpenClaim := { program := "ytgegmlhpdpdnfaa", sum := "f16db5519f84cd5d473bdd3cbda64dfd6f81d0b3d1dca3dd02ac8d31ecc6c1de", func := "cyanotype/cyanotypelaw07.PlaneSides", spec := "planeSides", apart := false }
def PlaneSidesSaid : Prop := planeSidesRow.holds Try.pinned (OpenSpec.ofChange planeSidesSpec)

/-- ITS FALSE NEIGHBOUR: 'it returns false'. Refute it at one input. -/
def planeSidesWrong : ChangeSpec := { name := "planeSides", fn := fun _ => fun
  | [d1, d2, d3] => { results := [.lit (.bool false)], args := [d1, d2, d3] }
  | _ => none }
def PlaneSidesWrongFalsely : Prop := planeSidesRow.holds Try.pinned (OpenSpec.ofChange planeSidesWrong)

/-- 'cyanotypelaw07.PlaneGray': WHATEVER THE INPUT: true; the input reads as it did. -/
def planeGraySpec : ChangeSpec := { name := "planeGray", fn := fun _ => fun
  | [d1, d2, d3] => { results := [.lit (.bool true)], args := [d1, d2, d3] }
  | _ => none }
def planeGrayRow : OpenClaim := { program := "ytgegmlhpdpdnfaa", sum := "f16db5519f84cd5d473bdd3cbda64dfd6f81d0b3d1dca3dd02ac8d31ecc6c1de", func := "cyanotype/cyanotypelaw07.PlaneGray", spec := "planeGray", unfollowed := true, recurses := true, apart := false }
def PlaneGraySaid : Prop := planeGrayRow.holds Try.pinned (OpenSpec.ofChange planeGraySpec)

/-- ITS FALSE NEIGHBOUR: 'it returns false'. Refute it at one input. -/
def planeGrayWrong : ChangeSpec := { name := "planeGray", fn := fun _ => fun
  | [d1, d2, d3] => { results := [.lit (.bool false)], args := [d1, d2, d3] }
  | _ => none }
def PlaneGrayWrongFalsely : Prop := planeGrayRow.holds Try.pinned (OpenSpec.ofChange planeGrayWrong)

/-- 'cyanotypelaw07.PlaneSmall': WHATEVER THE INPUT: true; the input reads as it did. -/
def planeSmallSpec : ChangeSpec := { name := "planeSmall", fn := fun _ => fun
  | [d1, d2, d3, d4, d5] => { results := [.lit (.bool true)], args := [d1, d2, d3, d4, d5] }
  | _ => none }
def planeSmallRow : OpenClaim := { program := "ytgegmlhpdpdnfaa", sum := "f16db5519f84cd5d473bdd3cbda64dfd6f81d0b3d1dca3dd02ac8d31ecc6c1de", func := "cyanotype/cyanotypelaw07.PlaneSmall", spec := "planeSmall", unfollowed := true, recurses := true, apart := false }
def PlaneSmallSaid : Prop := planeSmallRow.holds Try.pinned (OpenSpec.ofChange planeSmallSpec)

/-- ITS FALSE NEIGHBOUR: 'it returns false'. Refute it at one input. -/
def planeSmallWrong : ChangeSpec := { name := "planeSmall", fn := fun _ => fun
  | [d1, d2, d3, d4, d5] => { results := [.lit (.bool false)], args := [d1, d2, d3, d4, d5] }
  | _ => none }
def PlaneSmallWrongFalsely : Prop := planeSmallRow.holds Try.pinned (OpenSpec.ofChange planeSmallWrong)

/-- 'cyanotypelaw07.PlaneFlat': WHATEVER THE INPUT: true; the input reads as it did. -/
def planeFlatSpec : ChangeSpec := { name := "planeFlat", fn := fun _ => fun
  | [d1, d2, d3, d4, d5, d6] => { results := [.lit (.bool true)], args := [d1, d2, d3, d4, d5, d6] }
  | _ => none }
def planeFlatRow : OpenClaim := { program := "ytgegmlhpdpdnfaa", sum := "f16db5519f84cd5d473bdd3cbda64dfd6f81d0b3d1dca3dd02ac8d31ecc6c1de", func := "cyanotype/cyanotypelaw07.PlaneFlat", spec := "planeFlat", unfollowed := true, recurses := true, apart := false }
def PlaneFlatSaid : Prop := planeFlatRow.holds Try.pinned (OpenSpec.ofChange planeFlatSpec)

/-- ITS FALSE NEIGHBOUR: 'it returns false'. Refute it at one input. -/
def planeFlatWrong : ChangeSpec := { name := "planeFlat", fn := fun _ => fun
  | [d1, d2, d3, d4, d5, d6] => { results := [.lit (.bool false)], args := [d1, d2, d3, d4, d5, d6] }
  | _ => none }
def PlaneFlatWrongFalsely : Prop := planeFlatRow.holds Try.pinned (OpenSpec.ofChange planeFlatWrong)

/-- 'cyanotypelaw07.PlaneCounts': WHATEVER THE INPUT: true; the input reads as it did. -/
def planeCountsSpec : ChangeSpec := { name := "planeCounts", fn := fun _ => fun
  | [d1, d2, d3, d4] => { results := [.lit (.bool true)], args := [d1, d2, d3, d4] }
  | _ => none }
def planeCountsRow : OpenClaim := { program := "ytgegmlhpdpdnfaa", sum := "f16db5519f84cd5d473bdd3cbda64dfd6f81d0b3d1dca3dd02ac8d31ecc6c1de", func := "cyanotype/cyanotypelaw07.PlaneCounts", spec := "planeCounts", unfollowed := true, recurses := true, apart := false }
def PlaneCountsSaid : Prop := planeCountsRow.holds Try.pinned (OpenSpec.ofChange planeCountsSpec)

/-- ITS FALSE NEIGHBOUR: 'it returns false'. Refute it at one input. -/
def planeCountsWrong : ChangeSpec := { name := "planeCounts", fn := fun _ => fun
  | [d1, d2, d3, d4] => { results := [.lit (.bool false)], args := [d1, d2, d3, d4] }
  | _ => none }
def PlaneCountsWrongFalsely : Prop := planeCountsRow.holds Try.pinned (OpenSpec.ofChange planeCountsWrong)

/-- 'cyanotypelaw07.PlaneEdges': WHATEVER THE INPUT: true; the input reads as it did. -/
def planeEdgesSpec : ChangeSpec := { name := "planeEdges", fn := fun _ => fun
  | [d1, d2, d3, d4] => { results := [.lit (.bool true)], args := [d1, d2, d3, d4] }
  | _ => none }
def planeEdgesRow : OpenClaim := { program := "ytgegmlhpdpdnfaa", sum := "f16db5519f84cd5d473bdd3cbda64dfd6f81d0b3d1dca3dd02ac8d31ecc6c1de", func := "cyanotype/cyanotypelaw07.PlaneEdges", spec := "planeEdges", unfollowed := true, recurses := true, apart := false }
def PlaneEdgesSaid : Prop := planeEdgesRow.holds Try.pinned (OpenSpec.ofChange planeEdgesSpec)

/-- ITS FALSE NEIGHBOUR: 'it returns false'. Refute it at one input. -/
def planeEdgesWrong : ChangeSpec := { name := "planeEdges", fn := fun _ => fun
  | [d1, d2, d3, d4] => { results := [.lit (.bool false)], args := [d1, d2, d3, d4] }
  | _ => none }
def PlaneEdgesWrongFalsely : Prop := planeEdgesRow.holds Try.pinned (OpenSpec.ofChange planeEdgesWrong)

/-- 'cyanotypelaw07.PlaneJoins': WHATEVER THE INPUT: true; the input reads as it did. -/
def planeJoinsSpec : ChangeSpec := { name := "planeJoins", fn := fun _ => fun
  | [d1, d2, d3, d4, d5, d6, d7] => { results := [.lit (.bool true)], args := [d1, d2, d3, d4, d5, d6, d7] }
  | _ => none }
def planeJoinsRow : OpenClaim := { program := "ytgegmlhpdpdnfaa", sum := "f16db5519f84cd5d473bdd3cbda64dfd6f81d0b3d1dca3dd02ac8d31ecc6c1de", func := "cyanotype/cyanotypelaw07.PlaneJoins", spec := "planeJoins", unfollowed := true, recurses := true, apart := false }
def PlaneJoinsSaid : Prop := planeJoinsRow.holds Try.pinned (OpenSpec.ofChange planeJoinsSpec)

/-- ITS FALSE NEIGHBOUR: 'it returns false'. Refute it at one input. -/
def planeJoinsWrong : ChangeSpec := { name := "planeJoins", fn := fun _ => fun
  | [d1, d2, d3, d4, d5, d6, d7] => { results := [.lit (.bool false)], args := [d1, d2, d3, d4, d5, d6, d7] }
  | _ => none }
def PlaneJoinsWrongFalsely : Prop := planeJoinsRow.holds Try.pinned (OpenSpec.ofChange planeJoinsWrong)

/-- 'cyanotypelaw07.PlaneSplits': WHATEVER THE INPUT: true; the input reads as it did. -/
def planeSplitsSpec : ChangeSpec := { name := "planeSplits", fn := fun _ => fun
  | [d1, d2, d3, d4, d5, d6] => { results := [.lit (.bool true)], args := [d1, d2, d3, d4, d5, d6] }
  | _ => none }
def planeSplitsRow : OpenClaim := { program := "ytgegmlhpdpdnfaa", sum := "f16db5519f84cd5d473bdd3cbda64dfd6f81d0b3d1dca3dd02ac8d31ecc6c1de", func := "cyanotype/cyanotypelaw07.PlaneSplits", spec := "planeSplits", unfollowed := true, recurses := true, apart := false }
def PlaneSplitsSaid : Prop := planeSplitsRow.holds Try.pinned (OpenSpec.ofChange planeSplitsSpec)

/-- ITS FALSE NEIGHBOUR: 'it returns false'. Refute it at one input. -/
def planeSplitsWrong : ChangeSpec := { name := "planeSplits", fn := fun _ => fun
  | [d1, d2, d3, d4, d5, d6] => { results := [.lit (.bool false)], args := [d1, d2, d3, d4, d5, d6] }
  | _ => none }
def PlaneSplitsWrongFalsely : Prop := planeSplitsRow.holds Try.pinned (OpenSpec.ofChange planeSplitsWrong)

/- THE SECOND FORM. 'bulk': how many values and letters a reading holds, each counted each time it is reached (what is shared counts as often as it is met; a slice's spare places count too). A statement '..UptoSaid' is the law's where the arguments, and the package variables that the reading takes, are together of bulk at most 1048576: NARROWER than '..Said'. Prove '..Said' where nothing that the law and all that it calls make is longer than what came in: it says more and counts as full. Else prove '..UptoSaid'. A law counts once. -/
mutual
def uptoBulk {H : Type} : DataW H → Nat
  | .lit (.string bytes) => bytes.length + 1
  | .lit _ => 1
  | .nil => 1
  | .ptr d => uptoBulk d + 1
  | .slice elems spare => uptoBulkAll elems + uptoBulkAll spare + 1
  | .agg parts => uptoBulkAll parts + 1
  | .iface _ d => uptoBulk d + 1
  | .map entries => uptoBulkEntries entries + 1
  | .held _ => 1
def uptoBulkAll {H : Type} : List (DataW H) → Nat
  | [] => 0
  | d :: r => uptoBulk d + uptoBulkAll r
def uptoBulkEntries {H : Type} : List (Lit × DataW H) → Nat
  | [] => 0
  | x :: r => uptoBulkEntry x + uptoBulkEntries r
def uptoBulkEntry {H : Type} : Lit × DataW H → Nat
  | (.string bytes, d) => bytes.length + uptoBulk d + 1
  | (_, d) => uptoBulk d + 1
 end
def uptoSmall : (H : Type) → List (DataW H) → Bool := fun _ ds => decide (uptoBulkAll ds ≤ 1048576)
def OpenSpec.upto (s : _root_.Go.ChangeSpec) : _root_.Go.OpenSpec := { _root_.Go.OpenSpec.ofChange s with cond := some uptoSmall }

/-- 'cyanotypelaw07.PlaneSides', WHERE WHAT IT READS IS OF BULK AT MOST 1048576: true; the input reads as it did. -/
def planeSidesUptoRow : OpenClaim := { program := "ytgegmlhpdpdnfaa", sum := "f16db5519f84cd5d473bdd3cbda64dfd6f81d0b3d1dca3dd02ac8d31ecc6c1de", func := "cyanotype/cyanotypelaw07.PlaneSides", spec := "planeSides", apart := false, narrowed := true }
def PlaneSidesUptoSaid : Prop := planeSidesUptoRow.holds Try.pinned (OpenSpec.upto planeSidesSpec)

/-- 'cyanotypelaw07.PlaneGray', WHERE WHAT IT READS IS OF BULK AT MOST 1048576: true; the input reads as it did. -/
def planeGrayUptoRow : OpenClaim := { program := "ytgegmlhpdpdnfaa", sum := "f16db5519f84cd5d473bdd3cbda64dfd6f81d0b3d1dca3dd02ac8d31ecc6c1de", func := "cyanotype/cyanotypelaw07.PlaneGray", spec := "planeGray", unfollowed := true, recurses := true, apart := false, narrowed := true }
def PlaneGrayUptoSaid : Prop := planeGrayUptoRow.holds Try.pinned (OpenSpec.upto planeGraySpec)

/-- 'cyanotypelaw07.PlaneSmall', WHERE WHAT IT READS IS OF BULK AT MOST 1048576: true; the input reads as it did. -/
def planeSmallUptoRow : OpenClaim := { program := "ytgegmlhpdpdnfaa", sum := "f16db5519f84cd5d473bdd3cbda64dfd6f81d0b3d1dca3dd02ac8d31ecc6c1de", func := "cyanotype/cyanotypelaw07.PlaneSmall", spec := "planeSmall", unfollowed := true, recurses := true, apart := false, narrowed := true }
def PlaneSmallUptoSaid : Prop := planeSmallUptoRow.holds Try.pinned (OpenSpec.upto planeSmallSpec)

/-- 'cyanotypelaw07.PlaneFlat', WHERE WHAT IT READS IS OF BULK AT MOST 1048576: true; the input reads as it did. -/
def planeFlatUptoRow : OpenClaim := { program := "ytgegmlhpdpdnfaa", sum := "f16db5519f84cd5d473bdd3cbda64dfd6f81d0b3d1dca3dd02ac8d31ecc6c1de", func := "cyanotype/cyanotypelaw07.PlaneFlat", spec := "planeFlat", unfollowed := true, recurses := true, apart := false, narrowed := true }
def PlaneFlatUptoSaid : Prop := planeFlatUptoRow.holds Try.pinned (OpenSpec.upto planeFlatSpec)

/-- 'cyanotypelaw07.PlaneCounts', WHERE WHAT IT READS IS OF BULK AT MOST 1048576: true; the input reads as it did. -/
def planeCountsUptoRow : OpenClaim := { program := "ytgegmlhpdpdnfaa", sum := "f16db5519f84cd5d473bdd3cbda64dfd6f81d0b3d1dca3dd02ac8d31ecc6c1de", func := "cyanotype/cyanotypelaw07.PlaneCounts", spec := "planeCounts", unfollowed := true, recurses := true, apart := false, narrowed := true }
def PlaneCountsUptoSaid : Prop := planeCountsUptoRow.holds Try.pinned (OpenSpec.upto planeCountsSpec)

/-- 'cyanotypelaw07.PlaneEdges', WHERE WHAT IT READS IS OF BULK AT MOST 1048576: true; the input reads as it did. -/
def planeEdgesUptoRow : OpenClaim := { program := "ytgegmlhpdpdnfaa", sum := "f16db5519f84cd5d473bdd3cbda64dfd6f81d0b3d1dca3dd02ac8d31ecc6c1de", func := "cyanotype/cyanotypelaw07.PlaneEdges", spec := "planeEdges", unfollowed := true, recurses := true, apart := false, narrowed := true }
def PlaneEdgesUptoSaid : Prop := planeEdgesUptoRow.holds Try.pinned (OpenSpec.upto planeEdgesSpec)

/-- 'cyanotypelaw07.PlaneJoins', WHERE WHAT IT READS IS OF BULK AT MOST 1048576: true; the input reads as it did. -/
def planeJoinsUptoRow : OpenClaim := { program := "ytgegmlhpdpdnfaa", sum := "f16db5519f84cd5d473bdd3cbda64dfd6f81d0b3d1dca3dd02ac8d31ecc6c1de", func := "cyanotype/cyanotypelaw07.PlaneJoins", spec := "planeJoins", unfollowed := true, recurses := true, apart := false, narrowed := true }
def PlaneJoinsUptoSaid : Prop := planeJoinsUptoRow.holds Try.pinned (OpenSpec.upto planeJoinsSpec)

/-- 'cyanotypelaw07.PlaneSplits', WHERE WHAT IT READS IS OF BULK AT MOST 1048576: true; the input reads as it did. -/
def planeSplitsUptoRow : OpenClaim := { program := "ytgegmlhpdpdnfaa", sum := "f16db5519f84cd5d473bdd3cbda64dfd6f81d0b3d1dca3dd02ac8d31ecc6c1de", func := "cyanotype/cyanotypelaw07.PlaneSplits", spec := "planeSplits", unfollowed := true, recurses := true, apart := false, narrowed := true }
def PlaneSplitsUptoSaid : Prop := planeSplitsUptoRow.holds Try.pinned (OpenSpec.upto planeSplitsSpec)

end Rows
end Go.Proofs.Ytgegmlhpdpdnfaa
