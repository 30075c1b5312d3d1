/-
  No cell of these rows narrows 'for every input' (looked for: loops, veiled, ifaces, maps, wideKeys, modest, calm, conditions, laid).
  DERIVED. THE GIVEN ROWS OF THIS SEAT. 12 by the template 'for every input the law returns true; each argument reads behind the call as it read before'; 0 by the template 'total and deterministic' (their statements: YtgoflehojioedaaTotals.lean).
  GIVEN WITH THE SEED: the statements are not yours to turn. If you find one false, say at which input.
  Laid BY PROGRAM, IN A SANDBOX (cutbox-rows.mjs): the forced cells as the released guide's own fill.sh prints them over the translation a27ac4739671563a… (all of the seat's roots in one cut). By AI agents, Wed Nov 11 2026. No macro, syntax, notation, axiom, sorry.
-/
import Derived.Test.YtgoflehojioedaaChecked
import GoSem.Claim
import GoSem.ClaimJoined
import GoSem.ClaimMapViews
import Derived.JoinedTies
import Derived.KernelRfl
namespace Go.Proofs.Ytgoflehojioedaa
/- THE CELL 'sum', in the pinned program and in every row, IS THE sha256 OF THE DUMP (.gsa) THAT YtgoflehojioedaaProg.lean LOADS. Nothing in Lean hashes anything: it is a label: what it is worth is what the hold of that sum in a sandbox is worth. -/
noncomputable def Try.pinned : Pinned := { name := "ytgoflehojioedaa", sum := "a27ac4739671563af97ad0e04d5d6f22fb234512fb863f338267003b8e945ec0", checked := Try.checked }
namespace Rows
def none {H : Type} : Left H := { results := [], args := [] }

/-- 'cyanotypelaw03.SecShifts': WHATEVER THE INPUT: true; the input reads as it did. -/
def secShiftsSpec : ChangeSpec := { name := "secShifts", fn := fun _ => fun
  | [d1, d2, d3] => { results := [.lit (.bool true)], args := [d1, d2, d3] }
  | _ => none }
def secShiftsRow : OpenClaim := { program := "ytgoflehojioedaa", sum := "a27ac4739671563af97ad0e04d5d6f22fb234512fb863f338267003b8e945ec0", func := "cyanotype/cyanotypelaw03.SecShifts", spec := "secShifts", unfollowed := true, recurses := true, apart := false }
def SecShiftsSaid : Prop := secShiftsRow.holds Try.pinned (OpenSpec.ofChange secShiftsSpec)

/-- ITS FALSE NEIGHBOUR: 'it returns false'. Refute it at one input. -/
def secShiftsWrong : ChangeSpec := { name := "secShifts", fn := fun _ => fun
  | [d1, d2, d3] => { results := [.lit (.bool false)], args := [d1, d2, d3] }
  | _ => none }
def SecShiftsWrongFalsely : Prop := secShiftsRow.holds Try.pinned (OpenSpec.ofChange secShiftsWrong)

/-- 'cyanotypelaw03.SecRules': WHATEVER THE INPUT: true; the input reads as it did. -/
def secRulesSpec : ChangeSpec := { name := "secRules", fn := fun _ => fun
  | [d1, d2, d3] => { results := [.lit (.bool true)], args := [d1, d2, d3] }
  | _ => none }
def secRulesRow : OpenClaim := { program := "ytgoflehojioedaa", sum := "a27ac4739671563af97ad0e04d5d6f22fb234512fb863f338267003b8e945ec0", func := "cyanotype/cyanotypelaw03.SecRules", spec := "secRules", unfollowed := true, recurses := true, apart := false }
def SecRulesSaid : Prop := secRulesRow.holds Try.pinned (OpenSpec.ofChange secRulesSpec)

/-- ITS FALSE NEIGHBOUR: 'it returns false'. Refute it at one input. -/
def secRulesWrong : ChangeSpec := { name := "secRules", fn := fun _ => fun
  | [d1, d2, d3] => { results := [.lit (.bool false)], args := [d1, d2, d3] }
  | _ => none }
def SecRulesWrongFalsely : Prop := secRulesRow.holds Try.pinned (OpenSpec.ofChange secRulesWrong)

/-- 'cyanotypelaw03.SecReckons': WHATEVER THE INPUT: true; the input reads as it did. -/
def secReckonsSpec : ChangeSpec := { name := "secReckons", fn := fun _ => fun
  | [d1, d2] => { results := [.lit (.bool true)], args := [d1, d2] }
  | _ => none }
def secReckonsRow : OpenClaim := { program := "ytgoflehojioedaa", sum := "a27ac4739671563af97ad0e04d5d6f22fb234512fb863f338267003b8e945ec0", func := "cyanotype/cyanotypelaw03.SecReckons", spec := "secReckons", unfollowed := true, recurses := true, apart := false }
def SecReckonsSaid : Prop := secReckonsRow.holds Try.pinned (OpenSpec.ofChange secReckonsSpec)

/-- ITS FALSE NEIGHBOUR: 'it returns false'. Refute it at one input. -/
def secReckonsWrong : ChangeSpec := { name := "secReckons", fn := fun _ => fun
  | [d1, d2] => { results := [.lit (.bool false)], args := [d1, d2] }
  | _ => none }
def SecReckonsWrongFalsely : Prop := secReckonsRow.holds Try.pinned (OpenSpec.ofChange secReckonsWrong)

/-- 'cyanotypelaw03.SecBounds': WHATEVER THE INPUT: true; the input reads as it did. -/
def secBoundsSpec : ChangeSpec := { name := "secBounds", fn := fun _ => fun
  | [d1, d2, d3, d4, d5] => { results := [.lit (.bool true)], args := [d1, d2, d3, d4, d5] }
  | _ => none }
def secBoundsRow : OpenClaim := { program := "ytgoflehojioedaa", sum := "a27ac4739671563af97ad0e04d5d6f22fb234512fb863f338267003b8e945ec0", func := "cyanotype/cyanotypelaw03.SecBounds", spec := "secBounds", unfollowed := true, recurses := true, apart := false }
def SecBoundsSaid : Prop := secBoundsRow.holds Try.pinned (OpenSpec.ofChange secBoundsSpec)

/-- ITS FALSE NEIGHBOUR: 'it returns false'. Refute it at one input. -/
def secBoundsWrong : ChangeSpec := { name := "secBounds", fn := fun _ => fun
  | [d1, d2, d3, d4, d5] => { results := [.lit (.bool false)], args := [d1, d2, d3, d4, d5] }
  | _ => none }
def SecBoundsWrongFalsely : Prop := secBoundsRow.holds Try.pinned (OpenSpec.ofChange secBoundsWrong)

/-- 'cyanotypelaw03.SecSigns': WHATEVER THE INPUT: true; the input reads as it did. -/
def secSignsSpec : ChangeSpec := { name := "secSigns", fn := fun _ => fun
  | [d1, d2] => { results := [.lit (.bool true)], args := [d1, d2] }
  | _ => none }
def secSignsRow : OpenClaim := { program := "ytgoflehojioedaa", sum := "a27ac4739671563af97ad0e04d5d6f22fb234512fb863f338267003b8e945ec0", func := "cyanotype/cyanotypelaw03.SecSigns", spec := "secSigns", unfollowed := true, recurses := true, apart := false }
def SecSignsSaid : Prop := secSignsRow.holds Try.pinned (OpenSpec.ofChange secSignsSpec)

/-- ITS FALSE NEIGHBOUR: 'it returns false'. Refute it at one input. -/
def secSignsWrong : ChangeSpec := { name := "secSigns", fn := fun _ => fun
  | [d1, d2] => { results := [.lit (.bool false)], args := [d1, d2] }
  | _ => none }
def SecSignsWrongFalsely : Prop := secSignsRow.holds Try.pinned (OpenSpec.ofChange secSignsWrong)

/-- 'cyanotypelaw03.SecMasks': WHATEVER THE INPUT: true; the input reads as it did. -/
def secMasksSpec : ChangeSpec := { name := "secMasks", fn := fun _ => fun
  | [d1, d2, d3, d4, d5, d6] => { results := [.lit (.bool true)], args := [d1, d2, d3, d4, d5, d6] }
  | _ => none }
def secMasksRow : OpenClaim := { program := "ytgoflehojioedaa", sum := "a27ac4739671563af97ad0e04d5d6f22fb234512fb863f338267003b8e945ec0", func := "cyanotype/cyanotypelaw03.SecMasks", spec := "secMasks", unfollowed := true, recurses := true, apart := false }
def SecMasksSaid : Prop := secMasksRow.holds Try.pinned (OpenSpec.ofChange secMasksSpec)

/-- ITS FALSE NEIGHBOUR: 'it returns false'. Refute it at one input. -/
def secMasksWrong : ChangeSpec := { name := "secMasks", fn := fun _ => fun
  | [d1, d2, d3, d4, d5, d6] => { results := [.lit (.bool false)], args := [d1, d2, d3, d4, d5, d6] }
  | _ => none }
def SecMasksWrongFalsely : Prop := secMasksRow.holds Try.pinned (OpenSpec.ofChange secMasksWrong)

/-- 'cyanotypelaw02.TraceCounts': WHATEVER THE INPUT: true; the input reads as it did. -/
def traceCountsSpec : ChangeSpec := { name := "traceCounts", fn := fun _ => fun
  | [d1, d2] => { results := [.lit (.bool true)], args := [d1, d2] }
  | _ => none }
def traceCountsRow : OpenClaim := { program := "ytgoflehojioedaa", sum := "a27ac4739671563af97ad0e04d5d6f22fb234512fb863f338267003b8e945ec0", func := "cyanotype/cyanotypelaw02.TraceCounts", spec := "traceCounts", unfollowed := true, recurses := true, apart := false }
def TraceCountsSaid : Prop := traceCountsRow.holds Try.pinned (OpenSpec.ofChange traceCountsSpec)

/-- ITS FALSE NEIGHBOUR: 'it returns false'. Refute it at one input. -/
def traceCountsWrong : ChangeSpec := { name := "traceCounts", fn := fun _ => fun
  | [d1, d2] => { results := [.lit (.bool false)], args := [d1, d2] }
  | _ => none }
def TraceCountsWrongFalsely : Prop := traceCountsRow.holds Try.pinned (OpenSpec.ofChange traceCountsWrong)

/-- 'cyanotypelaw02.TraceKeeps': WHATEVER THE INPUT: true; the input reads as it did. -/
def traceKeepsSpec : ChangeSpec := { name := "traceKeeps", fn := fun _ => fun
  | [d1, d2, d3] => { results := [.lit (.bool true)], args := [d1, d2, d3] }
  | _ => none }
def traceKeepsRow : OpenClaim := { program := "ytgoflehojioedaa", sum := "a27ac4739671563af97ad0e04d5d6f22fb234512fb863f338267003b8e945ec0", func := "cyanotype/cyanotypelaw02.TraceKeeps", spec := "traceKeeps", unfollowed := true, recurses := true, apart := false }
def TraceKeepsSaid : Prop := traceKeepsRow.holds Try.pinned (OpenSpec.ofChange traceKeepsSpec)

/-- ITS FALSE NEIGHBOUR: 'it returns false'. Refute it at one input. -/
def traceKeepsWrong : ChangeSpec := { name := "traceKeeps", fn := fun _ => fun
  | [d1, d2, d3] => { results := [.lit (.bool false)], args := [d1, d2, d3] }
  | _ => none }
def TraceKeepsWrongFalsely : Prop := traceKeepsRow.holds Try.pinned (OpenSpec.ofChange traceKeepsWrong)

/-- 'cyanotypelaw02.TraceLast': WHATEVER THE INPUT: true; the input reads as it did. -/
def traceLastSpec : ChangeSpec := { name := "traceLast", fn := fun _ => fun
  | [d1, d2] => { results := [.lit (.bool true)], args := [d1, d2] }
  | _ => none }
def traceLastRow : OpenClaim := { program := "ytgoflehojioedaa", sum := "a27ac4739671563af97ad0e04d5d6f22fb234512fb863f338267003b8e945ec0", func := "cyanotype/cyanotypelaw02.TraceLast", spec := "traceLast", unfollowed := true, recurses := true, apart := false }
def TraceLastSaid : Prop := traceLastRow.holds Try.pinned (OpenSpec.ofChange traceLastSpec)

/-- ITS FALSE NEIGHBOUR: 'it returns false'. Refute it at one input. -/
def traceLastWrong : ChangeSpec := { name := "traceLast", fn := fun _ => fun
  | [d1, d2] => { results := [.lit (.bool false)], args := [d1, d2] }
  | _ => none }
def TraceLastWrongFalsely : Prop := traceLastRow.holds Try.pinned (OpenSpec.ofChange traceLastWrong)

/-- 'cyanotypelaw02.TraceNil': WHATEVER THE INPUT: true; the input reads as it did. -/
def traceNilSpec : ChangeSpec := { name := "traceNil", fn := fun _ => fun
  | [d] => { results := [.lit (.bool true)], args := [d] }
  | _ => none }
def traceNilRow : OpenClaim := { program := "ytgoflehojioedaa", sum := "a27ac4739671563af97ad0e04d5d6f22fb234512fb863f338267003b8e945ec0", func := "cyanotype/cyanotypelaw02.TraceNil", spec := "traceNil", unfollowed := true, recurses := true, apart := false }
def TraceNilSaid : Prop := traceNilRow.holds Try.pinned (OpenSpec.ofChange traceNilSpec)

/-- ITS FALSE NEIGHBOUR: 'it returns false'. Refute it at one input. -/
def traceNilWrong : ChangeSpec := { name := "traceNil", fn := fun _ => fun
  | [d] => { results := [.lit (.bool false)], args := [d] }
  | _ => none }
def TraceNilWrongFalsely : Prop := traceNilRow.holds Try.pinned (OpenSpec.ofChange traceNilWrong)

/-- 'cyanotypelaw02.TraceOrder': WHATEVER THE INPUT: true; the input reads as it did. -/
def traceOrderSpec : ChangeSpec := { name := "traceOrder", fn := fun _ => fun
  | [d1, d2, d3] => { results := [.lit (.bool true)], args := [d1, d2, d3] }
  | _ => none }
def traceOrderRow : OpenClaim := { program := "ytgoflehojioedaa", sum := "a27ac4739671563af97ad0e04d5d6f22fb234512fb863f338267003b8e945ec0", func := "cyanotype/cyanotypelaw02.TraceOrder", spec := "traceOrder", unfollowed := true, recurses := true, apart := false }
def TraceOrderSaid : Prop := traceOrderRow.holds Try.pinned (OpenSpec.ofChange traceOrderSpec)

/-- ITS FALSE NEIGHBOUR: 'it returns false'. Refute it at one input. -/
def traceOrderWrong : ChangeSpec := { name := "traceOrder", fn := fun _ => fun
  | [d1, d2, d3] => { results := [.lit (.bool false)], args := [d1, d2, d3] }
  | _ => none }
def TraceOrderWrongFalsely : Prop := traceOrderRow.holds Try.pinned (OpenSpec.ofChange traceOrderWrong)

/-- 'cyanotypelaw03.SecOpens': WHATEVER THE INPUT: true; the input reads as it did. -/
def secOpensSpec : ChangeSpec := { name := "secOpens", fn := fun _ => fun
  | [d1, d2, d3] => { results := [.lit (.bool true)], args := [d1, d2, d3] }
  | _ => none }
def secOpensRow : OpenClaim := { program := "ytgoflehojioedaa", sum := "a27ac4739671563af97ad0e04d5d6f22fb234512fb863f338267003b8e945ec0", func := "cyanotype/cyanotypelaw03.SecOpens", spec := "secOpens", unfollowed := true, recurses := true, apart := false }
def SecOpensSaid : Prop := secOpensRow.holds Try.pinned (OpenSpec.ofChange secOpensSpec)

/-- ITS FALSE NEIGHBOUR: 'it returns false'. Refute it at one input. -/
def secOpensWrong : ChangeSpec := { name := "secOpens", fn := fun _ => fun
  | [d1, d2, d3] => { results := [.lit (.bool false)], args := [d1, d2, d3] }
  | _ => none }
def SecOpensWrongFalsely : Prop := secOpensRow.holds Try.pinned (OpenSpec.ofChange secOpensWrong)

/- THE SECOND FORM. 'bulk': how many values and letters a reading holds, each counted each time it is reached (what is shared counts as often as it is met; a slice's spare places count too). A statement '..UptoSaid' is the law's where the arguments, and the package variables that the reading takes, are together of bulk at most 1048576: NARROWER than '..Said'. Prove '..Said' where nothing that the law and all that it calls make is longer than what came in: it says more and counts as full. Else prove '..UptoSaid'. A law counts once. -/
mutual
def uptoBulk {H : Type} : DataW H → Nat
  | .lit (.string bytes) => bytes.length + 1
  | .lit _ => 1
  | .nil => 1
  | .ptr d => uptoBulk d + 1
  | .slice elems spare => uptoBulkAll elems + uptoBulkAll spare + 1
  | .agg parts => uptoBulkAll parts + 1
  | .iface _ d => uptoBulk d + 1
  | .map entries => uptoBulkEntries entries + 1
  | .held _ => 1
def uptoBulkAll {H : Type} : List (DataW H) → Nat
  | [] => 0
  | d :: r => uptoBulk d + uptoBulkAll r
def uptoBulkEntries {H : Type} : List (Lit × DataW H) → Nat
  | [] => 0
  | x :: r => uptoBulkEntry x + uptoBulkEntries r
def uptoBulkEntry {H : Type} : Lit × DataW H → Nat
  | (.string bytes, d) => bytes.length + uptoBulk d + 1
  | (_, d) => uptoBulk d + 1
 end
def uptoSmall : (H : Type) → List (DataW H) → Bool := fun _ ds => decide (uptoBulkAll ds ≤ 1048576)
def OpenSpec.upto (s : _root_.Go.ChangeSpec) : _root_.Go.OpenSpec := { _root_.Go.OpenSpec.ofChange s with cond := some uptoSmall }

/-- 'cyanotypelaw03.SecShifts', WHERE WHAT IT READS IS OF BULK AT MOST 1048576: true; the input reads as it did. -/
def secShiftsUptoRow : OpenClaim := { program := "ytgoflehojioedaa", sum := "a27ac4739671563af97ad0e04d5d6f22fb234512fb863f338267003b8e945ec0", func := "cyanotype/cyanotypelaw03.SecShifts", spec := "secShifts", unfollowed := true, recurses := true, apart := false, narrowed := true }
def SecShiftsUptoSaid : Prop := secShiftsUptoRow.holds Try.pinned (OpenSpec.upto secShiftsSpec)

/-- 'cyanotypelaw03.SecRules', WHERE WHAT IT READS IS OF BULK AT MOST 1048576: true; the input reads as it did. -/
def secRulesUptoRow : OpenClaim := { program := "ytgoflehojioedaa", sum := "a27ac4739671563af97ad0e04d5d6f22fb234512fb863f338267003b8e945ec0", func := "cyanotype/cyanotypelaw03.SecRules", spec := "secRules", unfollowed := true, recurses := true, apart := false, narrowed := true }
def SecRulesUptoSaid : Prop := secRulesUptoRow.holds Try.pinned (OpenSpec.upto secRulesSpec)

/-- 'cyanotypelaw03.SecReckons', WHERE WHAT IT READS IS OF BULK AT MOST 1048576: true; the input reads as it did. -/
def secReckonsUptoRow : OpenClaim := { program := "ytgoflehojioedaa", sum := "a27ac4739671563af97ad0e04d5d6f22fb234512fb863f338267003b8e945ec0", func := "cyanotype/cyanotypelaw03.SecReckons", spec := "secReckons", unfollowed := true, recurses := true, apart := false, narrowed := true }
def SecReckonsUptoSaid : Prop := secReckonsUptoRow.holds Try.pinned (OpenSpec.upto secReckonsSpec)

/-- 'cyanotypelaw03.SecBounds', WHERE WHAT IT READS IS OF BULK AT MOST 1048576: true; the input reads as it did. -/
def secBoundsUptoRow : OpenClaim := { program := "ytgoflehojioedaa", sum := "a27ac4739671563af97ad0e04d5d6f22fb234512fb863f338267003b8e945ec0", func := "cyanotype/cyanotypelaw03.SecBounds", spec := "secBounds", unfollowed := true, recurses := true, apart := false, narrowed := true }
def SecBoundsUptoSaid : Prop := secBoundsUptoRow.holds Try.pinned (OpenSpec.upto secBoundsSpec)

/-- 'cyanotypelaw03.SecSigns', WHERE WHAT IT READS IS OF BULK AT MOST 1048576: true; the input reads as it did. -/
def secSignsUptoRow : OpenClaim := { program := "ytgoflehojioedaa", sum := "a27ac4739671563af97ad0e04d5d6f22fb234512fb863f338267003b8e945ec0", func := "cyanotype/cyanotypelaw03.SecSigns", spec := "secSigns", unfollowed := true, recurses := true, apart := false, narrowed := true }
def SecSignsUptoSaid : Prop := secSignsUptoRow.holds Try.pinned (OpenSpec.upto secSignsSpec)

/-- 'cyanotypelaw03.SecMasks', WHERE WHAT IT READS IS OF BULK AT MOST 1048576: true; the input reads as it did. -/
def secMasksUptoRow : OpenClaim := { program := "ytgoflehojioedaa", sum := "a27ac4739671563af97ad0e04d5d6f22fb234512fb863f338267003b8e945ec0", func := "cyanotype/cyanotypelaw03.SecMasks", spec := "secMasks", unfollowed := true, recurses := true, apart := false, narrowed := true }
def SecMasksUptoSaid : Prop := secMasksUptoRow.holds Try.pinned (OpenSpec.upto secMasksSpec)

/-- 'cyanotypelaw02.TraceCounts', WHERE WHAT IT READS IS OF BULK AT MOST 1048576: true; the input reads as it did. -/
def traceCountsUptoRow : OpenClaim := { program := "ytgoflehojioedaa", sum := "a27ac4739671563af97ad0e04d5d6f22fb234512fb863f338267003b8e945ec0", func := "cyanotype/cyanotypelaw02.TraceCounts", spec := "traceCounts", unfollowed := true, recurses := true, apart := false, narrowed := true }
def TraceCountsUptoSaid : Prop := traceCountsUptoRow.holds Try.pinned (OpenSpec.upto traceCountsSpec)

/-- 'cyanotypelaw02.TraceKeeps', WHERE WHAT IT READS IS OF BULK AT MOST 1048576: true; the input reads as it did. -/
def traceKeepsUptoRow : OpenClaim := { program := "ytgoflehojioedaa", sum := "a27ac4739671563af97ad0e04d5d6f22fb234512fb863f338267003b8e945ec0", func := "cyanotype/cyanotypelaw02.TraceKeeps", spec := "traceKeeps", unfollowed := true, recurses := true, apart := false, narrowed := true }
def TraceKeepsUptoSaid : Prop := traceKeepsUptoRow.holds Try.pinned (OpenSpec.upto traceKeepsSpec)

/-- 'cyanotypelaw02.TraceLast', WHERE WHAT IT READS IS OF BULK AT MOST 1048576: true; the input reads as it did. -/
def traceLastUptoRow : OpenClaim := { program := "ytgoflehojioedaa", sum := "a27ac4739671563af97ad0e04d5d6f22fb234512fb863f338267003b8e945ec0", func := "cyanotype/cyanotypelaw02.TraceLast", spec := "traceLast", unfollowed := true, recurses := true, apart := false, narrowed := true }
def TraceLastUptoSaid : Prop := traceLastUptoRow.holds Try.pinned (OpenSpec.upto traceLastSpec)

/-- 'cyanotypelaw02.TraceNil', WHERE WHAT IT READS IS OF BULK AT MOST 1048576: true; the input reads as it did. -/
def traceNilUptoRow : OpenClaim := { program := "ytgoflehojioedaa", sum := "a27ac4739671563af97ad0e04d5d6f22fb234512fb863f338267003b8e945ec0", func := "cyanotype/cyanotypelaw02.TraceNil", spec := "traceNil", unfollowed := true, recurses := true, apart := false, narrowed := true }
def TraceNilUptoSaid : Prop := traceNilUptoRow.holds Try.pinned (OpenSpec.upto traceNilSpec)

/-- 'cyanotypelaw02.TraceOrder', WHERE WHAT IT READS IS OF BULK AT MOST 1048576: true; the input reads as it did. -/
def traceOrderUptoRow : OpenClaim := { program := "ytgoflehojioedaa", sum := "a27ac4739671563af97ad0e04d5d6f22fb234512fb863f338267003b8e945ec0", func := "cyanotype/cyanotypelaw02.TraceOrder", spec := "traceOrder", unfollowed := true, recurses := true, apart := false, narrowed := true }
def TraceOrderUptoSaid : Prop := traceOrderUptoRow.holds Try.pinned (OpenSpec.upto traceOrderSpec)

/-- 'cyanotypelaw03.SecOpens', WHERE WHAT IT READS IS OF BULK AT MOST 1048576: true; the input reads as it did. -/
def secOpensUptoRow : OpenClaim := { program := "ytgoflehojioedaa", sum := "a27ac4739671563af97ad0e04d5d6f22fb234512fb863f338267003b8e945ec0", func := "cyanotype/cyanotypelaw03.SecOpens", spec := "secOpens", unfollowed := true, recurses := true, apart := false, narrowed := true }
def SecOpensUptoSaid : Prop := secOpensUptoRow.holds Try.pinned (OpenSpec.upto secOpensSpec)

end Rows
end Go.Proofs.Ytgoflehojioedaa
