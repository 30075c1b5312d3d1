/-
  NARROWER THAN 'FOR EVERY INPUT', by the rows' own cells (each row's printed sentence says how): DctTurns: laid · DctFactors: laid · DctNear: laid · DctTurned: laid · DctSum: laid · DctEmpty: laid · QuantNear: laid · QuantEnds: laid · QuantTells: laid · DctSecrets: laid · QuantSteps: laid.
  DERIVED. THE GIVEN ROWS OF THIS SEAT. 11 by the template 'for every input the law returns true; each argument reads behind the call as it read before'; 0 by the template 'total and deterministic' (their statements: YtkaoajfdbjlioaaDoorTotals.lean).
  GIVEN WITH THE SEED: the statements are not yours to turn. If you find one false, say at which input.
  Laid BY PROGRAM, IN A SANDBOX (cutbox-rows.mjs): the forced cells as the released guide's own fill.sh prints them over the translation a16a685f43de1189… (all of the seat's roots in one cut). By AI agents, Wed Nov 11 2026. No macro, syntax, notation, axiom, sorry.
-/
import Derived.Test.YtkaoajfdbjlioaaDoorChecked
import GoSem.Claim
import GoSem.ClaimJoined
import GoSem.ClaimMapViews
import Derived.JoinedTies
import Derived.KernelRfl
namespace Go.Proofs.YtkaoajfdbjlioaaDoor
/- THE CELL 'sum', in the pinned program and in every row, IS THE sha256 OF THE DUMP (.gsa) THAT YtkaoajfdbjlioaaDoorProg.lean LOADS. Nothing in Lean hashes anything: it is a label: what it is worth is what the hold of that sum in a sandbox is worth. -/
noncomputable def Tryd.pinned : Pinned := { name := "ytkaoajfdbjlioaadoor", sum := "a16a685f43de118972b2b86dbae61dcb5705a76d5f4c54d7af1db6473bc96beb", checked := Tryd.checked }
namespace Rows
def none {H : Type} : Left H := { results := [], args := [] }

/- WHAT THE LISTED PACKAGE-LEVEL VARIABLES READ AS WHEN THE CALL BEGINS. Each datum BY PROGRAM (the guide's laid-datum.mjs) off the statement by which the dump's own 'gosem.cut.vars' lays the variable. In a bare row this is a premise. The card (YtkaoajfdbjlioaaDoorCards.lean) ties it to the program's text. -/
def laid_cyanotype_dct_factors {H : Type} : DataW H := .agg [.agg [.lit (.int .i64 370728), .lit (.int .i64 370728), .lit (.int .i64 370728), .lit (.int .i64 370728), .lit (.int .i64 370728), .lit (.int .i64 370728), .lit (.int .i64 370728), .lit (.int .i64 370728)], .agg [.lit (.int .i64 514214), .lit (.int .i64 435930), .lit (.int .i64 291279), .lit (.int .i64 102284), .lit (.int .i64 (-102284)), .lit (.int .i64 (-291279)), .lit (.int .i64 (-435930)), .lit (.int .i64 (-514214))], .agg [.lit (.int .i64 484379), .lit (.int .i64 200636), .lit (.int .i64 (-200636)), .lit (.int .i64 (-484379)), .lit (.int .i64 (-484379)), .lit (.int .i64 (-200636)), .lit (.int .i64 200636), .lit (.int .i64 484379)], .agg [.lit (.int .i64 435930), .lit (.int .i64 (-102284)), .lit (.int .i64 (-514214)), .lit (.int .i64 (-291279)), .lit (.int .i64 291279), .lit (.int .i64 514214), .lit (.int .i64 102284), .lit (.int .i64 (-435930))], .agg [.lit (.int .i64 370728), .lit (.int .i64 (-370728)), .lit (.int .i64 (-370728)), .lit (.int .i64 370728), .lit (.int .i64 370728), .lit (.int .i64 (-370728)), .lit (.int .i64 (-370728)), .lit (.int .i64 370728)], .agg [.lit (.int .i64 291279), .lit (.int .i64 (-514214)), .lit (.int .i64 102284), .lit (.int .i64 435930), .lit (.int .i64 (-435930)), .lit (.int .i64 (-102284)), .lit (.int .i64 514214), .lit (.int .i64 (-291279))], .agg [.lit (.int .i64 200636), .lit (.int .i64 (-484379)), .lit (.int .i64 484379), .lit (.int .i64 (-200636)), .lit (.int .i64 (-200636)), .lit (.int .i64 484379), .lit (.int .i64 (-484379)), .lit (.int .i64 200636)], .agg [.lit (.int .i64 102284), .lit (.int .i64 (-291279)), .lit (.int .i64 435930), .lit (.int .i64 (-514214)), .lit (.int .i64 514214), .lit (.int .i64 (-435930)), .lit (.int .i64 291279), .lit (.int .i64 (-102284))]]
def laid_cyanotype_quant_zigzag {H : Type} : DataW H := .agg [.lit (.int .i64 0), .lit (.int .i64 1), .lit (.int .i64 8), .lit (.int .i64 16), .lit (.int .i64 9), .lit (.int .i64 2), .lit (.int .i64 3), .lit (.int .i64 10), .lit (.int .i64 17), .lit (.int .i64 24), .lit (.int .i64 32), .lit (.int .i64 25), .lit (.int .i64 18), .lit (.int .i64 11), .lit (.int .i64 4), .lit (.int .i64 5), .lit (.int .i64 12), .lit (.int .i64 19), .lit (.int .i64 26), .lit (.int .i64 33), .lit (.int .i64 40), .lit (.int .i64 48), .lit (.int .i64 41), .lit (.int .i64 34), .lit (.int .i64 27), .lit (.int .i64 20), .lit (.int .i64 13), .lit (.int .i64 6), .lit (.int .i64 7), .lit (.int .i64 14), .lit (.int .i64 21), .lit (.int .i64 28), .lit (.int .i64 35), .lit (.int .i64 42), .lit (.int .i64 49), .lit (.int .i64 56), .lit (.int .i64 57), .lit (.int .i64 50), .lit (.int .i64 43), .lit (.int .i64 36), .lit (.int .i64 29), .lit (.int .i64 22), .lit (.int .i64 15), .lit (.int .i64 23), .lit (.int .i64 30), .lit (.int .i64 37), .lit (.int .i64 44), .lit (.int .i64 51), .lit (.int .i64 58), .lit (.int .i64 59), .lit (.int .i64 52), .lit (.int .i64 45), .lit (.int .i64 38), .lit (.int .i64 31), .lit (.int .i64 39), .lit (.int .i64 46), .lit (.int .i64 53), .lit (.int .i64 60), .lit (.int .i64 61), .lit (.int .i64 54), .lit (.int .i64 47), .lit (.int .i64 55), .lit (.int .i64 62), .lit (.int .i64 63)]
def laid_cyanotype_quant_bases {H : Type} : DataW H := .agg [.agg [.lit (.int .i64 16), .lit (.int .i64 11), .lit (.int .i64 10), .lit (.int .i64 16), .lit (.int .i64 24), .lit (.int .i64 40), .lit (.int .i64 51), .lit (.int .i64 61), .lit (.int .i64 12), .lit (.int .i64 12), .lit (.int .i64 14), .lit (.int .i64 19), .lit (.int .i64 26), .lit (.int .i64 58), .lit (.int .i64 60), .lit (.int .i64 55), .lit (.int .i64 14), .lit (.int .i64 13), .lit (.int .i64 16), .lit (.int .i64 24), .lit (.int .i64 40), .lit (.int .i64 57), .lit (.int .i64 69), .lit (.int .i64 56), .lit (.int .i64 14), .lit (.int .i64 17), .lit (.int .i64 22), .lit (.int .i64 29), .lit (.int .i64 51), .lit (.int .i64 87), .lit (.int .i64 80), .lit (.int .i64 62), .lit (.int .i64 18), .lit (.int .i64 22), .lit (.int .i64 37), .lit (.int .i64 56), .lit (.int .i64 68), .lit (.int .i64 109), .lit (.int .i64 103), .lit (.int .i64 77), .lit (.int .i64 24), .lit (.int .i64 35), .lit (.int .i64 55), .lit (.int .i64 64), .lit (.int .i64 81), .lit (.int .i64 104), .lit (.int .i64 113), .lit (.int .i64 92), .lit (.int .i64 49), .lit (.int .i64 64), .lit (.int .i64 78), .lit (.int .i64 87), .lit (.int .i64 103), .lit (.int .i64 121), .lit (.int .i64 120), .lit (.int .i64 101), .lit (.int .i64 72), .lit (.int .i64 92), .lit (.int .i64 95), .lit (.int .i64 98), .lit (.int .i64 112), .lit (.int .i64 100), .lit (.int .i64 103), .lit (.int .i64 99)], .agg [.lit (.int .i64 17), .lit (.int .i64 18), .lit (.int .i64 24), .lit (.int .i64 47), .lit (.int .i64 99), .lit (.int .i64 99), .lit (.int .i64 99), .lit (.int .i64 99), .lit (.int .i64 18), .lit (.int .i64 21), .lit (.int .i64 26), .lit (.int .i64 66), .lit (.int .i64 99), .lit (.int .i64 99), .lit (.int .i64 99), .lit (.int .i64 99), .lit (.int .i64 24), .lit (.int .i64 26), .lit (.int .i64 56), .lit (.int .i64 99), .lit (.int .i64 99), .lit (.int .i64 99), .lit (.int .i64 99), .lit (.int .i64 99), .lit (.int .i64 47), .lit (.int .i64 66), .lit (.int .i64 99), .lit (.int .i64 99), .lit (.int .i64 99), .lit (.int .i64 99), .lit (.int .i64 99), .lit (.int .i64 99), .lit (.int .i64 99), .lit (.int .i64 99), .lit (.int .i64 99), .lit (.int .i64 99), .lit (.int .i64 99), .lit (.int .i64 99), .lit (.int .i64 99), .lit (.int .i64 99), .lit (.int .i64 99), .lit (.int .i64 99), .lit (.int .i64 99), .lit (.int .i64 99), .lit (.int .i64 99), .lit (.int .i64 99), .lit (.int .i64 99), .lit (.int .i64 99), .lit (.int .i64 99), .lit (.int .i64 99), .lit (.int .i64 99), .lit (.int .i64 99), .lit (.int .i64 99), .lit (.int .i64 99), .lit (.int .i64 99), .lit (.int .i64 99), .lit (.int .i64 99), .lit (.int .i64 99), .lit (.int .i64 99), .lit (.int .i64 99), .lit (.int .i64 99), .lit (.int .i64 99), .lit (.int .i64 99), .lit (.int .i64 99)]]

/-- 'cyanotypelaw08.DctTurns': WHATEVER THE INPUT: true; the input reads as it did. -/
def dctTurnsSpec : ChangeSpec := { name := "dctTurns", fn := fun _ => fun
  | [d1, d2, d3] => { results := [.lit (.bool true)], args := [d1, d2, d3] }
  | _ => none }
def dctTurnsRow : OpenClaim := { program := "ytkaoajfdbjlioaadoor", sum := "a16a685f43de118972b2b86dbae61dcb5705a76d5f4c54d7af1db6473bc96beb", func := "cyanotype/cyanotypelaw08.DctTurns", spec := "dctTurns", unfollowed := true, recurses := true, named := ["cyanotype/dct.factors"], apart := false, laid := [("cyanotype/dct.factors", laid_cyanotype_dct_factors)] }
def DctTurnsSaid : Prop := dctTurnsRow.holds Tryd.pinned (OpenSpec.ofChange dctTurnsSpec)

/-- ITS FALSE NEIGHBOUR: 'it returns false'. Refute it at one input. -/
def dctTurnsWrong : ChangeSpec := { name := "dctTurns", fn := fun _ => fun
  | [d1, d2, d3] => { results := [.lit (.bool false)], args := [d1, d2, d3] }
  | _ => none }
def DctTurnsWrongFalsely : Prop := dctTurnsRow.holds Tryd.pinned (OpenSpec.ofChange dctTurnsWrong)

/-- 'cyanotypelaw08.DctFactors': WHATEVER THE INPUT: true; the input reads as it did. -/
def dctFactorsSpec : ChangeSpec := { name := "dctFactors", fn := fun _ => fun
  | [d1, d2, d3] => { results := [.lit (.bool true)], args := [d1, d2, d3] }
  | _ => none }
def dctFactorsRow : OpenClaim := { program := "ytkaoajfdbjlioaadoor", sum := "a16a685f43de118972b2b86dbae61dcb5705a76d5f4c54d7af1db6473bc96beb", func := "cyanotype/cyanotypelaw08.DctFactors", spec := "dctFactors", unfollowed := true, recurses := true, named := ["cyanotype/dct.factors"], apart := false, laid := [("cyanotype/dct.factors", laid_cyanotype_dct_factors)] }
def DctFactorsSaid : Prop := dctFactorsRow.holds Tryd.pinned (OpenSpec.ofChange dctFactorsSpec)

/-- ITS FALSE NEIGHBOUR: 'it returns false'. Refute it at one input. -/
def dctFactorsWrong : ChangeSpec := { name := "dctFactors", fn := fun _ => fun
  | [d1, d2, d3] => { results := [.lit (.bool false)], args := [d1, d2, d3] }
  | _ => none }
def DctFactorsWrongFalsely : Prop := dctFactorsRow.holds Tryd.pinned (OpenSpec.ofChange dctFactorsWrong)

/-- 'cyanotypelaw08.DctNear': WHATEVER THE INPUT: true; the input reads as it did. -/
def dctNearSpec : ChangeSpec := { name := "dctNear", fn := fun _ => fun
  | [d1, d2] => { results := [.lit (.bool true)], args := [d1, d2] }
  | _ => none }
def dctNearRow : OpenClaim := { program := "ytkaoajfdbjlioaadoor", sum := "a16a685f43de118972b2b86dbae61dcb5705a76d5f4c54d7af1db6473bc96beb", func := "cyanotype/cyanotypelaw08.DctNear", spec := "dctNear", unfollowed := true, recurses := true, named := ["cyanotype/dct.factors"], apart := false, laid := [("cyanotype/dct.factors", laid_cyanotype_dct_factors)] }
def DctNearSaid : Prop := dctNearRow.holds Tryd.pinned (OpenSpec.ofChange dctNearSpec)

/-- ITS FALSE NEIGHBOUR: 'it returns false'. Refute it at one input. -/
def dctNearWrong : ChangeSpec := { name := "dctNear", fn := fun _ => fun
  | [d1, d2] => { results := [.lit (.bool false)], args := [d1, d2] }
  | _ => none }
def DctNearWrongFalsely : Prop := dctNearRow.holds Tryd.pinned (OpenSpec.ofChange dctNearWrong)

/-- 'cyanotypelaw08.DctTurned': WHATEVER THE INPUT: true; the input reads as it did. -/
def dctTurnedSpec : ChangeSpec := { name := "dctTurned", fn := fun _ => fun
  | [d1, d2] => { results := [.lit (.bool true)], args := [d1, d2] }
  | _ => none }
def dctTurnedRow : OpenClaim := { program := "ytkaoajfdbjlioaadoor", sum := "a16a685f43de118972b2b86dbae61dcb5705a76d5f4c54d7af1db6473bc96beb", func := "cyanotype/cyanotypelaw08.DctTurned", spec := "dctTurned", unfollowed := true, recurses := true, named := ["cyanotype/dct.factors"], apart := false, laid := [("cyanotype/dct.factors", laid_cyanotype_dct_factors)] }
def DctTurnedSaid : Prop := dctTurnedRow.holds Tryd.pinned (OpenSpec.ofChange dctTurnedSpec)

/-- ITS FALSE NEIGHBOUR: 'it returns false'. Refute it at one input. -/
def dctTurnedWrong : ChangeSpec := { name := "dctTurned", fn := fun _ => fun
  | [d1, d2] => { results := [.lit (.bool false)], args := [d1, d2] }
  | _ => none }
def DctTurnedWrongFalsely : Prop := dctTurnedRow.holds Tryd.pinned (OpenSpec.ofChange dctTurnedWrong)

/-- 'cyanotypelaw08.DctSum': WHATEVER THE INPUT: true; the input reads as it did. -/
def dctSumSpec : ChangeSpec := { name := "dctSum", fn := fun _ => fun
  | [d1, d2, d3] => { results := [.lit (.bool true)], args := [d1, d2, d3] }
  | _ => none }
def dctSumRow : OpenClaim := { program := "ytkaoajfdbjlioaadoor", sum := "a16a685f43de118972b2b86dbae61dcb5705a76d5f4c54d7af1db6473bc96beb", func := "cyanotype/cyanotypelaw08.DctSum", spec := "dctSum", unfollowed := true, recurses := true, named := ["cyanotype/dct.factors"], apart := false, laid := [("cyanotype/dct.factors", laid_cyanotype_dct_factors)] }
def DctSumSaid : Prop := dctSumRow.holds Tryd.pinned (OpenSpec.ofChange dctSumSpec)

/-- ITS FALSE NEIGHBOUR: 'it returns false'. Refute it at one input. -/
def dctSumWrong : ChangeSpec := { name := "dctSum", fn := fun _ => fun
  | [d1, d2, d3] => { results := [.lit (.bool false)], args := [d1, d2, d3] }
  | _ => none }
def DctSumWrongFalsely : Prop := dctSumRow.holds Tryd.pinned (OpenSpec.ofChange dctSumWrong)

/-- 'cyanotypelaw08.DctEmpty': WHATEVER THE INPUT: true; the input reads as it did. -/
def dctEmptySpec : ChangeSpec := { name := "dctEmpty", fn := fun _ => fun
  | [d1, d2] => { results := [.lit (.bool true)], args := [d1, d2] }
  | _ => none }
def dctEmptyRow : OpenClaim := { program := "ytkaoajfdbjlioaadoor", sum := "a16a685f43de118972b2b86dbae61dcb5705a76d5f4c54d7af1db6473bc96beb", func := "cyanotype/cyanotypelaw08.DctEmpty", spec := "dctEmpty", unfollowed := true, recurses := true, named := ["cyanotype/dct.factors"], apart := false, laid := [("cyanotype/dct.factors", laid_cyanotype_dct_factors)] }
def DctEmptySaid : Prop := dctEmptyRow.holds Tryd.pinned (OpenSpec.ofChange dctEmptySpec)

/-- ITS FALSE NEIGHBOUR: 'it returns false'. Refute it at one input. -/
def dctEmptyWrong : ChangeSpec := { name := "dctEmpty", fn := fun _ => fun
  | [d1, d2] => { results := [.lit (.bool false)], args := [d1, d2] }
  | _ => none }
def DctEmptyWrongFalsely : Prop := dctEmptyRow.holds Tryd.pinned (OpenSpec.ofChange dctEmptyWrong)

/-- 'cyanotypelaw09.QuantNear': WHATEVER THE INPUT: true; the input reads as it did. -/
def quantNearSpec : ChangeSpec := { name := "quantNear", fn := fun _ => fun
  | [d1, d2, d3] => { results := [.lit (.bool true)], args := [d1, d2, d3] }
  | _ => none }
def quantNearRow : OpenClaim := { program := "ytkaoajfdbjlioaadoor", sum := "a16a685f43de118972b2b86dbae61dcb5705a76d5f4c54d7af1db6473bc96beb", func := "cyanotype/cyanotypelaw09.QuantNear", spec := "quantNear", recurses := true, named := ["cyanotype/quant.zigzag", "cyanotype/quant.bases"], apart := false, laid := [("cyanotype/quant.zigzag", laid_cyanotype_quant_zigzag), ("cyanotype/quant.bases", laid_cyanotype_quant_bases)] }
def QuantNearSaid : Prop := quantNearRow.holds Tryd.pinned (OpenSpec.ofChange quantNearSpec)

/-- ITS FALSE NEIGHBOUR: 'it returns false'. Refute it at one input. -/
def quantNearWrong : ChangeSpec := { name := "quantNear", fn := fun _ => fun
  | [d1, d2, d3] => { results := [.lit (.bool false)], args := [d1, d2, d3] }
  | _ => none }
def QuantNearWrongFalsely : Prop := quantNearRow.holds Tryd.pinned (OpenSpec.ofChange quantNearWrong)

/-- 'cyanotypelaw09.QuantEnds': WHATEVER THE INPUT: true; the input reads as it did. -/
def quantEndsSpec : ChangeSpec := { name := "quantEnds", fn := fun _ => fun
  | [d1, d2] => { results := [.lit (.bool true)], args := [d1, d2] }
  | _ => none }
def quantEndsRow : OpenClaim := { program := "ytkaoajfdbjlioaadoor", sum := "a16a685f43de118972b2b86dbae61dcb5705a76d5f4c54d7af1db6473bc96beb", func := "cyanotype/cyanotypelaw09.QuantEnds", spec := "quantEnds", named := ["cyanotype/quant.zigzag", "cyanotype/quant.bases"], apart := false, laid := [("cyanotype/quant.zigzag", laid_cyanotype_quant_zigzag), ("cyanotype/quant.bases", laid_cyanotype_quant_bases)] }
def QuantEndsSaid : Prop := quantEndsRow.holds Tryd.pinned (OpenSpec.ofChange quantEndsSpec)

/-- ITS FALSE NEIGHBOUR: 'it returns false'. Refute it at one input. -/
def quantEndsWrong : ChangeSpec := { name := "quantEnds", fn := fun _ => fun
  | [d1, d2] => { results := [.lit (.bool false)], args := [d1, d2] }
  | _ => none }
def QuantEndsWrongFalsely : Prop := quantEndsRow.holds Tryd.pinned (OpenSpec.ofChange quantEndsWrong)

/-- 'cyanotypelaw09.QuantTells': WHATEVER THE INPUT: true; the input reads as it did. -/
def quantTellsSpec : ChangeSpec := { name := "quantTells", fn := fun _ => fun
  | [d1, d2] => { results := [.lit (.bool true)], args := [d1, d2] }
  | _ => none }
def quantTellsRow : OpenClaim := { program := "ytkaoajfdbjlioaadoor", sum := "a16a685f43de118972b2b86dbae61dcb5705a76d5f4c54d7af1db6473bc96beb", func := "cyanotype/cyanotypelaw09.QuantTells", spec := "quantTells", named := ["cyanotype/quant.bases", "cyanotype/quant.zigzag"], apart := false, laid := [("cyanotype/quant.zigzag", laid_cyanotype_quant_zigzag), ("cyanotype/quant.bases", laid_cyanotype_quant_bases)] }
def QuantTellsSaid : Prop := quantTellsRow.holds Tryd.pinned (OpenSpec.ofChange quantTellsSpec)

/-- ITS FALSE NEIGHBOUR: 'it returns false'. Refute it at one input. -/
def quantTellsWrong : ChangeSpec := { name := "quantTells", fn := fun _ => fun
  | [d1, d2] => { results := [.lit (.bool false)], args := [d1, d2] }
  | _ => none }
def QuantTellsWrongFalsely : Prop := quantTellsRow.holds Tryd.pinned (OpenSpec.ofChange quantTellsWrong)

/-- 'cyanotypelaw08.DctSecrets': WHATEVER THE INPUT: true; the input reads as it did. -/
def dctSecretsSpec : ChangeSpec := { name := "dctSecrets", fn := fun _ => fun
  | [d1, d2, d3] => { results := [.lit (.bool true)], args := [d1, d2, d3] }
  | _ => none }
def dctSecretsRow : OpenClaim := { program := "ytkaoajfdbjlioaadoor", sum := "a16a685f43de118972b2b86dbae61dcb5705a76d5f4c54d7af1db6473bc96beb", func := "cyanotype/cyanotypelaw08.DctSecrets", spec := "dctSecrets", unfollowed := true, recurses := true, named := ["cyanotype/dct.factors"], apart := false, laid := [("cyanotype/dct.factors", laid_cyanotype_dct_factors)] }
def DctSecretsSaid : Prop := dctSecretsRow.holds Tryd.pinned (OpenSpec.ofChange dctSecretsSpec)

/-- ITS FALSE NEIGHBOUR: 'it returns false'. Refute it at one input. -/
def dctSecretsWrong : ChangeSpec := { name := "dctSecrets", fn := fun _ => fun
  | [d1, d2, d3] => { results := [.lit (.bool false)], args := [d1, d2, d3] }
  | _ => none }
def DctSecretsWrongFalsely : Prop := dctSecretsRow.holds Tryd.pinned (OpenSpec.ofChange dctSecretsWrong)

/-- 'cyanotypelaw09.QuantSteps': WHATEVER THE INPUT: true; the input reads as it did. -/
def quantStepsSpec : ChangeSpec := { name := "quantSteps", fn := fun _ => fun
  | [d1, d2, d3, d4] => { results := [.lit (.bool true)], args := [d1, d2, d3, d4] }
  | _ => none }
def quantStepsRow : OpenClaim := { program := "ytkaoajfdbjlioaadoor", sum := "a16a685f43de118972b2b86dbae61dcb5705a76d5f4c54d7af1db6473bc96beb", func := "cyanotype/cyanotypelaw09.QuantSteps", spec := "quantSteps", unfollowed := true, recurses := true, named := ["cyanotype/quant.zigzag", "cyanotype/quant.bases"], apart := false, laid := [("cyanotype/quant.zigzag", laid_cyanotype_quant_zigzag), ("cyanotype/quant.bases", laid_cyanotype_quant_bases)] }
def QuantStepsSaid : Prop := quantStepsRow.holds Tryd.pinned (OpenSpec.ofChange quantStepsSpec)

/-- ITS FALSE NEIGHBOUR: 'it returns false'. Refute it at one input. -/
def quantStepsWrong : ChangeSpec := { name := "quantSteps", fn := fun _ => fun
  | [d1, d2, d3, d4] => { results := [.lit (.bool false)], args := [d1, d2, d3, d4] }
  | _ => none }
def QuantStepsWrongFalsely : Prop := quantStepsRow.holds Tryd.pinned (OpenSpec.ofChange quantStepsWrong)

/- THE SECOND FORM. 'bulk': how many values and letters a reading holds, each counted each time it is reached (what is shared counts as often as it is met; a slice's spare places count too). A statement '..UptoSaid' is the law's where the arguments, and the package variables that the reading takes, are together of bulk at most 1048576: NARROWER than '..Said'. Prove '..Said' where nothing that the law and all that it calls make is longer than what came in: it says more and counts as full. Else prove '..UptoSaid'. A law counts once. -/
mutual
def uptoBulk {H : Type} : DataW H → Nat
  | .lit (.string bytes) => bytes.length + 1
  | .lit _ => 1
  | .nil => 1
  | .ptr d => uptoBulk d + 1
  | .slice elems spare => uptoBulkAll elems + uptoBulkAll spare + 1
  | .agg parts => uptoBulkAll parts + 1
  | .iface _ d => uptoBulk d + 1
  | .map entries => uptoBulkEntries entries + 1
  | .held _ => 1
def uptoBulkAll {H : Type} : List (DataW H) → Nat
  | [] => 0
  | d :: r => uptoBulk d + uptoBulkAll r
def uptoBulkEntries {H : Type} : List (Lit × DataW H) → Nat
  | [] => 0
  | x :: r => uptoBulkEntry x + uptoBulkEntries r
def uptoBulkEntry {H : Type} : Lit × DataW H → Nat
  | (.string bytes, d) => bytes.length + uptoBulk d + 1
  | (_, d) => uptoBulk d + 1
 end
def uptoSmall : (H : Type) → List (DataW H) → Bool := fun _ ds => decide (uptoBulkAll ds ≤ 1048576)
def OpenSpec.upto (s : _root_.Go.ChangeSpec) : _root_.Go.OpenSpec := { _root_.Go.OpenSpec.ofChange s with cond := some uptoSmall }

/-- 'cyanotypelaw08.DctTurns', WHERE WHAT IT READS IS OF BULK AT MOST 1048576: true; the input reads as it did. -/
def dctTurnsUptoRow : OpenClaim := { program := "ytkaoajfdbjlioaadoor", sum := "a16a685f43de118972b2b86dbae61dcb5705a76d5f4c54d7af1db6473bc96beb", func := "cyanotype/cyanotypelaw08.DctTurns", spec := "dctTurns", unfollowed := true, recurses := true, named := ["cyanotype/dct.factors"], apart := false, laid := [("cyanotype/dct.factors", laid_cyanotype_dct_factors)], narrowed := true }
def DctTurnsUptoSaid : Prop := dctTurnsUptoRow.holds Tryd.pinned (OpenSpec.upto dctTurnsSpec)

/-- 'cyanotypelaw08.DctFactors', WHERE WHAT IT READS IS OF BULK AT MOST 1048576: true; the input reads as it did. -/
def dctFactorsUptoRow : OpenClaim := { program := "ytkaoajfdbjlioaadoor", sum := "a16a685f43de118972b2b86dbae61dcb5705a76d5f4c54d7af1db6473bc96beb", func := "cyanotype/cyanotypelaw08.DctFactors", spec := "dctFactors", unfollowed := true, recurses := true, named := ["cyanotype/dct.factors"], apart := false, laid := [("cyanotype/dct.factors", laid_cyanotype_dct_factors)], narrowed := true }
def DctFactorsUptoSaid : Prop := dctFactorsUptoRow.holds Tryd.pinned (OpenSpec.upto dctFactorsSpec)

/-- 'cyanotypelaw08.DctNear', WHERE WHAT IT READS IS OF BULK AT MOST 1048576: true; the input reads as it did. -/
def dctNearUptoRow : OpenClaim := { program := "ytkaoajfdbjlioaadoor", sum := "a16a685f43de118972b2b86dbae61dcb5705a76d5f4c54d7af1db6473bc96beb", func := "cyanotype/cyanotypelaw08.DctNear", spec := "dctNear", unfollowed := true, recurses := true, named := ["cyanotype/dct.factors"], apart := false, laid := [("cyanotype/dct.factors", laid_cyanotype_dct_factors)], narrowed := true }
def DctNearUptoSaid : Prop := dctNearUptoRow.holds Tryd.pinned (OpenSpec.upto dctNearSpec)

/-- 'cyanotypelaw08.DctTurned', WHERE WHAT IT READS IS OF BULK AT MOST 1048576: true; the input reads as it did. -/
def dctTurnedUptoRow : OpenClaim := { program := "ytkaoajfdbjlioaadoor", sum := "a16a685f43de118972b2b86dbae61dcb5705a76d5f4c54d7af1db6473bc96beb", func := "cyanotype/cyanotypelaw08.DctTurned", spec := "dctTurned", unfollowed := true, recurses := true, named := ["cyanotype/dct.factors"], apart := false, laid := [("cyanotype/dct.factors", laid_cyanotype_dct_factors)], narrowed := true }
def DctTurnedUptoSaid : Prop := dctTurnedUptoRow.holds Tryd.pinned (OpenSpec.upto dctTurnedSpec)

/-- 'cyanotypelaw08.DctSum', WHERE WHAT IT READS IS OF BULK AT MOST 1048576: true; the input reads as it did. -/
def dctSumUptoRow : OpenClaim := { program := "ytkaoajfdbjlioaadoor", sum := "a16a685f43de118972b2b86dbae61dcb5705a76d5f4c54d7af1db6473bc96beb", func := "cyanotype/cyanotypelaw08.DctSum", spec := "dctSum", unfollowed := true, recurses := true, named := ["cyanotype/dct.factors"], apart := false, laid := [("cyanotype/dct.factors", laid_cyanotype_dct_factors)], narrowed := true }
def DctSumUptoSaid : Prop := dctSumUptoRow.holds Tryd.pinned (OpenSpec.upto dctSumSpec)

/-- 'cyanotypelaw08.DctEmpty', WHERE WHAT IT READS IS OF BULK AT MOST 1048576: true; the input reads as it did. -/
def dctEmptyUptoRow : OpenClaim := { program := "ytkaoajfdbjlioaadoor", sum := "a16a685f43de118972b2b86dbae61dcb5705a76d5f4c54d7af1db6473bc96beb", func := "cyanotype/cyanotypelaw08.DctEmpty", spec := "dctEmpty", unfollowed := true, recurses := true, named := ["cyanotype/dct.factors"], apart := false, laid := [("cyanotype/dct.factors", laid_cyanotype_dct_factors)], narrowed := true }
def DctEmptyUptoSaid : Prop := dctEmptyUptoRow.holds Tryd.pinned (OpenSpec.upto dctEmptySpec)

/-- 'cyanotypelaw09.QuantNear', WHERE WHAT IT READS IS OF BULK AT MOST 1048576: true; the input reads as it did. -/
def quantNearUptoRow : OpenClaim := { program := "ytkaoajfdbjlioaadoor", sum := "a16a685f43de118972b2b86dbae61dcb5705a76d5f4c54d7af1db6473bc96beb", func := "cyanotype/cyanotypelaw09.QuantNear", spec := "quantNear", recurses := true, named := ["cyanotype/quant.zigzag", "cyanotype/quant.bases"], apart := false, laid := [("cyanotype/quant.zigzag", laid_cyanotype_quant_zigzag), ("cyanotype/quant.bases", laid_cyanotype_quant_bases)], narrowed := true }
def QuantNearUptoSaid : Prop := quantNearUptoRow.holds Tryd.pinned (OpenSpec.upto quantNearSpec)

/-- 'cyanotypelaw09.QuantEnds', WHERE WHAT IT READS IS OF BULK AT MOST 1048576: true; the input reads as it did. -/
def quantEndsUptoRow : OpenClaim := { program := "ytkaoajfdbjlioaadoor", sum := "a16a685f43de118972b2b86dbae61dcb5705a76d5f4c54d7af1db6473bc96beb", func := "cyanotype/cyanotypelaw09.QuantEnds", spec := "quantEnds", named := ["cyanotype/quant.zigzag", "cyanotype/quant.bases"], apart := false, laid := [("cyanotype/quant.zigzag", laid_cyanotype_quant_zigzag), ("cyanotype/quant.bases", laid_cyanotype_quant_bases)], narrowed := true }
def QuantEndsUptoSaid : Prop := quantEndsUptoRow.holds Tryd.pinned (OpenSpec.upto quantEndsSpec)

/-- 'cyanotypelaw09.QuantTells', WHERE WHAT IT READS IS OF BULK AT MOST 1048576: true; the input reads as it did. -/
def quantTellsUptoRow : OpenClaim := { program := "ytkaoajfdbjlioaadoor", sum := "a16a685f43de118972b2b86dbae61dcb5705a76d5f4c54d7af1db6473bc96beb", func := "cyanotype/cyanotypelaw09.QuantTells", spec := "quantTells", named := ["cyanotype/quant.bases", "cyanotype/quant.zigzag"], apart := false, laid := [("cyanotype/quant.zigzag", laid_cyanotype_quant_zigzag), ("cyanotype/quant.bases", laid_cyanotype_quant_bases)], narrowed := true }
def QuantTellsUptoSaid : Prop := quantTellsUptoRow.holds Tryd.pinned (OpenSpec.upto quantTellsSpec)

/-- 'cyanotypelaw08.DctSecrets', WHERE WHAT IT READS IS OF BULK AT MOST 1048576: true; the input reads as it did. -/
def dctSecretsUptoRow : OpenClaim := { program := "ytkaoajfdbjlioaadoor", sum := "a16a685f43de118972b2b86dbae61dcb5705a76d5f4c54d7af1db6473bc96beb", func := "cyanotype/cyanotypelaw08.DctSecrets", spec := "dctSecrets", unfollowed := true, recurses := true, named := ["cyanotype/dct.factors"], apart := false, laid := [("cyanotype/dct.factors", laid_cyanotype_dct_factors)], narrowed := true }
def DctSecretsUptoSaid : Prop := dctSecretsUptoRow.holds Tryd.pinned (OpenSpec.upto dctSecretsSpec)

/-- 'cyanotypelaw09.QuantSteps', WHERE WHAT IT READS IS OF BULK AT MOST 1048576: true; the input reads as it did. -/
def quantStepsUptoRow : OpenClaim := { program := "ytkaoajfdbjlioaadoor", sum := "a16a685f43de118972b2b86dbae61dcb5705a76d5f4c54d7af1db6473bc96beb", func := "cyanotype/cyanotypelaw09.QuantSteps", spec := "quantSteps", unfollowed := true, recurses := true, named := ["cyanotype/quant.zigzag", "cyanotype/quant.bases"], apart := false, laid := [("cyanotype/quant.zigzag", laid_cyanotype_quant_zigzag), ("cyanotype/quant.bases", laid_cyanotype_quant_bases)], narrowed := true }
def QuantStepsUptoSaid : Prop := quantStepsUptoRow.holds Tryd.pinned (OpenSpec.upto quantStepsSpec)

end Rows
end Go.Proofs.YtkaoajfdbjlioaaDoor
