/-
  DERIVED. GIVEN WITH THE SEED: THE CARDS: each row of YtkaoajfdbjlioaaDoorRows.lean that lists a variable, with what it lists TIED to the program's text (the seventh form; the later family's looks); each row that meets fmt, with fmt's text TOLD by the authors' own Lean function (tested against real Go, not proved from fmt's source: count such statements apart). THE CARD IS WHAT COUNTS. Prove the row's statement (the work); the ties are given (YtkaoajfdbjlioaaDoorTie.lean); close each card by the builder's one call (the guide's Derived/Test/ToyasCard.lean, 'card_holds'). Laid BY PROGRAM, IN A SANDBOX (cutbox-door.mjs). By AI agents, Wed Nov 11 2026. No macro, syntax, notation, axiom, sorry.
-/
import Derived.Test.YtkaoajfdbjlioaaDoorRows
import GoSem.ClaimSeven
namespace Go.Proofs.YtkaoajfdbjlioaaDoor
namespace Rows

/-- THE TIED CARD OF 'cyanotypelaw08.DctTurns'. -/
def dctTurnsCard : Claim7 := { stood := { row := dctTurnsRow, standIns := [], harness := (true, "a4c59ae70166e1e09063860127aae865041393e30532a517b2ccdb7b122da460"), looks := false }, kinds := [], alts := [], laidByText := true, laidKinds := [.data], laidTests := true, laidLooks := .later }
def DctTurnsCardSaid : Prop := Claim7.holds Tryd.pinned (.plain (OpenSpec.ofChange dctTurnsSpec)) dctTurnsCard

/-- THE TIED CARD OF 'cyanotypelaw08.DctFactors'. -/
def dctFactorsCard : Claim7 := { stood := { row := dctFactorsRow, standIns := [], harness := (true, "a4c59ae70166e1e09063860127aae865041393e30532a517b2ccdb7b122da460"), looks := false }, kinds := [], alts := [], laidByText := true, laidKinds := [.data], laidTests := true, laidLooks := .later }
def DctFactorsCardSaid : Prop := Claim7.holds Tryd.pinned (.plain (OpenSpec.ofChange dctFactorsSpec)) dctFactorsCard

/-- THE TIED CARD OF 'cyanotypelaw08.DctNear'. -/
def dctNearCard : Claim7 := { stood := { row := dctNearRow, standIns := [], harness := (true, "a4c59ae70166e1e09063860127aae865041393e30532a517b2ccdb7b122da460"), looks := false }, kinds := [], alts := [], laidByText := true, laidKinds := [.data], laidTests := true, laidLooks := .later }
def DctNearCardSaid : Prop := Claim7.holds Tryd.pinned (.plain (OpenSpec.ofChange dctNearSpec)) dctNearCard

/-- THE TIED CARD OF 'cyanotypelaw08.DctTurned'. -/
def dctTurnedCard : Claim7 := { stood := { row := dctTurnedRow, standIns := [], harness := (true, "a4c59ae70166e1e09063860127aae865041393e30532a517b2ccdb7b122da460"), looks := false }, kinds := [], alts := [], laidByText := true, laidKinds := [.data], laidTests := true, laidLooks := .later }
def DctTurnedCardSaid : Prop := Claim7.holds Tryd.pinned (.plain (OpenSpec.ofChange dctTurnedSpec)) dctTurnedCard

/-- THE TIED CARD OF 'cyanotypelaw08.DctSum'. -/
def dctSumCard : Claim7 := { stood := { row := dctSumRow, standIns := [], harness := (true, "a4c59ae70166e1e09063860127aae865041393e30532a517b2ccdb7b122da460"), looks := false }, kinds := [], alts := [], laidByText := true, laidKinds := [.data], laidTests := true, laidLooks := .later }
def DctSumCardSaid : Prop := Claim7.holds Tryd.pinned (.plain (OpenSpec.ofChange dctSumSpec)) dctSumCard

/-- THE TIED CARD OF 'cyanotypelaw08.DctEmpty'. -/
def dctEmptyCard : Claim7 := { stood := { row := dctEmptyRow, standIns := [], harness := (true, "a4c59ae70166e1e09063860127aae865041393e30532a517b2ccdb7b122da460"), looks := false }, kinds := [], alts := [], laidByText := true, laidKinds := [.data], laidTests := true, laidLooks := .later }
def DctEmptyCardSaid : Prop := Claim7.holds Tryd.pinned (.plain (OpenSpec.ofChange dctEmptySpec)) dctEmptyCard

/-- THE TIED CARD OF 'cyanotypelaw09.QuantNear'. -/
def quantNearCard : Claim7 := { stood := { row := quantNearRow, standIns := [], harness := (true, "a4c59ae70166e1e09063860127aae865041393e30532a517b2ccdb7b122da460"), looks := false }, kinds := [], alts := [], laidByText := true, laidKinds := [.data, .data], laidTests := true, laidLooks := .later }
def QuantNearCardSaid : Prop := Claim7.holds Tryd.pinned (.plain (OpenSpec.ofChange quantNearSpec)) quantNearCard

/-- THE TIED CARD OF 'cyanotypelaw09.QuantEnds'. -/
def quantEndsCard : Claim7 := { stood := { row := quantEndsRow, standIns := [], harness := (true, "a4c59ae70166e1e09063860127aae865041393e30532a517b2ccdb7b122da460"), looks := false }, kinds := [], alts := [], laidByText := true, laidKinds := [.data, .data], laidTests := true, laidLooks := .later }
def QuantEndsCardSaid : Prop := Claim7.holds Tryd.pinned (.plain (OpenSpec.ofChange quantEndsSpec)) quantEndsCard

/-- THE TIED CARD OF 'cyanotypelaw09.QuantTells'. -/
def quantTellsCard : Claim7 := { stood := { row := quantTellsRow, standIns := [], harness := (true, "a4c59ae70166e1e09063860127aae865041393e30532a517b2ccdb7b122da460"), looks := false }, kinds := [], alts := [], laidByText := true, laidKinds := [.data, .data], laidTests := true, laidLooks := .later }
def QuantTellsCardSaid : Prop := Claim7.holds Tryd.pinned (.plain (OpenSpec.ofChange quantTellsSpec)) quantTellsCard

/-- THE TIED CARD OF 'cyanotypelaw08.DctSecrets'. -/
def dctSecretsCard : Claim7 := { stood := { row := dctSecretsRow, standIns := [], harness := (true, "a4c59ae70166e1e09063860127aae865041393e30532a517b2ccdb7b122da460"), looks := false }, kinds := [], alts := [], laidByText := true, laidKinds := [.data], laidTests := true, laidLooks := .later }
def DctSecretsCardSaid : Prop := Claim7.holds Tryd.pinned (.plain (OpenSpec.ofChange dctSecretsSpec)) dctSecretsCard

/-- THE TIED CARD OF 'cyanotypelaw09.QuantSteps'. -/
def quantStepsCard : Claim7 := { stood := { row := quantStepsRow, standIns := [], harness := (true, "a4c59ae70166e1e09063860127aae865041393e30532a517b2ccdb7b122da460"), looks := false }, kinds := [], alts := [], laidByText := true, laidKinds := [.data, .data], laidTests := true, laidLooks := .later }
def QuantStepsCardSaid : Prop := Claim7.holds Tryd.pinned (.plain (OpenSpec.ofChange quantStepsSpec)) quantStepsCard

/-- THE SECOND FORM's CARD OF 'cyanotypelaw08.DctTurns'. -/
def dctTurnsUptoCard : Claim7 := { stood := { row := dctTurnsUptoRow, standIns := [], harness := (true, "a4c59ae70166e1e09063860127aae865041393e30532a517b2ccdb7b122da460"), looks := false }, kinds := [], alts := [], laidByText := true, laidKinds := [.data], laidTests := true, laidLooks := .later }
def DctTurnsUptoCardSaid : Prop := Claim7.holds Tryd.pinned (.plain (OpenSpec.upto dctTurnsSpec)) dctTurnsUptoCard

/-- THE SECOND FORM's CARD OF 'cyanotypelaw08.DctFactors'. -/
def dctFactorsUptoCard : Claim7 := { stood := { row := dctFactorsUptoRow, standIns := [], harness := (true, "a4c59ae70166e1e09063860127aae865041393e30532a517b2ccdb7b122da460"), looks := false }, kinds := [], alts := [], laidByText := true, laidKinds := [.data], laidTests := true, laidLooks := .later }
def DctFactorsUptoCardSaid : Prop := Claim7.holds Tryd.pinned (.plain (OpenSpec.upto dctFactorsSpec)) dctFactorsUptoCard

/-- THE SECOND FORM's CARD OF 'cyanotypelaw08.DctNear'. -/
def dctNearUptoCard : Claim7 := { stood := { row := dctNearUptoRow, standIns := [], harness := (true, "a4c59ae70166e1e09063860127aae865041393e30532a517b2ccdb7b122da460"), looks := false }, kinds := [], alts := [], laidByText := true, laidKinds := [.data], laidTests := true, laidLooks := .later }
def DctNearUptoCardSaid : Prop := Claim7.holds Tryd.pinned (.plain (OpenSpec.upto dctNearSpec)) dctNearUptoCard

/-- THE SECOND FORM's CARD OF 'cyanotypelaw08.DctTurned'. -/
def dctTurnedUptoCard : Claim7 := { stood := { row := dctTurnedUptoRow, standIns := [], harness := (true, "a4c59ae70166e1e09063860127aae865041393e30532a517b2ccdb7b122da460"), looks := false }, kinds := [], alts := [], laidByText := true, laidKinds := [.data], laidTests := true, laidLooks := .later }
def DctTurnedUptoCardSaid : Prop := Claim7.holds Tryd.pinned (.plain (OpenSpec.upto dctTurnedSpec)) dctTurnedUptoCard

/-- THE SECOND FORM's CARD OF 'cyanotypelaw08.DctSum'. -/
def dctSumUptoCard : Claim7 := { stood := { row := dctSumUptoRow, standIns := [], harness := (true, "a4c59ae70166e1e09063860127aae865041393e30532a517b2ccdb7b122da460"), looks := false }, kinds := [], alts := [], laidByText := true, laidKinds := [.data], laidTests := true, laidLooks := .later }
def DctSumUptoCardSaid : Prop := Claim7.holds Tryd.pinned (.plain (OpenSpec.upto dctSumSpec)) dctSumUptoCard

/-- THE SECOND FORM's CARD OF 'cyanotypelaw08.DctEmpty'. -/
def dctEmptyUptoCard : Claim7 := { stood := { row := dctEmptyUptoRow, standIns := [], harness := (true, "a4c59ae70166e1e09063860127aae865041393e30532a517b2ccdb7b122da460"), looks := false }, kinds := [], alts := [], laidByText := true, laidKinds := [.data], laidTests := true, laidLooks := .later }
def DctEmptyUptoCardSaid : Prop := Claim7.holds Tryd.pinned (.plain (OpenSpec.upto dctEmptySpec)) dctEmptyUptoCard

/-- THE SECOND FORM's CARD OF 'cyanotypelaw09.QuantNear'. -/
def quantNearUptoCard : Claim7 := { stood := { row := quantNearUptoRow, standIns := [], harness := (true, "a4c59ae70166e1e09063860127aae865041393e30532a517b2ccdb7b122da460"), looks := false }, kinds := [], alts := [], laidByText := true, laidKinds := [.data, .data], laidTests := true, laidLooks := .later }
def QuantNearUptoCardSaid : Prop := Claim7.holds Tryd.pinned (.plain (OpenSpec.upto quantNearSpec)) quantNearUptoCard

/-- THE SECOND FORM's CARD OF 'cyanotypelaw09.QuantEnds'. -/
def quantEndsUptoCard : Claim7 := { stood := { row := quantEndsUptoRow, standIns := [], harness := (true, "a4c59ae70166e1e09063860127aae865041393e30532a517b2ccdb7b122da460"), looks := false }, kinds := [], alts := [], laidByText := true, laidKinds := [.data, .data], laidTests := true, laidLooks := .later }
def QuantEndsUptoCardSaid : Prop := Claim7.holds Tryd.pinned (.plain (OpenSpec.upto quantEndsSpec)) quantEndsUptoCard

/-- THE SECOND FORM's CARD OF 'cyanotypelaw09.QuantTells'. -/
def quantTellsUptoCard : Claim7 := { stood := { row := quantTellsUptoRow, standIns := [], harness := (true, "a4c59ae70166e1e09063860127aae865041393e30532a517b2ccdb7b122da460"), looks := false }, kinds := [], alts := [], laidByText := true, laidKinds := [.data, .data], laidTests := true, laidLooks := .later }
def QuantTellsUptoCardSaid : Prop := Claim7.holds Tryd.pinned (.plain (OpenSpec.upto quantTellsSpec)) quantTellsUptoCard

/-- THE SECOND FORM's CARD OF 'cyanotypelaw08.DctSecrets'. -/
def dctSecretsUptoCard : Claim7 := { stood := { row := dctSecretsUptoRow, standIns := [], harness := (true, "a4c59ae70166e1e09063860127aae865041393e30532a517b2ccdb7b122da460"), looks := false }, kinds := [], alts := [], laidByText := true, laidKinds := [.data], laidTests := true, laidLooks := .later }
def DctSecretsUptoCardSaid : Prop := Claim7.holds Tryd.pinned (.plain (OpenSpec.upto dctSecretsSpec)) dctSecretsUptoCard

/-- THE SECOND FORM's CARD OF 'cyanotypelaw09.QuantSteps'. -/
def quantStepsUptoCard : Claim7 := { stood := { row := quantStepsUptoRow, standIns := [], harness := (true, "a4c59ae70166e1e09063860127aae865041393e30532a517b2ccdb7b122da460"), looks := false }, kinds := [], alts := [], laidByText := true, laidKinds := [.data, .data], laidTests := true, laidLooks := .later }
def QuantStepsUptoCardSaid : Prop := Claim7.holds Tryd.pinned (.plain (OpenSpec.upto quantStepsSpec)) quantStepsUptoCard
end Rows
end Go.Proofs.YtkaoajfdbjlioaaDoor
