/-
  DERIVED. GIVEN WITH THE SEED: THE CARDS: each row of YtgegmlhpdpdnfaaDoorRows.lean that lists a variable, with what it lists TIED to the program's text (the seventh form; the later family's looks); each row that meets fmt, with fmt's text TOLD by the authors' own Lean function (tested against real Go, not proved from fmt's source: count such statements apart). THE CARD IS WHAT COUNTS. Prove the row's statement (the work); the ties are given (YtgegmlhpdpdnfaaDoorTie.lean); close each card by the builder's one call (the guide's Derived/Test/ToyasCard.lean, 'card_holds'). Laid BY PROGRAM, IN A SANDBOX (cutbox-door.mjs). By AI agents, Wed Nov 11 2026. No macro, syntax, notation, axiom, sorry.
-/
import Derived.Test.YtgegmlhpdpdnfaaDoorRows
import GoSem.ClaimSeven
namespace Go.Proofs.YtgegmlhpdpdnfaaDoor
namespace Rows

/-- THE TIED CARD OF 'cyanotypelaw09.QuantTables'. -/
def quantTablesCard : Claim7 := { stood := { row := quantTablesRow, standIns := [], harness := (true, "84ac20d974f617f95369478999b027b577ce60a896bc1adf385da13712560caf"), looks := false }, kinds := [], alts := [], laidByText := true, laidKinds := [.data, .data], laidTests := true, laidLooks := .later }
def QuantTablesCardSaid : Prop := Claim7.holds Tryd.pinned (.plain (OpenSpec.ofChange quantTablesSpec)) quantTablesCard

/-- THE TIED CARD OF 'cyanotypelaw09.QuantOrder'. -/
def quantOrderCard : Claim7 := { stood := { row := quantOrderRow, standIns := [], harness := (true, "84ac20d974f617f95369478999b027b577ce60a896bc1adf385da13712560caf"), looks := false }, kinds := [], alts := [], laidByText := true, laidKinds := [.data, .data], laidTests := true, laidLooks := .later }
def QuantOrderCardSaid : Prop := Claim7.holds Tryd.pinned (.plain (OpenSpec.ofChange quantOrderSpec)) quantOrderCard

/-- THE SECOND FORM's CARD OF 'cyanotypelaw09.QuantTables'. -/
def quantTablesUptoCard : Claim7 := { stood := { row := quantTablesUptoRow, standIns := [], harness := (true, "84ac20d974f617f95369478999b027b577ce60a896bc1adf385da13712560caf"), looks := false }, kinds := [], alts := [], laidByText := true, laidKinds := [.data, .data], laidTests := true, laidLooks := .later }
def QuantTablesUptoCardSaid : Prop := Claim7.holds Tryd.pinned (.plain (OpenSpec.upto quantTablesSpec)) quantTablesUptoCard

/-- THE SECOND FORM's CARD OF 'cyanotypelaw09.QuantOrder'. -/
def quantOrderUptoCard : Claim7 := { stood := { row := quantOrderUptoRow, standIns := [], harness := (true, "84ac20d974f617f95369478999b027b577ce60a896bc1adf385da13712560caf"), looks := false }, kinds := [], alts := [], laidByText := true, laidKinds := [.data, .data], laidTests := true, laidLooks := .later }
def QuantOrderUptoCardSaid : Prop := Claim7.holds Tryd.pinned (.plain (OpenSpec.upto quantOrderSpec)) quantOrderUptoCard
end Rows
end Go.Proofs.YtgegmlhpdpdnfaaDoor
