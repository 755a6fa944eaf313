/-
  DERIVED. GIVEN WITH THE SEED: THE CARDS: each row of YtmfnholhhakgaaaGreatDoorRows.lean that lists a variable, with what it lists TIED to the program's text (the seventh form; the later family's looks); each row that meets fmt, with fmt's text TOLD by the authors' own Lean function (tested against real Go, not proved from fmt's source: count such statements apart). THE CARD IS WHAT COUNTS. Prove the row's statement (the work); the ties are given (YtmfnholhhakgaaaGreatDoorTie.lean); close each card by the builder's one call (the guide's Derived/Test/ToyasCard.lean, 'card_holds'). Laid BY PROGRAM, IN A SANDBOX (cutbox-door.mjs). By AI agents, Wed Nov 11 2026. No macro, syntax, notation, axiom, sorry.
-/
import Derived.Test.YtmfnholhhakgaaaGreatDoorRows
import GoSem.ClaimSeven
namespace Go.Proofs.YtmfnholhhakgaaaGreatDoor
namespace Rows

/-- THE TIED CARD OF 'manorboylaw14.CodeChecks'. -/
def codeChecksCard : Claim7 := { stood := { row := codeChecksRow, standIns := [], harness := (true, "d673cb4dd07a69f706e4edf21ea8380cfc757200d7857859e8aa70ca12f38cdc"), looks := true }, kinds := [], alts := [], laidByText := true, laidKinds := [.data, .data, .data, .data, .sentinel, .sentinel, .pinned], laidTests := true, laidLooks := .later }
def CodeChecksCardSaid : Prop := Claim7.holds Tryz.pinned (.plain (OpenSpec.ofChange codeChecksSpec)) codeChecksCard

/-- THE TIED CARD OF 'manorboylaw14.CodeJoins'. -/
def codeJoinsCard : Claim7 := { stood := { row := codeJoinsRow, standIns := [], harness := (true, "d673cb4dd07a69f706e4edf21ea8380cfc757200d7857859e8aa70ca12f38cdc"), looks := true }, kinds := [], alts := [], laidByText := true, laidKinds := [.data, .data, .data, .data, .sentinel, .sentinel, .pinned], laidTests := true, laidLooks := .later }
def CodeJoinsCardSaid : Prop := Claim7.holds Tryz.pinned (.plain (OpenSpec.ofChange codeJoinsSpec)) codeJoinsCard

/-- THE TIED CARD OF 'manorboylaw14.CodeStrings'. -/
def codeStringsCard : Claim7 := { stood := { row := codeStringsRow, standIns := [], harness := (true, "d673cb4dd07a69f706e4edf21ea8380cfc757200d7857859e8aa70ca12f38cdc"), looks := true }, kinds := [], alts := [], laidByText := true, laidKinds := [.data, .data, .data, .data, .sentinel, .sentinel, .pinned], laidTests := true, laidLooks := .later }
def CodeStringsCardSaid : Prop := Claim7.holds Tryz.pinned (.plain (OpenSpec.ofChange codeStringsSpec)) codeStringsCard

/-- THE TIED CARD OF 'manorboylaw14.CodeBack'. -/
def codeBackCard : Claim7 := { stood := { row := codeBackRow, standIns := [], harness := (true, "d673cb4dd07a69f706e4edf21ea8380cfc757200d7857859e8aa70ca12f38cdc"), looks := true }, kinds := [], alts := [], laidByText := true, laidKinds := [.data, .data, .data, .data, .sentinel, .sentinel, .pinned], laidTests := true, laidLooks := .later }
def CodeBackCardSaid : Prop := Claim7.holds Tryz.pinned (.plain (OpenSpec.ofChange codeBackSpec)) codeBackCard

/-- THE TIED CARD OF 'manorboylaw14.CodeChanges'. -/
def codeChangesCard : Claim7 := { stood := { row := codeChangesRow, standIns := [], harness := (true, "d673cb4dd07a69f706e4edf21ea8380cfc757200d7857859e8aa70ca12f38cdc"), looks := true }, kinds := [], alts := [], laidByText := true, laidKinds := [.data, .data, .data, .data, .sentinel, .sentinel, .pinned], laidTests := true, laidLooks := .later }
def CodeChangesCardSaid : Prop := Claim7.holds Tryz.pinned (.plain (OpenSpec.ofChange codeChangesSpec)) codeChangesCard

/-- THE TIED CARD OF 'manorboylaw14.CodeNames'. -/
def codeNamesCard : Claim7 := { stood := { row := codeNamesRow, standIns := [], harness := (true, "d673cb4dd07a69f706e4edf21ea8380cfc757200d7857859e8aa70ca12f38cdc"), looks := true }, kinds := [], alts := [], laidByText := true, laidKinds := [.data, .data, .data, .data, .sentinel, .sentinel, .pinned], laidTests := true, laidLooks := .later }
def CodeNamesCardSaid : Prop := Claim7.holds Tryz.pinned (.plain (OpenSpec.ofChange codeNamesSpec)) codeNamesCard

/-- THE TIED CARD OF 'manorboylaw14.CodeControl'. -/
def codeControlCard : Claim7 := { stood := { row := codeControlRow, standIns := [], harness := (true, "d673cb4dd07a69f706e4edf21ea8380cfc757200d7857859e8aa70ca12f38cdc"), looks := true }, kinds := [], alts := [], laidByText := true, laidKinds := [.data, .data, .data, .data, .sentinel, .sentinel, .pinned], laidTests := true, laidLooks := .later }
def CodeControlCardSaid : Prop := Claim7.holds Tryz.pinned (.plain (OpenSpec.ofChange codeControlSpec)) codeControlCard

/-- THE TIED CARD OF 'manorboylaw14.CodeParts'. -/
def codePartsCard : Claim7 := { stood := { row := codePartsRow, standIns := [], harness := (true, "d673cb4dd07a69f706e4edf21ea8380cfc757200d7857859e8aa70ca12f38cdc"), looks := true }, kinds := [], alts := [], laidByText := true, laidKinds := [.data, .data, .data, .data, .sentinel, .sentinel, .pinned], laidTests := true, laidLooks := .later }
def CodePartsCardSaid : Prop := Claim7.holds Tryz.pinned (.plain (OpenSpec.ofChange codePartsSpec)) codePartsCard

/-- THE TIED CARD OF 'manorboylaw14.CodeFlow'. -/
def codeFlowCard : Claim7 := { stood := { row := codeFlowRow, standIns := [], harness := (true, "d673cb4dd07a69f706e4edf21ea8380cfc757200d7857859e8aa70ca12f38cdc"), looks := true }, kinds := [], alts := [], laidByText := true, laidKinds := [.data, .data, .data, .data, .sentinel, .sentinel, .pinned], laidTests := true, laidLooks := .later }
def CodeFlowCardSaid : Prop := Claim7.holds Tryz.pinned (.plain (OpenSpec.ofChange codeFlowSpec)) codeFlowCard

/-- THE SECOND FORM's CARD OF 'manorboylaw14.CodeChecks'. -/
def codeChecksUptoCard : Claim7 := { stood := { row := codeChecksUptoRow, standIns := [], harness := (true, "d673cb4dd07a69f706e4edf21ea8380cfc757200d7857859e8aa70ca12f38cdc"), looks := true }, kinds := [], alts := [], laidByText := true, laidKinds := [.data, .data, .data, .data, .sentinel, .sentinel, .pinned], laidTests := true, laidLooks := .later }
def CodeChecksUptoCardSaid : Prop := Claim7.holds Tryz.pinned (.plain (OpenSpec.upto codeChecksSpec)) codeChecksUptoCard

/-- THE SECOND FORM's CARD OF 'manorboylaw14.CodeJoins'. -/
def codeJoinsUptoCard : Claim7 := { stood := { row := codeJoinsUptoRow, standIns := [], harness := (true, "d673cb4dd07a69f706e4edf21ea8380cfc757200d7857859e8aa70ca12f38cdc"), looks := true }, kinds := [], alts := [], laidByText := true, laidKinds := [.data, .data, .data, .data, .sentinel, .sentinel, .pinned], laidTests := true, laidLooks := .later }
def CodeJoinsUptoCardSaid : Prop := Claim7.holds Tryz.pinned (.plain (OpenSpec.upto codeJoinsSpec)) codeJoinsUptoCard

/-- THE SECOND FORM's CARD OF 'manorboylaw14.CodeStrings'. -/
def codeStringsUptoCard : Claim7 := { stood := { row := codeStringsUptoRow, standIns := [], harness := (true, "d673cb4dd07a69f706e4edf21ea8380cfc757200d7857859e8aa70ca12f38cdc"), looks := true }, kinds := [], alts := [], laidByText := true, laidKinds := [.data, .data, .data, .data, .sentinel, .sentinel, .pinned], laidTests := true, laidLooks := .later }
def CodeStringsUptoCardSaid : Prop := Claim7.holds Tryz.pinned (.plain (OpenSpec.upto codeStringsSpec)) codeStringsUptoCard

/-- THE SECOND FORM's CARD OF 'manorboylaw14.CodeBack'. -/
def codeBackUptoCard : Claim7 := { stood := { row := codeBackUptoRow, standIns := [], harness := (true, "d673cb4dd07a69f706e4edf21ea8380cfc757200d7857859e8aa70ca12f38cdc"), looks := true }, kinds := [], alts := [], laidByText := true, laidKinds := [.data, .data, .data, .data, .sentinel, .sentinel, .pinned], laidTests := true, laidLooks := .later }
def CodeBackUptoCardSaid : Prop := Claim7.holds Tryz.pinned (.plain (OpenSpec.upto codeBackSpec)) codeBackUptoCard

/-- THE SECOND FORM's CARD OF 'manorboylaw14.CodeChanges'. -/
def codeChangesUptoCard : Claim7 := { stood := { row := codeChangesUptoRow, standIns := [], harness := (true, "d673cb4dd07a69f706e4edf21ea8380cfc757200d7857859e8aa70ca12f38cdc"), looks := true }, kinds := [], alts := [], laidByText := true, laidKinds := [.data, .data, .data, .data, .sentinel, .sentinel, .pinned], laidTests := true, laidLooks := .later }
def CodeChangesUptoCardSaid : Prop := Claim7.holds Tryz.pinned (.plain (OpenSpec.upto codeChangesSpec)) codeChangesUptoCard

/-- THE SECOND FORM's CARD OF 'manorboylaw14.CodeNames'. -/
def codeNamesUptoCard : Claim7 := { stood := { row := codeNamesUptoRow, standIns := [], harness := (true, "d673cb4dd07a69f706e4edf21ea8380cfc757200d7857859e8aa70ca12f38cdc"), looks := true }, kinds := [], alts := [], laidByText := true, laidKinds := [.data, .data, .data, .data, .sentinel, .sentinel, .pinned], laidTests := true, laidLooks := .later }
def CodeNamesUptoCardSaid : Prop := Claim7.holds Tryz.pinned (.plain (OpenSpec.upto codeNamesSpec)) codeNamesUptoCard

/-- THE SECOND FORM's CARD OF 'manorboylaw14.CodeControl'. -/
def codeControlUptoCard : Claim7 := { stood := { row := codeControlUptoRow, standIns := [], harness := (true, "d673cb4dd07a69f706e4edf21ea8380cfc757200d7857859e8aa70ca12f38cdc"), looks := true }, kinds := [], alts := [], laidByText := true, laidKinds := [.data, .data, .data, .data, .sentinel, .sentinel, .pinned], laidTests := true, laidLooks := .later }
def CodeControlUptoCardSaid : Prop := Claim7.holds Tryz.pinned (.plain (OpenSpec.upto codeControlSpec)) codeControlUptoCard

/-- THE SECOND FORM's CARD OF 'manorboylaw14.CodeParts'. -/
def codePartsUptoCard : Claim7 := { stood := { row := codePartsUptoRow, standIns := [], harness := (true, "d673cb4dd07a69f706e4edf21ea8380cfc757200d7857859e8aa70ca12f38cdc"), looks := true }, kinds := [], alts := [], laidByText := true, laidKinds := [.data, .data, .data, .data, .sentinel, .sentinel, .pinned], laidTests := true, laidLooks := .later }
def CodePartsUptoCardSaid : Prop := Claim7.holds Tryz.pinned (.plain (OpenSpec.upto codePartsSpec)) codePartsUptoCard

/-- THE SECOND FORM's CARD OF 'manorboylaw14.CodeFlow'. -/
def codeFlowUptoCard : Claim7 := { stood := { row := codeFlowUptoRow, standIns := [], harness := (true, "d673cb4dd07a69f706e4edf21ea8380cfc757200d7857859e8aa70ca12f38cdc"), looks := true }, kinds := [], alts := [], laidByText := true, laidKinds := [.data, .data, .data, .data, .sentinel, .sentinel, .pinned], laidTests := true, laidLooks := .later }
def CodeFlowUptoCardSaid : Prop := Claim7.holds Tryz.pinned (.plain (OpenSpec.upto codeFlowSpec)) codeFlowUptoCard
end Rows
end Go.Proofs.YtmfnholhhakgaaaGreatDoor
