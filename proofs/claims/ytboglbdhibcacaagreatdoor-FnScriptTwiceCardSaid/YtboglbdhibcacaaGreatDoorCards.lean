/-
  DERIVED. GIVEN WITH THE SEED: THE CARDS: each row of YtboglbdhibcacaaGreatDoorRows.lean that lists a variable, with what it lists TIED to the program's text (the seventh form; the later family's looks); each row that meets fmt, with fmt's text TOLD by the authors' own Lean function (tested against real Go, not proved from fmt's source: count such statements apart). THE CARD IS WHAT COUNTS. Prove the row's statement (the work); the ties are given (YtboglbdhibcacaaGreatDoorTie.lean); close each card by the builder's one call (the guide's Derived/Test/ToyasCard.lean, 'card_holds'). Laid BY PROGRAM, IN A SANDBOX (cutbox-door.mjs). By AI agents, Wed Nov 11 2026. No macro, syntax, notation, axiom, sorry.
-/
import Derived.Test.YtboglbdhibcacaaGreatDoorRows
import GoSem.ClaimSeven
namespace Go.Proofs.YtboglbdhibcacaaGreatDoor
namespace Rows

/-- THE TIED CARD OF 'laws.FnScriptTidy'. -/
def fnScriptTidyCard : Claim7 := { stood := { row := fnScriptTidyRow, standIns := [], harness := (true, "777e5cd9d47b93906afe3b8af562df1b956d59283539f3cc27290bba2e2e9c08"), looks := true }, kinds := [], alts := [], laidByText := true, laidKinds := [.data, .data, .data, .data, .handle, .data, .sentinel, .pinned], laidTests := true, laidLooks := .later }
def FnScriptTidyCardSaid : Prop := Claim7.holds Tryz.pinned (.plain (OpenSpec.ofChange fnScriptTidySpec)) fnScriptTidyCard

/-- THE TIED CARD OF 'laws.FnScriptCut'. -/
def fnScriptCutCard : Claim7 := { stood := { row := fnScriptCutRow, standIns := [], harness := (true, "777e5cd9d47b93906afe3b8af562df1b956d59283539f3cc27290bba2e2e9c08"), looks := true }, kinds := [], alts := [], laidByText := true, laidKinds := [.data, .data, .data, .data, .handle, .data, .sentinel, .pinned], laidTests := true, laidLooks := .later }
def FnScriptCutCardSaid : Prop := Claim7.holds Tryz.pinned (.plain (OpenSpec.ofChange fnScriptCutSpec)) fnScriptCutCard

/-- THE TIED CARD OF 'laws.FnScriptTwice'. -/
def fnScriptTwiceCard : Claim7 := { stood := { row := fnScriptTwiceRow, standIns := [], harness := (true, "777e5cd9d47b93906afe3b8af562df1b956d59283539f3cc27290bba2e2e9c08"), looks := true }, kinds := [], alts := [], laidByText := true, laidKinds := [.data, .data, .data, .data, .handle, .data, .sentinel, .pinned], laidTests := true, laidLooks := .later }
def FnScriptTwiceCardSaid : Prop := Claim7.holds Tryz.pinned (.plain (OpenSpec.ofChange fnScriptTwiceSpec)) fnScriptTwiceCard

/-- THE TIED CARD OF 'laws.FnExactExecute'. -/
def fnExactExecuteCard : Claim7 := { stood := { row := fnExactExecuteRow, standIns := [], harness := (true, "777e5cd9d47b93906afe3b8af562df1b956d59283539f3cc27290bba2e2e9c08"), looks := true }, kinds := [], alts := [], laidByText := true, laidKinds := [.data, .data, .data, .data, .handle, .data, .sentinel, .pinned], laidTests := true, laidLooks := .later }
def FnExactExecuteCardSaid : Prop := Claim7.holds Tryz.pinned (.plain (OpenSpec.ofChange fnExactExecuteSpec)) fnExactExecuteCard

/-- THE TIED CARD OF 'laws.FnScript'. -/
def fnScriptCard : Claim7 := { stood := { row := fnScriptRow, standIns := [], harness := (true, "777e5cd9d47b93906afe3b8af562df1b956d59283539f3cc27290bba2e2e9c08"), looks := true }, kinds := [], alts := [], laidByText := true, laidKinds := [.data, .data, .data, .data, .handle, .data, .sentinel, .pinned], laidTests := true, laidLooks := .later }
def FnScriptCardSaid : Prop := Claim7.holds Tryz.pinned (.plain (OpenSpec.ofChange fnScriptSpec)) fnScriptCard

/-- THE TIED CARD OF 'laws.FnScriptBad'. -/
def fnScriptBadCard : Claim7 := { stood := { row := fnScriptBadRow, standIns := [], harness := (true, "777e5cd9d47b93906afe3b8af562df1b956d59283539f3cc27290bba2e2e9c08"), looks := true }, kinds := [], alts := [], laidByText := true, laidKinds := [.data, .data, .data, .data, .handle, .data, .sentinel, .pinned], laidTests := true, laidLooks := .later }
def FnScriptBadCardSaid : Prop := Claim7.holds Tryz.pinned (.plain (OpenSpec.ofChange fnScriptBadSpec)) fnScriptBadCard

/-- THE TIED CARD OF 'laws.FnScriptBetween'. -/
def fnScriptBetweenCard : Claim7 := { stood := { row := fnScriptBetweenRow, standIns := [], harness := (true, "777e5cd9d47b93906afe3b8af562df1b956d59283539f3cc27290bba2e2e9c08"), looks := true }, kinds := [], alts := [], laidByText := true, laidKinds := [.data, .data, .data, .data, .handle, .data, .sentinel, .pinned], laidTests := true, laidLooks := .later }
def FnScriptBetweenCardSaid : Prop := Claim7.holds Tryz.pinned (.plain (OpenSpec.ofChange fnScriptBetweenSpec)) fnScriptBetweenCard

/-- THE TIED CARD OF 'laws.FnScriptDate'. -/
def fnScriptDateCard : Claim7 := { stood := { row := fnScriptDateRow, standIns := [], harness := (true, "777e5cd9d47b93906afe3b8af562df1b956d59283539f3cc27290bba2e2e9c08"), looks := true }, kinds := [], alts := [], laidByText := true, laidKinds := [.data, .data, .data, .data, .handle, .data, .sentinel, .pinned], laidTests := true, laidLooks := .later }
def FnScriptDateCardSaid : Prop := Claim7.holds Tryz.pinned (.plain (OpenSpec.ofChange fnScriptDateSpec)) fnScriptDateCard

/-- THE TIED CARD OF 'laws.FnScriptPlus'. -/
def fnScriptPlusCard : Claim7 := { stood := { row := fnScriptPlusRow, standIns := [], harness := (true, "777e5cd9d47b93906afe3b8af562df1b956d59283539f3cc27290bba2e2e9c08"), looks := true }, kinds := [], alts := [], laidByText := true, laidKinds := [.data, .data, .data, .data, .handle, .data, .sentinel, .pinned], laidTests := true, laidLooks := .later }
def FnScriptPlusCardSaid : Prop := Claim7.holds Tryz.pinned (.plain (OpenSpec.ofChange fnScriptPlusSpec)) fnScriptPlusCard

/-- THE SECOND FORM's CARD OF 'laws.FnScriptTidy'. -/
def fnScriptTidyUptoCard : Claim7 := { stood := { row := fnScriptTidyUptoRow, standIns := [], harness := (true, "777e5cd9d47b93906afe3b8af562df1b956d59283539f3cc27290bba2e2e9c08"), looks := true }, kinds := [], alts := [], laidByText := true, laidKinds := [.data, .data, .data, .data, .handle, .data, .sentinel, .pinned], laidTests := true, laidLooks := .later }
def FnScriptTidyUptoCardSaid : Prop := Claim7.holds Tryz.pinned (.plain (OpenSpec.upto fnScriptTidySpec)) fnScriptTidyUptoCard

/-- THE SECOND FORM's CARD OF 'laws.FnScriptCut'. -/
def fnScriptCutUptoCard : Claim7 := { stood := { row := fnScriptCutUptoRow, standIns := [], harness := (true, "777e5cd9d47b93906afe3b8af562df1b956d59283539f3cc27290bba2e2e9c08"), looks := true }, kinds := [], alts := [], laidByText := true, laidKinds := [.data, .data, .data, .data, .handle, .data, .sentinel, .pinned], laidTests := true, laidLooks := .later }
def FnScriptCutUptoCardSaid : Prop := Claim7.holds Tryz.pinned (.plain (OpenSpec.upto fnScriptCutSpec)) fnScriptCutUptoCard

/-- THE SECOND FORM's CARD OF 'laws.FnScriptTwice'. -/
def fnScriptTwiceUptoCard : Claim7 := { stood := { row := fnScriptTwiceUptoRow, standIns := [], harness := (true, "777e5cd9d47b93906afe3b8af562df1b956d59283539f3cc27290bba2e2e9c08"), looks := true }, kinds := [], alts := [], laidByText := true, laidKinds := [.data, .data, .data, .data, .handle, .data, .sentinel, .pinned], laidTests := true, laidLooks := .later }
def FnScriptTwiceUptoCardSaid : Prop := Claim7.holds Tryz.pinned (.plain (OpenSpec.upto fnScriptTwiceSpec)) fnScriptTwiceUptoCard

/-- THE SECOND FORM's CARD OF 'laws.FnExactExecute'. -/
def fnExactExecuteUptoCard : Claim7 := { stood := { row := fnExactExecuteUptoRow, standIns := [], harness := (true, "777e5cd9d47b93906afe3b8af562df1b956d59283539f3cc27290bba2e2e9c08"), looks := true }, kinds := [], alts := [], laidByText := true, laidKinds := [.data, .data, .data, .data, .handle, .data, .sentinel, .pinned], laidTests := true, laidLooks := .later }
def FnExactExecuteUptoCardSaid : Prop := Claim7.holds Tryz.pinned (.plain (OpenSpec.upto fnExactExecuteSpec)) fnExactExecuteUptoCard

/-- THE SECOND FORM's CARD OF 'laws.FnScript'. -/
def fnScriptUptoCard : Claim7 := { stood := { row := fnScriptUptoRow, standIns := [], harness := (true, "777e5cd9d47b93906afe3b8af562df1b956d59283539f3cc27290bba2e2e9c08"), looks := true }, kinds := [], alts := [], laidByText := true, laidKinds := [.data, .data, .data, .data, .handle, .data, .sentinel, .pinned], laidTests := true, laidLooks := .later }
def FnScriptUptoCardSaid : Prop := Claim7.holds Tryz.pinned (.plain (OpenSpec.upto fnScriptSpec)) fnScriptUptoCard

/-- THE SECOND FORM's CARD OF 'laws.FnScriptBad'. -/
def fnScriptBadUptoCard : Claim7 := { stood := { row := fnScriptBadUptoRow, standIns := [], harness := (true, "777e5cd9d47b93906afe3b8af562df1b956d59283539f3cc27290bba2e2e9c08"), looks := true }, kinds := [], alts := [], laidByText := true, laidKinds := [.data, .data, .data, .data, .handle, .data, .sentinel, .pinned], laidTests := true, laidLooks := .later }
def FnScriptBadUptoCardSaid : Prop := Claim7.holds Tryz.pinned (.plain (OpenSpec.upto fnScriptBadSpec)) fnScriptBadUptoCard

/-- THE SECOND FORM's CARD OF 'laws.FnScriptBetween'. -/
def fnScriptBetweenUptoCard : Claim7 := { stood := { row := fnScriptBetweenUptoRow, standIns := [], harness := (true, "777e5cd9d47b93906afe3b8af562df1b956d59283539f3cc27290bba2e2e9c08"), looks := true }, kinds := [], alts := [], laidByText := true, laidKinds := [.data, .data, .data, .data, .handle, .data, .sentinel, .pinned], laidTests := true, laidLooks := .later }
def FnScriptBetweenUptoCardSaid : Prop := Claim7.holds Tryz.pinned (.plain (OpenSpec.upto fnScriptBetweenSpec)) fnScriptBetweenUptoCard

/-- THE SECOND FORM's CARD OF 'laws.FnScriptDate'. -/
def fnScriptDateUptoCard : Claim7 := { stood := { row := fnScriptDateUptoRow, standIns := [], harness := (true, "777e5cd9d47b93906afe3b8af562df1b956d59283539f3cc27290bba2e2e9c08"), looks := true }, kinds := [], alts := [], laidByText := true, laidKinds := [.data, .data, .data, .data, .handle, .data, .sentinel, .pinned], laidTests := true, laidLooks := .later }
def FnScriptDateUptoCardSaid : Prop := Claim7.holds Tryz.pinned (.plain (OpenSpec.upto fnScriptDateSpec)) fnScriptDateUptoCard

/-- THE SECOND FORM's CARD OF 'laws.FnScriptPlus'. -/
def fnScriptPlusUptoCard : Claim7 := { stood := { row := fnScriptPlusUptoRow, standIns := [], harness := (true, "777e5cd9d47b93906afe3b8af562df1b956d59283539f3cc27290bba2e2e9c08"), looks := true }, kinds := [], alts := [], laidByText := true, laidKinds := [.data, .data, .data, .data, .handle, .data, .sentinel, .pinned], laidTests := true, laidLooks := .later }
def FnScriptPlusUptoCardSaid : Prop := Claim7.holds Tryz.pinned (.plain (OpenSpec.upto fnScriptPlusSpec)) fnScriptPlusUptoCard
end Rows
end Go.Proofs.YtboglbdhibcacaaGreatDoor
