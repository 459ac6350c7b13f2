/-
  DERIVED. GIVEN WITH THE SEED: THE CARDS: each row of YtdafjaimljhcaaaGreatDoorRows.lean that lists a variable, with what it lists TIED to the program's text (the seventh form; the later family's looks); each row that meets fmt, with fmt's text TOLD by the authors' own Lean function (tested against real Go, not proved from fmt's source: count such statements apart). THE CARD IS WHAT COUNTS. Prove the row's statement (the work); the ties are given (YtdafjaimljhcaaaGreatDoorTie.lean); close each card by the builder's one call (the guide's Derived/Test/ToyasCard.lean, 'card_holds'). Laid BY PROGRAM, IN A SANDBOX (cutbox-door.mjs). By AI agents, Wed Nov 11 2026. No macro, syntax, notation, axiom, sorry.
-/
import Derived.Test.YtdafjaimljhcaaaGreatDoorRows
import GoSem.ClaimSeven
namespace Go.Proofs.YtdafjaimljhcaaaGreatDoor
namespace Rows

/-- THE TIED CARD OF 'laws.FnStampFromSmall'. -/
def fnStampFromSmallCard : Claim7 := { stood := { row := fnStampFromSmallRow, standIns := [], harness := (true, "b9f48a8c3fc540faf096b3f0d843a9ac7ca73175fcd7fc78edde6052a260e33d"), looks := true }, kinds := [], alts := [], laidByText := true, laidKinds := [.handle, .data], laidTests := true, laidLooks := .later }
def FnStampFromSmallCardSaid : Prop := Claim7.holds Tryz.pinned (.plain (OpenSpec.ofChange fnStampFromSmallSpec)) fnStampFromSmallCard

/-- THE TIED CARD OF 'laws.FnStampText'. -/
def fnStampTextCard : Claim7 := { stood := { row := fnStampTextRow, standIns := [], harness := (true, "b9f48a8c3fc540faf096b3f0d843a9ac7ca73175fcd7fc78edde6052a260e33d"), looks := true }, kinds := [], alts := [], laidByText := true, laidKinds := [.data, .handle, .data, .pinned], laidTests := true, laidLooks := .later }
def FnStampTextCardSaid : Prop := Claim7.holds Tryz.pinned (.plain (OpenSpec.ofChange fnStampTextSpec)) fnStampTextCard

/-- THE TIED CARD OF 'laws.FnExactStampTidy'. -/
def fnExactStampTidyCard : Claim7 := { stood := { row := fnExactStampTidyRow, standIns := [], harness := (true, "b9f48a8c3fc540faf096b3f0d843a9ac7ca73175fcd7fc78edde6052a260e33d"), looks := true }, kinds := [], alts := [], laidByText := true, laidKinds := [.data, .handle, .data, .pinned], laidTests := true, laidLooks := .later }
def FnExactStampTidyCardSaid : Prop := Claim7.holds Tryz.pinned (.plain (OpenSpec.ofChange fnExactStampTidySpec)) fnExactStampTidyCard

/-- THE TIED CARD OF 'laws.FnStampFrom'. -/
def fnStampFromCard : Claim7 := { stood := { row := fnStampFromRow, standIns := [], harness := (true, "b9f48a8c3fc540faf096b3f0d843a9ac7ca73175fcd7fc78edde6052a260e33d"), looks := true }, kinds := [], alts := [], laidByText := true, laidKinds := [.data, .handle, .data, .pinned], laidTests := true, laidLooks := .later }
def FnStampFromCardSaid : Prop := Claim7.holds Tryz.pinned (.plain (OpenSpec.ofChange fnStampFromSpec)) fnStampFromCard

/-- THE TIED CARD OF 'laws.FnTidy'. -/
def fnTidyCard : Claim7 := { stood := { row := fnTidyRow, standIns := [], harness := (true, "b9f48a8c3fc540faf096b3f0d843a9ac7ca73175fcd7fc78edde6052a260e33d"), looks := true }, kinds := [], alts := [], laidByText := true, laidKinds := [.data, .handle, .data, .pinned], laidTests := true, laidLooks := .later }
def FnTidyCardSaid : Prop := Claim7.holds Tryz.pinned (.plain (OpenSpec.ofChange fnTidySpec)) fnTidyCard

/-- THE TIED CARD OF 'laws.FnExactStampsSort'. -/
def fnExactStampsSortCard : Claim7 := { stood := { row := fnExactStampsSortRow, standIns := [], harness := (true, "b9f48a8c3fc540faf096b3f0d843a9ac7ca73175fcd7fc78edde6052a260e33d"), looks := true }, kinds := [], alts := [], laidByText := true, laidKinds := [.data, .handle, .data, .pinned], laidTests := true, laidLooks := .later }
def FnExactStampsSortCardSaid : Prop := Claim7.holds Tryz.pinned (.plain (OpenSpec.ofChange fnExactStampsSortSpec)) fnExactStampsSortCard

/-- THE TIED CARD OF 'laws.FnSortTwice'. -/
def fnSortTwiceCard : Claim7 := { stood := { row := fnSortTwiceRow, standIns := [], harness := (true, "b9f48a8c3fc540faf096b3f0d843a9ac7ca73175fcd7fc78edde6052a260e33d"), looks := true }, kinds := [], alts := [], laidByText := true, laidKinds := [.data, .handle, .data, .pinned], laidTests := true, laidLooks := .later }
def FnSortTwiceCardSaid : Prop := Claim7.holds Tryz.pinned (.plain (OpenSpec.ofChange fnSortTwiceSpec)) fnSortTwiceCard

/-- THE TIED CARD OF 'laws.FnSortAll'. -/
def fnSortAllCard : Claim7 := { stood := { row := fnSortAllRow, standIns := [], harness := (true, "b9f48a8c3fc540faf096b3f0d843a9ac7ca73175fcd7fc78edde6052a260e33d"), looks := true }, kinds := [], alts := [], laidByText := true, laidKinds := [.data, .handle, .data, .pinned], laidTests := true, laidLooks := .later }
def FnSortAllCardSaid : Prop := Claim7.holds Tryz.pinned (.plain (OpenSpec.ofChange fnSortAllSpec)) fnSortAllCard

/-- THE TIED CARD OF 'laws.FnSort'. -/
def fnSortCard : Claim7 := { stood := { row := fnSortRow, standIns := [], harness := (true, "b9f48a8c3fc540faf096b3f0d843a9ac7ca73175fcd7fc78edde6052a260e33d"), looks := true }, kinds := [], alts := [], laidByText := true, laidKinds := [.data, .handle, .data, .pinned], laidTests := true, laidLooks := .later }
def FnSortCardSaid : Prop := Claim7.holds Tryz.pinned (.plain (OpenSpec.ofChange fnSortSpec)) fnSortCard

/-- THE SECOND FORM's CARD OF 'laws.FnStampFromSmall'. -/
def fnStampFromSmallUptoCard : Claim7 := { stood := { row := fnStampFromSmallUptoRow, standIns := [], harness := (true, "b9f48a8c3fc540faf096b3f0d843a9ac7ca73175fcd7fc78edde6052a260e33d"), looks := true }, kinds := [], alts := [], laidByText := true, laidKinds := [.handle, .data], laidTests := true, laidLooks := .later }
def FnStampFromSmallUptoCardSaid : Prop := Claim7.holds Tryz.pinned (.plain (OpenSpec.upto fnStampFromSmallSpec)) fnStampFromSmallUptoCard

/-- THE SECOND FORM's CARD OF 'laws.FnStampText'. -/
def fnStampTextUptoCard : Claim7 := { stood := { row := fnStampTextUptoRow, standIns := [], harness := (true, "b9f48a8c3fc540faf096b3f0d843a9ac7ca73175fcd7fc78edde6052a260e33d"), looks := true }, kinds := [], alts := [], laidByText := true, laidKinds := [.data, .handle, .data, .pinned], laidTests := true, laidLooks := .later }
def FnStampTextUptoCardSaid : Prop := Claim7.holds Tryz.pinned (.plain (OpenSpec.upto fnStampTextSpec)) fnStampTextUptoCard

/-- THE SECOND FORM's CARD OF 'laws.FnExactStampTidy'. -/
def fnExactStampTidyUptoCard : Claim7 := { stood := { row := fnExactStampTidyUptoRow, standIns := [], harness := (true, "b9f48a8c3fc540faf096b3f0d843a9ac7ca73175fcd7fc78edde6052a260e33d"), looks := true }, kinds := [], alts := [], laidByText := true, laidKinds := [.data, .handle, .data, .pinned], laidTests := true, laidLooks := .later }
def FnExactStampTidyUptoCardSaid : Prop := Claim7.holds Tryz.pinned (.plain (OpenSpec.upto fnExactStampTidySpec)) fnExactStampTidyUptoCard

/-- THE SECOND FORM's CARD OF 'laws.FnStampFrom'. -/
def fnStampFromUptoCard : Claim7 := { stood := { row := fnStampFromUptoRow, standIns := [], harness := (true, "b9f48a8c3fc540faf096b3f0d843a9ac7ca73175fcd7fc78edde6052a260e33d"), looks := true }, kinds := [], alts := [], laidByText := true, laidKinds := [.data, .handle, .data, .pinned], laidTests := true, laidLooks := .later }
def FnStampFromUptoCardSaid : Prop := Claim7.holds Tryz.pinned (.plain (OpenSpec.upto fnStampFromSpec)) fnStampFromUptoCard

/-- THE SECOND FORM's CARD OF 'laws.FnTidy'. -/
def fnTidyUptoCard : Claim7 := { stood := { row := fnTidyUptoRow, standIns := [], harness := (true, "b9f48a8c3fc540faf096b3f0d843a9ac7ca73175fcd7fc78edde6052a260e33d"), looks := true }, kinds := [], alts := [], laidByText := true, laidKinds := [.data, .handle, .data, .pinned], laidTests := true, laidLooks := .later }
def FnTidyUptoCardSaid : Prop := Claim7.holds Tryz.pinned (.plain (OpenSpec.upto fnTidySpec)) fnTidyUptoCard

/-- THE SECOND FORM's CARD OF 'laws.FnExactStampsSort'. -/
def fnExactStampsSortUptoCard : Claim7 := { stood := { row := fnExactStampsSortUptoRow, standIns := [], harness := (true, "b9f48a8c3fc540faf096b3f0d843a9ac7ca73175fcd7fc78edde6052a260e33d"), looks := true }, kinds := [], alts := [], laidByText := true, laidKinds := [.data, .handle, .data, .pinned], laidTests := true, laidLooks := .later }
def FnExactStampsSortUptoCardSaid : Prop := Claim7.holds Tryz.pinned (.plain (OpenSpec.upto fnExactStampsSortSpec)) fnExactStampsSortUptoCard

/-- THE SECOND FORM's CARD OF 'laws.FnSortTwice'. -/
def fnSortTwiceUptoCard : Claim7 := { stood := { row := fnSortTwiceUptoRow, standIns := [], harness := (true, "b9f48a8c3fc540faf096b3f0d843a9ac7ca73175fcd7fc78edde6052a260e33d"), looks := true }, kinds := [], alts := [], laidByText := true, laidKinds := [.data, .handle, .data, .pinned], laidTests := true, laidLooks := .later }
def FnSortTwiceUptoCardSaid : Prop := Claim7.holds Tryz.pinned (.plain (OpenSpec.upto fnSortTwiceSpec)) fnSortTwiceUptoCard

/-- THE SECOND FORM's CARD OF 'laws.FnSortAll'. -/
def fnSortAllUptoCard : Claim7 := { stood := { row := fnSortAllUptoRow, standIns := [], harness := (true, "b9f48a8c3fc540faf096b3f0d843a9ac7ca73175fcd7fc78edde6052a260e33d"), looks := true }, kinds := [], alts := [], laidByText := true, laidKinds := [.data, .handle, .data, .pinned], laidTests := true, laidLooks := .later }
def FnSortAllUptoCardSaid : Prop := Claim7.holds Tryz.pinned (.plain (OpenSpec.upto fnSortAllSpec)) fnSortAllUptoCard

/-- THE SECOND FORM's CARD OF 'laws.FnSort'. -/
def fnSortUptoCard : Claim7 := { stood := { row := fnSortUptoRow, standIns := [], harness := (true, "b9f48a8c3fc540faf096b3f0d843a9ac7ca73175fcd7fc78edde6052a260e33d"), looks := true }, kinds := [], alts := [], laidByText := true, laidKinds := [.data, .handle, .data, .pinned], laidTests := true, laidLooks := .later }
def FnSortUptoCardSaid : Prop := Claim7.holds Tryz.pinned (.plain (OpenSpec.upto fnSortSpec)) fnSortUptoCard
end Rows
end Go.Proofs.YtdafjaimljhcaaaGreatDoor
