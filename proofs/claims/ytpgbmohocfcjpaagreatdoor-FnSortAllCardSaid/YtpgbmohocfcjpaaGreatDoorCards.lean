/-
  DERIVED. GIVEN WITH THE SEED: THE CARDS: each row of YtpgbmohocfcjpaaGreatDoorRows.lean that lists a variable, with what it lists TIED to the program's text (the seventh form; the later family's looks); each row that meets fmt, with fmt's text TOLD by the authors' own Lean function (tested against real Go, not proved from fmt's source: count such statements apart). THE CARD IS WHAT COUNTS. Prove the row's statement (the work); the ties are given (YtpgbmohocfcjpaaGreatDoorTie.lean); close each card by the builder's one call (the guide's Derived/Test/ToyasCard.lean, 'card_holds'). Laid BY PROGRAM, IN A SANDBOX (cutbox-door.mjs). By AI agents, Wed Nov 11 2026. No macro, syntax, notation, axiom, sorry.
-/
import Derived.Test.YtpgbmohocfcjpaaGreatDoorRows
import GoSem.ClaimSeven
namespace Go.Proofs.YtpgbmohocfcjpaaGreatDoor
namespace Rows

/-- THE TIED CARD OF 'laws.FnExactStampsSort'. -/
def fnExactStampsSortCard : Claim7 := { stood := { row := fnExactStampsSortRow, standIns := [], harness := (true, "35dfa55203117b35d491a5eb926aa7c77674e1a354067bf25f4aaa6374ab80a8"), looks := true }, kinds := [], alts := [], laidByText := true, laidKinds := [.data, .handle, .data, .pinned], laidTests := true, laidLooks := .later }
def FnExactStampsSortCardSaid : Prop := Claim7.holds Tryz.pinned (.plain (OpenSpec.ofChange fnExactStampsSortSpec)) fnExactStampsSortCard

/-- THE TIED CARD OF 'laws.FnSortTwice'. -/
def fnSortTwiceCard : Claim7 := { stood := { row := fnSortTwiceRow, standIns := [], harness := (true, "35dfa55203117b35d491a5eb926aa7c77674e1a354067bf25f4aaa6374ab80a8"), looks := true }, kinds := [], alts := [], laidByText := true, laidKinds := [.data, .handle, .data, .pinned], laidTests := true, laidLooks := .later }
def FnSortTwiceCardSaid : Prop := Claim7.holds Tryz.pinned (.plain (OpenSpec.ofChange fnSortTwiceSpec)) fnSortTwiceCard

/-- THE TIED CARD OF 'laws.FnSortAll'. -/
def fnSortAllCard : Claim7 := { stood := { row := fnSortAllRow, standIns := [], harness := (true, "35dfa55203117b35d491a5eb926aa7c77674e1a354067bf25f4aaa6374ab80a8"), looks := true }, kinds := [], alts := [], laidByText := true, laidKinds := [.data, .handle, .data, .pinned], laidTests := true, laidLooks := .later }
def FnSortAllCardSaid : Prop := Claim7.holds Tryz.pinned (.plain (OpenSpec.ofChange fnSortAllSpec)) fnSortAllCard

/-- THE TIED CARD OF 'laws.FnSort'. -/
def fnSortCard : Claim7 := { stood := { row := fnSortRow, standIns := [], harness := (true, "35dfa55203117b35d491a5eb926aa7c77674e1a354067bf25f4aaa6374ab80a8"), looks := true }, kinds := [], alts := [], laidByText := true, laidKinds := [.data, .handle, .data, .pinned], laidTests := true, laidLooks := .later }
def FnSortCardSaid : Prop := Claim7.holds Tryz.pinned (.plain (OpenSpec.ofChange fnSortSpec)) fnSortCard

/-- THE TIED CARD OF 'laws.FnExactSpanFrom'. -/
def fnExactSpanFromCard : Claim7 := { stood := { row := fnExactSpanFromRow, standIns := [], harness := (true, "35dfa55203117b35d491a5eb926aa7c77674e1a354067bf25f4aaa6374ab80a8"), looks := true }, kinds := [], alts := [], laidByText := true, laidKinds := [.handle, .data], laidTests := true, laidLooks := .later }
def FnExactSpanFromCardSaid : Prop := Claim7.holds Tryz.pinned (.plain (OpenSpec.ofChange fnExactSpanFromSpec)) fnExactSpanFromCard

/-- THE TIED CARD OF 'laws.FnSpanText'. -/
def fnSpanTextCard : Claim7 := { stood := { row := fnSpanTextRow, standIns := [], harness := (true, "35dfa55203117b35d491a5eb926aa7c77674e1a354067bf25f4aaa6374ab80a8"), looks := true }, kinds := [], alts := [], laidByText := true, laidKinds := [.data, .handle, .data, .pinned], laidTests := true, laidLooks := .later }
def FnSpanTextCardSaid : Prop := Claim7.holds Tryz.pinned (.plain (OpenSpec.ofChange fnSpanTextSpec)) fnSpanTextCard

/-- THE TIED CARD OF 'laws.FnSpanFrom'. -/
def fnSpanFromCard : Claim7 := { stood := { row := fnSpanFromRow, standIns := [], harness := (true, "35dfa55203117b35d491a5eb926aa7c77674e1a354067bf25f4aaa6374ab80a8"), looks := true }, kinds := [], alts := [], laidByText := true, laidKinds := [.handle, .data], laidTests := true, laidLooks := .later }
def FnSpanFromCardSaid : Prop := Claim7.holds Tryz.pinned (.plain (OpenSpec.ofChange fnSpanFromSpec)) fnSpanFromCard

/-- THE TIED CARD OF 'laws.FnSpanPeriod'. -/
def fnSpanPeriodCard : Claim7 := { stood := { row := fnSpanPeriodRow, standIns := [], harness := (true, "35dfa55203117b35d491a5eb926aa7c77674e1a354067bf25f4aaa6374ab80a8"), looks := true }, kinds := [], alts := [], laidByText := true, laidKinds := [.data, .data, .data, .data, .handle, .data, .pinned], laidTests := true, laidLooks := .later }
def FnSpanPeriodCardSaid : Prop := Claim7.holds Tryz.pinned (.plain (OpenSpec.ofChange fnSpanPeriodSpec)) fnSpanPeriodCard

/-- THE TIED CARD OF 'laws.FnSpanPeriodBack'. -/
def fnSpanPeriodBackCard : Claim7 := { stood := { row := fnSpanPeriodBackRow, standIns := [], harness := (true, "35dfa55203117b35d491a5eb926aa7c77674e1a354067bf25f4aaa6374ab80a8"), looks := true }, kinds := [], alts := [], laidByText := true, laidKinds := [.data, .data, .data, .data, .handle, .data, .pinned], laidTests := true, laidLooks := .later }
def FnSpanPeriodBackCardSaid : Prop := Claim7.holds Tryz.pinned (.plain (OpenSpec.ofChange fnSpanPeriodBackSpec)) fnSpanPeriodBackCard

/-- THE TIED CARD OF 'laws.FnExactRepeatFrom'. -/
def fnExactRepeatFromCard : Claim7 := { stood := { row := fnExactRepeatFromRow, standIns := [], harness := (true, "35dfa55203117b35d491a5eb926aa7c77674e1a354067bf25f4aaa6374ab80a8"), looks := true }, kinds := [], alts := [], laidByText := true, laidKinds := [.handle, .data], laidTests := true, laidLooks := .later }
def FnExactRepeatFromCardSaid : Prop := Claim7.holds Tryz.pinned (.plain (OpenSpec.ofChange fnExactRepeatFromSpec)) fnExactRepeatFromCard

/-- THE TIED CARD OF 'laws.FnRepeatText'. -/
def fnRepeatTextCard : Claim7 := { stood := { row := fnRepeatTextRow, standIns := [], harness := (true, "35dfa55203117b35d491a5eb926aa7c77674e1a354067bf25f4aaa6374ab80a8"), looks := true }, kinds := [], alts := [], laidByText := true, laidKinds := [.data, .data, .data, .data, .handle, .data, .pinned], laidTests := true, laidLooks := .later }
def FnRepeatTextCardSaid : Prop := Claim7.holds Tryz.pinned (.plain (OpenSpec.ofChange fnRepeatTextSpec)) fnRepeatTextCard

/-- THE TIED CARD OF 'laws.FnRepeatFrom'. -/
def fnRepeatFromCard : Claim7 := { stood := { row := fnRepeatFromRow, standIns := [], harness := (true, "35dfa55203117b35d491a5eb926aa7c77674e1a354067bf25f4aaa6374ab80a8"), looks := true }, kinds := [], alts := [], laidByText := true, laidKinds := [.data, .data, .data, .data, .handle, .data, .pinned], laidTests := true, laidLooks := .later }
def FnRepeatFromCardSaid : Prop := Claim7.holds Tryz.pinned (.plain (OpenSpec.ofChange fnRepeatFromSpec)) fnRepeatFromCard

/-- THE SECOND FORM's CARD OF 'laws.FnExactStampsSort'. -/
def fnExactStampsSortUptoCard : Claim7 := { stood := { row := fnExactStampsSortUptoRow, standIns := [], harness := (true, "35dfa55203117b35d491a5eb926aa7c77674e1a354067bf25f4aaa6374ab80a8"), looks := true }, kinds := [], alts := [], laidByText := true, laidKinds := [.data, .handle, .data, .pinned], laidTests := true, laidLooks := .later }
def FnExactStampsSortUptoCardSaid : Prop := Claim7.holds Tryz.pinned (.plain (OpenSpec.upto fnExactStampsSortSpec)) fnExactStampsSortUptoCard

/-- THE SECOND FORM's CARD OF 'laws.FnSortTwice'. -/
def fnSortTwiceUptoCard : Claim7 := { stood := { row := fnSortTwiceUptoRow, standIns := [], harness := (true, "35dfa55203117b35d491a5eb926aa7c77674e1a354067bf25f4aaa6374ab80a8"), looks := true }, kinds := [], alts := [], laidByText := true, laidKinds := [.data, .handle, .data, .pinned], laidTests := true, laidLooks := .later }
def FnSortTwiceUptoCardSaid : Prop := Claim7.holds Tryz.pinned (.plain (OpenSpec.upto fnSortTwiceSpec)) fnSortTwiceUptoCard

/-- THE SECOND FORM's CARD OF 'laws.FnSortAll'. -/
def fnSortAllUptoCard : Claim7 := { stood := { row := fnSortAllUptoRow, standIns := [], harness := (true, "35dfa55203117b35d491a5eb926aa7c77674e1a354067bf25f4aaa6374ab80a8"), looks := true }, kinds := [], alts := [], laidByText := true, laidKinds := [.data, .handle, .data, .pinned], laidTests := true, laidLooks := .later }
def FnSortAllUptoCardSaid : Prop := Claim7.holds Tryz.pinned (.plain (OpenSpec.upto fnSortAllSpec)) fnSortAllUptoCard

/-- THE SECOND FORM's CARD OF 'laws.FnSort'. -/
def fnSortUptoCard : Claim7 := { stood := { row := fnSortUptoRow, standIns := [], harness := (true, "35dfa55203117b35d491a5eb926aa7c77674e1a354067bf25f4aaa6374ab80a8"), looks := true }, kinds := [], alts := [], laidByText := true, laidKinds := [.data, .handle, .data, .pinned], laidTests := true, laidLooks := .later }
def FnSortUptoCardSaid : Prop := Claim7.holds Tryz.pinned (.plain (OpenSpec.upto fnSortSpec)) fnSortUptoCard

/-- THE SECOND FORM's CARD OF 'laws.FnExactSpanFrom'. -/
def fnExactSpanFromUptoCard : Claim7 := { stood := { row := fnExactSpanFromUptoRow, standIns := [], harness := (true, "35dfa55203117b35d491a5eb926aa7c77674e1a354067bf25f4aaa6374ab80a8"), looks := true }, kinds := [], alts := [], laidByText := true, laidKinds := [.handle, .data], laidTests := true, laidLooks := .later }
def FnExactSpanFromUptoCardSaid : Prop := Claim7.holds Tryz.pinned (.plain (OpenSpec.upto fnExactSpanFromSpec)) fnExactSpanFromUptoCard

/-- THE SECOND FORM's CARD OF 'laws.FnSpanText'. -/
def fnSpanTextUptoCard : Claim7 := { stood := { row := fnSpanTextUptoRow, standIns := [], harness := (true, "35dfa55203117b35d491a5eb926aa7c77674e1a354067bf25f4aaa6374ab80a8"), looks := true }, kinds := [], alts := [], laidByText := true, laidKinds := [.data, .handle, .data, .pinned], laidTests := true, laidLooks := .later }
def FnSpanTextUptoCardSaid : Prop := Claim7.holds Tryz.pinned (.plain (OpenSpec.upto fnSpanTextSpec)) fnSpanTextUptoCard

/-- THE SECOND FORM's CARD OF 'laws.FnSpanFrom'. -/
def fnSpanFromUptoCard : Claim7 := { stood := { row := fnSpanFromUptoRow, standIns := [], harness := (true, "35dfa55203117b35d491a5eb926aa7c77674e1a354067bf25f4aaa6374ab80a8"), looks := true }, kinds := [], alts := [], laidByText := true, laidKinds := [.handle, .data], laidTests := true, laidLooks := .later }
def FnSpanFromUptoCardSaid : Prop := Claim7.holds Tryz.pinned (.plain (OpenSpec.upto fnSpanFromSpec)) fnSpanFromUptoCard

/-- THE SECOND FORM's CARD OF 'laws.FnSpanPeriod'. -/
def fnSpanPeriodUptoCard : Claim7 := { stood := { row := fnSpanPeriodUptoRow, standIns := [], harness := (true, "35dfa55203117b35d491a5eb926aa7c77674e1a354067bf25f4aaa6374ab80a8"), looks := true }, kinds := [], alts := [], laidByText := true, laidKinds := [.data, .data, .data, .data, .handle, .data, .pinned], laidTests := true, laidLooks := .later }
def FnSpanPeriodUptoCardSaid : Prop := Claim7.holds Tryz.pinned (.plain (OpenSpec.upto fnSpanPeriodSpec)) fnSpanPeriodUptoCard

/-- THE SECOND FORM's CARD OF 'laws.FnSpanPeriodBack'. -/
def fnSpanPeriodBackUptoCard : Claim7 := { stood := { row := fnSpanPeriodBackUptoRow, standIns := [], harness := (true, "35dfa55203117b35d491a5eb926aa7c77674e1a354067bf25f4aaa6374ab80a8"), looks := true }, kinds := [], alts := [], laidByText := true, laidKinds := [.data, .data, .data, .data, .handle, .data, .pinned], laidTests := true, laidLooks := .later }
def FnSpanPeriodBackUptoCardSaid : Prop := Claim7.holds Tryz.pinned (.plain (OpenSpec.upto fnSpanPeriodBackSpec)) fnSpanPeriodBackUptoCard

/-- THE SECOND FORM's CARD OF 'laws.FnExactRepeatFrom'. -/
def fnExactRepeatFromUptoCard : Claim7 := { stood := { row := fnExactRepeatFromUptoRow, standIns := [], harness := (true, "35dfa55203117b35d491a5eb926aa7c77674e1a354067bf25f4aaa6374ab80a8"), looks := true }, kinds := [], alts := [], laidByText := true, laidKinds := [.handle, .data], laidTests := true, laidLooks := .later }
def FnExactRepeatFromUptoCardSaid : Prop := Claim7.holds Tryz.pinned (.plain (OpenSpec.upto fnExactRepeatFromSpec)) fnExactRepeatFromUptoCard

/-- THE SECOND FORM's CARD OF 'laws.FnRepeatText'. -/
def fnRepeatTextUptoCard : Claim7 := { stood := { row := fnRepeatTextUptoRow, standIns := [], harness := (true, "35dfa55203117b35d491a5eb926aa7c77674e1a354067bf25f4aaa6374ab80a8"), looks := true }, kinds := [], alts := [], laidByText := true, laidKinds := [.data, .data, .data, .data, .handle, .data, .pinned], laidTests := true, laidLooks := .later }
def FnRepeatTextUptoCardSaid : Prop := Claim7.holds Tryz.pinned (.plain (OpenSpec.upto fnRepeatTextSpec)) fnRepeatTextUptoCard

/-- THE SECOND FORM's CARD OF 'laws.FnRepeatFrom'. -/
def fnRepeatFromUptoCard : Claim7 := { stood := { row := fnRepeatFromUptoRow, standIns := [], harness := (true, "35dfa55203117b35d491a5eb926aa7c77674e1a354067bf25f4aaa6374ab80a8"), looks := true }, kinds := [], alts := [], laidByText := true, laidKinds := [.data, .data, .data, .data, .handle, .data, .pinned], laidTests := true, laidLooks := .later }
def FnRepeatFromUptoCardSaid : Prop := Claim7.holds Tryz.pinned (.plain (OpenSpec.upto fnRepeatFromSpec)) fnRepeatFromUptoCard
end Rows
end Go.Proofs.YtpgbmohocfcjpaaGreatDoor
