/-
  DERIVED. GIVEN WITH THE SEED: THE CARDS: each row of YtpodhahlbdlgeaaDoorRows.lean that lists a variable, with what it lists TIED to the program's text (the seventh form; the later family's looks); each row that meets fmt, with fmt's text TOLD by the authors' own Lean function (tested against real Go, not proved from fmt's source: count such statements apart). THE CARD IS WHAT COUNTS. Prove the row's statement (the work); the ties are given (YtpodhahlbdlgeaaDoorTie.lean); close each card by the builder's one call (the guide's Derived/Test/ToyasCard.lean, 'card_holds'). Laid BY PROGRAM, IN A SANDBOX (cutbox-door.mjs). By AI agents, Wed Nov 11 2026. No macro, syntax, notation, axiom, sorry.
-/
import Derived.Test.YtpodhahlbdlgeaaDoorRows
import GoSem.ClaimSeven
namespace Go.Proofs.YtpodhahlbdlgeaaDoor
namespace Rows

/-- THE TIED CARD OF 'laws.FnStampsBetween'. -/
def fnStampsBetweenCard : Claim7 := { stood := { row := fnStampsBetweenRow, standIns := [], harness := (true, "bbab56b1e3f348dac70fafa6c9cc5876d8c838a6efeb9cb1fdaff2ae1245b223"), looks := true }, kinds := [], alts := [], laidByText := true, laidKinds := [.data, .sentinel], laidTests := true, laidLooks := .later }
def FnStampsBetweenCardSaid : Prop := Claim7.holds Tryd.pinned (.plain (OpenSpec.ofChange fnStampsBetweenSpec)) fnStampsBetweenCard

/-- THE SECOND FORM's CARD OF 'laws.FnStampsBetween'. -/
def fnStampsBetweenUptoCard : Claim7 := { stood := { row := fnStampsBetweenUptoRow, standIns := [], harness := (true, "bbab56b1e3f348dac70fafa6c9cc5876d8c838a6efeb9cb1fdaff2ae1245b223"), looks := true }, kinds := [], alts := [], laidByText := true, laidKinds := [.data, .sentinel], laidTests := true, laidLooks := .later }
def FnStampsBetweenUptoCardSaid : Prop := Claim7.holds Tryd.pinned (.plain (OpenSpec.upto fnStampsBetweenSpec)) fnStampsBetweenUptoCard
end Rows
end Go.Proofs.YtpodhahlbdlgeaaDoor
