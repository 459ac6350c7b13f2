/-
  DERIVED. GIVEN WITH THE SEED: THE CARDS: each row of YtodmpdcffnmmkaaDoorRows.lean that lists a variable, with what it lists TIED to the program's text (the seventh form; the later family's looks); each row that meets fmt, with fmt's text TOLD by the authors' own Lean function (tested against real Go, not proved from fmt's source: count such statements apart). THE CARD IS WHAT COUNTS. Prove the row's statement (the work); the ties are given (YtodmpdcffnmmkaaDoorTie.lean); close each card by the builder's one call (the guide's Derived/Test/ToyasCard.lean, 'card_holds'). Laid BY PROGRAM, IN A SANDBOX (cutbox-door.mjs). By AI agents, Wed Nov 11 2026. No macro, syntax, notation, axiom, sorry.
-/
import Derived.Test.YtodmpdcffnmmkaaDoorRows
import GoSem.ClaimSeven
namespace Go.Proofs.YtodmpdcffnmmkaaDoor
namespace Rows

/-- THE TIED CARD OF 'laws.FnExactStampFrom'. -/
def fnExactStampFromCard : Claim7 := { stood := { row := fnExactStampFromRow, standIns := [], harness := (true, "3cff394b4f8f510c003dd74c539e59cd7d439f7f113d45f4374127cf603c568d"), looks := true }, kinds := [], alts := [], laidByText := true, laidKinds := [.handle, .data], laidTests := true, laidLooks := .later }
def FnExactStampFromCardSaid : Prop := Claim7.holds Tryd.pinned (.plain (OpenSpec.ofChange fnExactStampFromSpec)) fnExactStampFromCard

/-- THE SECOND FORM's CARD OF 'laws.FnExactStampFrom'. -/
def fnExactStampFromUptoCard : Claim7 := { stood := { row := fnExactStampFromUptoRow, standIns := [], harness := (true, "3cff394b4f8f510c003dd74c539e59cd7d439f7f113d45f4374127cf603c568d"), looks := true }, kinds := [], alts := [], laidByText := true, laidKinds := [.handle, .data], laidTests := true, laidLooks := .later }
def FnExactStampFromUptoCardSaid : Prop := Claim7.holds Tryd.pinned (.plain (OpenSpec.upto fnExactStampFromSpec)) fnExactStampFromUptoCard
end Rows
end Go.Proofs.YtodmpdcffnmmkaaDoor
