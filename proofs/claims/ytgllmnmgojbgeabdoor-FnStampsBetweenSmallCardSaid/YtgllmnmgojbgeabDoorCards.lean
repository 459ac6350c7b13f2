/-
  DERIVED. GIVEN WITH THE SEED: THE CARDS: each row of YtgllmnmgojbgeabDoorRows.lean that lists a variable, with what it lists TIED to the program's text (the seventh form; the later family's looks); each row that meets fmt, with fmt's text TOLD by the authors' own Lean function (tested against real Go, not proved from fmt's source: count such statements apart). THE CARD IS WHAT COUNTS. Prove the row's statement (the work); the ties are given (YtgllmnmgojbgeabDoorTie.lean); close each card by the builder's one call (the guide's Derived/Test/ToyasCard.lean, 'card_holds'). Laid BY PROGRAM, IN A SANDBOX (cutbox-door.mjs). By AI agents, Wed Nov 11 2026. No macro, syntax, notation, axiom, sorry.
-/
import Derived.Test.YtgllmnmgojbgeabDoorRows
import GoSem.ClaimSeven
namespace Go.Proofs.YtgllmnmgojbgeabDoor
namespace Rows

/-- THE TIED CARD OF 'laws.FnStampsBetweenSmall'. -/
def fnStampsBetweenSmallCard : Claim7 := { stood := { row := fnStampsBetweenSmallRow, standIns := [], harness := (true, "79a2def15ab99dd8ca006e7028c0923773a62891138182547cc6ab1a62a72460"), looks := true }, kinds := [], alts := [], laidByText := true, laidKinds := [.data, .sentinel], laidTests := true, laidLooks := .later }
def FnStampsBetweenSmallCardSaid : Prop := Claim7.holds Tryd.pinned (.plain (OpenSpec.ofChange fnStampsBetweenSmallSpec)) fnStampsBetweenSmallCard

/-- THE SECOND FORM's CARD OF 'laws.FnStampsBetweenSmall'. -/
def fnStampsBetweenSmallUptoCard : Claim7 := { stood := { row := fnStampsBetweenSmallUptoRow, standIns := [], harness := (true, "79a2def15ab99dd8ca006e7028c0923773a62891138182547cc6ab1a62a72460"), looks := true }, kinds := [], alts := [], laidByText := true, laidKinds := [.data, .sentinel], laidTests := true, laidLooks := .later }
def FnStampsBetweenSmallUptoCardSaid : Prop := Claim7.holds Tryd.pinned (.plain (OpenSpec.upto fnStampsBetweenSmallSpec)) fnStampsBetweenSmallUptoCard
end Rows
end Go.Proofs.YtgllmnmgojbgeabDoor
