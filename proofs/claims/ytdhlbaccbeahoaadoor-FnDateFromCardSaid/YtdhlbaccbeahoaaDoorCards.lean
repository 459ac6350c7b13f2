/-
  DERIVED. GIVEN WITH THE SEED: THE CARDS: each row of YtdhlbaccbeahoaaDoorRows.lean that lists a variable, with what it lists TIED to the program's text (the seventh form; the later family's looks); each row that meets fmt, with fmt's text TOLD by the authors' own Lean function (tested against real Go, not proved from fmt's source: count such statements apart). THE CARD IS WHAT COUNTS. Prove the row's statement (the work); the ties are given (YtdhlbaccbeahoaaDoorTie.lean); close each card by the builder's one call (the guide's Derived/Test/ToyasCard.lean, 'card_holds'). Laid BY PROGRAM, IN A SANDBOX (cutbox-door.mjs). By AI agents, Wed Nov 11 2026. No macro, syntax, notation, axiom, sorry.
-/
import Derived.Test.YtdhlbaccbeahoaaDoorRows
import GoSem.ClaimSeven
namespace Go.Proofs.YtdhlbaccbeahoaaDoor
namespace Rows

/-- THE TIED CARD OF 'laws.FnDateText'. -/
def fnDateTextCard : Claim7 := { stood := { row := fnDateTextRow, standIns := [], harness := (true, "037aef8572587df7730403c99c6378db7a27d4b37eeafcd4db4af7cd22b0852e"), looks := true }, kinds := [], alts := [], laidByText := true, laidKinds := [.data], laidTests := true, laidLooks := .later }
def FnDateTextCardSaid : Prop := Claim7.holds Tryd.pinned (.plain (OpenSpec.ofChange fnDateTextSpec)) fnDateTextCard

/-- THE TIED CARD OF 'laws.FnDateFrom'. -/
def fnDateFromCard : Claim7 := { stood := { row := fnDateFromRow, standIns := [], harness := (true, "037aef8572587df7730403c99c6378db7a27d4b37eeafcd4db4af7cd22b0852e"), looks := true }, kinds := [], alts := [], laidByText := true, laidKinds := [.data], laidTests := true, laidLooks := .later }
def FnDateFromCardSaid : Prop := Claim7.holds Tryd.pinned (.plain (OpenSpec.ofChange fnDateFromSpec)) fnDateFromCard

/-- THE SECOND FORM's CARD OF 'laws.FnDateText'. -/
def fnDateTextUptoCard : Claim7 := { stood := { row := fnDateTextUptoRow, standIns := [], harness := (true, "037aef8572587df7730403c99c6378db7a27d4b37eeafcd4db4af7cd22b0852e"), looks := true }, kinds := [], alts := [], laidByText := true, laidKinds := [.data], laidTests := true, laidLooks := .later }
def FnDateTextUptoCardSaid : Prop := Claim7.holds Tryd.pinned (.plain (OpenSpec.upto fnDateTextSpec)) fnDateTextUptoCard

/-- THE SECOND FORM's CARD OF 'laws.FnDateFrom'. -/
def fnDateFromUptoCard : Claim7 := { stood := { row := fnDateFromUptoRow, standIns := [], harness := (true, "037aef8572587df7730403c99c6378db7a27d4b37eeafcd4db4af7cd22b0852e"), looks := true }, kinds := [], alts := [], laidByText := true, laidKinds := [.data], laidTests := true, laidLooks := .later }
def FnDateFromUptoCardSaid : Prop := Claim7.holds Tryd.pinned (.plain (OpenSpec.upto fnDateFromSpec)) fnDateFromUptoCard
end Rows
end Go.Proofs.YtdhlbaccbeahoaaDoor
