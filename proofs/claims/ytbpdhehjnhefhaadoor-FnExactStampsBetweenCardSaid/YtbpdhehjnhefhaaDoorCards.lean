/-
  DERIVED. GIVEN WITH THE SEED: THE CARDS: each row of YtbpdhehjnhefhaaDoorRows.lean that lists a variable, with what it lists TIED to the program's text (the seventh form; the later family's looks); each row that meets fmt, with fmt's text TOLD by the authors' own Lean function (tested against real Go, not proved from fmt's source: count such statements apart). THE CARD IS WHAT COUNTS. Prove the row's statement (the work); the ties are given (YtbpdhehjnhefhaaDoorTie.lean); close each card by the builder's one call (the guide's Derived/Test/ToyasCard.lean, 'card_holds'). Laid BY PROGRAM, IN A SANDBOX (cutbox-door.mjs). By AI agents, Wed Nov 11 2026. No macro, syntax, notation, axiom, sorry.
-/
import Derived.Test.YtbpdhehjnhefhaaDoorRows
import GoSem.ClaimSeven
namespace Go.Proofs.YtbpdhehjnhefhaaDoor
namespace Rows

/-- THE TIED CARD OF 'laws.FnExactAgeOf'. -/
def fnExactAgeOfCard : Claim7 := { stood := { row := fnExactAgeOfRow, standIns := [], harness := (true, "030b1688f05f0d61fc64094039ce6dd20b28e103df5ead2c74debef22e85db72"), looks := true }, kinds := [], alts := [], laidByText := true, laidKinds := [.data, .sentinel], laidTests := true, laidLooks := .later }
def FnExactAgeOfCardSaid : Prop := Claim7.holds Tryd.pinned (.plain (OpenSpec.ofChange fnExactAgeOfSpec)) fnExactAgeOfCard

/-- THE TIED CARD OF 'laws.FnExactDatesBetween'. -/
def fnExactDatesBetweenCard : Claim7 := { stood := { row := fnExactDatesBetweenRow, standIns := [], harness := (true, "030b1688f05f0d61fc64094039ce6dd20b28e103df5ead2c74debef22e85db72"), looks := true }, kinds := [], alts := [], laidByText := true, laidKinds := [.data, .sentinel], laidTests := true, laidLooks := .later }
def FnExactDatesBetweenCardSaid : Prop := Claim7.holds Tryd.pinned (.plain (OpenSpec.ofChange fnExactDatesBetweenSpec)) fnExactDatesBetweenCard

/-- THE TIED CARD OF 'laws.FnExactStampsBetween'. -/
def fnExactStampsBetweenCard : Claim7 := { stood := { row := fnExactStampsBetweenRow, standIns := [], harness := (true, "030b1688f05f0d61fc64094039ce6dd20b28e103df5ead2c74debef22e85db72"), looks := true }, kinds := [], alts := [], laidByText := true, laidKinds := [.data, .sentinel], laidTests := true, laidLooks := .later }
def FnExactStampsBetweenCardSaid : Prop := Claim7.holds Tryd.pinned (.plain (OpenSpec.ofChange fnExactStampsBetweenSpec)) fnExactStampsBetweenCard

/-- THE SECOND FORM's CARD OF 'laws.FnExactAgeOf'. -/
def fnExactAgeOfUptoCard : Claim7 := { stood := { row := fnExactAgeOfUptoRow, standIns := [], harness := (true, "030b1688f05f0d61fc64094039ce6dd20b28e103df5ead2c74debef22e85db72"), looks := true }, kinds := [], alts := [], laidByText := true, laidKinds := [.data, .sentinel], laidTests := true, laidLooks := .later }
def FnExactAgeOfUptoCardSaid : Prop := Claim7.holds Tryd.pinned (.plain (OpenSpec.upto fnExactAgeOfSpec)) fnExactAgeOfUptoCard

/-- THE SECOND FORM's CARD OF 'laws.FnExactDatesBetween'. -/
def fnExactDatesBetweenUptoCard : Claim7 := { stood := { row := fnExactDatesBetweenUptoRow, standIns := [], harness := (true, "030b1688f05f0d61fc64094039ce6dd20b28e103df5ead2c74debef22e85db72"), looks := true }, kinds := [], alts := [], laidByText := true, laidKinds := [.data, .sentinel], laidTests := true, laidLooks := .later }
def FnExactDatesBetweenUptoCardSaid : Prop := Claim7.holds Tryd.pinned (.plain (OpenSpec.upto fnExactDatesBetweenSpec)) fnExactDatesBetweenUptoCard

/-- THE SECOND FORM's CARD OF 'laws.FnExactStampsBetween'. -/
def fnExactStampsBetweenUptoCard : Claim7 := { stood := { row := fnExactStampsBetweenUptoRow, standIns := [], harness := (true, "030b1688f05f0d61fc64094039ce6dd20b28e103df5ead2c74debef22e85db72"), looks := true }, kinds := [], alts := [], laidByText := true, laidKinds := [.data, .sentinel], laidTests := true, laidLooks := .later }
def FnExactStampsBetweenUptoCardSaid : Prop := Claim7.holds Tryd.pinned (.plain (OpenSpec.upto fnExactStampsBetweenSpec)) fnExactStampsBetweenUptoCard
end Rows
end Go.Proofs.YtbpdhehjnhefhaaDoor
