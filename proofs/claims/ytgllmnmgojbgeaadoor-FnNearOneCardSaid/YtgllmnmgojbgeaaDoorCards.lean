/-
  DERIVED. GIVEN WITH THE SEED: THE CARDS: each row of YtgllmnmgojbgeaaDoorRows.lean that lists a variable, with what it lists TIED to the program's text (the seventh form; the later family's looks); each row that meets fmt, with fmt's text TOLD by the authors' own Lean function (tested against real Go, not proved from fmt's source: count such statements apart). THE CARD IS WHAT COUNTS. Prove the row's statement (the work); the ties are given (YtgllmnmgojbgeaaDoorTie.lean); close each card by the builder's one call (the guide's Derived/Test/ToyasCard.lean, 'card_holds'). Laid BY PROGRAM, IN A SANDBOX (cutbox-door.mjs). By AI agents, Wed Nov 11 2026. No macro, syntax, notation, axiom, sorry.
-/
import Derived.Test.YtgllmnmgojbgeaaDoorRows
import GoSem.ClaimSeven
namespace Go.Proofs.YtgllmnmgojbgeaaDoor
namespace Rows

/-- THE TIED CARD OF 'laws.FnBetweenMost'. -/
def fnBetweenMostCard : Claim7 := { stood := { row := fnBetweenMostRow, standIns := [], harness := (true, "a1f0706f38e174d9987618d3d4f380090c527ae52d80c2e3a16b61cd96d7cef3"), looks := true }, kinds := [], alts := [], laidByText := true, laidKinds := [.data, .sentinel], laidTests := true, laidLooks := .later }
def FnBetweenMostCardSaid : Prop := Claim7.holds Tryd.pinned (.plain (OpenSpec.ofChange fnBetweenMostSpec)) fnBetweenMostCard

/-- THE TIED CARD OF 'laws.FnBetweenWhen'. -/
def fnBetweenWhenCard : Claim7 := { stood := { row := fnBetweenWhenRow, standIns := [], harness := (true, "a1f0706f38e174d9987618d3d4f380090c527ae52d80c2e3a16b61cd96d7cef3"), looks := true }, kinds := [], alts := [], laidByText := true, laidKinds := [.data, .sentinel], laidTests := true, laidLooks := .later }
def FnBetweenWhenCardSaid : Prop := Claim7.holds Tryd.pinned (.plain (OpenSpec.ofChange fnBetweenWhenSpec)) fnBetweenWhenCard

/-- THE TIED CARD OF 'laws.FnDown'. -/
def fnDownCard : Claim7 := { stood := { row := fnDownRow, standIns := [], harness := (true, "a1f0706f38e174d9987618d3d4f380090c527ae52d80c2e3a16b61cd96d7cef3"), looks := true }, kinds := [], alts := [], laidByText := true, laidKinds := [.data], laidTests := true, laidLooks := .later }
def FnDownCardSaid : Prop := Claim7.holds Tryd.pinned (.plain (OpenSpec.ofChange fnDownSpec)) fnDownCard

/-- THE TIED CARD OF 'laws.FnBetweenSmall'. -/
def fnBetweenSmallCard : Claim7 := { stood := { row := fnBetweenSmallRow, standIns := [], harness := (true, "a1f0706f38e174d9987618d3d4f380090c527ae52d80c2e3a16b61cd96d7cef3"), looks := true }, kinds := [], alts := [], laidByText := true, laidKinds := [.data, .sentinel], laidTests := true, laidLooks := .later }
def FnBetweenSmallCardSaid : Prop := Claim7.holds Tryd.pinned (.plain (OpenSpec.ofChange fnBetweenSmallSpec)) fnBetweenSmallCard

/-- THE TIED CARD OF 'laws.FnUpDown'. -/
def fnUpDownCard : Claim7 := { stood := { row := fnUpDownRow, standIns := [], harness := (true, "a1f0706f38e174d9987618d3d4f380090c527ae52d80c2e3a16b61cd96d7cef3"), looks := true }, kinds := [], alts := [], laidByText := true, laidKinds := [.data], laidTests := true, laidLooks := .later }
def FnUpDownCardSaid : Prop := Claim7.holds Tryd.pinned (.plain (OpenSpec.ofChange fnUpDownSpec)) fnUpDownCard

/-- THE TIED CARD OF 'laws.FnUp'. -/
def fnUpCard : Claim7 := { stood := { row := fnUpRow, standIns := [], harness := (true, "a1f0706f38e174d9987618d3d4f380090c527ae52d80c2e3a16b61cd96d7cef3"), looks := true }, kinds := [], alts := [], laidByText := true, laidKinds := [.data], laidTests := true, laidLooks := .later }
def FnUpCardSaid : Prop := Claim7.holds Tryd.pinned (.plain (OpenSpec.ofChange fnUpSpec)) fnUpCard

/-- THE TIED CARD OF 'laws.FnAge'. -/
def fnAgeCard : Claim7 := { stood := { row := fnAgeRow, standIns := [], harness := (true, "a1f0706f38e174d9987618d3d4f380090c527ae52d80c2e3a16b61cd96d7cef3"), looks := true }, kinds := [], alts := [], laidByText := true, laidKinds := [.data, .sentinel], laidTests := true, laidLooks := .later }
def FnAgeCardSaid : Prop := Claim7.holds Tryd.pinned (.plain (OpenSpec.ofChange fnAgeSpec)) fnAgeCard

/-- THE TIED CARD OF 'laws.FnNearOne'. -/
def fnNearOneCard : Claim7 := { stood := { row := fnNearOneRow, standIns := [], harness := (true, "a1f0706f38e174d9987618d3d4f380090c527ae52d80c2e3a16b61cd96d7cef3"), looks := true }, kinds := [], alts := [], laidByText := true, laidKinds := [.data], laidTests := true, laidLooks := .later }
def FnNearOneCardSaid : Prop := Claim7.holds Tryd.pinned (.plain (OpenSpec.ofChange fnNearOneSpec)) fnNearOneCard

/-- THE TIED CARD OF 'laws.FnNear'. -/
def fnNearCard : Claim7 := { stood := { row := fnNearRow, standIns := [], harness := (true, "a1f0706f38e174d9987618d3d4f380090c527ae52d80c2e3a16b61cd96d7cef3"), looks := true }, kinds := [], alts := [], laidByText := true, laidKinds := [.data], laidTests := true, laidLooks := .later }
def FnNearCardSaid : Prop := Claim7.holds Tryd.pinned (.plain (OpenSpec.ofChange fnNearSpec)) fnNearCard

/-- THE TIED CARD OF 'laws.FnAgeNext'. -/
def fnAgeNextCard : Claim7 := { stood := { row := fnAgeNextRow, standIns := [], harness := (true, "a1f0706f38e174d9987618d3d4f380090c527ae52d80c2e3a16b61cd96d7cef3"), looks := true }, kinds := [], alts := [], laidByText := true, laidKinds := [.data, .sentinel], laidTests := true, laidLooks := .later }
def FnAgeNextCardSaid : Prop := Claim7.holds Tryd.pinned (.plain (OpenSpec.ofChange fnAgeNextSpec)) fnAgeNextCard

/-- THE TIED CARD OF 'laws.FnBetween'. -/
def fnBetweenCard : Claim7 := { stood := { row := fnBetweenRow, standIns := [], harness := (true, "a1f0706f38e174d9987618d3d4f380090c527ae52d80c2e3a16b61cd96d7cef3"), looks := true }, kinds := [], alts := [], laidByText := true, laidKinds := [.data, .sentinel], laidTests := true, laidLooks := .later }
def FnBetweenCardSaid : Prop := Claim7.holds Tryd.pinned (.plain (OpenSpec.ofChange fnBetweenSpec)) fnBetweenCard

/-- THE SECOND FORM's CARD OF 'laws.FnBetweenMost'. -/
def fnBetweenMostUptoCard : Claim7 := { stood := { row := fnBetweenMostUptoRow, standIns := [], harness := (true, "a1f0706f38e174d9987618d3d4f380090c527ae52d80c2e3a16b61cd96d7cef3"), looks := true }, kinds := [], alts := [], laidByText := true, laidKinds := [.data, .sentinel], laidTests := true, laidLooks := .later }
def FnBetweenMostUptoCardSaid : Prop := Claim7.holds Tryd.pinned (.plain (OpenSpec.upto fnBetweenMostSpec)) fnBetweenMostUptoCard

/-- THE SECOND FORM's CARD OF 'laws.FnBetweenWhen'. -/
def fnBetweenWhenUptoCard : Claim7 := { stood := { row := fnBetweenWhenUptoRow, standIns := [], harness := (true, "a1f0706f38e174d9987618d3d4f380090c527ae52d80c2e3a16b61cd96d7cef3"), looks := true }, kinds := [], alts := [], laidByText := true, laidKinds := [.data, .sentinel], laidTests := true, laidLooks := .later }
def FnBetweenWhenUptoCardSaid : Prop := Claim7.holds Tryd.pinned (.plain (OpenSpec.upto fnBetweenWhenSpec)) fnBetweenWhenUptoCard

/-- THE SECOND FORM's CARD OF 'laws.FnDown'. -/
def fnDownUptoCard : Claim7 := { stood := { row := fnDownUptoRow, standIns := [], harness := (true, "a1f0706f38e174d9987618d3d4f380090c527ae52d80c2e3a16b61cd96d7cef3"), looks := true }, kinds := [], alts := [], laidByText := true, laidKinds := [.data], laidTests := true, laidLooks := .later }
def FnDownUptoCardSaid : Prop := Claim7.holds Tryd.pinned (.plain (OpenSpec.upto fnDownSpec)) fnDownUptoCard

/-- THE SECOND FORM's CARD OF 'laws.FnBetweenSmall'. -/
def fnBetweenSmallUptoCard : Claim7 := { stood := { row := fnBetweenSmallUptoRow, standIns := [], harness := (true, "a1f0706f38e174d9987618d3d4f380090c527ae52d80c2e3a16b61cd96d7cef3"), looks := true }, kinds := [], alts := [], laidByText := true, laidKinds := [.data, .sentinel], laidTests := true, laidLooks := .later }
def FnBetweenSmallUptoCardSaid : Prop := Claim7.holds Tryd.pinned (.plain (OpenSpec.upto fnBetweenSmallSpec)) fnBetweenSmallUptoCard

/-- THE SECOND FORM's CARD OF 'laws.FnUpDown'. -/
def fnUpDownUptoCard : Claim7 := { stood := { row := fnUpDownUptoRow, standIns := [], harness := (true, "a1f0706f38e174d9987618d3d4f380090c527ae52d80c2e3a16b61cd96d7cef3"), looks := true }, kinds := [], alts := [], laidByText := true, laidKinds := [.data], laidTests := true, laidLooks := .later }
def FnUpDownUptoCardSaid : Prop := Claim7.holds Tryd.pinned (.plain (OpenSpec.upto fnUpDownSpec)) fnUpDownUptoCard

/-- THE SECOND FORM's CARD OF 'laws.FnUp'. -/
def fnUpUptoCard : Claim7 := { stood := { row := fnUpUptoRow, standIns := [], harness := (true, "a1f0706f38e174d9987618d3d4f380090c527ae52d80c2e3a16b61cd96d7cef3"), looks := true }, kinds := [], alts := [], laidByText := true, laidKinds := [.data], laidTests := true, laidLooks := .later }
def FnUpUptoCardSaid : Prop := Claim7.holds Tryd.pinned (.plain (OpenSpec.upto fnUpSpec)) fnUpUptoCard

/-- THE SECOND FORM's CARD OF 'laws.FnAge'. -/
def fnAgeUptoCard : Claim7 := { stood := { row := fnAgeUptoRow, standIns := [], harness := (true, "a1f0706f38e174d9987618d3d4f380090c527ae52d80c2e3a16b61cd96d7cef3"), looks := true }, kinds := [], alts := [], laidByText := true, laidKinds := [.data, .sentinel], laidTests := true, laidLooks := .later }
def FnAgeUptoCardSaid : Prop := Claim7.holds Tryd.pinned (.plain (OpenSpec.upto fnAgeSpec)) fnAgeUptoCard

/-- THE SECOND FORM's CARD OF 'laws.FnNearOne'. -/
def fnNearOneUptoCard : Claim7 := { stood := { row := fnNearOneUptoRow, standIns := [], harness := (true, "a1f0706f38e174d9987618d3d4f380090c527ae52d80c2e3a16b61cd96d7cef3"), looks := true }, kinds := [], alts := [], laidByText := true, laidKinds := [.data], laidTests := true, laidLooks := .later }
def FnNearOneUptoCardSaid : Prop := Claim7.holds Tryd.pinned (.plain (OpenSpec.upto fnNearOneSpec)) fnNearOneUptoCard

/-- THE SECOND FORM's CARD OF 'laws.FnNear'. -/
def fnNearUptoCard : Claim7 := { stood := { row := fnNearUptoRow, standIns := [], harness := (true, "a1f0706f38e174d9987618d3d4f380090c527ae52d80c2e3a16b61cd96d7cef3"), looks := true }, kinds := [], alts := [], laidByText := true, laidKinds := [.data], laidTests := true, laidLooks := .later }
def FnNearUptoCardSaid : Prop := Claim7.holds Tryd.pinned (.plain (OpenSpec.upto fnNearSpec)) fnNearUptoCard

/-- THE SECOND FORM's CARD OF 'laws.FnAgeNext'. -/
def fnAgeNextUptoCard : Claim7 := { stood := { row := fnAgeNextUptoRow, standIns := [], harness := (true, "a1f0706f38e174d9987618d3d4f380090c527ae52d80c2e3a16b61cd96d7cef3"), looks := true }, kinds := [], alts := [], laidByText := true, laidKinds := [.data, .sentinel], laidTests := true, laidLooks := .later }
def FnAgeNextUptoCardSaid : Prop := Claim7.holds Tryd.pinned (.plain (OpenSpec.upto fnAgeNextSpec)) fnAgeNextUptoCard

/-- THE SECOND FORM's CARD OF 'laws.FnBetween'. -/
def fnBetweenUptoCard : Claim7 := { stood := { row := fnBetweenUptoRow, standIns := [], harness := (true, "a1f0706f38e174d9987618d3d4f380090c527ae52d80c2e3a16b61cd96d7cef3"), looks := true }, kinds := [], alts := [], laidByText := true, laidKinds := [.data, .sentinel], laidTests := true, laidLooks := .later }
def FnBetweenUptoCardSaid : Prop := Claim7.holds Tryd.pinned (.plain (OpenSpec.upto fnBetweenSpec)) fnBetweenUptoCard
end Rows
end Go.Proofs.YtgllmnmgojbgeaaDoor
