/- What the program's text shows of the row: closed facts, by themselves (they take much memory). -/
import Derived.Test.YtboglbdhibcacaaGreatDoorVs
namespace Go.Proofs.YtboglbdhibcacaaGreatDoor.FnScriptCut
set_option linter.unusedVariables false
set_option linter.unusedSimpArgs false
set_option maxRecDepth 100000
set_option maxHeartbeats 1000000
open Go.ChangeShapes Go.WideShapes Go.ChangeAt Go.RowKit Go.Joins

theorem goes : false = Rows.fnScriptCutRow.goesBy Tryz.pinned.checked.prog := by kernel_rfl

end Go.Proofs.YtboglbdhibcacaaGreatDoor.FnScriptCut
