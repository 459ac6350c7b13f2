/- What the program's text shows of the row: closed facts, by themselves (they take much memory). -/
import Derived.Test.YtboglbdhibcacaaGreatDoorVs
namespace Go.Proofs.YtboglbdhibcacaaGreatDoor.FnScriptBetween
set_option linter.unusedVariables false
set_option linter.unusedSimpArgs false
set_option maxRecDepth 100000
set_option maxHeartbeats 1000000
open Go.ChangeShapes Go.WideShapes Go.ChangeAt Go.RowKit Go.Joins

theorem k_inPlace : (Rows.fnScriptBetweenRow.inPlace == Tryz.pinned.checked.prog.inPlace 9) = true := by kernel_rfl

theorem k_unfollowed : (Rows.fnScriptBetweenRow.unfollowed == Tryz.pinned.checked.prog.unfollowed 9) = true := by kernel_rfl

end Go.Proofs.YtboglbdhibcacaaGreatDoor.FnScriptBetween

namespace Go.Proofs.YtboglbdhibcacaaGreatDoor.FnScriptBetween
set_option linter.unusedVariables false
set_option linter.unusedSimpArgs false
set_option maxRecDepth 100000
set_option maxHeartbeats 1000000
open Go.ChangeShapes Go.WideShapes Go.ChangeAt Go.RowKit Go.Joins

theorem k_recurses : (Rows.fnScriptBetweenRow.recurses == Tryz.pinned.checked.prog.recurses 9) = true := by kernel_rfl

theorem k_named : (Rows.fnScriptBetweenRow.named == Tryz.pinned.checked.prog.varsNamed 9) = true := by kernel_rfl

end Go.Proofs.YtboglbdhibcacaaGreatDoor.FnScriptBetween
