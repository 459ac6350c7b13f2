/- What the program's text shows of the row: closed facts, by themselves (they take much memory). -/
import Derived.Test.YtboglbdhibcacaaGreatDoorVs
namespace Go.Proofs.YtboglbdhibcacaaGreatDoor.FnExactExecute
set_option linter.unusedVariables false
set_option linter.unusedSimpArgs false
set_option maxRecDepth 100000
set_option maxHeartbeats 1000000
open Go.ChangeShapes Go.WideShapes Go.ChangeAt Go.RowKit Go.Joins

theorem k_inPlace : (Rows.fnExactExecuteRow.inPlace == Tryz.pinned.checked.prog.inPlace 6) = true := by kernel_rfl

theorem k_unfollowed : (Rows.fnExactExecuteRow.unfollowed == Tryz.pinned.checked.prog.unfollowed 6) = true := by kernel_rfl

end Go.Proofs.YtboglbdhibcacaaGreatDoor.FnExactExecute

namespace Go.Proofs.YtboglbdhibcacaaGreatDoor.FnExactExecute
set_option linter.unusedVariables false
set_option linter.unusedSimpArgs false
set_option maxRecDepth 100000
set_option maxHeartbeats 1000000
open Go.ChangeShapes Go.WideShapes Go.ChangeAt Go.RowKit Go.Joins

theorem k_recurses : (Rows.fnExactExecuteRow.recurses == Tryz.pinned.checked.prog.recurses 6) = true := by kernel_rfl

theorem k_named : (Rows.fnExactExecuteRow.named == Tryz.pinned.checked.prog.varsNamed 6) = true := by kernel_rfl

end Go.Proofs.YtboglbdhibcacaaGreatDoor.FnExactExecute
