/- What the program's text shows of the row: closed facts, by themselves (they take much memory). -/
import Derived.Test.YtboglbdhibcacaaGreatDoorVs
namespace Go.Proofs.YtboglbdhibcacaaGreatDoor.FnScript
set_option linter.unusedVariables false
set_option linter.unusedSimpArgs false
set_option maxRecDepth 100000
set_option maxHeartbeats 1000000
open Go.ChangeShapes Go.WideShapes Go.ChangeAt Go.RowKit Go.Joins

theorem k_inPlace : (Rows.fnScriptRow.inPlace == Tryz.pinned.checked.prog.inPlace 7) = true := by kernel_rfl

theorem k_unfollowed : (Rows.fnScriptRow.unfollowed == Tryz.pinned.checked.prog.unfollowed 7) = true := by kernel_rfl

end Go.Proofs.YtboglbdhibcacaaGreatDoor.FnScript

namespace Go.Proofs.YtboglbdhibcacaaGreatDoor.FnScript
set_option linter.unusedVariables false
set_option linter.unusedSimpArgs false
set_option maxRecDepth 100000
set_option maxHeartbeats 1000000
open Go.ChangeShapes Go.WideShapes Go.ChangeAt Go.RowKit Go.Joins

theorem k_recurses : (Rows.fnScriptRow.recurses == Tryz.pinned.checked.prog.recurses 7) = true := by kernel_rfl

theorem k_named : (Rows.fnScriptRow.named == Tryz.pinned.checked.prog.varsNamed 7) = true := by kernel_rfl

end Go.Proofs.YtboglbdhibcacaaGreatDoor.FnScript
