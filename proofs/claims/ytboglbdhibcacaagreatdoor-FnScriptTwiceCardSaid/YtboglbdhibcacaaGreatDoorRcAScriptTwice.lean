/- What the program's text shows of the row: closed facts, by themselves (they take much memory). -/
import Derived.Test.YtboglbdhibcacaaGreatDoorVs
namespace Go.Proofs.YtboglbdhibcacaaGreatDoor.FnScriptTwice
set_option linter.unusedVariables false
set_option linter.unusedSimpArgs false
set_option maxRecDepth 100000
set_option maxHeartbeats 1000000
open Go.ChangeShapes Go.WideShapes Go.ChangeAt Go.RowKit Go.Joins

theorem k_inPlace : (Rows.fnScriptTwiceRow.inPlace == Tryz.pinned.checked.prog.inPlace 5) = true := by kernel_rfl

theorem k_unfollowed : (Rows.fnScriptTwiceRow.unfollowed == Tryz.pinned.checked.prog.unfollowed 5) = true := by kernel_rfl

end Go.Proofs.YtboglbdhibcacaaGreatDoor.FnScriptTwice

namespace Go.Proofs.YtboglbdhibcacaaGreatDoor.FnScriptTwice
set_option linter.unusedVariables false
set_option linter.unusedSimpArgs false
set_option maxRecDepth 100000
set_option maxHeartbeats 1000000
open Go.ChangeShapes Go.WideShapes Go.ChangeAt Go.RowKit Go.Joins

theorem k_recurses : (Rows.fnScriptTwiceRow.recurses == Tryz.pinned.checked.prog.recurses 5) = true := by kernel_rfl

theorem k_named : (Rows.fnScriptTwiceRow.named == Tryz.pinned.checked.prog.varsNamed 5) = true := by kernel_rfl

end Go.Proofs.YtboglbdhibcacaaGreatDoor.FnScriptTwice
