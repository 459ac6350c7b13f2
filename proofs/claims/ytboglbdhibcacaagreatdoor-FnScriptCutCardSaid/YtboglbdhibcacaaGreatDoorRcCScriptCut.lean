/- What the program's text shows of the row: closed facts, by themselves (they take much memory). -/
import Derived.Test.YtboglbdhibcacaaGreatDoorRcAScriptCut
namespace Go.Proofs.YtboglbdhibcacaaGreatDoor.FnScriptCut
set_option linter.unusedVariables false
set_option linter.unusedSimpArgs false
set_option maxRecDepth 100000
set_option maxHeartbeats 1000000
open Go.ChangeShapes Go.WideShapes Go.ChangeAt Go.RowKit Go.Joins

theorem closed : joinedFacts Tryz.pinned.checked.prog 4 Tryz.f4 (OpenSpec.ofChange Rows.fnScriptCutSpec).bare Rows.fnScriptCutRow = true := by
  simp only [joinedFacts, Bool.and_eq_true]
  repeat' apply And.intro
  iterate 9 (rotate_left)
  · exact k_inPlace
  · exact k_unfollowed
  · exact k_recurses
  · exact k_named
  all_goals kernel_rfl

end Go.Proofs.YtboglbdhibcacaaGreatDoor.FnScriptCut
