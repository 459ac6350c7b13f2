/- What the rows' conditions give the walks; a world for the witness; the end of every law's row. -/
import Derived.Test.YtdhlbaccbeahoaaDoorCards
import Derived.Test.YtdhlbaccbeahoaaDoorTie
import Derived.Test.YtdhlbaccbeahoaaDoorPlain
import Derived.Test.YtdhlbaccbeahoaaDoorEnd
import Derived.WalkKit
import Derived.ProofKit
import Derived.OpenShut
import Derived.Deep.DeepHandedRow
import Derived.Lib.LaidTab
import Derived.Lib.SmallJoins
import Derived.Stop.Joined
import Derived.Stop.LaidErr
import Derived.OpenVars
namespace Go.Proofs.YtdhlbaccbeahoaaDoor
set_option linter.unusedVariables false
set_option linter.unusedSimpArgs false
open Go.ChangeShapes Go.WideShapes Go.ChangeAt Go.RowKit Go.Joins


theorem Tryd.own : ownKnob Tryd.prog.godebug = none := by kernel_rfl

theorem Tryd.laidOut : laidOutB Tryd.prog = true := by kernel_rfl

theorem Tryd.gM : Tryd.prog.globalNamed "loop.example/datenotation/impl.monthDays" = some 0 := by kernel_rfl

theorem Tryd.gMType : (Tryd.prog.globals[0]?).map (·.type) = some 79 := by kernel_rfl

theorem Tryd.cellsM : Tryd.prog.cellsOf 79 = 12 := by kernel_rfl

theorem Tryd.cellsI : Tryd.prog.cellsOf 3 = 1 := by kernel_rfl

theorem Tryd.cellsT : Tryd.prog.cellsOf 9 = 1 := by kernel_rfl

theorem Tryd.star : "*" ++ "errors.errorString" = "*errors.errorString" := by decide

abbrev laidMD : List (String × DataW Unit) := [("loop.example/datenotation/impl.monthDays", Rows.laid_loop_example_datenotation_impl_monthDays)]

theorem base_md {W : World} (h : laidMetH Tryd.prog laidMD W) : D.Base W := by
  have hm : laidMet Tryd.prog laidMD W := h
  have hT := Lib.tabIs_of_head (k := .i64) (zs := D.mdTab) Tryd.gM Tryd.gMType Tryd.underlying79 Tryd.underlying3 Tryd.cellsI Tryd.cellsM hm
  have h1 := World.block_lt_of_cell? _ _ (hT.cell Tryd.gM 0 (by decide))
  exact { size := by show 1 ≤ _; simp only at h1; omega, tab := fun i hi => hT.cell Tryd.gM i hi }

abbrev backText : ByteArray := { data := #[98, 97, 99, 107, 119, 97, 114, 100, 115] }

/- The number of the block behind the settled ones. -/
noncomputable def topOf : Nat := (World.holding Tryd.prog default ⟨#[], #[], []⟩).heap.size

/- A world that meets the conditions of the rows that name the months alone. -/
noncomputable def laidWorldM (os : Os) : World :=
  let w0 := World.holding Tryd.prog os ⟨#[], #[], []⟩
  { w0 with heap := w0.heap.modify 0 fun
      | .cells _ t frozen => .cells #[.int .i64 31, .int .i64 28, .int .i64 31, .int .i64 30, .int .i64 31, .int .i64 30, .int .i64 31, .int .i64 31, .int .i64 30, .int .i64 31, .int .i64 30, .int .i64 31] t frozen
      | o => o }

theorem laid_metM (os : Os) (args : Array Value) : laidMetH Tryd.prog laidMD ((laidWorldM os).forCall (fun _ _ => 0) ⟨#[], args, []⟩).memory :=
  laidMet_of_run' 8 (by kernel_rfl) (by kernel_rfl)

end Go.Proofs.YtdhlbaccbeahoaaDoor
