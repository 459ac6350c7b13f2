/- What the rows' conditions give the walks; a world for the witness; the end of every law's row. -/
import Derived.Test.YtpodhahlbdlgeaaDoorCards
import Derived.Test.YtpodhahlbdlgeaaDoorTie
import Derived.Test.YtpodhahlbdlgeaaDoorPlain
import Derived.Test.YtpodhahlbdlgeaaDoorEnd
import Derived.WalkKit
import Derived.ProofKit
import Derived.OpenShut
import Derived.Deep.DeepHandedRow
import Derived.Lib.LaidTab
import Derived.Lib.SmallJoins
import Derived.Stop.Joined
import Derived.Stop.LaidErr
import Derived.OpenVars
namespace Go.Proofs.YtpodhahlbdlgeaaDoor
set_option linter.unusedVariables false
set_option linter.unusedSimpArgs false
open Go.ChangeShapes Go.WideShapes Go.ChangeAt Go.RowKit Go.Joins


theorem Tryd.own : ownKnob Tryd.prog.godebug = none := by kernel_rfl

theorem Tryd.laidOut : laidOutB Tryd.prog = true := by kernel_rfl

theorem Tryd.gM : Tryd.prog.globalNamed "loop.example/datenotation/impl.monthDays" = some 1 := by kernel_rfl

theorem Tryd.gMType : (Tryd.prog.globals[1]?).map (·.type) = some 104 := by kernel_rfl

theorem Tryd.cellsM : Tryd.prog.cellsOf 104 = 12 := by kernel_rfl

theorem Tryd.cellsI : Tryd.prog.cellsOf 3 = 1 := by kernel_rfl

theorem Tryd.gE : Tryd.prog.globalNamed "loop.example/datenotation/impl.errBackwards" = some 0 := by kernel_rfl

theorem Tryd.gEType : (Tryd.prog.globals[0]?).map (·.type) = some 46 := by kernel_rfl

theorem Tryd.cellsS : Tryd.prog.cellsOf 130 = 1 := by kernel_rfl

theorem Tryd.cellsT : Tryd.prog.cellsOf 9 = 1 := by kernel_rfl

theorem Tryd.star : "*" ++ "errors.errorString" = "*errors.errorString" := by decide

theorem Tryd.rowE (u : TypeId) (h : Tryd.prog.typeName? 3 u = some "*errors.errorString") : u = 105 :=
  typeName_ptr_named (nm := "errors.errorString") (by rw [Tryd.star]; kernel_rfl) (by kernel_rfl) (by decide) u (by rw [Tryd.star]; exact h)

abbrev laidMD : List (String × DataW Unit) := [("loop.example/datenotation/impl.monthDays", Rows.laid_loop_example_datenotation_impl_monthDays)]

abbrev laidList : List (String × DataW Unit) := [("loop.example/datenotation/impl.monthDays", Rows.laid_loop_example_datenotation_impl_monthDays), ("loop.example/datenotation/impl.errBackwards", Rows.laid_loop_example_datenotation_impl_errBackwards)]

theorem base_md {W : World} (h : laidMetH Tryd.prog laidMD W) : D.Base W := by
  have hm : laidMet Tryd.prog laidMD W := h
  have hT := Lib.tabIs_of_head (k := .i64) (zs := D.mdTab) Tryd.gM Tryd.gMType Tryd.underlying104 Tryd.underlying3 Tryd.cellsI Tryd.cellsM hm
  have h1 := World.block_lt_of_cell? _ _ (hT.cell Tryd.gM 0 (by decide))
  exact { size := by show 2 ≤ _; simp only at h1; omega, tab := fun i hi => hT.cell Tryd.gM i hi }

theorem base_of {W : World} (h : laidMetH Tryd.prog laidList W) : D.Base W ∧ D.Err W := by
  have hm : laidMet Tryd.prog laidList W := h
  have hT := Lib.tabIs_of_head (k := .i64) (zs := D.mdTab) Tryd.gM Tryd.gMType Tryd.underlying104 Tryd.underlying3 Tryd.cellsI Tryd.cellsM hm
  obtain ⟨a, s, hv, _⟩ := laid_sentinel hm.tail Tryd.gE Tryd.gEType Tryd.underlying46 Tryd.rowE Tryd.underlying105 Tryd.underlying130 rfl rfl Tryd.underlying9 Tryd.cellsS Tryd.cellsT
  have he : W.cell? ⟨0, 0, none⟩ = some (.iface 105 (.pointer (some a))) := by simpa using World.var?_cell Tryd.gE hv 0
  have h0 := World.block_lt_of_cell? _ _ he
  have h1 := World.block_lt_of_cell? _ _ (hT.cell Tryd.gM 0 (by decide))
  exact ⟨{ size := by show 2 ≤ _; simp only at h0 h1; omega, tab := fun i hi => hT.cell Tryd.gM i hi }, a, he⟩

abbrev backText : ByteArray := { data := #[98, 97, 99, 107, 119, 97, 114, 100, 115] }

/- The number of the block behind the settled ones. -/
noncomputable def topOf : Nat := (World.holding Tryd.prog default ⟨#[], #[], []⟩).heap.size

/- A world that meets the rows' conditions. -/
noncomputable def laidWorld (os : Os) : World :=
  let w0 := World.holding Tryd.prog os ⟨#[.cells #[.string backText] 130], #[], []⟩
  { w0 with heap := (w0.heap.modify 0 fun
      | .cells _ t frozen => .cells #[.iface 105 (.pointer (some ⟨topOf, 0, none⟩))] t frozen
      | o => o).modify 1 fun
      | .cells _ t frozen => .cells #[.int .i64 31, .int .i64 28, .int .i64 31, .int .i64 30, .int .i64 31, .int .i64 30, .int .i64 31, .int .i64 31, .int .i64 30, .int .i64 31, .int .i64 30, .int .i64 31] t frozen
      | o => o }

theorem laid_met (os : Os) (args : Array Value) : laidMetH Tryd.prog laidList ((laidWorld os).forCall (fun _ _ => 0) ⟨#[], args, []⟩).memory :=
  laidMet_of_run' 8 (by kernel_rfl) (by kernel_rfl)

/- A world that meets the conditions of the rows that name the months alone. -/
noncomputable def laidWorldM (os : Os) : World :=
  let w0 := World.holding Tryd.prog os ⟨#[], #[], []⟩
  { w0 with heap := w0.heap.modify 1 fun
      | .cells _ t frozen => .cells #[.int .i64 31, .int .i64 28, .int .i64 31, .int .i64 30, .int .i64 31, .int .i64 30, .int .i64 31, .int .i64 31, .int .i64 30, .int .i64 31, .int .i64 30, .int .i64 31] t frozen
      | o => o }

theorem laid_metM (os : Os) (args : Array Value) : laidMetH Tryd.prog laidMD ((laidWorldM os).forCall (fun _ _ => 0) ⟨#[], args, []⟩).memory :=
  laidMet_of_run' 8 (by kernel_rfl) (by kernel_rfl)

end Go.Proofs.YtpodhahlbdlgeaaDoor
