/- What the rows that name the months and the errors' type alone give the walks. -/
import Derived.Test.YtodmpdcffnmmkaaDoorKz
namespace Go.Proofs.YtodmpdcffnmmkaaDoor
set_option linter.unusedVariables false
set_option linter.unusedSimpArgs false
set_option maxRecDepth 100000
open Go.ChangeShapes Go.WideShapes Go.ChangeAt Go.RowKit Go.Joins

abbrev laidZ2 : List (String × DataW Unit) := [("errors.errorType", Rows.laid_errors_errorType), ("loop.example/datenotation/impl.monthDays", Rows.laid_loop_example_datenotation_impl_monthDays)]

theorem base_z2 {W : World} (h : laidMetH Tryd.prog laidZ2 W) (hSh : W.ShapedOpen Tryd.prog) : D.Base W ∧ D.Hdl W := by
  have h' : laidMet Tryd.prog [("loop.example/datenotation/impl.monthDays", Rows.laid_loop_example_datenotation_impl_monthDays)] W ∧ handlesMet Tryd.prog [("errors.errorType", Rows.laid_errors_errorType)] W := h
  have hT := Lib.tabIs_of_head (k := .i64) (zs := D.mdTab) Tryd.gM Tryd.gMType Tryd.underlying104 Tryd.underlying3 Tryd.cellsI Tryd.cellsM h'.1
  obtain ⟨name, u, ty, e1, e2, e3, e4, e5⟩ := h'.2 _ (List.mem_singleton.2 rfl)
  have en : name = [101, 114, 114, 111, 114] := (Option.some.inj e1).symm
  subst en
  obtain rfl := Option.some.inj (Tryd.rt.symm.trans e2)
  have hm : ty ∈ (List.range Tryd.prog.types.size).filter fun t => Tryd.prog.rowNamed t [101, 114, 114, 111, 114] := List.mem_filter.2 ⟨List.mem_range.2 e3, e4⟩
  rw [Tryd.oneRow] at hm
  obtain rfl := List.mem_singleton.1 hm
  have hh : typeHandle Tryd.prog 61 = .pointer (some ⟨2, 61, none⟩) := by kernel_rfl
  rw [hh] at e5
  have he : W.cell? ⟨0, 0, none⟩ = some (.iface 106 (.agg #[.pointer (some ⟨2, 61, none⟩)])) := by simpa using World.var?_cell Tryd.et e5 0
  exact ⟨{ size := size_of hSh, tab := fun i hi => hT.cell Tryd.gM i hi }, he⟩

/- A world that meets the rows' conditions. -/
noncomputable def laidWorldZ2 (os : Os) : World :=
  let w0 := World.holding Tryd.prog os ⟨#[], #[], []⟩
  { w0 with heap := (w0.heap.modify 1 fun
      | .cells _ t frozen => .cells #[.int .i64 31, .int .i64 28, .int .i64 31, .int .i64 30, .int .i64 31, .int .i64 30, .int .i64 31, .int .i64 31, .int .i64 30, .int .i64 31, .int .i64 30, .int .i64 31] t frozen
      | o => o).modify 0 fun
      | .cells _ t frozen => .cells #[.iface 106 (.agg #[.pointer (some ⟨2, 61, none⟩)])] t frozen
      | o => o }

theorem laid_metZ2 (os : Os) (args : Array Value) : laidMetH Tryd.prog laidZ2 ((laidWorldZ2 os).forCall (fun _ _ => 0) ⟨#[], args, []⟩).memory :=
  laidMetH_of_parts (laidMet_of_run' 8 (by kernel_rfl) (by kernel_rfl)) (by kernel_rfl)

end Go.Proofs.YtodmpdcffnmmkaaDoor
