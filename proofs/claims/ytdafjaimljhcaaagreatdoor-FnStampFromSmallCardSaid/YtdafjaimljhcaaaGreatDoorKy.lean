/- What the rows that name the months and the errors' type alone give the walks. -/
import Derived.Test.YtdafjaimljhcaaaGreatDoorKz
namespace Go.Proofs.YtdafjaimljhcaaaGreatDoor
set_option linter.unusedVariables false
set_option linter.unusedSimpArgs false
set_option maxRecDepth 100000
open Go.ChangeShapes Go.WideShapes Go.ChangeAt Go.RowKit Go.Joins

abbrev laidZ2 : List (String × DataW Unit) := [("errors.errorType", Rows.laid_errors_errorType), ("loop.example/datenotation/impl.monthDays", Rows.laid_loop_example_datenotation_impl_monthDays)]

theorem base_z2 {W : World} (h : laidMetH Tryz.prog laidZ2 W) (hSh : W.ShapedOpen Tryz.prog) : D.Base W ∧ D.Hdl W := by
  have h' : laidMet Tryz.prog [("loop.example/datenotation/impl.monthDays", Rows.laid_loop_example_datenotation_impl_monthDays)] W ∧ handlesMet Tryz.prog [("errors.errorType", Rows.laid_errors_errorType)] W := h
  have hT := Lib.tabIs_of_head (k := .i64) (zs := D.mdTab) Tryz.gM Tryz.gMType Tryz.underlying158 Tryz.underlying3 Tryz.cellsI Tryz.cellsM h'.1
  obtain ⟨name, u, ty, e1, e2, e3, e4, e5⟩ := h'.2 _ (List.mem_singleton.2 rfl)
  have en : name = [101, 114, 114, 111, 114] := (Option.some.inj e1).symm
  subst en
  obtain rfl := Option.some.inj (Tryz.rt.symm.trans e2)
  have hm : ty ∈ (List.range Tryz.prog.types.size).filter fun t => Tryz.prog.rowNamed t [101, 114, 114, 111, 114] := List.mem_filter.2 ⟨List.mem_range.2 e3, e4⟩
  rw [Tryz.oneRow] at hm
  obtain rfl := List.mem_singleton.1 hm
  have hh : typeHandle Tryz.prog 91 = .pointer (some ⟨5, 91, none⟩) := by kernel_rfl
  rw [hh] at e5
  have he : W.cell? ⟨0, 0, none⟩ = some (.iface 163 (.agg #[.pointer (some ⟨5, 91, none⟩)])) := by simpa using World.var?_cell Tryz.et e5 0
  exact ⟨{ size := size_of hSh, tab := fun i hi => hT.cell Tryz.gM i hi }, he⟩

theorem laid_metZ2 (os : Os) (args : Array Value) : laidMetH Tryz.prog laidZ2 ((laidWorldZ os).forCall (fun _ _ => 0) ⟨#[], args, []⟩).memory :=
  laidMetH_of_parts (laidMet_of_run' 8 (by kernel_rfl) (by kernel_rfl)) (by kernel_rfl)

end Go.Proofs.YtdafjaimljhcaaaGreatDoor
