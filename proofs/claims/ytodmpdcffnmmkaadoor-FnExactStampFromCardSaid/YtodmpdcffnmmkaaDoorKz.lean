/- What the rows of the great seat give the walks; a world for the witness. -/
import Derived.Test.YtodmpdcffnmmkaaDoorKE
import Derived.Test.YtodmpdcffnmmkaaDoorAs
import Derived.LaidHandle
namespace Go.Proofs.YtodmpdcffnmmkaaDoor
set_option linter.unusedVariables false
set_option linter.unusedSimpArgs false
set_option maxRecDepth 100000
open Go.ChangeShapes Go.WideShapes Go.ChangeAt Go.RowKit Go.Joins

theorem Tryd.et : Tryd.prog.globalNamed "errors.errorType" = some 0 := by kernel_rfl

theorem Tryd.rt : (Tryd.prog.cutTypes.find? (·.1 == "internal/reflectlite.rtype")).map (·.2) = some 106 := by kernel_rfl

theorem Tryd.tsize : Tryd.prog.types.size = Tryd.prog.types.size := rfl

theorem Tryd.oneRow : ((List.range Tryd.prog.types.size).filter fun t => Tryd.prog.rowNamed t [101, 114, 114, 111, 114]) = [61] := by kernel_rfl

theorem size_of {W : World} (h : W.ShapedOpen Tryd.prog) : 2 ≤ W.heap.size := by
  have hn : Tryd.prog.globals.size = 2 := by kernel_rfl
  have hs : (((begin Tryd.prog (fun _ _ => 0) default).world.heap[2 - 1]?).bind Obj.row?).isSome = true := by kernel_rfl
  obtain ⟨⟨z, t⟩, hz⟩ := Option.isSome_iff_exists.1 hs
  obtain ⟨cs, h1, _⟩ := h.1 _ z t (by omega) hz
  have := (Array.getElem?_eq_some_iff.1 h1).1
  omega

end Go.Proofs.YtodmpdcffnmmkaaDoor
