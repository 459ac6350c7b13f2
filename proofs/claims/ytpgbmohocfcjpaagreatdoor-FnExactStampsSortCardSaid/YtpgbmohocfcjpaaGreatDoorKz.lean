/- What the rows of the great seat give the walks; a world for the witness. -/
import Derived.Test.YtpgbmohocfcjpaaGreatDoorKE
import Derived.Test.YtpgbmohocfcjpaaGreatDoorAs
import Derived.LaidHandle
namespace Go.Proofs.YtpgbmohocfcjpaaGreatDoor
set_option linter.unusedVariables false
set_option linter.unusedSimpArgs false
set_option maxRecDepth 100000
open Go.ChangeShapes Go.WideShapes Go.ChangeAt Go.RowKit Go.Joins

theorem Tryz.et : Tryz.prog.globalNamed "errors.errorType" = some 0 := by kernel_rfl

theorem Tryz.rt : (Tryz.prog.cutTypes.find? (·.1 == "internal/reflectlite.rtype")).map (·.2) = some 223 := by kernel_rfl

theorem Tryz.tsize : Tryz.prog.types.size = Tryz.prog.types.size := rfl

theorem Tryz.oneRow : ((List.range Tryz.prog.types.size).filter fun t => Tryz.prog.rowNamed t [101, 114, 114, 111, 114]) = [151] := by kernel_rfl

/- needs 4 -/
abbrev laidZ : List (String × DataW Unit) := [("unicode/utf8.acceptRanges", Rows.laid_unicode_utf8_acceptRanges), ("errors.errorType", Rows.laid_errors_errorType), ("loop.example/datenotation/impl.monthDays", Rows.laid_loop_example_datenotation_impl_monthDays), ("unicode/utf8.first", Rows.laid_unicode_utf8_first)]

theorem size_of {W : World} (h : W.ShapedOpen Tryz.prog) : 8 ≤ W.heap.size := by
  have hn : Tryz.prog.globals.size = 8 := by kernel_rfl
  have hs : (((begin Tryz.prog (fun _ _ => 0) default).world.heap[8 - 1]?).bind Obj.row?).isSome = true := by kernel_rfl
  obtain ⟨⟨z, t⟩, hz⟩ := Option.isSome_iff_exists.1 hs
  obtain ⟨cs, h1, _⟩ := h.1 _ z t (by omega) hz
  have := (Array.getElem?_eq_some_iff.1 h1).1
  omega

/- needs 4 -/
theorem base_z {W : World} (h : laidMetH Tryz.prog laidZ W) (hSh : W.ShapedOpen Tryz.prog) : D.Base W ∧ D.Hdl W := by
  have h' : laidMet Tryz.prog [("unicode/utf8.acceptRanges", Rows.laid_unicode_utf8_acceptRanges), ("loop.example/datenotation/impl.monthDays", Rows.laid_loop_example_datenotation_impl_monthDays), ("unicode/utf8.first", Rows.laid_unicode_utf8_first)] W ∧ handlesMet Tryz.prog [("errors.errorType", Rows.laid_errors_errorType)] W := h
  have hT := Lib.tabIs_of_head (k := .i64) (zs := D.mdTab) Tryz.gM Tryz.gMType Tryz.underlying209 Tryz.underlying3 Tryz.cellsI Tryz.cellsM h'.1.tail
  obtain ⟨name, u, ty, e1, e2, e3, e4, e5⟩ := h'.2 _ (List.mem_singleton.2 rfl)
  have en : name = [101, 114, 114, 111, 114] := (Option.some.inj e1).symm
  subst en
  obtain rfl := Option.some.inj (Tryz.rt.symm.trans e2)
  have hm : ty ∈ (List.range Tryz.prog.types.size).filter fun t => Tryz.prog.rowNamed t [101, 114, 114, 111, 114] := List.mem_filter.2 ⟨List.mem_range.2 e3, e4⟩
  rw [Tryz.oneRow] at hm
  obtain rfl := List.mem_singleton.1 hm
  have hh : typeHandle Tryz.prog 151 = .pointer (some ⟨8, 151, none⟩) := by kernel_rfl
  rw [hh] at e5
  have he : W.cell? ⟨0, 0, none⟩ = some (.iface 223 (.agg #[.pointer (some ⟨8, 151, none⟩)])) := by simpa using World.var?_cell Tryz.et e5 0
  exact ⟨{ size := size_of hSh, tab := fun i hi => hT.cell Tryz.gM i hi }, he⟩

/- A world that meets the rows' conditions. -/
noncomputable def laidWorldZ (os : Os) : World :=
  let w0 := World.holding Tryz.prog os ⟨#[], #[], []⟩
  { w0 with heap := (((w0.heap.modify 1 fun
      | .cells _ t frozen => .cells #[.int .i64 31, .int .i64 28, .int .i64 31, .int .i64 30, .int .i64 31, .int .i64 30, .int .i64 31, .int .i64 31, .int .i64 30, .int .i64 31, .int .i64 30, .int .i64 31] t frozen
      | o => o).modify 0 fun
      | .cells _ t frozen => .cells #[.iface 223 (.agg #[.pointer (some ⟨8, 151, none⟩)])] t frozen
      | o => o).modify 4 fun
      | .cells _ t frozen => .cells (Go.Pinned.utf8FirstZ.map fun (n : Nat) => Value.int .u8 (n : Int)).toArray t frozen
      | o => o).modify 5 fun
      | .cells _ t frozen => .cells #[.int .u8 128, .int .u8 191, .int .u8 160, .int .u8 191, .int .u8 128, .int .u8 159, .int .u8 144, .int .u8 191, .int .u8 128, .int .u8 143, .int .u8 0, .int .u8 0, .int .u8 0, .int .u8 0, .int .u8 0, .int .u8 0, .int .u8 0, .int .u8 0, .int .u8 0, .int .u8 0, .int .u8 0, .int .u8 0, .int .u8 0, .int .u8 0, .int .u8 0, .int .u8 0, .int .u8 0, .int .u8 0, .int .u8 0, .int .u8 0, .int .u8 0, .int .u8 0] t frozen
      | o => o }

/- needs 4 -/
theorem laid_metZ (os : Os) (args : Array Value) : laidMetH Tryz.prog laidZ ((laidWorldZ os).forCall (fun _ _ => 0) ⟨#[], args, []⟩).memory :=
  laidMetH_of_parts (laidMet_of_run' 8 (by kernel_rfl) (by kernel_rfl)) (by kernel_rfl)

end Go.Proofs.YtpgbmohocfcjpaaGreatDoor

namespace Go.Proofs.YtpgbmohocfcjpaaGreatDoor
set_option linter.unusedVariables false
set_option linter.unusedSimpArgs false
set_option maxRecDepth 100000
open Go.ChangeShapes Go.WideShapes Go.ChangeAt Go.RowKit Go.Joins

abbrev laidZ2 : List (String × DataW Unit) := [("errors.errorType", Rows.laid_errors_errorType), ("loop.example/datenotation/impl.monthDays", Rows.laid_loop_example_datenotation_impl_monthDays)]

theorem base_z2 {W : World} (h : laidMetH Tryz.prog laidZ2 W) (hSh : W.ShapedOpen Tryz.prog) : D.Base W ∧ D.Hdl W := by
  have h' : laidMet Tryz.prog [("loop.example/datenotation/impl.monthDays", Rows.laid_loop_example_datenotation_impl_monthDays)] W ∧ handlesMet Tryz.prog [("errors.errorType", Rows.laid_errors_errorType)] W := h
  have hT := Lib.tabIs_of_head (k := .i64) (zs := D.mdTab) Tryz.gM Tryz.gMType Tryz.underlying209 Tryz.underlying3 Tryz.cellsI Tryz.cellsM h'.1
  obtain ⟨name, u, ty, e1, e2, e3, e4, e5⟩ := h'.2 _ (List.mem_singleton.2 rfl)
  have en : name = [101, 114, 114, 111, 114] := (Option.some.inj e1).symm
  subst en
  obtain rfl := Option.some.inj (Tryz.rt.symm.trans e2)
  have hm : ty ∈ (List.range Tryz.prog.types.size).filter fun t => Tryz.prog.rowNamed t [101, 114, 114, 111, 114] := List.mem_filter.2 ⟨List.mem_range.2 e3, e4⟩
  rw [Tryz.oneRow] at hm
  obtain rfl := List.mem_singleton.1 hm
  have hh : typeHandle Tryz.prog 151 = .pointer (some ⟨8, 151, none⟩) := by kernel_rfl
  rw [hh] at e5
  have he : W.cell? ⟨0, 0, none⟩ = some (.iface 223 (.agg #[.pointer (some ⟨8, 151, none⟩)])) := by simpa using World.var?_cell Tryz.et e5 0
  exact ⟨{ size := size_of hSh, tab := fun i hi => hT.cell Tryz.gM i hi }, he⟩

/- A world that meets the rows' conditions. -/
noncomputable def laidWorldZ2 (os : Os) : World :=
  let w0 := World.holding Tryz.prog os ⟨#[], #[], []⟩
  { w0 with heap := (w0.heap.modify 1 fun
      | .cells _ t frozen => .cells #[.int .i64 31, .int .i64 28, .int .i64 31, .int .i64 30, .int .i64 31, .int .i64 30, .int .i64 31, .int .i64 31, .int .i64 30, .int .i64 31, .int .i64 30, .int .i64 31] t frozen
      | o => o).modify 0 fun
      | .cells _ t frozen => .cells #[.iface 223 (.agg #[.pointer (some ⟨8, 151, none⟩)])] t frozen
      | o => o }

theorem laid_metZ2 (os : Os) (args : Array Value) : laidMetH Tryz.prog laidZ2 ((laidWorldZ2 os).forCall (fun _ _ => 0) ⟨#[], args, []⟩).memory :=
  laidMetH_of_parts (laidMet_of_run' 8 (by kernel_rfl) (by kernel_rfl)) (by kernel_rfl)

end Go.Proofs.YtpgbmohocfcjpaaGreatDoor
