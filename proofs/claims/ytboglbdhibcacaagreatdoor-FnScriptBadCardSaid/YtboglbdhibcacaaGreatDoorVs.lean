/- The end of every law's row: it returns true, and nothing that stood has turned. -/
import Derived.Test.YtboglbdhibcacaaGreatDoorProg
import Derived.WalkKit
import Derived.ProofKit
import Derived.OpenShut
import Derived.OpenVars
import Derived.Test.YtboglbdhibcacaaGreatDoorCards
import Derived.Test.YtboglbdhibcacaaGreatDoorTie
import Derived.Test.YtboglbdhibcacaaGreatDoorVa
import Derived.Deep.DeepHandedRow
import Derived.Lib.LaidTab
import Derived.Lib.SmallJoins
import Derived.Stop.Joined
import Derived.Stop.LaidErr
import Derived.Test.YtboglbdhibcacaaGreatDoorVd
import Derived.LaidHandle
import Derived.Test.YtboglbdhibcacaaGreatDoorVIt
import Derived.Test.YtboglbdhibcacaaGreatDoorVb
namespace Go.Proofs.YtboglbdhibcacaaGreatDoor
set_option linter.unusedVariables false
set_option linter.unusedSimpArgs false
open Go.ChangeShapes Go.WideShapes Go.ChangeAt Go.RowKit

theorem trodAll_low {H : Type} {enc : TypeId × Value → H} {P : Program} (hl : laidOutB P = true) {W W' : World} (hb : Below W.heap.size W W') :
    ∀ (ts : List TypeId) {vs : List Value} {ds : List (DataW H)} {ps : List MemPlace}, (ts.all fun t => P.readableRec t && decide (t < P.types.size)) = true → DataW.TrodAll enc P W 0 (fun _ => true) true ts vs ds ps →
      (∀ x ∈ ps, x.block < W.heap.size) → DataW.TrodAll enc P W' 0 (fun b => decide (b < W.heap.size)) true ts vs ds ps
  | [], vs, ds, ps, _, h, _ => by
    obtain ⟨rfl, rfl, rfl⟩ := trodAll_nil h
    exact trodAll_mk0
  | t :: ts, vs, ds, ps, ha, h, hlt => by
    simp only [List.all_cons, Bool.and_eq_true, decide_eq_true_eq] at ha
    obtain ⟨v0, vs0, d0, ds0, p0, q0, rfl, rfl, rfl, h0, r0⟩ := trodAll_cons h
    exact trodAll_cons_mk (Below.trod hl ha.1.1 ha.1.2 h0 hb (fun x hx => hlt x (by simp [hx]))) (trodAll_low hl hb ts (by simpa using ha.2) r0 (fun x hx => hlt x (by simp [hx])))

theorem law_close {H : Type} {enc : TypeId × Value → H} {f : Func} {s : ChangeSpec} {W W' : World} {args : Array Value} {ds gs : List (DataW H)} {before : List MemPlace} (hb : Below W.heap.size W W')
    (hW : DataW.Whole enc Tryz.prog f.params.toList s.vars false W args.toList ds gs before) (hl : laidOutB Tryz.prog = true)
    (hr : f.resultTypes = #[4]) (hp : (f.params.toList.all fun t => Tryz.prog.readableRec t && decide (t < Tryz.prog.types.size)) = true) (hv : varsRowed Tryz.prog s.vars = true)
    (hf1 : (s.fn H (ds ++ gs)).results = [.lit (.bool true)]) (hf2 : (s.fn H (ds ++ gs)).args = ds) (hf3 : (s.fn H (ds ++ gs)).vars = gs) :
    s.post enc Tryz.prog f false true false false W args (.bool true) W' := by
  have hW' := hW
  have hlt := hW.lt
  obtain ⟨p, q, hA, hV, rfl, hfz, hnd⟩ := hW
  refine ⟨ds, gs, p ++ q, [], p, q, hW', ?_, ?_, ?_, hb.frame _, fun h => by cases h⟩
  · rw [hf1, hr]
    exact trodAll_mk1 (shut_bool Tryz.underlying4 true)
  · rw [hf2]
    exact trodAll_low hl hb _ hp hA (fun x hx => hlt x (by simp [hx]))
  · rw [hf3]
    exact Below.trodVars hl hb hv hV

end Go.Proofs.YtboglbdhibcacaaGreatDoor

namespace Go.Proofs.YtboglbdhibcacaaGreatDoor
set_option linter.unusedVariables false
set_option linter.unusedSimpArgs false
open Go.ChangeShapes Go.WideShapes Go.ChangeAt Go.RowKit Go.Joins


theorem Tryz.own : ownKnob Tryz.prog.godebug = none := by kernel_rfl

theorem Tryz.laidOut : laidOutB Tryz.prog = true := by kernel_rfl

theorem Tryz.gM : Tryz.prog.globalNamed "loop.example/datenotation/impl.monthDays" = some 5 := by kernel_rfl

theorem Tryz.gMType : (Tryz.prog.globals[5]?).map (·.type) = some 212 := by kernel_rfl

theorem Tryz.cellsM : Tryz.prog.cellsOf 212 = 12 := by kernel_rfl

theorem Tryz.cellsI : Tryz.prog.cellsOf 3 = 1 := by kernel_rfl

theorem Tryz.gE : Tryz.prog.globalNamed "loop.example/datenotation/impl.errBackwards" = some 0 := by kernel_rfl

theorem Tryz.gEType : (Tryz.prog.globals[0]?).map (·.type) = some 38 := by kernel_rfl

theorem Tryz.cellsS : Tryz.prog.cellsOf 280 = 1 := by kernel_rfl

theorem Tryz.cellsT : Tryz.prog.cellsOf 9 = 1 := by kernel_rfl

theorem Tryz.star : "*" ++ "errors.errorString" = "*errors.errorString" := by decide

theorem Tryz.rowE (u : TypeId) (h : Tryz.prog.typeName? 3 u = some "*errors.errorString") : u = 261 :=
  typeName_ptr_named (nm := "errors.errorString") (by rw [Tryz.star]; kernel_rfl) (by kernel_rfl) (by decide) u (by rw [Tryz.star]; exact h)

end Go.Proofs.YtboglbdhibcacaaGreatDoor

namespace Go.Proofs.YtboglbdhibcacaaGreatDoor
set_option linter.unusedVariables false
set_option linter.unusedSimpArgs false
set_option maxRecDepth 100000
open Go.ChangeShapes Go.WideShapes Go.ChangeAt Go.RowKit Go.Joins

theorem Tryz.et : Tryz.prog.globalNamed "errors.errorType" = some 6 := by kernel_rfl

theorem Tryz.rt : (Tryz.prog.cutTypes.find? (·.1 == "internal/reflectlite.rtype")).map (·.2) = some 226 := by kernel_rfl

theorem Tryz.tsize : Tryz.prog.types.size = Tryz.prog.types.size := rfl

theorem Tryz.oneRow : ((List.range Tryz.prog.types.size).filter fun t => Tryz.prog.rowNamed t [101, 114, 114, 111, 114]) = [38] := by kernel_rfl

/- needs 3 -/
theorem size_of {W : World} (h : W.ShapedOpen Tryz.prog) : 9 ≤ W.heap.size := by
  have hn : Tryz.prog.globals.size = 9 := by kernel_rfl
  have hs : (((begin Tryz.prog (fun _ _ => 0) default).world.heap[9 - 1]?).bind Obj.row?).isSome = true := by kernel_rfl
  obtain ⟨⟨z, t⟩, hz⟩ := Option.isSome_iff_exists.1 hs
  obtain ⟨cs, h1, _⟩ := h.1 _ z t (by omega) hz
  have := (Array.getElem?_eq_some_iff.1 h1).1
  omega

/- needs 3 -/
/- A world that meets the rows' conditions. -/
/- needs 3 -/
end Go.Proofs.YtboglbdhibcacaaGreatDoor

namespace Go.Proofs.YtboglbdhibcacaaGreatDoor
set_option linter.unusedVariables false
set_option linter.unusedSimpArgs false
set_option maxRecDepth 100000
open Go.ChangeShapes Go.WideShapes Go.ChangeAt Go.RowKit Go.Joins

/- A world that meets the rows' conditions. -/
end Go.Proofs.YtboglbdhibcacaaGreatDoor

namespace Go.Proofs.YtboglbdhibcacaaGreatDoor
set_option linter.unusedVariables false
set_option linter.unusedSimpArgs false
set_option maxRecDepth 100000
open Go.ChangeShapes Go.WideShapes Go.ChangeAt Go.RowKit Go.Joins

/-- The library's powers of ten. -/
def D.p10Tab : List Int := [1, 10, 100, 1000, 10000, 100000, 1000000, 10000000, 100000000, 1000000000, 10000000000, 100000000000, 1000000000000, 10000000000000, 100000000000000, 1000000000000000, 10000000000000000, 100000000000000000, 1000000000000000000, 10000000000000000000]

theorem Tryz.gP : Tryz.prog.globalNamed "internal/strconv.uint64pow10" = some 2 := by kernel_rfl

theorem Tryz.gPType : (Tryz.prog.globals[2]?).map (·.type) = some 189 := by kernel_rfl

theorem Tryz.cellsP : Tryz.prog.cellsOf 189 = 20 := by kernel_rfl

theorem Tryz.cellsU : Tryz.prog.cellsOf 148 = 1 := by kernel_rfl

/- needs 3 -/
/- needs 3 -/
/- A world that meets the rows' conditions. -/
/- needs 3 -/
end Go.Proofs.YtboglbdhibcacaaGreatDoor

namespace Go.Proofs.YtboglbdhibcacaaGreatDoor
set_option linter.unusedVariables false
set_option linter.unusedSimpArgs false
set_option maxRecDepth 100000
open Go.ChangeShapes Go.WideShapes Go.ChangeAt Go.RowKit Go.Joins

abbrev backText : ByteArray := { data := #[98, 97, 99, 107, 119, 97, 114, 100, 115] }

/- The number of the block behind the settled ones. -/
noncomputable def topOf : Nat := (World.holding Tryz.prog default ⟨#[], #[], []⟩).heap.size

/- needs 3 -/
abbrev laidV : List (String × DataW Unit) := [("math/bits.deBruijn32tab", Rows.laid_math_bits_deBruijn32tab), ("math/bits.deBruijn64tab", Rows.laid_math_bits_deBruijn64tab), ("internal/strconv.uint64pow10", Rows.laid_internal_strconv_uint64pow10), ("unicode/utf8.acceptRanges", Rows.laid_unicode_utf8_acceptRanges), ("errors.errorType", Rows.laid_errors_errorType), ("loop.example/datenotation/impl.monthDays", Rows.laid_loop_example_datenotation_impl_monthDays), ("loop.example/datenotation/impl.errBackwards", Rows.laid_loop_example_datenotation_impl_errBackwards), ("unicode/utf8.first", Rows.laid_unicode_utf8_first)]

/- needs 3 -/
theorem base_v {W : World} (h : laidMetH Tryz.prog laidV W) (hSh : W.ShapedOpen Tryz.prog) : D.Base W ∧ D.Err W ∧ D.Hdl W ∧ D.Pw W := by
  have h' : laidMet Tryz.prog [("math/bits.deBruijn32tab", Rows.laid_math_bits_deBruijn32tab), ("math/bits.deBruijn64tab", Rows.laid_math_bits_deBruijn64tab), ("internal/strconv.uint64pow10", Rows.laid_internal_strconv_uint64pow10), ("unicode/utf8.acceptRanges", Rows.laid_unicode_utf8_acceptRanges), ("loop.example/datenotation/impl.monthDays", Rows.laid_loop_example_datenotation_impl_monthDays), ("loop.example/datenotation/impl.errBackwards", Rows.laid_loop_example_datenotation_impl_errBackwards), ("unicode/utf8.first", Rows.laid_unicode_utf8_first)] W ∧ handlesMet Tryz.prog [("errors.errorType", Rows.laid_errors_errorType)] W := h
  have hT := Lib.tabIs_of_head (k := .i64) (zs := D.mdTab) Tryz.gM Tryz.gMType Tryz.underlying212 Tryz.underlying3 Tryz.cellsI Tryz.cellsM h'.1.tail.tail.tail.tail
  have hP := Lib.tabIs_of_head (k := .u64) (zs := D.p10Tab) Tryz.gP Tryz.gPType Tryz.underlying189 Tryz.underlying148 Tryz.cellsU Tryz.cellsP h'.1.tail.tail
  obtain ⟨a0, s0, hv, _⟩ := laid_sentinel h'.1.tail.tail.tail.tail.tail Tryz.gE Tryz.gEType Tryz.underlying38 Tryz.rowE Tryz.underlying261 Tryz.underlying280 rfl rfl Tryz.underlying9 Tryz.cellsS Tryz.cellsT
  have her : W.cell? ⟨0, 0, none⟩ = some (.iface 261 (.pointer (some a0))) := by simpa using World.var?_cell Tryz.gE hv 0
  obtain ⟨name, u, ty, e1, e2, e3, e4, e5⟩ := h'.2 _ (List.mem_singleton.2 rfl)
  have en : name = [101, 114, 114, 111, 114] := (Option.some.inj e1).symm
  subst en
  obtain rfl := Option.some.inj (Tryz.rt.symm.trans e2)
  have hm : ty ∈ (List.range Tryz.prog.types.size).filter fun t => Tryz.prog.rowNamed t [101, 114, 114, 111, 114] := List.mem_filter.2 ⟨List.mem_range.2 e3, e4⟩
  rw [Tryz.oneRow] at hm
  obtain rfl := List.mem_singleton.1 hm
  have hh : typeHandle Tryz.prog 38 = .pointer (some ⟨9, 38, none⟩) := by kernel_rfl
  rw [hh] at e5
  have he : W.cell? ⟨6, 0, none⟩ = some (.iface 226 (.agg #[.pointer (some ⟨9, 38, none⟩)])) := by simpa using World.var?_cell Tryz.et e5 0
  exact ⟨{ size := size_of hSh, tab := fun i hi => hT.cell Tryz.gM i hi }, ⟨a0, her⟩, he, hP.cell Tryz.gP 2 (by decide), hP.cell Tryz.gP 3 (by decide), hP.cell Tryz.gP 4 (by decide)⟩

/- A world that meets the rows' conditions. -/
noncomputable def laidWorldV (os : Os) : World :=
  let w0 := World.holding Tryz.prog os ⟨#[.cells #[.string backText] 280], #[], []⟩
  { w0 with heap := (((((((w0.heap.modify 0 fun
      | .cells _ t frozen => .cells #[.iface 261 (.pointer (some ⟨topOf, 0, none⟩))] t frozen
      | o => o).modify 5 fun
      | .cells _ t frozen => .cells #[.int .i64 31, .int .i64 28, .int .i64 31, .int .i64 30, .int .i64 31, .int .i64 30, .int .i64 31, .int .i64 31, .int .i64 30, .int .i64 31, .int .i64 30, .int .i64 31] t frozen
      | o => o).modify 6 fun
      | .cells _ t frozen => .cells #[.iface 226 (.agg #[.pointer (some ⟨9, 38, none⟩)])] t frozen
      | o => o).modify 3 fun
      | .cells _ t frozen => .cells (Go.Pinned.utf8FirstZ.map fun (n : Nat) => Value.int .u8 (n : Int)).toArray t frozen
      | o => o).modify 4 fun
      | .cells _ t frozen => .cells #[.int .u8 128, .int .u8 191, .int .u8 160, .int .u8 191, .int .u8 128, .int .u8 159, .int .u8 144, .int .u8 191, .int .u8 128, .int .u8 143, .int .u8 0, .int .u8 0, .int .u8 0, .int .u8 0, .int .u8 0, .int .u8 0, .int .u8 0, .int .u8 0, .int .u8 0, .int .u8 0, .int .u8 0, .int .u8 0, .int .u8 0, .int .u8 0, .int .u8 0, .int .u8 0, .int .u8 0, .int .u8 0, .int .u8 0, .int .u8 0, .int .u8 0, .int .u8 0] t frozen
      | o => o).modify 7 fun
      | .cells _ t frozen => .cells #[.int .u8 0, .int .u8 1, .int .u8 28, .int .u8 2, .int .u8 29, .int .u8 14, .int .u8 24, .int .u8 3, .int .u8 30, .int .u8 22, .int .u8 20, .int .u8 15, .int .u8 25, .int .u8 17, .int .u8 4, .int .u8 8, .int .u8 31, .int .u8 27, .int .u8 13, .int .u8 23, .int .u8 21, .int .u8 19, .int .u8 16, .int .u8 7, .int .u8 26, .int .u8 12, .int .u8 18, .int .u8 6, .int .u8 11, .int .u8 5, .int .u8 10, .int .u8 9] t frozen
      | o => o).modify 8 fun
      | .cells _ t frozen => .cells #[.int .u8 0, .int .u8 1, .int .u8 56, .int .u8 2, .int .u8 57, .int .u8 49, .int .u8 28, .int .u8 3, .int .u8 61, .int .u8 58, .int .u8 42, .int .u8 50, .int .u8 38, .int .u8 29, .int .u8 17, .int .u8 4, .int .u8 62, .int .u8 47, .int .u8 59, .int .u8 36, .int .u8 45, .int .u8 43, .int .u8 51, .int .u8 22, .int .u8 53, .int .u8 39, .int .u8 33, .int .u8 30, .int .u8 24, .int .u8 18, .int .u8 12, .int .u8 5, .int .u8 63, .int .u8 55, .int .u8 48, .int .u8 27, .int .u8 60, .int .u8 41, .int .u8 37, .int .u8 16, .int .u8 46, .int .u8 35, .int .u8 44, .int .u8 21, .int .u8 52, .int .u8 32, .int .u8 23, .int .u8 11, .int .u8 54, .int .u8 26, .int .u8 40, .int .u8 15, .int .u8 34, .int .u8 20, .int .u8 31, .int .u8 10, .int .u8 25, .int .u8 14, .int .u8 19, .int .u8 9, .int .u8 13, .int .u8 8, .int .u8 7, .int .u8 6] t frozen
      | o => o).modify 2 fun
      | .cells _ t frozen => .cells #[.int .u64 1, .int .u64 10, .int .u64 100, .int .u64 1000, .int .u64 10000, .int .u64 100000, .int .u64 1000000, .int .u64 10000000, .int .u64 100000000, .int .u64 1000000000, .int .u64 10000000000, .int .u64 100000000000, .int .u64 1000000000000, .int .u64 10000000000000, .int .u64 100000000000000, .int .u64 1000000000000000, .int .u64 10000000000000000, .int .u64 100000000000000000, .int .u64 1000000000000000000, .int .u64 10000000000000000000] t frozen
      | o => o }

/- needs 3 -/
theorem laid_metV (os : Os) (args : Array Value) : laidMetH Tryz.prog laidV ((laidWorldV os).forCall (fun _ _ => 0) ⟨#[], args, []⟩).memory :=
  laidMetH_of_parts (laidMet_of_run' 8 (by kernel_rfl) (by kernel_rfl)) (by kernel_rfl)

end Go.Proofs.YtboglbdhibcacaaGreatDoor

namespace Go.Proofs.YtboglbdhibcacaaGreatDoor
set_option linter.unusedVariables false
set_option linter.unusedSimpArgs false
set_option maxRecDepth 100000
open Go.ChangeShapes Go.WideShapes Go.ChangeAt Go.RowKit Go.Joins

theorem cellsU8 : Tryz.prog.cellsOf 5 = 1 := by kernel_rfl

theorem open_code {H : Type} {enc : TypeId × Value → H} {W : World} {base : Nat} {v : Value} {d : DataW H} {p : List MemPlace} (hv : Value.okWide Tryz.prog W .any base 22 v)
    (h : DataW.Trod enc Tryz.prog W 0 (fun _ => true) true 22 v d p) : ∃ (a : Option Addr) (n c : Nat), v = .slice a n c ∧ (n ≤ 1048576 → D.CodeAt W (.slice a n c)) := by
  obtain ⟨a, n, c, rfl⟩ := okWide_slice Tryz.underlying22 hv
  obtain ⟨fuel, hf⟩ := h
  rcases open_ints Tryz.underlying22 Tryz.underlying5 cellsU8 hf with ⟨hcs, _⟩ | ⟨a', n', c', zs, hcs, _, hl, _, hz, _, hcell, hwz⟩
  · simp [Value.cells] at hcs
    obtain ⟨rfl, rfl, rfl⟩ := hcs
    exact ⟨_, _, _, rfl, fun _ => .inl ⟨_, _, rfl⟩⟩
  · simp [Value.cells] at hcs
    obtain ⟨rfl, rfl, rfl⟩ := hcs
    refine ⟨_, _, _, rfl, fun hn => ?_⟩
    simp only [if_true] at hz
    rcases Nat.eq_zero_or_pos n with h0 | hp
    · subst h0
      exact .inl ⟨_, _, rfl⟩
    · obtain ⟨b, o, rfl, hc⟩ := ints_at hcell (by omega)
      refine .inr ⟨b, o, n, c, rfl, hl, hn, fun j hj => ?_⟩
      have hbd := bounds_u8 (hwz (zs.getD j 0) (by
        have : j < zs.length := by omega
        simp [List.getD, this]))
      exact ⟨zs.getD j 0, hbd.1, by omega, hc j (by omega)⟩

end Go.Proofs.YtboglbdhibcacaaGreatDoor
