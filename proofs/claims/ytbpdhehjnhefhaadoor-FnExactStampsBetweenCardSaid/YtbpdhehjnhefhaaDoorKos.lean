/- What an argument that is a stamp reads as. -/
import Derived.Test.YtbpdhehjnhefhaaDoorK
namespace Go.Proofs.YtbpdhehjnhefhaaDoor
set_option linter.unusedVariables false
set_option linter.unusedSimpArgs false
set_option maxRecDepth 100000
open Go.ChangeShapes Go.WideShapes Go.ChangeAt Go.RowKit Go.Joins Go.Deep

theorem cellsStampL : Tryd.prog.cellsOf 36 = 8 := by kernel_rfl

theorem cellsDateL : Tryd.prog.cellsOf 23 = 3 := by kernel_rfl

theorem cellsClockL : Tryd.prog.cellsOf 34 = 4 := by kernel_rfl

theorem cellsIntL : Tryd.prog.cellsOf 3 = 1 := by kernel_rfl

theorem array8 {α : Type} {cs : Array α} (h : cs.size = 8) : ∃ c0 c1 c2 c3 c4 c5 c6 c7, cs = #[c0, c1, c2, c3, c4, c5, c6, c7] := by
  obtain ⟨l⟩ := cs
  match l, h with
  | [c0, c1, c2, c3, c4, c5, c6, c7], _ => exact ⟨c0, c1, c2, c3, c4, c5, c6, c7, rfl⟩

theorem open_stamp {H : Type} {enc : TypeId × Value → H} {W : World} {base : Nat} {v : Value} {d : DataW H} {p : List MemPlace} (hv : Value.okWide Tryd.prog W .any base 36 v)
    (h : DataW.Trod enc Tryd.prog W 0 (fun _ => true) true 36 v d p) : ∃ a b c e f g i j : Int, v = .agg #[.int .i64 a, .int .i64 b, .int .i64 c, .int .i64 e, .int .i64 f, .int .i64 g, .int .i64 i, .int .i64 j] := by
  obtain ⟨cs, rfl, hsz⟩ := okWide_struct Tryd.underlying36 hv
  obtain ⟨c0, c1, c2, c3, c4, c5, c6, c7, rfl⟩ := array8 (hsz.trans cellsStampL)
  obtain ⟨fuel, hf⟩ := h
  obtain ⟨y0, y1, y2, n, _, _, h0, h1, h2⟩ := trod_struct3 Tryd.underlying36 hf
  simp only [cellsDateL, cellsClockL, cellsIntL, Value.cells, List.drop, List.take] at h0 h1 h2
  obtain ⟨_, _, _, n', _, _, k0, k1, k2⟩ := trod_struct3 Tryd.underlying23 h0
  obtain ⟨_, _, _, _, n'', _, _, k3, k4, k5, k6⟩ := trod_struct4 Tryd.underlying34 h1
  simp only [cellsIntL, List.drop, List.take] at k0 k1 k2 k3 k4 k5 k6
  obtain ⟨x0, e0, _, _⟩ := DataW.trod_int Tryd.underlying3 k0
  obtain ⟨x1, e1, _, _⟩ := DataW.trod_int Tryd.underlying3 k1
  obtain ⟨x2, e2, _, _⟩ := DataW.trod_int Tryd.underlying3 k2
  obtain ⟨x3, e3, _, _⟩ := DataW.trod_int Tryd.underlying3 k3
  obtain ⟨x4, e4, _, _⟩ := DataW.trod_int Tryd.underlying3 k4
  obtain ⟨x5, e5, _, _⟩ := DataW.trod_int Tryd.underlying3 k5
  obtain ⟨x6, e6, _, _⟩ := DataW.trod_int Tryd.underlying3 k6
  obtain ⟨x7, e7, _, _⟩ := DataW.trod_int Tryd.underlying3 h2
  simp at e0 e1 e2 e3 e4 e5 e6 e7
  exact ⟨x0, x1, x2, x3, x4, x5, x6, x7, by rw [e0, e1, e2, e3, e4, e5, e6, e7]⟩

end Go.Proofs.YtbpdhehjnhefhaaDoor
