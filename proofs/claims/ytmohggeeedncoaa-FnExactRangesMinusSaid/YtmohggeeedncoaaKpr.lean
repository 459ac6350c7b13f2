/- What an argument that is a list of ranges reads as. -/
import Derived.Test.YtmohggeeedncoaaKP
import Derived.Test.YtmohggeeedncoaaEp
import Derived.Deep.SlicePairs
namespace Go.Proofs.Ytmohggeeedncoaa
set_option linter.unusedVariables false
set_option linter.unusedSimpArgs false
set_option maxRecDepth 100000
open Go.ChangeShapes Go.WideShapes Go.ChangeAt Go.RowKit Go.Joins

theorem cellsR : Try.prog.cellsOf 41 = 2 := by kernel_rfl

theorem cellsI1 : Try.prog.cellsOf 3 = 1 := by kernel_rfl

theorem open_ranges {H : Type} {enc : TypeId × Value → H} {W : World} {base : Nat} {v : Value} {d : DataW H} {p : List MemPlace} (hv : Value.okWide Try.prog W .any base 22 v)
    (h : DataW.Trod enc Try.prog W 0 (fun _ => true) true 22 v d p) : ∃ (a : Option Addr) (c : Nat) (A : List D.Rg), v = .slice a A.length c ∧ A.length ≤ 9223372036854775807 ∧ D.RAt W a A := by
  obtain ⟨a, n, c, rfl⟩ := okWide_slice Try.underlying22 hv
  obtain ⟨fuel, hf⟩ := h
  have hf' : DataW.trod enc Try.prog W 0 (fun _ => true) true fuel 22 [.slice a n c] = some (d, p) := hf
  rcases Deep.open_slice_pairs Try.underlying22 Try.underlying41 cellsR rfl rfl cellsI1 cellsI1 hf' with ⟨hcs, _⟩ | ⟨a', n', c', m, k, V0, V1, D0, D1, P0, P1, hcs, _, hl, hm, hmm, _, hcell⟩
  · simp only [List.cons.injEq, Value.slice.injEq, and_true] at hcs
    obtain ⟨rfl, rfl, rfl⟩ := hcs
    exact ⟨none, 0, [], rfl, by decide, D.RAt.nil⟩
  · simp only [List.cons.injEq, Value.slice.injEq, and_true] at hcs
    obtain ⟨rfl, rfl, rfl⟩ := hcs
    simp only [if_true] at hmm
    have hmx : maxLen = 9223372036854775807 := rfl
    have each : ∀ i, i < n → ∃ x y : Int, W.cell? (a'.add (i * 2)) = some (.int .i64 x) ∧ W.cell? (a'.add (i * 2 + 1)) = some (.int .i64 y) := fun i hi => by
      obtain ⟨h1, h2, h3, h4⟩ := hcell i (by omega)
      obtain ⟨x, e0, _, _⟩ := DataW.trod_int Try.underlying3 h3
      obtain ⟨y, e1, _, _⟩ := DataW.trod_int Try.underlying3 h4
      simp at e0 e1
      exact ⟨x, y, e0 ▸ h1, e1 ▸ h2⟩
    have hx : ∃ f : Nat → D.Rg, ∀ i, i < n → W.cell? (a'.add (i * 2)) = some (.int .i64 (f i).1) ∧ W.cell? (a'.add (i * 2 + 1)) = some (.int .i64 (f i).2) := by
      refine ⟨fun i => if h : i < n then (Classical.choose (each i h), Classical.choose (Classical.choose_spec (each i h))) else (0, 0), fun i hi => ?_⟩
      simp only [dif_pos hi]
      exact Classical.choose_spec (Classical.choose_spec (each i hi))
    obtain ⟨f, hf⟩ := hx
    refine ⟨some a', c, (List.range n).map f, by simp, by simp; omega, fun i r hi => ?_⟩
    have hin : i < n := by
      have := (List.getElem?_eq_some_iff.1 hi).1
      simpa using this
    obtain rfl : f i = r := by simpa [hin] using hi
    obtain ⟨h1, h2⟩ := hf i hin
    obtain ⟨b, o, spot⟩ := a'
    have h00 := (hf 0 (by omega)).1
    obtain rfl : spot = none := by simpa [Addr.add] using World.cell?_spot h00
    refine ⟨b, o, rfl, ?_, ?_⟩
    · simpa [add_plain] using h1
    · rw [Nat.add_assoc]
      simpa [add_plain] using h2

end Go.Proofs.Ytmohggeeedncoaa
