/- What an argument that is a list of strings reads as. -/
import Derived.Test.YtpgbmohocfcjpaaGreatDoorKE
import Derived.Test.YtpgbmohocfcjpaaGreatDoorHs
import Derived.Deep.Slices
namespace Go.Proofs.YtpgbmohocfcjpaaGreatDoor
set_option linter.unusedVariables false
set_option linter.unusedSimpArgs false
set_option maxRecDepth 100000
open Go.ChangeShapes Go.WideShapes Go.ChangeAt Go.RowKit Go.Joins

theorem cellsStr : Tryz.prog.cellsOf 9 = 1 := by kernel_rfl

theorem open_strs {H : Type} {enc : TypeId × Value → H} {W : World} {base : Nat} {v : Value} {d : DataW H} {p : List MemPlace} (hv : Value.okWide Tryz.prog W .any base 22 v)
    (h : DataW.Trod enc Tryz.prog W 0 (fun _ => true) true 22 v d p) : ∃ (a : Option Addr) (c : Nat) (Ts : List ByteArray), v = .slice a Ts.length c ∧ (Ts.length ≤ 9223372036854775807 ∧ (∀ s ∈ Ts, s.size ≤ 9223372036854775807) ∧ D.sE.Rd W a Ts) := by
  obtain ⟨a, n, c, rfl⟩ := okWide_slice Tryz.underlying22 hv
  obtain ⟨fuel, hf⟩ := h
  have hf' : DataW.trod enc Tryz.prog W 0 (fun _ => true) true fuel 22 [.slice a n c] = some (d, p) := hf
  rcases Deep.open_slice1 Tryz.underlying22 cellsStr hf' with ⟨hcs, _⟩ | ⟨a', n', c', m, k, V, D0, P0, hcs, _, hl, hm, hmm, _, hcell⟩
  · simp only [List.cons.injEq, Value.slice.injEq, and_true] at hcs
    obtain ⟨rfl, rfl, rfl⟩ := hcs
    exact ⟨none, 0, [], rfl, by decide, fun s hs => absurd hs List.not_mem_nil, fun i x h => by simp at h⟩
  · simp only [List.cons.injEq, Value.slice.injEq, and_true] at hcs
    obtain ⟨rfl, rfl, rfl⟩ := hcs
    simp only [if_true] at hmm
    have hmx : maxLen = 9223372036854775807 := rfl
    have each : ∀ i, i < n → ∃ s : ByteArray, W.cell? (a'.add i) = some (.string s) ∧ s.size ≤ 9223372036854775807 := fun i hi => by
      obtain ⟨h1, h2⟩ := hcell i (by omega)
      obtain ⟨s, e0, _, h3⟩ := DataW.trod_string Tryz.underlying9 h2
      simp at e0
      exact ⟨s, e0 ▸ h1, by omega⟩
    have hx : ∃ f : Nat → ByteArray, ∀ i, i < n → W.cell? (a'.add i) = some (.string (f i)) ∧ (f i).size ≤ 9223372036854775807 := by
      refine ⟨fun i => if h : i < n then Classical.choose (each i h) else ⟨#[]⟩, fun i hi => ?_⟩
      simp only [dif_pos hi]
      exact Classical.choose_spec (each i hi)
    obtain ⟨f, hf⟩ := hx
    refine ⟨some a', c, (List.range n).map f, by simp, by simp; omega, fun s hs => ?_, fun i r hi => ?_⟩
    · obtain ⟨i, hi, rfl⟩ := List.mem_map.1 hs
      exact (hf i (List.mem_range.1 hi)).2
    · have hin : i < n := by
        have := (List.getElem?_eq_some_iff.1 hi).1
        simpa using this
      obtain rfl : f i = r := by simpa [hin] using hi
      have h1 := (hf i hin).1
      obtain ⟨b, o, spot⟩ := a'
      have h00 := (hf 0 (by omega)).1
      obtain rfl : spot = none := by simpa [Addr.add] using World.cell?_spot h00
      refine ⟨b, o, rfl, fun j u hj => ?_⟩
      have hj0 : j = 0 := by
        have := (List.getElem?_eq_some_iff.1 hj).1
        simpa using this
      subst hj0
      obtain rfl : Value.string (f i) = u := by simpa using hj
      have e1 : o + i * 1 + 0 = o + i := by omega
      show W.cell? ⟨b, o + i * 1 + 0, none⟩ = _
      rw [e1]
      simpa [add_plain] using h1

end Go.Proofs.YtpgbmohocfcjpaaGreatDoor
