/- What an argument that is a code reads as. -/
import Derived.Test.YtpgbmohocfcjpaaGreatDoorKE
import Derived.Test.YtpgbmohocfcjpaaGreatDoorE2
namespace Go.Proofs.YtpgbmohocfcjpaaGreatDoor
set_option linter.unusedVariables false
set_option linter.unusedSimpArgs false
set_option maxRecDepth 100000
open Go.ChangeShapes Go.WideShapes Go.ChangeAt Go.RowKit Go.Joins

theorem cellsU8 : Tryz.prog.cellsOf 5 = 1 := by kernel_rfl

theorem open_code {H : Type} {enc : TypeId × Value → H} {W : World} {base : Nat} {v : Value} {d : DataW H} {p : List MemPlace} (hv : Value.okWide Tryz.prog W .any base 27 v)
    (h : DataW.Trod enc Tryz.prog W 0 (fun _ => true) true 27 v d p) : ∃ (a : Option Addr) (n c : Nat), v = .slice a n c ∧ (n ≤ 1048576 → D.CodeAt W (.slice a n c)) := by
  obtain ⟨a, n, c, rfl⟩ := okWide_slice Tryz.underlying27 hv
  obtain ⟨fuel, hf⟩ := h
  rcases open_ints Tryz.underlying27 Tryz.underlying5 cellsU8 hf with ⟨hcs, _⟩ | ⟨a', n', c', zs, hcs, _, hl, _, hz, _, hcell, hwz⟩
  · simp [Value.cells] at hcs
    obtain ⟨rfl, rfl, rfl⟩ := hcs
    exact ⟨_, _, _, rfl, fun _ => .inl ⟨_, _, rfl⟩⟩
  · simp [Value.cells] at hcs
    obtain ⟨rfl, rfl, rfl⟩ := hcs
    refine ⟨_, _, _, rfl, fun hn => ?_⟩
    simp only [if_true] at hz
    rcases Nat.eq_zero_or_pos n with h0 | hp
    · subst h0
      exact .inl ⟨_, _, rfl⟩
    · obtain ⟨b, o, rfl, hc⟩ := ints_at hcell (by omega)
      refine .inr ⟨b, o, n, c, rfl, hl, hn, fun j hj => ?_⟩
      have hbd := bounds_u8 (hwz (zs.getD j 0) (by
        have : j < zs.length := by omega
        simp [List.getD, this]))
      exact ⟨zs.getD j 0, hbd.1, by omega, hc j (by omega)⟩

end Go.Proofs.YtpgbmohocfcjpaaGreatDoor
