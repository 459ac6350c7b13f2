/- Plain laws: what is between two dates. -/
import Derived.Test.YtpodhahlbdlgeaaDoorPlain2
namespace Go.Proofs.YtpodhahlbdlgeaaDoor
set_option linter.unusedVariables false
set_option linter.unusedSimpArgs false
namespace D

theorem mplus_zero {y m d : Int} (h : dval y m d = true) : mplus y m d 0 = ⟨y, m, d, true⟩ := by
  have hd := dval_bd h
  rw [mplus_ok h (by omega) (by omega)]
  have e1 : (12 * y + m - 1 + 0) / 12 = y := by omega
  have e2 : (12 * y + m - 1 + 0) % 12 + 1 = m := by omega
  rw [e1, e2, Int.min_eq_left (by omega)]

theorem bn_cases {y m d y' m' d' : Int} : (bn y m d y' m' d' = n0 y m y' m' - 1 ∧ num y' m' d' < numR (mplus y m d (n0 y m y' m'))) ∨ (bn y m d y' m' d' = n0 y m y' m' ∧ numR (mplus y m d (n0 y m y' m')) ≤ num y' m' d') := by
  unfold bn
  split
  · exact .inl ⟨rfl, by assumption⟩
  · exact .inr ⟨rfl, by omega⟩

/-- One month more is too many. -/
theorem btw_most {y m d y' m' d' : Int} (h : dval y m d = true) (h' : dval y' m' d' = true) (hle : num y m d ≤ num y' m' d') (hok : 12 * y + m - 1 + (bn y m d y' m' d' + 1) ≤ 119999) :
    (mplus y m d (bn y m d y' m' d' + 1)).ok = true ∧ dval (mplus y m d (bn y m d y' m' d' + 1)).y (mplus y m d (bn y m d y' m' d' + 1)).m (mplus y m d (bn y m d y' m' d' + 1)).d = true ∧ num y' m' d' < numR (mplus y m d (bn y m d y' m' d' + 1)) := by
  have hB := btw h h' hle
  have hv := mplus_val (n := bn y m d y' m' d' + 1) h (by omega) (by omega)
  refine ⟨hv.1, hv.2.1, ?_⟩
  rcases bn_cases (y := y) (m := m) (d := d) (y' := y') (m' := m') (d' := d') with ⟨e, l⟩ | ⟨e, l⟩
  · rw [e, Int.sub_add_cancel]; exact l
  · exact num_lt h' hv.2.1 (by rw [hv.2.2, e]; unfold n0; omega)

/-- Nothing is between two dates if they are one. -/
theorem btw_same {y m d y' m' d' : Int} (h : dval y m d = true) (h' : dval y' m' d' = true) (hle : num y m d ≤ num y' m' d') : (bn y m d y' m' d' = 0 ∧ bd y m d y' m' d' = 0) ↔ (y = y' ∧ m = m' ∧ d = d') := by
  constructor
  · rintro ⟨h1, h2⟩
    unfold bd at h2
    rw [h1, mplus_zero h] at h2
    simp only [numR] at h2
    exact num_inj h h' (by omega)
  · rintro ⟨rfl, rfl, rfl⟩
    have e0 : n0 y m y m = 0 := by unfold n0; omega
    have e1 : bn y m d y m d = 0 := by
      unfold bn
      rw [e0, mplus_zero h]
      simp [numR]
    refine ⟨e1, ?_⟩
    unfold bd
    rw [e1, mplus_zero h]
    simp [numR]

/-- A day later: as many months, or one more. -/
theorem btw_next {y m d y' m' d' x z t : Int} (h : dval y m d = true) (h' : dval y' m' d' = true) (hle : num y m d ≤ num y' m' d') (hx : dval x z t = true) (hn : num x z t = num y' m' d' + 1) :
    bn y m d x z t = bn y m d y' m' d' ∨ bn y m d x z t = bn y m d y' m' d' + 1 := by
  have hd' := dval_bd h'
  have hdx := dval_bd hx
  have hB := btw h h' hle
  have hBx := btw h hx (by omega)
  have h1 : 12 * y' + m' ≤ 12 * x + z := by
    refine Int.not_lt.1 fun hl => ?_
    have := num_lt hx h' hl
    omega
  have h2 : 12 * x + z ≤ 12 * y' + m' + 1 := by
    refine Int.not_lt.1 fun hl => ?_
    have hv := mplus_val (n := 1) h' (by omega) (by omega)
    have := num_lt h' hv.2.1 (by omega)
    have := num_lt hv.2.1 hx (by omega)
    omega
  rcases (by omega : 12 * x + z = 12 * y' + m' ∨ 12 * x + z = 12 * y' + m' + 1) with e | e
  · have en : n0 y m x z = n0 y m y' m' := by unfold n0; omega
    rcases bn_cases (y := y) (m := m) (d := d) (y' := y') (m' := m') (d' := d') with ⟨e1, l⟩ | ⟨e1, l⟩
    · omega
    · rcases bn_cases (y := y) (m := m) (d := d) (y' := x) (m' := z) (d' := t) with ⟨e2, l2⟩ | ⟨e2, l2⟩
      · rw [en] at l2; omega
      · omega
  · have en : n0 y m x z = n0 y m y' m' + 1 := by unfold n0; omega
    have hv := mplus_val (n := n0 y m y' m') h (by omega) (by omega)
    have hl := num_lt hv.2.1 hx (by rw [hv.2.2]; unfold n0; omega)
    rcases bn_cases (y := y) (m := m) (d := d) (y' := y') (m' := m') (d' := d') with ⟨e1, l⟩ | ⟨e1, l⟩
    · unfold numR at l; omega
    · omega

/-- The months and then the days lead to the second date. -/
theorem btw_sum {y m d y' m' d' : Int} (h : dval y m d = true) (h' : dval y' m' d' = true) (hle : num y m d ≤ num y' m' d') :
    (mplus y m d (bn y m d y' m' d')).ok = true ∧ dval (mplus y m d (bn y m d y' m' d')).y (mplus y m d (bn y m d y' m' d')).m (mplus y m d (bn y m d y' m' d')).d = true ∧ numR (mplus y m d (bn y m d y' m' d')) + bd y m d y' m' d' = num y' m' d' := by
  have hB := btw h h' hle
  have hv := mplus_val (n := bn y m d y' m' d') h (by omega) (by omega)
  exact ⟨hv.1, hv.2.1, by unfold bd; omega⟩

end D
end Go.Proofs.YtpodhahlbdlgeaaDoor
