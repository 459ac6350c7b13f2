/- Plain facts of clocks and stamps. -/
import Derived.Test.YtpodhahlbdlgeaaDoorPlain2
namespace Go.Proofs.YtpodhahlbdlgeaaDoor
set_option linter.unusedVariables false
set_option linter.unusedSimpArgs false
namespace D

/-- There is such a time. -/
def cval (h i s k : Int) : Bool := inR h 0 24 && inR i 0 59 && inR s 0 59 && inR k 0 999 && (decide (h < 24) || (i == 0 && s == 0 && k == 0))
/-- The thousandths of a second ahead of a time. -/
def cms (h i s k : Int) : Int := ((h * 60 + i) * 60 + s) * 1000 + k

theorem cval_bd {h i s k : Int} (hv : cval h i s k = true) : 0 ≤ h ∧ h ≤ 24 ∧ 0 ≤ i ∧ i ≤ 59 ∧ 0 ≤ s ∧ s ≤ 59 ∧ 0 ≤ k ∧ k ≤ 999 := by
  simp only [cval, Bool.and_eq_true, inR_true] at hv
  omega

theorem cms_bd {h i s k : Int} (hv : cval h i s k = true) : 0 ≤ cms h i s k ∧ cms h i s k ≤ 86400000 := by
  have hv' := hv
  simp only [cval, Bool.and_eq_true, Bool.or_eq_true, decide_eq_true_eq, beq_iff_eq, inR_true] at hv'
  unfold cms
  omega

/-- There is such a stamp. -/
def sval (y m d h i s k o : Int) : Bool := dval y m d && cval h i s k && inR o (-1439) 1439
/-- The instant of a stamp. -/
def inst (y m d h i s k o : Int) : Int := 86400000 * num y m d + cms h i s k - 60000 * o

theorem sval_parts {y m d h i s k o : Int} (hv : sval y m d h i s k o = true) : dval y m d = true ∧ cval h i s k = true ∧ -1439 ≤ o ∧ o ≤ 1439 := by
  simp only [sval, Bool.and_eq_true, inR_true] at hv
  exact ⟨hv.1.1, hv.1.2, hv.2.1, hv.2.2⟩

theorem inst_bd {y m d h i s k o : Int} (hv : sval y m d h i s k o = true) : -86400000 ≤ inst y m d h i s k o ∧ inst y m d h i s k o ≤ 315537984000000 ∧ 0 ≤ 86400000 * num y m d + cms h i s k ∧ 86400000 * num y m d + cms h i s k ≤ 315537897600000 ∧ inst y m d h i s k o = 86400000 * num y m d + cms h i s k - 60000 * o := by
  obtain ⟨h1, h2, h3, h4⟩ := sval_parts hv
  have a := num_bd h1
  have b := cms_bd h2
  unfold inst
  omega

/-! What is between two stamps. -/
def sbOk (y m d h i s k o y' m' d' h' i' s' k' o' : Int) : Bool :=
  sval y m d h i s k o && sval y' m' d' h' i' s' k' o' && decide (inst y m d h i s k o ≤ inst y' m' d' h' i' s' k' o') && decide ((inst y' m' d' h' i' s' k' o' - inst y m d h i s k o) / 86400000 ≤ 9999)

end D
end Go.Proofs.YtpodhahlbdlgeaaDoor
