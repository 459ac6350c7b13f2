/- The plain mathematics of ages. -/
import Derived.Test.YtgllmnmgojbgeaaDoorPlain2
namespace Go.Proofs.YtgllmnmgojbgeaaDoor
set_option linter.unusedVariables false
set_option linter.unusedSimpArgs false
namespace D

/-- The years from a date to another one, or -1. -/
def age (y m d y' m' d' : Int) : Int := if dval y m d = true ∧ dval y' m' d' = true ∧ num y m d ≤ num y' m' d' then bn y m d y' m' d' / 12 else -1
theorem age_yes {y m d y' m' d' : Int} (h : dval y m d = true ∧ dval y' m' d' = true ∧ num y m d ≤ num y' m' d') : age y m d y' m' d' = bn y m d y' m' d' / 12 := if_pos h
theorem age_no {y m d y' m' d' : Int} (h : ¬ (dval y m d = true ∧ dval y' m' d' = true ∧ num y m d ≤ num y' m' d')) : age y m d y' m' d' = -1 := if_neg h

end D
end Go.Proofs.YtgllmnmgojbgeaaDoor
