/- Walks: the date of a day; shifts by days and months. -/
import Derived.Test.YtodmpdcffnmmkaaDoorA1
namespace Go.Proofs.YtodmpdcffnmmkaaDoor
set_option linter.unusedVariables false
set_option linter.unusedSimpArgs false
set_option maxRecDepth 100000
set_option maxHeartbeats 1000000
namespace D
open Go.RowKit

theorem cum_step {y k m : Int} (h1 : 1 ≤ k) (h : k < m) : cum y k + md y k ≤ cum y m := by
  have := cum_succ y k h1
  have := cum_le y (a := k + 1) (b := m) (by omega) (by omega)
  omega

theorem year_guess {y m d : Int} (h : dval y m d = true) : num y m d / 366 + 1 ≤ y := by
  have hd := dval_bd h
  have hn := num_in h
  unfold ny at hn
  omega

end D
end Go.Proofs.YtodmpdcffnmmkaaDoor
