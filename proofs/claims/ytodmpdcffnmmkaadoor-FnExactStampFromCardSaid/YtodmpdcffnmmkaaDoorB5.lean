/- Walks: texts of dates; dates of texts. -/
import Derived.Test.YtodmpdcffnmmkaaDoorB3
import Derived.Test.YtodmpdcffnmmkaaDoorE3m
import Derived.Test.YtodmpdcffnmmkaaDoorPT
namespace Go.Proofs.YtodmpdcffnmmkaaDoor
set_option linter.unusedVariables false
set_option linter.unusedSimpArgs false
set_option maxRecDepth 100000
set_option maxHeartbeats 1000000
namespace D
open Go.RowKit
open Go.PlainAid (bt bt_nonneg bt_le bt_end)
attribute [local irreducible] Calls

theorem wno_53 {n : Int} (h : 0 ≤ n ∧ n ≤ 3652058) : 1 ≤ wno n ∧ wno n ≤ 53 := by
  have := wno_bd h
  have := wks_bd (wyr n)
  omega

end D
end Go.Proofs.YtodmpdcffnmmkaaDoor
