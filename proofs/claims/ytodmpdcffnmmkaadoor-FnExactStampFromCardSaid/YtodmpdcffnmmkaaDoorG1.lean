/- Walks of the reference: texts of times, offsets and stamps. -/
import Derived.Test.YtodmpdcffnmmkaaDoorC3
import Derived.Test.YtodmpdcffnmmkaaDoorS4
import Derived.Test.YtodmpdcffnmmkaaDoorQS
namespace Go.Proofs.YtodmpdcffnmmkaaDoor
set_option linter.unusedVariables false
set_option linter.unusedSimpArgs false
set_option maxRecDepth 100000
set_option maxHeartbeats 1000000
namespace D
open Go.RowKit
open Go.PlainAid (bt bt_nonneg bt_le bt_end)
attribute [local irreducible] Calls

end D
end Go.Proofs.YtodmpdcffnmmkaaDoor
