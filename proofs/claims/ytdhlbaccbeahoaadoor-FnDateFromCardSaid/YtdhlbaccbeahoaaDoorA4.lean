/- Walks: clocks and stamps of the program. -/
import Derived.Test.YtdhlbaccbeahoaaDoorA1
import Derived.Test.YtdhlbaccbeahoaaDoorEq
import Derived.Test.YtdhlbaccbeahoaaDoorEr
import Derived.Test.YtdhlbaccbeahoaaDoorPL
namespace Go.Proofs.YtdhlbaccbeahoaaDoor
set_option linter.unusedVariables false
set_option linter.unusedSimpArgs false
set_option maxRecDepth 100000
set_option maxHeartbeats 1000000
namespace D
open Go.RowKit
attribute [local irreducible] Calls

end D
end Go.Proofs.YtdhlbaccbeahoaaDoor
