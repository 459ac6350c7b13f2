/- Walks: clocks, stamps and what is between stamps, in the reference; the walk of the law. -/
import Derived.Test.YtdhlbaccbeahoaaDoorS1
import Derived.Test.YtdhlbaccbeahoaaDoorA5
namespace Go.Proofs.YtdhlbaccbeahoaaDoor
set_option linter.unusedVariables false
set_option linter.unusedSimpArgs false
set_option maxRecDepth 100000
set_option maxHeartbeats 1000000
namespace D
open Go.RowKit

end D
end Go.Proofs.YtdhlbaccbeahoaaDoor
