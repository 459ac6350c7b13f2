/- Walks: what is between stamps, in the program. -/
import Derived.Test.YtodmpdcffnmmkaaDoorA4
namespace Go.Proofs.YtodmpdcffnmmkaaDoor
set_option linter.unusedVariables false
set_option linter.unusedSimpArgs false
set_option maxRecDepth 100000
set_option maxHeartbeats 1000000
namespace D
open Go.RowKit

/-- The period of so many seconds, and whether there is one. -/
def secV (ok : Bool) (n : Int) : Value := if ok = true then .tuple #[.agg #[.int .i64 0, .int .i64 0, .int .i64 (n / 86400), .int .i64 (n / 3600 % 24), .int .i64 (n / 60 % 60), .int .i64 (n % 60)], .bool true] else .tuple #[.agg #[.int .i64 0, .int .i64 0, .int .i64 0, .int .i64 0, .int .i64 0, .int .i64 0], .bool false]

end D
end Go.Proofs.YtodmpdcffnmmkaaDoor
