/- Walks: the date of any day, shifts by days, stamps of instants, rounding. -/
import Derived.Test.YtodmpdcffnmmkaaDoorA2
import Derived.Test.YtodmpdcffnmmkaaDoorA4
import Derived.Test.YtodmpdcffnmmkaaDoorPL
namespace Go.Proofs.YtodmpdcffnmmkaaDoor
set_option linter.unusedVariables false
set_option linter.unusedSimpArgs false
set_option maxRecDepth 100000
set_option maxHeartbeats 1000000
namespace D
open Go.RowKit
attribute [local irreducible] Calls

/-- A stamp and whether there is one, as values. -/
def srV (r : SR) : Value := .tuple #[.agg #[.int .i64 r.y, .int .i64 r.m, .int .i64 r.d, .int .i64 r.h, .int .i64 r.i, .int .i64 r.s, .int .i64 r.k, .int .i64 r.o], .bool r.ok]

end D
end Go.Proofs.YtodmpdcffnmmkaaDoor
