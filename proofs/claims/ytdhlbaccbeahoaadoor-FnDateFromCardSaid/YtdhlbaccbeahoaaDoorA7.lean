/- Walks: the date of any day, shifts by days, stamps of instants, rounding. -/
import Derived.Test.YtdhlbaccbeahoaaDoorA2
import Derived.Test.YtdhlbaccbeahoaaDoorA4
import Derived.Test.YtdhlbaccbeahoaaDoorPL
namespace Go.Proofs.YtdhlbaccbeahoaaDoor
set_option linter.unusedVariables false
set_option linter.unusedSimpArgs false
set_option maxRecDepth 100000
set_option maxHeartbeats 1000000
namespace D
open Go.RowKit
attribute [local irreducible] Calls

/-- A stamp and whether there is one, as values. -/
def srV (r : SR) : Value := .tuple #[.agg #[.int .i64 r.y, .int .i64 r.m, .int .i64 r.d, .int .i64 r.h, .int .i64 r.i, .int .i64 r.s, .int .i64 r.k, .int .i64 r.o], .bool r.ok]

theorem a_DateOfG (n : Int) (w : World) (hb : D.Base w) : Calls Tryd.prog 83 #[.int .i64 n] w fun e w' => e = .returned (drV (dateOf n)) ∧ Below w.heap.size w w' := by
  cases h : inR n 0 3652058 with
  | true =>
    obtain ⟨y, m, d, h1, rfl, h2⟩ := dateOf_yes h
    rw [h2]
    exact a_DateOf y m d h1 w hb
  | false =>
    rw [dateOf_no h]
    exact a_DateOf_no n h w hb

end D
end Go.Proofs.YtdhlbaccbeahoaaDoor
