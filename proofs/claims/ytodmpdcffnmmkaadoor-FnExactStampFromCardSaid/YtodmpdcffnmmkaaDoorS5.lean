/- Walks of the reference: stamps of instants, rounding. -/
import Derived.Test.YtodmpdcffnmmkaaDoorS3
import Derived.Test.YtodmpdcffnmmkaaDoorS4
import Derived.Test.YtodmpdcffnmmkaaDoorA7
namespace Go.Proofs.YtodmpdcffnmmkaaDoor
set_option linter.unusedVariables false
set_option linter.unusedSimpArgs false
set_option maxRecDepth 100000
set_option maxHeartbeats 1000000
namespace D
open Go.RowKit
attribute [local irreducible] Calls

theorem b_DateOfG (n : Int) (w : World) (hb : D.Base w) : Calls Tryd.prog 52 #[.int .i64 n] w fun e w' => e = .returned (drV (dateOf n)) ∧ Below w.heap.size w w' := by
  cases h : inR n 0 3652058 with
  | true =>
    obtain ⟨y, m, d, h1, rfl, h2⟩ := dateOf_yes h
    rw [h2]
    exact b_DateOf y m d h1 w hb
  | false =>
    rw [dateOf_no h]
    exact b_DateOf_no n h w hb

end D
end Go.Proofs.YtodmpdcffnmmkaaDoor
