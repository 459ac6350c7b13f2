/- The walk of the law on texts of dates: a text has its date. -/
import Derived.Test.YtdhlbaccbeahoaaDoorDr5
import Derived.Test.YtdhlbaccbeahoaaDoorB6
import Derived.Test.YtdhlbaccbeahoaaDoorC4
import Derived.Test.YtdhlbaccbeahoaaDoorPT
import Derived.Test.YtdhlbaccbeahoaaDoorEq
namespace Go.Proofs.YtdhlbaccbeahoaaDoor
set_option linter.unusedVariables false
set_option linter.unusedSimpArgs false
set_option maxRecDepth 100000
set_option maxHeartbeats 1000000
namespace D
open Go.RowKit
attribute [local irreducible] Calls

theorem law_FnDateText (a : Option Addr) (n c : Nat) (w : World) (hc : n ≤ 1048576 → CodeAt w (.slice a n c)) (hb : D.Base w) :
    Calls Tryd.prog 3 #[.slice a n c] w fun e w' => e = .returned (.bool true) ∧ Below w.heap.size w w' := by
  by_cases hn : n ≤ 1048576
  · refine enter Tryd.func3 rfl Tryd.ntmps3 rfl (by assumption) ?_
    (repeat' (first | intro (b : Nat) | refine go ?_ | (refine br ?_ ?_ <;> first | exact trivial | intro hq)))
    (refine L.vcall (h := by intro W hW; exact d_DateTextA _ W ((hc hn).keep hW.low) hW.base) (k := ?_); intro v hR)
    obtain ⟨y, m, d, f, h, rfl⟩ := hR
    by_cases hv : dval y m d = true ∧ inR f 0 2 = true
    · have e1 : dtS y m d f h = .tuple #[.string (strOfNums (dtL y m d f h)), .bool true] := if_pos hv
      have hA := a_DateText y m d f h
      have hB := b_DateText y m d f h
      have hz : (strOfNums (dtL y m d f h)).size ≤ 1000000000000 := by
        have := dtL_len y m d f h
        rw [strOfNums_size]
        omega
      have hD := a_DateFrom (strOfNums (dtL y m d f h)) hz
      rw [df_text h hv.1 hv.2] at hD
      rw [e1] at hA hB
      generalize strOfNums (dtL y m d f h) = t at *
      cases h
      all_goals
        (repeat' (first | intro (b : Nat) | refine go ?_ | (refine br ?_ ?_ <;> first | exact trivial | intro hq) | refine L.call (h := by intro W hW; first | apply hA W hW.base | apply hB W hW.base | apply hD W hW.base) (k := ?_)))
        all_goals (refine ret ?_; try exact rfl)
        all_goals simp [tupleOf]
    · have e1 : dtS y m d f h = .tuple #[.string ⟨#[]⟩, .bool false] := if_neg hv
      have hA := a_DateText y m d f h
      have hB := b_DateText y m d f h
      rw [e1] at hA hB
      (repeat' (first | intro (b : Nat) | refine go ?_ | (refine br ?_ ?_ <;> first | exact trivial | intro hq) | refine L.call (h := by intro W hW; first | apply hA W hW.base | apply hB W hW.base) (k := ?_)))
      all_goals (refine ret ?_; try exact rfl)
      all_goals simp [tupleOf]
  · refine enter Tryd.func3 rfl Tryd.ntmps3 rfl (by assumption) ?_
    (repeat' (first | intro (b : Nat) | refine go ?_ | (refine br ?_ ?_ <;> first | exact trivial | intro hq)))
    (refine ret ?_; try exact rfl)

end D
end Go.Proofs.YtdhlbaccbeahoaaDoor
