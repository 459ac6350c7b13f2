/- The walk of the law that the program reads a stamp as the reference does. -/
import Derived.Test.YtodmpdcffnmmkaaDoorF6
import Derived.Test.YtodmpdcffnmmkaaDoorG4
namespace Go.Proofs.YtodmpdcffnmmkaaDoor
set_option linter.unusedVariables false
set_option linter.unusedSimpArgs false
set_option maxRecDepth 100000
set_option maxHeartbeats 1000000
namespace D
open Go.RowKit
attribute [local irreducible] Calls

theorem l_eqStamp (y m d h i s k o : Int) (w : World) (hb : D.Base w) : Calls Tryd.prog 6 #[.agg #[.int .i64 y, .int .i64 m, .int .i64 d, .int .i64 h, .int .i64 i, .int .i64 s, .int .i64 k, .int .i64 o], .agg #[.int .i64 y, .int .i64 m, .int .i64 d, .int .i64 h, .int .i64 i, .int .i64 s, .int .i64 k, .int .i64 o]] w fun e w' => e = .returned (.bool true) ∧ Below w.heap.size w w' := by
  have hD : ∀ W, D.Base W → Calls Tryd.prog 15 #[.agg #[.int .i64 y, .int .i64 m, .int .i64 d], .agg #[.int .i64 y, .int .i64 m, .int .i64 d]] W fun e w' => e = .returned (.bool true) ∧ Below W.heap.size W w' := fun W hW => by
    refine enter Tryd.func15 rfl Tryd.ntmps15 rfl (by assumption) ?_
    (repeat' (first | intro (b : Nat) | refine go ?_ | (refine br ?_ ?_ <;> first | exact trivial | intro hq)))
    all_goals (refine ret ?_; try exact rfl)
  have hC : ∀ W, D.Base W → Calls Tryd.prog 16 #[.agg #[.int .i64 h, .int .i64 i, .int .i64 s, .int .i64 k], .agg #[.int .i64 h, .int .i64 i, .int .i64 s, .int .i64 k]] W fun e w' => e = .returned (.bool true) ∧ Below W.heap.size W w' := fun W hW => by
    refine enter Tryd.func16 rfl Tryd.ntmps16 rfl (by assumption) ?_
    (repeat' (first | intro (b : Nat) | refine go ?_ | (refine br ?_ ?_ <;> first | exact trivial | intro hq)))
    all_goals (refine ret ?_; try exact rfl)
  refine enter Tryd.func6 rfl Tryd.ntmps6 rfl (by assumption) ?_
  (repeat' (first | intro (b : Nat) | refine go ?_ | (refine br ?_ ?_ <;> first | exact trivial | intro hq) | refine L.call (h := by intro W hW; first | apply hD W hW.base | apply hC W hW.base) (k := ?_)))
  all_goals (refine ret ?_; try exact rfl)

theorem law_FnExactStampFrom (s : ByteArray) (w : World) (hb : D.Base w) (hg : Hdl w) : Calls Tryd.prog 3 #[.string s] w fun e w' => e = .returned (.bool true) ∧ Below w.heap.size w w' := by
  by_cases hn : s.size ≤ 1048576
  · have hA := a_StampFrom s (by omega)
    have hB := b_StampFrom s (by omega)
    generalize stR s (cutP s) = S at *
    obtain ⟨y, m, d, h, i, s', k, o, ok⟩ := S
    simp only [srV] at hA hB
    cases ok
    all_goals
      refine enter Tryd.func3 rfl Tryd.ntmps3 rfl (by assumption) ?_
      (repeat' (first | intro (b : Nat) | refine go ?_ | (refine br ?_ ?_ <;> first | exact trivial | intro hq) | refine L.call (h := by intro W hW; first | apply hA W hW.base (hW.old hg) | apply hB W hW.base | apply l_eqStamp _ _ _ _ _ _ _ _ W hW.base) (k := ?_)))
      all_goals (refine ret ?_; try exact rfl)
  · refine enter Tryd.func3 rfl Tryd.ntmps3 rfl (by assumption) ?_
    (repeat' (first | intro (b : Nat) | refine go ?_ | (refine br ?_ ?_ <;> first | exact trivial | intro hq)))
    all_goals (refine ret ?_; try exact rfl)

end D
end Go.Proofs.YtodmpdcffnmmkaaDoor
