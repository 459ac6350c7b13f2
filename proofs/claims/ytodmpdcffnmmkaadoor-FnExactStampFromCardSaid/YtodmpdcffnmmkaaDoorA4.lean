/- Walks: clocks and stamps of the program. -/
import Derived.Test.YtodmpdcffnmmkaaDoorA1
import Derived.Test.YtodmpdcffnmmkaaDoorEq
import Derived.Test.YtodmpdcffnmmkaaDoorEr
import Derived.Test.YtodmpdcffnmmkaaDoorPL
namespace Go.Proofs.YtodmpdcffnmmkaaDoor
set_option linter.unusedVariables false
set_option linter.unusedSimpArgs false
set_option maxRecDepth 100000
set_option maxHeartbeats 1000000
namespace D
open Go.RowKit
attribute [local irreducible] Calls

theorem a_ClockValid (h i s k : Int) (w : World) (hb : D.Base w) : Calls Tryd.prog 43 #[.agg #[.int .i64 h, .int .i64 i, .int .i64 s, .int .i64 k]] w fun e w' => e = .returned (.bool (cval h i s k)) ∧ Below w.heap.size w w' := by
  by_cases h24 : h = 24 ∧ i = 0 ∧ s = 0 ∧ k = 0
  · obtain ⟨rfl, rfl, rfl, rfl⟩ := h24
    refine enter Tryd.func43 rfl Tryd.ntmps43 rfl (by assumption) ?_
    (repeat' (first | intro (b : Nat) | refine go ?_ | (refine br ?_ ?_ <;> first | exact trivial | intro hq)))
    (refine ret ?_; try exact rfl)
  · have hcv : cval h i s k = (inR h 0 23 && inR i 0 59 && inR s 0 59 && inR k 0 999) := by
      rw [Bool.eq_iff_iff]
      simp only [cval, Bool.and_eq_true, Bool.or_eq_true, decide_eq_true_eq, beq_iff_eq, inR_true]
      omega
    rw [hcv]
    clear hcv
    refine enter Tryd.func43 rfl Tryd.ntmps43 rfl (by assumption) ?_
    (repeat' (first | intro (b : Nat) | refine go ?_ | (refine br ?_ ?_ <;> first | exact trivial | intro hq) | refine L.call (h := by intro W hW; apply a_within _ _ _ W hW.base) (k := ?_)))
    all_goals (refine ret ?_; try exact rfl)
    all_goals simp_all [tupleOf]

theorem a_offsetValid (o : Int) (w : World) (hb : D.Base w) : Calls Tryd.prog 48 #[.int .i64 o] w fun e w' => e = .returned (.bool (inR o (-1439) 1439)) ∧ Below w.heap.size w w' := by
  refine enter Tryd.func48 rfl Tryd.ntmps48 rfl (by assumption) ?_
  (repeat (first | intro (b : Nat) | refine go ?_))
  (refine L.call (h := by intro W hW; exact a_within _ _ _ W hW.base) (k := ?_))
  (repeat (first | intro (b : Nat) | refine go ?_))
  (refine ret ?_; try exact rfl)

end D
end Go.Proofs.YtodmpdcffnmmkaaDoor
