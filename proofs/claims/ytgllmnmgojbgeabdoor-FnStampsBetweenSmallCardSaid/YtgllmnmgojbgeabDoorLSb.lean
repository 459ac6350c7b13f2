/- The walk of the law that a period between stamps has no months. -/
import Derived.Test.YtgllmnmgojbgeabDoorDr4
import Derived.Test.YtgllmnmgojbgeabDoorA6
namespace Go.Proofs.YtgllmnmgojbgeabDoor
set_option linter.unusedVariables false
set_option linter.unusedSimpArgs false
set_option maxRecDepth 100000
set_option maxHeartbeats 1000000
namespace D
open Go.RowKit
attribute [local irreducible] Calls

theorem law_FnStampsBetweenSmall (a : Option Addr) (n c : Nat) (w : World) (hc : n ≤ 1048576 → CodeAt w (.slice a n c)) (hb : D.Base w) (he : Err w) :
    Calls Tryd.prog 3 #[.slice a n c] w fun e w' => e = .returned (.bool true) ∧ Below w.heap.size w w' := by
  by_cases hn : n ≤ 1048576
  · refine enter Tryd.func3 rfl Tryd.ntmps3 rfl (by assumption) ?_
    (repeat' (first | intro (b : Nat) | refine go ?_ | (refine br ?_ ?_ <;> first | exact trivial | intro hq)))
    (refine L.vcall (h := by intro W hW; exact d_StampsBetween _ W ((hc hn).keep hW.low) hW.base) (k := ?_); intro v hR)
    obtain ⟨y, m, d, h, i, s, k, o, y', m', d', h', i', s', k', o', rfl⟩ := hR
    have hA := a_StampsBetween y m d h i s k o y' m' d' h' i' s' k' o'
    have hB := b_StampsBetween y m d h i s k o y' m' d' h' i' s' k' o'
    cases hk : sbOk y m d h i s k o y' m' d' h' i' s' k' o'
    · rw [hk] at hA hB
      simp only [secV, Bool.false_eq_true, if_false] at hA hB
      (repeat' (first | intro (b : Nat) | refine go ?_ | (refine br ?_ ?_ <;> first | exact trivial | intro hq) | refine L.call (h := by intro W hW; first | apply hA W hW.base (hW.err he) | apply hB W hW.base) (k := ?_)))
      all_goals (refine ret ?_; try exact rfl)
      all_goals simp [tupleOf]
    · rw [hk] at hA hB
      simp only [secV, if_true] at hA hB
      have hk2 := hk
      simp only [sbOk, Bool.and_eq_true, decide_eq_true_eq] at hk2
      obtain ⟨⟨⟨k1, k2⟩, k3⟩, k4⟩ := hk2
      have ht : 0 ≤ inst y' m' d' h' i' s' k' o' - inst y m d h i s k o := by omega
      generalize inst y' m' d' h' i' s' k' o' - inst y m d h i s k o = t at *
      (repeat' (first | intro (b : Nat) | refine go ?_ | (refine br ?_ ?_ <;> first | exact trivial | intro hq) | refine L.call (h := by intro W hW; first | apply hA W hW.base (hW.err he) | apply hB W hW.base | apply rvb (perV_of (by omega)) (a_PeriodValid _ _ _ _ _ _ W hW.base)) (k := ?_)))
      all_goals (refine ret ?_; try exact rfl)
      all_goals simp [tupleOf]
  · refine enter Tryd.func3 rfl Tryd.ntmps3 rfl (by assumption) ?_
    (repeat' (first | intro (b : Nat) | refine go ?_ | (refine br ?_ ?_ <;> first | exact trivial | intro hq)))
    (refine ret ?_; try exact rfl)

end D
end Go.Proofs.YtgllmnmgojbgeabDoor
