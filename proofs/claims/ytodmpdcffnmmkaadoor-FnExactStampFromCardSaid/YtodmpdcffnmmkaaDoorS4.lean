/- Walks: clocks, stamps and what is between stamps, in the reference; the walk of the law. -/
import Derived.Test.YtodmpdcffnmmkaaDoorS1
import Derived.Test.YtodmpdcffnmmkaaDoorA5
namespace Go.Proofs.YtodmpdcffnmmkaaDoor
set_option linter.unusedVariables false
set_option linter.unusedSimpArgs false
set_option maxRecDepth 100000
set_option maxHeartbeats 1000000
namespace D
open Go.RowKit

theorem b_ClockValid (h i s k : Int) (w : World) (hb : D.Base w) : Calls Tryd.prog 37 #[.agg #[.int .i64 h, .int .i64 i, .int .i64 s, .int .i64 k]] w fun e w' => e = .returned (.bool (cval h i s k)) ∧ Below w.heap.size w w' := by
  by_cases c0 : inR h 0 24 = true
  · by_cases c1 : inR i 0 59 = true
    · by_cases c2 : inR s 0 59 = true
      · by_cases c3 : inR k 0 999 = true
        · have hb0 := inR_true.1 c0
          have hb1 := inR_true.1 c1
          have hb2 := inR_true.1 c2
          have hb3 := inR_true.1 c3
          refine enter Tryd.func37 rfl Tryd.ntmps37 rfl (by assumption) ?_
          (repeat (first | intro (b : Nat) | refine go ?_))
          (refine L.call (h := by intro W hW; exact c0 ▸ b_in _ _ _ W hW.base) (k := ?_))
          (repeat (first | intro (b : Nat) | refine go ?_))
          (refine L.call (h := by intro W hW; exact c1 ▸ b_in _ _ _ W hW.base) (k := ?_))
          (repeat (first | intro (b : Nat) | refine go ?_))
          (refine L.call (h := by intro W hW; exact c2 ▸ b_in _ _ _ W hW.base) (k := ?_))
          (repeat (first | intro (b : Nat) | refine go ?_))
          (refine L.call (h := by intro W hW; exact c3 ▸ b_in _ _ _ W hW.base) (k := ?_))
          (repeat' (first | intro (b : Nat) | refine go ?_ | (refine br ?_ ?_ <;> first | exact trivial | intro hq)))
          all_goals (refine ret ?_; try exact rfl)
          · rw [show cval h i s k = true by simp only [cval, c0, c1, c2, c3, Bool.true_and, Bool.or_eq_true, decide_eq_true_eq]; exact Or.inl (by omega)]
            rfl
          · refine congrArg Value.bool ?_
            rw [Bool.eq_iff_iff]
            simp only [cval, c0, c1, c2, c3, Bool.true_and, Bool.or_eq_true, Bool.and_eq_true, decide_eq_true_eq, beq_iff_eq]
            omega
        · have c3 : inR k 0 999 = false := by simpa using c3
          refine enter Tryd.func37 rfl Tryd.ntmps37 rfl (by assumption) ?_
          (repeat (first | intro (b : Nat) | refine go ?_))
          (refine L.call (h := by intro W hW; exact c0 ▸ b_in _ _ _ W hW.base) (k := ?_))
          (repeat (first | intro (b : Nat) | refine go ?_))
          (refine L.call (h := by intro W hW; exact c1 ▸ b_in _ _ _ W hW.base) (k := ?_))
          (repeat (first | intro (b : Nat) | refine go ?_))
          (refine L.call (h := by intro W hW; exact c2 ▸ b_in _ _ _ W hW.base) (k := ?_))
          (repeat (first | intro (b : Nat) | refine go ?_))
          (refine L.call (h := by intro W hW; exact c3 ▸ b_in _ _ _ W hW.base) (k := ?_))
          (repeat (first | intro (b : Nat) | refine go ?_))
          (refine ret ?_; try exact rfl)
          simp [tupleOf, cval, c3]
      · have c2 : inR s 0 59 = false := by simpa using c2
        refine enter Tryd.func37 rfl Tryd.ntmps37 rfl (by assumption) ?_
        (repeat (first | intro (b : Nat) | refine go ?_))
        (refine L.call (h := by intro W hW; exact c0 ▸ b_in _ _ _ W hW.base) (k := ?_))
        (repeat (first | intro (b : Nat) | refine go ?_))
        (refine L.call (h := by intro W hW; exact c1 ▸ b_in _ _ _ W hW.base) (k := ?_))
        (repeat (first | intro (b : Nat) | refine go ?_))
        (refine L.call (h := by intro W hW; exact c2 ▸ b_in _ _ _ W hW.base) (k := ?_))
        (repeat (first | intro (b : Nat) | refine go ?_))
        (refine ret ?_; try exact rfl)
        simp [tupleOf, cval, c2]
    · have c1 : inR i 0 59 = false := by simpa using c1
      refine enter Tryd.func37 rfl Tryd.ntmps37 rfl (by assumption) ?_
      (repeat (first | intro (b : Nat) | refine go ?_))
      (refine L.call (h := by intro W hW; exact c0 ▸ b_in _ _ _ W hW.base) (k := ?_))
      (repeat (first | intro (b : Nat) | refine go ?_))
      (refine L.call (h := by intro W hW; exact c1 ▸ b_in _ _ _ W hW.base) (k := ?_))
      (repeat (first | intro (b : Nat) | refine go ?_))
      (refine ret ?_; try exact rfl)
      simp [tupleOf, cval, c1]
  · have c0 : inR h 0 24 = false := by simpa using c0
    refine enter Tryd.func37 rfl Tryd.ntmps37 rfl (by assumption) ?_
    (repeat (first | intro (b : Nat) | refine go ?_))
    (refine L.call (h := by intro W hW; exact c0 ▸ b_in _ _ _ W hW.base) (k := ?_))
    (repeat (first | intro (b : Nat) | refine go ?_))
    (refine ret ?_; try exact rfl)
    simp [tupleOf, cval, c0]

end D
end Go.Proofs.YtodmpdcffnmmkaaDoor
