/- Walks: months on, in the reference. -/
import Derived.Test.YtgllmnmgojbgeaaDoorS1
import Derived.Test.YtgllmnmgojbgeaaDoorA2m
namespace Go.Proofs.YtgllmnmgojbgeaaDoor
set_option linter.unusedVariables false
set_option linter.unusedSimpArgs false
set_option maxRecDepth 100000
set_option maxHeartbeats 1000000
namespace D
open Go.RowKit

theorem b_MonthPlus (y m d n : Int) (w : World) (hb : D.Base w) : Calls Tryd.prog 49 #[.agg #[.int .i64 y, .int .i64 m, .int .i64 d], .int .i64 n] w fun e w' => e = .returned (drV (mplus y m d n)) ∧ Below w.heap.size w w' := by
  by_cases h : dval y m d = true
  · have hd := dval_bd h
    by_cases hr : inR n (-119988) 119988 = true
    · have hrb := inR_true.1 hr
      by_cases hin : inR (12 * y + m - 1 + n) 12 119999 = true
      · have hib := inR_true.1 hin
        rw [mplus_ok h hib.1 hib.2]
        refine enter Tryd.func49 rfl Tryd.ntmps49 rfl (by assumption) ?_
        (repeat (first | intro (b : Nat) | refine go ?_))
        (refine L.call (h := by intro W hW; exact h ▸ b_DateValid _ _ _ W hW.base) (k := ?_))
        (repeat (first | intro (b : Nat) | refine go ?_))
        (refine L.call (h := by intro W hW; exact hr ▸ b_in _ _ _ W hW.base) (k := ?_))
        (repeat (first | intro (b : Nat) | refine go ?_))
        (refine L.call (h := by intro W hW; exact hin ▸ b_in _ _ _ W hW.base) (k := ?_))
        (repeat (first | intro (b : Nat) | refine go ?_))
        ((repeat (refine C.seq ?_)); apply C.draww 9 [none, some _, none, some _, none, some _, some _, none, none])
        (repeat (first | intro (b : Nat) | refine gg ?_))
        (refine G.call (h := by intro W hW; exact b_MonthDays _ _ W hW.base) (k := ?_))
        (repeat (first | intro (b : Nat) | refine gg ?_))
        (repeat (first | intro (b : Nat) | refine go ?_))
        (refine ret ?_; try exact rfl)
      · have hin : inR (12 * y + m - 1 + n) 12 119999 = false := by simpa using hin
        have hib := inR_false.1 hin
        rw [mplus_out (by unfold mpT; omega)]
        refine enter Tryd.func49 rfl Tryd.ntmps49 rfl (by assumption) ?_
        (repeat (first | intro (b : Nat) | refine go ?_))
        (refine L.call (h := by intro W hW; exact h ▸ b_DateValid _ _ _ W hW.base) (k := ?_))
        (repeat (first | intro (b : Nat) | refine go ?_))
        (refine L.call (h := by intro W hW; exact hr ▸ b_in _ _ _ W hW.base) (k := ?_))
        (repeat (first | intro (b : Nat) | refine go ?_))
        (refine L.call (h := by intro W hW; exact hin ▸ b_in _ _ _ W hW.base) (k := ?_))
        (repeat (first | intro (b : Nat) | refine go ?_))
        (refine ret ?_; try exact rfl)
    · have hr : inR n (-119988) 119988 = false := by simpa using hr
      rw [mplus_range hr]
      refine enter Tryd.func49 rfl Tryd.ntmps49 rfl (by assumption) ?_
      (repeat (first | intro (b : Nat) | refine go ?_))
      (refine L.call (h := by intro W hW; exact h ▸ b_DateValid _ _ _ W hW.base) (k := ?_))
      (repeat (first | intro (b : Nat) | refine go ?_))
      (refine L.call (h := by intro W hW; exact hr ▸ b_in _ _ _ W hW.base) (k := ?_))
      (repeat (first | intro (b : Nat) | refine go ?_))
      (refine ret ?_; try exact rfl)
  · have h : dval y m d = false := by simpa using h
    rw [mplus_invalid h]
    refine enter Tryd.func49 rfl Tryd.ntmps49 rfl (by assumption) ?_
    (repeat (first | intro (b : Nat) | refine go ?_))
    (refine L.call (h := by intro W hW; exact h ▸ b_DateValid _ _ _ W hW.base) (k := ?_))
    (repeat (first | intro (b : Nat) | refine go ?_))
    (refine ret ?_; try exact rfl)

end D
end Go.Proofs.YtgllmnmgojbgeaaDoor
