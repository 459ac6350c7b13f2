/- Walks: days of the program. -/
import Derived.Test.YtodmpdcffnmmkaaDoorEI
import Derived.Test.YtodmpdcffnmmkaaDoorPL
namespace Go.Proofs.YtodmpdcffnmmkaaDoor
set_option linter.unusedVariables false
set_option linter.unusedSimpArgs false
set_option maxRecDepth 100000
set_option maxHeartbeats 1000000
namespace D
open Go.RowKit

theorem a_within (n lo hi : Int) (w : World) (hb : D.Base w) : Calls Tryd.prog 40 #[.int .i64 n, .int .i64 lo, .int .i64 hi] w fun e w' => e = .returned (.bool (inR n lo hi)) ∧ Below w.heap.size w w' := by
  refine enter Tryd.func40 rfl Tryd.ntmps40 rfl (by assumption) ?_
  (repeat' (first | intro (b : Nat) | refine go ?_ | (refine br ?_ ?_ <;> first | exact trivial | intro hq)))
  all_goals (refine ret ?_; try exact rfl)
  all_goals (simp [tupleOf, inR] <;> omega)

theorem a_yearValid (n : Int) (w : World) (hb : D.Base w) : Calls Tryd.prog 62 #[.int .i64 n] w fun e w' => e = .returned (.bool (inR n 1 9999)) ∧ Below w.heap.size w w' := by
  refine enter Tryd.func62 rfl Tryd.ntmps62 rfl (by assumption) ?_
  (repeat (first | intro (b : Nat) | refine go ?_))
  (refine L.call (h := by intro W hW; exact a_within _ _ _ W hW.base) (k := ?_))
  (repeat (first | intro (b : Nat) | refine go ?_))
  (refine ret ?_; try exact rfl)

theorem a_LeapYear (y : Int) (w : World) (hb : D.Base w) : Calls Tryd.prog 63 #[.int .i64 y] w fun e w' => e = .returned (.bool (leap y)) ∧ Below w.heap.size w w' := by
  by_cases hy : 1 ≤ y ∧ y ≤ 9999
  · have hr : inR y 1 9999 = true := inR_true.2 hy
    refine enter Tryd.func63 rfl Tryd.ntmps63 rfl (by assumption) ?_
    (repeat (first | intro (b : Nat) | refine go ?_))
    (refine L.call (h := by intro W hW; exact hr ▸ a_yearValid _ W hW.base) (k := ?_))
    (repeat' (first | intro (b : Nat) | refine go ?_ | (refine br ?_ ?_ <;> first | exact trivial | intro hq)))
    all_goals (refine ret ?_; try exact rfl)
    all_goals (simp [tupleOf, leap, hr, *] <;> (try rw [Bool.eq_iff_iff]; simp))
  · have hr : inR y 1 9999 = false := inR_false.2 hy
    refine enter Tryd.func63 rfl Tryd.ntmps63 rfl (by assumption) ?_
    (repeat (first | intro (b : Nat) | refine go ?_))
    (refine L.call (h := by intro W hW; exact hr ▸ a_yearValid _ W hW.base) (k := ?_))
    (repeat' (first | intro (b : Nat) | refine go ?_ | (refine br ?_ ?_ <;> first | exact trivial | intro hq)))
    all_goals (refine ret ?_; try exact rfl)
    all_goals (simp [tupleOf, leap, hr])

theorem a_MonthDays (y m : Int) (w : World) (hb : D.Base w) : Calls Tryd.prog 41 #[.int .i64 y, .int .i64 m] w fun e w' => e = .returned (.int .i64 (md y m)) ∧ Below w.heap.size w w' := by
  by_cases hy : inR y 1 9999 = true
  · by_cases hm : inR m 1 12 = true
    · have hmb := inR_true.1 hm
      by_cases h2 : m = 2
      · subst h2
        by_cases hl : leap y = true
        · refine enter Tryd.func41 rfl Tryd.ntmps41 rfl (by assumption) ?_
          (repeat (first | intro (b : Nat) | refine go ?_))
          (refine L.call (h := by intro W hW; exact hy ▸ a_yearValid _ W hW.base) (k := ?_))
          (repeat (first | intro (b : Nat) | refine go ?_))
          (refine L.call (h := by intro W hW; exact hm ▸ a_within _ _ _ W hW.base) (k := ?_))
          (repeat (first | intro (b : Nat) | refine go ?_))
          (repeat' (first | intro (b : Nat) | refine go ?_ | (refine br ?_ ?_ <;> first | exact trivial | intro hq)))
          (refine L.call (h := by intro W hW; exact hl ▸ a_LeapYear _ W hW.base) (k := ?_))
          (repeat (first | intro (b : Nat) | refine go ?_))
          (refine ret ?_; try exact rfl)
          simp [tupleOf, md, hy, hm, hl]
        · have hl : leap y = false := by simpa using hl
          refine enter Tryd.func41 rfl Tryd.ntmps41 rfl (by assumption) ?_
          (repeat (first | intro (b : Nat) | refine go ?_))
          (refine L.call (h := by intro W hW; exact hy ▸ a_yearValid _ W hW.base) (k := ?_))
          (repeat (first | intro (b : Nat) | refine go ?_))
          (refine L.call (h := by intro W hW; exact hm ▸ a_within _ _ _ W hW.base) (k := ?_))
          (repeat (first | intro (b : Nat) | refine go ?_))
          (repeat' (first | intro (b : Nat) | refine go ?_ | (refine br ?_ ?_ <;> first | exact trivial | intro hq)))
          (refine L.call (h := by intro W hW; exact hl ▸ a_LeapYear _ W hW.base) (k := ?_))
          (repeat (first | intro (b : Nat) | refine go ?_))
          (apply L.v; (· exact rfl); (· exact rfl); (· apply OV.loadW; (· exact rfl); (intro W hW; exact run_loadVar_sc (hW.base.tab 1 (by omega)))))
          (repeat (first | intro (b : Nat) | refine go ?_))
          (refine ret ?_; try exact rfl)
          simp [tupleOf, md, hy, hm, hl]
      · refine enter Tryd.func41 rfl Tryd.ntmps41 rfl (by assumption) ?_
        (repeat (first | intro (b : Nat) | refine go ?_))
        (refine L.call (h := by intro W hW; exact hy ▸ a_yearValid _ W hW.base) (k := ?_))
        (repeat (first | intro (b : Nat) | refine go ?_))
        (refine L.call (h := by intro W hW; exact hm ▸ a_within _ _ _ W hW.base) (k := ?_))
        (repeat' (first | intro (b : Nat) | refine go ?_ | (refine br ?_ ?_ <;> first | exact trivial | intro hq)))
        (apply L.v; (· exact rfl); (· exact rfl); (· apply OV.loadW; (· exact rfl); (intro W hW; exact run_loadVar_sc (by simpa using hW.base.tab (m - 1).toNat (by omega)))))
        (repeat (first | intro (b : Nat) | refine go ?_))
        (refine ret ?_; try exact rfl)
        simp [tupleOf, md, hy, hm, h2]
    · have hm : inR m 1 12 = false := by simpa using hm
      refine enter Tryd.func41 rfl Tryd.ntmps41 rfl (by assumption) ?_
      (repeat (first | intro (b : Nat) | refine go ?_))
      (refine L.call (h := by intro W hW; exact hy ▸ a_yearValid _ W hW.base) (k := ?_))
      (repeat (first | intro (b : Nat) | refine go ?_))
      (refine L.call (h := by intro W hW; exact hm ▸ a_within _ _ _ W hW.base) (k := ?_))
      (repeat (first | intro (b : Nat) | refine go ?_))
      (refine ret ?_; try exact rfl)
      simp [tupleOf, md, hm]
  · have hy : inR y 1 9999 = false := by simpa using hy
    refine enter Tryd.func41 rfl Tryd.ntmps41 rfl (by assumption) ?_
    (repeat (first | intro (b : Nat) | refine go ?_))
    (refine L.call (h := by intro W hW; exact hy ▸ a_yearValid _ W hW.base) (k := ?_))
    (repeat (first | intro (b : Nat) | refine go ?_))
    (refine ret ?_; try exact rfl)
    simp [tupleOf, md, hy]

theorem a_DateValid (y m d : Int) (w : World) (hb : D.Base w) : Calls Tryd.prog 24 #[.agg #[.int .i64 y, .int .i64 m, .int .i64 d]] w fun e w' => e = .returned (.bool (dval y m d)) ∧ Below w.heap.size w w' := by
  refine enter Tryd.func24 rfl Tryd.ntmps24 rfl (by assumption) ?_
  (repeat (first | intro (b : Nat) | refine go ?_))
  ((repeat (refine C.seq ?_)); apply C.draww 9 [none, some _, none, some _, none, some _, some _, some _, none])
  (repeat (first | intro (b : Nat) | refine gg ?_))
  (refine G.call (h := by intro W hW; exact a_MonthDays _ _ W hW.base) (k := ?_))
  (repeat (first | intro (b : Nat) | refine gg ?_))
  (refine G.call (h := by intro W hW; exact a_within _ _ _ W hW.base) (k := ?_))
  (repeat (first | intro (b : Nat) | refine gg ?_))
  (repeat (first | intro (b : Nat) | refine go ?_))
  (refine ret ?_; try exact rfl)

theorem cum_one (y : Int) : cum y 1 = 0 := rfl

/-- The number of a day, or -1. -/
def dnum (y m d : Int) : Int := if dval y m d = true then num y m d else -1

end D
end Go.Proofs.YtodmpdcffnmmkaaDoor
