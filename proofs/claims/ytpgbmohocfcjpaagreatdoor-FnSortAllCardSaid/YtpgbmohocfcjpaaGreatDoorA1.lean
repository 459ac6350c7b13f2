/- Walks: days of the program. -/
import Derived.Test.YtpgbmohocfcjpaaGreatDoorEI
import Derived.Test.YtpgbmohocfcjpaaGreatDoorPL
namespace Go.Proofs.YtpgbmohocfcjpaaGreatDoor
set_option linter.unusedVariables false
set_option linter.unusedSimpArgs false
set_option maxRecDepth 100000
set_option maxHeartbeats 1000000
namespace D
open Go.RowKit

theorem a_within (n lo hi : Int) (w : World) (hb : D.Base w) : Calls Tryz.prog 93 #[.int .i64 n, .int .i64 lo, .int .i64 hi] w fun e w' => e = .returned (.bool (inR n lo hi)) ∧ Below w.heap.size w w' := by
  refine enter Tryz.func93 rfl Tryz.ntmps93 rfl (by assumption) ?_
  (repeat' (first | intro (b : Nat) | refine go ?_ | (refine br ?_ ?_ <;> first | exact trivial | intro hq)))
  all_goals (refine ret ?_; try exact rfl)
  all_goals (simp [tupleOf, inR] <;> omega)

theorem a_yearValid (n : Int) (w : World) (hb : D.Base w) : Calls Tryz.prog 175 #[.int .i64 n] w fun e w' => e = .returned (.bool (inR n 1 9999)) ∧ Below w.heap.size w w' := by
  refine enter Tryz.func175 rfl Tryz.ntmps175 rfl (by assumption) ?_
  (repeat (first | intro (b : Nat) | refine go ?_))
  (refine L.call (h := by intro W hW; exact a_within _ _ _ W hW.base) (k := ?_))
  (repeat (first | intro (b : Nat) | refine go ?_))
  (refine ret ?_; try exact rfl)

theorem a_LeapYear (y : Int) (w : World) (hb : D.Base w) : Calls Tryz.prog 176 #[.int .i64 y] w fun e w' => e = .returned (.bool (leap y)) ∧ Below w.heap.size w w' := by
  by_cases hy : 1 ≤ y ∧ y ≤ 9999
  · have hr : inR y 1 9999 = true := inR_true.2 hy
    refine enter Tryz.func176 rfl Tryz.ntmps176 rfl (by assumption) ?_
    (repeat (first | intro (b : Nat) | refine go ?_))
    (refine L.call (h := by intro W hW; exact hr ▸ a_yearValid _ W hW.base) (k := ?_))
    (repeat' (first | intro (b : Nat) | refine go ?_ | (refine br ?_ ?_ <;> first | exact trivial | intro hq)))
    all_goals (refine ret ?_; try exact rfl)
    all_goals (simp [tupleOf, leap, hr, *] <;> (try rw [Bool.eq_iff_iff]; simp))
  · have hr : inR y 1 9999 = false := inR_false.2 hy
    refine enter Tryz.func176 rfl Tryz.ntmps176 rfl (by assumption) ?_
    (repeat (first | intro (b : Nat) | refine go ?_))
    (refine L.call (h := by intro W hW; exact hr ▸ a_yearValid _ W hW.base) (k := ?_))
    (repeat' (first | intro (b : Nat) | refine go ?_ | (refine br ?_ ?_ <;> first | exact trivial | intro hq)))
    all_goals (refine ret ?_; try exact rfl)
    all_goals (simp [tupleOf, leap, hr])

theorem a_MonthDays (y m : Int) (w : World) (hb : D.Base w) : Calls Tryz.prog 128 #[.int .i64 y, .int .i64 m] w fun e w' => e = .returned (.int .i64 (md y m)) ∧ Below w.heap.size w w' := by
  by_cases hy : inR y 1 9999 = true
  · by_cases hm : inR m 1 12 = true
    · have hmb := inR_true.1 hm
      by_cases h2 : m = 2
      · subst h2
        by_cases hl : leap y = true
        · refine enter Tryz.func128 rfl Tryz.ntmps128 rfl (by assumption) ?_
          (repeat (first | intro (b : Nat) | refine go ?_))
          (refine L.call (h := by intro W hW; exact hy ▸ a_yearValid _ W hW.base) (k := ?_))
          (repeat (first | intro (b : Nat) | refine go ?_))
          (refine L.call (h := by intro W hW; exact hm ▸ a_within _ _ _ W hW.base) (k := ?_))
          (repeat (first | intro (b : Nat) | refine go ?_))
          (repeat' (first | intro (b : Nat) | refine go ?_ | (refine br ?_ ?_ <;> first | exact trivial | intro hq)))
          (refine L.call (h := by intro W hW; exact hl ▸ a_LeapYear _ W hW.base) (k := ?_))
          (repeat (first | intro (b : Nat) | refine go ?_))
          (refine ret ?_; try exact rfl)
          simp [tupleOf, md, hy, hm, hl]
        · have hl : leap y = false := by simpa using hl
          refine enter Tryz.func128 rfl Tryz.ntmps128 rfl (by assumption) ?_
          (repeat (first | intro (b : Nat) | refine go ?_))
          (refine L.call (h := by intro W hW; exact hy ▸ a_yearValid _ W hW.base) (k := ?_))
          (repeat (first | intro (b : Nat) | refine go ?_))
          (refine L.call (h := by intro W hW; exact hm ▸ a_within _ _ _ W hW.base) (k := ?_))
          (repeat (first | intro (b : Nat) | refine go ?_))
          (repeat' (first | intro (b : Nat) | refine go ?_ | (refine br ?_ ?_ <;> first | exact trivial | intro hq)))
          (refine L.call (h := by intro W hW; exact hl ▸ a_LeapYear _ W hW.base) (k := ?_))
          (repeat (first | intro (b : Nat) | refine go ?_))
          (apply L.v; (· exact rfl); (· exact rfl); (· apply OV.loadW; (· exact rfl); (intro W hW; exact run_loadVar_sc (hW.base.tab 1 (by omega)))))
          (repeat (first | intro (b : Nat) | refine go ?_))
          (refine ret ?_; try exact rfl)
          simp [tupleOf, md, hy, hm, hl]
      · refine enter Tryz.func128 rfl Tryz.ntmps128 rfl (by assumption) ?_
        (repeat (first | intro (b : Nat) | refine go ?_))
        (refine L.call (h := by intro W hW; exact hy ▸ a_yearValid _ W hW.base) (k := ?_))
        (repeat (first | intro (b : Nat) | refine go ?_))
        (refine L.call (h := by intro W hW; exact hm ▸ a_within _ _ _ W hW.base) (k := ?_))
        (repeat' (first | intro (b : Nat) | refine go ?_ | (refine br ?_ ?_ <;> first | exact trivial | intro hq)))
        (apply L.v; (· exact rfl); (· exact rfl); (· apply OV.loadW; (· exact rfl); (intro W hW; exact run_loadVar_sc (by simpa using hW.base.tab (m - 1).toNat (by omega)))))
        (repeat (first | intro (b : Nat) | refine go ?_))
        (refine ret ?_; try exact rfl)
        simp [tupleOf, md, hy, hm, h2]
    · have hm : inR m 1 12 = false := by simpa using hm
      refine enter Tryz.func128 rfl Tryz.ntmps128 rfl (by assumption) ?_
      (repeat (first | intro (b : Nat) | refine go ?_))
      (refine L.call (h := by intro W hW; exact hy ▸ a_yearValid _ W hW.base) (k := ?_))
      (repeat (first | intro (b : Nat) | refine go ?_))
      (refine L.call (h := by intro W hW; exact hm ▸ a_within _ _ _ W hW.base) (k := ?_))
      (repeat (first | intro (b : Nat) | refine go ?_))
      (refine ret ?_; try exact rfl)
      simp [tupleOf, md, hm]
  · have hy : inR y 1 9999 = false := by simpa using hy
    refine enter Tryz.func128 rfl Tryz.ntmps128 rfl (by assumption) ?_
    (repeat (first | intro (b : Nat) | refine go ?_))
    (refine L.call (h := by intro W hW; exact hy ▸ a_yearValid _ W hW.base) (k := ?_))
    (repeat (first | intro (b : Nat) | refine go ?_))
    (refine ret ?_; try exact rfl)
    simp [tupleOf, md, hy]

theorem a_DateValid (y m d : Int) (w : World) (hb : D.Base w) : Calls Tryz.prog 76 #[.agg #[.int .i64 y, .int .i64 m, .int .i64 d]] w fun e w' => e = .returned (.bool (dval y m d)) ∧ Below w.heap.size w w' := by
  refine enter Tryz.func76 rfl Tryz.ntmps76 rfl (by assumption) ?_
  (repeat (first | intro (b : Nat) | refine go ?_))
  ((repeat (refine C.seq ?_)); apply C.draww 9 [none, some _, none, some _, none, some _, some _, some _, none])
  (repeat (first | intro (b : Nat) | refine gg ?_))
  (refine G.call (h := by intro W hW; exact a_MonthDays _ _ W hW.base) (k := ?_))
  (repeat (first | intro (b : Nat) | refine gg ?_))
  (refine G.call (h := by intro W hW; exact a_within _ _ _ W hW.base) (k := ?_))
  (repeat (first | intro (b : Nat) | refine gg ?_))
  (repeat (first | intro (b : Nat) | refine go ?_))
  (refine ret ?_; try exact rfl)

theorem a_newYear (y : Int) (h1 : 1 ≤ y) (h2 : y ≤ 10000) (w : World) (hb : D.Base w) : Calls Tryz.prog 190 #[.int .i64 y] w fun e w' => e = .returned (.int .i64 (ny y)) ∧ Below w.heap.size w w' := by
  refine enter Tryz.func190 rfl Tryz.ntmps190 rfl (by assumption) ?_
  (repeat (first | intro (b : Nat) | refine go ?_))
  (refine ret ?_; try exact rfl)

theorem cum_one (y : Int) : cum y 1 = 0 := rfl

theorem a_ordinal (y m d : Int) (h : dval y m d = true) (w : World) (hb : D.Base w) : Calls Tryz.prog 191 #[.agg #[.int .i64 y, .int .i64 m, .int .i64 d]] w fun e w' => e = .returned (.int .i64 (ord y m d)) ∧ Below w.heap.size w w' := by
  have hd := dval_bd h
  have h1 := cum_one y
  refine enter Tryz.func191 rfl Tryz.ntmps191 rfl (by assumption) ?_
  (repeat (first | intro (b : Nat) | refine go ?_))
  refine C.loopw (Y := Int) (fun k => [(1, .pointer (some ⟨b, 0, none⟩)), (3, .int .i64 (d + cum y k)), (4, .int .i64 k)]) (fun k => [(b, .cells 33 [.int .i64 y, .int .i64 m, .int .i64 d])]) (fun k => 1 ≤ k ∧ k ≤ m) (fun k => (m - k).toNat) 1 (by omega) (fun k hy => ?_)
  have hc := cum_bd y k (by omega)
  have hs := cum_succ y k hy.1
  have hm := md_bd y k
  (repeat' (first | intro (b : Nat) | refine go ?_ | (refine br ?_ ?_ <;> first | exact trivial | intro hq)))
  · (refine L.call (h := by intro W hW; exact a_MonthDays _ _ W hW.base) (k := ?_))
    (repeat (first | intro (b : Nat) | refine go ?_))
    refine X.roundw (k + 1) (⟨by omega, by omega⟩) (by omega)
  · (refine ret ?_; try exact rfl)
    have : k = m := by omega
    subst this
    simp only [tupleOf, ord]
    rw [Int.add_comm]

theorem a_number (y m d : Int) (h : dval y m d = true) (w : World) (hb : D.Base w) : Calls Tryz.prog 160 #[.agg #[.int .i64 y, .int .i64 m, .int .i64 d]] w fun e w' => e = .returned (.int .i64 (num y m d)) ∧ Below w.heap.size w w' := by
  have hd := dval_bd h
  have hn := ny_bd y (by omega) (by omega)
  have ho := ord_bd y m d (by omega) (by omega) (by omega)
  refine enter Tryz.func160 rfl Tryz.ntmps160 rfl (by assumption) ?_
  (repeat (first | intro (b : Nat) | refine go ?_))
  ((repeat (refine C.seq ?_)); apply C.draww 8 [none, some _, some _, some _, some _, none, none, none])
  (repeat (first | intro (b : Nat) | refine gg ?_))
  (refine G.call (h := by intro W hW; exact a_newYear _ (by omega) (by omega) W hW.base) (k := ?_))
  (repeat (first | intro (b : Nat) | refine gg ?_))
  (refine G.call (h := by intro W hW; exact a_ordinal _ _ _ h W hW.base) (k := ?_))
  (repeat (first | intro (b : Nat) | refine gg ?_))
  (repeat (first | intro (b : Nat) | refine go ?_))
  (refine ret ?_; try exact rfl)

/-- The number of a day, or -1. -/
def dnum (y m d : Int) : Int := if dval y m d = true then num y m d else -1

end D
end Go.Proofs.YtpgbmohocfcjpaaGreatDoor
