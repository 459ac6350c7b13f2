/- Walks: days of the reference. -/
import Derived.Test.YtpgbmohocfcjpaaGreatDoorA1
import Derived.Test.YtpgbmohocfcjpaaGreatDoorA2
namespace Go.Proofs.YtpgbmohocfcjpaaGreatDoor
set_option linter.unusedVariables false
set_option linter.unusedSimpArgs false
set_option maxRecDepth 100000
set_option maxHeartbeats 1000000
namespace D
open Go.RowKit

theorem b_in (n lo hi : Int) (w : World) (hb : D.Base w) : Calls Tryz.prog 143 #[.int .i64 n, .int .i64 lo, .int .i64 hi] w fun e w' => e = .returned (.bool (inR n lo hi)) ∧ Below w.heap.size w w' := by
  refine enter Tryz.func143 rfl Tryz.ntmps143 rfl (by assumption) ?_
  (repeat' (first | intro (b : Nat) | refine go ?_ | (refine br ?_ ?_ <;> first | exact trivial | intro hq)))
  all_goals (refine ret ?_; try exact rfl)
  all_goals (simp [tupleOf, inR] <;> omega)

theorem b_LeapYear (y : Int) (w : World) (hb : D.Base w) : Calls Tryz.prog 212 #[.int .i64 y] w fun e w' => e = .returned (.bool (leap y)) ∧ Below w.heap.size w w' := by
  by_cases hy : 1 ≤ y ∧ y ≤ 9999
  · have hr : inR y 1 9999 = true := inR_true.2 hy
    refine enter Tryz.func212 rfl Tryz.ntmps212 rfl (by assumption) ?_
    (repeat (first | intro (b : Nat) | refine go ?_))
    (refine L.call (h := by intro W hW; exact hr ▸ b_in _ _ _ W hW.base) (k := ?_))
    (repeat' (first | intro (b : Nat) | refine go ?_ | (refine br ?_ ?_ <;> first | exact trivial | intro hq)))
    all_goals (refine ret ?_; try exact rfl)
    all_goals (simp [tupleOf, leap, hr, *] <;> (try rw [Bool.eq_iff_iff]; simp))
  · have hr : inR y 1 9999 = false := inR_false.2 hy
    refine enter Tryz.func212 rfl Tryz.ntmps212 rfl (by assumption) ?_
    (repeat (first | intro (b : Nat) | refine go ?_))
    (refine L.call (h := by intro W hW; exact hr ▸ b_in _ _ _ W hW.base) (k := ?_))
    (repeat' (first | intro (b : Nat) | refine go ?_ | (refine br ?_ ?_ <;> first | exact trivial | intro hq)))
    all_goals (refine ret ?_; try exact rfl)
    all_goals (simp [tupleOf, leap, hr])

theorem tab_get (i : Nat) (h : i < 12) : ([.int .i64 31, .int .i64 28, .int .i64 31, .int .i64 30, .int .i64 31, .int .i64 30, .int .i64 31, .int .i64 31, .int .i64 30, .int .i64 31, .int .i64 30, .int .i64 31] : List Value)[i]? = some (.int .i64 (mdTab.getD i 0)) := by
  show (mdTab.map (Value.int .i64))[i]? = _
  have : i < mdTab.length := h
  simp [List.getD, this]

theorem b_MonthDays (y m : Int) (w : World) (hb : D.Base w) : Calls Tryz.prog 187 #[.int .i64 y, .int .i64 m] w fun e w' => e = .returned (.int .i64 (md y m)) ∧ Below w.heap.size w w' := by
  by_cases hy : inR y 1 9999 = true
  · by_cases hm : inR m 1 12 = true
    · have hmb := inR_true.1 hm
      by_cases h2 : m = 2
      · subst h2
        by_cases hl : leap y = true
        · refine enter Tryz.func187 rfl Tryz.ntmps187 rfl (by assumption) ?_
          (repeat (first | intro (b : Nat) | refine go ?_))
          (refine L.call (h := by intro W hW; exact hy ▸ b_in _ _ _ W hW.base) (k := ?_))
          (repeat (first | intro (b : Nat) | refine go ?_))
          (refine L.call (h := by intro W hW; exact hm ▸ b_in _ _ _ W hW.base) (k := ?_))
          (repeat (first | intro (b : Nat) | refine go ?_))
          (repeat' (first | intro (b : Nat) | refine go ?_ | (refine br ?_ ?_ <;> first | exact trivial | intro hq)))
          (refine L.call (h := by intro W hW; exact hl ▸ b_LeapYear _ W hW.base) (k := ?_))
          (repeat (first | intro (b : Nat) | refine go ?_))
          (refine ret ?_; try exact rfl)
          simp [tupleOf, md, hy, hm, hl, mdTab]
        · have hl : leap y = false := by simpa using hl
          refine enter Tryz.func187 rfl Tryz.ntmps187 rfl (by assumption) ?_
          (repeat (first | intro (b : Nat) | refine go ?_))
          (refine L.call (h := by intro W hW; exact hy ▸ b_in _ _ _ W hW.base) (k := ?_))
          (repeat (first | intro (b : Nat) | refine go ?_))
          (refine L.call (h := by intro W hW; exact hm ▸ b_in _ _ _ W hW.base) (k := ?_))
          (repeat (first | intro (b : Nat) | refine go ?_))
          (repeat' (first | intro (b : Nat) | refine go ?_ | (refine br ?_ ?_ <;> first | exact trivial | intro hq)))
          (refine L.call (h := by intro W hW; exact hl ▸ b_LeapYear _ W hW.base) (k := ?_))
          (repeat (first | intro (b : Nat) | refine go ?_))
          (refine ret ?_; try exact rfl)
          simp [tupleOf, md, hy, hm, hl, mdTab]
      · refine enter Tryz.func187 rfl Tryz.ntmps187 rfl (by assumption) ?_
        (repeat (first | intro (b : Nat) | refine go ?_))
        (refine L.call (h := by intro W hW; exact hy ▸ b_in _ _ _ W hW.base) (k := ?_))
        (repeat (first | intro (b : Nat) | refine go ?_))
        (refine L.call (h := by intro W hW; exact hm ▸ b_in _ _ _ W hW.base) (k := ?_))
        (repeat' (first | intro (b : Nat) | refine go ?_ | (refine br ?_ ?_ <;> first | exact trivial | intro hq)))
        (apply L.v; (· exact rfl); (· exact rfl); (· apply OV.loadi; (· exact rfl); (· (repeat (first | exact List.Mem.head _ | apply List.Mem.tail))); (· rw [Nat.zero_add, Nat.mul_one]; exact tab_get _ (by omega))))
        (repeat (first | intro (b : Nat) | refine go ?_))
        (refine ret ?_; try exact rfl)
        simp [tupleOf, md, hy, hm, h2]
    · have hm : inR m 1 12 = false := by simpa using hm
      refine enter Tryz.func187 rfl Tryz.ntmps187 rfl (by assumption) ?_
      (repeat (first | intro (b : Nat) | refine go ?_))
      (refine L.call (h := by intro W hW; exact hy ▸ b_in _ _ _ W hW.base) (k := ?_))
      (repeat (first | intro (b : Nat) | refine go ?_))
      (refine L.call (h := by intro W hW; exact hm ▸ b_in _ _ _ W hW.base) (k := ?_))
      (repeat (first | intro (b : Nat) | refine go ?_))
      (refine ret ?_; try exact rfl)
      simp [tupleOf, md, hm]
  · have hy : inR y 1 9999 = false := by simpa using hy
    refine enter Tryz.func187 rfl Tryz.ntmps187 rfl (by assumption) ?_
    (repeat (first | intro (b : Nat) | refine go ?_))
    (refine L.call (h := by intro W hW; exact hy ▸ b_in _ _ _ W hW.base) (k := ?_))
    (repeat (first | intro (b : Nat) | refine go ?_))
    (refine ret ?_; try exact rfl)
    simp [tupleOf, md, hy]

theorem b_DateValid (y m d : Int) (w : World) (hb : D.Base w) : Calls Tryz.prog 151 #[.agg #[.int .i64 y, .int .i64 m, .int .i64 d]] w fun e w' => e = .returned (.bool (dval y m d)) ∧ Below w.heap.size w w' := by
  refine enter Tryz.func151 rfl Tryz.ntmps151 rfl (by assumption) ?_
  (repeat (first | intro (b : Nat) | refine go ?_))
  ((repeat (refine C.seq ?_)); apply C.draww 9 [none, some _, none, some _, none, some _, some _, some _, none])
  (repeat (first | intro (b : Nat) | refine gg ?_))
  (refine G.call (h := by intro W hW; exact b_MonthDays _ _ W hW.base) (k := ?_))
  (repeat (first | intro (b : Nat) | refine gg ?_))
  (refine G.call (h := by intro W hW; exact b_in _ _ _ W hW.base) (k := ?_))
  (repeat (first | intro (b : Nat) | refine gg ?_))
  (repeat (first | intro (b : Nat) | refine go ?_))
  (refine ret ?_; try exact rfl)

theorem b_years (y : Int) (h1 : 1 ≤ y) (h2 : y ≤ 10000) (w : World) (hb : D.Base w) : Calls Tryz.prog 152 #[.int .i64 y] w fun e w' => e = .returned (.int .i64 (ny y)) ∧ Below w.heap.size w w' := by
  refine enter Tryz.func152 rfl Tryz.ntmps152 rfl (by assumption) ?_
  (repeat (first | intro (b : Nat) | refine go ?_))
  (refine ret ?_; try exact rfl)

theorem b_months (y m : Int) (h1 : 1 ≤ m) (h2 : m ≤ 13) (w : World) (hb : D.Base w) : Calls Tryz.prog 153 #[.int .i64 y, .int .i64 m] w fun e w' => e = .returned (.int .i64 (cum y m)) ∧ Below w.heap.size w w' := by
  have h0 := cum_one y
  refine enter Tryz.func153 rfl Tryz.ntmps153 rfl (by assumption) ?_
  (repeat (first | intro (b : Nat) | refine go ?_))
  refine C.loopw (Y := Int) (fun k => [(0, .int .i64 y), (1, .int .i64 m), (5, .int .i64 (cum y k)), (6, .int .i64 k)]) (fun k => []) (fun k => 1 ≤ k ∧ k ≤ m) (fun k => (m - k).toNat) 1 (by omega) (fun k hy => ?_)
  have hc := cum_bd y k (by omega)
  have hs := cum_succ y k hy.1
  have hmd := md_bd y k
  (repeat' (first | intro (b : Nat) | refine go ?_ | (refine br ?_ ?_ <;> first | exact trivial | intro hq)))
  · (refine L.call (h := by intro W hW; exact b_MonthDays _ _ W hW.base) (k := ?_))
    (repeat (first | intro (b : Nat) | refine go ?_))
    refine X.roundw (k + 1) (⟨by omega, by omega⟩) (by omega)
  · (refine ret ?_; try exact rfl)
    have : k = m := by omega
    rw [this]; rfl

theorem b_DayNumber (y m d : Int) (w : World) (hb : D.Base w) : Calls Tryz.prog 104 #[.agg #[.int .i64 y, .int .i64 m, .int .i64 d]] w fun e w' => e = .returned (.int .i64 (dnum y m d)) ∧ Below w.heap.size w w' := by
  by_cases h : dval y m d = true
  · have hd := dval_bd h
    have hn := ny_bd y (by omega) (by omega)
    have hc := cum_bd y m (by omega)
    refine enter Tryz.func104 rfl Tryz.ntmps104 rfl (by assumption) ?_
    (repeat (first | intro (b : Nat) | refine go ?_))
    (refine L.call (h := by intro W hW; exact h ▸ b_DateValid _ _ _ W hW.base) (k := ?_))
    (repeat (first | intro (b : Nat) | refine go ?_))
    ((repeat (refine C.seq ?_)); apply C.draww 14 [none, some _, some _, none, some _, none, some _, some _, none, none, some _, none, none, none])
    (repeat (first | intro (b : Nat) | refine gg ?_))
    (refine G.call (h := by intro W hW; exact b_years _ (by omega) (by omega) W hW.base) (k := ?_))
    (repeat (first | intro (b : Nat) | refine gg ?_))
    (refine G.call (h := by intro W hW; exact b_months _ _ (by omega) (by omega) W hW.base) (k := ?_))
    (repeat (first | intro (b : Nat) | refine gg ?_))
    (repeat (first | intro (b : Nat) | refine go ?_))
    (refine ret ?_; try exact rfl)
    rw [dnum, if_pos h]
    unfold num ord
    ((try simp only [tupleOf, Value.agg.injEq, Value.tuple.injEq, List.toArray_inj, Array.mk.injEq, List.cons.injEq, Value.int.injEq, Value.bool.injEq, and_true, true_and]) <;> (try omega))
  · have h : dval y m d = false := by simpa using h
    refine enter Tryz.func104 rfl Tryz.ntmps104 rfl (by assumption) ?_
    (repeat (first | intro (b : Nat) | refine go ?_))
    (refine L.call (h := by intro W hW; exact h ▸ b_DateValid _ _ _ W hW.base) (k := ?_))
    (repeat (first | intro (b : Nat) | refine go ?_))
    (refine ret ?_; try exact rfl)
    simp [tupleOf, dnum, h]

end D
end Go.Proofs.YtpgbmohocfcjpaaGreatDoor

namespace Go.Proofs.YtpgbmohocfcjpaaGreatDoor
set_option linter.unusedVariables false
set_option linter.unusedSimpArgs false
set_option maxRecDepth 100000
set_option maxHeartbeats 1000000
namespace D
open Go.RowKit

theorem b_MonthPlus (y m d n : Int) (w : World) (hb : D.Base w) : Calls Tryz.prog 197 #[.agg #[.int .i64 y, .int .i64 m, .int .i64 d], .int .i64 n] w fun e w' => e = .returned (drV (mplus y m d n)) ∧ Below w.heap.size w w' := by
  by_cases h : dval y m d = true
  · have hd := dval_bd h
    by_cases hr : inR n (-119988) 119988 = true
    · have hrb := inR_true.1 hr
      by_cases hin : inR (12 * y + m - 1 + n) 12 119999 = true
      · have hib := inR_true.1 hin
        rw [mplus_ok h hib.1 hib.2]
        refine enter Tryz.func197 rfl Tryz.ntmps197 rfl (by assumption) ?_
        (repeat (first | intro (b : Nat) | refine go ?_))
        (refine L.call (h := by intro W hW; exact h ▸ b_DateValid _ _ _ W hW.base) (k := ?_))
        (repeat (first | intro (b : Nat) | refine go ?_))
        (refine L.call (h := by intro W hW; exact hr ▸ b_in _ _ _ W hW.base) (k := ?_))
        (repeat (first | intro (b : Nat) | refine go ?_))
        (refine L.call (h := by intro W hW; exact hin ▸ b_in _ _ _ W hW.base) (k := ?_))
        (repeat (first | intro (b : Nat) | refine go ?_))
        ((repeat (refine C.seq ?_)); apply C.draww 9 [none, some _, none, some _, none, some _, some _, none, none])
        (repeat (first | intro (b : Nat) | refine gg ?_))
        (refine G.call (h := by intro W hW; exact b_MonthDays _ _ W hW.base) (k := ?_))
        (repeat (first | intro (b : Nat) | refine gg ?_))
        (repeat (first | intro (b : Nat) | refine go ?_))
        (refine ret ?_; try exact rfl)
      · have hin : inR (12 * y + m - 1 + n) 12 119999 = false := by simpa using hin
        have hib := inR_false.1 hin
        rw [mplus_out (by unfold mpT; omega)]
        refine enter Tryz.func197 rfl Tryz.ntmps197 rfl (by assumption) ?_
        (repeat (first | intro (b : Nat) | refine go ?_))
        (refine L.call (h := by intro W hW; exact h ▸ b_DateValid _ _ _ W hW.base) (k := ?_))
        (repeat (first | intro (b : Nat) | refine go ?_))
        (refine L.call (h := by intro W hW; exact hr ▸ b_in _ _ _ W hW.base) (k := ?_))
        (repeat (first | intro (b : Nat) | refine go ?_))
        (refine L.call (h := by intro W hW; exact hin ▸ b_in _ _ _ W hW.base) (k := ?_))
        (repeat (first | intro (b : Nat) | refine go ?_))
        (refine ret ?_; try exact rfl)
    · have hr : inR n (-119988) 119988 = false := by simpa using hr
      rw [mplus_range hr]
      refine enter Tryz.func197 rfl Tryz.ntmps197 rfl (by assumption) ?_
      (repeat (first | intro (b : Nat) | refine go ?_))
      (refine L.call (h := by intro W hW; exact h ▸ b_DateValid _ _ _ W hW.base) (k := ?_))
      (repeat (first | intro (b : Nat) | refine go ?_))
      (refine L.call (h := by intro W hW; exact hr ▸ b_in _ _ _ W hW.base) (k := ?_))
      (repeat (first | intro (b : Nat) | refine go ?_))
      (refine ret ?_; try exact rfl)
  · have h : dval y m d = false := by simpa using h
    rw [mplus_invalid h]
    refine enter Tryz.func197 rfl Tryz.ntmps197 rfl (by assumption) ?_
    (repeat (first | intro (b : Nat) | refine go ?_))
    (refine L.call (h := by intro W hW; exact h ▸ b_DateValid _ _ _ W hW.base) (k := ?_))
    (repeat (first | intro (b : Nat) | refine go ?_))
    (refine ret ?_; try exact rfl)

end D
end Go.Proofs.YtpgbmohocfcjpaaGreatDoor
