/- Walks: the date of a day; shifts by days and months. -/
import Derived.Test.YtpgbmohocfcjpaaGreatDoorA1
namespace Go.Proofs.YtpgbmohocfcjpaaGreatDoor
set_option linter.unusedVariables false
set_option linter.unusedSimpArgs false
set_option maxRecDepth 100000
set_option maxHeartbeats 1000000
namespace D
open Go.RowKit

theorem cum_step {y k m : Int} (h1 : 1 ≤ k) (h : k < m) : cum y k + md y k ≤ cum y m := by
  have := cum_succ y k h1
  have := cum_le y (a := k + 1) (b := m) (by omega) (by omega)
  omega

theorem year_guess {y m d : Int} (h : dval y m d = true) : num y m d / 366 + 1 ≤ y := by
  have hd := dval_bd h
  have hn := num_in h
  unfold ny at hn
  omega

theorem a_dateAt (y m d : Int) (h : dval y m d = true) (w : World) (hb : D.Base w) : Calls Tryz.prog 183 #[.int .i64 (num y m d)] w fun e w' => e = .returned (.agg #[.int .i64 y, .int .i64 m, .int .i64 d]) ∧ Below w.heap.size w w' := by
  have hd := dval_bd h
  have hn := num_in h
  have hb0 := num_bd h
  have hg := year_guess h
  have hnm : num y m d = ny y + cum y m + d - 1 := by unfold num ord; omega
  generalize num y m d = n at *
  have h1 := cum_one y
  have hcb := cum_bd y m (by omega)
  have hnb := ny_bd y (by omega) (by omega)
  refine enter Tryz.func183 rfl Tryz.ntmps183 rfl (by assumption) ?_
  (repeat (first | intro (b : Nat) | refine go ?_))
  revert b; intro b0
  refine C.loopw (Y := Int) (fun k => [(0, .int .i64 n), (2, .pointer (some ⟨b0, 0, none⟩)), (3, .int .i64 k)]) (fun k => [(b0, .cells 33 [.int .i64 0, .int .i64 0, .int .i64 0])]) (fun k => 1 ≤ k ∧ k ≤ y) (fun k => (y - k).toNat) (n / 366 + 1) (by omega) (fun k hy => ?_)
  by_cases hlt : k < y
  · have hm := ny_mono (a := k + 1) (b := y) (by omega)
    (repeat' (first | intro (b : Nat) | refine go ?_ | (refine br ?_ ?_ <;> first | exact trivial | intro hq)))
    (refine L.call (h := by intro W hW; exact a_newYear _ (by omega) (by omega) W hW.base) (k := ?_))
    (repeat' (first | intro (b : Nat) | refine go ?_ | (refine br ?_ ?_ <;> first | exact trivial | intro hq)))
    refine X.roundw (k + 1) (⟨by omega, by omega⟩) (by omega)
  · obtain rfl : y = k := by omega
    clear hlt
    have hmd := md_bd y m
    (repeat' (first | intro (b : Nat) | refine go ?_ | (refine br ?_ ?_ <;> first | exact trivial | intro hq)))
    all_goals (try ((refine L.call (h := by intro W hW; with_reducible exact a_newYear (y + 1) (by omega) (by omega) W hW.base) (k := ?_)); (repeat' (first | intro (b : Nat) | refine go ?_ | (refine br ?_ ?_ <;> first | exact trivial | intro hq)))))
    all_goals (refine L.call (h := by intro W hW; exact a_newYear y (by omega) (by omega) W hW.base) (k := ?_))
    all_goals (repeat (first | intro (b : Nat) | refine go ?_))
    all_goals (revert b; intro b1)
    all_goals (refine C.loopw (Y := Int) (fun k => [(2, .pointer (some ⟨b0, 0, none⟩)), (3, .int .i64 y), (4, .pointer (some ⟨b1, 0, none⟩))]) (fun k => [(b1, .cells 33 [.int .i64 y, .int .i64 k, .int .i64 (d + cum y m - cum y k)]), (b0, .cells 33 [.int .i64 0, .int .i64 0, .int .i64 0])]) (fun k => 1 ≤ k ∧ k ≤ m) (fun k => (m - k).toNat) 1 (by omega) (fun k hy => ?_))
    all_goals
      have hs := cum_succ y k hy.1
      have hc := cum_bd y k (by omega)
      have hmk := md_bd y k
      ((repeat (refine C.seq ?_)); apply C.draww 7 [none, some _, none, none, some _, some _, none])
      (repeat (first | intro (b : Nat) | refine gg ?_))
      (refine G.call (h := by intro W hW; exact a_MonthDays _ _ W hW.base) (k := ?_))
      (repeat (first | intro (b : Nat) | refine gg ?_))
      (repeat' (first | intro (b : Nat) | refine go ?_ | (refine br ?_ ?_ <;> first | exact trivial | intro hq)))
      · have hk : k < m := by
          refine Int.lt_of_not_ge fun hge => ?_
          obtain rfl : m = k := by omega
          omega
        ((repeat (refine C.seq ?_)); apply C.draww 8 [none, some _, none, none, some _, some _, none, none])
        (repeat (first | intro (b : Nat) | refine gg ?_))
        (refine G.call (h := by intro W hW; exact a_MonthDays _ _ W hW.base) (k := ?_))
        (repeat (first | intro (b : Nat) | refine gg ?_))
        (repeat (first | intro (b : Nat) | refine go ?_))
        refine X.roundw (k + 1) (⟨by omega, by omega⟩) (by omega)
      · have hk : k = m := by
          refine Classical.byContradiction fun hne => ?_
          have := cum_step (y := y) (k := k) (m := m) (by omega) (by omega)
          omega
        subst hk
        (refine ret ?_; try exact rfl)
        ((try simp only [tupleOf, Value.agg.injEq, Value.tuple.injEq, List.toArray_inj, Array.mk.injEq, List.cons.injEq, Value.int.injEq, Value.bool.injEq, and_true, true_and]) <;> (try omega))

theorem a_DateOf (y m d : Int) (h : dval y m d = true) (w : World) (hb : D.Base w) : Calls Tryz.prog 140 #[.int .i64 (num y m d)] w fun e w' => e = .returned (.tuple #[.agg #[.int .i64 y, .int .i64 m, .int .i64 d], .bool true]) ∧ Below w.heap.size w w' := by
  have hr : inR (num y m d) 0 3652058 = true := inR_true.2 (num_bd h)
  refine enter Tryz.func140 rfl Tryz.ntmps140 rfl (by assumption) ?_
  (repeat (first | intro (b : Nat) | refine go ?_))
  (refine L.call (h := by intro W hW; exact hr ▸ a_within _ _ _ W hW.base) (k := ?_))
  (repeat (first | intro (b : Nat) | refine go ?_))
  (refine L.call (h := by intro W hW; exact a_dateAt _ _ _ h W hW.base) (k := ?_))
  (repeat (first | intro (b : Nat) | refine go ?_))
  (refine ret ?_; try exact rfl)

theorem a_DateOf_no (n : Int) (h : inR n 0 3652058 = false) (w : World) (hb : D.Base w) : Calls Tryz.prog 140 #[.int .i64 n] w fun e w' => e = .returned (.tuple #[.agg #[.int .i64 0, .int .i64 0, .int .i64 0], .bool false]) ∧ Below w.heap.size w w' := by
  refine enter Tryz.func140 rfl Tryz.ntmps140 rfl (by assumption) ?_
  (repeat (first | intro (b : Nat) | refine go ?_))
  (refine L.call (h := by intro W hW; exact h ▸ a_within _ _ _ W hW.base) (k := ?_))
  (repeat (first | intro (b : Nat) | refine go ?_))
  (refine ret ?_; try exact rfl)

theorem a_DayPlus (y m d n y' m' d' : Int) (h : dval y m d = true) (h' : dval y' m' d' = true) (hn : num y m d + n = num y' m' d') (w : World) (hb : D.Base w) : Calls Tryz.prog 138 #[.agg #[.int .i64 y, .int .i64 m, .int .i64 d], .int .i64 n] w fun e w' => e = .returned (.tuple #[.agg #[.int .i64 y', .int .i64 m', .int .i64 d'], .bool true]) ∧ Below w.heap.size w w' := by
  have hb1 := num_bd h
  have hb2 := num_bd h'
  have hr : inR n (-3652058) 3652058 = true := inR_true.2 (by omega)
  refine enter Tryz.func138 rfl Tryz.ntmps138 rfl (by assumption) ?_
  (repeat (first | intro (b : Nat) | refine go ?_))
  (refine L.call (h := by intro W hW; exact h ▸ a_DateValid _ _ _ W hW.base) (k := ?_))
  (repeat (first | intro (b : Nat) | refine go ?_))
  (refine L.call (h := by intro W hW; exact hr ▸ a_within _ _ _ W hW.base) (k := ?_))
  (repeat (first | intro (b : Nat) | refine go ?_))
  (refine L.call (h := by intro W hW; exact a_number _ _ _ h W hW.base) (k := ?_))
  (repeat (first | intro (b : Nat) | refine go ?_))
  (refine L.call (h := by intro W hW; exact hn ▸ a_DateOf _ _ _ h' W hW.base) (k := ?_))
  (repeat (first | intro (b : Nat) | refine go ?_))
  (refine ret ?_; try exact rfl)

theorem a_DayPlus_no (y m d n : Int) (hno : ¬ (dval y m d = true ∧ inR n (-3652058) 3652058 = true ∧ inR (num y m d + n) 0 3652058 = true)) (w : World) (hb : D.Base w) : Calls Tryz.prog 138 #[.agg #[.int .i64 y, .int .i64 m, .int .i64 d], .int .i64 n] w fun e w' => e = .returned (.tuple #[.agg #[.int .i64 0, .int .i64 0, .int .i64 0], .bool false]) ∧ Below w.heap.size w w' := by
  by_cases h : dval y m d = true
  · have hb1 := num_bd h
    by_cases hr : inR n (-3652058) 3652058 = true
    · have hrb := inR_true.1 hr
      have hz : inR (num y m d + n) 0 3652058 = false := by
        cases hq : inR (num y m d + n) 0 3652058 with
        | false => rfl
        | true => exact (hno ⟨h, hr, hq⟩).elim
      refine enter Tryz.func138 rfl Tryz.ntmps138 rfl (by assumption) ?_
      (repeat (first | intro (b : Nat) | refine go ?_))
      (refine L.call (h := by intro W hW; exact h ▸ a_DateValid _ _ _ W hW.base) (k := ?_))
      (repeat (first | intro (b : Nat) | refine go ?_))
      (refine L.call (h := by intro W hW; exact hr ▸ a_within _ _ _ W hW.base) (k := ?_))
      (repeat (first | intro (b : Nat) | refine go ?_))
      (refine L.call (h := by intro W hW; exact a_number _ _ _ h W hW.base) (k := ?_))
      (repeat (first | intro (b : Nat) | refine go ?_))
      (refine L.call (h := by intro W hW; exact a_DateOf_no _ hz W hW.base) (k := ?_))
      (repeat (first | intro (b : Nat) | refine go ?_))
      (refine ret ?_; try exact rfl)
    · have hr : inR n (-3652058) 3652058 = false := by simpa using hr
      refine enter Tryz.func138 rfl Tryz.ntmps138 rfl (by assumption) ?_
      (repeat (first | intro (b : Nat) | refine go ?_))
      (refine L.call (h := by intro W hW; exact h ▸ a_DateValid _ _ _ W hW.base) (k := ?_))
      (repeat (first | intro (b : Nat) | refine go ?_))
      (refine L.call (h := by intro W hW; exact hr ▸ a_within _ _ _ W hW.base) (k := ?_))
      (repeat (first | intro (b : Nat) | refine go ?_))
      (refine ret ?_; try exact rfl)
  · have h : dval y m d = false := by simpa using h
    refine enter Tryz.func138 rfl Tryz.ntmps138 rfl (by assumption) ?_
    (repeat (first | intro (b : Nat) | refine go ?_))
    (refine L.call (h := by intro W hW; exact h ▸ a_DateValid _ _ _ W hW.base) (k := ?_))
    (repeat (first | intro (b : Nat) | refine go ?_))
    (refine ret ?_; try exact rfl)

end D
end Go.Proofs.YtpgbmohocfcjpaaGreatDoor

namespace Go.Proofs.YtpgbmohocfcjpaaGreatDoor
set_option linter.unusedVariables false
set_option linter.unusedSimpArgs false
set_option maxRecDepth 100000
set_option maxHeartbeats 1000000
namespace D
open Go.RowKit

theorem a_MonthPlus (y m d n : Int) (w : World) (hb : D.Base w) : Calls Tryz.prog 134 #[.agg #[.int .i64 y, .int .i64 m, .int .i64 d], .int .i64 n] w fun e w' => e = .returned (drV (mplus y m d n)) ∧ Below w.heap.size w w' := by
  by_cases h : dval y m d = true
  · have hd := dval_bd h
    by_cases hr : inR n (-119988) 119988 = true
    · have hrb := inR_true.1 hr
      by_cases hin : 0 ≤ mpT y m n ∧ mpT y m n / 12 < 9999
      · rw [mplus_in h hr hin]
        have hT : mpT y m n = 12 * (y - 1) + m - 1 + n := rfl
        rw [hT] at hin ⊢
        clear hT
        obtain ⟨hin1, hin2⟩ := hin
        refine enter Tryz.func134 rfl Tryz.ntmps134 rfl (by assumption) ?_
        (repeat (first | intro (b : Nat) | refine go ?_))
        (refine L.call (h := by intro W hW; exact h ▸ a_DateValid _ _ _ W hW.base) (k := ?_))
        (repeat (first | intro (b : Nat) | refine go ?_))
        (refine L.call (h := by intro W hW; exact hr ▸ a_within _ _ _ W hW.base) (k := ?_))
        (repeat' (first | intro (b : Nat) | refine go ?_ | (refine br ?_ ?_ <;> first | exact trivial | intro hq)))
        ((repeat (refine C.seq ?_)); apply C.draww 9 [none, some _, none, some _, none, some _, some _, none, none])
        (repeat (first | intro (b : Nat) | refine gg ?_))
        (refine G.call (h := by intro W hW; exact a_MonthDays _ _ W hW.base) (k := ?_))
        (repeat (first | intro (b : Nat) | refine gg ?_))
        (repeat (first | intro (b : Nat) | refine go ?_))
        (refine ret ?_; try exact rfl)
      · rw [mplus_out hin]
        have hT : mpT y m n = 12 * (y - 1) + m - 1 + n := rfl
        rw [hT] at hin
        clear hT
        refine enter Tryz.func134 rfl Tryz.ntmps134 rfl (by assumption) ?_
        (repeat (first | intro (b : Nat) | refine go ?_))
        (refine L.call (h := by intro W hW; exact h ▸ a_DateValid _ _ _ W hW.base) (k := ?_))
        (repeat (first | intro (b : Nat) | refine go ?_))
        (refine L.call (h := by intro W hW; exact hr ▸ a_within _ _ _ W hW.base) (k := ?_))
        (repeat' (first | intro (b : Nat) | refine go ?_ | (refine br ?_ ?_ <;> first | exact trivial | intro hq)))
        all_goals (refine ret ?_; try exact rfl)
    · have hr : inR n (-119988) 119988 = false := by simpa using hr
      rw [mplus_range hr]
      refine enter Tryz.func134 rfl Tryz.ntmps134 rfl (by assumption) ?_
      (repeat (first | intro (b : Nat) | refine go ?_))
      (refine L.call (h := by intro W hW; exact h ▸ a_DateValid _ _ _ W hW.base) (k := ?_))
      (repeat (first | intro (b : Nat) | refine go ?_))
      (refine L.call (h := by intro W hW; exact hr ▸ a_within _ _ _ W hW.base) (k := ?_))
      (repeat (first | intro (b : Nat) | refine go ?_))
      (refine ret ?_; try exact rfl)
  · have h : dval y m d = false := by simpa using h
    rw [mplus_invalid h]
    refine enter Tryz.func134 rfl Tryz.ntmps134 rfl (by assumption) ?_
    (repeat (first | intro (b : Nat) | refine go ?_))
    (refine L.call (h := by intro W hW; exact h ▸ a_DateValid _ _ _ W hW.base) (k := ?_))
    (repeat (first | intro (b : Nat) | refine go ?_))
    (refine ret ?_; try exact rfl)

end D
end Go.Proofs.YtpgbmohocfcjpaaGreatDoor
