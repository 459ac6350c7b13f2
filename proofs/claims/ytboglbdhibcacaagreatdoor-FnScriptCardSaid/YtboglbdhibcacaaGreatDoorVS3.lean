/- Walks: the date of a day and shifts by days, in the reference. -/
import Derived.Test.YtboglbdhibcacaaGreatDoorVi
import Derived.Test.YtboglbdhibcacaaGreatDoorVe
import Derived.Test.YtboglbdhibcacaaGreatDoorVj
import Derived.Test.YtboglbdhibcacaaGreatDoorVA7
namespace Go.Proofs.YtboglbdhibcacaaGreatDoor
set_option linter.unusedVariables false
set_option linter.unusedSimpArgs false
set_option maxRecDepth 100000
set_option maxHeartbeats 1000000
namespace D
open Go.RowKit

theorem cum_step' {y k m : Int} (h1 : 1 ≤ k) (h : k < m) : cum y (k + 1) ≤ cum y m := cum_le y (a := k + 1) (b := m) (by omega) (by omega)

theorem year_guess' {y m d : Int} (h : dval y m d = true) : num y m d / 366 + 1 ≤ y := by
  have hd := dval_bd h
  have hn := num_in h
  unfold ny at hn
  omega

theorem b_DateOf (y m d : Int) (h : dval y m d = true) (w : World) (hb : D.Base w) : Calls Tryz.prog 192 #[.int .i64 (num y m d)] w fun e w' => e = .returned (.tuple #[.agg #[.int .i64 y, .int .i64 m, .int .i64 d], .bool true]) ∧ Below w.heap.size w w' := by
  have hd := dval_bd h
  have hn := num_in h
  have hb0 := num_bd h
  have hr : inR (num y m d) 0 3652058 = true := inR_true.2 hb0
  have hg := year_guess' h
  have hnm : num y m d = ny y + cum y m + d - 1 := by unfold num ord; omega
  generalize num y m d = n at *
  have h1 := cum_one y
  have hcb := cum_bd y m (by omega)
  have hnb := ny_bd y (by omega) (by omega)
  have hmd := md_bd y m
  refine enter Tryz.func192 rfl Tryz.ntmps192 rfl (by assumption) ?_
  (repeat (first | intro (b : Nat) | refine go ?_))
  (refine L.call (h := by intro W hW; exact hr ▸ b_in _ _ _ W hW.base) (k := ?_))
  (repeat (first | intro (b : Nat) | refine go ?_))
  revert b; intro b0
  refine C.loopw (Y := Int) (fun k => [(0, .int .i64 n), (2, .pointer (some ⟨b0, 0, none⟩)), (4, .int .i64 k)]) (fun k => [(b0, .cells 63 [.int .i64 0, .int .i64 0, .int .i64 0])]) (fun k => 1 ≤ k ∧ k ≤ y) (fun k => (y - k).toNat) (n / 366 + 1) (by omega) (fun k hy => ?_)
  by_cases hlt : k < y
  · have hm := ny_mono (a := k + 1) (b := y) (by omega)
    (repeat' (first | intro (b : Nat) | refine go ?_ | (refine br ?_ ?_ <;> first | exact trivial | intro hq)))
    (refine L.call (h := by intro W hW; exact b_years _ (by omega) (by omega) W hW.base) (k := ?_))
    (repeat' (first | intro (b : Nat) | refine go ?_ | (refine br ?_ ?_ <;> first | exact trivial | intro hq)))
    refine X.roundw (k + 1) (⟨by omega, by omega⟩) (by omega)
  · obtain rfl : y = k := by omega
    clear hlt
    (repeat' (first | intro (b : Nat) | refine go ?_ | (refine br ?_ ?_ <;> first | exact trivial | intro hq)))
    all_goals (try ((refine L.call (h := by intro W hW; with_reducible exact b_years (y + 1) (by omega) (by omega) W hW.base) (k := ?_)); (repeat' (first | intro (b : Nat) | refine go ?_ | (refine br ?_ ?_ <;> first | exact trivial | intro hq)))))
    all_goals (refine C.loopw (Y := Int) (fun k => [(0, .int .i64 n), (2, .pointer (some ⟨b0, 0, none⟩)), (4, .int .i64 y), (5, .int .i64 k)]) (fun k => [(b0, .cells 63 [.int .i64 0, .int .i64 0, .int .i64 0])]) (fun k => 1 ≤ k ∧ k ≤ m) (fun k => (m - k).toNat) 1 (by omega) (fun k hy => ?_))
    all_goals
      by_cases hkm : k < m
      · have hs := cum_step' (y := y) hy.1 hkm
        have hc := cum_bd y (k + 1) (by omega)
        (repeat' (first | intro (b : Nat) | refine go ?_ | (refine br ?_ ?_ <;> first | exact trivial | intro hq)))
        (refine L.call (h := by intro W hW; exact b_years y (by omega) (by omega) W hW.base) (k := ?_))
        (repeat (first | intro (b : Nat) | refine go ?_))
        (refine L.call (h := by intro W hW; exact b_months y (k + 1) (by omega) (by omega) W hW.base) (k := ?_))
        (repeat' (first | intro (b : Nat) | refine go ?_ | (refine br ?_ ?_ <;> first | exact trivial | intro hq)))
        refine X.roundw (k + 1) (⟨by omega, by omega⟩) (by omega)
      · obtain rfl : m = k := by omega
        have hs := cum_succ y m hy.1
        have hc := cum_bd y (m + 1) (by omega)
        by_cases h12 : m < 12
        · (repeat' (first | intro (b : Nat) | refine go ?_ | (refine br ?_ ?_ <;> first | exact trivial | intro hq)))
          (refine L.call (h := by intro W hW; exact b_years y (by omega) (by omega) W hW.base) (k := ?_))
          (repeat (first | intro (b : Nat) | refine go ?_))
          (refine L.call (h := by intro W hW; exact b_months y (m + 1) (by omega) (by omega) W hW.base) (k := ?_))
          (repeat' (first | intro (b : Nat) | refine go ?_ | (refine br ?_ ?_ <;> first | exact trivial | intro hq)))
          (refine L.call (h := by intro W hW; exact b_years y (by omega) (by omega) W hW.base) (k := ?_))
          (repeat (first | intro (b : Nat) | refine go ?_))
          (refine L.call (h := by intro W hW; exact b_months y m (by omega) (by omega) W hW.base) (k := ?_))
          (repeat (first | intro (b : Nat) | refine go ?_))
          (refine ret ?_; try exact rfl)
          ((try simp only [tupleOf, Value.agg.injEq, Value.tuple.injEq, List.toArray_inj, Array.mk.injEq, List.cons.injEq, Value.int.injEq, Value.bool.injEq, and_true, true_and]) <;> (try omega))
        · (repeat' (first | intro (b : Nat) | refine go ?_ | (refine br ?_ ?_ <;> first | exact trivial | intro hq)))
          (refine L.call (h := by intro W hW; exact b_years y (by omega) (by omega) W hW.base) (k := ?_))
          (repeat (first | intro (b : Nat) | refine go ?_))
          (refine L.call (h := by intro W hW; exact b_months y m (by omega) (by omega) W hW.base) (k := ?_))
          (repeat (first | intro (b : Nat) | refine go ?_))
          (refine ret ?_; try exact rfl)
          ((try simp only [tupleOf, Value.agg.injEq, Value.tuple.injEq, List.toArray_inj, Array.mk.injEq, List.cons.injEq, Value.int.injEq, Value.bool.injEq, and_true, true_and]) <;> (try omega))

theorem b_DateOf_no (n : Int) (h : inR n 0 3652058 = false) (w : World) (hb : D.Base w) : Calls Tryz.prog 192 #[.int .i64 n] w fun e w' => e = .returned (.tuple #[.agg #[.int .i64 0, .int .i64 0, .int .i64 0], .bool false]) ∧ Below w.heap.size w w' := by
  refine enter Tryz.func192 rfl Tryz.ntmps192 rfl (by assumption) ?_
  (repeat (first | intro (b : Nat) | refine go ?_))
  (refine L.call (h := by intro W hW; exact h ▸ b_in _ _ _ W hW.base) (k := ?_))
  (repeat (first | intro (b : Nat) | refine go ?_))
  (refine ret ?_; try exact rfl)

theorem b_DayPlus (y m d n y' m' d' : Int) (h : dval y m d = true) (h' : dval y' m' d' = true) (hn : num y m d + n = num y' m' d') (w : World) (hb : D.Base w) : Calls Tryz.prog 190 #[.agg #[.int .i64 y, .int .i64 m, .int .i64 d], .int .i64 n] w fun e w' => e = .returned (.tuple #[.agg #[.int .i64 y', .int .i64 m', .int .i64 d'], .bool true]) ∧ Below w.heap.size w w' := by
  have hb1 := num_bd h
  have hb2 := num_bd h'
  have hr : inR n (-3652058) 3652058 = true := inR_true.2 (by omega)
  have hq1 : dnum y m d = num y m d := if_pos h
  refine enter Tryz.func190 rfl Tryz.ntmps190 rfl (by assumption) ?_
  (repeat (first | intro (b : Nat) | refine go ?_))
  (refine L.call (h := by intro W hW; exact h ▸ b_DateValid _ _ _ W hW.base) (k := ?_))
  (repeat (first | intro (b : Nat) | refine go ?_))
  (refine L.call (h := by intro W hW; exact hr ▸ b_in _ _ _ W hW.base) (k := ?_))
  (repeat (first | intro (b : Nat) | refine go ?_))
  (refine L.call (h := by intro W hW; exact hq1 ▸ b_DayNumber _ _ _ W hW.base) (k := ?_))
  (repeat (first | intro (b : Nat) | refine go ?_))
  (refine L.call (h := by intro W hW; exact hn ▸ b_DateOf _ _ _ h' W hW.base) (k := ?_))
  (repeat (first | intro (b : Nat) | refine go ?_))
  (refine ret ?_; try exact rfl)

theorem b_DayPlus_no (y m d n : Int) (hno : ¬ (dval y m d = true ∧ inR n (-3652058) 3652058 = true ∧ inR (num y m d + n) 0 3652058 = true)) (w : World) (hb : D.Base w) : Calls Tryz.prog 190 #[.agg #[.int .i64 y, .int .i64 m, .int .i64 d], .int .i64 n] w fun e w' => e = .returned (.tuple #[.agg #[.int .i64 0, .int .i64 0, .int .i64 0], .bool false]) ∧ Below w.heap.size w w' := by
  by_cases h : dval y m d = true
  · have hb1 := num_bd h
    have hq1 : dnum y m d = num y m d := if_pos h
    by_cases hr : inR n (-3652058) 3652058 = true
    · have hrb := inR_true.1 hr
      have hz : inR (num y m d + n) 0 3652058 = false := by
        cases hq : inR (num y m d + n) 0 3652058 with
        | false => rfl
        | true => exact (hno ⟨h, hr, hq⟩).elim
      refine enter Tryz.func190 rfl Tryz.ntmps190 rfl (by assumption) ?_
      (repeat (first | intro (b : Nat) | refine go ?_))
      (refine L.call (h := by intro W hW; exact h ▸ b_DateValid _ _ _ W hW.base) (k := ?_))
      (repeat (first | intro (b : Nat) | refine go ?_))
      (refine L.call (h := by intro W hW; exact hr ▸ b_in _ _ _ W hW.base) (k := ?_))
      (repeat (first | intro (b : Nat) | refine go ?_))
      (refine L.call (h := by intro W hW; exact hq1 ▸ b_DayNumber _ _ _ W hW.base) (k := ?_))
      (repeat (first | intro (b : Nat) | refine go ?_))
      (refine L.call (h := by intro W hW; exact b_DateOf_no _ hz W hW.base) (k := ?_))
      (repeat (first | intro (b : Nat) | refine go ?_))
      (refine ret ?_; try exact rfl)
    · have hr : inR n (-3652058) 3652058 = false := by simpa using hr
      refine enter Tryz.func190 rfl Tryz.ntmps190 rfl (by assumption) ?_
      (repeat (first | intro (b : Nat) | refine go ?_))
      (refine L.call (h := by intro W hW; exact h ▸ b_DateValid _ _ _ W hW.base) (k := ?_))
      (repeat (first | intro (b : Nat) | refine go ?_))
      (refine L.call (h := by intro W hW; exact hr ▸ b_in _ _ _ W hW.base) (k := ?_))
      (repeat (first | intro (b : Nat) | refine go ?_))
      (refine ret ?_; try exact rfl)
  · have h : dval y m d = false := by simpa using h
    refine enter Tryz.func190 rfl Tryz.ntmps190 rfl (by assumption) ?_
    (repeat (first | intro (b : Nat) | refine go ?_))
    (refine L.call (h := by intro W hW; exact h ▸ b_DateValid _ _ _ W hW.base) (k := ?_))
    (repeat (first | intro (b : Nat) | refine go ?_))
    (refine ret ?_; try exact rfl)

end D
end Go.Proofs.YtboglbdhibcacaaGreatDoor

namespace Go.Proofs.YtboglbdhibcacaaGreatDoor
set_option linter.unusedVariables false
set_option linter.unusedSimpArgs false
set_option maxRecDepth 100000
set_option maxHeartbeats 1000000
namespace D
open Go.RowKit

theorem b_ClockValid (h i s k : Int) (w : World) (hb : D.Base w) : Calls Tryz.prog 151 #[.agg #[.int .i64 h, .int .i64 i, .int .i64 s, .int .i64 k]] w fun e w' => e = .returned (.bool (cval h i s k)) ∧ Below w.heap.size w w' := by
  by_cases c0 : inR h 0 24 = true
  · by_cases c1 : inR i 0 59 = true
    · by_cases c2 : inR s 0 59 = true
      · by_cases c3 : inR k 0 999 = true
        · have hb0 := inR_true.1 c0
          have hb1 := inR_true.1 c1
          have hb2 := inR_true.1 c2
          have hb3 := inR_true.1 c3
          refine enter Tryz.func151 rfl Tryz.ntmps151 rfl (by assumption) ?_
          (repeat (first | intro (b : Nat) | refine go ?_))
          (refine L.call (h := by intro W hW; exact c0 ▸ b_in _ _ _ W hW.base) (k := ?_))
          (repeat (first | intro (b : Nat) | refine go ?_))
          (refine L.call (h := by intro W hW; exact c1 ▸ b_in _ _ _ W hW.base) (k := ?_))
          (repeat (first | intro (b : Nat) | refine go ?_))
          (refine L.call (h := by intro W hW; exact c2 ▸ b_in _ _ _ W hW.base) (k := ?_))
          (repeat (first | intro (b : Nat) | refine go ?_))
          (refine L.call (h := by intro W hW; exact c3 ▸ b_in _ _ _ W hW.base) (k := ?_))
          (repeat' (first | intro (b : Nat) | refine go ?_ | (refine br ?_ ?_ <;> first | exact trivial | intro hq)))
          all_goals (refine ret ?_; try exact rfl)
          · rw [show cval h i s k = true by simp only [cval, c0, c1, c2, c3, Bool.true_and, Bool.or_eq_true, decide_eq_true_eq]; exact Or.inl (by omega)]
            rfl
          · refine congrArg Value.bool ?_
            rw [Bool.eq_iff_iff]
            simp only [cval, c0, c1, c2, c3, Bool.true_and, Bool.or_eq_true, Bool.and_eq_true, decide_eq_true_eq, beq_iff_eq]
            omega
        · have c3 : inR k 0 999 = false := by simpa using c3
          refine enter Tryz.func151 rfl Tryz.ntmps151 rfl (by assumption) ?_
          (repeat (first | intro (b : Nat) | refine go ?_))
          (refine L.call (h := by intro W hW; exact c0 ▸ b_in _ _ _ W hW.base) (k := ?_))
          (repeat (first | intro (b : Nat) | refine go ?_))
          (refine L.call (h := by intro W hW; exact c1 ▸ b_in _ _ _ W hW.base) (k := ?_))
          (repeat (first | intro (b : Nat) | refine go ?_))
          (refine L.call (h := by intro W hW; exact c2 ▸ b_in _ _ _ W hW.base) (k := ?_))
          (repeat (first | intro (b : Nat) | refine go ?_))
          (refine L.call (h := by intro W hW; exact c3 ▸ b_in _ _ _ W hW.base) (k := ?_))
          (repeat (first | intro (b : Nat) | refine go ?_))
          (refine ret ?_; try exact rfl)
          simp [tupleOf, cval, c3]
      · have c2 : inR s 0 59 = false := by simpa using c2
        refine enter Tryz.func151 rfl Tryz.ntmps151 rfl (by assumption) ?_
        (repeat (first | intro (b : Nat) | refine go ?_))
        (refine L.call (h := by intro W hW; exact c0 ▸ b_in _ _ _ W hW.base) (k := ?_))
        (repeat (first | intro (b : Nat) | refine go ?_))
        (refine L.call (h := by intro W hW; exact c1 ▸ b_in _ _ _ W hW.base) (k := ?_))
        (repeat (first | intro (b : Nat) | refine go ?_))
        (refine L.call (h := by intro W hW; exact c2 ▸ b_in _ _ _ W hW.base) (k := ?_))
        (repeat (first | intro (b : Nat) | refine go ?_))
        (refine ret ?_; try exact rfl)
        simp [tupleOf, cval, c2]
    · have c1 : inR i 0 59 = false := by simpa using c1
      refine enter Tryz.func151 rfl Tryz.ntmps151 rfl (by assumption) ?_
      (repeat (first | intro (b : Nat) | refine go ?_))
      (refine L.call (h := by intro W hW; exact c0 ▸ b_in _ _ _ W hW.base) (k := ?_))
      (repeat (first | intro (b : Nat) | refine go ?_))
      (refine L.call (h := by intro W hW; exact c1 ▸ b_in _ _ _ W hW.base) (k := ?_))
      (repeat (first | intro (b : Nat) | refine go ?_))
      (refine ret ?_; try exact rfl)
      simp [tupleOf, cval, c1]
  · have c0 : inR h 0 24 = false := by simpa using c0
    refine enter Tryz.func151 rfl Tryz.ntmps151 rfl (by assumption) ?_
    (repeat (first | intro (b : Nat) | refine go ?_))
    (refine L.call (h := by intro W hW; exact c0 ▸ b_in _ _ _ W hW.base) (k := ?_))
    (repeat (first | intro (b : Nat) | refine go ?_))
    (refine ret ?_; try exact rfl)
    simp [tupleOf, cval, c0]

theorem b_ClockMillis (h i s k : Int) (hv : cval h i s k = true) (w : World) (hb : D.Base w) : Calls Tryz.prog 188 #[.agg #[.int .i64 h, .int .i64 i, .int .i64 s, .int .i64 k]] w fun e w' => e = .returned (.int .i64 (cms h i s k)) ∧ Below w.heap.size w w' := by
  have hd := cval_bd hv
  have e0 : cms h i s k = ((h * 60 + i) * 60 + s) * 1000 + k := rfl
  refine enter Tryz.func188 rfl Tryz.ntmps188 rfl (by assumption) ?_
  (repeat (first | intro (b : Nat) | refine go ?_))
  (refine L.call (h := by intro W hW; exact hv ▸ b_ClockValid _ _ _ _ W hW.base) (k := ?_))
  (repeat (first | intro (b : Nat) | refine go ?_))
  (refine ret ?_; try exact rfl)
  ((try simp only [tupleOf, Value.agg.injEq, Value.tuple.injEq, List.toArray_inj, Array.mk.injEq, List.cons.injEq, Value.int.injEq, Value.bool.injEq, and_true, true_and]) <;> (try omega))

theorem b_StampValid (y m d h i s k o : Int) (w : World) (hb : D.Base w) : Calls Tryz.prog 93 #[.agg #[.int .i64 y, .int .i64 m, .int .i64 d, .int .i64 h, .int .i64 i, .int .i64 s, .int .i64 k, .int .i64 o]] w fun e w' => e = .returned (.bool (sval y m d h i s k o)) ∧ Below w.heap.size w w' := by
  by_cases c0 : dval y m d = true
  · by_cases c1 : cval h i s k = true
    · refine enter Tryz.func93 rfl Tryz.ntmps93 rfl (by assumption) ?_
      (repeat (first | intro (b : Nat) | refine go ?_))
      (refine L.call (h := by intro W hW; exact c0 ▸ b_DateValid _ _ _ W hW.base) (k := ?_))
      (repeat (first | intro (b : Nat) | refine go ?_))
      (refine L.call (h := by intro W hW; exact c1 ▸ b_ClockValid _ _ _ _ W hW.base) (k := ?_))
      (repeat (first | intro (b : Nat) | refine go ?_))
      (refine L.call (h := by intro W hW; exact b_in _ _ _ W hW.base) (k := ?_))
      (repeat (first | intro (b : Nat) | refine go ?_))
      (refine ret ?_; try exact rfl)
      simp [tupleOf, sval, c0, c1]
    · have c1 : cval h i s k = false := by simpa using c1
      refine enter Tryz.func93 rfl Tryz.ntmps93 rfl (by assumption) ?_
      (repeat (first | intro (b : Nat) | refine go ?_))
      (refine L.call (h := by intro W hW; exact c0 ▸ b_DateValid _ _ _ W hW.base) (k := ?_))
      (repeat (first | intro (b : Nat) | refine go ?_))
      (refine L.call (h := by intro W hW; exact c1 ▸ b_ClockValid _ _ _ _ W hW.base) (k := ?_))
      (repeat (first | intro (b : Nat) | refine go ?_))
      (refine ret ?_; try exact rfl)
      simp [tupleOf, sval, c1]
  · have c0 : dval y m d = false := by simpa using c0
    refine enter Tryz.func93 rfl Tryz.ntmps93 rfl (by assumption) ?_
    (repeat (first | intro (b : Nat) | refine go ?_))
    (refine L.call (h := by intro W hW; exact c0 ▸ b_DateValid _ _ _ W hW.base) (k := ?_))
    (repeat (first | intro (b : Nat) | refine go ?_))
    (refine ret ?_; try exact rfl)
    simp [tupleOf, sval, c0]

theorem b_l12 (y m d h i s k o : Int) (hv : sval y m d h i s k o = true) (w : World) (hb : D.Base w) : Calls Tryz.prog 129 #[.agg #[.int .i64 y, .int .i64 m, .int .i64 d, .int .i64 h, .int .i64 i, .int .i64 s, .int .i64 k, .int .i64 o]] w fun e w' => e = .returned (.int .i64 (inst y m d h i s k o)) ∧ Below w.heap.size w w' := by
  obtain ⟨h1, h2, h3, h4⟩ := sval_parts hv
  have hn := num_bd h1
  have hm := cms_bd h2
  have e0 : inst y m d h i s k o = 86400000 * num y m d + cms h i s k - 60000 * o := rfl
  have hq1 : dnum y m d = num y m d := if_pos h1
  refine enter Tryz.func129 rfl Tryz.ntmps129 rfl (by assumption) ?_
  (repeat (first | intro (b : Nat) | refine go ?_))
  ((repeat (refine C.seq ?_)); apply C.draww 13 [none, some _, some _, none, none, some _, some _, none, none, some _, none, none, none])
  (repeat (first | intro (b : Nat) | refine gg ?_))
  (refine G.call (h := by intro W hW; exact hq1 ▸ b_DayNumber _ _ _ W hW.base) (k := ?_))
  (repeat (first | intro (b : Nat) | refine gg ?_))
  (refine G.call (h := by intro W hW; exact b_ClockMillis _ _ _ _ h2 W hW.base) (k := ?_))
  (repeat (first | intro (b : Nat) | refine gg ?_))
  (repeat (first | intro (b : Nat) | refine go ?_))
  (refine ret ?_; try exact rfl)
  ((try simp only [tupleOf, Value.agg.injEq, Value.tuple.injEq, List.toArray_inj, Array.mk.injEq, List.cons.injEq, Value.int.injEq, Value.bool.injEq, and_true, true_and]) <;> (try omega))

end D
end Go.Proofs.YtboglbdhibcacaaGreatDoor

namespace Go.Proofs.YtboglbdhibcacaaGreatDoor
set_option linter.unusedVariables false
set_option linter.unusedSimpArgs false
set_option maxRecDepth 100000
set_option maxHeartbeats 1000000
namespace D
open Go.RowKit
attribute [local irreducible] Calls

theorem b_DateOfG (n : Int) (w : World) (hb : D.Base w) : Calls Tryz.prog 192 #[.int .i64 n] w fun e w' => e = .returned (drV (dateOf n)) ∧ Below w.heap.size w w' := by
  cases h : inR n 0 3652058 with
  | true =>
    obtain ⟨y, m, d, h1, rfl, h2⟩ := dateOf_yes h
    rw [h2]
    exact b_DateOf y m d h1 w hb
  | false =>
    rw [dateOf_no h]
    exact b_DateOf_no n h w hb

theorem b_l5Of (n : Int) (h0 : 0 ≤ n ∧ n ≤ 9223372036854775807) (w : World) (hb : D.Base w) : Calls Tryz.prog 193 #[.int .i64 n] w fun e w' => e = .returned (.agg #[.int .i64 (n / 3600000), .int .i64 (n / 60000 % 60), .int .i64 (n / 1000 % 60), .int .i64 (n % 1000)]) ∧ Below w.heap.size w w' := by
  refine enter Tryz.func193 rfl Tryz.ntmps193 rfl (by assumption) ?_
  (repeat' (first | intro (b : Nat) | refine go ?_ | (refine br ?_ ?_ <;> first | exact trivial | intro hq)))
  (refine ret ?_; try exact rfl)

theorem b_l12Ok (n : Int) (w : World) (hb : D.Base w) : Calls Tryz.prog 191 #[.int .i64 n] w fun e w' => e = .returned (.bool (inR n (-86400000) 315537984000000)) ∧ Below w.heap.size w w' := by
  refine enter Tryz.func191 rfl Tryz.ntmps191 rfl (by assumption) ?_
  (repeat' (first | intro (b : Nat) | refine go ?_ | (refine br ?_ ?_ <;> first | exact trivial | intro hq) | refine L.call (h := by intro W hW; apply b_in _ _ _ W hW.base) (k := ?_)))
  (refine ret ?_; try exact rfl)

theorem b_StampAt (n o : Int) (w : World) (hb : D.Base w) : Calls Tryz.prog 138 #[.int .i64 n, .int .i64 o] w fun e w' => e = .returned (srV (stampAt n o)) ∧ Below w.heap.size w w' := by
  cases h2 : inR o (-1439) 1439
  · have e : stampAt n o = SR.no := if_neg (by simp [h2])
    rw [e]
    refine enter Tryz.func138 rfl Tryz.ntmps138 rfl (by assumption) ?_
    (repeat' (first | intro (b : Nat) | refine go ?_ | (refine br ?_ ?_ <;> first | exact trivial | intro hq) | refine L.call (h := by intro W hW; apply rvb h2 (b_in _ _ _ W hW.base)) (k := ?_) | refine gg ?_ | refine G.call (h := by intro W hW; apply rvb h2 (b_in _ _ _ W hW.base)) (k := ?_) | (apply C.draww (id := 9) 6 [some _, none, none, some _, none, none])))
    (refine ret ?_; try exact rfl)
  cases h1 : inR n (-86400000) 315537984000000
  · have e : stampAt n o = SR.no := if_neg (by simp [h1])
    rw [e]
    refine enter Tryz.func138 rfl Tryz.ntmps138 rfl (by assumption) ?_
    (repeat' (first | intro (b : Nat) | refine go ?_ | (refine br ?_ ?_ <;> first | exact trivial | intro hq) | refine L.call (h := by intro W hW; first | apply rvb h2 (b_in _ _ _ W hW.base) | apply rvb h1 (b_l12Ok _ W hW.base)) (k := ?_) | refine gg ?_ | refine G.call (h := by intro W hW; first | apply rvb h2 (b_in _ _ _ W hW.base) | apply rvb h1 (b_l12Ok _ W hW.base)) (k := ?_) | (apply C.draww (id := 9) 6 [some _, none, none, some _, none, none])))
    (refine ret ?_; try exact rfl)
  have hn := inR_true.1 h1
  have ho := inR_true.1 h2
  by_cases hL : 0 ≤ n + 60000 * o
  · have e : stampAt n o = stampL (n + 60000 * o) o := if_pos ⟨h1, h2, hL⟩
    rw [e]
    cases hr : inR ((n + 60000 * o) / 86400000) 0 3652058 with
    | true =>
      obtain ⟨y, m, d, k1, k2, k3⟩ := stampL_yes o hr
      rw [k3, srV]
      have k4 := b_DateOf y m d k1
      rw [k2] at k4
      refine enter Tryz.func138 rfl Tryz.ntmps138 rfl (by assumption) ?_
      (repeat' (first | intro (b : Nat) | refine go ?_ | (refine br ?_ ?_ <;> first | exact trivial | intro hq) | refine L.call (h := by intro W hW; first | apply rvb h2 (b_in _ _ _ W hW.base) | apply rvb h1 (b_l12Ok _ W hW.base) | apply k4 W hW.base | apply b_l5Of _ (by omega) W hW.base) (k := ?_) | refine gg ?_ | refine G.call (h := by intro W hW; first | apply rvb h2 (b_in _ _ _ W hW.base) | apply rvb h1 (b_l12Ok _ W hW.base) | apply k4 W hW.base | apply b_l5Of _ (by omega) W hW.base) (k := ?_) | (apply C.draww (id := 9) 6 [some _, none, none, some _, none, none])))
      (refine ret ?_; try exact rfl)
    | false =>
      rw [stampL_no o hr]
      refine enter Tryz.func138 rfl Tryz.ntmps138 rfl (by assumption) ?_
      (repeat' (first | intro (b : Nat) | refine go ?_ | (refine br ?_ ?_ <;> first | exact trivial | intro hq) | refine L.call (h := by intro W hW; first | apply rvb h2 (b_in _ _ _ W hW.base) | apply rvb h1 (b_l12Ok _ W hW.base) | apply b_DateOf_no _ hr W hW.base) (k := ?_) | refine gg ?_ | refine G.call (h := by intro W hW; first | apply rvb h2 (b_in _ _ _ W hW.base) | apply rvb h1 (b_l12Ok _ W hW.base) | apply b_DateOf_no _ hr W hW.base) (k := ?_) | (apply C.draww (id := 9) 6 [some _, none, none, some _, none, none])))
      (refine ret ?_; try exact rfl)
  · have e : stampAt n o = SR.no := if_neg (fun k => hL k.2.2)
    rw [e]
    refine enter Tryz.func138 rfl Tryz.ntmps138 rfl (by assumption) ?_
    (repeat' (first | intro (b : Nat) | refine go ?_ | (refine br ?_ ?_ <;> first | exact trivial | intro hq) | refine L.call (h := by intro W hW; first | apply rvb h2 (b_in _ _ _ W hW.base) | apply rvb h1 (b_l12Ok _ W hW.base)) (k := ?_) | refine gg ?_ | refine G.call (h := by intro W hW; first | apply rvb h2 (b_in _ _ _ W hW.base) | apply rvb h1 (b_l12Ok _ W hW.base)) (k := ?_) | (apply C.draww (id := 9) 6 [some _, none, none, some _, none, none])))
    (refine ret ?_; try exact rfl)

end D
end Go.Proofs.YtboglbdhibcacaaGreatDoor

namespace Go.Proofs.YtboglbdhibcacaaGreatDoor
set_option linter.unusedVariables false
set_option linter.unusedSimpArgs false
set_option maxRecDepth 100000
set_option maxHeartbeats 1000000
namespace D
open Go.RowKit
attribute [local irreducible] Calls

theorem b_DayPlusG (y m d n : Int) (w : World) (hb : D.Base w) : Calls Tryz.prog 190 #[.agg #[.int .i64 y, .int .i64 m, .int .i64 d], .int .i64 n] w fun e w' => e = .returned (drV (dayp y m d n)) ∧ Below w.heap.size w w' := by
  by_cases h : dval y m d = true ∧ inR n (-3652058) 3652058 = true ∧ inR (num y m d + n) 0 3652058 = true
  · obtain ⟨h1, h2, h3⟩ := h
    obtain ⟨y', m', d', g1, g2, g3⟩ := dateOf_yes h3
    have e : dayp y m d n = ⟨y', m', d', true⟩ := by unfold dayp; rw [if_pos ⟨h1, h2⟩, g3]
    rw [e]
    exact b_DayPlus y m d n y' m' d' h1 g1 g2.symm w hb
  · have e : dayp y m d n = DR.no := by
      unfold dayp
      by_cases h2 : dval y m d = true ∧ inR n (-3652058) 3652058 = true
      · rw [if_pos h2]
        refine dateOf_no ?_
        cases h3 : inR (num y m d + n) 0 3652058 with
        | false => rfl
        | true => exact (h ⟨h2.1, h2.2, h3⟩).elim
      · rw [if_neg h2]
    rw [e]
    exact b_DayPlus_no y m d n h w hb

theorem b_Sign (back : Bool) (w : World) (hb : D.Base w) : Calls Tryz.prog 137 #[.bool back] w fun e w' => e = .returned (.int .i64 (sgn back)) ∧ Below w.heap.size w w' := by
  cases back
  all_goals
    refine enter Tryz.func137 rfl Tryz.ntmps137 rfl (by assumption) ?_
    (repeat' (first | intro (b : Nat) | refine go ?_ | (refine br ?_ ?_ <;> first | exact trivial | intro hq)))
    (refine ret ?_; try exact rfl)

theorem b_l16Date (y m d a x c e' f g : Int) (back : Bool) (h : 0 ≤ a ∧ a ≤ 9999 ∧ 0 ≤ x ∧ x ≤ 9999 ∧ 0 ≤ c ∧ c ≤ 9999) (w : World) (hb : D.Base w) :
    Calls Tryz.prog 136 #[.agg #[.int .i64 y, .int .i64 m, .int .i64 d], .agg #[.int .i64 a, .int .i64 x, .int .i64 c, .int .i64 e', .int .i64 f, .int .i64 g], .int .i64 (sgn back)] w fun e w' => e = .returned (drV (dshift y m d (sgn back * (12 * a + x)) (sgn back * c))) ∧ Below w.heap.size w w' := by
  have hM := b_MonthPlus y m d (sgn back * (12 * a + x))
  have hsg : sgn back = 1 ∨ sgn back = -1 := by cases back <;> simp [sgn]
  unfold dshift
  generalize mplus y m d (sgn back * (12 * a + x)) = S at hM ⊢
  obtain ⟨s1, s2, s3, s4⟩ := S
  have hD := b_DayPlusG s1 s2 s3 (sgn back * c)
  simp only
  generalize dayp s1 s2 s3 (sgn back * c) = T at hD ⊢
  obtain ⟨t1, t2, t3, t4⟩ := T
  generalize sgn back = sg at *
  cases s4
  · simp only [Bool.false_eq_true, if_false, drV, DR.no] at hM ⊢
    rcases hsg with rfl | rfl
    all_goals
      refine enter Tryz.func136 rfl Tryz.ntmps136 rfl (by assumption) ?_
      (repeat' (first | intro (b : Nat) | refine go ?_ | (refine br ?_ ?_ <;> first | exact trivial | intro hq) | refine L.call (h := by intro W hW; apply hM W hW.base) (k := ?_)))
      (refine ret ?_; try exact rfl)
  · simp only [if_true, drV] at hM hD ⊢
    rcases hsg with rfl | rfl
    all_goals
      refine enter Tryz.func136 rfl Tryz.ntmps136 rfl (by assumption) ?_
      (repeat' (first | intro (b : Nat) | refine go ?_ | (refine br ?_ ?_ <;> first | exact trivial | intro hq) | refine L.call (h := by intro W hW; first | apply hM W hW.base | apply hD W hW.base) (k := ?_)))
      (refine ret ?_; try exact rfl)

theorem b_Parts (a x c d f g : Int) (w : World) (hb : D.Base w) : Calls Tryz.prog 142 #[.agg #[.int .i64 a, .int .i64 x, .int .i64 c, .int .i64 d, .int .i64 f, .int .i64 g]] w (Ret w (NewSl 6 6 (.cells 3 [.int .i64 a, .int .i64 x, .int .i64 c, .int .i64 d, .int .i64 f, .int .i64 g]))) := by
  refine enter Tryz.func142 rfl Tryz.ntmps142 rfl (by assumption) ?_
  (repeat' (first | intro (b : Nat) | refine go ?_ | (refine br ?_ ?_ <;> first | exact trivial | intro hq)))
  exact retsl

theorem b_PeriodValid (a x c d f g : Int) (w : World) (hb : D.Base w) : Calls Tryz.prog 94 #[.agg #[.int .i64 a, .int .i64 x, .int .i64 c, .int .i64 d, .int .i64 f, .int .i64 g]] w fun e w' => e = .returned (.bool (perV a x c d f g)) ∧ Below w.heap.size w w' := by
  refine enter Tryz.func94 rfl Tryz.ntmps94 rfl (by assumption) ?_
  (repeat (first | intro (b : Nat) | refine go ?_))
  (refine L.slcall (h := by intro W hW; exact b_Parts _ _ _ _ _ _ W hW.base) (k := ?_); intro b)
  revert b; intro bs
  (repeat (first | intro (b : Nat) | refine go ?_))
  refine C.loopw (Y := Int) (fun k => [(3, .slice (some ⟨bs, 0, none⟩) 6 6), (4, .int .i64 k)]) (fun k => [(bs, .cells 3 [.int .i64 a, .int .i64 x, .int .i64 c, .int .i64 d, .int .i64 f, .int .i64 g])]) (fun k => 0 ≤ k ∧ k ≤ 6 ∧ (1 ≤ k → inR a 0 9999 = true) ∧ (2 ≤ k → inR x 0 9999 = true) ∧ (3 ≤ k → inR c 0 9999 = true) ∧ (4 ≤ k → inR d 0 9999 = true) ∧ (5 ≤ k → inR f 0 9999 = true) ∧ (6 ≤ k → inR g 0 9999 = true)) (fun k => (6 - k).toNat) 0 (by omega) (fun k hy => ?_)
  obtain ⟨h0, h6, ha, hb', hc, hd, hf, hg⟩ := hy
  rcases (by omega : k = 0 ∨ k = 1 ∨ k = 2 ∨ k = 3 ∨ k = 4 ∨ k = 5 ∨ k = 6) with rfl | rfl | rfl | rfl | rfl | rfl | rfl
  all_goals (repeat' (first | intro (b : Nat) | refine go ?_ | (refine br ?_ ?_ <;> first | exact trivial | intro hq) | refine L.call (h := by intro W hW; apply b_in _ _ _ W hW.base) (k := ?_)))
  all_goals first | ((refine ret ?_; try exact rfl); simp_all [tupleOf, perV]; done) | (refine X.rounda ?_ ?_ <;> simp_all; done)

theorem b_StampPlus (y m d h i s k o a x c d' f g : Int) (back : Bool) (w : World) (hb : D.Base w) :
    Calls Tryz.prog 81 #[.agg #[.int .i64 y, .int .i64 m, .int .i64 d, .int .i64 h, .int .i64 i, .int .i64 s, .int .i64 k, .int .i64 o], .agg #[.int .i64 a, .int .i64 x, .int .i64 c, .int .i64 d', .int .i64 f, .int .i64 g], .bool back] w fun e w' => e = .returned (srV (splus y m d h i s k o a x c d' f g back)) ∧ Below w.heap.size w w' := by
  cases h1 : sval y m d h i s k o
  · have e : splus y m d h i s k o a x c d' f g back = SR.no := if_neg (by simp [h1])
    rw [e]
    refine enter Tryz.func81 rfl Tryz.ntmps81 rfl (by assumption) ?_
    (repeat' (first | intro (b : Nat) | refine go ?_ | (refine br ?_ ?_ <;> first | exact trivial | intro hq) | refine L.call (h := by intro W hW; apply rvb h1 (b_StampValid _ _ _ _ _ _ _ _ W hW.base)) (k := ?_) | refine gg ?_ | refine G.call (h := by intro W hW; apply rvb h1 (b_StampValid _ _ _ _ _ _ _ _ W hW.base)) (k := ?_) | (apply C.draww (id := 3) 10 [none, some _, some _, none, some _, some _, none, none, none, some _]) | (apply C.draww (id := 7) 22 [some _, some _, none, some _, none, none, some _, none, none, some _, none, none, none, some _, none, none, none, none, some _, some _, none, none])))
    (refine ret ?_; try exact rfl)
  cases h2 : perV a x c d' f g
  · have e : splus y m d h i s k o a x c d' f g back = SR.no := if_neg (by simp [h2])
    rw [e]
    refine enter Tryz.func81 rfl Tryz.ntmps81 rfl (by assumption) ?_
    (repeat' (first | intro (b : Nat) | refine go ?_ | (refine br ?_ ?_ <;> first | exact trivial | intro hq) | refine L.call (h := by intro W hW; first | apply rvb h1 (b_StampValid _ _ _ _ _ _ _ _ W hW.base) | apply rvb h2 (b_PeriodValid _ _ _ _ _ _ W hW.base)) (k := ?_) | refine gg ?_ | refine G.call (h := by intro W hW; first | apply rvb h1 (b_StampValid _ _ _ _ _ _ _ _ W hW.base) | apply rvb h2 (b_PeriodValid _ _ _ _ _ _ W hW.base)) (k := ?_) | (apply C.draww (id := 3) 10 [none, some _, some _, none, some _, some _, none, none, none, some _]) | (apply C.draww (id := 7) 22 [some _, some _, none, some _, none, none, some _, none, none, some _, none, none, none, some _, none, none, none, none, some _, some _, none, none])))
    (refine ret ?_; try exact rfl)
  have hv := perV_iff.1 h2
  obtain ⟨q1, q2, q3, q4⟩ := sval_parts h1
  have hS := b_l16Date y m d a x c d' f g back (by omega)
  have hG := b_Sign back
  cases h3 : (dshift y m d (sgn back * (12 * a + x)) (sgn back * c)).ok
  · have e : splus y m d h i s k o a x c d' f g back = SR.no := if_neg (by simp [h3])
    rw [e]
    generalize dshift y m d (sgn back * (12 * a + x)) (sgn back * c) = S at hS h3
    obtain ⟨s1, s2, s3, s4⟩ := S
    simp only at h3
    subst h3
    simp only [drV] at hS
    generalize sgn back = sg at *
    refine enter Tryz.func81 rfl Tryz.ntmps81 rfl (by assumption) ?_
    (repeat' (first | intro (b : Nat) | refine go ?_ | (refine br ?_ ?_ <;> first | exact trivial | intro hq) | refine L.call (h := by intro W hW; first | apply rvb h1 (b_StampValid _ _ _ _ _ _ _ _ W hW.base) | apply rvb h2 (b_PeriodValid _ _ _ _ _ _ W hW.base) | apply hG W hW.base | apply hS W hW.base) (k := ?_) | refine gg ?_ | refine G.call (h := by intro W hW; first | apply rvb h1 (b_StampValid _ _ _ _ _ _ _ _ W hW.base) | apply rvb h2 (b_PeriodValid _ _ _ _ _ _ W hW.base) | apply hG W hW.base | apply hS W hW.base) (k := ?_) | (apply C.draww (id := 3) 10 [none, some _, some _, none, some _, some _, none, none, none, some _]) | (apply C.draww (id := 7) 22 [some _, some _, none, some _, none, none, some _, none, none, some _, none, none, none, some _, none, none, none, none, some _, some _, none, none])))
    (refine ret ?_; try exact rfl)
  · obtain ⟨y', m', d2, h4, h5⟩ := dshift_ok h3
    have e : splus y m d h i s k o a x c d' f g back = stampAt (inst y' m' d2 h i s k o + sgn back * (1000 * ((d' * 60 + f) * 60 + g))) o := by
      unfold splus
      rw [if_pos ⟨h1, h2, h3⟩, h4]
    rw [e]
    rw [h4] at hS
    simp only [drV] at hS
    have h6 : sval y' m' d2 h i s k o = true := by simp [sval, h5, q2, inR_true.2 ⟨q3, q4⟩]
    have hi := inst_bd h6
    have e2 : inst y' m' d2 h i s k o + sgn back * (1000 * ((d' * 60 + f) * 60 + g)) = inst y' m' d2 h i s k o + sgn back * 1000 * (60 * (60 * d' + f) + g) := by cases back <;> simp [sgn] <;> omega
    have hA := b_StampAt (inst y' m' d2 h i s k o + sgn back * (1000 * ((d' * 60 + f) * 60 + g))) o
    generalize stampAt (inst y' m' d2 h i s k o + sgn back * (1000 * ((d' * 60 + f) * 60 + g))) o = S at hA ⊢
    rw [e2] at hA
    obtain ⟨s1, s2, s3, s4, s5, s6, s7, s8, s9⟩ := S
    simp only [srV] at hA ⊢
    cases back
    all_goals
      simp only [sgn, Bool.false_eq_true, if_false, if_true] at hA hS hG
      refine enter Tryz.func81 rfl Tryz.ntmps81 rfl (by assumption) ?_
      (repeat' (first | intro (b : Nat) | refine go ?_ | (refine br ?_ ?_ <;> first | exact trivial | intro hq) | refine L.call (h := by intro W hW; first | apply rvb h1 (b_StampValid _ _ _ _ _ _ _ _ W hW.base) | apply rvb h2 (b_PeriodValid _ _ _ _ _ _ W hW.base) | apply hG W hW.base | apply hS W hW.base | apply b_l12 _ _ _ _ _ _ _ _ h6 W hW.base | apply hA W hW.base) (k := ?_) | refine gg ?_ | refine G.call (h := by intro W hW; first | apply rvb h1 (b_StampValid _ _ _ _ _ _ _ _ W hW.base) | apply rvb h2 (b_PeriodValid _ _ _ _ _ _ W hW.base) | apply hG W hW.base | apply hS W hW.base | apply b_l12 _ _ _ _ _ _ _ _ h6 W hW.base | apply hA W hW.base) (k := ?_) | (apply C.draww (id := 3) 10 [none, some _, some _, none, some _, some _, none, none, none, some _]) | (apply C.draww (id := 7) 22 [some _, some _, none, some _, none, none, some _, none, none, some _, none, none, none, some _, none, none, none, none, some _, some _, none, none])))
      (refine ret ?_; try exact rfl)

end D
end Go.Proofs.YtboglbdhibcacaaGreatDoor

namespace Go.Proofs.YtboglbdhibcacaaGreatDoor
set_option linter.unusedVariables false
set_option linter.unusedSimpArgs false
namespace D
open Go.RowKit
open Go.PlainAid (bt bt_nonneg bt_le bt_end)

theorem pOk_perV (p : P6) : pOk p = perV p.a p.b p.c p.d p.e p.f := by
  rw [Bool.eq_iff_iff, pOk_iff, perV_iff]

theorem mplus_num {y m d n : Int} (h : dval y m d = true) (h2 : (mplus y m d n).ok = true) : (0 ≤ n → num y m d ≤ numR (mplus y m d n)) ∧ (n ≤ 0 → numR (mplus y m d n) ≤ num y m d) ∧ dval (mplus y m d n).y (mplus y m d n).m (mplus y m d n).d = true := by
  have hr : inR n (-119988) 119988 = true := by
    cases hq : inR n (-119988) 119988 with
    | true => rfl
    | false => rw [mplus_range hq] at h2; cases h2
  have hb : 0 ≤ mpT y m n ∧ mpT y m n / 12 < 9999 := by
    by_cases hq : 0 ≤ mpT y m n ∧ mpT y m n / 12 < 9999
    · exact hq
    · rw [mplus_out hq] at h2; cases h2
  have hd := dval_bd h
  have e := mplus_in h hr hb
  have h1 : 1 ≤ mpT y m n / 12 + 1 ∧ mpT y m n / 12 + 1 ≤ 9999 := by omega
  have h3 : 1 ≤ mpT y m n % 12 + 1 ∧ mpT y m n % 12 + 1 ≤ 12 := by omega
  have hge := md_ge (mpT y m n / 12 + 1) (mpT y m n % 12 + 1) h1.1 h1.2 h3.1 h3.2
  have hval : dval (mplus y m d n).y (mplus y m d n).m (mplus y m d n).d = true := by
    rw [e]
    exact inR_true.2 (by simp only; omega)
  refine ⟨fun hn => ?_, fun hn => ?_, hval⟩
  · by_cases h0 : n = 0
    · subst h0
      rw [mplus_zero h]
      exact Int.le_refl _
    · have : num y m d < numR (mplus y m d n) := num_lt h hval (by rw [e]; simp only [mpT] at *; omega)
      omega
  · by_cases h0 : n = 0
    · subst h0
      rw [mplus_zero h]
      exact Int.le_refl _
    · have : numR (mplus y m d n) < num y m d := num_lt hval h (by rw [e]; simp only [mpT] at *; omega)
      omega

theorem dayp_num {y m d k : Int} (h : dval y m d = true) (h2 : (dayp y m d k).ok = true) : numR (dayp y m d k) = num y m d + k := by
  unfold dayp at h2 ⊢
  by_cases hc : dval y m d = true ∧ inR k (-3652058) 3652058 = true
  · rw [if_pos hc] at h2 ⊢
    cases hr : inR (num y m d + k) 0 3652058 with
    | true =>
      obtain ⟨y', m', d', g1, g2, g3⟩ := dateOf_yes hr
      rw [g3, ← g2]
      rfl
    | false => rw [dateOf_no hr] at h2; cases h2
  · rw [if_neg hc] at h2; cases h2

theorem dshift_num {y m d n k : Int} (h : dval y m d = true) (h2 : (dshift y m d n k).ok = true) : (0 ≤ n → 0 ≤ k → num y m d ≤ numR (dshift y m d n k)) ∧ (n ≤ 0 → k ≤ 0 → numR (dshift y m d n k) ≤ num y m d) := by
  unfold dshift at h2 ⊢
  by_cases hc : (mplus y m d n).ok = true
  · rw [if_pos hc] at h2 ⊢
    obtain ⟨g1, g2, g3⟩ := mplus_num h hc
    have e := dayp_num g3 h2
    rw [e]
    unfold numR at g1 g2
    exact ⟨fun a b => by have := g1 a; omega, fun a b => by have := g2 a; omega⟩
  · rw [if_neg hc] at h2; cases h2

/-- A stamp a period later is a stamp, and not earlier; a period earlier, not later. -/
theorem splus_ok {y m d h i s k o : Int} {p : P6} {back : Bool} (hp : (splus y m d h i s k o p.a p.b p.c p.d p.e p.f back).ok = true) :
    sval y m d h i s k o = true ∧ pOk p = true ∧ sval (splus y m d h i s k o p.a p.b p.c p.d p.e p.f back).y (splus y m d h i s k o p.a p.b p.c p.d p.e p.f back).m (splus y m d h i s k o p.a p.b p.c p.d p.e p.f back).d (splus y m d h i s k o p.a p.b p.c p.d p.e p.f back).h (splus y m d h i s k o p.a p.b p.c p.d p.e p.f back).i (splus y m d h i s k o p.a p.b p.c p.d p.e p.f back).s (splus y m d h i s k o p.a p.b p.c p.d p.e p.f back).k (splus y m d h i s k o p.a p.b p.c p.d p.e p.f back).o = true ∧
    (if back = true then inst (splus y m d h i s k o p.a p.b p.c p.d p.e p.f back).y (splus y m d h i s k o p.a p.b p.c p.d p.e p.f back).m (splus y m d h i s k o p.a p.b p.c p.d p.e p.f back).d (splus y m d h i s k o p.a p.b p.c p.d p.e p.f back).h (splus y m d h i s k o p.a p.b p.c p.d p.e p.f back).i (splus y m d h i s k o p.a p.b p.c p.d p.e p.f back).s (splus y m d h i s k o p.a p.b p.c p.d p.e p.f back).k (splus y m d h i s k o p.a p.b p.c p.d p.e p.f back).o ≤ inst y m d h i s k o
     else inst y m d h i s k o ≤ inst (splus y m d h i s k o p.a p.b p.c p.d p.e p.f back).y (splus y m d h i s k o p.a p.b p.c p.d p.e p.f back).m (splus y m d h i s k o p.a p.b p.c p.d p.e p.f back).d (splus y m d h i s k o p.a p.b p.c p.d p.e p.f back).h (splus y m d h i s k o p.a p.b p.c p.d p.e p.f back).i (splus y m d h i s k o p.a p.b p.c p.d p.e p.f back).s (splus y m d h i s k o p.a p.b p.c p.d p.e p.f back).k (splus y m d h i s k o p.a p.b p.c p.d p.e p.f back).o) := by
  unfold splus at hp ⊢
  by_cases hc : sval y m d h i s k o = true ∧ perV p.a p.b p.c p.d p.e p.f = true ∧ (dshift y m d (sgn back * (12 * p.a + p.b)) (sgn back * p.c)).ok = true
  · rw [if_pos hc] at hp ⊢
    obtain ⟨h1, h2, h3⟩ := hc
    have hv := perV_iff.1 h2
    obtain ⟨q1, q2, q3, q4⟩ := sval_parts h1
    have hnum := dshift_num q1 h3
    generalize hD : dshift y m d (sgn back * (12 * p.a + p.b)) (sgn back * p.c) = D at *
    obtain ⟨y', m', d', ok'⟩ := D
    obtain ⟨a1, a2, a3, a4, a5, a6, a7, g1, g2, g3, _⟩ := stampAt_ok hp
    rw [g1]
    simp only
    refine ⟨h1, by rw [pOk_perV]; exact h2, g2, ?_⟩
    rw [g3]
    unfold inst
    unfold numR at hnum
    simp only at hnum
    cases back with
    | false =>
      simp only [sgn, Bool.false_eq_true, if_false] at hnum ⊢
      have := hnum.1 (by omega) (by omega)
      omega
    | true =>
      simp only [sgn, if_true] at hnum ⊢
      have := hnum.2 (by omega) (by omega)
      omega
  · rw [if_neg hc] at hp; cases hp

end D
end Go.Proofs.YtboglbdhibcacaaGreatDoor
