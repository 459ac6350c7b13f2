/- Walks: the date of a day and shifts by days, in the reference. -/
import Derived.Test.YtpgbmohocfcjpaaGreatDoorS1
import Derived.Test.YtpgbmohocfcjpaaGreatDoorPL
namespace Go.Proofs.YtpgbmohocfcjpaaGreatDoor
set_option linter.unusedVariables false
set_option linter.unusedSimpArgs false
set_option maxRecDepth 100000
set_option maxHeartbeats 1000000
namespace D
open Go.RowKit

theorem cum_step' {y k m : Int} (h1 : 1 ≤ k) (h : k < m) : cum y (k + 1) ≤ cum y m := cum_le y (a := k + 1) (b := m) (by omega) (by omega)

theorem year_guess' {y m d : Int} (h : dval y m d = true) : num y m d / 366 + 1 ≤ y := by
  have hd := dval_bd h
  have hn := num_in h
  unfold ny at hn
  omega

theorem b_DateOf (y m d : Int) (h : dval y m d = true) (w : World) (hb : D.Base w) : Calls Tryz.prog 165 #[.int .i64 (num y m d)] w fun e w' => e = .returned (.tuple #[.agg #[.int .i64 y, .int .i64 m, .int .i64 d], .bool true]) ∧ Below w.heap.size w w' := by
  have hd := dval_bd h
  have hn := num_in h
  have hb0 := num_bd h
  have hr : inR (num y m d) 0 3652058 = true := inR_true.2 hb0
  have hg := year_guess' h
  have hnm : num y m d = ny y + cum y m + d - 1 := by unfold num ord; omega
  generalize num y m d = n at *
  have h1 := cum_one y
  have hcb := cum_bd y m (by omega)
  have hnb := ny_bd y (by omega) (by omega)
  have hmd := md_bd y m
  refine enter Tryz.func165 rfl Tryz.ntmps165 rfl (by assumption) ?_
  (repeat (first | intro (b : Nat) | refine go ?_))
  (refine L.call (h := by intro W hW; exact hr ▸ b_in _ _ _ W hW.base) (k := ?_))
  (repeat (first | intro (b : Nat) | refine go ?_))
  revert b; intro b0
  refine C.loopw (Y := Int) (fun k => [(0, .int .i64 n), (2, .pointer (some ⟨b0, 0, none⟩)), (4, .int .i64 k)]) (fun k => [(b0, .cells 33 [.int .i64 0, .int .i64 0, .int .i64 0])]) (fun k => 1 ≤ k ∧ k ≤ y) (fun k => (y - k).toNat) (n / 366 + 1) (by omega) (fun k hy => ?_)
  by_cases hlt : k < y
  · have hm := ny_mono (a := k + 1) (b := y) (by omega)
    (repeat' (first | intro (b : Nat) | refine go ?_ | (refine br ?_ ?_ <;> first | exact trivial | intro hq)))
    (refine L.call (h := by intro W hW; exact b_years _ (by omega) (by omega) W hW.base) (k := ?_))
    (repeat' (first | intro (b : Nat) | refine go ?_ | (refine br ?_ ?_ <;> first | exact trivial | intro hq)))
    refine X.roundw (k + 1) (⟨by omega, by omega⟩) (by omega)
  · obtain rfl : y = k := by omega
    clear hlt
    (repeat' (first | intro (b : Nat) | refine go ?_ | (refine br ?_ ?_ <;> first | exact trivial | intro hq)))
    all_goals (try ((refine L.call (h := by intro W hW; with_reducible exact b_years (y + 1) (by omega) (by omega) W hW.base) (k := ?_)); (repeat' (first | intro (b : Nat) | refine go ?_ | (refine br ?_ ?_ <;> first | exact trivial | intro hq)))))
    all_goals (refine C.loopw (Y := Int) (fun k => [(0, .int .i64 n), (2, .pointer (some ⟨b0, 0, none⟩)), (4, .int .i64 y), (5, .int .i64 k)]) (fun k => [(b0, .cells 33 [.int .i64 0, .int .i64 0, .int .i64 0])]) (fun k => 1 ≤ k ∧ k ≤ m) (fun k => (m - k).toNat) 1 (by omega) (fun k hy => ?_))
    all_goals
      by_cases hkm : k < m
      · have hs := cum_step' (y := y) hy.1 hkm
        have hc := cum_bd y (k + 1) (by omega)
        (repeat' (first | intro (b : Nat) | refine go ?_ | (refine br ?_ ?_ <;> first | exact trivial | intro hq)))
        (refine L.call (h := by intro W hW; exact b_years y (by omega) (by omega) W hW.base) (k := ?_))
        (repeat (first | intro (b : Nat) | refine go ?_))
        (refine L.call (h := by intro W hW; exact b_months y (k + 1) (by omega) (by omega) W hW.base) (k := ?_))
        (repeat' (first | intro (b : Nat) | refine go ?_ | (refine br ?_ ?_ <;> first | exact trivial | intro hq)))
        refine X.roundw (k + 1) (⟨by omega, by omega⟩) (by omega)
      · obtain rfl : m = k := by omega
        have hs := cum_succ y m hy.1
        have hc := cum_bd y (m + 1) (by omega)
        by_cases h12 : m < 12
        · (repeat' (first | intro (b : Nat) | refine go ?_ | (refine br ?_ ?_ <;> first | exact trivial | intro hq)))
          (refine L.call (h := by intro W hW; exact b_years y (by omega) (by omega) W hW.base) (k := ?_))
          (repeat (first | intro (b : Nat) | refine go ?_))
          (refine L.call (h := by intro W hW; exact b_months y (m + 1) (by omega) (by omega) W hW.base) (k := ?_))
          (repeat' (first | intro (b : Nat) | refine go ?_ | (refine br ?_ ?_ <;> first | exact trivial | intro hq)))
          (refine L.call (h := by intro W hW; exact b_years y (by omega) (by omega) W hW.base) (k := ?_))
          (repeat (first | intro (b : Nat) | refine go ?_))
          (refine L.call (h := by intro W hW; exact b_months y m (by omega) (by omega) W hW.base) (k := ?_))
          (repeat (first | intro (b : Nat) | refine go ?_))
          (refine ret ?_; try exact rfl)
          ((try simp only [tupleOf, Value.agg.injEq, Value.tuple.injEq, List.toArray_inj, Array.mk.injEq, List.cons.injEq, Value.int.injEq, Value.bool.injEq, and_true, true_and]) <;> (try omega))
        · (repeat' (first | intro (b : Nat) | refine go ?_ | (refine br ?_ ?_ <;> first | exact trivial | intro hq)))
          (refine L.call (h := by intro W hW; exact b_years y (by omega) (by omega) W hW.base) (k := ?_))
          (repeat (first | intro (b : Nat) | refine go ?_))
          (refine L.call (h := by intro W hW; exact b_months y m (by omega) (by omega) W hW.base) (k := ?_))
          (repeat (first | intro (b : Nat) | refine go ?_))
          (refine ret ?_; try exact rfl)
          ((try simp only [tupleOf, Value.agg.injEq, Value.tuple.injEq, List.toArray_inj, Array.mk.injEq, List.cons.injEq, Value.int.injEq, Value.bool.injEq, and_true, true_and]) <;> (try omega))

theorem b_DateOf_no (n : Int) (h : inR n 0 3652058 = false) (w : World) (hb : D.Base w) : Calls Tryz.prog 165 #[.int .i64 n] w fun e w' => e = .returned (.tuple #[.agg #[.int .i64 0, .int .i64 0, .int .i64 0], .bool false]) ∧ Below w.heap.size w w' := by
  refine enter Tryz.func165 rfl Tryz.ntmps165 rfl (by assumption) ?_
  (repeat (first | intro (b : Nat) | refine go ?_))
  (refine L.call (h := by intro W hW; exact h ▸ b_in _ _ _ W hW.base) (k := ?_))
  (repeat (first | intro (b : Nat) | refine go ?_))
  (refine ret ?_; try exact rfl)

theorem b_DayPlus (y m d n y' m' d' : Int) (h : dval y m d = true) (h' : dval y' m' d' = true) (hn : num y m d + n = num y' m' d') (w : World) (hb : D.Base w) : Calls Tryz.prog 198 #[.agg #[.int .i64 y, .int .i64 m, .int .i64 d], .int .i64 n] w fun e w' => e = .returned (.tuple #[.agg #[.int .i64 y', .int .i64 m', .int .i64 d'], .bool true]) ∧ Below w.heap.size w w' := by
  have hb1 := num_bd h
  have hb2 := num_bd h'
  have hr : inR n (-3652058) 3652058 = true := inR_true.2 (by omega)
  have hq1 : dnum y m d = num y m d := if_pos h
  refine enter Tryz.func198 rfl Tryz.ntmps198 rfl (by assumption) ?_
  (repeat (first | intro (b : Nat) | refine go ?_))
  (refine L.call (h := by intro W hW; exact h ▸ b_DateValid _ _ _ W hW.base) (k := ?_))
  (repeat (first | intro (b : Nat) | refine go ?_))
  (refine L.call (h := by intro W hW; exact hr ▸ b_in _ _ _ W hW.base) (k := ?_))
  (repeat (first | intro (b : Nat) | refine go ?_))
  (refine L.call (h := by intro W hW; exact hq1 ▸ b_DayNumber _ _ _ W hW.base) (k := ?_))
  (repeat (first | intro (b : Nat) | refine go ?_))
  (refine L.call (h := by intro W hW; exact hn ▸ b_DateOf _ _ _ h' W hW.base) (k := ?_))
  (repeat (first | intro (b : Nat) | refine go ?_))
  (refine ret ?_; try exact rfl)

theorem b_DayPlus_no (y m d n : Int) (hno : ¬ (dval y m d = true ∧ inR n (-3652058) 3652058 = true ∧ inR (num y m d + n) 0 3652058 = true)) (w : World) (hb : D.Base w) : Calls Tryz.prog 198 #[.agg #[.int .i64 y, .int .i64 m, .int .i64 d], .int .i64 n] w fun e w' => e = .returned (.tuple #[.agg #[.int .i64 0, .int .i64 0, .int .i64 0], .bool false]) ∧ Below w.heap.size w w' := by
  by_cases h : dval y m d = true
  · have hb1 := num_bd h
    have hq1 : dnum y m d = num y m d := if_pos h
    by_cases hr : inR n (-3652058) 3652058 = true
    · have hrb := inR_true.1 hr
      have hz : inR (num y m d + n) 0 3652058 = false := by
        cases hq : inR (num y m d + n) 0 3652058 with
        | false => rfl
        | true => exact (hno ⟨h, hr, hq⟩).elim
      refine enter Tryz.func198 rfl Tryz.ntmps198 rfl (by assumption) ?_
      (repeat (first | intro (b : Nat) | refine go ?_))
      (refine L.call (h := by intro W hW; exact h ▸ b_DateValid _ _ _ W hW.base) (k := ?_))
      (repeat (first | intro (b : Nat) | refine go ?_))
      (refine L.call (h := by intro W hW; exact hr ▸ b_in _ _ _ W hW.base) (k := ?_))
      (repeat (first | intro (b : Nat) | refine go ?_))
      (refine L.call (h := by intro W hW; exact hq1 ▸ b_DayNumber _ _ _ W hW.base) (k := ?_))
      (repeat (first | intro (b : Nat) | refine go ?_))
      (refine L.call (h := by intro W hW; exact b_DateOf_no _ hz W hW.base) (k := ?_))
      (repeat (first | intro (b : Nat) | refine go ?_))
      (refine ret ?_; try exact rfl)
    · have hr : inR n (-3652058) 3652058 = false := by simpa using hr
      refine enter Tryz.func198 rfl Tryz.ntmps198 rfl (by assumption) ?_
      (repeat (first | intro (b : Nat) | refine go ?_))
      (refine L.call (h := by intro W hW; exact h ▸ b_DateValid _ _ _ W hW.base) (k := ?_))
      (repeat (first | intro (b : Nat) | refine go ?_))
      (refine L.call (h := by intro W hW; exact hr ▸ b_in _ _ _ W hW.base) (k := ?_))
      (repeat (first | intro (b : Nat) | refine go ?_))
      (refine ret ?_; try exact rfl)
  · have h : dval y m d = false := by simpa using h
    refine enter Tryz.func198 rfl Tryz.ntmps198 rfl (by assumption) ?_
    (repeat (first | intro (b : Nat) | refine go ?_))
    (refine L.call (h := by intro W hW; exact h ▸ b_DateValid _ _ _ W hW.base) (k := ?_))
    (repeat (first | intro (b : Nat) | refine go ?_))
    (refine ret ?_; try exact rfl)

/-- Some date, and a Bool. -/
def DateBool (v : Value) : Prop := ∃ y m d : Int, ∃ ok : Bool, v = .tuple #[.agg #[.int .i64 y, .int .i64 m, .int .i64 d], .bool ok]

/-- What a shift by days leaves, whatever it is. -/
theorem b_DayPlus_some (y m d n : Int) (w : World) (hb : D.Base w) : Calls Tryz.prog 198 #[.agg #[.int .i64 y, .int .i64 m, .int .i64 d], .int .i64 n] w (RetV w DateBool) := by
  by_cases hall : dval y m d = true ∧ inR n (-3652058) 3652058 = true ∧ inR (num y m d + n) 0 3652058 = true
  · have hrb := inR_true.1 hall.2.2
    obtain ⟨y', m', d', h', hn⟩ := date_ex hrb.1 hrb.2
    exact (b_DayPlus y m d n y' m' d' hall.1 h' hn.symm w hb).mono fun e w' ⟨he, hw⟩ => ⟨_, he, ⟨_, _, _, _, rfl⟩, hw⟩
  · exact (b_DayPlus_no y m d n hall w hb).mono fun e w' ⟨he, hw⟩ => ⟨_, he, ⟨_, _, _, _, rfl⟩, hw⟩

end D
end Go.Proofs.YtpgbmohocfcjpaaGreatDoor
