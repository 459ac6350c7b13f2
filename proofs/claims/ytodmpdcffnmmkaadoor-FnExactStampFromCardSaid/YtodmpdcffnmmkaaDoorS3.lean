/- Walks: the date of a day and shifts by days, in the reference. -/
import Derived.Test.YtodmpdcffnmmkaaDoorS1
import Derived.Test.YtodmpdcffnmmkaaDoorPL
namespace Go.Proofs.YtodmpdcffnmmkaaDoor
set_option linter.unusedVariables false
set_option linter.unusedSimpArgs false
set_option maxRecDepth 100000
set_option maxHeartbeats 1000000
namespace D
open Go.RowKit

theorem cum_step' {y k m : Int} (h1 : 1 ≤ k) (h : k < m) : cum y (k + 1) ≤ cum y m := cum_le y (a := k + 1) (b := m) (by omega) (by omega)

theorem year_guess' {y m d : Int} (h : dval y m d = true) : num y m d / 366 + 1 ≤ y := by
  have hd := dval_bd h
  have hn := num_in h
  unfold ny at hn
  omega

theorem b_DateOf (y m d : Int) (h : dval y m d = true) (w : World) (hb : D.Base w) : Calls Tryd.prog 52 #[.int .i64 (num y m d)] w fun e w' => e = .returned (.tuple #[.agg #[.int .i64 y, .int .i64 m, .int .i64 d], .bool true]) ∧ Below w.heap.size w w' := by
  have hd := dval_bd h
  have hn := num_in h
  have hb0 := num_bd h
  have hr : inR (num y m d) 0 3652058 = true := inR_true.2 hb0
  have hg := year_guess' h
  have hnm : num y m d = ny y + cum y m + d - 1 := by unfold num ord; omega
  generalize num y m d = n at *
  have h1 := cum_one y
  have hcb := cum_bd y m (by omega)
  have hnb := ny_bd y (by omega) (by omega)
  have hmd := md_bd y m
  refine enter Tryd.func52 rfl Tryd.ntmps52 rfl (by assumption) ?_
  (repeat (first | intro (b : Nat) | refine go ?_))
  (refine L.call (h := by intro W hW; exact hr ▸ b_in _ _ _ W hW.base) (k := ?_))
  (repeat (first | intro (b : Nat) | refine go ?_))
  revert b; intro b0
  refine C.loopw (Y := Int) (fun k => [(0, .int .i64 n), (2, .pointer (some ⟨b0, 0, none⟩)), (4, .int .i64 k)]) (fun k => [(b0, .cells 23 [.int .i64 0, .int .i64 0, .int .i64 0])]) (fun k => 1 ≤ k ∧ k ≤ y) (fun k => (y - k).toNat) (n / 366 + 1) (by omega) (fun k hy => ?_)
  by_cases hlt : k < y
  · have hm := ny_mono (a := k + 1) (b := y) (by omega)
    (repeat' (first | intro (b : Nat) | refine go ?_ | (refine br ?_ ?_ <;> first | exact trivial | intro hq)))
    (refine L.call (h := by intro W hW; exact b_years _ (by omega) (by omega) W hW.base) (k := ?_))
    (repeat' (first | intro (b : Nat) | refine go ?_ | (refine br ?_ ?_ <;> first | exact trivial | intro hq)))
    refine X.roundw (k + 1) (⟨by omega, by omega⟩) (by omega)
  · obtain rfl : y = k := by omega
    clear hlt
    (repeat' (first | intro (b : Nat) | refine go ?_ | (refine br ?_ ?_ <;> first | exact trivial | intro hq)))
    all_goals (try ((refine L.call (h := by intro W hW; with_reducible exact b_years (y + 1) (by omega) (by omega) W hW.base) (k := ?_)); (repeat' (first | intro (b : Nat) | refine go ?_ | (refine br ?_ ?_ <;> first | exact trivial | intro hq)))))
    all_goals (refine C.loopw (Y := Int) (fun k => [(0, .int .i64 n), (2, .pointer (some ⟨b0, 0, none⟩)), (4, .int .i64 y), (5, .int .i64 k)]) (fun k => [(b0, .cells 23 [.int .i64 0, .int .i64 0, .int .i64 0])]) (fun k => 1 ≤ k ∧ k ≤ m) (fun k => (m - k).toNat) 1 (by omega) (fun k hy => ?_))
    all_goals
      by_cases hkm : k < m
      · have hs := cum_step' (y := y) hy.1 hkm
        have hc := cum_bd y (k + 1) (by omega)
        (repeat' (first | intro (b : Nat) | refine go ?_ | (refine br ?_ ?_ <;> first | exact trivial | intro hq)))
        (refine L.call (h := by intro W hW; exact b_years y (by omega) (by omega) W hW.base) (k := ?_))
        (repeat (first | intro (b : Nat) | refine go ?_))
        (refine L.call (h := by intro W hW; exact b_months y (k + 1) (by omega) (by omega) W hW.base) (k := ?_))
        (repeat' (first | intro (b : Nat) | refine go ?_ | (refine br ?_ ?_ <;> first | exact trivial | intro hq)))
        refine X.roundw (k + 1) (⟨by omega, by omega⟩) (by omega)
      · obtain rfl : m = k := by omega
        have hs := cum_succ y m hy.1
        have hc := cum_bd y (m + 1) (by omega)
        by_cases h12 : m < 12
        · (repeat' (first | intro (b : Nat) | refine go ?_ | (refine br ?_ ?_ <;> first | exact trivial | intro hq)))
          (refine L.call (h := by intro W hW; exact b_years y (by omega) (by omega) W hW.base) (k := ?_))
          (repeat (first | intro (b : Nat) | refine go ?_))
          (refine L.call (h := by intro W hW; exact b_months y (m + 1) (by omega) (by omega) W hW.base) (k := ?_))
          (repeat' (first | intro (b : Nat) | refine go ?_ | (refine br ?_ ?_ <;> first | exact trivial | intro hq)))
          (refine L.call (h := by intro W hW; exact b_years y (by omega) (by omega) W hW.base) (k := ?_))
          (repeat (first | intro (b : Nat) | refine go ?_))
          (refine L.call (h := by intro W hW; exact b_months y m (by omega) (by omega) W hW.base) (k := ?_))
          (repeat (first | intro (b : Nat) | refine go ?_))
          (refine ret ?_; try exact rfl)
          ((try simp only [tupleOf, Value.agg.injEq, Value.tuple.injEq, List.toArray_inj, Array.mk.injEq, List.cons.injEq, Value.int.injEq, Value.bool.injEq, and_true, true_and]) <;> (try omega))
        · (repeat' (first | intro (b : Nat) | refine go ?_ | (refine br ?_ ?_ <;> first | exact trivial | intro hq)))
          (refine L.call (h := by intro W hW; exact b_years y (by omega) (by omega) W hW.base) (k := ?_))
          (repeat (first | intro (b : Nat) | refine go ?_))
          (refine L.call (h := by intro W hW; exact b_months y m (by omega) (by omega) W hW.base) (k := ?_))
          (repeat (first | intro (b : Nat) | refine go ?_))
          (refine ret ?_; try exact rfl)
          ((try simp only [tupleOf, Value.agg.injEq, Value.tuple.injEq, List.toArray_inj, Array.mk.injEq, List.cons.injEq, Value.int.injEq, Value.bool.injEq, and_true, true_and]) <;> (try omega))

theorem b_DateOf_no (n : Int) (h : inR n 0 3652058 = false) (w : World) (hb : D.Base w) : Calls Tryd.prog 52 #[.int .i64 n] w fun e w' => e = .returned (.tuple #[.agg #[.int .i64 0, .int .i64 0, .int .i64 0], .bool false]) ∧ Below w.heap.size w w' := by
  refine enter Tryd.func52 rfl Tryd.ntmps52 rfl (by assumption) ?_
  (repeat (first | intro (b : Nat) | refine go ?_))
  (refine L.call (h := by intro W hW; exact h ▸ b_in _ _ _ W hW.base) (k := ?_))
  (repeat (first | intro (b : Nat) | refine go ?_))
  (refine ret ?_; try exact rfl)

/-- Some date, and a Bool. -/
def DateBool (v : Value) : Prop := ∃ y m d : Int, ∃ ok : Bool, v = .tuple #[.agg #[.int .i64 y, .int .i64 m, .int .i64 d], .bool ok]

end D
end Go.Proofs.YtodmpdcffnmmkaaDoor
