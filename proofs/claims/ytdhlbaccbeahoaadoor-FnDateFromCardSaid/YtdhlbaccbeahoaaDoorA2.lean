/- Walks: the date of a day; shifts by days and months. -/
import Derived.Test.YtdhlbaccbeahoaaDoorA1
namespace Go.Proofs.YtdhlbaccbeahoaaDoor
set_option linter.unusedVariables false
set_option linter.unusedSimpArgs false
set_option maxRecDepth 100000
set_option maxHeartbeats 1000000
namespace D
open Go.RowKit

theorem cum_step {y k m : Int} (h1 : 1 ≤ k) (h : k < m) : cum y k + md y k ≤ cum y m := by
  have := cum_succ y k h1
  have := cum_le y (a := k + 1) (b := m) (by omega) (by omega)
  omega

theorem year_guess {y m d : Int} (h : dval y m d = true) : num y m d / 366 + 1 ≤ y := by
  have hd := dval_bd h
  have hn := num_in h
  unfold ny at hn
  omega

theorem a_dateAt (y m d : Int) (h : dval y m d = true) (w : World) (hb : D.Base w) : Calls Tryd.prog 81 #[.int .i64 (num y m d)] w fun e w' => e = .returned (.agg #[.int .i64 y, .int .i64 m, .int .i64 d]) ∧ Below w.heap.size w w' := by
  have hd := dval_bd h
  have hn := num_in h
  have hb0 := num_bd h
  have hg := year_guess h
  have hnm : num y m d = ny y + cum y m + d - 1 := by unfold num ord; omega
  generalize num y m d = n at *
  have h1 := cum_one y
  have hcb := cum_bd y m (by omega)
  have hnb := ny_bd y (by omega) (by omega)
  refine enter Tryd.func81 rfl Tryd.ntmps81 rfl (by assumption) ?_
  (repeat (first | intro (b : Nat) | refine go ?_))
  revert b; intro b0
  refine C.loopw (Y := Int) (fun k => [(0, .int .i64 n), (2, .pointer (some ⟨b0, 0, none⟩)), (3, .int .i64 k)]) (fun k => [(b0, .cells 24 [.int .i64 0, .int .i64 0, .int .i64 0])]) (fun k => 1 ≤ k ∧ k ≤ y) (fun k => (y - k).toNat) (n / 366 + 1) (by omega) (fun k hy => ?_)
  by_cases hlt : k < y
  · have hm := ny_mono (a := k + 1) (b := y) (by omega)
    (repeat' (first | intro (b : Nat) | refine go ?_ | (refine br ?_ ?_ <;> first | exact trivial | intro hq)))
    (refine L.call (h := by intro W hW; exact a_newYear _ (by omega) (by omega) W hW.base) (k := ?_))
    (repeat' (first | intro (b : Nat) | refine go ?_ | (refine br ?_ ?_ <;> first | exact trivial | intro hq)))
    refine X.roundw (k + 1) (⟨by omega, by omega⟩) (by omega)
  · obtain rfl : y = k := by omega
    clear hlt
    have hmd := md_bd y m
    (repeat' (first | intro (b : Nat) | refine go ?_ | (refine br ?_ ?_ <;> first | exact trivial | intro hq)))
    all_goals (try ((refine L.call (h := by intro W hW; with_reducible exact a_newYear (y + 1) (by omega) (by omega) W hW.base) (k := ?_)); (repeat' (first | intro (b : Nat) | refine go ?_ | (refine br ?_ ?_ <;> first | exact trivial | intro hq)))))
    all_goals (refine L.call (h := by intro W hW; exact a_newYear y (by omega) (by omega) W hW.base) (k := ?_))
    all_goals (repeat (first | intro (b : Nat) | refine go ?_))
    all_goals (revert b; intro b1)
    all_goals (refine C.loopw (Y := Int) (fun k => [(2, .pointer (some ⟨b0, 0, none⟩)), (3, .int .i64 y), (4, .pointer (some ⟨b1, 0, none⟩))]) (fun k => [(b1, .cells 24 [.int .i64 y, .int .i64 k, .int .i64 (d + cum y m - cum y k)]), (b0, .cells 24 [.int .i64 0, .int .i64 0, .int .i64 0])]) (fun k => 1 ≤ k ∧ k ≤ m) (fun k => (m - k).toNat) 1 (by omega) (fun k hy => ?_))
    all_goals
      have hs := cum_succ y k hy.1
      have hc := cum_bd y k (by omega)
      have hmk := md_bd y k
      ((repeat (refine C.seq ?_)); apply C.draww 7 [none, some _, none, none, some _, some _, none])
      (repeat (first | intro (b : Nat) | refine gg ?_))
      (refine G.call (h := by intro W hW; exact a_MonthDays _ _ W hW.base) (k := ?_))
      (repeat (first | intro (b : Nat) | refine gg ?_))
      (repeat' (first | intro (b : Nat) | refine go ?_ | (refine br ?_ ?_ <;> first | exact trivial | intro hq)))
      · have hk : k < m := by
          refine Int.lt_of_not_ge fun hge => ?_
          obtain rfl : m = k := by omega
          omega
        ((repeat (refine C.seq ?_)); apply C.draww 8 [none, some _, none, none, some _, some _, none, none])
        (repeat (first | intro (b : Nat) | refine gg ?_))
        (refine G.call (h := by intro W hW; exact a_MonthDays _ _ W hW.base) (k := ?_))
        (repeat (first | intro (b : Nat) | refine gg ?_))
        (repeat (first | intro (b : Nat) | refine go ?_))
        refine X.roundw (k + 1) (⟨by omega, by omega⟩) (by omega)
      · have hk : k = m := by
          refine Classical.byContradiction fun hne => ?_
          have := cum_step (y := y) (k := k) (m := m) (by omega) (by omega)
          omega
        subst hk
        (refine ret ?_; try exact rfl)
        ((try simp only [tupleOf, Value.agg.injEq, Value.tuple.injEq, List.toArray_inj, Array.mk.injEq, List.cons.injEq, Value.int.injEq, Value.bool.injEq, and_true, true_and]) <;> (try omega))

theorem a_DateOf (y m d : Int) (h : dval y m d = true) (w : World) (hb : D.Base w) : Calls Tryd.prog 83 #[.int .i64 (num y m d)] w fun e w' => e = .returned (.tuple #[.agg #[.int .i64 y, .int .i64 m, .int .i64 d], .bool true]) ∧ Below w.heap.size w w' := by
  have hr : inR (num y m d) 0 3652058 = true := inR_true.2 (num_bd h)
  refine enter Tryd.func83 rfl Tryd.ntmps83 rfl (by assumption) ?_
  (repeat (first | intro (b : Nat) | refine go ?_))
  (refine L.call (h := by intro W hW; exact hr ▸ a_within _ _ _ W hW.base) (k := ?_))
  (repeat (first | intro (b : Nat) | refine go ?_))
  (refine L.call (h := by intro W hW; exact a_dateAt _ _ _ h W hW.base) (k := ?_))
  (repeat (first | intro (b : Nat) | refine go ?_))
  (refine ret ?_; try exact rfl)

theorem a_DateOf_no (n : Int) (h : inR n 0 3652058 = false) (w : World) (hb : D.Base w) : Calls Tryd.prog 83 #[.int .i64 n] w fun e w' => e = .returned (.tuple #[.agg #[.int .i64 0, .int .i64 0, .int .i64 0], .bool false]) ∧ Below w.heap.size w w' := by
  refine enter Tryd.func83 rfl Tryd.ntmps83 rfl (by assumption) ?_
  (repeat (first | intro (b : Nat) | refine go ?_))
  (refine L.call (h := by intro W hW; exact h ▸ a_within _ _ _ W hW.base) (k := ?_))
  (repeat (first | intro (b : Nat) | refine go ?_))
  (refine ret ?_; try exact rfl)

end D
end Go.Proofs.YtdhlbaccbeahoaaDoor
