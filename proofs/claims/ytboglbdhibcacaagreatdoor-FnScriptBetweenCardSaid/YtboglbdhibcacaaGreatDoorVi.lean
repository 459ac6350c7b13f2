/- Walks: days of the reference. -/
import Derived.Test.YtboglbdhibcacaaGreatDoorVf
import Derived.Test.YtboglbdhibcacaaGreatDoorVg
namespace Go.Proofs.YtboglbdhibcacaaGreatDoor
set_option linter.unusedVariables false
set_option linter.unusedSimpArgs false
set_option maxRecDepth 100000
set_option maxHeartbeats 1000000
namespace D
open Go.RowKit

theorem b_in (n lo hi : Int) (w : World) (hb : D.Base w) : Calls Tryz.prog 125 #[.int .i64 n, .int .i64 lo, .int .i64 hi] w fun e w' => e = .returned (.bool (inR n lo hi)) ∧ Below w.heap.size w w' := by
  refine enter Tryz.func125 rfl Tryz.ntmps125 rfl (by assumption) ?_
  (repeat' (first | intro (b : Nat) | refine go ?_ | (refine br ?_ ?_ <;> first | exact trivial | intro hq)))
  all_goals (refine ret ?_; try exact rfl)
  all_goals (simp [tupleOf, inR] <;> omega)

theorem b_LeapYear (y : Int) (w : World) (hb : D.Base w) : Calls Tryz.prog 195 #[.int .i64 y] w fun e w' => e = .returned (.bool (leap y)) ∧ Below w.heap.size w w' := by
  by_cases hy : 1 ≤ y ∧ y ≤ 9999
  · have hr : inR y 1 9999 = true := inR_true.2 hy
    refine enter Tryz.func195 rfl Tryz.ntmps195 rfl (by assumption) ?_
    (repeat (first | intro (b : Nat) | refine go ?_))
    (refine L.call (h := by intro W hW; exact hr ▸ b_in _ _ _ W hW.base) (k := ?_))
    (repeat' (first | intro (b : Nat) | refine go ?_ | (refine br ?_ ?_ <;> first | exact trivial | intro hq)))
    all_goals (refine ret ?_; try exact rfl)
    all_goals (simp [tupleOf, leap, hr, *] <;> (try rw [Bool.eq_iff_iff]; simp))
  · have hr : inR y 1 9999 = false := inR_false.2 hy
    refine enter Tryz.func195 rfl Tryz.ntmps195 rfl (by assumption) ?_
    (repeat (first | intro (b : Nat) | refine go ?_))
    (refine L.call (h := by intro W hW; exact hr ▸ b_in _ _ _ W hW.base) (k := ?_))
    (repeat' (first | intro (b : Nat) | refine go ?_ | (refine br ?_ ?_ <;> first | exact trivial | intro hq)))
    all_goals (refine ret ?_; try exact rfl)
    all_goals (simp [tupleOf, leap, hr])

theorem tab_get (i : Nat) (h : i < 12) : ([.int .i64 31, .int .i64 28, .int .i64 31, .int .i64 30, .int .i64 31, .int .i64 30, .int .i64 31, .int .i64 31, .int .i64 30, .int .i64 31, .int .i64 30, .int .i64 31] : List Value)[i]? = some (.int .i64 (mdTab.getD i 0)) := by
  show (mdTab.map (Value.int .i64))[i]? = _
  have : i < mdTab.length := h
  simp [List.getD, this]

theorem b_MonthDays (y m : Int) (w : World) (hb : D.Base w) : Calls Tryz.prog 143 #[.int .i64 y, .int .i64 m] w fun e w' => e = .returned (.int .i64 (md y m)) ∧ Below w.heap.size w w' := by
  by_cases hy : inR y 1 9999 = true
  · by_cases hm : inR m 1 12 = true
    · have hmb := inR_true.1 hm
      by_cases h2 : m = 2
      · subst h2
        by_cases hl : leap y = true
        · refine enter Tryz.func143 rfl Tryz.ntmps143 rfl (by assumption) ?_
          (repeat (first | intro (b : Nat) | refine go ?_))
          (refine L.call (h := by intro W hW; exact hy ▸ b_in _ _ _ W hW.base) (k := ?_))
          (repeat (first | intro (b : Nat) | refine go ?_))
          (refine L.call (h := by intro W hW; exact hm ▸ b_in _ _ _ W hW.base) (k := ?_))
          (repeat (first | intro (b : Nat) | refine go ?_))
          (repeat' (first | intro (b : Nat) | refine go ?_ | (refine br ?_ ?_ <;> first | exact trivial | intro hq)))
          (refine L.call (h := by intro W hW; exact hl ▸ b_LeapYear _ W hW.base) (k := ?_))
          (repeat (first | intro (b : Nat) | refine go ?_))
          (refine ret ?_; try exact rfl)
          simp [tupleOf, md, hy, hm, hl, mdTab]
        · have hl : leap y = false := by simpa using hl
          refine enter Tryz.func143 rfl Tryz.ntmps143 rfl (by assumption) ?_
          (repeat (first | intro (b : Nat) | refine go ?_))
          (refine L.call (h := by intro W hW; exact hy ▸ b_in _ _ _ W hW.base) (k := ?_))
          (repeat (first | intro (b : Nat) | refine go ?_))
          (refine L.call (h := by intro W hW; exact hm ▸ b_in _ _ _ W hW.base) (k := ?_))
          (repeat (first | intro (b : Nat) | refine go ?_))
          (repeat' (first | intro (b : Nat) | refine go ?_ | (refine br ?_ ?_ <;> first | exact trivial | intro hq)))
          (refine L.call (h := by intro W hW; exact hl ▸ b_LeapYear _ W hW.base) (k := ?_))
          (repeat (first | intro (b : Nat) | refine go ?_))
          (refine ret ?_; try exact rfl)
          simp [tupleOf, md, hy, hm, hl, mdTab]
      · refine enter Tryz.func143 rfl Tryz.ntmps143 rfl (by assumption) ?_
        (repeat (first | intro (b : Nat) | refine go ?_))
        (refine L.call (h := by intro W hW; exact hy ▸ b_in _ _ _ W hW.base) (k := ?_))
        (repeat (first | intro (b : Nat) | refine go ?_))
        (refine L.call (h := by intro W hW; exact hm ▸ b_in _ _ _ W hW.base) (k := ?_))
        (repeat' (first | intro (b : Nat) | refine go ?_ | (refine br ?_ ?_ <;> first | exact trivial | intro hq)))
        (apply L.v; (· exact rfl); (· exact rfl); (· apply OV.loadi; (· exact rfl); (· (repeat (first | exact List.Mem.head _ | apply List.Mem.tail))); (· rw [Nat.zero_add, Nat.mul_one]; exact tab_get _ (by omega))))
        (repeat (first | intro (b : Nat) | refine go ?_))
        (refine ret ?_; try exact rfl)
        simp [tupleOf, md, hy, hm, h2]
    · have hm : inR m 1 12 = false := by simpa using hm
      refine enter Tryz.func143 rfl Tryz.ntmps143 rfl (by assumption) ?_
      (repeat (first | intro (b : Nat) | refine go ?_))
      (refine L.call (h := by intro W hW; exact hy ▸ b_in _ _ _ W hW.base) (k := ?_))
      (repeat (first | intro (b : Nat) | refine go ?_))
      (refine L.call (h := by intro W hW; exact hm ▸ b_in _ _ _ W hW.base) (k := ?_))
      (repeat (first | intro (b : Nat) | refine go ?_))
      (refine ret ?_; try exact rfl)
      simp [tupleOf, md, hm]
  · have hy : inR y 1 9999 = false := by simpa using hy
    refine enter Tryz.func143 rfl Tryz.ntmps143 rfl (by assumption) ?_
    (repeat (first | intro (b : Nat) | refine go ?_))
    (refine L.call (h := by intro W hW; exact hy ▸ b_in _ _ _ W hW.base) (k := ?_))
    (repeat (first | intro (b : Nat) | refine go ?_))
    (refine ret ?_; try exact rfl)
    simp [tupleOf, md, hy]

theorem b_DateValid (y m d : Int) (w : World) (hb : D.Base w) : Calls Tryz.prog 84 #[.agg #[.int .i64 y, .int .i64 m, .int .i64 d]] w fun e w' => e = .returned (.bool (dval y m d)) ∧ Below w.heap.size w w' := by
  refine enter Tryz.func84 rfl Tryz.ntmps84 rfl (by assumption) ?_
  (repeat (first | intro (b : Nat) | refine go ?_))
  ((repeat (refine C.seq ?_)); apply C.draww 9 [none, some _, none, some _, none, some _, some _, some _, none])
  (repeat (first | intro (b : Nat) | refine gg ?_))
  (refine G.call (h := by intro W hW; exact b_MonthDays _ _ W hW.base) (k := ?_))
  (repeat (first | intro (b : Nat) | refine gg ?_))
  (refine G.call (h := by intro W hW; exact b_in _ _ _ W hW.base) (k := ?_))
  (repeat (first | intro (b : Nat) | refine gg ?_))
  (repeat (first | intro (b : Nat) | refine go ?_))
  (refine ret ?_; try exact rfl)

theorem b_years (y : Int) (h1 : 1 ≤ y) (h2 : y ≤ 10000) (w : World) (hb : D.Base w) : Calls Tryz.prog 194 #[.int .i64 y] w fun e w' => e = .returned (.int .i64 (ny y)) ∧ Below w.heap.size w w' := by
  refine enter Tryz.func194 rfl Tryz.ntmps194 rfl (by assumption) ?_
  (repeat (first | intro (b : Nat) | refine go ?_))
  (refine ret ?_; try exact rfl)

theorem b_months (y m : Int) (h1 : 1 ≤ m) (h2 : m ≤ 13) (w : World) (hb : D.Base w) : Calls Tryz.prog 146 #[.int .i64 y, .int .i64 m] w fun e w' => e = .returned (.int .i64 (cum y m)) ∧ Below w.heap.size w w' := by
  have h0 := cum_one y
  refine enter Tryz.func146 rfl Tryz.ntmps146 rfl (by assumption) ?_
  (repeat (first | intro (b : Nat) | refine go ?_))
  refine C.loopw (Y := Int) (fun k => [(0, .int .i64 y), (1, .int .i64 m), (5, .int .i64 (cum y k)), (6, .int .i64 k)]) (fun k => []) (fun k => 1 ≤ k ∧ k ≤ m) (fun k => (m - k).toNat) 1 (by omega) (fun k hy => ?_)
  have hc := cum_bd y k (by omega)
  have hs := cum_succ y k hy.1
  have hmd := md_bd y k
  (repeat' (first | intro (b : Nat) | refine go ?_ | (refine br ?_ ?_ <;> first | exact trivial | intro hq)))
  · (refine L.call (h := by intro W hW; exact b_MonthDays _ _ W hW.base) (k := ?_))
    (repeat (first | intro (b : Nat) | refine go ?_))
    refine X.roundw (k + 1) (⟨by omega, by omega⟩) (by omega)
  · (refine ret ?_; try exact rfl)
    have : k = m := by omega
    rw [this]; rfl

theorem b_DayNumber (y m d : Int) (w : World) (hb : D.Base w) : Calls Tryz.prog 139 #[.agg #[.int .i64 y, .int .i64 m, .int .i64 d]] w fun e w' => e = .returned (.int .i64 (dnum y m d)) ∧ Below w.heap.size w w' := by
  by_cases h : dval y m d = true
  · have hd := dval_bd h
    have hn := ny_bd y (by omega) (by omega)
    have hc := cum_bd y m (by omega)
    refine enter Tryz.func139 rfl Tryz.ntmps139 rfl (by assumption) ?_
    (repeat (first | intro (b : Nat) | refine go ?_))
    (refine L.call (h := by intro W hW; exact h ▸ b_DateValid _ _ _ W hW.base) (k := ?_))
    (repeat (first | intro (b : Nat) | refine go ?_))
    ((repeat (refine C.seq ?_)); apply C.draww 14 [none, some _, some _, none, some _, none, some _, some _, none, none, some _, none, none, none])
    (repeat (first | intro (b : Nat) | refine gg ?_))
    (refine G.call (h := by intro W hW; exact b_years _ (by omega) (by omega) W hW.base) (k := ?_))
    (repeat (first | intro (b : Nat) | refine gg ?_))
    (refine G.call (h := by intro W hW; exact b_months _ _ (by omega) (by omega) W hW.base) (k := ?_))
    (repeat (first | intro (b : Nat) | refine gg ?_))
    (repeat (first | intro (b : Nat) | refine go ?_))
    (refine ret ?_; try exact rfl)
    rw [dnum, if_pos h]
    unfold num ord
    ((try simp only [tupleOf, Value.agg.injEq, Value.tuple.injEq, List.toArray_inj, Array.mk.injEq, List.cons.injEq, Value.int.injEq, Value.bool.injEq, and_true, true_and]) <;> (try omega))
  · have h : dval y m d = false := by simpa using h
    refine enter Tryz.func139 rfl Tryz.ntmps139 rfl (by assumption) ?_
    (repeat (first | intro (b : Nat) | refine go ?_))
    (refine L.call (h := by intro W hW; exact h ▸ b_DateValid _ _ _ W hW.base) (k := ?_))
    (repeat (first | intro (b : Nat) | refine go ?_))
    (refine ret ?_; try exact rfl)
    simp [tupleOf, dnum, h]

end D
end Go.Proofs.YtboglbdhibcacaaGreatDoor

namespace Go.Proofs.YtboglbdhibcacaaGreatDoor
set_option linter.unusedVariables false
set_option linter.unusedSimpArgs false
set_option maxRecDepth 100000
set_option maxHeartbeats 1000000
namespace D
open Go.RowKit

theorem b_MonthPlus (y m d n : Int) (w : World) (hb : D.Base w) : Calls Tryz.prog 141 #[.agg #[.int .i64 y, .int .i64 m, .int .i64 d], .int .i64 n] w fun e w' => e = .returned (drV (mplus y m d n)) ∧ Below w.heap.size w w' := by
  by_cases h : dval y m d = true
  · have hd := dval_bd h
    by_cases hr : inR n (-119988) 119988 = true
    · have hrb := inR_true.1 hr
      by_cases hin : inR (12 * y + m - 1 + n) 12 119999 = true
      · have hib := inR_true.1 hin
        rw [mplus_ok h hib.1 hib.2]
        refine enter Tryz.func141 rfl Tryz.ntmps141 rfl (by assumption) ?_
        (repeat (first | intro (b : Nat) | refine go ?_))
        (refine L.call (h := by intro W hW; exact h ▸ b_DateValid _ _ _ W hW.base) (k := ?_))
        (repeat (first | intro (b : Nat) | refine go ?_))
        (refine L.call (h := by intro W hW; exact hr ▸ b_in _ _ _ W hW.base) (k := ?_))
        (repeat (first | intro (b : Nat) | refine go ?_))
        (refine L.call (h := by intro W hW; exact hin ▸ b_in _ _ _ W hW.base) (k := ?_))
        (repeat (first | intro (b : Nat) | refine go ?_))
        ((repeat (refine C.seq ?_)); apply C.draww 9 [none, some _, none, some _, none, some _, some _, none, none])
        (repeat (first | intro (b : Nat) | refine gg ?_))
        (refine G.call (h := by intro W hW; exact b_MonthDays _ _ W hW.base) (k := ?_))
        (repeat (first | intro (b : Nat) | refine gg ?_))
        (repeat (first | intro (b : Nat) | refine go ?_))
        (refine ret ?_; try exact rfl)
      · have hin : inR (12 * y + m - 1 + n) 12 119999 = false := by simpa using hin
        have hib := inR_false.1 hin
        rw [mplus_out (by unfold mpT; omega)]
        refine enter Tryz.func141 rfl Tryz.ntmps141 rfl (by assumption) ?_
        (repeat (first | intro (b : Nat) | refine go ?_))
        (refine L.call (h := by intro W hW; exact h ▸ b_DateValid _ _ _ W hW.base) (k := ?_))
        (repeat (first | intro (b : Nat) | refine go ?_))
        (refine L.call (h := by intro W hW; exact hr ▸ b_in _ _ _ W hW.base) (k := ?_))
        (repeat (first | intro (b : Nat) | refine go ?_))
        (refine L.call (h := by intro W hW; exact hin ▸ b_in _ _ _ W hW.base) (k := ?_))
        (repeat (first | intro (b : Nat) | refine go ?_))
        (refine ret ?_; try exact rfl)
    · have hr : inR n (-119988) 119988 = false := by simpa using hr
      rw [mplus_range hr]
      refine enter Tryz.func141 rfl Tryz.ntmps141 rfl (by assumption) ?_
      (repeat (first | intro (b : Nat) | refine go ?_))
      (refine L.call (h := by intro W hW; exact h ▸ b_DateValid _ _ _ W hW.base) (k := ?_))
      (repeat (first | intro (b : Nat) | refine go ?_))
      (refine L.call (h := by intro W hW; exact hr ▸ b_in _ _ _ W hW.base) (k := ?_))
      (repeat (first | intro (b : Nat) | refine go ?_))
      (refine ret ?_; try exact rfl)
  · have h : dval y m d = false := by simpa using h
    rw [mplus_invalid h]
    refine enter Tryz.func141 rfl Tryz.ntmps141 rfl (by assumption) ?_
    (repeat (first | intro (b : Nat) | refine go ?_))
    (refine L.call (h := by intro W hW; exact h ▸ b_DateValid _ _ _ W hW.base) (k := ?_))
    (repeat (first | intro (b : Nat) | refine go ?_))
    (refine ret ?_; try exact rfl)

end D
end Go.Proofs.YtboglbdhibcacaaGreatDoor

namespace Go.Proofs.YtboglbdhibcacaaGreatDoor
set_option linter.unusedVariables false
set_option linter.unusedSimpArgs false
set_option maxRecDepth 100000
set_option maxHeartbeats 1000000
namespace D
open Go.RowKit
open Go.PlainAid (bt bt_nonneg bt_le bt_end)
attribute [local irreducible] Calls

theorem b_dec1 (n : Int) (h : 0 ≤ n ∧ n ≤ 9) (w : World) (hb : D.Base w) : Calls Tryz.prog 27 #[.int .i64 n] w fun e w' => e = .returned (.string (strOfNums [48 + n])) ∧ Below w.heap.size w w' := by
  refine enter Tryz.func27 rfl Tryz.ntmps27 rfl (by assumption) ?_
  (repeat' (first | intro (b : Nat) | refine go ?_ | (refine br ?_ ?_ <;> first | exact trivial | intro hq) | refine gg ?_ | (apply C.draww (id := 7) 11 [none, none, some _, none, none, none, none, some _, some _, none, none])))
  (refine ret ?_; try exact rfl)

theorem b_Power (n : Nat) (h : n ≤ 6) (w : World) (hb : D.Base w) : Calls Tryz.prog 144 #[.int .i64 (n : Int)] w fun e w' => e = .returned (.int .i64 (p10 n)) ∧ Below w.heap.size w w' := by
  rcases (by omega : n = 0 ∨ n = 1 ∨ n = 2 ∨ n = 3 ∨ n = 4 ∨ n = 5 ∨ n = 6) with rfl | rfl | rfl | rfl | rfl | rfl | rfl
  all_goals
    refine enter Tryz.func144 rfl Tryz.ntmps144 rfl (by assumption) ?_
    (repeat (first | intro (b : Nat) | refine go ?_))
    refine C.rounds 8 ?_
    (repeat' (first | intro (b : Nat) | refine go ?_ | (refine br ?_ ?_ <;> first | exact trivial | intro hq)))
    (refine ret ?_; try exact rfl)

theorem b_Pow (k : Int) (m : Nat) (hk : k = (m : Int)) (h : m ≤ 6) (v : Int) (hv : p10 m = v) (w : World) (hb : D.Base w) : Calls Tryz.prog 144 #[.int .i64 k] w fun e w' => e = .returned (.int .i64 v) ∧ Below w.heap.size w w' := by
  subst hk
  subst hv
  exact b_Power m h w hb

theorem b_Put1 (n : Int) (h : 0 ≤ n ∧ n ≤ 1000000000) (w : World) (hb : D.Base w) : Calls Tryz.prog 86 #[.int .i64 n, .int .i64 1] w fun e w' => e = .returned (.string (strOfNums (digL n 1))) ∧ Below w.heap.size w w' := by
  refine enter Tryz.func86 rfl Tryz.ntmps86 rfl (by assumption) ?_
  (repeat (first | intro (b : Nat) | refine go ?_))
  refine C.rounds 6 ?_
  (repeat' (first | intro (b : Nat) | refine go ?_ | (refine br ?_ ?_ <;> first | exact trivial | intro hq) | refine L.call (h := by intro W hW; first | apply b_Pow _ 0 (by omega) (by omega) 1 rfl W hW.base | apply b_dec1 _ (by omega) W hW.base) (k := ?_)))
  (refine ret ?_)
  refine congrArg Value.string ?_
  rw [show (⟨#[]⟩ : ByteArray) = strOfNums [] from rfl]
  simp only [strOfNums_append]
  refine congrArg strOfNums ?_
  simp only [digL, List.nil_append, List.cons_append, List.cons.injEq, and_true, true_and]
  omega

theorem b_Put2 (n : Int) (h : 0 ≤ n ∧ n ≤ 1000000000) (w : World) (hb : D.Base w) : Calls Tryz.prog 86 #[.int .i64 n, .int .i64 2] w fun e w' => e = .returned (.string (strOfNums (digL n 2))) ∧ Below w.heap.size w w' := by
  refine enter Tryz.func86 rfl Tryz.ntmps86 rfl (by assumption) ?_
  (repeat (first | intro (b : Nat) | refine go ?_))
  refine C.rounds 6 ?_
  (repeat' (first | intro (b : Nat) | refine go ?_ | (refine br ?_ ?_ <;> first | exact trivial | intro hq) | refine L.call (h := by intro W hW; first | apply b_Pow _ 1 (by omega) (by omega) 10 rfl W hW.base | apply b_Pow _ 0 (by omega) (by omega) 1 rfl W hW.base | apply b_dec1 _ (by omega) W hW.base) (k := ?_)))
  (refine ret ?_)
  refine congrArg Value.string ?_
  rw [show (⟨#[]⟩ : ByteArray) = strOfNums [] from rfl]
  simp only [strOfNums_append]
  refine congrArg strOfNums ?_
  simp only [digL, List.nil_append, List.cons_append, List.cons.injEq, and_true, true_and]
  omega

theorem b_Put3 (n : Int) (h : 0 ≤ n ∧ n ≤ 1000000000) (w : World) (hb : D.Base w) : Calls Tryz.prog 86 #[.int .i64 n, .int .i64 3] w fun e w' => e = .returned (.string (strOfNums (digL n 3))) ∧ Below w.heap.size w w' := by
  refine enter Tryz.func86 rfl Tryz.ntmps86 rfl (by assumption) ?_
  (repeat (first | intro (b : Nat) | refine go ?_))
  refine C.rounds 6 ?_
  (repeat' (first | intro (b : Nat) | refine go ?_ | (refine br ?_ ?_ <;> first | exact trivial | intro hq) | refine L.call (h := by intro W hW; first | apply b_Pow _ 2 (by omega) (by omega) 100 rfl W hW.base | apply b_Pow _ 1 (by omega) (by omega) 10 rfl W hW.base | apply b_Pow _ 0 (by omega) (by omega) 1 rfl W hW.base | apply b_dec1 _ (by omega) W hW.base) (k := ?_)))
  (refine ret ?_)
  refine congrArg Value.string ?_
  rw [show (⟨#[]⟩ : ByteArray) = strOfNums [] from rfl]
  simp only [strOfNums_append]
  refine congrArg strOfNums ?_
  simp only [digL, List.nil_append, List.cons_append, List.cons.injEq, and_true, true_and]
  omega

theorem b_Put4 (n : Int) (h : 0 ≤ n ∧ n ≤ 1000000000) (w : World) (hb : D.Base w) : Calls Tryz.prog 86 #[.int .i64 n, .int .i64 4] w fun e w' => e = .returned (.string (strOfNums (digL n 4))) ∧ Below w.heap.size w w' := by
  refine enter Tryz.func86 rfl Tryz.ntmps86 rfl (by assumption) ?_
  (repeat (first | intro (b : Nat) | refine go ?_))
  refine C.rounds 6 ?_
  (repeat' (first | intro (b : Nat) | refine go ?_ | (refine br ?_ ?_ <;> first | exact trivial | intro hq) | refine L.call (h := by intro W hW; first | apply b_Pow _ 3 (by omega) (by omega) 1000 rfl W hW.base | apply b_Pow _ 2 (by omega) (by omega) 100 rfl W hW.base | apply b_Pow _ 1 (by omega) (by omega) 10 rfl W hW.base | apply b_Pow _ 0 (by omega) (by omega) 1 rfl W hW.base | apply b_dec1 _ (by omega) W hW.base) (k := ?_)))
  (refine ret ?_)
  refine congrArg Value.string ?_
  rw [show (⟨#[]⟩ : ByteArray) = strOfNums [] from rfl]
  simp only [strOfNums_append]
  refine congrArg strOfNums ?_
  simp only [digL, List.nil_append, List.cons_append, List.cons.injEq, and_true, true_and]
  omega

theorem b_Digit (s : ByteArray) (p : Nat) (hs : s.size ≤ 1000000000000) (w : World) (hb : D.Base w) : Calls Tryz.prog 126 #[.string s, .int .i64 (p : Int)] w fun e w' => e = .returned (.bool (isD s p)) ∧ Below w.heap.size w w' := by
  have e1 : ((p : Int)).toNat = p := by omega
  by_cases hlt : p < s.size
  · have hr : inR (p : Int) 0 ((s.size : Int) - 1) = true := inR_true.2 (by omega)
    refine enter Tryz.func126 rfl Tryz.ntmps126 rfl (by assumption) ?_
    (repeat' (first | intro (b : Nat) | refine go ?_ | (refine br ?_ ?_ <;> first | exact trivial | intro hq) | refine L.call (h := by intro W hW; apply rvb hr (b_in _ _ _ W hW.base)) (k := ?_)))
    all_goals (refine ret ?_; try exact rfl)
    all_goals (rw [e1] at *)
    all_goals (refine congrArg Value.bool ?_; rw [Bool.eq_iff_iff]; simp [isD]; omega)
  · have hr : inR (p : Int) 0 ((s.size : Int) - 1) = false := inR_false.2 (by omega)
    have hd : isD s p = false := by
      cases hd : isD s p with
      | false => rfl
      | true => exact (hlt (isD_lt hd)).elim
    refine enter Tryz.func126 rfl Tryz.ntmps126 rfl (by assumption) ?_
    (repeat' (first | intro (b : Nat) | refine go ?_ | (refine br ?_ ?_ <;> first | exact trivial | intro hq) | refine L.call (h := by intro W hW; apply rvb hr (b_in _ _ _ W hW.base)) (k := ?_)))
    all_goals (refine ret ?_; try exact rfl)
    all_goals (rw [hd]; rfl)

theorem b_DigitsGet (s : ByteArray) (p m : Nat) (hs : s.size ≤ 1000000000000) (hp : p ≤ 1000000000000) (hm : 1 ≤ m ∧ m ≤ 6) (w : World) (hb : D.Base w) :
    Calls Tryz.prog 76 #[.string s, .int .i64 (p : Int), .int .i64 (m : Int)] w fun e w' => e = .returned (.tuple #[.int .i64 (if allD s p m = true then numL s p m else 0), .bool (allD s p m)]) ∧ Below w.heap.size w w' := by
  have hr : inR (m : Int) 1 6 = true := inR_true.2 (by omega)
  refine enter Tryz.func76 rfl Tryz.ntmps76 rfl (by assumption) ?_
  (repeat' (first | intro (b : Nat) | refine go ?_ | (refine br ?_ ?_ <;> first | exact trivial | intro hq) | refine L.call (h := by intro W hW; apply rvb hr (b_in _ _ _ W hW.base)) (k := ?_)))
  refine C.loopw (Y := Nat) (fun k => [(0, .string s), (1, .int .i64 (p : Int)), (2, .int .i64 (m : Int)), (8, .int .i64 (numL s p k)), (9, .int .i64 (k : Int))]) (fun k => []) (fun k => k ≤ m ∧ allD s p k = true) (fun k => m - k) 0 ⟨by omega, rfl⟩ (fun k hy => ?_)
  have hbd := numL_bd hy.2
  have hp10 := p10_le (k := k) (by omega)
  have ec : (p : Int) + (k : Int) = ((p + k : Nat) : Int) := by omega
  by_cases hlt : k < m
  · cases hd : isD s (p + k)
    · have hno : allD s p m = false := by
        cases h : allD s p m with
        | false => rfl
        | true =>
          have := allD_iff.1 h k hlt
          rw [hd] at this
          cases this
      (repeat' (first | intro (b : Nat) | refine go ?_ | (refine br ?_ ?_ <;> first | exact trivial | intro hq) | refine L.call (h := by intro W hW; apply rvb hd (ec ▸ b_Digit s (p + k) hs W hW.base)) (k := ?_)))
      (refine ret ?_; try exact rfl)
      rw [hno]; rfl
    · have hsz := isD_lt hd
      have e1 : ((p : Int) + (k : Int)).toNat = p + k := by omega
      have hb1 : 48 ≤ bt s ((p : Int) + (k : Int)).toNat ∧ bt s ((p : Int) + (k : Int)).toNat ≤ 57 := by rw [e1]; exact isD_iff.1 hd
      have e2 : numL s p (k + 1) = 10 * numL s p k + (bt s ((p : Int) + (k : Int)).toNat - 48) := by rw [e1]; rfl
      have hnext : allD s p (k + 1) = true := by simp [allD, hy.2, hd]
      (repeat' (first | intro (b : Nat) | refine go ?_ | (refine br ?_ ?_ <;> first | exact trivial | intro hq) | refine L.call (h := by intro W hW; apply rvb hd (ec ▸ b_Digit s (p + k) hs W hW.base)) (k := ?_)))
      refine X.roundw (k + 1) (⟨by omega, hnext⟩) (by omega)
  · obtain rfl : k = m := by omega
    (repeat' (first | intro (b : Nat) | refine go ?_ | (refine br ?_ ?_ <;> first | exact trivial | intro hq)))
    (refine ret ?_; try exact rfl)
    rw [hy.2]; rfl

end D
end Go.Proofs.YtboglbdhibcacaaGreatDoor
