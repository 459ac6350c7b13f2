/- Walks: days of the program. -/
import Derived.Test.YtboglbdhibcacaaGreatDoorVEI
import Derived.Test.YtboglbdhibcacaaGreatDoorVe
namespace Go.Proofs.YtboglbdhibcacaaGreatDoor
set_option linter.unusedVariables false
set_option linter.unusedSimpArgs false
set_option maxRecDepth 100000
set_option maxHeartbeats 1000000
namespace D
open Go.RowKit

theorem a_within (n lo hi : Int) (w : World) (hb : D.Base w) : Calls Tryz.prog 103 #[.int .i64 n, .int .i64 lo, .int .i64 hi] w fun e w' => e = .returned (.bool (inR n lo hi)) ∧ Below w.heap.size w w' := by
  refine enter Tryz.func103 rfl Tryz.ntmps103 rfl (by assumption) ?_
  (repeat' (first | intro (b : Nat) | refine go ?_ | (refine br ?_ ?_ <;> first | exact trivial | intro hq)))
  all_goals (refine ret ?_; try exact rfl)
  all_goals (simp [tupleOf, inR] <;> omega)

theorem a_yearValid (n : Int) (w : World) (hb : D.Base w) : Calls Tryz.prog 203 #[.int .i64 n] w fun e w' => e = .returned (.bool (inR n 1 9999)) ∧ Below w.heap.size w w' := by
  refine enter Tryz.func203 rfl Tryz.ntmps203 rfl (by assumption) ?_
  (repeat (first | intro (b : Nat) | refine go ?_))
  (refine L.call (h := by intro W hW; exact a_within _ _ _ W hW.base) (k := ?_))
  (repeat (first | intro (b : Nat) | refine go ?_))
  (refine ret ?_; try exact rfl)

theorem a_LeapYear (y : Int) (w : World) (hb : D.Base w) : Calls Tryz.prog 204 #[.int .i64 y] w fun e w' => e = .returned (.bool (leap y)) ∧ Below w.heap.size w w' := by
  by_cases hy : 1 ≤ y ∧ y ≤ 9999
  · have hr : inR y 1 9999 = true := inR_true.2 hy
    refine enter Tryz.func204 rfl Tryz.ntmps204 rfl (by assumption) ?_
    (repeat (first | intro (b : Nat) | refine go ?_))
    (refine L.call (h := by intro W hW; exact hr ▸ a_yearValid _ W hW.base) (k := ?_))
    (repeat' (first | intro (b : Nat) | refine go ?_ | (refine br ?_ ?_ <;> first | exact trivial | intro hq)))
    all_goals (refine ret ?_; try exact rfl)
    all_goals (simp [tupleOf, leap, hr, *] <;> (try rw [Bool.eq_iff_iff]; simp))
  · have hr : inR y 1 9999 = false := inR_false.2 hy
    refine enter Tryz.func204 rfl Tryz.ntmps204 rfl (by assumption) ?_
    (repeat (first | intro (b : Nat) | refine go ?_))
    (refine L.call (h := by intro W hW; exact hr ▸ a_yearValid _ W hW.base) (k := ?_))
    (repeat' (first | intro (b : Nat) | refine go ?_ | (refine br ?_ ?_ <;> first | exact trivial | intro hq)))
    all_goals (refine ret ?_; try exact rfl)
    all_goals (simp [tupleOf, leap, hr])

theorem a_MonthDays (y m : Int) (w : World) (hb : D.Base w) : Calls Tryz.prog 163 #[.int .i64 y, .int .i64 m] w fun e w' => e = .returned (.int .i64 (md y m)) ∧ Below w.heap.size w w' := by
  by_cases hy : inR y 1 9999 = true
  · by_cases hm : inR m 1 12 = true
    · have hmb := inR_true.1 hm
      by_cases h2 : m = 2
      · subst h2
        by_cases hl : leap y = true
        · refine enter Tryz.func163 rfl Tryz.ntmps163 rfl (by assumption) ?_
          (repeat (first | intro (b : Nat) | refine go ?_))
          (refine L.call (h := by intro W hW; exact hy ▸ a_yearValid _ W hW.base) (k := ?_))
          (repeat (first | intro (b : Nat) | refine go ?_))
          (refine L.call (h := by intro W hW; exact hm ▸ a_within _ _ _ W hW.base) (k := ?_))
          (repeat (first | intro (b : Nat) | refine go ?_))
          (repeat' (first | intro (b : Nat) | refine go ?_ | (refine br ?_ ?_ <;> first | exact trivial | intro hq)))
          (refine L.call (h := by intro W hW; exact hl ▸ a_LeapYear _ W hW.base) (k := ?_))
          (repeat (first | intro (b : Nat) | refine go ?_))
          (refine ret ?_; try exact rfl)
          simp [tupleOf, md, hy, hm, hl]
        · have hl : leap y = false := by simpa using hl
          refine enter Tryz.func163 rfl Tryz.ntmps163 rfl (by assumption) ?_
          (repeat (first | intro (b : Nat) | refine go ?_))
          (refine L.call (h := by intro W hW; exact hy ▸ a_yearValid _ W hW.base) (k := ?_))
          (repeat (first | intro (b : Nat) | refine go ?_))
          (refine L.call (h := by intro W hW; exact hm ▸ a_within _ _ _ W hW.base) (k := ?_))
          (repeat (first | intro (b : Nat) | refine go ?_))
          (repeat' (first | intro (b : Nat) | refine go ?_ | (refine br ?_ ?_ <;> first | exact trivial | intro hq)))
          (refine L.call (h := by intro W hW; exact hl ▸ a_LeapYear _ W hW.base) (k := ?_))
          (repeat (first | intro (b : Nat) | refine go ?_))
          (apply L.v; (· exact rfl); (· exact rfl); (· apply OV.loadW; (· exact rfl); (intro W hW; exact run_loadVar_sc (hW.base.tab 1 (by omega)))))
          (repeat (first | intro (b : Nat) | refine go ?_))
          (refine ret ?_; try exact rfl)
          simp [tupleOf, md, hy, hm, hl]
      · refine enter Tryz.func163 rfl Tryz.ntmps163 rfl (by assumption) ?_
        (repeat (first | intro (b : Nat) | refine go ?_))
        (refine L.call (h := by intro W hW; exact hy ▸ a_yearValid _ W hW.base) (k := ?_))
        (repeat (first | intro (b : Nat) | refine go ?_))
        (refine L.call (h := by intro W hW; exact hm ▸ a_within _ _ _ W hW.base) (k := ?_))
        (repeat' (first | intro (b : Nat) | refine go ?_ | (refine br ?_ ?_ <;> first | exact trivial | intro hq)))
        (apply L.v; (· exact rfl); (· exact rfl); (· apply OV.loadW; (· exact rfl); (intro W hW; exact run_loadVar_sc (by simpa using hW.base.tab (m - 1).toNat (by omega)))))
        (repeat (first | intro (b : Nat) | refine go ?_))
        (refine ret ?_; try exact rfl)
        simp [tupleOf, md, hy, hm, h2]
    · have hm : inR m 1 12 = false := by simpa using hm
      refine enter Tryz.func163 rfl Tryz.ntmps163 rfl (by assumption) ?_
      (repeat (first | intro (b : Nat) | refine go ?_))
      (refine L.call (h := by intro W hW; exact hy ▸ a_yearValid _ W hW.base) (k := ?_))
      (repeat (first | intro (b : Nat) | refine go ?_))
      (refine L.call (h := by intro W hW; exact hm ▸ a_within _ _ _ W hW.base) (k := ?_))
      (repeat (first | intro (b : Nat) | refine go ?_))
      (refine ret ?_; try exact rfl)
      simp [tupleOf, md, hm]
  · have hy : inR y 1 9999 = false := by simpa using hy
    refine enter Tryz.func163 rfl Tryz.ntmps163 rfl (by assumption) ?_
    (repeat (first | intro (b : Nat) | refine go ?_))
    (refine L.call (h := by intro W hW; exact hy ▸ a_yearValid _ W hW.base) (k := ?_))
    (repeat (first | intro (b : Nat) | refine go ?_))
    (refine ret ?_; try exact rfl)
    simp [tupleOf, md, hy]

theorem a_DateValid (y m d : Int) (w : World) (hb : D.Base w) : Calls Tryz.prog 105 #[.agg #[.int .i64 y, .int .i64 m, .int .i64 d]] w fun e w' => e = .returned (.bool (dval y m d)) ∧ Below w.heap.size w w' := by
  refine enter Tryz.func105 rfl Tryz.ntmps105 rfl (by assumption) ?_
  (repeat (first | intro (b : Nat) | refine go ?_))
  ((repeat (refine C.seq ?_)); apply C.draww 9 [none, some _, none, some _, none, some _, some _, some _, none])
  (repeat (first | intro (b : Nat) | refine gg ?_))
  (refine G.call (h := by intro W hW; exact a_MonthDays _ _ W hW.base) (k := ?_))
  (repeat (first | intro (b : Nat) | refine gg ?_))
  (refine G.call (h := by intro W hW; exact a_within _ _ _ W hW.base) (k := ?_))
  (repeat (first | intro (b : Nat) | refine gg ?_))
  (repeat (first | intro (b : Nat) | refine go ?_))
  (refine ret ?_; try exact rfl)

theorem a_newYear (y : Int) (h1 : 1 ≤ y) (h2 : y ≤ 10000) (w : World) (hb : D.Base w) : Calls Tryz.prog 177 #[.int .i64 y] w fun e w' => e = .returned (.int .i64 (ny y)) ∧ Below w.heap.size w w' := by
  refine enter Tryz.func177 rfl Tryz.ntmps177 rfl (by assumption) ?_
  (repeat (first | intro (b : Nat) | refine go ?_))
  (refine ret ?_; try exact rfl)

theorem cum_one (y : Int) : cum y 1 = 0 := rfl

theorem a_ordinal (y m d : Int) (h : dval y m d = true) (w : World) (hb : D.Base w) : Calls Tryz.prog 178 #[.agg #[.int .i64 y, .int .i64 m, .int .i64 d]] w fun e w' => e = .returned (.int .i64 (ord y m d)) ∧ Below w.heap.size w w' := by
  have hd := dval_bd h
  have h1 := cum_one y
  refine enter Tryz.func178 rfl Tryz.ntmps178 rfl (by assumption) ?_
  (repeat (first | intro (b : Nat) | refine go ?_))
  refine C.loopw (Y := Int) (fun k => [(1, .pointer (some ⟨b, 0, none⟩)), (3, .int .i64 (d + cum y k)), (4, .int .i64 k)]) (fun k => [(b, .cells 63 [.int .i64 y, .int .i64 m, .int .i64 d])]) (fun k => 1 ≤ k ∧ k ≤ m) (fun k => (m - k).toNat) 1 (by omega) (fun k hy => ?_)
  have hc := cum_bd y k (by omega)
  have hs := cum_succ y k hy.1
  have hm := md_bd y k
  (repeat' (first | intro (b : Nat) | refine go ?_ | (refine br ?_ ?_ <;> first | exact trivial | intro hq)))
  · (refine L.call (h := by intro W hW; exact a_MonthDays _ _ W hW.base) (k := ?_))
    (repeat (first | intro (b : Nat) | refine go ?_))
    refine X.roundw (k + 1) (⟨by omega, by omega⟩) (by omega)
  · (refine ret ?_; try exact rfl)
    have : k = m := by omega
    subst this
    simp only [tupleOf, ord]
    rw [Int.add_comm]

theorem a_number (y m d : Int) (h : dval y m d = true) (w : World) (hb : D.Base w) : Calls Tryz.prog 114 #[.agg #[.int .i64 y, .int .i64 m, .int .i64 d]] w fun e w' => e = .returned (.int .i64 (num y m d)) ∧ Below w.heap.size w w' := by
  have hd := dval_bd h
  have hn := ny_bd y (by omega) (by omega)
  have ho := ord_bd y m d (by omega) (by omega) (by omega)
  refine enter Tryz.func114 rfl Tryz.ntmps114 rfl (by assumption) ?_
  (repeat (first | intro (b : Nat) | refine go ?_))
  ((repeat (refine C.seq ?_)); apply C.draww 8 [none, some _, some _, some _, some _, none, none, none])
  (repeat (first | intro (b : Nat) | refine gg ?_))
  (refine G.call (h := by intro W hW; exact a_newYear _ (by omega) (by omega) W hW.base) (k := ?_))
  (repeat (first | intro (b : Nat) | refine gg ?_))
  (refine G.call (h := by intro W hW; exact a_ordinal _ _ _ h W hW.base) (k := ?_))
  (repeat (first | intro (b : Nat) | refine gg ?_))
  (repeat (first | intro (b : Nat) | refine go ?_))
  (refine ret ?_; try exact rfl)

theorem a_isNaN (n : Int) (w : World) (hb : D.Base w) : Calls Tryz.prog 220 #[.int .i64 n] w fun e w' => e = .returned (.bool false) ∧ Below w.heap.size w w' := by
  refine enter Tryz.func220 rfl Tryz.ntmps220 rfl (by assumption) ?_
  (repeat (first | intro (b : Nat) | refine go ?_))
  (refine ret ?_; try exact rfl)
  simp [tupleOf]

theorem a_Compare (m n : Int) (w : World) (hb : D.Base w) : Calls Tryz.prog 176 #[.int .i64 m, .int .i64 n] w fun e w' => e = .returned (.int .i64 (cmp m n)) ∧ Below w.heap.size w w' := by
  refine enter Tryz.func176 rfl Tryz.ntmps176 rfl (by assumption) ?_
  (repeat (first | intro (b : Nat) | refine go ?_))
  (refine L.call (h := by intro W hW; exact a_isNaN _ W hW.base) (k := ?_))
  (repeat (first | intro (b : Nat) | refine go ?_))
  (refine L.call (h := by intro W hW; exact a_isNaN _ W hW.base) (k := ?_))
  (repeat' (first | intro (b : Nat) | refine go ?_ | (refine br ?_ ?_ <;> first | exact trivial | intro hq)))
  all_goals (refine ret ?_; try exact rfl)
  all_goals (simp [tupleOf, cmp] <;> omega)

theorem a_compare (y m d y' m' d' : Int) (h : dval y m d = true) (h' : dval y' m' d' = true) (w : World) (hb : D.Base w) : Calls Tryz.prog 117 #[.agg #[.int .i64 y, .int .i64 m, .int .i64 d], .agg #[.int .i64 y', .int .i64 m', .int .i64 d']] w fun e w' => e = .returned (.int .i64 (cmp (num y m d) (num y' m' d'))) ∧ Below w.heap.size w w' := by
  refine enter Tryz.func117 rfl Tryz.ntmps117 rfl (by assumption) ?_
  (repeat (first | intro (b : Nat) | refine go ?_))
  ((repeat (refine C.seq ?_)); apply C.draww 6 [some _, some _, some _, some _, some _, none])
  (repeat (first | intro (b : Nat) | refine gg ?_))
  (refine G.call (h := by intro W hW; exact a_number _ _ _ h W hW.base) (k := ?_))
  (repeat (first | intro (b : Nat) | refine gg ?_))
  (refine G.call (h := by intro W hW; exact a_number _ _ _ h' W hW.base) (k := ?_))
  (repeat (first | intro (b : Nat) | refine gg ?_))
  (refine G.call (h := by intro W hW; exact a_Compare _ _ W hW.base) (k := ?_))
  (repeat (first | intro (b : Nat) | refine gg ?_))
  (repeat (first | intro (b : Nat) | refine go ?_))
  (refine ret ?_; try exact rfl)

/-- The number of a day, or -1. -/
def dnum (y m d : Int) : Int := if dval y m d = true then num y m d else -1

end D
end Go.Proofs.YtboglbdhibcacaaGreatDoor

namespace Go.Proofs.YtboglbdhibcacaaGreatDoor
set_option linter.unusedVariables false
set_option linter.unusedSimpArgs false
set_option maxRecDepth 100000
set_option maxHeartbeats 1000000
namespace D
open Go.RowKit

def perV (a b c d f g : Int) : Bool := inR a 0 9999 && inR b 0 9999 && inR c 0 9999 && inR d 0 9999 && inR f 0 9999 && inR g 0 9999

theorem perV_iff {a b c d f g : Int} : perV a b c d f g = true ↔ (0 ≤ a ∧ a ≤ 9999) ∧ (0 ≤ b ∧ b ≤ 9999) ∧ (0 ≤ c ∧ c ≤ 9999) ∧ (0 ≤ d ∧ d ≤ 9999) ∧ (0 ≤ f ∧ f ≤ 9999) ∧ (0 ≤ g ∧ g ≤ 9999) := by
  simp [perV, inR, and_assoc]

/-- The parts of a period that lies in a block: a new row of letters, marks and places. -/
def partsV (p : Nat) : List Value := [.int .u8 89, .bool false, .pointer (some ⟨p, 0, none⟩), .int .u8 77, .bool false, .pointer (some ⟨p, 1, none⟩), .int .u8 68, .bool false, .pointer (some ⟨p, 2, none⟩), .int .u8 72, .bool true, .pointer (some ⟨p, 3, none⟩), .int .u8 77, .bool true, .pointer (some ⟨p, 4, none⟩), .int .u8 83, .bool true, .pointer (some ⟨p, 5, none⟩)]

theorem a_parts (p : Nat) (w : World) (hb : D.Base w) : Calls Tryz.prog 119 #[.pointer (some ⟨p, 0, none⟩)] w (Ret w (NewSl 6 6 (.cells 146 (partsV p)))) := by
  refine enter Tryz.func119 rfl Tryz.ntmps119 rfl (by assumption) ?_
  (repeat' (first | intro (b : Nat) | refine go ?_ | (refine br ?_ ?_ <;> first | exact trivial | intro hq) | refine gg ?_ | (apply C.draww (id := 1) 26 [none, none, none, none, none, none, none, none, none, none, none, none, none, none, none, none, none, none, none, none, none, none, none, none, some _, none])))
  exact retsl

theorem a_PeriodValid (a x c d f g : Int) (w : World) (hb : D.Base w) :
    Calls Tryz.prog 118 #[.agg #[.int .i64 a, .int .i64 x, .int .i64 c, .int .i64 d, .int .i64 f, .int .i64 g]] w fun e w' => e = .returned (.bool (perV a x c d f g)) ∧ Below w.heap.size w w' := by
  refine enter Tryz.func118 rfl Tryz.ntmps118 rfl (by assumption) ?_
  (repeat (first | intro (b : Nat) | refine go ?_))
  revert b; intro bp
  (refine L.slcall (h := by intro W hW; exact a_parts bp W hW.base) (k := ?_); intro b)
  revert b; intro bs
  (repeat (first | intro (b : Nat) | refine go ?_))
  refine C.loopw (Y := Int) (fun k => [(1, .pointer (some ⟨bp, 0, none⟩)), (5, .slice (some ⟨bs, 0, none⟩) 6 6), (6, .int .i64 6), (7, .int .i64 k)]) (fun k => [(bs, .cells 146 (partsV bp)), (bp, .cells 73 [.int .i64 a, .int .i64 x, .int .i64 c, .int .i64 d, .int .i64 f, .int .i64 g])]) (fun k => 0 ≤ k ∧ k ≤ 6 ∧ (1 ≤ k → inR a 0 9999 = true) ∧ (2 ≤ k → inR x 0 9999 = true) ∧ (3 ≤ k → inR c 0 9999 = true) ∧ (4 ≤ k → inR d 0 9999 = true) ∧ (5 ≤ k → inR f 0 9999 = true) ∧ (6 ≤ k → inR g 0 9999 = true)) (fun k => (6 - k).toNat) 0 (by omega) (fun k hy => ?_)
  obtain ⟨h0, h6, ha, hb', hc, hd, hf, hg⟩ := hy
  rcases (by omega : k = 0 ∨ k = 1 ∨ k = 2 ∨ k = 3 ∨ k = 4 ∨ k = 5 ∨ k = 6) with rfl | rfl | rfl | rfl | rfl | rfl | rfl
  all_goals (repeat' (first | intro (b : Nat) | refine go ?_ | (refine br ?_ ?_ <;> first | exact trivial | intro hq) | refine L.call (h := by intro W hW; apply a_within _ _ _ W hW.base) (k := ?_)))
  all_goals first | ((refine ret ?_; try exact rfl); simp_all [tupleOf, perV]; done) | (refine X.rounda ?_ ?_ <;> simp_all; done)

end D
end Go.Proofs.YtboglbdhibcacaaGreatDoor

namespace Go.Proofs.YtboglbdhibcacaaGreatDoor
set_option linter.unusedVariables false
set_option linter.unusedSimpArgs false
set_option maxRecDepth 100000
set_option maxHeartbeats 1000000
namespace D
open Go.RowKit

theorem cum_step {y k m : Int} (h1 : 1 ≤ k) (h : k < m) : cum y k + md y k ≤ cum y m := by
  have := cum_succ y k h1
  have := cum_le y (a := k + 1) (b := m) (by omega) (by omega)
  omega

theorem year_guess {y m d : Int} (h : dval y m d = true) : num y m d / 366 + 1 ≤ y := by
  have hd := dval_bd h
  have hn := num_in h
  unfold ny at hn
  omega

theorem a_dateAt (y m d : Int) (h : dval y m d = true) (w : World) (hb : D.Base w) : Calls Tryz.prog 231 #[.int .i64 (num y m d)] w fun e w' => e = .returned (.agg #[.int .i64 y, .int .i64 m, .int .i64 d]) ∧ Below w.heap.size w w' := by
  have hd := dval_bd h
  have hn := num_in h
  have hb0 := num_bd h
  have hg := year_guess h
  have hnm : num y m d = ny y + cum y m + d - 1 := by unfold num ord; omega
  generalize num y m d = n at *
  have h1 := cum_one y
  have hcb := cum_bd y m (by omega)
  have hnb := ny_bd y (by omega) (by omega)
  refine enter Tryz.func231 rfl Tryz.ntmps231 rfl (by assumption) ?_
  (repeat (first | intro (b : Nat) | refine go ?_))
  revert b; intro b0
  refine C.loopw (Y := Int) (fun k => [(0, .int .i64 n), (2, .pointer (some ⟨b0, 0, none⟩)), (3, .int .i64 k)]) (fun k => [(b0, .cells 63 [.int .i64 0, .int .i64 0, .int .i64 0])]) (fun k => 1 ≤ k ∧ k ≤ y) (fun k => (y - k).toNat) (n / 366 + 1) (by omega) (fun k hy => ?_)
  by_cases hlt : k < y
  · have hm := ny_mono (a := k + 1) (b := y) (by omega)
    (repeat' (first | intro (b : Nat) | refine go ?_ | (refine br ?_ ?_ <;> first | exact trivial | intro hq)))
    (refine L.call (h := by intro W hW; exact a_newYear _ (by omega) (by omega) W hW.base) (k := ?_))
    (repeat' (first | intro (b : Nat) | refine go ?_ | (refine br ?_ ?_ <;> first | exact trivial | intro hq)))
    refine X.roundw (k + 1) (⟨by omega, by omega⟩) (by omega)
  · obtain rfl : y = k := by omega
    clear hlt
    have hmd := md_bd y m
    (repeat' (first | intro (b : Nat) | refine go ?_ | (refine br ?_ ?_ <;> first | exact trivial | intro hq)))
    all_goals (try ((refine L.call (h := by intro W hW; with_reducible exact a_newYear (y + 1) (by omega) (by omega) W hW.base) (k := ?_)); (repeat' (first | intro (b : Nat) | refine go ?_ | (refine br ?_ ?_ <;> first | exact trivial | intro hq)))))
    all_goals (refine L.call (h := by intro W hW; exact a_newYear y (by omega) (by omega) W hW.base) (k := ?_))
    all_goals (repeat (first | intro (b : Nat) | refine go ?_))
    all_goals (revert b; intro b1)
    all_goals (refine C.loopw (Y := Int) (fun k => [(2, .pointer (some ⟨b0, 0, none⟩)), (3, .int .i64 y), (4, .pointer (some ⟨b1, 0, none⟩))]) (fun k => [(b1, .cells 63 [.int .i64 y, .int .i64 k, .int .i64 (d + cum y m - cum y k)]), (b0, .cells 63 [.int .i64 0, .int .i64 0, .int .i64 0])]) (fun k => 1 ≤ k ∧ k ≤ m) (fun k => (m - k).toNat) 1 (by omega) (fun k hy => ?_))
    all_goals
      have hs := cum_succ y k hy.1
      have hc := cum_bd y k (by omega)
      have hmk := md_bd y k
      ((repeat (refine C.seq ?_)); apply C.draww 7 [none, some _, none, none, some _, some _, none])
      (repeat (first | intro (b : Nat) | refine gg ?_))
      (refine G.call (h := by intro W hW; exact a_MonthDays _ _ W hW.base) (k := ?_))
      (repeat (first | intro (b : Nat) | refine gg ?_))
      (repeat' (first | intro (b : Nat) | refine go ?_ | (refine br ?_ ?_ <;> first | exact trivial | intro hq)))
      · have hk : k < m := by
          refine Int.lt_of_not_ge fun hge => ?_
          obtain rfl : m = k := by omega
          omega
        ((repeat (refine C.seq ?_)); apply C.draww 8 [none, some _, none, none, some _, some _, none, none])
        (repeat (first | intro (b : Nat) | refine gg ?_))
        (refine G.call (h := by intro W hW; exact a_MonthDays _ _ W hW.base) (k := ?_))
        (repeat (first | intro (b : Nat) | refine gg ?_))
        (repeat (first | intro (b : Nat) | refine go ?_))
        refine X.roundw (k + 1) (⟨by omega, by omega⟩) (by omega)
      · have hk : k = m := by
          refine Classical.byContradiction fun hne => ?_
          have := cum_step (y := y) (k := k) (m := m) (by omega) (by omega)
          omega
        subst hk
        (refine ret ?_; try exact rfl)
        ((try simp only [tupleOf, Value.agg.injEq, Value.tuple.injEq, List.toArray_inj, Array.mk.injEq, List.cons.injEq, Value.int.injEq, Value.bool.injEq, and_true, true_and]) <;> (try omega))

theorem a_DateOf (y m d : Int) (h : dval y m d = true) (w : World) (hb : D.Base w) : Calls Tryz.prog 212 #[.int .i64 (num y m d)] w fun e w' => e = .returned (.tuple #[.agg #[.int .i64 y, .int .i64 m, .int .i64 d], .bool true]) ∧ Below w.heap.size w w' := by
  have hr : inR (num y m d) 0 3652058 = true := inR_true.2 (num_bd h)
  refine enter Tryz.func212 rfl Tryz.ntmps212 rfl (by assumption) ?_
  (repeat (first | intro (b : Nat) | refine go ?_))
  (refine L.call (h := by intro W hW; exact hr ▸ a_within _ _ _ W hW.base) (k := ?_))
  (repeat (first | intro (b : Nat) | refine go ?_))
  (refine L.call (h := by intro W hW; exact a_dateAt _ _ _ h W hW.base) (k := ?_))
  (repeat (first | intro (b : Nat) | refine go ?_))
  (refine ret ?_; try exact rfl)

theorem a_DateOf_no (n : Int) (h : inR n 0 3652058 = false) (w : World) (hb : D.Base w) : Calls Tryz.prog 212 #[.int .i64 n] w fun e w' => e = .returned (.tuple #[.agg #[.int .i64 0, .int .i64 0, .int .i64 0], .bool false]) ∧ Below w.heap.size w w' := by
  refine enter Tryz.func212 rfl Tryz.ntmps212 rfl (by assumption) ?_
  (repeat (first | intro (b : Nat) | refine go ?_))
  (refine L.call (h := by intro W hW; exact h ▸ a_within _ _ _ W hW.base) (k := ?_))
  (repeat (first | intro (b : Nat) | refine go ?_))
  (refine ret ?_; try exact rfl)

theorem a_DayPlus (y m d n y' m' d' : Int) (h : dval y m d = true) (h' : dval y' m' d' = true) (hn : num y m d + n = num y' m' d') (w : World) (hb : D.Base w) : Calls Tryz.prog 210 #[.agg #[.int .i64 y, .int .i64 m, .int .i64 d], .int .i64 n] w fun e w' => e = .returned (.tuple #[.agg #[.int .i64 y', .int .i64 m', .int .i64 d'], .bool true]) ∧ Below w.heap.size w w' := by
  have hb1 := num_bd h
  have hb2 := num_bd h'
  have hr : inR n (-3652058) 3652058 = true := inR_true.2 (by omega)
  refine enter Tryz.func210 rfl Tryz.ntmps210 rfl (by assumption) ?_
  (repeat (first | intro (b : Nat) | refine go ?_))
  (refine L.call (h := by intro W hW; exact h ▸ a_DateValid _ _ _ W hW.base) (k := ?_))
  (repeat (first | intro (b : Nat) | refine go ?_))
  (refine L.call (h := by intro W hW; exact hr ▸ a_within _ _ _ W hW.base) (k := ?_))
  (repeat (first | intro (b : Nat) | refine go ?_))
  (refine L.call (h := by intro W hW; exact a_number _ _ _ h W hW.base) (k := ?_))
  (repeat (first | intro (b : Nat) | refine go ?_))
  (refine L.call (h := by intro W hW; exact hn ▸ a_DateOf _ _ _ h' W hW.base) (k := ?_))
  (repeat (first | intro (b : Nat) | refine go ?_))
  (refine ret ?_; try exact rfl)

theorem a_DayPlus_no (y m d n : Int) (hno : ¬ (dval y m d = true ∧ inR n (-3652058) 3652058 = true ∧ inR (num y m d + n) 0 3652058 = true)) (w : World) (hb : D.Base w) : Calls Tryz.prog 210 #[.agg #[.int .i64 y, .int .i64 m, .int .i64 d], .int .i64 n] w fun e w' => e = .returned (.tuple #[.agg #[.int .i64 0, .int .i64 0, .int .i64 0], .bool false]) ∧ Below w.heap.size w w' := by
  by_cases h : dval y m d = true
  · have hb1 := num_bd h
    by_cases hr : inR n (-3652058) 3652058 = true
    · have hrb := inR_true.1 hr
      have hz : inR (num y m d + n) 0 3652058 = false := by
        cases hq : inR (num y m d + n) 0 3652058 with
        | false => rfl
        | true => exact (hno ⟨h, hr, hq⟩).elim
      refine enter Tryz.func210 rfl Tryz.ntmps210 rfl (by assumption) ?_
      (repeat (first | intro (b : Nat) | refine go ?_))
      (refine L.call (h := by intro W hW; exact h ▸ a_DateValid _ _ _ W hW.base) (k := ?_))
      (repeat (first | intro (b : Nat) | refine go ?_))
      (refine L.call (h := by intro W hW; exact hr ▸ a_within _ _ _ W hW.base) (k := ?_))
      (repeat (first | intro (b : Nat) | refine go ?_))
      (refine L.call (h := by intro W hW; exact a_number _ _ _ h W hW.base) (k := ?_))
      (repeat (first | intro (b : Nat) | refine go ?_))
      (refine L.call (h := by intro W hW; exact a_DateOf_no _ hz W hW.base) (k := ?_))
      (repeat (first | intro (b : Nat) | refine go ?_))
      (refine ret ?_; try exact rfl)
    · have hr : inR n (-3652058) 3652058 = false := by simpa using hr
      refine enter Tryz.func210 rfl Tryz.ntmps210 rfl (by assumption) ?_
      (repeat (first | intro (b : Nat) | refine go ?_))
      (refine L.call (h := by intro W hW; exact h ▸ a_DateValid _ _ _ W hW.base) (k := ?_))
      (repeat (first | intro (b : Nat) | refine go ?_))
      (refine L.call (h := by intro W hW; exact hr ▸ a_within _ _ _ W hW.base) (k := ?_))
      (repeat (first | intro (b : Nat) | refine go ?_))
      (refine ret ?_; try exact rfl)
  · have h : dval y m d = false := by simpa using h
    refine enter Tryz.func210 rfl Tryz.ntmps210 rfl (by assumption) ?_
    (repeat (first | intro (b : Nat) | refine go ?_))
    (refine L.call (h := by intro W hW; exact h ▸ a_DateValid _ _ _ W hW.base) (k := ?_))
    (repeat (first | intro (b : Nat) | refine go ?_))
    (refine ret ?_; try exact rfl)

end D
end Go.Proofs.YtboglbdhibcacaaGreatDoor

namespace Go.Proofs.YtboglbdhibcacaaGreatDoor
set_option linter.unusedVariables false
set_option linter.unusedSimpArgs false
set_option maxRecDepth 100000
set_option maxHeartbeats 1000000
namespace D
open Go.RowKit

theorem a_MonthPlus (y m d n : Int) (w : World) (hb : D.Base w) : Calls Tryz.prog 116 #[.agg #[.int .i64 y, .int .i64 m, .int .i64 d], .int .i64 n] w fun e w' => e = .returned (drV (mplus y m d n)) ∧ Below w.heap.size w w' := by
  by_cases h : dval y m d = true
  · have hd := dval_bd h
    by_cases hr : inR n (-119988) 119988 = true
    · have hrb := inR_true.1 hr
      by_cases hin : 0 ≤ mpT y m n ∧ mpT y m n / 12 < 9999
      · rw [mplus_in h hr hin]
        have hT : mpT y m n = 12 * (y - 1) + m - 1 + n := rfl
        rw [hT] at hin ⊢
        clear hT
        obtain ⟨hin1, hin2⟩ := hin
        refine enter Tryz.func116 rfl Tryz.ntmps116 rfl (by assumption) ?_
        (repeat (first | intro (b : Nat) | refine go ?_))
        (refine L.call (h := by intro W hW; exact h ▸ a_DateValid _ _ _ W hW.base) (k := ?_))
        (repeat (first | intro (b : Nat) | refine go ?_))
        (refine L.call (h := by intro W hW; exact hr ▸ a_within _ _ _ W hW.base) (k := ?_))
        (repeat' (first | intro (b : Nat) | refine go ?_ | (refine br ?_ ?_ <;> first | exact trivial | intro hq)))
        ((repeat (refine C.seq ?_)); apply C.draww 9 [none, some _, none, some _, none, some _, some _, none, none])
        (repeat (first | intro (b : Nat) | refine gg ?_))
        (refine G.call (h := by intro W hW; exact a_MonthDays _ _ W hW.base) (k := ?_))
        (repeat (first | intro (b : Nat) | refine gg ?_))
        (repeat (first | intro (b : Nat) | refine go ?_))
        (refine ret ?_; try exact rfl)
      · rw [mplus_out hin]
        have hT : mpT y m n = 12 * (y - 1) + m - 1 + n := rfl
        rw [hT] at hin
        clear hT
        refine enter Tryz.func116 rfl Tryz.ntmps116 rfl (by assumption) ?_
        (repeat (first | intro (b : Nat) | refine go ?_))
        (refine L.call (h := by intro W hW; exact h ▸ a_DateValid _ _ _ W hW.base) (k := ?_))
        (repeat (first | intro (b : Nat) | refine go ?_))
        (refine L.call (h := by intro W hW; exact hr ▸ a_within _ _ _ W hW.base) (k := ?_))
        (repeat' (first | intro (b : Nat) | refine go ?_ | (refine br ?_ ?_ <;> first | exact trivial | intro hq)))
        all_goals (refine ret ?_; try exact rfl)
    · have hr : inR n (-119988) 119988 = false := by simpa using hr
      rw [mplus_range hr]
      refine enter Tryz.func116 rfl Tryz.ntmps116 rfl (by assumption) ?_
      (repeat (first | intro (b : Nat) | refine go ?_))
      (refine L.call (h := by intro W hW; exact h ▸ a_DateValid _ _ _ W hW.base) (k := ?_))
      (repeat (first | intro (b : Nat) | refine go ?_))
      (refine L.call (h := by intro W hW; exact hr ▸ a_within _ _ _ W hW.base) (k := ?_))
      (repeat (first | intro (b : Nat) | refine go ?_))
      (refine ret ?_; try exact rfl)
  · have h : dval y m d = false := by simpa using h
    rw [mplus_invalid h]
    refine enter Tryz.func116 rfl Tryz.ntmps116 rfl (by assumption) ?_
    (repeat (first | intro (b : Nat) | refine go ?_))
    (refine L.call (h := by intro W hW; exact h ▸ a_DateValid _ _ _ W hW.base) (k := ?_))
    (repeat (first | intro (b : Nat) | refine go ?_))
    (refine ret ?_; try exact rfl)

end D
end Go.Proofs.YtboglbdhibcacaaGreatDoor
