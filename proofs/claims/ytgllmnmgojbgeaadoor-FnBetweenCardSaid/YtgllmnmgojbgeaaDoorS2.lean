/- Walks: what is between dates, in the reference. -/
import Derived.Test.YtgllmnmgojbgeaaDoorS1m
import Derived.Test.YtgllmnmgojbgeaaDoorA3
namespace Go.Proofs.YtgllmnmgojbgeaaDoor
set_option linter.unusedVariables false
set_option linter.unusedSimpArgs false
set_option maxRecDepth 100000
set_option maxHeartbeats 1000000
namespace D
open Go.RowKit

theorem dnum_yes {y m d : Int} (h : dval y m d = true) : dnum y m d = num y m d := if_pos h

theorem b_l41 (y m d y' m' d' : Int) (h1 : dval y m d = true) (h2 : dval y' m' d' = true) (hle : num y m d ≤ num y' m' d') (w : World) (hb : D.Base w) :
    Calls Tryd.prog 48 #[.agg #[.int .i64 y, .int .i64 m, .int .i64 d], .agg #[.int .i64 y', .int .i64 m', .int .i64 d']] w fun e w' => e = .returned (.int .i64 (bn y m d y' m' d')) ∧ Below w.heap.size w w' := by
  have hd := dval_bd h1
  have hd' := dval_bd h2
  have hB := btw h1 h2 hle
  have hv0 := mplus_val h1 hB.2.2.1 hB.2.2.2.1
  have eb1 : num y' m' d' < numR (mplus y m d (12 * (y' - y) + m' - m)) → bn y m d y' m' d' = 12 * (y' - y) + m' - m - 1 := fun h => if_pos h
  have eb2 : ¬ num y' m' d' < numR (mplus y m d (12 * (y' - y) + m' - m)) → bn y m d y' m' d' = 12 * (y' - y) + m' - m := fun h => if_neg h
  have hN := hB.1
  have hN2 := hB.2.1
  clear hB
  simp only [n0] at hv0 hN hN2
  generalize hx : mplus y m d (12 * (y' - y) + m' - m) = x at hv0 eb1 eb2
  obtain ⟨xy, xm, xd, xok⟩ := x
  obtain ⟨rfl, hxv, hxs⟩ := hv0
  simp only [numR] at eb1 eb2 hxv hxs
  have hq1 := dnum_yes hxv
  have hq2 := dnum_yes h2
  refine enter Tryd.func48 rfl Tryd.ntmps48 rfl (by assumption) ?_
  (repeat (first | intro (b : Nat) | refine go ?_))
  (refine L.call (h := by intro W hW; exact hx ▸ b_MonthPlus _ _ _ _ W hW.base) (k := ?_))
  (repeat (first | intro (b : Nat) | refine go ?_))
  ((repeat (refine C.seq ?_)); apply C.draww 9 [none, none, none, some _, some _, some _, some _, none, none])
  (repeat (first | intro (b : Nat) | refine gg ?_))
  (refine G.call (h := by intro W hW; exact hq1 ▸ b_DayNumber _ _ _ W hW.base) (k := ?_))
  (repeat (first | intro (b : Nat) | refine gg ?_))
  (refine G.call (h := by intro W hW; exact hq2 ▸ b_DayNumber _ _ _ W hW.base) (k := ?_))
  (repeat (first | intro (b : Nat) | refine gg ?_))
  (repeat' (first | intro (b : Nat) | refine go ?_ | (refine br ?_ ?_ <;> first | exact trivial | intro hq)))
  all_goals (refine ret ?_; try exact rfl)
  · rw [eb1 (by assumption)]; rfl
  · rw [eb2 (by omega)]; rfl

theorem b_DatesBetween (y m d y' m' d' : Int) (w : World) (hb : D.Base w) :
    Calls Tryd.prog 16 #[.agg #[.int .i64 y, .int .i64 m, .int .i64 d], .agg #[.int .i64 y', .int .i64 m', .int .i64 d']] w fun e w' => e = .returned (bV y m d y' m' d') ∧ Below w.heap.size w w' := by
  cases h1 : dval y m d
  · rw [bV_no (by simp [bOk, h1])]
    refine enter Tryd.func16 rfl Tryd.ntmps16 rfl (by assumption) ?_
    (repeat (first | intro (b : Nat) | refine go ?_))
    ((repeat (refine C.seq ?_)); apply C.draww 15 [some _, some _, none, none, some _, some _, none, none, none, some _, some _, some _, some _, none, none])
    (repeat (first | intro (b : Nat) | refine gg ?_))
    (refine G.call (h := by intro W hW; exact h1 ▸ b_DateValid _ _ _ W hW.base) (k := ?_))
    (repeat (first | intro (b : Nat) | refine gg ?_))
    (repeat (first | intro (b : Nat) | refine go ?_))
    (refine ret ?_; try exact rfl)
  cases h2 : dval y' m' d'
  · rw [bV_no (by simp [bOk, h2])]
    refine enter Tryd.func16 rfl Tryd.ntmps16 rfl (by assumption) ?_
    (repeat (first | intro (b : Nat) | refine go ?_))
    ((repeat (refine C.seq ?_)); apply C.draww 15 [some _, some _, none, none, some _, some _, none, none, none, some _, some _, some _, some _, none, none])
    (repeat (first | intro (b : Nat) | refine gg ?_))
    (refine G.call (h := by intro W hW; exact h1 ▸ b_DateValid _ _ _ W hW.base) (k := ?_))
    (repeat (first | intro (b : Nat) | refine gg ?_))
    (refine G.call (h := by intro W hW; exact h2 ▸ b_DateValid _ _ _ W hW.base) (k := ?_))
    (repeat (first | intro (b : Nat) | refine gg ?_))
    (repeat (first | intro (b : Nat) | refine go ?_))
    (refine ret ?_; try exact rfl)
  have hq1 := dnum_yes h1
  have hq2 := dnum_yes h2
  by_cases hle : num y m d ≤ num y' m' d'
  · rw [bV_yes (bOk_iff.2 ⟨h1, h2, hle⟩)]
    have hd := dval_bd h1
    have hd' := dval_bd h2
    have hB := btw h1 h2 hle
    have hv := mplus_val h1 hB.2.2.2.2.2.2.1 hB.2.2.2.2.2.2.2.1
    have ed : bd y m d y' m' d' = num y' m' d' - numR (mplus y m d (bn y m d y' m' d')) := rfl
    have hbd := hB.2.2.2.2.2.2.2.2.1
    have hbd2 := hB.2.2.2.2.2.2.2.2.2.1
    have hb0 := hB.2.2.2.2.1
    have hb1 := hB.2.2.2.2.2.1
    clear hB
    have hl := b_l41 y m d y' m' d' h1 h2 hle
    generalize bn y m d y' m' d' = N at *
    generalize hx : mplus y m d N = x at ed hv
    obtain ⟨xy, xm, xd, xok⟩ := x
    obtain ⟨rfl, hxv, hxs⟩ := hv
    simp only [numR] at ed hxv hxs
    have hq3 := dnum_yes hxv
    rw [ed] at hbd hbd2 ⊢
    clear ed
    refine enter Tryd.func16 rfl Tryd.ntmps16 rfl (by assumption) ?_
    (repeat (first | intro (b : Nat) | refine go ?_))
    ((repeat (refine C.seq ?_)); apply C.draww 15 [some _, some _, none, none, some _, some _, none, none, none, some _, some _, some _, some _, none, none])
    (repeat (first | intro (b : Nat) | refine gg ?_))
    (refine G.call (h := by intro W hW; exact h1 ▸ b_DateValid _ _ _ W hW.base) (k := ?_))
    (repeat (first | intro (b : Nat) | refine gg ?_))
    (refine G.call (h := by intro W hW; exact h2 ▸ b_DateValid _ _ _ W hW.base) (k := ?_))
    (repeat (first | intro (b : Nat) | refine gg ?_))
    (refine G.call (h := by intro W hW; exact hq1 ▸ b_DayNumber _ _ _ W hW.base) (k := ?_))
    (repeat (first | intro (b : Nat) | refine gg ?_))
    (refine G.call (h := by intro W hW; exact hq2 ▸ b_DayNumber _ _ _ W hW.base) (k := ?_))
    (repeat (first | intro (b : Nat) | refine gg ?_))
    (repeat' (first | intro (b : Nat) | refine go ?_ | (refine br ?_ ?_ <;> first | exact trivial | intro hq)))
    (refine L.call (h := by intro W hW; exact hl W hW.base) (k := ?_))
    (repeat (first | intro (b : Nat) | refine go ?_))
    (refine L.call (h := by intro W hW; exact hx ▸ b_MonthPlus _ _ _ _ W hW.base) (k := ?_))
    (repeat (first | intro (b : Nat) | refine go ?_))
    ((repeat (refine C.seq ?_)); apply C.draww 10 [none, none, none, none, some _, some _, some _, some _, none, none])
    (repeat (first | intro (b : Nat) | refine gg ?_))
    (refine G.call (h := by intro W hW; exact hq2 ▸ b_DayNumber _ _ _ W hW.base) (k := ?_))
    (repeat (first | intro (b : Nat) | refine gg ?_))
    (refine G.call (h := by intro W hW; exact hq3 ▸ b_DayNumber _ _ _ W hW.base) (k := ?_))
    (repeat (first | intro (b : Nat) | refine gg ?_))
    (repeat (first | intro (b : Nat) | refine go ?_))
    (refine ret ?_; try exact rfl)
  · rw [bV_no (by simp [bOk, hle])]
    refine enter Tryd.func16 rfl Tryd.ntmps16 rfl (by assumption) ?_
    (repeat (first | intro (b : Nat) | refine go ?_))
    ((repeat (refine C.seq ?_)); apply C.draww 15 [some _, some _, none, none, some _, some _, none, none, none, some _, some _, some _, some _, none, none])
    (repeat (first | intro (b : Nat) | refine gg ?_))
    (refine G.call (h := by intro W hW; exact h1 ▸ b_DateValid _ _ _ W hW.base) (k := ?_))
    (repeat (first | intro (b : Nat) | refine gg ?_))
    (refine G.call (h := by intro W hW; exact h2 ▸ b_DateValid _ _ _ W hW.base) (k := ?_))
    (repeat (first | intro (b : Nat) | refine gg ?_))
    (refine G.call (h := by intro W hW; exact hq1 ▸ b_DayNumber _ _ _ W hW.base) (k := ?_))
    (repeat (first | intro (b : Nat) | refine gg ?_))
    (refine G.call (h := by intro W hW; exact hq2 ▸ b_DayNumber _ _ _ W hW.base) (k := ?_))
    (repeat (first | intro (b : Nat) | refine gg ?_))
    (repeat' (first | intro (b : Nat) | refine go ?_ | (refine br ?_ ?_ <;> first | exact trivial | intro hq)))
    (refine ret ?_; try exact rfl)

theorem b_AgeOf (y m d y' m' d' : Int) (w : World) (hb : D.Base w) :
    Calls Tryd.prog 31 #[.agg #[.int .i64 y, .int .i64 m, .int .i64 d], .agg #[.int .i64 y', .int .i64 m', .int .i64 d']] w fun e w' => e = .returned (.int .i64 (age y m d y' m' d')) ∧ Below w.heap.size w w' := by
  cases h : bOk y m d y' m' d'
  · refine enter Tryd.func31 rfl Tryd.ntmps31 rfl (by assumption) ?_
    (repeat (first | intro (b : Nat) | refine go ?_))
    (refine L.call (h := by intro W hW; exact bV_no h ▸ b_DatesBetween _ _ _ _ _ _ W hW.base) (k := ?_))
    (repeat (first | intro (b : Nat) | refine go ?_))
    (refine ret ?_; try exact rfl)
    rw [age_bV, h]; rfl
  · refine enter Tryd.func31 rfl Tryd.ntmps31 rfl (by assumption) ?_
    (repeat (first | intro (b : Nat) | refine go ?_))
    (refine L.call (h := by intro W hW; exact bV_yes h ▸ b_DatesBetween _ _ _ _ _ _ W hW.base) (k := ?_))
    (repeat (first | intro (b : Nat) | refine go ?_))
    (refine ret ?_; try exact rfl)
    rw [age_bV, h]; rfl

end D
end Go.Proofs.YtgllmnmgojbgeaaDoor
