/- The walks of the laws on what is between dates. -/
import Derived.Test.YtgllmnmgojbgeaaDoorDr2
import Derived.Test.YtgllmnmgojbgeaaDoorS2
import Derived.Test.YtgllmnmgojbgeaaDoorA3
import Derived.Test.YtgllmnmgojbgeaaDoorA2
import Derived.Test.YtgllmnmgojbgeaaDoorEq
import Derived.Test.YtgllmnmgojbgeaaDoorA6
import Derived.Test.YtgllmnmgojbgeaaDoorPB
namespace Go.Proofs.YtgllmnmgojbgeaaDoor
set_option linter.unusedVariables false
set_option linter.unusedSimpArgs false
set_option maxRecDepth 100000
set_option maxHeartbeats 1000000
namespace D
open Go.RowKit
attribute [local irreducible] Calls

theorem law_FnBetweenSmall (a : Option Addr) (n c : Nat) (w : World) (hc : n ≤ 1048576 → CodeAt w (.slice a n c)) (hb : D.Base w) (he : Err w) :
    Calls Tryd.prog 6 #[.slice a n c] w fun e w' => e = .returned (.bool true) ∧ Below w.heap.size w w' := by
  by_cases hn : n ≤ 1048576
  · refine enter Tryd.func6 rfl Tryd.ntmps6 rfl (by assumption) ?_
    (repeat' (first | intro (b : Nat) | refine go ?_ | (refine br ?_ ?_ <;> first | exact trivial | intro hq)))
    (refine L.vcall (h := by intro W hW; exact d_DatesBetween _ W ((hc hn).keep hW.low) hW.base) (k := ?_); intro v hR)
    obtain ⟨y, m, d, y2, m2, d2, rfl⟩ := hR
    cases h : bOk y m d y2 m2 d2
    · have hV := bV_no h
      (repeat' (first | intro (b : Nat) | refine go ?_ | (refine br ?_ ?_ <;> first | exact trivial | intro hq) | refine L.call (h := by intro W hW; first | apply rv hV (a_DatesBetween _ _ _ _ _ _ W hW.base (hW.err he)) | apply rv hV (b_DatesBetween _ _ _ _ _ _ W hW.base)) (k := ?_)))
      all_goals (refine ret ?_; try exact rfl)
      all_goals simp [tupleOf]
    · have hV := bV_yes h
      obtain ⟨h1, h2, h3⟩ := bOk_iff.1 h
      have hB := btw h1 h2 h3
      generalize bn y m d y2 m2 d2 = N at *
      generalize bd y m d y2 m2 d2 = B at *
      (repeat' (first | intro (b : Nat) | refine go ?_ | (refine br ?_ ?_ <;> first | exact trivial | intro hq) | refine L.call (h := by intro W hW; first | apply rv hV (a_DatesBetween _ _ _ _ _ _ W hW.base (hW.err he)) | apply rv hV (b_DatesBetween _ _ _ _ _ _ W hW.base) | apply rvb (perV_of (by omega)) (a_PeriodValid _ _ _ _ _ _ W hW.base)) (k := ?_)))
      all_goals (refine ret ?_; try exact rfl)
      all_goals simp [tupleOf]
  · refine enter Tryd.func6 rfl Tryd.ntmps6 rfl (by assumption) ?_
    (repeat' (first | intro (b : Nat) | refine go ?_ | (refine br ?_ ?_ <;> first | exact trivial | intro hq)))
    (refine ret ?_; try exact rfl)

theorem law_FnBetweenMost (a : Option Addr) (n c : Nat) (w : World) (hc : n ≤ 1048576 → CodeAt w (.slice a n c)) (hb : D.Base w) (he : Err w) :
    Calls Tryd.prog 3 #[.slice a n c] w fun e w' => e = .returned (.bool true) ∧ Below w.heap.size w w' := by
  by_cases hn : n ≤ 1048576
  · refine enter Tryd.func3 rfl Tryd.ntmps3 rfl (by assumption) ?_
    (repeat' (first | intro (b : Nat) | refine go ?_ | (refine br ?_ ?_ <;> first | exact trivial | intro hq)))
    (refine L.vcall (h := by intro W hW; exact d_DatesBetween _ W ((hc hn).keep hW.low) hW.base) (k := ?_); intro v hR)
    obtain ⟨y, m, d, y2, m2, d2, rfl⟩ := hR
    cases h : bOk y m d y2 m2 d2
    · have hV := bV_no h
      (repeat' (first | intro (b : Nat) | refine go ?_ | (refine br ?_ ?_ <;> first | exact trivial | intro hq) | refine L.call (h := by intro W hW; first | apply rv hV (a_DatesBetween _ _ _ _ _ _ W hW.base (hW.err he)) | apply rv hV (b_DatesBetween _ _ _ _ _ _ W hW.base)) (k := ?_) | refine gg ?_ | refine G.call (h := by intro W hW; first | apply rv hV (a_DatesBetween _ _ _ _ _ _ W hW.base (hW.err he)) | apply rv hV (b_DatesBetween _ _ _ _ _ _ W hW.base)) (k := ?_) | (apply C.draww (id := 9) 10 [none, none, none, some _, some _, some _, some _, none, none, none])))
      all_goals (refine ret ?_; try exact rfl)
      all_goals simp [tupleOf]
    · have hV := bV_yes h
      obtain ⟨h1, h2, h3⟩ := bOk_iff.1 h
      have hB := btw h1 h2 h3
      have hM := fun hok => btw_most h1 h2 h3 hok
      have hd2 : dnum y2 m2 d2 = num y2 m2 d2 := if_pos h2
      generalize bn y m d y2 m2 d2 = N at *
      generalize bd y m d y2 m2 d2 = B at *
      have e : 12 * (N / 12) + N % 12 + 1 = N + 1 := by omega
      by_cases hok : 12 * y + m - 1 + (N + 1) ≤ 119999
      · obtain ⟨k1, k2, k3⟩ := hM hok
        clear hM
        generalize hx : mplus y m d (N + 1) = x at k1 k2 k3
        obtain ⟨xy, xm, xd, xok⟩ := x
        simp only at k1 k2
        subst k1
        have hdx : dnum xy xm xd = num xy xm xd := if_pos k2
        have k4 := num_bd k2
        simp only [numR] at k3
        have hx' : drV (mplus y m d (12 * (N / 12) + N % 12 + 1)) = .tuple #[.agg #[.int .i64 xy, .int .i64 xm, .int .i64 xd], .bool true] := by rw [e, hx]; rfl
        (repeat' (first | intro (b : Nat) | refine go ?_ | (refine br ?_ ?_ <;> first | exact trivial | intro hq) | refine L.call (h := by intro W hW; first | apply rv hV (a_DatesBetween _ _ _ _ _ _ W hW.base (hW.err he)) | apply rv hV (b_DatesBetween _ _ _ _ _ _ W hW.base) | apply rv hx' (a_MonthPlus _ _ _ _ W hW.base) | apply rvi hdx (a_DayNumber _ _ _ W hW.base) | apply rvi hd2 (a_DayNumber _ _ _ W hW.base)) (k := ?_) | refine gg ?_ | refine G.call (h := by intro W hW; first | apply rv hV (a_DatesBetween _ _ _ _ _ _ W hW.base (hW.err he)) | apply rv hV (b_DatesBetween _ _ _ _ _ _ W hW.base) | apply rv hx' (a_MonthPlus _ _ _ _ W hW.base) | apply rvi hdx (a_DayNumber _ _ _ W hW.base) | apply rvi hd2 (a_DayNumber _ _ _ W hW.base)) (k := ?_) | (apply C.draww (id := 9) 10 [none, none, none, some _, some _, some _, some _, none, none, none])))
        all_goals (refine ret ?_; try exact rfl)
        all_goals (simp [tupleOf] <;> omega)
      · have hx : mplus y m d (N + 1) = DR.no := mplus_out (by unfold mpT; omega)
        have hx' : drV (mplus y m d (12 * (N / 12) + N % 12 + 1)) = .tuple #[.agg #[.int .i64 0, .int .i64 0, .int .i64 0], .bool false] := by rw [e, hx]; rfl
        (repeat' (first | intro (b : Nat) | refine go ?_ | (refine br ?_ ?_ <;> first | exact trivial | intro hq) | refine L.call (h := by intro W hW; first | apply rv hV (a_DatesBetween _ _ _ _ _ _ W hW.base (hW.err he)) | apply rv hV (b_DatesBetween _ _ _ _ _ _ W hW.base) | apply rv hx' (a_MonthPlus _ _ _ _ W hW.base)) (k := ?_) | refine gg ?_ | refine G.call (h := by intro W hW; first | apply rv hV (a_DatesBetween _ _ _ _ _ _ W hW.base (hW.err he)) | apply rv hV (b_DatesBetween _ _ _ _ _ _ W hW.base) | apply rv hx' (a_MonthPlus _ _ _ _ W hW.base)) (k := ?_) | (apply C.draww (id := 9) 10 [none, none, none, some _, some _, some _, some _, none, none, none])))
        all_goals (refine ret ?_; try exact rfl)
        all_goals simp [tupleOf]
  · refine enter Tryd.func3 rfl Tryd.ntmps3 rfl (by assumption) ?_
    (repeat' (first | intro (b : Nat) | refine go ?_ | (refine br ?_ ?_ <;> first | exact trivial | intro hq)))
    (refine ret ?_; try exact rfl)

theorem law_FnBetweenWhen (a : Option Addr) (n c : Nat) (w : World) (hc : n ≤ 1048576 → CodeAt w (.slice a n c)) (hb : D.Base w) (he : Err w) :
    Calls Tryd.prog 4 #[.slice a n c] w fun e w' => e = .returned (.bool true) ∧ Below w.heap.size w w' := by
  by_cases hn : n ≤ 1048576
  · refine enter Tryd.func4 rfl Tryd.ntmps4 rfl (by assumption) ?_
    (repeat' (first | intro (b : Nat) | refine go ?_ | (refine br ?_ ?_ <;> first | exact trivial | intro hq)))
    (refine L.vcall (h := by intro W hW; exact d_DatesBetween _ W ((hc hn).keep hW.low) hW.base) (k := ?_); intro v hR)
    obtain ⟨y, m, d, y2, m2, d2, rfl⟩ := hR
    cases h1 : dval y m d
    · have hV := bV_no (y := y) (m := m) (d := d) (y' := y2) (m' := m2) (d' := d2) (by simp [bOk, h1])
      (repeat' (first | intro (b : Nat) | refine go ?_ | (refine br ?_ ?_ <;> first | exact trivial | intro hq) | refine L.call (h := by intro W hW; first | apply rv hV (a_DatesBetween _ _ _ _ _ _ W hW.base (hW.err he)) | apply rv hV (b_DatesBetween _ _ _ _ _ _ W hW.base) | apply rvb h1 (a_DateValid _ _ _ W hW.base)) (k := ?_) | refine gg ?_ | refine G.call (h := by intro W hW; first | apply rv hV (a_DatesBetween _ _ _ _ _ _ W hW.base (hW.err he)) | apply rv hV (b_DatesBetween _ _ _ _ _ _ W hW.base) | apply rvb h1 (a_DateValid _ _ _ W hW.base)) (k := ?_) | (apply C.draww (id := 8) 29 [none, some _, some _, none, some _, some _, none, none, some _, some _, some _, some _, none, none, none, none, none, none, none, some _, none, none, some _, some _, none, none, none, none, none])))
      all_goals (refine ret ?_; try exact rfl)
    · cases h2 : dval y2 m2 d2
      · have hV := bV_no (y := y) (m := m) (d := d) (y' := y2) (m' := m2) (d' := d2) (by simp [bOk, h2])
        (repeat' (first | intro (b : Nat) | refine go ?_ | (refine br ?_ ?_ <;> first | exact trivial | intro hq) | refine L.call (h := by intro W hW; first | apply rv hV (a_DatesBetween _ _ _ _ _ _ W hW.base (hW.err he)) | apply rv hV (b_DatesBetween _ _ _ _ _ _ W hW.base) | apply rvb h1 (a_DateValid _ _ _ W hW.base) | apply rvb h2 (a_DateValid _ _ _ W hW.base)) (k := ?_) | refine gg ?_ | refine G.call (h := by intro W hW; first | apply rv hV (a_DatesBetween _ _ _ _ _ _ W hW.base (hW.err he)) | apply rv hV (b_DatesBetween _ _ _ _ _ _ W hW.base) | apply rvb h1 (a_DateValid _ _ _ W hW.base) | apply rvb h2 (a_DateValid _ _ _ W hW.base)) (k := ?_) | (apply C.draww (id := 8) 29 [none, some _, some _, none, some _, some _, none, none, some _, some _, some _, some _, none, none, none, none, none, none, none, some _, none, none, some _, some _, none, none, none, none, none])))
        all_goals (refine ret ?_; try exact rfl)
      · have hq1 : dnum y m d = num y m d := if_pos h1
        have hq2 : dnum y2 m2 d2 = num y2 m2 d2 := if_pos h2
        by_cases hle : num y m d ≤ num y2 m2 d2
        · have hV := bV_yes (bOk_iff.2 ⟨h1, h2, hle⟩)
          have hS := btw_same h1 h2 hle
          have hB := btw h1 h2 hle
          generalize bn y m d y2 m2 d2 = N at *
          generalize bd y m d y2 m2 d2 = B at *
          have hd : decide (num y m d ≤ num y2 m2 d2) = true := decide_eq_true hle
          (repeat' (first | intro (b : Nat) | refine go ?_ | (refine br ?_ ?_ <;> first | exact trivial | intro hq) | refine L.call (h := by intro W hW; first | apply rv hV (a_DatesBetween _ _ _ _ _ _ W hW.base (hW.err he)) | apply rv hV (b_DatesBetween _ _ _ _ _ _ W hW.base) | apply rvb h1 (a_DateValid _ _ _ W hW.base) | apply rvb h2 (a_DateValid _ _ _ W hW.base) | apply rvi hq1 (a_DayNumber _ _ _ W hW.base) | apply rvi hq2 (a_DayNumber _ _ _ W hW.base)) (k := ?_) | refine gg ?_ | refine G.call (h := by intro W hW; first | apply rv hV (a_DatesBetween _ _ _ _ _ _ W hW.base (hW.err he)) | apply rv hV (b_DatesBetween _ _ _ _ _ _ W hW.base) | apply rvb h1 (a_DateValid _ _ _ W hW.base) | apply rvb h2 (a_DateValid _ _ _ W hW.base) | apply rvi hq1 (a_DayNumber _ _ _ W hW.base) | apply rvi hq2 (a_DayNumber _ _ _ W hW.base)) (k := ?_) | (apply C.draww (id := 8) 29 [none, some _, some _, none, some _, some _, none, none, some _, some _, some _, some _, none, none, none, none, none, none, none, some _, none, none, some _, some _, none, none, none, none, none])))
          all_goals (refine ret ?_; try exact rfl)
          all_goals refine congrArg Value.bool ?_
          all_goals rw [beq_iff_eq, decide_eq_decide, ← hS]
          all_goals omega
        · have hV := bV_no (y := y) (m := m) (d := d) (y' := y2) (m' := m2) (d' := d2) (by simp [bOk, hle])
          have hd : decide (num y m d ≤ num y2 m2 d2) = false := decide_eq_false hle
          (repeat' (first | intro (b : Nat) | refine go ?_ | (refine br ?_ ?_ <;> first | exact trivial | intro hq) | refine L.call (h := by intro W hW; first | apply rv hV (a_DatesBetween _ _ _ _ _ _ W hW.base (hW.err he)) | apply rv hV (b_DatesBetween _ _ _ _ _ _ W hW.base) | apply rvb h1 (a_DateValid _ _ _ W hW.base) | apply rvb h2 (a_DateValid _ _ _ W hW.base) | apply rvi hq1 (a_DayNumber _ _ _ W hW.base) | apply rvi hq2 (a_DayNumber _ _ _ W hW.base)) (k := ?_) | refine gg ?_ | refine G.call (h := by intro W hW; first | apply rv hV (a_DatesBetween _ _ _ _ _ _ W hW.base (hW.err he)) | apply rv hV (b_DatesBetween _ _ _ _ _ _ W hW.base) | apply rvb h1 (a_DateValid _ _ _ W hW.base) | apply rvb h2 (a_DateValid _ _ _ W hW.base) | apply rvi hq1 (a_DayNumber _ _ _ W hW.base) | apply rvi hq2 (a_DayNumber _ _ _ W hW.base)) (k := ?_) | (apply C.draww (id := 8) 29 [none, some _, some _, none, some _, some _, none, none, some _, some _, some _, some _, none, none, none, none, none, none, none, some _, none, none, some _, some _, none, none, none, none, none])))
          all_goals (refine ret ?_; try exact rfl)
  · refine enter Tryd.func4 rfl Tryd.ntmps4 rfl (by assumption) ?_
    (repeat' (first | intro (b : Nat) | refine go ?_ | (refine br ?_ ?_ <;> first | exact trivial | intro hq)))
    (refine ret ?_; try exact rfl)

theorem law_FnAgeNext (a : Option Addr) (n c : Nat) (w : World) (hc : n ≤ 1048576 → CodeAt w (.slice a n c)) (hb : D.Base w) (he : Err w) :
    Calls Tryd.prog 12 #[.slice a n c] w fun e w' => e = .returned (.bool true) ∧ Below w.heap.size w w' := by
  by_cases hn : n ≤ 1048576
  · refine enter Tryd.func12 rfl Tryd.ntmps12 rfl (by assumption) ?_
    (repeat' (first | intro (b : Nat) | refine go ?_ | (refine br ?_ ?_ <;> first | exact trivial | intro hq)))
    (refine L.vcall (h := by intro W hW; exact d_AgeOf _ W ((hc hn).keep hW.low) hW.base) (k := ?_); intro v hR)
    obtain ⟨y, m, d, y2, m2, d2, rfl⟩ := hR
    cases h : bOk y m d y2 m2 d2
    · have ha : age y m d y2 m2 d2 = -1 := by rw [age_bV, h]; rfl
      (repeat' (first | intro (b : Nat) | refine go ?_ | (refine br ?_ ?_ <;> first | exact trivial | intro hq) | refine L.call (h := by intro W hW; first | apply rvi ha (a_AgeOf _ _ _ _ _ _ W hW.base (hW.err he)) | apply rvi ha (b_AgeOf _ _ _ _ _ _ W hW.base)) (k := ?_)))
      all_goals (refine ret ?_; try exact rfl)
      all_goals simp [tupleOf]
    · obtain ⟨h1, h2, h3⟩ := bOk_iff.1 h
      have hB := btw h1 h2 h3
      have hb2 := num_bd h2
      have ha : age y m d y2 m2 d2 = bn y m d y2 m2 d2 / 12 := by rw [age_bV, h]; rfl
      by_cases hl : num y2 m2 d2 + 1 ≤ 3652058
      · obtain ⟨y3, m3, d3, h4, h5⟩ := date_ex (n := num y2 m2 d2 + 1) (by omega) hl
        have hN := btw_next h1 h2 h3 h4 h5
        have ha3 : age y m d y3 m3 d3 = bn y m d y3 m3 d3 / 12 := by rw [age_bV, bOk_iff.2 ⟨h1, h4, by omega⟩]; rfl
        generalize bn y m d y2 m2 d2 = N at *
        generalize bn y m d y3 m3 d3 = N3 at *
        (repeat' (first | intro (b : Nat) | refine go ?_ | (refine br ?_ ?_ <;> first | exact trivial | intro hq) | refine L.call (h := by intro W hW; first | apply rvi ha (a_AgeOf _ _ _ _ _ _ W hW.base (hW.err he)) | apply rvi ha (b_AgeOf _ _ _ _ _ _ W hW.base) | apply (a_DayPlus _ _ _ _ y3 m3 d3 h2 h4 h5.symm W hW.base) | apply rvi ha3 (a_AgeOf _ _ _ _ _ _ W hW.base (hW.err he))) (k := ?_)))
        all_goals (refine ret ?_; try exact rfl)
        all_goals (simp [tupleOf] <;> omega)
      · have hno : ¬ (dval y2 m2 d2 = true ∧ inR 1 (-3652058) 3652058 = true ∧ inR (num y2 m2 d2 + 1) 0 3652058 = true) := fun k => by have := inR_true.1 k.2.2; omega
        generalize bn y m d y2 m2 d2 = N at *
        (repeat' (first | intro (b : Nat) | refine go ?_ | (refine br ?_ ?_ <;> first | exact trivial | intro hq) | refine L.call (h := by intro W hW; first | apply rvi ha (a_AgeOf _ _ _ _ _ _ W hW.base (hW.err he)) | apply rvi ha (b_AgeOf _ _ _ _ _ _ W hW.base) | apply (a_DayPlus_no _ _ _ _ hno W hW.base) | apply (a_AgeOf _ _ _ _ _ _ W hW.base (hW.err he))) (k := ?_)))
        all_goals (refine ret ?_; try exact rfl)
  · refine enter Tryd.func12 rfl Tryd.ntmps12 rfl (by assumption) ?_
    (repeat' (first | intro (b : Nat) | refine go ?_ | (refine br ?_ ?_ <;> first | exact trivial | intro hq)))
    (refine ret ?_; try exact rfl)

end D
end Go.Proofs.YtgllmnmgojbgeaaDoor
