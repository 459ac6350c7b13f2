/- The walks of the laws on rounding. -/
import Derived.Test.YtgllmnmgojbgeaaDoorDr3
import Derived.Test.YtgllmnmgojbgeaaDoorS5
namespace Go.Proofs.YtgllmnmgojbgeaaDoor
set_option linter.unusedVariables false
set_option linter.unusedSimpArgs false
set_option maxRecDepth 100000
set_option maxHeartbeats 2000000
namespace D
open Go.RowKit
attribute [local irreducible] Calls

theorem inst_local {y m d h i s k o : Int} (hv : sval y m d h i s k o = true) : 0 ≤ inst y m d h i s k o + 60000 * o ∧ inst y m d h i s k o + 60000 * o ≤ 315537897600000 ∧ -1439 ≤ o ∧ o ≤ 1439 := by
  have := inst_bd hv
  have := (sval_parts hv).2.2
  omega

theorem sval_o {y m d h i s k o : Int} (hv : sval y m d h i s k o = true) : inR o (-1439) 1439 = true := by
  obtain ⟨_, _, h3, h4⟩ := sval_parts hv
  exact inR_true.2 ⟨h3, h4⟩

theorem law_FnDown (a : Option Addr) (n c : Nat) (w : World) (hc : n ≤ 1048576 → CodeAt w (.slice a n c)) (hb : D.Base w) :
    Calls Tryd.prog 5 #[.slice a n c] w fun e w' => e = .returned (.bool true) ∧ Below w.heap.size w w' := by
  by_cases hn : n ≤ 1048576
  · refine enter Tryd.func5 rfl Tryd.ntmps5 rfl (by assumption) ?_
    (repeat' (first | intro (b : Nat) | refine go ?_ | (refine br ?_ ?_ <;> first | exact trivial | intro hq)))
    (refine L.vcall (h := by intro W hW; exact d_RoundDown _ W ((hc hn).keep hW.low) hW.base) (k := ?_); intro v hR)
    obtain ⟨y, m, d, h, i, s, k, o, u, rfl, hu0, hu1⟩ := hR
    have hA := a_RoundDown y m d h i s k o u
    have hB := b_RoundDown y m d h i s k o u
    cases hk : sval y m d h i s k o && isUnit u
    · rw [hk] at hA hB
      simp only [roundV, Bool.false_eq_true, if_false, srV, SR.no] at hA hB
      (repeat' (first | intro (b : Nat) | refine go ?_ | (refine br ?_ ?_ <;> first | exact trivial | intro hq) | refine L.call (h := by intro W hW; first | apply hA W hW.base | apply hB W hW.base) (k := ?_)))
      all_goals (refine ret ?_; try exact rfl)
      all_goals simp [tupleOf]
    · obtain ⟨hv, hu⟩ := Bool.and_eq_true_iff.1 hk
      rw [hk] at hA hB
      simp only [roundV, if_true] at hA hB
      have hl := inst_local hv
      have hi := inst_bd hv
      have e1 : (if sval y m d h i s k o = true then inst y m d h i s k o else 0) = inst y m d h i s k o := if_pos hv
      have hI := a_Instant y m d h i s k o
      rw [hv] at hI
      simp only [if_true] at hI
      cases hok : (stampAt (rdL (inst y m d h i s k o + 60000 * o) u - 60000 * o) o).ok
      · generalize stampAt (rdL (inst y m d h i s k o + 60000 * o) u - 60000 * o) o = S at hA hB hok
        obtain ⟨s1, s2, s3, s4, s5, s6, s7, s8, s9⟩ := S
        simp only at hok
        subst hok
        simp only [srV] at hA hB
        (repeat' (first | intro (b : Nat) | refine go ?_ | (refine br ?_ ?_ <;> first | exact trivial | intro hq) | refine L.call (h := by intro W hW; first | apply hA W hW.base | apply hB W hW.base) (k := ?_)))
        all_goals (refine ret ?_; try exact rfl)
        all_goals simp [tupleOf]
      · obtain ⟨y', m', d', h', i', s', k', j1, j2, j3, j4, j5, j6, j7⟩ := stampAt_ok hok
        rw [j1] at hA hB
        simp only [srV] at hA hB
        have hI' := a_Instant y' m' d' h' i' s' k' o
        rw [j2] at hI'
        simp only [if_true, j3] at hI'
        have hu' := isUnit_iff.1 hu
        have hr := rd_bd (l := inst y m d h i s k o + 60000 * o) hu hl.1
        generalize rdL (inst y m d h i s k o + 60000 * o) u = t at *
        generalize inst y m d h i s k o = v at *
        (repeat' (first | intro (b : Nat) | refine go ?_ | (refine br ?_ ?_ <;> first | exact trivial | intro hq) | refine L.call (h := by intro W hW; first | apply hA W hW.base | apply hB W hW.base | apply hI W hW.base | apply hI' W hW.base) (k := ?_)))
        all_goals (refine ret ?_; try exact rfl)
        all_goals simp [tupleOf]
  · refine enter Tryd.func5 rfl Tryd.ntmps5 rfl (by assumption) ?_
    (repeat' (first | intro (b : Nat) | refine go ?_ | (refine br ?_ ?_ <;> first | exact trivial | intro hq)))
    (refine ret ?_; try exact rfl)

theorem law_FnUp (a : Option Addr) (n c : Nat) (w : World) (hc : n ≤ 1048576 → CodeAt w (.slice a n c)) (hb : D.Base w) :
    Calls Tryd.prog 8 #[.slice a n c] w fun e w' => e = .returned (.bool true) ∧ Below w.heap.size w w' := by
  by_cases hn : n ≤ 1048576
  · refine enter Tryd.func8 rfl Tryd.ntmps8 rfl (by assumption) ?_
    (repeat' (first | intro (b : Nat) | refine go ?_ | (refine br ?_ ?_ <;> first | exact trivial | intro hq)))
    (refine L.vcall (h := by intro W hW; exact d_RoundUp _ W ((hc hn).keep hW.low) hW.base) (k := ?_); intro v hR)
    obtain ⟨y, m, d, h, i, s, k, o, u, rfl, hu0, hu1⟩ := hR
    have hA := a_RoundUp y m d h i s k o u
    have hB := b_RoundUp y m d h i s k o u
    cases hk : sval y m d h i s k o && isUnit u
    · rw [hk] at hA hB
      simp only [roundV, Bool.false_eq_true, if_false, srV, SR.no] at hA hB
      (repeat' (first | intro (b : Nat) | refine go ?_ | (refine br ?_ ?_ <;> first | exact trivial | intro hq) | refine L.call (h := by intro W hW; first | apply hA W hW.base | apply hB W hW.base) (k := ?_)))
      all_goals (refine ret ?_; try exact rfl)
      all_goals simp [tupleOf]
    · obtain ⟨hv, hu⟩ := Bool.and_eq_true_iff.1 hk
      rw [hk] at hA hB
      simp only [roundV, if_true] at hA hB
      have hl := inst_local hv
      have hi := inst_bd hv
      have e1 : (if sval y m d h i s k o = true then inst y m d h i s k o else 0) = inst y m d h i s k o := if_pos hv
      have hI := a_Instant y m d h i s k o
      rw [hv] at hI
      simp only [if_true] at hI
      cases hok : (stampAt (ruL (inst y m d h i s k o + 60000 * o) u - 60000 * o) o).ok
      · generalize stampAt (ruL (inst y m d h i s k o + 60000 * o) u - 60000 * o) o = S at hA hB hok
        obtain ⟨s1, s2, s3, s4, s5, s6, s7, s8, s9⟩ := S
        simp only at hok
        subst hok
        simp only [srV] at hA hB
        (repeat' (first | intro (b : Nat) | refine go ?_ | (refine br ?_ ?_ <;> first | exact trivial | intro hq) | refine L.call (h := by intro W hW; first | apply hA W hW.base | apply hB W hW.base) (k := ?_)))
        all_goals (refine ret ?_; try exact rfl)
        all_goals simp [tupleOf]
      · obtain ⟨y', m', d', h', i', s', k', j1, j2, j3, j4, j5, j6, j7⟩ := stampAt_ok hok
        rw [j1] at hA hB
        simp only [srV] at hA hB
        have hI' := a_Instant y' m' d' h' i' s' k' o
        rw [j2] at hI'
        simp only [if_true, j3] at hI'
        have hu' := isUnit_iff.1 hu
        have hr := ru_bd (l := inst y m d h i s k o + 60000 * o) hu hl.1
        have hM := a_ClockMillis h' i' s' k'
        rw [if_pos (sval_parts j2).2.1, j4] at hM
        have e2 : ruL (inst y m d h i s k o + 60000 * o) u - 60000 * o + 60000 * o = ruL (inst y m d h i s k o + 60000 * o) u := by omega
        rw [e2] at hM
        have hm0 : 0 ≤ ruL (inst y m d h i s k o + 60000 * o) u % 86400000 := by omega
        generalize ruL (inst y m d h i s k o + 60000 * o) u = t at *
        generalize inst y m d h i s k o = v at *
        (repeat' (first | intro (b : Nat) | refine go ?_ | (refine br ?_ ?_ <;> first | exact trivial | intro hq) | refine L.call (h := by intro W hW; first | apply hA W hW.base | apply hB W hW.base | apply hI W hW.base | apply hI' W hW.base | apply hM W hW.base) (k := ?_)))
        all_goals (refine ret ?_; try exact rfl)
        all_goals (simp [tupleOf] <;> omega)
  · refine enter Tryd.func8 rfl Tryd.ntmps8 rfl (by assumption) ?_
    (repeat' (first | intro (b : Nat) | refine go ?_ | (refine br ?_ ?_ <;> first | exact trivial | intro hq)))
    (refine ret ?_; try exact rfl)

theorem law_FnUpDown (a : Option Addr) (n c : Nat) (w : World) (hc : n ≤ 1048576 → CodeAt w (.slice a n c)) (hb : D.Base w) :
    Calls Tryd.prog 7 #[.slice a n c] w fun e w' => e = .returned (.bool true) ∧ Below w.heap.size w w' := by
  by_cases hn : n ≤ 1048576
  · refine enter Tryd.func7 rfl Tryd.ntmps7 rfl (by assumption) ?_
    (repeat' (first | intro (b : Nat) | refine go ?_ | (refine br ?_ ?_ <;> first | exact trivial | intro hq)))
    (refine L.vcall (h := by intro W hW; exact d_RoundUp _ W ((hc hn).keep hW.low) hW.base) (k := ?_); intro v hR)
    obtain ⟨y, m, d, h, i, s, k, o, u, rfl, hu0, hu1⟩ := hR
    have hA := a_RoundUp y m d h i s k o u
    have hB := b_RoundUp y m d h i s k o u
    cases hk : sval y m d h i s k o && isUnit u
    · rw [hk] at hA hB
      simp only [roundV, Bool.false_eq_true, if_false, srV, SR.no] at hA hB
      (repeat' (first | intro (b : Nat) | refine go ?_ | (refine br ?_ ?_ <;> first | exact trivial | intro hq) | refine L.call (h := by intro W hW; first | apply hA W hW.base | apply hB W hW.base) (k := ?_)))
      all_goals (refine ret ?_; try exact rfl)
      all_goals simp [tupleOf]
    · obtain ⟨hv, hu⟩ := Bool.and_eq_true_iff.1 hk
      rw [hk] at hA hB
      simp only [roundV, if_true] at hA hB
      have hl := inst_local hv
      have hi := inst_bd hv
      have e1 : (if sval y m d h i s k o = true then inst y m d h i s k o else 0) = inst y m d h i s k o := if_pos hv
      have hI := a_Instant y m d h i s k o
      rw [hv] at hI
      simp only [if_true] at hI
      cases hok : (stampAt (ruL (inst y m d h i s k o + 60000 * o) u - 60000 * o) o).ok
      · generalize stampAt (ruL (inst y m d h i s k o + 60000 * o) u - 60000 * o) o = S at hA hB hok
        obtain ⟨s1, s2, s3, s4, s5, s6, s7, s8, s9⟩ := S
        simp only at hok
        subst hok
        simp only [srV] at hA hB
        (repeat' (first | intro (b : Nat) | refine go ?_ | (refine br ?_ ?_ <;> first | exact trivial | intro hq) | refine L.call (h := by intro W hW; first | apply hA W hW.base | apply hB W hW.base) (k := ?_)))
        all_goals (refine ret ?_; try exact rfl)
        all_goals simp [tupleOf]
      · obtain ⟨y', m', d', h', i', s', k', j1, j2, j3, j4, j5, j6, j7⟩ := stampAt_ok hok
        rw [j1] at hA hB
        simp only [srV] at hA hB
        have hI' := a_Instant y' m' d' h' i' s' k' o
        rw [j2] at hI'
        simp only [if_true, j3] at hI'
        have hu' := isUnit_iff.1 hu
        have hr := ru_bd (l := inst y m d h i s k o + 60000 * o) hu hl.1
        have hr2 := rd_bd (l := inst y m d h i s k o + 60000 * o) hu hl.1
        have hD := a_RoundDown y m d h i s k o u
        rw [hk] at hD
        simp only [roundV, if_true] at hD
        have hokD : (stampAt (rdL (inst y m d h i s k o + 60000 * o) u - 60000 * o) o).ok = true := stampAt_yes (sval_o hv) (by omega) (by omega)
        obtain ⟨yD, mD, dD, hD', iD, sD, kD, q1, q2, q3, q4, q5, q6, q7⟩ := stampAt_ok hokD
        rw [q1] at hD
        simp only [srV] at hD
        have hID := a_Instant yD mD dD hD' iD sD kD o
        rw [q2] at hID
        simp only [if_true, q3] at hID
        generalize ruL (inst y m d h i s k o + 60000 * o) u = t at *
        generalize rdL (inst y m d h i s k o + 60000 * o) u = t2 at *
        generalize inst y m d h i s k o = v at *
        (repeat' (first | intro (b : Nat) | refine go ?_ | (refine br ?_ ?_ <;> first | exact trivial | intro hq) | refine L.call (h := by intro W hW; first | apply hA W hW.base | apply hB W hW.base | apply hD W hW.base | apply hID W hW.base | apply hI' W hW.base) (k := ?_)))
        all_goals (refine ret ?_; try exact rfl)
        all_goals (simp [tupleOf] <;> omega)
  · refine enter Tryd.func7 rfl Tryd.ntmps7 rfl (by assumption) ?_
    (repeat' (first | intro (b : Nat) | refine go ?_ | (refine br ?_ ?_ <;> first | exact trivial | intro hq)))
    (refine ret ?_; try exact rfl)

theorem law_FnNear (a : Option Addr) (n c : Nat) (w : World) (hc : n ≤ 1048576 → CodeAt w (.slice a n c)) (hb : D.Base w) :
    Calls Tryd.prog 11 #[.slice a n c] w fun e w' => e = .returned (.bool true) ∧ Below w.heap.size w w' := by
  by_cases hn : n ≤ 1048576
  · refine enter Tryd.func11 rfl Tryd.ntmps11 rfl (by assumption) ?_
    (repeat' (first | intro (b : Nat) | refine go ?_ | (refine br ?_ ?_ <;> first | exact trivial | intro hq)))
    (refine L.vcall (h := by intro W hW; exact d_RoundNear _ W ((hc hn).keep hW.low) hW.base) (k := ?_); intro v hR)
    obtain ⟨y, m, d, h, i, s, k, o, u, rfl, hu0, hu1⟩ := hR
    have hA := a_RoundNear y m d h i s k o u
    have hB := b_RoundNear y m d h i s k o u
    cases hk : sval y m d h i s k o && isUnit u
    · rw [hk] at hA hB
      simp only [roundV, Bool.false_eq_true, if_false, srV, SR.no] at hA hB
      (repeat' (first | intro (b : Nat) | refine go ?_ | (refine br ?_ ?_ <;> first | exact trivial | intro hq) | refine L.call (h := by intro W hW; first | apply hA W hW.base | apply hB W hW.base) (k := ?_)))
      all_goals (refine ret ?_; try exact rfl)
      all_goals simp [tupleOf]
    · obtain ⟨hv, hu⟩ := Bool.and_eq_true_iff.1 hk
      rw [hk] at hA hB
      simp only [roundV, if_true] at hA hB
      have hl := inst_local hv
      have hi := inst_bd hv
      have e1 : (if sval y m d h i s k o = true then inst y m d h i s k o else 0) = inst y m d h i s k o := if_pos hv
      have hI := a_Instant y m d h i s k o
      rw [hv] at hI
      simp only [if_true] at hI
      cases hok : (stampAt (rnL (inst y m d h i s k o + 60000 * o) u - 60000 * o) o).ok
      · generalize stampAt (rnL (inst y m d h i s k o + 60000 * o) u - 60000 * o) o = S at hA hB hok
        obtain ⟨s1, s2, s3, s4, s5, s6, s7, s8, s9⟩ := S
        simp only at hok
        subst hok
        simp only [srV] at hA hB
        (repeat' (first | intro (b : Nat) | refine go ?_ | (refine br ?_ ?_ <;> first | exact trivial | intro hq) | refine L.call (h := by intro W hW; first | apply hA W hW.base | apply hB W hW.base) (k := ?_)))
        all_goals (refine ret ?_; try exact rfl)
        all_goals simp [tupleOf]
      · obtain ⟨y', m', d', h', i', s', k', j1, j2, j3, j4, j5, j6, j7⟩ := stampAt_ok hok
        rw [j1] at hA hB
        simp only [srV] at hA hB
        have hI' := a_Instant y' m' d' h' i' s' k' o
        rw [j2] at hI'
        simp only [if_true, j3] at hI'
        have hu' := isUnit_iff.1 hu
        have hr := rn_bd (l := inst y m d h i s k o + 60000 * o) hu hl.1
        generalize rnL (inst y m d h i s k o + 60000 * o) u = t at *
        generalize inst y m d h i s k o = v at *
        (repeat' (first | intro (b : Nat) | refine go ?_ | (refine br ?_ ?_ <;> first | exact trivial | intro hq) | refine L.call (h := by intro W hW; first | apply hA W hW.base | apply hB W hW.base | apply hI W hW.base | apply hI' W hW.base) (k := ?_)))
        all_goals (refine ret ?_; try exact rfl)
        all_goals (simp [tupleOf] <;> omega)
  · refine enter Tryd.func11 rfl Tryd.ntmps11 rfl (by assumption) ?_
    (repeat' (first | intro (b : Nat) | refine go ?_ | (refine br ?_ ?_ <;> first | exact trivial | intro hq)))
    (refine ret ?_; try exact rfl)

theorem law_FnNearOne (a : Option Addr) (n c : Nat) (w : World) (hc : n ≤ 1048576 → CodeAt w (.slice a n c)) (hb : D.Base w) :
    Calls Tryd.prog 10 #[.slice a n c] w fun e w' => e = .returned (.bool true) ∧ Below w.heap.size w w' := by
  by_cases hn : n ≤ 1048576
  · refine enter Tryd.func10 rfl Tryd.ntmps10 rfl (by assumption) ?_
    (repeat' (first | intro (b : Nat) | refine go ?_ | (refine br ?_ ?_ <;> first | exact trivial | intro hq)))
    (refine L.vcall (h := by intro W hW; exact d_RoundNear _ W ((hc hn).keep hW.low) hW.base) (k := ?_); intro v hR)
    obtain ⟨y, m, d, h, i, s, k, o, u, rfl, hu0, hu1⟩ := hR
    have hA := a_RoundNear y m d h i s k o u
    have hB := b_RoundNear y m d h i s k o u
    cases hk : sval y m d h i s k o && isUnit u
    · rw [hk] at hA hB
      simp only [roundV, Bool.false_eq_true, if_false, srV, SR.no] at hA hB
      (repeat' (first | intro (b : Nat) | refine go ?_ | (refine br ?_ ?_ <;> first | exact trivial | intro hq) | refine L.call (h := by intro W hW; first | apply hA W hW.base | apply hB W hW.base) (k := ?_)))
      all_goals (refine ret ?_; try exact rfl)
      all_goals simp [tupleOf]
    · obtain ⟨hv, hu⟩ := Bool.and_eq_true_iff.1 hk
      rw [hk] at hA hB
      simp only [roundV, if_true] at hA hB
      have hl := inst_local hv
      have hi := inst_bd hv
      have e1 : (if sval y m d h i s k o = true then inst y m d h i s k o else 0) = inst y m d h i s k o := if_pos hv
      have hI := a_Instant y m d h i s k o
      rw [hv] at hI
      simp only [if_true] at hI
      cases hok : (stampAt (rnL (inst y m d h i s k o + 60000 * o) u - 60000 * o) o).ok
      · generalize stampAt (rnL (inst y m d h i s k o + 60000 * o) u - 60000 * o) o = S at hA hB hok
        obtain ⟨s1, s2, s3, s4, s5, s6, s7, s8, s9⟩ := S
        simp only at hok
        subst hok
        simp only [srV] at hA hB
        (repeat' (first | intro (b : Nat) | refine go ?_ | (refine br ?_ ?_ <;> first | exact trivial | intro hq) | refine L.call (h := by intro W hW; first | apply hA W hW.base | apply hB W hW.base) (k := ?_)))
        all_goals (refine ret ?_; try exact rfl)
        all_goals simp [tupleOf]
      · obtain ⟨y', m', d', h', i', s', k', j1, j2, j3, j4, j5, j6, j7⟩ := stampAt_ok hok
        rw [j1] at hA hB
        simp only [srV] at hA hB
        have hI' := a_Instant y' m' d' h' i' s' k' o
        rw [j2] at hI'
        simp only [if_true, j3] at hI'
        have hu' := isUnit_iff.1 hu
        have hr := rn_bd (l := inst y m d h i s k o + 60000 * o) hu hl.1
        have hD := a_RoundDown y m d h i s k o u
        rw [hk] at hD
        simp only [roundV, if_true] at hD
        have hU := a_RoundUp y m d h i s k o u
        rw [hk] at hU
        simp only [roundV, if_true] at hU
        have hor : stampAt (rdL (inst y m d h i s k o + 60000 * o) u - 60000 * o) o = ⟨y', m', d', h', i', s', k', o, true⟩ ∨ stampAt (ruL (inst y m d h i s k o + 60000 * o) u - 60000 * o) o = ⟨y', m', d', h', i', s', k', o, true⟩ := by
          rcases hr.2.2 with e | e
          · exact .inl (e ▸ j1)
          · exact .inr (e ▸ j1)
        generalize stampAt (rdL (inst y m d h i s k o + 60000 * o) u - 60000 * o) o = S1 at hD hor
        generalize stampAt (ruL (inst y m d h i s k o + 60000 * o) u - 60000 * o) o = S2 at hU hor
        obtain ⟨s1, s2, s3, s4, s5, s6, s7, s8, s9⟩ := S1
        obtain ⟨r1, r2, r3, r4, r5, r6, r7, r8, r9⟩ := S2
        simp only [srV] at hD hU
        simp only [SR.mk.injEq] at hor
        cases s9 <;> cases r9 <;> simp only [Bool.false_eq_true, and_false, or_false, false_or, and_true] at hor
        all_goals
          (repeat' (first | intro (b : Nat) | refine go ?_ | (refine br ?_ ?_ <;> first | exact trivial | intro hq) | refine L.call (h := by intro W hW; first | apply hA W hW.base | apply hB W hW.base | apply hD W hW.base | apply hU W hW.base) (k := ?_)))
          all_goals (refine ret ?_; try exact rfl)
          all_goals (refine congrArg Value.bool (decide_eq_true ?_); omega)
  · refine enter Tryd.func10 rfl Tryd.ntmps10 rfl (by assumption) ?_
    (repeat' (first | intro (b : Nat) | refine go ?_ | (refine br ?_ ?_ <;> first | exact trivial | intro hq)))
    (refine ret ?_; try exact rfl)

end D
end Go.Proofs.YtgllmnmgojbgeaaDoor
