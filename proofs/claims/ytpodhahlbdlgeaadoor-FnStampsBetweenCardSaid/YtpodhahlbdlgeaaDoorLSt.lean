/- The walk of the law that a period leads near the second stamp. -/
import Derived.Test.YtpodhahlbdlgeaaDoorDr4
import Derived.Test.YtpodhahlbdlgeaaDoorA9
namespace Go.Proofs.YtpodhahlbdlgeaaDoor
set_option linter.unusedVariables false
set_option linter.unusedSimpArgs false
set_option maxRecDepth 100000
set_option maxHeartbeats 1000000
namespace D
open Go.RowKit
attribute [local irreducible] Calls

theorem splus_btw {y m d h i s k o t : Int} (hv : sval y m d h i s k o = true) (h0 : 0 ≤ t) (h1 : t / 86400 ≤ 9999) :
    splus y m d h i s k o 0 0 (t / 86400) (t / 3600 % 24) (t / 60 % 60) (t % 60) false = if num y m d + t / 86400 ≤ 3652058 then stampAt (inst y m d h i s k o + 1000 * t) o else SR.no := by
  obtain ⟨q1, q2, q3, q4⟩ := sval_parts hv
  have hp : perV 0 0 (t / 86400) (t / 3600 % 24) (t / 60 % 60) (t % 60) = true := perV_iff.2 (by omega)
  have hnb := num_bd q1
  have e1 : sgn false * (12 * 0 + 0) = 0 := by simp
  have e2 : sgn false * (t / 86400) = t / 86400 := by simp [sgn]
  have e3 : dshift y m d 0 (t / 86400) = dateOf (num y m d + t / 86400) := by
    unfold dshift
    rw [mplus_zero q1, if_pos rfl]
    unfold dayp
    rw [if_pos ⟨q1, inR_true.2 (by omega)⟩]
  unfold splus
  rw [e1, e2, e3]
  split
  · rename_i hc
    obtain ⟨y', m', d', k1, k2, k3⟩ := dateOf_ok hc.2.2
    have hb := num_bd k2
    rw [if_pos (by omega), k1]
    have e4 : inst y' m' d' h i s k o + sgn false * (1000 * ((t / 3600 % 24 * 60 + t / 60 % 60) * 60 + t % 60)) = inst y m d h i s k o + 1000 * t := by
      unfold inst
      simp only [sgn, Bool.false_eq_true, if_false]
      omega
    rw [e4]
  · rename_i hc
    rw [if_neg]
    intro hle
    obtain ⟨y', m', d', k1, k2, k3⟩ := dateOf_yes (n := num y m d + t / 86400) (inR_true.2 (by omega))
    exact hc ⟨hv, hp, by rw [k3]⟩

theorem far_of {i i' N N' C C' o o' t : Int} (hi : i = 86400000 * N + C - 60000 * o) (hi' : i' = 86400000 * N' + C' - 60000 * o') (h0 : 0 ≤ N) (hC : 0 ≤ C) (hC' : C' ≤ 86400000) (ho : -1439 ≤ o ∧ o ≤ 1439) (ho' : -1439 ≤ o' ∧ o' ≤ 1439) (ht0 : 0 ≤ t) (ht : 1000 * t ≤ i' - i) (hN : N' ≤ 3652055) :
    N + t / 86400 ≤ 3652058 ∧ 0 ≤ i + 1000 * t + 60000 * o ∧ (i + 1000 * t + 60000 * o) / 86400000 ≤ 3652058 := by
  omega

theorem law_FnStampsBetween (a : Option Addr) (n c : Nat) (w : World) (hc : n ≤ 1048576 → CodeAt w (.slice a n c)) (hb : D.Base w) (he : Err w) :
    Calls Tryd.prog 3 #[.slice a n c] w fun e w' => e = .returned (.bool true) ∧ Below w.heap.size w w' := by
  by_cases hn : n ≤ 1048576
  · refine enter Tryd.func3 rfl Tryd.ntmps3 rfl (by assumption) ?_
    (repeat' (first | intro (b : Nat) | refine go ?_ | (refine br ?_ ?_ <;> first | exact trivial | intro hq)))
    (refine L.vcall (h := by intro W hW; exact d_StampsBetween _ W ((hc hn).keep hW.low) hW.base) (k := ?_); intro v hR)
    obtain ⟨y, m, d, h, i, s, k, o, y', m', d', h', i', s', k', o', rfl⟩ := hR
    have hA := a_StampsBetween y m d h i s k o y' m' d' h' i' s' k' o'
    have hB := b_StampsBetween y m d h i s k o y' m' d' h' i' s' k' o'
    cases hk : sbOk y m d h i s k o y' m' d' h' i' s' k' o'
    · rw [hk] at hA hB
      simp only [secV, Bool.false_eq_true, if_false] at hA hB
      (repeat' (first | intro (b : Nat) | refine go ?_ | (refine br ?_ ?_ <;> first | exact trivial | intro hq) | refine L.call (h := by intro W hW; first | apply hA W hW.base (hW.err he) | apply hB W hW.base) (k := ?_)))
      all_goals (refine ret ?_; try exact rfl)
      all_goals simp [tupleOf]
    · rw [hk] at hA hB
      simp only [secV, if_true] at hA hB
      simp only [sbOk, Bool.and_eq_true, decide_eq_true_eq] at hk
      obtain ⟨⟨⟨k1, k2⟩, k3⟩, k4⟩ := hk
      obtain ⟨t, ht⟩ : ∃ t, t = (inst y' m' d' h' i' s' k' o' - inst y m d h i s k o) / 1000 := ⟨_, rfl⟩
      rw [← ht] at hA hB
      have ht0 : 0 ≤ t := by omega
      have ht1 : 1000 * t ≤ inst y' m' d' h' i' s' k' o' - inst y m d h i s k o := by omega
      have ht2 : inst y' m' d' h' i' s' k' o' - inst y m d h i s k o < 1000 * t + 1000 := by omega
      have ht3 : t / 86400 ≤ 9999 := by omega
      clear ht k3 k4
      have hP := a_StampPlus y m d h i s k o 0 0 (t / 86400) (t / 3600 % 24) (t / 60 % 60) (t % 60) false
      rw [splus_btw k1 ht0 ht3] at hP
      have hN : dnum y' m' d' = num y' m' d' := if_pos (sval_parts k2).1
      have hI' := a_Instant y' m' d' h' i' s' k' o'
      rw [k2] at hI'
      simp only [if_true] at hI'
      obtain ⟨q1, q2, q3, q4⟩ := sval_parts k1
      obtain ⟨r1, r2, r3, r4⟩ := sval_parts k2
      have far : num y' m' d' ≤ 3652055 → _ := far_of (t := t) (show inst y m d h i s k o = 86400000 * num y m d + cms h i s k - 60000 * o from rfl) (show inst y' m' d' h' i' s' k' o' = 86400000 * num y' m' d' + cms h' i' s' k' - 60000 * o' from rfl) (num_bd q1).1 (cms_bd q2).1 (cms_bd r2).2 ⟨q3, q4⟩ ⟨r3, r4⟩ ht0 ht1
      have hib := inst_bd k1
      have hib' := inst_bd k2
      have hb1 : -86400000 ≤ inst y m d h i s k o ∧ inst y m d h i s k o ≤ 315537984000000 := ⟨hib.1, hib.2.1⟩
      have hb2 : -86400000 ≤ inst y' m' d' h' i' s' k' o' ∧ inst y' m' d' h' i' s' k' o' ≤ 315537984000000 := ⟨hib'.1, hib'.2.1⟩
      have ho := inR_true.2 ⟨q3, q4⟩
      clear hib hib' q2 q3 q4 r2 r3 r4
      by_cases hl : num y m d + t / 86400 ≤ 3652058
      · rw [if_pos hl] at hP
        cases hok : (stampAt (inst y m d h i s k o + 1000 * t) o).ok
        · have hfar : 3652055 < num y' m' d' := Int.not_le.1 fun hle => by
            have := stampAt_yes ho (far hle).2.1 (far hle).2.2
            rw [hok] at this
            cases this
          generalize stampAt (inst y m d h i s k o + 1000 * t) o = S at hP hok
          obtain ⟨s1, s2, s3, s4, s5, s6, s7, s8, s9⟩ := S
          simp only at hok
          subst hok
          simp only [srV] at hP
          clear far hl ht1 ht2 hb1 hb2 hI'
          (repeat' (first | intro (b : Nat) | refine go ?_ | (refine br ?_ ?_ <;> first | exact trivial | intro hq) | refine L.call (h := by intro W hW; first | apply hA W hW.base (hW.err he) | apply hB W hW.base | apply hP W hW.base | apply rvi hN (a_DayNumber _ _ _ W hW.base)) (k := ?_)))
          all_goals (refine ret ?_; try exact rfl)
          all_goals (simp [tupleOf] <;> omega)
        · obtain ⟨yx, mx, dx, hx, ix, sx, kx, j1, j2, j3, j4, j5, j6, j7⟩ := stampAt_ok hok
          rw [j1] at hP
          simp only [srV] at hP
          have hI := a_Instant yx mx dx hx ix sx kx o
          rw [j2] at hI
          simp only [if_true, j3] at hI
          clear far hl j1 j2 j3 j4 j5 j6 j7 hok ho
          generalize inst y m d h i s k o = v at *
          generalize inst y' m' d' h' i' s' k' o' = v' at *
          (repeat' (first | intro (b : Nat) | refine go ?_ | (refine br ?_ ?_ <;> first | exact trivial | intro hq) | refine L.call (h := by intro W hW; first | apply hA W hW.base (hW.err he) | apply hB W hW.base | apply hP W hW.base | apply hI W hW.base | apply hI' W hW.base) (k := ?_)))
          all_goals (refine ret ?_; try exact rfl)
          all_goals (simp [tupleOf] <;> omega)
      · have hfar : 3652055 < num y' m' d' := Int.not_le.1 fun hle => hl (far hle).1
        rw [if_neg hl] at hP
        simp only [srV, SR.no] at hP
        clear far hl ht1 ht2 hb1 hb2 hI'
        (repeat' (first | intro (b : Nat) | refine go ?_ | (refine br ?_ ?_ <;> first | exact trivial | intro hq) | refine L.call (h := by intro W hW; first | apply hA W hW.base (hW.err he) | apply hB W hW.base | apply hP W hW.base | apply rvi hN (a_DayNumber _ _ _ W hW.base)) (k := ?_)))
        all_goals (refine ret ?_; try exact rfl)
        all_goals (simp [tupleOf] <;> omega)
  · refine enter Tryd.func3 rfl Tryd.ntmps3 rfl (by assumption) ?_
    (repeat' (first | intro (b : Nat) | refine go ?_ | (refine br ?_ ?_ <;> first | exact trivial | intro hq)))
    (refine ret ?_; try exact rfl)

end D
end Go.Proofs.YtpodhahlbdlgeaaDoor
