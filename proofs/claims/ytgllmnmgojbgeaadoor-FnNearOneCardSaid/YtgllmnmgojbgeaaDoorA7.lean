/- Walks: the date of any day, shifts by days, stamps of instants, rounding. -/
import Derived.Test.YtgllmnmgojbgeaaDoorA2
import Derived.Test.YtgllmnmgojbgeaaDoorA4
import Derived.Test.YtgllmnmgojbgeaaDoorP5
namespace Go.Proofs.YtgllmnmgojbgeaaDoor
set_option linter.unusedVariables false
set_option linter.unusedSimpArgs false
set_option maxRecDepth 100000
set_option maxHeartbeats 1000000
namespace D
open Go.RowKit
attribute [local irreducible] Calls

/-- A stamp and whether there is one, as values. -/
def srV (r : SR) : Value := .tuple #[.agg #[.int .i64 r.y, .int .i64 r.m, .int .i64 r.d, .int .i64 r.h, .int .i64 r.i, .int .i64 r.s, .int .i64 r.k, .int .i64 r.o], .bool r.ok]

theorem a_DateOfG (n : Int) (w : World) (hb : D.Base w) : Calls Tryd.prog 67 #[.int .i64 n] w fun e w' => e = .returned (drV (dateOf n)) ∧ Below w.heap.size w w' := by
  cases h : inR n 0 3652058 with
  | true =>
    obtain ⟨y, m, d, h1, rfl, h2⟩ := dateOf_yes h
    rw [h2]
    exact a_DateOf y m d h1 w hb
  | false =>
    rw [dateOf_no h]
    exact a_DateOf_no n h w hb

theorem a_DayPlusG (y m d n : Int) (w : World) (hb : D.Base w) : Calls Tryd.prog 35 #[.agg #[.int .i64 y, .int .i64 m, .int .i64 d], .int .i64 n] w fun e w' => e = .returned (drV (dayp y m d n)) ∧ Below w.heap.size w w' := by
  by_cases h : dval y m d = true ∧ inR n (-3652058) 3652058 = true
  · rw [dayp, if_pos h]
    cases hr : inR (num y m d + n) 0 3652058 with
    | true =>
      obtain ⟨y', m', d', h1, h2, h3⟩ := dateOf_yes hr
      rw [h3]
      exact a_DayPlus y m d n y' m' d' h.1 h1 h2.symm w hb
    | false =>
      rw [dateOf_no hr]
      exact a_DayPlus_no y m d n (fun k => by rw [hr] at k; cases k.2.2) w hb
  · rw [dayp, if_neg h]
    exact a_DayPlus_no y m d n (fun k => h ⟨k.1, k.2.1⟩) w hb

theorem a_clockAt (n : Int) (h0 : 0 ≤ n ∧ n ≤ 9223372036854775807) (w : World) (hb : D.Base w) : Calls Tryd.prog 103 #[.int .i64 n] w fun e w' => e = .returned (.agg #[.int .i64 (n / 3600000), .int .i64 (n / 60000 % 60), .int .i64 (n / 1000 % 60), .int .i64 (n % 1000)]) ∧ Below w.heap.size w w' := by
  refine enter Tryd.func103 rfl Tryd.ntmps103 rfl (by assumption) ?_
  (repeat' (first | intro (b : Nat) | refine go ?_ | (refine br ?_ ?_ <;> first | exact trivial | intro hq)))
  (refine ret ?_; try exact rfl)

theorem a_instantValid (n : Int) (w : World) (hb : D.Base w) : Calls Tryd.prog 102 #[.int .i64 n] w fun e w' => e = .returned (.bool (inR n (-86400000) 315537984000000)) ∧ Below w.heap.size w w' := by
  refine enter Tryd.func102 rfl Tryd.ntmps102 rfl (by assumption) ?_
  (repeat' (first | intro (b : Nat) | refine go ?_ | (refine br ?_ ?_ <;> first | exact trivial | intro hq) | refine L.call (h := by intro W hW; apply a_within _ _ _ W hW.base) (k := ?_)))
  (refine ret ?_; try exact rfl)

theorem a_StampAt (n o : Int) (w : World) (hb : D.Base w) : Calls Tryd.prog 86 #[.int .i64 n, .int .i64 o] w fun e w' => e = .returned (srV (stampAt n o)) ∧ Below w.heap.size w w' := by
  cases h1 : inR n (-86400000) 315537984000000
  · have e : stampAt n o = SR.no := if_neg (by simp [h1])
    rw [e]
    refine enter Tryd.func86 rfl Tryd.ntmps86 rfl (by assumption) ?_
    (repeat' (first | intro (b : Nat) | refine go ?_ | (refine br ?_ ?_ <;> first | exact trivial | intro hq) | refine L.call (h := by intro W hW; apply rvb h1 (a_instantValid _ W hW.base)) (k := ?_) | refine gg ?_ | refine G.call (h := by intro W hW; apply rvb h1 (a_instantValid _ W hW.base)) (k := ?_) | (apply C.draww (id := 9) 6 [some _, none, none, some _, none, none])))
    (refine ret ?_; try exact rfl)
  cases h2 : inR o (-1439) 1439
  · have e : stampAt n o = SR.no := if_neg (by simp [h2])
    rw [e]
    refine enter Tryd.func86 rfl Tryd.ntmps86 rfl (by assumption) ?_
    (repeat' (first | intro (b : Nat) | refine go ?_ | (refine br ?_ ?_ <;> first | exact trivial | intro hq) | refine L.call (h := by intro W hW; first | apply rvb h1 (a_instantValid _ W hW.base) | apply rvb h2 (a_offsetValid _ W hW.base)) (k := ?_) | refine gg ?_ | refine G.call (h := by intro W hW; first | apply rvb h1 (a_instantValid _ W hW.base) | apply rvb h2 (a_offsetValid _ W hW.base)) (k := ?_) | (apply C.draww (id := 9) 6 [some _, none, none, some _, none, none])))
    (refine ret ?_; try exact rfl)
  have hn := inR_true.1 h1
  have ho := inR_true.1 h2
  by_cases hL : 0 ≤ n + 60000 * o
  · have e : stampAt n o = stampL (n + 60000 * o) o := if_pos ⟨h1, h2, hL⟩
    rw [e]
    cases hr : inR ((n + 60000 * o) / 86400000) 0 3652058 with
    | true =>
      obtain ⟨y, m, d, k1, k2, k3⟩ := stampL_yes o hr
      rw [k3, srV]
      have k4 := a_DateOf y m d k1
      rw [k2] at k4
      refine enter Tryd.func86 rfl Tryd.ntmps86 rfl (by assumption) ?_
      (repeat' (first | intro (b : Nat) | refine go ?_ | (refine br ?_ ?_ <;> first | exact trivial | intro hq) | refine L.call (h := by intro W hW; first | apply rvb h1 (a_instantValid _ W hW.base) | apply rvb h2 (a_offsetValid _ W hW.base) | apply k4 W hW.base | apply a_clockAt _ (by omega) W hW.base) (k := ?_) | refine gg ?_ | refine G.call (h := by intro W hW; first | apply rvb h1 (a_instantValid _ W hW.base) | apply rvb h2 (a_offsetValid _ W hW.base) | apply k4 W hW.base | apply a_clockAt _ (by omega) W hW.base) (k := ?_) | (apply C.draww (id := 9) 6 [some _, none, none, some _, none, none])))
      (refine ret ?_; try exact rfl)
    | false =>
      rw [stampL_no o hr]
      refine enter Tryd.func86 rfl Tryd.ntmps86 rfl (by assumption) ?_
      (repeat' (first | intro (b : Nat) | refine go ?_ | (refine br ?_ ?_ <;> first | exact trivial | intro hq) | refine L.call (h := by intro W hW; first | apply rvb h1 (a_instantValid _ W hW.base) | apply rvb h2 (a_offsetValid _ W hW.base) | apply a_DateOf_no _ hr W hW.base) (k := ?_) | refine gg ?_ | refine G.call (h := by intro W hW; first | apply rvb h1 (a_instantValid _ W hW.base) | apply rvb h2 (a_offsetValid _ W hW.base) | apply a_DateOf_no _ hr W hW.base) (k := ?_) | (apply C.draww (id := 9) 6 [some _, none, none, some _, none, none])))
      (refine ret ?_; try exact rfl)
  · have e : stampAt n o = SR.no := if_neg (fun k => hL k.2.2)
    rw [e]
    refine enter Tryd.func86 rfl Tryd.ntmps86 rfl (by assumption) ?_
    (repeat' (first | intro (b : Nat) | refine go ?_ | (refine br ?_ ?_ <;> first | exact trivial | intro hq) | refine L.call (h := by intro W hW; first | apply rvb h1 (a_instantValid _ W hW.base) | apply rvb h2 (a_offsetValid _ W hW.base)) (k := ?_) | refine gg ?_ | refine G.call (h := by intro W hW; first | apply rvb h1 (a_instantValid _ W hW.base) | apply rvb h2 (a_offsetValid _ W hW.base)) (k := ?_) | (apply C.draww (id := 9) 6 [some _, none, none, some _, none, none])))
    (refine ret ?_; try exact rfl)

theorem a_Instant (y m d h i s k o : Int) (w : World) (hb : D.Base w) : Calls Tryd.prog 23 #[.agg #[.int .i64 y, .int .i64 m, .int .i64 d, .int .i64 h, .int .i64 i, .int .i64 s, .int .i64 k, .int .i64 o]] w fun e w' => e = .returned (.tuple #[.int .i64 (if sval y m d h i s k o = true then inst y m d h i s k o else 0), .bool (sval y m d h i s k o)]) ∧ Below w.heap.size w w' := by
  cases hv : sval y m d h i s k o
  · refine enter Tryd.func23 rfl Tryd.ntmps23 rfl (by assumption) ?_
    (repeat' (first | intro (b : Nat) | refine go ?_ | (refine br ?_ ?_ <;> first | exact trivial | intro hq) | refine L.call (h := by intro W hW; apply rvb hv (a_StampValid _ _ _ _ _ _ _ _ W hW.base)) (k := ?_)))
    (refine ret ?_; try exact rfl)
  · refine enter Tryd.func23 rfl Tryd.ntmps23 rfl (by assumption) ?_
    (repeat' (first | intro (b : Nat) | refine go ?_ | (refine br ?_ ?_ <;> first | exact trivial | intro hq) | refine L.call (h := by intro W hW; first | apply rvb hv (a_StampValid _ _ _ _ _ _ _ _ W hW.base) | apply a_instantOf _ _ _ _ _ _ _ _ hv W hW.base) (k := ?_)))
    (refine ret ?_; try exact rfl)

theorem a_unitValid (u : Int) (w : World) (hb : D.Base w) : Calls Tryd.prog 85 #[.int .i64 u] w fun e w' => e = .returned (.bool (isUnit u)) ∧ Below w.heap.size w w' := by
  refine enter Tryd.func85 rfl Tryd.ntmps85 rfl (by assumption) ?_
  (repeat' (first | intro (b : Nat) | refine go ?_ | (refine br ?_ ?_ <;> first | exact trivial | intro hq)))
  all_goals (refine ret ?_; try exact rfl)
  all_goals first | (simp_all [tupleOf, isUnit]; done) | (refine congrArg Value.bool ?_; rw [Bool.eq_iff_iff]; simp [isUnit]; omega)

theorem a_down (u t : Int) (hu : isUnit u = true) (ht : 0 ≤ t ∧ t ≤ 1000000000000000) (w : World) (hb : D.Base w) : Calls Tryd.prog 55 #[.int .i64 u, .int .i64 t] w fun e w' => e = .returned (.int .i64 (t - t % u)) ∧ Below w.heap.size w w' := by
  rcases isUnit_iff.1 hu with rfl | rfl | rfl | rfl
  all_goals
    refine enter Tryd.func55 rfl Tryd.ntmps55 rfl (by assumption) ?_
    (repeat' (first | intro (b : Nat) | refine go ?_ | (refine br ?_ ?_ <;> first | exact trivial | intro hq)))
    (refine ret ?_; try exact rfl)

theorem a_up (u t : Int) (hu : isUnit u = true) (ht : 0 ≤ t ∧ t ≤ 900000000000000) (w : World) (hb : D.Base w) : Calls Tryd.prog 63 #[.int .i64 u, .int .i64 t] w fun e w' => e = .returned (.int .i64 (t + u - 1 - (t + u - 1) % u)) ∧ Below w.heap.size w w' := by
  have h := isUnit_iff.1 hu
  refine enter Tryd.func63 rfl Tryd.ntmps63 rfl (by assumption) ?_
  (repeat' (first | intro (b : Nat) | refine go ?_ | (refine br ?_ ?_ <;> first | exact trivial | intro hq) | refine L.call (h := by intro W hW; apply a_down _ _ hu (by omega) W hW.base) (k := ?_)))
  (refine ret ?_; try exact rfl)

theorem a_near (u t : Int) (hu : isUnit u = true) (ht : 0 ≤ t ∧ t ≤ 900000000000000) (w : World) (hb : D.Base w) : Calls Tryd.prog 66 #[.int .i64 u, .int .i64 t] w fun e w' => e = .returned (.int .i64 (t + u / 2 - (t + u / 2) % u)) ∧ Below w.heap.size w w' := by
  have h := isUnit_iff.1 hu
  refine enter Tryd.func66 rfl Tryd.ntmps66 rfl (by assumption) ?_
  (repeat' (first | intro (b : Nat) | refine go ?_ | (refine br ?_ ?_ <;> first | exact trivial | intro hq) | refine L.call (h := by intro W hW; apply a_down _ _ hu (by omega) W hW.base) (k := ?_)))
  (refine ret ?_; try exact rfl)

theorem a_rounded (g : FuncId) (j : Ent Tryd.prog g) (y m d h i s k o u t : Int) (hway : sval y m d h i s k o = true → isUnit u = true → ∀ W, D.Base W → Calls Tryd.prog g #[.int .i64 u, .int .i64 (inst y m d h i s k o + 60000 * o)] W fun e w' => e = .returned (.int .i64 t) ∧ Below W.heap.size W w')
    (ht : sval y m d h i s k o = true → isUnit u = true → 0 ≤ t ∧ t ≤ 1000000000000000) (w : World) (hb : D.Base w) :
    Calls Tryd.prog 54 #[.agg #[.int .i64 y, .int .i64 m, .int .i64 d, .int .i64 h, .int .i64 i, .int .i64 s, .int .i64 k, .int .i64 o], .int .i64 u, .func (.func g) #[.int .i64 u] #[]] w fun e w' => e = .returned (srV (roundV (sval y m d h i s k o && isUnit u) t o)) ∧ Below w.heap.size w w' := by
  cases hv : sval y m d h i s k o
  · refine enter Tryd.func54 rfl Tryd.ntmps54 rfl (by assumption) ?_
    (repeat' (first | intro (b : Nat) | refine go ?_ | (refine br ?_ ?_ <;> first | exact trivial | intro hq) | refine L.call (h := by intro W hW; apply rvb hv (a_StampValid _ _ _ _ _ _ _ _ W hW.base)) (k := ?_) | refine L.callx (h := by intro W hW; apply rvb hv (a_StampValid _ _ _ _ _ _ _ _ W hW.base)) (k := ?_) | refine gg ?_ | refine G.call (h := by intro W hW; apply rvb hv (a_StampValid _ _ _ _ _ _ _ _ W hW.base)) (k := ?_) | refine G.callx (h := by intro W hW; apply rvb hv (a_StampValid _ _ _ _ _ _ _ _ W hW.base)) (k := ?_) | (apply C.draww (id := 3) 14 [none, some _, some _, some _, some _, none, some _, none, none, none, some _, some _, none, none])))
    (refine ret ?_; try exact rfl)
  · cases hu : isUnit u
    · refine enter Tryd.func54 rfl Tryd.ntmps54 rfl (by assumption) ?_
      (repeat' (first | intro (b : Nat) | refine go ?_ | (refine br ?_ ?_ <;> first | exact trivial | intro hq) | refine L.call (h := by intro W hW; first | apply rvb hv (a_StampValid _ _ _ _ _ _ _ _ W hW.base) | apply rvb hu (a_unitValid _ W hW.base)) (k := ?_) | refine L.callx (h := by intro W hW; first | apply rvb hv (a_StampValid _ _ _ _ _ _ _ _ W hW.base) | apply rvb hu (a_unitValid _ W hW.base)) (k := ?_) | refine gg ?_ | refine G.call (h := by intro W hW; first | apply rvb hv (a_StampValid _ _ _ _ _ _ _ _ W hW.base) | apply rvb hu (a_unitValid _ W hW.base)) (k := ?_) | refine G.callx (h := by intro W hW; first | apply rvb hv (a_StampValid _ _ _ _ _ _ _ _ W hW.base) | apply rvb hu (a_unitValid _ W hW.base)) (k := ?_) | (apply C.draww (id := 3) 14 [none, some _, some _, some _, some _, none, some _, none, none, none, some _, some _, none, none])))
      (refine ret ?_; try exact rfl)
    · obtain ⟨h1, h2, h3, h4⟩ := sval_parts hv
      have hn := num_bd h1
      have hlb := ht hv hu
      have hwy := hway hv hu
      have e : inst y m d h i s k o + 60000 * o = 86400000 * num y m d + cms h i s k := by unfold inst; omega
      rw [e] at hwy
      show Calls _ _ _ _ fun e w' => e = .returned (srV (stampAt (t - 60000 * o) o)) ∧ _
      have hS := a_StampAt (t - 60000 * o) o
      generalize stampAt (t - 60000 * o) o = S at hS ⊢
      obtain ⟨s1, s2, s3, s4, s5, s6, s7, s8, s9⟩ := S
      simp only [srV] at hS ⊢
      refine enter Tryd.func54 rfl Tryd.ntmps54 rfl (by assumption) ?_
      (repeat' (first | intro (b : Nat) | refine go ?_ | (refine br ?_ ?_ <;> first | exact trivial | intro hq) | refine L.call (h := by intro W hW; first | apply rvb hv (a_StampValid _ _ _ _ _ _ _ _ W hW.base) | apply rvb hu (a_unitValid _ W hW.base) | apply a_momentOf _ _ _ _ _ _ _ _ h1 W hW.base | apply a_local _ _ _ _ _ _ _ _ _ hn h2 W hW.base | apply hwy W hW.base | apply hS W hW.base) (k := ?_) | refine L.callx (h := by intro W hW; first | apply rvb hv (a_StampValid _ _ _ _ _ _ _ _ W hW.base) | apply rvb hu (a_unitValid _ W hW.base) | apply a_momentOf _ _ _ _ _ _ _ _ h1 W hW.base | apply a_local _ _ _ _ _ _ _ _ _ hn h2 W hW.base | apply hwy W hW.base | apply hS W hW.base) (k := ?_) | refine gg ?_ | refine G.call (h := by intro W hW; first | apply rvb hv (a_StampValid _ _ _ _ _ _ _ _ W hW.base) | apply rvb hu (a_unitValid _ W hW.base) | apply a_momentOf _ _ _ _ _ _ _ _ h1 W hW.base | apply a_local _ _ _ _ _ _ _ _ _ hn h2 W hW.base | apply hwy W hW.base | apply hS W hW.base) (k := ?_) | refine G.callx (h := by intro W hW; first | apply rvb hv (a_StampValid _ _ _ _ _ _ _ _ W hW.base) | apply rvb hu (a_unitValid _ W hW.base) | apply a_momentOf _ _ _ _ _ _ _ _ h1 W hW.base | apply a_local _ _ _ _ _ _ _ _ _ hn h2 W hW.base | apply hwy W hW.base | apply hS W hW.base) (k := ?_) | (apply C.draww (id := 3) 14 [none, some _, some _, some _, some _, none, some _, none, none, none, some _, some _, none, none])))
      (refine ret ?_; try exact rfl)

theorem a_RoundDown (y m d h i s k o u : Int) (w : World) (hb : D.Base w) :
    Calls Tryd.prog 21 #[.agg #[.int .i64 y, .int .i64 m, .int .i64 d, .int .i64 h, .int .i64 i, .int .i64 s, .int .i64 k, .int .i64 o], .int .i64 u] w fun e w' => e = .returned (srV (roundV (sval y m d h i s k o && isUnit u) (rdL (inst y m d h i s k o + 60000 * o) u) o)) ∧ Below w.heap.size w w' := by
  have hR := a_rounded 55 inferInstance y m d h i s k o u (rdL (inst y m d h i s k o + 60000 * o) u)
    (fun hv hu W hW => a_down u _ hu (by have := inst_bd hv; omega) W hW)
    (fun hv hu => by have := inst_bd hv; unfold rdL; rcases isUnit_iff.1 hu with rfl | rfl | rfl | rfl <;> omega)
  generalize roundV (sval y m d h i s k o && isUnit u) (rdL (inst y m d h i s k o + 60000 * o) u) o = S at hR ⊢
  obtain ⟨s1, s2, s3, s4, s5, s6, s7, s8, s9⟩ := S
  simp only [srV] at hR ⊢
  refine enter Tryd.func21 rfl Tryd.ntmps21 rfl (by assumption) ?_
  (repeat' (first | intro (b : Nat) | refine go ?_ | (refine br ?_ ?_ <;> first | exact trivial | intro hq) | refine L.call (h := by intro W hW; apply hR W hW.base) (k := ?_)))
  (refine ret ?_; try exact rfl)

theorem a_RoundUp (y m d h i s k o u : Int) (w : World) (hb : D.Base w) :
    Calls Tryd.prog 26 #[.agg #[.int .i64 y, .int .i64 m, .int .i64 d, .int .i64 h, .int .i64 i, .int .i64 s, .int .i64 k, .int .i64 o], .int .i64 u] w fun e w' => e = .returned (srV (roundV (sval y m d h i s k o && isUnit u) (ruL (inst y m d h i s k o + 60000 * o) u) o)) ∧ Below w.heap.size w w' := by
  have hR := a_rounded 63 inferInstance y m d h i s k o u (ruL (inst y m d h i s k o + 60000 * o) u)
    (fun hv hu W hW => a_up u _ hu (by have := inst_bd hv; omega) W hW)
    (fun hv hu => by have := inst_bd hv; unfold ruL; rcases isUnit_iff.1 hu with rfl | rfl | rfl | rfl <;> omega)
  generalize roundV (sval y m d h i s k o && isUnit u) (ruL (inst y m d h i s k o + 60000 * o) u) o = S at hR ⊢
  obtain ⟨s1, s2, s3, s4, s5, s6, s7, s8, s9⟩ := S
  simp only [srV] at hR ⊢
  refine enter Tryd.func26 rfl Tryd.ntmps26 rfl (by assumption) ?_
  (repeat' (first | intro (b : Nat) | refine go ?_ | (refine br ?_ ?_ <;> first | exact trivial | intro hq) | refine L.call (h := by intro W hW; apply hR W hW.base) (k := ?_)))
  (refine ret ?_; try exact rfl)

theorem a_RoundNear (y m d h i s k o u : Int) (w : World) (hb : D.Base w) :
    Calls Tryd.prog 33 #[.agg #[.int .i64 y, .int .i64 m, .int .i64 d, .int .i64 h, .int .i64 i, .int .i64 s, .int .i64 k, .int .i64 o], .int .i64 u] w fun e w' => e = .returned (srV (roundV (sval y m d h i s k o && isUnit u) (rnL (inst y m d h i s k o + 60000 * o) u) o)) ∧ Below w.heap.size w w' := by
  have hR := a_rounded 66 inferInstance y m d h i s k o u (rnL (inst y m d h i s k o + 60000 * o) u)
    (fun hv hu W hW => a_near u _ hu (by have := inst_bd hv; omega) W hW)
    (fun hv hu => by have := inst_bd hv; unfold rnL; rcases isUnit_iff.1 hu with rfl | rfl | rfl | rfl <;> omega)
  generalize roundV (sval y m d h i s k o && isUnit u) (rnL (inst y m d h i s k o + 60000 * o) u) o = S at hR ⊢
  obtain ⟨s1, s2, s3, s4, s5, s6, s7, s8, s9⟩ := S
  simp only [srV] at hR ⊢
  refine enter Tryd.func33 rfl Tryd.ntmps33 rfl (by assumption) ?_
  (repeat' (first | intro (b : Nat) | refine go ?_ | (refine br ?_ ?_ <;> first | exact trivial | intro hq) | refine L.call (h := by intro W hW; apply hR W hW.base) (k := ?_)))
  (refine ret ?_; try exact rfl)

end D
end Go.Proofs.YtgllmnmgojbgeaaDoor
