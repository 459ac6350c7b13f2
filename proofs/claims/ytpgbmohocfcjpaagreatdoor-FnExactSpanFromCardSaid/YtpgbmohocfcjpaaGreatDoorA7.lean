/- Walks: the date of any day, shifts by days, stamps of instants, rounding. -/
import Derived.Test.YtpgbmohocfcjpaaGreatDoorA2
import Derived.Test.YtpgbmohocfcjpaaGreatDoorA4
import Derived.Test.YtpgbmohocfcjpaaGreatDoorPL
namespace Go.Proofs.YtpgbmohocfcjpaaGreatDoor
set_option linter.unusedVariables false
set_option linter.unusedSimpArgs false
set_option maxRecDepth 100000
set_option maxHeartbeats 1000000
namespace D
open Go.RowKit
attribute [local irreducible] Calls

/-- A stamp and whether there is one, as values. -/
def srV (r : SR) : Value := .tuple #[.agg #[.int .i64 r.y, .int .i64 r.m, .int .i64 r.d, .int .i64 r.h, .int .i64 r.i, .int .i64 r.s, .int .i64 r.k, .int .i64 r.o], .bool r.ok]

theorem a_DateOfG (n : Int) (w : World) (hb : D.Base w) : Calls Tryz.prog 140 #[.int .i64 n] w fun e w' => e = .returned (drV (dateOf n)) ∧ Below w.heap.size w w' := by
  cases h : inR n 0 3652058 with
  | true =>
    obtain ⟨y, m, d, h1, rfl, h2⟩ := dateOf_yes h
    rw [h2]
    exact a_DateOf y m d h1 w hb
  | false =>
    rw [dateOf_no h]
    exact a_DateOf_no n h w hb

theorem a_DayPlusG (y m d n : Int) (w : World) (hb : D.Base w) : Calls Tryz.prog 138 #[.agg #[.int .i64 y, .int .i64 m, .int .i64 d], .int .i64 n] w fun e w' => e = .returned (drV (dayp y m d n)) ∧ Below w.heap.size w w' := by
  by_cases h : dval y m d = true ∧ inR n (-3652058) 3652058 = true
  · rw [dayp, if_pos h]
    cases hr : inR (num y m d + n) 0 3652058 with
    | true =>
      obtain ⟨y', m', d', h1, h2, h3⟩ := dateOf_yes hr
      rw [h3]
      exact a_DayPlus y m d n y' m' d' h.1 h1 h2.symm w hb
    | false =>
      rw [dateOf_no hr]
      exact a_DayPlus_no y m d n (fun k => by rw [hr] at k; cases k.2.2) w hb
  · rw [dayp, if_neg h]
    exact a_DayPlus_no y m d n (fun k => h ⟨k.1, k.2.1⟩) w hb

theorem a_clockAt (n : Int) (h0 : 0 ≤ n ∧ n ≤ 9223372036854775807) (w : World) (hb : D.Base w) : Calls Tryz.prog 141 #[.int .i64 n] w fun e w' => e = .returned (.agg #[.int .i64 (n / 3600000), .int .i64 (n / 60000 % 60), .int .i64 (n / 1000 % 60), .int .i64 (n % 1000)]) ∧ Below w.heap.size w w' := by
  refine enter Tryz.func141 rfl Tryz.ntmps141 rfl (by assumption) ?_
  (repeat' (first | intro (b : Nat) | refine go ?_ | (refine br ?_ ?_ <;> first | exact trivial | intro hq)))
  (refine ret ?_; try exact rfl)

theorem a_instantValid (n : Int) (w : World) (hb : D.Base w) : Calls Tryz.prog 139 #[.int .i64 n] w fun e w' => e = .returned (.bool (inR n (-86400000) 315537984000000)) ∧ Below w.heap.size w w' := by
  refine enter Tryz.func139 rfl Tryz.ntmps139 rfl (by assumption) ?_
  (repeat' (first | intro (b : Nat) | refine go ?_ | (refine br ?_ ?_ <;> first | exact trivial | intro hq) | refine L.call (h := by intro W hW; apply a_within _ _ _ W hW.base) (k := ?_)))
  (refine ret ?_; try exact rfl)

theorem a_StampAt (n o : Int) (w : World) (hb : D.Base w) : Calls Tryz.prog 87 #[.int .i64 n, .int .i64 o] w fun e w' => e = .returned (srV (stampAt n o)) ∧ Below w.heap.size w w' := by
  cases h1 : inR n (-86400000) 315537984000000
  · have e : stampAt n o = SR.no := if_neg (by simp [h1])
    rw [e]
    refine enter Tryz.func87 rfl Tryz.ntmps87 rfl (by assumption) ?_
    (repeat' (first | intro (b : Nat) | refine go ?_ | (refine br ?_ ?_ <;> first | exact trivial | intro hq) | refine L.call (h := by intro W hW; apply rvb h1 (a_instantValid _ W hW.base)) (k := ?_) | refine gg ?_ | refine G.call (h := by intro W hW; apply rvb h1 (a_instantValid _ W hW.base)) (k := ?_) | (apply C.draww (id := 9) 6 [some _, none, none, some _, none, none])))
    (refine ret ?_; try exact rfl)
  cases h2 : inR o (-1439) 1439
  · have e : stampAt n o = SR.no := if_neg (by simp [h2])
    rw [e]
    refine enter Tryz.func87 rfl Tryz.ntmps87 rfl (by assumption) ?_
    (repeat' (first | intro (b : Nat) | refine go ?_ | (refine br ?_ ?_ <;> first | exact trivial | intro hq) | refine L.call (h := by intro W hW; first | apply rvb h1 (a_instantValid _ W hW.base) | apply rvb h2 (a_offsetValid _ W hW.base)) (k := ?_) | refine gg ?_ | refine G.call (h := by intro W hW; first | apply rvb h1 (a_instantValid _ W hW.base) | apply rvb h2 (a_offsetValid _ W hW.base)) (k := ?_) | (apply C.draww (id := 9) 6 [some _, none, none, some _, none, none])))
    (refine ret ?_; try exact rfl)
  have hn := inR_true.1 h1
  have ho := inR_true.1 h2
  by_cases hL : 0 ≤ n + 60000 * o
  · have e : stampAt n o = stampL (n + 60000 * o) o := if_pos ⟨h1, h2, hL⟩
    rw [e]
    cases hr : inR ((n + 60000 * o) / 86400000) 0 3652058 with
    | true =>
      obtain ⟨y, m, d, k1, k2, k3⟩ := stampL_yes o hr
      rw [k3, srV]
      have k4 := a_DateOf y m d k1
      rw [k2] at k4
      refine enter Tryz.func87 rfl Tryz.ntmps87 rfl (by assumption) ?_
      (repeat' (first | intro (b : Nat) | refine go ?_ | (refine br ?_ ?_ <;> first | exact trivial | intro hq) | refine L.call (h := by intro W hW; first | apply rvb h1 (a_instantValid _ W hW.base) | apply rvb h2 (a_offsetValid _ W hW.base) | apply k4 W hW.base | apply a_clockAt _ (by omega) W hW.base) (k := ?_) | refine gg ?_ | refine G.call (h := by intro W hW; first | apply rvb h1 (a_instantValid _ W hW.base) | apply rvb h2 (a_offsetValid _ W hW.base) | apply k4 W hW.base | apply a_clockAt _ (by omega) W hW.base) (k := ?_) | (apply C.draww (id := 9) 6 [some _, none, none, some _, none, none])))
      (refine ret ?_; try exact rfl)
    | false =>
      rw [stampL_no o hr]
      refine enter Tryz.func87 rfl Tryz.ntmps87 rfl (by assumption) ?_
      (repeat' (first | intro (b : Nat) | refine go ?_ | (refine br ?_ ?_ <;> first | exact trivial | intro hq) | refine L.call (h := by intro W hW; first | apply rvb h1 (a_instantValid _ W hW.base) | apply rvb h2 (a_offsetValid _ W hW.base) | apply a_DateOf_no _ hr W hW.base) (k := ?_) | refine gg ?_ | refine G.call (h := by intro W hW; first | apply rvb h1 (a_instantValid _ W hW.base) | apply rvb h2 (a_offsetValid _ W hW.base) | apply a_DateOf_no _ hr W hW.base) (k := ?_) | (apply C.draww (id := 9) 6 [some _, none, none, some _, none, none])))
      (refine ret ?_; try exact rfl)
  · have e : stampAt n o = SR.no := if_neg (fun k => hL k.2.2)
    rw [e]
    refine enter Tryz.func87 rfl Tryz.ntmps87 rfl (by assumption) ?_
    (repeat' (first | intro (b : Nat) | refine go ?_ | (refine br ?_ ?_ <;> first | exact trivial | intro hq) | refine L.call (h := by intro W hW; first | apply rvb h1 (a_instantValid _ W hW.base) | apply rvb h2 (a_offsetValid _ W hW.base)) (k := ?_) | refine gg ?_ | refine G.call (h := by intro W hW; first | apply rvb h1 (a_instantValid _ W hW.base) | apply rvb h2 (a_offsetValid _ W hW.base)) (k := ?_) | (apply C.draww (id := 9) 6 [some _, none, none, some _, none, none])))
    (refine ret ?_; try exact rfl)

end D
end Go.Proofs.YtpgbmohocfcjpaaGreatDoor
