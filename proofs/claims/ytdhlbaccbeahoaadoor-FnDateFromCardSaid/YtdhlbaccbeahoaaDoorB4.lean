/- Walks: reading, whether it is there or not; weeks and days of years of the program. -/
import Derived.Test.YtdhlbaccbeahoaaDoorB2
import Derived.Test.YtdhlbaccbeahoaaDoorA7
namespace Go.Proofs.YtdhlbaccbeahoaaDoor
set_option linter.unusedVariables false
set_option linter.unusedSimpArgs false
set_option maxRecDepth 100000
set_option maxHeartbeats 1000000
namespace D
open Go.RowKit
open Go.PlainAid (bt bt_nonneg bt_le bt_end)
attribute [local irreducible] Calls

theorem n_any (w0 : World) (F : SH) (r : Nat) (s : ByteArray) (p m : Nat) (k : Int) (hk : k = (m : Int)) (hs : s.size ≤ 1000000000000) (hp : p ≤ s.size) (hm : m ≤ 6) (w : World) (hst : St w0 ((r, rdB s (p : Int)) :: F) w) :
    Calls Tryd.prog 69 #[.pointer (some ⟨r, 0, none⟩), .int .i64 k] w (Turns w0 (.tuple #[.int .i64 (numV s p m), .bool (allD s p m)]) ((r, rdB s (nxt s p m : Nat)) :: F)) := by
  subst hk
  cases h : allD s p m with
  | true =>
    have e1 : numV s p m = numL s p m := if_pos h
    have e2 : ((nxt s p m : Nat) : Int) = (p : Int) + m := by
      rw [show nxt s p m = p + m from if_pos h]; omega
    rw [e1, e2]
    exact a_number_yes w0 F r s p m hs hp hm h w hst
  | false =>
    have e1 : numV s p m = 0 := if_neg (by simp [h])
    have e2 : ((nxt s p m : Nat) : Int) = (p : Int) := by
      rw [show nxt s p m = p from if_neg (by simp [h])]
    rw [e1, e2]
    exact a_number_no w0 F r s p m hs hp hm h w hst

theorem t_any (w0 : World) (F : SH) (r : Nat) (s : ByteArray) (p : Nat) (c : Int) (hs : s.size ≤ 1000000000000) (hp : p ≤ s.size) (w : World) (hst : St w0 ((r, rdB s (p : Int)) :: F) w) :
    Calls Tryd.prog 72 #[.pointer (some ⟨r, 0, none⟩), .int .u8 c] w (Turns w0 (.bool (isB s p c)) ((r, rdB s (takN s p c : Nat)) :: F)) := by
  cases h : isB s p c with
  | true =>
    have e2 : ((takN s p c : Nat) : Int) = (p : Int) + 1 := by
      rw [show takN s p c = p + 1 from if_pos h]; omega
    rw [e2]
    exact a_take_yes w0 F r s p c hs h w hst
  | false =>
    have e2 : ((takN s p c : Nat) : Int) = (p : Int) := by
      rw [show takN s p c = p from if_neg (by simp [h])]
    rw [e2]
    exact a_take_no w0 F r s p c hs hp h w hst

theorem bt_any (w0 : World) (F : SH) (r : Nat) (s : ByteArray) (p : Nat) (h : Bool) (hs : s.size ≤ 1000000000000) (hp : p ≤ s.size) (w : World) (hst : St w0 ((r, rdB s (p : Int)) :: F) w) :
    Calls Tryd.prog 70 #[.pointer (some ⟨r, 0, none⟩), .bool h] w (Turns w0 (.bool (btV s p h)) ((r, rdB s (btN s p h : Nat)) :: F)) := by
  cases h with
  | false => exact a_between_free w0 F r s p w hst
  | true =>
    cases hb : isB s p 45 with
    | true =>
      have e1 : btV s p true = true := by simp [btV, hb]
      have e2 : ((btN s p true : Nat) : Int) = (p : Int) + 1 := by
        rw [show btN s p true = p + 1 from if_pos ⟨rfl, hb⟩]; omega
      rw [e1, e2]
      exact a_between_yes w0 F r s p hs hb w hst
    | false =>
      have e1 : btV s p true = false := by simp [btV, hb]
      have e2 : ((btN s p true : Nat) : Int) = (p : Int) := by
        rw [show btN s p true = p from if_neg (by simp [hb])]
      rw [e1, e2]
      exact a_between_no w0 F r s p hs hp hb w hst

theorem a_weekdayOf (n : Int) (h : 0 ≤ n ∧ n ≤ 1000000000000) (w : World) (hb : D.Base w) : Calls Tryd.prog 80 #[.int .i64 n] w fun e w' => e = .returned (.int .i64 (n % 7 + 1)) ∧ Below w.heap.size w w' := by
  refine enter Tryd.func80 rfl Tryd.ntmps80 rfl (by assumption) ?_
  (repeat' (first | intro (b : Nat) | refine go ?_ | (refine br ?_ ?_ <;> first | exact trivial | intro hq)))
  (refine ret ?_; try exact rfl)

theorem a_firstMonday (y : Int) (h : 1 ≤ y ∧ y ≤ 10000) (w : World) (hb : D.Base w) : Calls Tryd.prog 84 #[.int .i64 y] w fun e w' => e = .returned (.int .i64 (fmon y)) ∧ Below w.heap.size w w' := by
  have hn := ny_bd y h.1 h.2
  have e : fmon y = ny y + 3 - (ny y + 3) % 7 := rfl
  generalize fmon y = f at *
  refine enter Tryd.func84 rfl Tryd.ntmps84 rfl (by assumption) ?_
  (repeat' (first | intro (b : Nat) | refine go ?_ | (refine br ?_ ?_ <;> first | exact trivial | intro hq) | refine L.call (h := by intro W hW; first | apply a_newYear _ (by omega) (by omega) W hW.base | apply a_weekdayOf _ (by omega) W hW.base) (k := ?_)))
  (refine ret ?_; try exact rfl)
  all_goals (refine congrArg (Value.int .i64) ?_; omega)

theorem a_WeeksOf (y : Int) (w : World) (hb : D.Base w) : Calls Tryd.prog 82 #[.int .i64 y] w fun e w' => e = .returned (.int .i64 (wks y)) ∧ Below w.heap.size w w' := by
  cases h : inR y 1 9999 with
  | true =>
    have hb := inR_true.1 h
    have e : wks y = (fmon (y + 1) - fmon y) / 7 := if_pos h
    have h1 := fmon_bd (y := y) (by omega)
    have h2 := fmon_bd (y := y + 1) (by omega)
    have h3 : 0 ≤ fmon (y + 1) - fmon y := by
      have := wks_bd y
      rw [e] at this
      omega
    rw [e]
    refine enter Tryd.func82 rfl Tryd.ntmps82 rfl (by assumption) ?_
    (repeat' (first | intro (b : Nat) | refine go ?_ | (refine br ?_ ?_ <;> first | exact trivial | intro hq) | refine L.call (h := by intro W hW; first | apply rvb h (a_yearValid _ W hW.base) | apply a_firstMonday _ (by omega) W hW.base) (k := ?_)))
    (refine ret ?_; try exact rfl)
  | false =>
    have e : wks y = 0 := if_neg (by simp [h])
    rw [e]
    refine enter Tryd.func82 rfl Tryd.ntmps82 rfl (by assumption) ?_
    (repeat' (first | intro (b : Nat) | refine go ?_ | (refine br ?_ ?_ <;> first | exact trivial | intro hq) | refine L.call (h := by intro W hW; apply rvb h (a_yearValid _ W hW.base)) (k := ?_)))
    (refine ret ?_; try exact rfl)

theorem a_weekNumber (y k d : Int) (h : 1 ≤ y ∧ y ≤ 10000) (hk : 0 ≤ k ∧ k ≤ 1000) (hd : 0 ≤ d ∧ d ≤ 1000) (w : World) (hb : D.Base w) : Calls Tryd.prog 65 #[.agg #[.int .i64 y, .int .i64 k, .int .i64 d]] w fun e w' => e = .returned (.int .i64 (fmon y + 7 * (k - 1) + d - 1)) ∧ Below w.heap.size w w' := by
  have h1 := fmon_bd h
  refine enter Tryd.func65 rfl Tryd.ntmps65 rfl (by assumption) ?_
  (repeat' (first | intro (b : Nat) | refine go ?_ | (refine br ?_ ?_ <;> first | exact trivial | intro hq) | refine L.call (h := by intro W hW; apply a_firstMonday _ (by omega) W hW.base) (k := ?_) | refine gg ?_ | refine G.call (h := by intro W hW; apply a_firstMonday _ (by omega) W hW.base) (k := ?_) | (apply C.draww (id := 1) 13 [none, some _, some _, none, some _, none, none, none, none, some _, none, none, none])))
  (refine ret ?_; try exact rfl)

theorem a_WeekDate (y k d : Int) (w : World) (hb : D.Base w) : Calls Tryd.prog 79 #[.agg #[.int .i64 y, .int .i64 k, .int .i64 d]] w fun e w' => e = .returned (drV (wkD y k d)) ∧ Below w.heap.size w w' := by
  cases h1 : inR k 1 (wks y) with
  | false =>
    have e : wkD y k d = DR.no := if_neg (by simp [h1])
    rw [e]
    refine enter Tryd.func79 rfl Tryd.ntmps79 rfl (by assumption) ?_
    (repeat' (first | intro (b : Nat) | refine go ?_ | (refine br ?_ ?_ <;> first | exact trivial | intro hq) | refine L.call (h := by intro W hW; first | apply a_WeeksOf _ W hW.base | apply rvb h1 (a_within _ _ _ W hW.base) | apply a_within _ _ _ W hW.base) (k := ?_) | refine gg ?_ | refine G.call (h := by intro W hW; first | apply a_WeeksOf _ W hW.base | apply rvb h1 (a_within _ _ _ W hW.base) | apply a_within _ _ _ W hW.base) (k := ?_) | (apply C.draww (id := 1) 13 [none, some _, none, some _, some _, some _, none, none, none, some _, some _, none, none])))
    all_goals (refine ret ?_; try exact rfl)
  | true =>
    have hy := wks_yes h1
    cases h2 : inR d 1 7 with
    | false =>
      have e : wkD y k d = DR.no := if_neg (by simp [h2])
      rw [e]
      refine enter Tryd.func79 rfl Tryd.ntmps79 rfl (by assumption) ?_
      (repeat' (first | intro (b : Nat) | refine go ?_ | (refine br ?_ ?_ <;> first | exact trivial | intro hq) | refine L.call (h := by intro W hW; first | apply a_WeeksOf _ W hW.base | apply rvb h1 (a_within _ _ _ W hW.base) | apply rvb h2 (a_within _ _ _ W hW.base)) (k := ?_) | refine gg ?_ | refine G.call (h := by intro W hW; first | apply a_WeeksOf _ W hW.base | apply rvb h1 (a_within _ _ _ W hW.base) | apply rvb h2 (a_within _ _ _ W hW.base)) (k := ?_) | (apply C.draww (id := 1) 13 [none, some _, none, some _, some _, some _, none, none, none, some _, some _, none, none])))
      all_goals (refine ret ?_; try exact rfl)
    | true =>
      have e : wkD y k d = dateOf (fmon y + 7 * (k - 1) + d - 1) := if_pos ⟨h1, h2⟩
      have hd := inR_true.1 h2
      rw [e]
      refine enter Tryd.func79 rfl Tryd.ntmps79 rfl (by assumption) ?_
      (repeat' (first | intro (b : Nat) | refine go ?_ | (refine br ?_ ?_ <;> first | exact trivial | intro hq) | refine L.call (h := by intro W hW; first | apply a_WeeksOf _ W hW.base | apply rvb h1 (a_within _ _ _ W hW.base) | apply rvb h2 (a_within _ _ _ W hW.base) | apply a_weekNumber _ _ _ (by omega) (by omega) (by omega) W hW.base | apply a_DateOfG _ W hW.base) (k := ?_) | refine gg ?_ | refine G.call (h := by intro W hW; first | apply a_WeeksOf _ W hW.base | apply rvb h1 (a_within _ _ _ W hW.base) | apply rvb h2 (a_within _ _ _ W hW.base) | apply a_weekNumber _ _ _ (by omega) (by omega) (by omega) W hW.base | apply a_DateOfG _ W hW.base) (k := ?_) | (apply C.draww (id := 1) 13 [none, some _, none, some _, some _, some _, none, none, none, some _, some _, none, none])))
      all_goals (refine ret ?_; try exact rfl)

theorem a_OrdinalDate (y k : Int) (w : World) (hb : D.Base w) : Calls Tryd.prog 87 #[.int .i64 y, .int .i64 k] w fun e w' => e = .returned (drV (orD y k)) ∧ Below w.heap.size w w' := by
  cases h1 : inR y 1 9999 with
  | false =>
    have e : orD y k = DR.no := if_neg (by simp [h1])
    rw [e]
    refine enter Tryd.func87 rfl Tryd.ntmps87 rfl (by assumption) ?_
    (repeat' (first | intro (b : Nat) | refine go ?_ | (refine br ?_ ?_ <;> first | exact trivial | intro hq) | refine L.call (h := by intro W hW; apply rvb h1 (a_yearValid _ W hW.base)) (k := ?_)))
    all_goals (refine ret ?_; try exact rfl)
  | true =>
    have hy := inR_true.1 h1
    have hn := ny_bd y (by omega) (by omega)
    have hn2 := ny_bd (y + 1) (by omega) (by omega)
    cases h2 : inR k 1 (ny (y + 1) - ny y) with
    | false =>
      have e : orD y k = DR.no := if_neg (by simp [h2])
      rw [e]
      refine enter Tryd.func87 rfl Tryd.ntmps87 rfl (by assumption) ?_
      (repeat' (first | intro (b : Nat) | refine go ?_ | (refine br ?_ ?_ <;> first | exact trivial | intro hq) | refine L.call (h := by intro W hW; first | apply rvb h1 (a_yearValid _ W hW.base) | apply a_newYear _ (by omega) (by omega) W hW.base | apply rvb h2 (a_within _ _ _ W hW.base)) (k := ?_)))
      all_goals (refine ret ?_; try exact rfl)
    | true =>
      have hk := inR_true.1 h2
      have hle : ny (y + 1) ≤ 3652059 := hn2.2
      obtain ⟨y', m', d', g1, g2, g3⟩ := dateOf_yes (n := ny y + k - 1) (inR_true.2 (by omega))
      have e : orD y k = ⟨y', m', d', true⟩ := (if_pos ⟨h1, h2⟩).trans g3
      rw [e]
      refine enter Tryd.func87 rfl Tryd.ntmps87 rfl (by assumption) ?_
      (repeat' (first | intro (b : Nat) | refine go ?_ | (refine br ?_ ?_ <;> first | exact trivial | intro hq) | refine L.call (h := by intro W hW; first | apply rvb h1 (a_yearValid _ W hW.base) | apply a_newYear _ (by omega) (by omega) W hW.base | apply rvb h2 (a_within _ _ _ W hW.base) | apply g2 ▸ a_dateAt _ _ _ g1 W hW.base) (k := ?_)))
      all_goals (refine ret ?_; try exact rfl)

theorem a_weekAt (n y m d : Int) (hv : dval y m d = true) (he : num y m d = thu n) (h : 0 ≤ n ∧ n ≤ 3652058) (w : World) (hb : D.Base w) : Calls Tryd.prog 76 #[.int .i64 n] w fun e w' => e = .returned (.agg #[.int .i64 y, .int .i64 ((thu n - ny y) / 7 + 1), .int .i64 (n % 7 + 1)]) ∧ Below w.heap.size w w' := by
  have hd := dval_bd hv
  have hin := num_in hv
  have hn := ny_bd y (by omega) (by omega)
  have e1 : thu n = n - n % 7 + 3 := rfl
  have e2 : thu n = n - (n % 7 + 1) + 4 := by omega
  have hdA : ∀ W, D.Base W → Calls Tryd.prog 81 #[.int .i64 (n - (n % 7 + 1) + 4)] W fun e w' => e = .returned (.agg #[.int .i64 y, .int .i64 m, .int .i64 d]) ∧ Below W.heap.size W w' := fun W hW => by
    rw [← e2, ← he]
    exact a_dateAt y m d hv W hW
  rw [he] at hin
  rw [e2] at hin ⊢
  clear he e1 e2
  refine enter Tryd.func76 rfl Tryd.ntmps76 rfl (by assumption) ?_
  (repeat' (first | intro (b : Nat) | refine go ?_ | (refine br ?_ ?_ <;> first | exact trivial | intro hq) | refine L.call (h := by intro W hW; first | apply a_weekdayOf _ (by omega) W hW.base | apply hdA W hW.base | apply a_newYear _ (by omega) (by omega) W hW.base) (k := ?_)))
  (refine ret ?_; try exact rfl)

end D
end Go.Proofs.YtdhlbaccbeahoaaDoor
