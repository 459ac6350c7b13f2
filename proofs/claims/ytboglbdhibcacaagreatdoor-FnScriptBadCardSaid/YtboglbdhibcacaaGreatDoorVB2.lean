/- Walks: forms of dates of the program. -/
import Derived.Test.YtboglbdhibcacaaGreatDoorVg
import Derived.Test.YtboglbdhibcacaaGreatDoorVA7
import Derived.Test.YtboglbdhibcacaaGreatDoorVc
import Derived.Test.YtboglbdhibcacaaGreatDoorVe
namespace Go.Proofs.YtboglbdhibcacaaGreatDoor
set_option linter.unusedVariables false
set_option linter.unusedSimpArgs false
set_option maxRecDepth 100000
set_option maxHeartbeats 1000000
namespace D
open Go.RowKit
open Go.PlainAid (bt bt_nonneg bt_le bt_end)
attribute [local irreducible] Calls

theorem a_between_free (w0 : World) (F : SH) (r : Nat) (s : ByteArray) (p : Int) (w : World) (hst : St w0 ((r, rdB s p) :: F) w) :
    Calls Tryz.prog 199 #[.pointer (some ⟨r, 0, none⟩), .bool false] w (Turns w0 (.bool true) ((r, rdB s p) :: F)) := by
  refine enterl Tryz.func199 rfl Tryz.ntmps199 rfl hst ?_
  (repeat' (first | intro (b : Nat) | refine go ?_ | (refine br ?_ ?_ <;> first | exact trivial | intro hq)))
  (refine rett rfl)

theorem a_between_no (w0 : World) (F : SH) (r : Nat) (s : ByteArray) (p : Nat) (hs : s.size ≤ 1000000000000) (hp : p ≤ s.size) (h : isB s p 45 = false) (w : World) (hst : St w0 ((r, rdB s p) :: F) w) :
    Calls Tryz.prog 199 #[.pointer (some ⟨r, 0, none⟩), .bool true] w (Turns w0 (.bool false) ((r, rdB s p) :: F)) := by
  refine enterl Tryz.func199 rfl Tryz.ntmps199 rfl hst ?_
  (repeat (first | intro (b : Nat) | refine go ?_))
  (refine L.tcall (h := by intro W hW; exact a_take_no _ _ _ _ _ _ hs hp h W hW) (k := ?_))
  (repeat (first | intro (b : Nat) | refine go ?_))
  (refine rett rfl)

theorem a_between_yes (w0 : World) (F : SH) (r : Nat) (s : ByteArray) (p : Nat) (hs : s.size ≤ 1000000000000) (h : isB s p 45 = true) (w : World) (hst : St w0 ((r, rdB s p) :: F) w) :
    Calls Tryz.prog 199 #[.pointer (some ⟨r, 0, none⟩), .bool true] w (Turns w0 (.bool true) ((r, rdB s ((p : Int) + 1)) :: F)) := by
  refine enterl Tryz.func199 rfl Tryz.ntmps199 rfl hst ?_
  (repeat (first | intro (b : Nat) | refine go ?_))
  (refine L.tcall (h := by intro W hW; exact a_take_yes _ _ _ _ _ _ hs h W hW) (k := ?_))
  (repeat (first | intro (b : Nat) | refine go ?_))
  (refine rett rfl)

instance : Mth Tryz.prog 125 (.agg #[]) "loop.example/datenotation/impl.parts" 262 (.agg #[]) := ⟨fun w => by kernel_rfl⟩

instance : Mth Tryz.prog 126 (.agg #[]) "loop.example/datenotation/impl.parts" 263 (.agg #[]) := ⟨fun w => by kernel_rfl⟩

instance : Mth Tryz.prog 127 (.agg #[]) "loop.example/datenotation/impl.parts" 270 (.agg #[]) := ⟨fun w => by kernel_rfl⟩

instance : Mth Tryz.prog 125 (.agg #[]) "loop.example/datenotation/impl.read" 158 (.agg #[]) := ⟨fun w => by kernel_rfl⟩

instance : Mth Tryz.prog 126 (.agg #[]) "loop.example/datenotation/impl.read" 264 (.agg #[]) := ⟨fun w => by kernel_rfl⟩

instance : Mth Tryz.prog 127 (.agg #[]) "loop.example/datenotation/impl.read" 271 (.agg #[]) := ⟨fun w => by kernel_rfl⟩

/-- All forms. -/
def formsV : List Value := [.iface 125 (.agg #[]), .iface 126 (.agg #[]), .iface 127 (.agg #[])]

theorem a_forms (w : World) (hb : D.Base w) : Calls Tryz.prog 61 #[] w (Ret w (NewSl 3 3 (.cells 84 formsV))) := by
  refine enter Tryz.func61 rfl Tryz.ntmps61 rfl (by assumption) ?_
  (repeat' (first | intro (b : Nat) | refine go ?_ | (refine br ?_ ?_ <;> first | exact trivial | intro hq)))
  exact retsl

theorem a_monthParts (y m d : Int) (h : dval y m d = true) (w : World) (hb : D.Base w) : Calls Tryz.prog 262 #[.agg #[], .agg #[.int .i64 y, .int .i64 m, .int .i64 d]] w (Ret w (NewSl 3 3 (.cells 9 [.string (strOfNums (digL y 4)), .string (strOfNums (digL m 2)), .string (strOfNums (digL d 2))]))) := by
  have hd := dval_bd h
  refine enter Tryz.func262 rfl Tryz.ntmps262 rfl (by assumption) ?_
  (repeat' (first | intro (b : Nat) | refine go ?_ | (refine br ?_ ?_ <;> first | exact trivial | intro hq) | refine L.call (h := by intro W hW; first | apply a_digits4 _ (by omega) W hW.base | apply a_digits2 _ (by omega) W hW.base) (k := ?_) | refine gg ?_ | refine G.call (h := by intro W hW; first | apply a_digits4 _ (by omega) W hW.base | apply a_digits2 _ (by omega) W hW.base) (k := ?_) | (apply C.draww (id := 1) 11 [none, some _, some _, none, some _, some _, none, some _, some _, some _, none])))
  exact retsl

end D
end Go.Proofs.YtboglbdhibcacaaGreatDoor

namespace Go.Proofs.YtboglbdhibcacaaGreatDoor
set_option linter.unusedVariables false
set_option linter.unusedSimpArgs false
set_option maxRecDepth 100000
set_option maxHeartbeats 1000000
namespace D
open Go.RowKit
open Go.PlainAid (bt bt_nonneg bt_le bt_end)
attribute [local irreducible] Calls

theorem n_any (w0 : World) (F : SH) (r : Nat) (s : ByteArray) (p m : Nat) (k : Int) (hk : k = (m : Int)) (hs : s.size ≤ 1000000000000) (hp : p ≤ s.size) (hm : m ≤ 6) (w : World) (hst : St w0 ((r, rdB s (p : Int)) :: F) w) :
    Calls Tryz.prog 104 #[.pointer (some ⟨r, 0, none⟩), .int .i64 k] w (Turns w0 (.tuple #[.int .i64 (numV s p m), .bool (allD s p m)]) ((r, rdB s (nxt s p m : Nat)) :: F)) := by
  subst hk
  cases h : allD s p m with
  | true =>
    have e1 : numV s p m = numL s p m := if_pos h
    have e2 : ((nxt s p m : Nat) : Int) = (p : Int) + m := by
      rw [show nxt s p m = p + m from if_pos h]; omega
    rw [e1, e2]
    exact a_number_yes w0 F r s p m hs hp hm h w hst
  | false =>
    have e1 : numV s p m = 0 := if_neg (by simp [h])
    have e2 : ((nxt s p m : Nat) : Int) = (p : Int) := by
      rw [show nxt s p m = p from if_neg (by simp [h])]
    rw [e1, e2]
    exact a_number_no w0 F r s p m hs hp hm h w hst

theorem t_any (w0 : World) (F : SH) (r : Nat) (s : ByteArray) (p : Nat) (c : Int) (hs : s.size ≤ 1000000000000) (hp : p ≤ s.size) (w : World) (hst : St w0 ((r, rdB s (p : Int)) :: F) w) :
    Calls Tryz.prog 159 #[.pointer (some ⟨r, 0, none⟩), .int .u8 c] w (Turns w0 (.bool (isB s p c)) ((r, rdB s (takN s p c : Nat)) :: F)) := by
  cases h : isB s p c with
  | true =>
    have e2 : ((takN s p c : Nat) : Int) = (p : Int) + 1 := by
      rw [show takN s p c = p + 1 from if_pos h]; omega
    rw [e2]
    exact a_take_yes w0 F r s p c hs h w hst
  | false =>
    have e2 : ((takN s p c : Nat) : Int) = (p : Int) := by
      rw [show takN s p c = p from if_neg (by simp [h])]
    rw [e2]
    exact a_take_no w0 F r s p c hs hp h w hst

theorem bt_any (w0 : World) (F : SH) (r : Nat) (s : ByteArray) (p : Nat) (h : Bool) (hs : s.size ≤ 1000000000000) (hp : p ≤ s.size) (w : World) (hst : St w0 ((r, rdB s (p : Int)) :: F) w) :
    Calls Tryz.prog 199 #[.pointer (some ⟨r, 0, none⟩), .bool h] w (Turns w0 (.bool (btV s p h)) ((r, rdB s (btN s p h : Nat)) :: F)) := by
  cases h with
  | false => exact a_between_free w0 F r s p w hst
  | true =>
    cases hb : isB s p 45 with
    | true =>
      have e1 : btV s p true = true := by simp [btV, hb]
      have e2 : ((btN s p true : Nat) : Int) = (p : Int) + 1 := by
        rw [show btN s p true = p + 1 from if_pos ⟨rfl, hb⟩]; omega
      rw [e1, e2]
      exact a_between_yes w0 F r s p hs hb w hst
    | false =>
      have e1 : btV s p true = false := by simp [btV, hb]
      have e2 : ((btN s p true : Nat) : Int) = (p : Int) := by
        rw [show btN s p true = p from if_neg (by simp [hb])]
      rw [e1, e2]
      exact a_between_no w0 F r s p hs hp hb w hst

theorem a_weekdayOf (n : Int) (h : 0 ≤ n ∧ n ≤ 1000000000000) (w : World) (hb : D.Base w) : Calls Tryz.prog 267 #[.int .i64 n] w fun e w' => e = .returned (.int .i64 (n % 7 + 1)) ∧ Below w.heap.size w w' := by
  refine enter Tryz.func267 rfl Tryz.ntmps267 rfl (by assumption) ?_
  (repeat' (first | intro (b : Nat) | refine go ?_ | (refine br ?_ ?_ <;> first | exact trivial | intro hq)))
  (refine ret ?_; try exact rfl)

theorem a_firstMonday (y : Int) (h : 1 ≤ y ∧ y ≤ 10000) (w : World) (hb : D.Base w) : Calls Tryz.prog 269 #[.int .i64 y] w fun e w' => e = .returned (.int .i64 (fmon y)) ∧ Below w.heap.size w w' := by
  have hn := ny_bd y h.1 h.2
  have e : fmon y = ny y + 3 - (ny y + 3) % 7 := rfl
  generalize fmon y = f at *
  refine enter Tryz.func269 rfl Tryz.ntmps269 rfl (by assumption) ?_
  (repeat' (first | intro (b : Nat) | refine go ?_ | (refine br ?_ ?_ <;> first | exact trivial | intro hq) | refine L.call (h := by intro W hW; first | apply a_newYear _ (by omega) (by omega) W hW.base | apply a_weekdayOf _ (by omega) W hW.base) (k := ?_)))
  (refine ret ?_; try exact rfl)
  all_goals (refine congrArg (Value.int .i64) ?_; omega)

theorem a_WeeksOf (y : Int) (w : World) (hb : D.Base w) : Calls Tryz.prog 268 #[.int .i64 y] w fun e w' => e = .returned (.int .i64 (wks y)) ∧ Below w.heap.size w w' := by
  cases h : inR y 1 9999 with
  | true =>
    have hb := inR_true.1 h
    have e : wks y = (fmon (y + 1) - fmon y) / 7 := if_pos h
    have h1 := fmon_bd (y := y) (by omega)
    have h2 := fmon_bd (y := y + 1) (by omega)
    have h3 : 0 ≤ fmon (y + 1) - fmon y := by
      have := wks_bd y
      rw [e] at this
      omega
    rw [e]
    refine enter Tryz.func268 rfl Tryz.ntmps268 rfl (by assumption) ?_
    (repeat' (first | intro (b : Nat) | refine go ?_ | (refine br ?_ ?_ <;> first | exact trivial | intro hq) | refine L.call (h := by intro W hW; first | apply rvb h (a_yearValid _ W hW.base) | apply a_firstMonday _ (by omega) W hW.base) (k := ?_)))
    (refine ret ?_; try exact rfl)
  | false =>
    have e : wks y = 0 := if_neg (by simp [h])
    rw [e]
    refine enter Tryz.func268 rfl Tryz.ntmps268 rfl (by assumption) ?_
    (repeat' (first | intro (b : Nat) | refine go ?_ | (refine br ?_ ?_ <;> first | exact trivial | intro hq) | refine L.call (h := by intro W hW; apply rvb h (a_yearValid _ W hW.base)) (k := ?_)))
    (refine ret ?_; try exact rfl)

/- needs 269 -/
theorem a_weekNumber (y k d : Int) (h : 1 ≤ y ∧ y ≤ 10000) (hk : 0 ≤ k ∧ k ≤ 1000) (hd : 0 ≤ d ∧ d ≤ 1000) (w : World) (hb : D.Base w) : Calls Tryz.prog 261 #[.agg #[.int .i64 y, .int .i64 k, .int .i64 d]] w fun e w' => e = .returned (.int .i64 (fmon y + 7 * (k - 1) + d - 1)) ∧ Below w.heap.size w w' := by
  have h1 := fmon_bd h
  refine enter Tryz.func261 rfl Tryz.ntmps261 rfl (by assumption) ?_
  (repeat' (first | intro (b : Nat) | refine go ?_ | (refine br ?_ ?_ <;> first | exact trivial | intro hq) | refine L.call (h := by intro W hW; apply a_firstMonday _ (by omega) W hW.base) (k := ?_) | refine gg ?_ | refine G.call (h := by intro W hW; apply a_firstMonday _ (by omega) W hW.base) (k := ?_) | (apply C.draww (id := 1) 13 [none, some _, some _, none, some _, none, none, none, none, some _, none, none, none])))
  (refine ret ?_; try exact rfl)

theorem a_WeekDate (y k d : Int) (w : World) (hb : D.Base w) : Calls Tryz.prog 266 #[.agg #[.int .i64 y, .int .i64 k, .int .i64 d]] w fun e w' => e = .returned (drV (wkD y k d)) ∧ Below w.heap.size w w' := by
  cases h1 : inR k 1 (wks y) with
  | false =>
    have e : wkD y k d = DR.no := if_neg (by simp [h1])
    rw [e]
    refine enter Tryz.func266 rfl Tryz.ntmps266 rfl (by assumption) ?_
    (repeat' (first | intro (b : Nat) | refine go ?_ | (refine br ?_ ?_ <;> first | exact trivial | intro hq) | refine L.call (h := by intro W hW; first | apply a_WeeksOf _ W hW.base | apply rvb h1 (a_within _ _ _ W hW.base) | apply a_within _ _ _ W hW.base) (k := ?_) | refine gg ?_ | refine G.call (h := by intro W hW; first | apply a_WeeksOf _ W hW.base | apply rvb h1 (a_within _ _ _ W hW.base) | apply a_within _ _ _ W hW.base) (k := ?_) | (apply C.draww (id := 1) 13 [none, some _, none, some _, some _, some _, none, none, none, some _, some _, none, none])))
    all_goals (refine ret ?_; try exact rfl)
  | true =>
    have hy := wks_yes h1
    cases h2 : inR d 1 7 with
    | false =>
      have e : wkD y k d = DR.no := if_neg (by simp [h2])
      rw [e]
      refine enter Tryz.func266 rfl Tryz.ntmps266 rfl (by assumption) ?_
      (repeat' (first | intro (b : Nat) | refine go ?_ | (refine br ?_ ?_ <;> first | exact trivial | intro hq) | refine L.call (h := by intro W hW; first | apply a_WeeksOf _ W hW.base | apply rvb h1 (a_within _ _ _ W hW.base) | apply rvb h2 (a_within _ _ _ W hW.base)) (k := ?_) | refine gg ?_ | refine G.call (h := by intro W hW; first | apply a_WeeksOf _ W hW.base | apply rvb h1 (a_within _ _ _ W hW.base) | apply rvb h2 (a_within _ _ _ W hW.base)) (k := ?_) | (apply C.draww (id := 1) 13 [none, some _, none, some _, some _, some _, none, none, none, some _, some _, none, none])))
      all_goals (refine ret ?_; try exact rfl)
    | true =>
      have e : wkD y k d = dateOf (fmon y + 7 * (k - 1) + d - 1) := if_pos ⟨h1, h2⟩
      have hd := inR_true.1 h2
      rw [e]
      refine enter Tryz.func266 rfl Tryz.ntmps266 rfl (by assumption) ?_
      (repeat' (first | intro (b : Nat) | refine go ?_ | (refine br ?_ ?_ <;> first | exact trivial | intro hq) | refine L.call (h := by intro W hW; first | apply a_WeeksOf _ W hW.base | apply rvb h1 (a_within _ _ _ W hW.base) | apply rvb h2 (a_within _ _ _ W hW.base) | apply a_weekNumber _ _ _ (by omega) (by omega) (by omega) W hW.base | apply a_DateOfG _ W hW.base) (k := ?_) | refine gg ?_ | refine G.call (h := by intro W hW; first | apply a_WeeksOf _ W hW.base | apply rvb h1 (a_within _ _ _ W hW.base) | apply rvb h2 (a_within _ _ _ W hW.base) | apply a_weekNumber _ _ _ (by omega) (by omega) (by omega) W hW.base | apply a_DateOfG _ W hW.base) (k := ?_) | (apply C.draww (id := 1) 13 [none, some _, none, some _, some _, some _, none, none, none, some _, some _, none, none])))
      all_goals (refine ret ?_; try exact rfl)

theorem a_OrdinalDate (y k : Int) (w : World) (hb : D.Base w) : Calls Tryz.prog 272 #[.int .i64 y, .int .i64 k] w fun e w' => e = .returned (drV (orD y k)) ∧ Below w.heap.size w w' := by
  cases h1 : inR y 1 9999 with
  | false =>
    have e : orD y k = DR.no := if_neg (by simp [h1])
    rw [e]
    refine enter Tryz.func272 rfl Tryz.ntmps272 rfl (by assumption) ?_
    (repeat' (first | intro (b : Nat) | refine go ?_ | (refine br ?_ ?_ <;> first | exact trivial | intro hq) | refine L.call (h := by intro W hW; apply rvb h1 (a_yearValid _ W hW.base)) (k := ?_)))
    all_goals (refine ret ?_; try exact rfl)
  | true =>
    have hy := inR_true.1 h1
    have hn := ny_bd y (by omega) (by omega)
    have hn2 := ny_bd (y + 1) (by omega) (by omega)
    cases h2 : inR k 1 (ny (y + 1) - ny y) with
    | false =>
      have e : orD y k = DR.no := if_neg (by simp [h2])
      rw [e]
      refine enter Tryz.func272 rfl Tryz.ntmps272 rfl (by assumption) ?_
      (repeat' (first | intro (b : Nat) | refine go ?_ | (refine br ?_ ?_ <;> first | exact trivial | intro hq) | refine L.call (h := by intro W hW; first | apply rvb h1 (a_yearValid _ W hW.base) | apply a_newYear _ (by omega) (by omega) W hW.base | apply rvb h2 (a_within _ _ _ W hW.base)) (k := ?_)))
      all_goals (refine ret ?_; try exact rfl)
    | true =>
      have hk := inR_true.1 h2
      have hle : ny (y + 1) ≤ 3652059 := hn2.2
      obtain ⟨y', m', d', g1, g2, g3⟩ := dateOf_yes (n := ny y + k - 1) (inR_true.2 (by omega))
      have e : orD y k = ⟨y', m', d', true⟩ := (if_pos ⟨h1, h2⟩).trans g3
      rw [e]
      refine enter Tryz.func272 rfl Tryz.ntmps272 rfl (by assumption) ?_
      (repeat' (first | intro (b : Nat) | refine go ?_ | (refine br ?_ ?_ <;> first | exact trivial | intro hq) | refine L.call (h := by intro W hW; first | apply rvb h1 (a_yearValid _ W hW.base) | apply a_newYear _ (by omega) (by omega) W hW.base | apply rvb h2 (a_within _ _ _ W hW.base) | apply g2 ▸ a_dateAt _ _ _ g1 W hW.base) (k := ?_)))
      all_goals (refine ret ?_; try exact rfl)

theorem a_weekAt (n y m d : Int) (hv : dval y m d = true) (he : num y m d = thu n) (h : 0 ≤ n ∧ n ≤ 3652058) (w : World) (hb : D.Base w) : Calls Tryz.prog 265 #[.int .i64 n] w fun e w' => e = .returned (.agg #[.int .i64 y, .int .i64 ((thu n - ny y) / 7 + 1), .int .i64 (n % 7 + 1)]) ∧ Below w.heap.size w w' := by
  have hd := dval_bd hv
  have hin := num_in hv
  have hn := ny_bd y (by omega) (by omega)
  have e1 : thu n = n - n % 7 + 3 := rfl
  have e2 : thu n = n - (n % 7 + 1) + 4 := by omega
  have hdA : ∀ W, D.Base W → Calls Tryz.prog 231 #[.int .i64 (n - (n % 7 + 1) + 4)] W fun e w' => e = .returned (.agg #[.int .i64 y, .int .i64 m, .int .i64 d]) ∧ Below W.heap.size W w' := fun W hW => by
    rw [← e2, ← he]
    exact a_dateAt y m d hv W hW
  rw [he] at hin
  rw [e2] at hin ⊢
  clear he e1 e2
  refine enter Tryz.func265 rfl Tryz.ntmps265 rfl (by assumption) ?_
  (repeat' (first | intro (b : Nat) | refine go ?_ | (refine br ?_ ?_ <;> first | exact trivial | intro hq) | refine L.call (h := by intro W hW; first | apply a_weekdayOf _ (by omega) W hW.base | apply hdA W hW.base | apply a_newYear _ (by omega) (by omega) W hW.base) (k := ?_)))
  (refine ret ?_; try exact rfl)

end D
end Go.Proofs.YtboglbdhibcacaaGreatDoor

namespace Go.Proofs.YtboglbdhibcacaaGreatDoor
set_option linter.unusedVariables false
set_option linter.unusedSimpArgs false
set_option maxRecDepth 100000
set_option maxHeartbeats 1000000
namespace D
open Go.RowKit
open Go.PlainAid (bt bt_nonneg bt_le bt_end)
attribute [local irreducible] Calls

theorem m_le (s : ByteArray) (h : Bool) : m1 s ≤ s.size ∧ m2 s h ≤ s.size ∧ m3 s h ≤ s.size ∧ m4 s h ≤ s.size ∧ m5 s h ≤ s.size := by
  have h1 : m1 s ≤ s.size := nxt_le (by omega) (by omega)
  have h2 : m2 s h ≤ s.size := btN_le h1
  have h3 : m3 s h ≤ s.size := nxt_le (by omega) h2
  have h4 : m4 s h ≤ s.size := btN_le h3
  exact ⟨h1, h2, h3, h4, nxt_le (by omega) h4⟩

theorem a_monthRead (w0 : World) (F : SH) (r : Nat) (s : ByteArray) (h : Bool) (hs : s.size ≤ 1000000000000) (w : World) (hst : St w0 ((r, rdB s 0) :: F) w) :
    Calls Tryz.prog 158 #[.agg #[], .pointer (some ⟨r, 0, none⟩), .bool h] w (Turns w0 (drV (rdM s h)) ((r, rdB s (m5 s h : Nat)) :: F)) := by
  obtain ⟨h1, h2, h3, h4, h5⟩ := m_le s h
  have e : rdM s h = ⟨numV s 0 4, numV s (m2 s h) 2, numV s (m4 s h) 2, allD s 0 4 && allD s (m2 s h) 2 && allD s (m4 s h) 2 && btV s (m1 s) h && btV s (m3 s h) h && dval (numV s 0 4) (numV s (m2 s h) 2) (numV s (m4 s h) 2)⟩ := rfl
  rw [e]
  refine enterl Tryz.func158 rfl Tryz.ntmps158 rfl hst ?_
  (repeat (first | intro (b : Nat) | refine go ?_))
  (refine L.tcallb r (h := by intro W hW; exact n_any _ _ _ _ 0 4 _ rfl hs (by omega) (by omega) W hW) (k := ?_))
  change L _ _ _ _ _ _ _ _ ((r, rdB s (m1 s : Nat)) :: _)
  (repeat (first | intro (b : Nat) | refine go ?_))
  (refine L.tcallb r (h := by intro W hW; exact bt_any _ _ _ _ (m1 s) h hs h1 W hW) (k := ?_))
  change L _ _ _ _ _ _ _ _ ((r, rdB s (m2 s h : Nat)) :: _)
  (repeat (first | intro (b : Nat) | refine go ?_))
  (refine L.tcallb r (h := by intro W hW; exact n_any _ _ _ _ (m2 s h) 2 _ rfl hs h2 (by omega) W hW) (k := ?_))
  change L _ _ _ _ _ _ _ _ ((r, rdB s (m3 s h : Nat)) :: _)
  (repeat (first | intro (b : Nat) | refine go ?_))
  (refine L.tcallb r (h := by intro W hW; exact bt_any _ _ _ _ (m3 s h) h hs h3 W hW) (k := ?_))
  change L _ _ _ _ _ _ _ _ ((r, rdB s (m4 s h : Nat)) :: _)
  (repeat (first | intro (b : Nat) | refine go ?_))
  (refine L.tcallb r (h := by intro W hW; exact n_any _ _ _ _ (m4 s h) 2 _ rfl hs h4 (by omega) W hW) (k := ?_))
  change L _ _ _ _ _ _ _ _ ((r, rdB s (m5 s h : Nat)) :: _)
  generalize allD s 0 4 = x1
  generalize allD s (m2 s h) 2 = x2
  generalize allD s (m4 s h) 2 = x3
  generalize btV s (m1 s) h = x4
  generalize btV s (m3 s h) h = x5
  cases x1
  · (repeat' (first | intro (b : Nat) | refine go ?_ | (refine br ?_ ?_ <;> first | exact trivial | intro hq) | refine L.call (h := by intro W hW; apply a_DateValid _ _ _ W hW.base) (k := ?_) | refine gg ?_ | refine G.call (h := by intro W hW; apply a_DateValid _ _ _ W hW.base) (k := ?_) | (apply C.draww (id := 7) 18 [some _, none, none, none, none, none, none, none, none, none, none, none, none, none, none, some _, some _, none])))
    all_goals (refine rett ?_)
    all_goals simp [tupleOf, drV]
  cases x2
  · (repeat' (first | intro (b : Nat) | refine go ?_ | (refine br ?_ ?_ <;> first | exact trivial | intro hq) | refine L.call (h := by intro W hW; apply a_DateValid _ _ _ W hW.base) (k := ?_) | refine gg ?_ | refine G.call (h := by intro W hW; apply a_DateValid _ _ _ W hW.base) (k := ?_) | (apply C.draww (id := 7) 18 [some _, none, none, none, none, none, none, none, none, none, none, none, none, none, none, some _, some _, none])))
    all_goals (refine rett ?_)
    all_goals simp [tupleOf, drV]
  cases x3
  · (repeat' (first | intro (b : Nat) | refine go ?_ | (refine br ?_ ?_ <;> first | exact trivial | intro hq) | refine L.call (h := by intro W hW; apply a_DateValid _ _ _ W hW.base) (k := ?_) | refine gg ?_ | refine G.call (h := by intro W hW; apply a_DateValid _ _ _ W hW.base) (k := ?_) | (apply C.draww (id := 7) 18 [some _, none, none, none, none, none, none, none, none, none, none, none, none, none, none, some _, some _, none])))
    all_goals (refine rett ?_)
    all_goals simp [tupleOf, drV]
  cases x4
  · (repeat' (first | intro (b : Nat) | refine go ?_ | (refine br ?_ ?_ <;> first | exact trivial | intro hq) | refine L.call (h := by intro W hW; apply a_DateValid _ _ _ W hW.base) (k := ?_) | refine gg ?_ | refine G.call (h := by intro W hW; apply a_DateValid _ _ _ W hW.base) (k := ?_) | (apply C.draww (id := 7) 18 [some _, none, none, none, none, none, none, none, none, none, none, none, none, none, none, some _, some _, none])))
    all_goals (refine rett ?_)
    all_goals simp [tupleOf, drV]
  cases x5
  · (repeat' (first | intro (b : Nat) | refine go ?_ | (refine br ?_ ?_ <;> first | exact trivial | intro hq) | refine L.call (h := by intro W hW; apply a_DateValid _ _ _ W hW.base) (k := ?_) | refine gg ?_ | refine G.call (h := by intro W hW; apply a_DateValid _ _ _ W hW.base) (k := ?_) | (apply C.draww (id := 7) 18 [some _, none, none, none, none, none, none, none, none, none, none, none, none, none, none, some _, some _, none])))
    all_goals (refine rett ?_)
    all_goals simp [tupleOf, drV]
  · (repeat' (first | intro (b : Nat) | refine go ?_ | (refine br ?_ ?_ <;> first | exact trivial | intro hq) | refine L.call (h := by intro W hW; apply a_DateValid _ _ _ W hW.base) (k := ?_) | refine gg ?_ | refine G.call (h := by intro W hW; apply a_DateValid _ _ _ W hW.base) (k := ?_) | (apply C.draww (id := 7) 18 [some _, none, none, none, none, none, none, none, none, none, none, none, none, none, none, some _, some _, none])))
    all_goals (refine rett ?_)
    all_goals simp [tupleOf, drV]

theorem k_le (s : ByteArray) (h : Bool) : k2 s h ≤ s.size ∧ k3 s h ≤ s.size ∧ k4 s h ≤ s.size ∧ k5 s h ≤ s.size := by
  have h2 : k2 s h ≤ s.size := by
    unfold k2
    split
    · exact takN_le (m_le s h).2.1
    · exact (m_le s h).2.1
  have h3 : k3 s h ≤ s.size := nxt_le (by omega) h2
  have h4 : k4 s h ≤ s.size := btN_le h3
  exact ⟨h2, h3, h4, nxt_le (by omega) h4⟩

theorem a_weekRead (w0 : World) (F : SH) (r : Nat) (s : ByteArray) (h : Bool) (hs : s.size ≤ 1000000000000) (w : World) (hst : St w0 ((r, rdB s 0) :: F) w) :
    Calls Tryz.prog 264 #[.agg #[], .pointer (some ⟨r, 0, none⟩), .bool h] w (Turns w0 (drV (rdK s h)) ((r, rdB s (k5 s h : Nat)) :: F)) := by
  obtain ⟨h1, h2, -, -, -⟩ := m_le s h
  obtain ⟨g2, g3, g4, g5⟩ := k_le s h
  have e : rdK s h = ⟨(rdKd s h).y, (rdKd s h).m, (rdKd s h).d, allD s 0 4 && allD s (k2 s h) 2 && allD s (k4 s h) 1 && (btV s (m1 s) h && isB s (m2 s h) 87) && btV s (k3 s h) h && (rdKd s h).ok⟩ := rfl
  have hD : ∀ W, D.Base W → Calls Tryz.prog 266 #[.agg #[.int .i64 (numV s 0 4), .int .i64 (numV s (k2 s h) 2), .int .i64 (numV s (k4 s h) 1)]] W fun e w' => e = .returned (.tuple #[.agg #[.int .i64 (rdKd s h).y, .int .i64 (rdKd s h).m, .int .i64 (rdKd s h).d], .bool (rdKd s h).ok]) ∧ Below W.heap.size W w' := fun W hW => a_WeekDate _ _ _ W hW
  rw [e]
  cases hbt : btV s (m1 s) h with
  | false =>
    have ek : k2 s h = m2 s h := if_neg (by simp [hbt])
    refine enterl Tryz.func264 rfl Tryz.ntmps264 rfl hst ?_
    (repeat (first | intro (b : Nat) | refine go ?_))
    (refine L.tcallb r (h := by intro W hW; exact n_any _ _ _ _ 0 4 _ rfl hs (by omega) (by omega) W hW) (k := ?_))
    change L _ _ _ _ _ _ _ _ ((r, rdB s (m1 s : Nat)) :: _)
    (repeat (first | intro (b : Nat) | refine go ?_))
    (refine L.tcallb r (h := by intro W hW; exact hbt ▸ bt_any _ _ _ _ (m1 s) h hs h1 W hW) (k := ?_))
    change L _ _ _ _ _ _ _ _ ((r, rdB s (m2 s h : Nat)) :: _)
    rw [← ek]
    clear ek
    (repeat (first | intro (b : Nat) | refine go ?_))
    (refine L.tcallb r (h := by intro W hW; exact n_any _ _ _ _ (k2 s h) 2 _ rfl hs g2 (by omega) W hW) (k := ?_))
    change L _ _ _ _ _ _ _ _ ((r, rdB s (k3 s h : Nat)) :: _)
    (repeat (first | intro (b : Nat) | refine go ?_))
    (refine L.tcallb r (h := by intro W hW; exact bt_any _ _ _ _ (k3 s h) h hs g3 W hW) (k := ?_))
    change L _ _ _ _ _ _ _ _ ((r, rdB s (k4 s h : Nat)) :: _)
    (repeat (first | intro (b : Nat) | refine go ?_))
    (refine L.tcallb r (h := by intro W hW; exact n_any _ _ _ _ (k4 s h) 1 _ rfl hs g4 (by omega) W hW) (k := ?_))
    change L _ _ _ _ _ _ _ _ ((r, rdB s (k5 s h : Nat)) :: _)
    (repeat' (first | intro (b : Nat) | refine go ?_ | (refine br ?_ ?_ <;> first | exact trivial | intro hq) | refine L.call (h := by intro W hW; apply hD W hW.base) (k := ?_)))
    all_goals (refine rett ?_)
    all_goals simp [tupleOf, drV, *]
  | true =>
    have ek : k2 s h = takN s (m2 s h) 87 := if_pos hbt
    refine enterl Tryz.func264 rfl Tryz.ntmps264 rfl hst ?_
    (repeat (first | intro (b : Nat) | refine go ?_))
    (refine L.tcallb r (h := by intro W hW; exact n_any _ _ _ _ 0 4 _ rfl hs (by omega) (by omega) W hW) (k := ?_))
    change L _ _ _ _ _ _ _ _ ((r, rdB s (m1 s : Nat)) :: _)
    (repeat (first | intro (b : Nat) | refine go ?_))
    (refine L.tcallb r (h := by intro W hW; exact hbt ▸ bt_any _ _ _ _ (m1 s) h hs h1 W hW) (k := ?_))
    change L _ _ _ _ _ _ _ _ ((r, rdB s (m2 s h : Nat)) :: _)
    (repeat (first | intro (b : Nat) | refine go ?_))
    (refine L.tcallb r (h := by intro W hW; exact t_any _ _ _ _ (m2 s h) 87 hs h2 W hW) (k := ?_))
    rw [← ek]
    clear ek
    (repeat (first | intro (b : Nat) | refine go ?_))
    (refine L.tcallb r (h := by intro W hW; exact n_any _ _ _ _ (k2 s h) 2 _ rfl hs g2 (by omega) W hW) (k := ?_))
    change L _ _ _ _ _ _ _ _ ((r, rdB s (k3 s h : Nat)) :: _)
    (repeat (first | intro (b : Nat) | refine go ?_))
    (refine L.tcallb r (h := by intro W hW; exact bt_any _ _ _ _ (k3 s h) h hs g3 W hW) (k := ?_))
    change L _ _ _ _ _ _ _ _ ((r, rdB s (k4 s h : Nat)) :: _)
    (repeat (first | intro (b : Nat) | refine go ?_))
    (refine L.tcallb r (h := by intro W hW; exact n_any _ _ _ _ (k4 s h) 1 _ rfl hs g4 (by omega) W hW) (k := ?_))
    change L _ _ _ _ _ _ _ _ ((r, rdB s (k5 s h : Nat)) :: _)
    (repeat' (first | intro (b : Nat) | refine go ?_ | (refine br ?_ ?_ <;> first | exact trivial | intro hq) | refine L.call (h := by intro W hW; apply hD W hW.base) (k := ?_)))
    all_goals (refine rett ?_)
    all_goals simp [tupleOf, drV, *]

theorem a_dayRead (w0 : World) (F : SH) (r : Nat) (s : ByteArray) (h : Bool) (hs : s.size ≤ 1000000000000) (w : World) (hst : St w0 ((r, rdB s 0) :: F) w) :
    Calls Tryz.prog 271 #[.agg #[], .pointer (some ⟨r, 0, none⟩), .bool h] w (Turns w0 (drV (rdO s h)) ((r, rdB s (o3 s h : Nat)) :: F)) := by
  obtain ⟨h1, h2, -, -, -⟩ := m_le s h
  have e : rdO s h = ⟨(rdOd s h).y, (rdOd s h).m, (rdOd s h).d, allD s 0 4 && allD s (m2 s h) 3 && btV s (m1 s) h && (rdOd s h).ok⟩ := rfl
  have hD : ∀ W, D.Base W → Calls Tryz.prog 272 #[.int .i64 (numV s 0 4), .int .i64 (numV s (m2 s h) 3)] W fun e w' => e = .returned (.tuple #[.agg #[.int .i64 (rdOd s h).y, .int .i64 (rdOd s h).m, .int .i64 (rdOd s h).d], .bool (rdOd s h).ok]) ∧ Below W.heap.size W w' := fun W hW => a_OrdinalDate _ _ W hW
  rw [e]
  refine enterl Tryz.func271 rfl Tryz.ntmps271 rfl hst ?_
  (repeat (first | intro (b : Nat) | refine go ?_))
  (refine L.tcallb r (h := by intro W hW; exact n_any _ _ _ _ 0 4 _ rfl hs (by omega) (by omega) W hW) (k := ?_))
  change L _ _ _ _ _ _ _ _ ((r, rdB s (m1 s : Nat)) :: _)
  (repeat (first | intro (b : Nat) | refine go ?_))
  (refine L.tcallb r (h := by intro W hW; exact bt_any _ _ _ _ (m1 s) h hs h1 W hW) (k := ?_))
  change L _ _ _ _ _ _ _ _ ((r, rdB s (m2 s h : Nat)) :: _)
  (repeat (first | intro (b : Nat) | refine go ?_))
  (refine L.tcallb r (h := by intro W hW; exact n_any _ _ _ _ (m2 s h) 3 _ rfl hs h2 (by omega) W hW) (k := ?_))
  change L _ _ _ _ _ _ _ _ ((r, rdB s (o3 s h : Nat)) :: _)
  (repeat' (first | intro (b : Nat) | refine go ?_ | (refine br ?_ ?_ <;> first | exact trivial | intro hq) | refine L.call (h := by intro W hW; apply hD W hW.base) (k := ?_)))
  all_goals (refine rett ?_)
  all_goals simp [tupleOf, drV, *]

end D
end Go.Proofs.YtboglbdhibcacaaGreatDoor

namespace Go.Proofs.YtboglbdhibcacaaGreatDoor
set_option linter.unusedVariables false
set_option linter.unusedSimpArgs false
set_option maxRecDepth 100000
set_option maxHeartbeats 1000000
namespace D
open Go.RowKit
open Go.PlainAid (bt bt_nonneg bt_le bt_end)
attribute [local irreducible] Calls

theorem a_weekAtG (n : Int) (h : 0 ≤ n ∧ n ≤ 3652058) (w : World) (hb : D.Base w) : Calls Tryz.prog 265 #[.int .i64 n] w fun e w' => e = .returned (.agg #[.int .i64 (wyr n), .int .i64 (wno n), .int .i64 (n % 7 + 1)]) ∧ Below w.heap.size w w' := by
  obtain ⟨m, d, h1, h2⟩ := wyr_date h
  exact a_weekAt n (wyr n) m d h1 h2 h w hb

theorem wno_53 {n : Int} (h : 0 ≤ n ∧ n ≤ 3652058) : 1 ≤ wno n ∧ wno n ≤ 53 := by
  have := wno_bd h
  have := wks_bd (wyr n)
  omega

theorem a_weekParts (y m d : Int) (h : dval y m d = true) (w : World) (hb : D.Base w) : Calls Tryz.prog 263 #[.agg #[], .agg #[.int .i64 y, .int .i64 m, .int .i64 d]] w (Ret w (NewSl 3 3 (.cells 9 [.string (strOfNums (digL (wyr (num y m d)) 4)), .string (strOfNums (87 :: digL (wno (num y m d)) 2)), .string (strOfNums (digL (num y m d % 7 + 1) 1))]))) := by
  have hn := num_bd h
  have h1 := wyr_in hn
  have h2 := wno_53 hn
  have hN : ∀ W, D.Base W → Calls Tryz.prog 114 #[.agg #[.int .i64 y, .int .i64 m, .int .i64 d]] W fun e w' => e = .returned (.int .i64 (num y m d)) ∧ Below W.heap.size W w' := fun W hW => a_number y m d h W hW
  have hA : ∀ W, D.Base W → Calls Tryz.prog 265 #[.int .i64 (num y m d)] W fun e w' => e = .returned (.agg #[.int .i64 (wyr (num y m d)), .int .i64 (wno (num y m d)), .int .i64 (num y m d % 7 + 1)]) ∧ Below W.heap.size W w' := fun W hW => a_weekAtG _ hn W hW
  have es : ∀ l : List Int, strOfNums (87 :: l) = (⟨#[87]⟩ : ByteArray) ++ strOfNums l := fun l => by
    rw [show (⟨#[87]⟩ : ByteArray) = strOfNums [87] from rfl, strOfNums_append]
    rfl
  have hl := digL_length (wno (num y m d)) 2
  rw [es]
  generalize wyr (num y m d) = Y at *
  generalize wno (num y m d) = K at *
  generalize num y m d = n at *
  refine enter Tryz.func263 rfl Tryz.ntmps263 rfl (by assumption) ?_
  (repeat' (first | intro (b : Nat) | refine go ?_ | (refine br ?_ ?_ <;> first | exact trivial | intro hq) | refine L.call (h := by intro W hW; first | apply hN W hW.base | apply hA W hW.base | apply a_digits4 _ (by omega) W hW.base | apply a_digits2 _ (by omega) W hW.base | apply a_digits1 _ (by omega) W hW.base) (k := ?_) | refine gg ?_ | refine G.call (h := by intro W hW; first | apply hN W hW.base | apply hA W hW.base | apply a_digits4 _ (by omega) W hW.base | apply a_digits2 _ (by omega) W hW.base | apply a_digits1 _ (by omega) W hW.base) (k := ?_) | (apply C.draww (id := 2) 12 [none, some _, some _, none, some _, some _, none, none, some _, some _, some _, none])))
  exact retsl

theorem a_dayParts (y m d : Int) (h : dval y m d = true) (w : World) (hb : D.Base w) : Calls Tryz.prog 270 #[.agg #[], .agg #[.int .i64 y, .int .i64 m, .int .i64 d]] w (Ret w (NewSl 2 2 (.cells 9 [.string (strOfNums (digL y 4)), .string (strOfNums (digL (ord y m d) 3))]))) := by
  have hd := dval_bd h
  have ho := ord_bd y m d (by omega) (by omega) (by omega)
  refine enter Tryz.func270 rfl Tryz.ntmps270 rfl (by assumption) ?_
  (repeat' (first | intro (b : Nat) | refine go ?_ | (refine br ?_ ?_ <;> first | exact trivial | intro hq) | refine L.call (h := by intro W hW; first | apply a_digits4 _ (by omega) W hW.base | apply a_ordinal _ _ _ h W hW.base | apply a_digits3 _ (by omega) W hW.base) (k := ?_) | refine gg ?_ | refine G.call (h := by intro W hW; first | apply a_digits4 _ (by omega) W hW.base | apply a_ordinal _ _ _ h W hW.base | apply a_digits3 _ (by omega) W hW.base) (k := ?_) | (apply C.draww (id := 1) 8 [none, some _, some _, some _, some _, some _, some _, none])))
  exact retsl

theorem a_dateText0 (y m d : Int) (h : Bool) (hv : dval y m d = true) (w : World) (hb : D.Base w) : Calls Tryz.prog 62 #[.agg #[.int .i64 y, .int .i64 m, .int .i64 d], .iface 125 (.agg #[]), .bool h] w fun e w' => e = .returned (.string (strOfNums (dtL y m d 0 h))) ∧ Below w.heap.size w w' := by
  have es : strOfNums (dtL y m d 0 h) = strOfNums (digL y 4 ++ hy1 h ++ digL m 2 ++ hy1 h ++ digL d 2) := rfl
  have l1 := digL_length y 4
  have l2 := digL_length m 2
  have l3 := digL_length d 2
  rw [es]
  cases h
  all_goals
    refine enter Tryz.func62 rfl Tryz.ntmps62 rfl (by assumption) ?_
    (repeat (first | intro (b : Nat) | refine go ?_))
    (refine L.invsl (h := by intro W hW; exact a_monthParts y m d hv W hW.base) (k := ?_); intro bp)
    generalize digL y 4 = x at *
    generalize digL m 2 = z at *
    generalize digL d 2 = u at *
    (repeat (first | intro (b : Nat) | refine go ?_))
    refine C.rounds 6 ?_
    (repeat' (first | intro (b : Nat) | refine go ?_ | (refine br ?_ ?_ <;> first | exact trivial | intro hq)))
    (refine ret ?_)
    refine congrArg Value.string ?_
    rw [show (⟨#[]⟩ : ByteArray) = strOfNums [] from rfl]
    try rw [show (⟨#[45]⟩ : ByteArray) = strOfNums [45] from rfl]
    simp only [strOfNums_append]
    simp [hy1]

theorem a_dateText1 (y m d : Int) (h : Bool) (hv : dval y m d = true) (w : World) (hb : D.Base w) : Calls Tryz.prog 62 #[.agg #[.int .i64 y, .int .i64 m, .int .i64 d], .iface 126 (.agg #[]), .bool h] w fun e w' => e = .returned (.string (strOfNums (dtL y m d 1 h))) ∧ Below w.heap.size w w' := by
  have es : strOfNums (dtL y m d 1 h) = strOfNums (digL (wyr (num y m d)) 4 ++ hy1 h ++ (87 :: digL (wno (num y m d)) 2) ++ hy1 h ++ digL (num y m d % 7 + 1) 1) := rfl
  have l1 := digL_length (wyr (num y m d)) 4
  have l2 := digL_length (wno (num y m d)) 2
  have l3 := digL_length (num y m d % 7 + 1) 1
  have l2' : (87 :: digL (wno (num y m d)) 2).length = 3 := by rw [List.length_cons, l2]
  rw [es]
  cases h
  all_goals
    refine enter Tryz.func62 rfl Tryz.ntmps62 rfl (by assumption) ?_
    (repeat (first | intro (b : Nat) | refine go ?_))
    (refine L.invsl (h := by intro W hW; exact a_weekParts y m d hv W hW.base) (k := ?_); intro bp)
    generalize (87 :: digL (wno (num y m d)) 2) = z at *
    generalize digL (wyr (num y m d)) 4 = x at *
    generalize digL (num y m d % 7 + 1) 1 = u at *
    (repeat (first | intro (b : Nat) | refine go ?_))
    refine C.rounds 6 ?_
    (repeat' (first | intro (b : Nat) | refine go ?_ | (refine br ?_ ?_ <;> first | exact trivial | intro hq)))
    (refine ret ?_)
    refine congrArg Value.string ?_
    rw [show (⟨#[]⟩ : ByteArray) = strOfNums [] from rfl]
    try rw [show (⟨#[45]⟩ : ByteArray) = strOfNums [45] from rfl]
    simp only [strOfNums_append]
    simp [hy1]

theorem a_dateText2 (y m d : Int) (h : Bool) (hv : dval y m d = true) (w : World) (hb : D.Base w) : Calls Tryz.prog 62 #[.agg #[.int .i64 y, .int .i64 m, .int .i64 d], .iface 127 (.agg #[]), .bool h] w fun e w' => e = .returned (.string (strOfNums (dtL y m d 2 h))) ∧ Below w.heap.size w w' := by
  have es : strOfNums (dtL y m d 2 h) = strOfNums (digL y 4 ++ hy1 h ++ digL (ord y m d) 3) := rfl
  have l1 := digL_length y 4
  have l2 := digL_length (ord y m d) 3
  rw [es]
  cases h
  all_goals
    refine enter Tryz.func62 rfl Tryz.ntmps62 rfl (by assumption) ?_
    (repeat (first | intro (b : Nat) | refine go ?_))
    (refine L.invsl (h := by intro W hW; exact a_dayParts y m d hv W hW.base) (k := ?_); intro bp)
    generalize digL y 4 = x at *
    generalize digL (ord y m d) 3 = z at *
    (repeat (first | intro (b : Nat) | refine go ?_))
    refine C.rounds 6 ?_
    (repeat' (first | intro (b : Nat) | refine go ?_ | (refine br ?_ ?_ <;> first | exact trivial | intro hq)))
    (refine ret ?_)
    refine congrArg Value.string ?_
    rw [show (⟨#[]⟩ : ByteArray) = strOfNums [] from rfl]
    try rw [show (⟨#[45]⟩ : ByteArray) = strOfNums [45] from rfl]
    simp only [strOfNums_append]
    simp [hy1]

theorem a_DateText (y m d f : Int) (h : Bool) (w : World) (hb : D.Base w) : Calls Tryz.prog 67 #[.agg #[.int .i64 y, .int .i64 m, .int .i64 d], .int .i64 f, .bool h] w fun e w' => e = .returned (dtS y m d f h) ∧ Below w.heap.size w w' := by
  cases h1 : dval y m d with
  | false =>
    have e : dtS y m d f h = .tuple #[.string ⟨#[]⟩, .bool false] := if_neg (by simp [h1])
    rw [e]
    refine enter Tryz.func67 rfl Tryz.ntmps67 rfl (by assumption) ?_
    (repeat' (first | intro (b : Nat) | refine go ?_ | (refine br ?_ ?_ <;> first | exact trivial | intro hq) | refine L.call (h := by intro W hW; apply rvb h1 (a_DateValid _ _ _ W hW.base)) (k := ?_) | refine gg ?_ | refine G.call (h := by intro W hW; apply rvb h1 (a_DateValid _ _ _ W hW.base)) (k := ?_) | (apply C.draww (id := 3) 9 [some _, some _, none, none, some _, none, some _, none, none])))
    all_goals (refine ret ?_; try exact rfl)
  | true =>
    cases h2 : inR f 0 2 with
    | false =>
      have e : dtS y m d f h = .tuple #[.string ⟨#[]⟩, .bool false] := if_neg (by simp [h2])
      rw [e]
      refine enter Tryz.func67 rfl Tryz.ntmps67 rfl (by assumption) ?_
      (repeat' (first | intro (b : Nat) | refine go ?_ | (refine br ?_ ?_ <;> first | exact trivial | intro hq) | refine L.call (h := by intro W hW; first | apply rvb h1 (a_DateValid _ _ _ W hW.base) | apply rvb h2 (a_within _ _ _ W hW.base)) (k := ?_) | refine gg ?_ | refine G.call (h := by intro W hW; first | apply rvb h1 (a_DateValid _ _ _ W hW.base) | apply rvb h2 (a_within _ _ _ W hW.base)) (k := ?_) | (apply C.draww (id := 3) 9 [some _, some _, none, none, some _, none, some _, none, none])))
      all_goals (refine ret ?_; try exact rfl)
    | true =>
      have e : dtS y m d f h = .tuple #[.string (strOfNums (dtL y m d f h)), .bool true] := if_pos ⟨h1, h2⟩
      have h3 := inR_true.1 h2
      rw [e]
      rcases (by omega : f = 0 ∨ f = 1 ∨ f = 2) with rfl | rfl | rfl
      all_goals
        refine enter Tryz.func67 rfl Tryz.ntmps67 rfl (by assumption) ?_
        (repeat' (first | intro (b : Nat) | refine go ?_ | (refine br ?_ ?_ <;> first | exact trivial | intro hq) | refine L.call (h := by intro W hW; first | apply rvb h1 (a_DateValid _ _ _ W hW.base) | apply rvb h2 (a_within _ _ _ W hW.base)) (k := ?_)))
        (apply C.draww (id := 3) 9 [some _, some _, none, none, some _, none, some _, none, none])
        (repeat (first | intro (b : Nat) | refine gg ?_))
        (refine G.slcall (h := by intro W hW; exact a_forms W hW.base) (k := ?_); intro bf)
        (repeat (first | intro (b : Nat) | refine gg ?_))
        (refine G.vd (X := [(bf, .cells 84 formsV)]) (by kernel_rfl) rfl rfl (by (first | (apply OV.load1; exact rfl; (· (repeat (first | exact List.Mem.head _ | apply List.Mem.tail))); (· (repeat (first | exact Rd.nil | apply Rd.take | apply Rd.skip)))) | (apply OV.loadk; exact rfl; (· (repeat (first | exact List.Mem.head _ | apply List.Mem.tail))); (· (repeat (first | exact Rd.nil | apply Rd.take | apply Rd.skip)))) | (apply OV.load0; exact rfl; (· assumption)) | (apply OV.load0k; exact rfl; rotate_left; (· assumption); exact rfl) | (apply OV.strOf; exact rfl; (· (repeat (first | exact List.Mem.head _ | apply List.Mem.tail))); (· (repeat (first | exact Rd.nil | apply Rd.take | apply Rd.skip))); (· (repeat (first | exact Nums.nil | apply Nums.cons)))) | (apply OV.loadi; exact rfl; (· (repeat (first | exact List.Mem.head _ | apply List.Mem.tail))); (· assumption)) | (apply OV.loadx; exact rfl; (· (repeat (first | exact List.Mem.head _ | apply List.Mem.tail))); rotate_left; (· assumption); exact rfl))) ?_)
        (repeat (first | intro (b : Nat) | refine gg ?_))
        (refine G.call (h := by intro W hW; first | apply a_dateText0 _ _ _ _ h1 W hW.base | apply a_dateText1 _ _ _ _ h1 W hW.base | apply a_dateText2 _ _ _ _ h1 W hW.base) (k := ?_))
        (repeat (first | intro (b : Nat) | refine gg ?_))
        (repeat (first | intro (b : Nat) | refine go ?_))
        all_goals (refine ret ?_; try exact rfl)

end D
end Go.Proofs.YtboglbdhibcacaaGreatDoor
