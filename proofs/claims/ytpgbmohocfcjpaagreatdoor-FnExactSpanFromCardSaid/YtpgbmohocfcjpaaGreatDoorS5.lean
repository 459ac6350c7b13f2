/- Walks of the reference: stamps of instants, rounding. -/
import Derived.Test.YtpgbmohocfcjpaaGreatDoorS3
import Derived.Test.YtpgbmohocfcjpaaGreatDoorS4
import Derived.Test.YtpgbmohocfcjpaaGreatDoorA7
namespace Go.Proofs.YtpgbmohocfcjpaaGreatDoor
set_option linter.unusedVariables false
set_option linter.unusedSimpArgs false
set_option maxRecDepth 100000
set_option maxHeartbeats 1000000
namespace D
open Go.RowKit
attribute [local irreducible] Calls

theorem b_DateOfG (n : Int) (w : World) (hb : D.Base w) : Calls Tryz.prog 165 #[.int .i64 n] w fun e w' => e = .returned (drV (dateOf n)) ∧ Below w.heap.size w w' := by
  cases h : inR n 0 3652058 with
  | true =>
    obtain ⟨y, m, d, h1, rfl, h2⟩ := dateOf_yes h
    rw [h2]
    exact b_DateOf y m d h1 w hb
  | false =>
    rw [dateOf_no h]
    exact b_DateOf_no n h w hb

theorem b_l5Of (n : Int) (h0 : 0 ≤ n ∧ n ≤ 9223372036854775807) (w : World) (hb : D.Base w) : Calls Tryz.prog 166 #[.int .i64 n] w fun e w' => e = .returned (.agg #[.int .i64 (n / 3600000), .int .i64 (n / 60000 % 60), .int .i64 (n / 1000 % 60), .int .i64 (n % 1000)]) ∧ Below w.heap.size w w' := by
  refine enter Tryz.func166 rfl Tryz.ntmps166 rfl (by assumption) ?_
  (repeat' (first | intro (b : Nat) | refine go ?_ | (refine br ?_ ?_ <;> first | exact trivial | intro hq)))
  (refine ret ?_; try exact rfl)

theorem b_l12Ok (n : Int) (w : World) (hb : D.Base w) : Calls Tryz.prog 164 #[.int .i64 n] w fun e w' => e = .returned (.bool (inR n (-86400000) 315537984000000)) ∧ Below w.heap.size w w' := by
  refine enter Tryz.func164 rfl Tryz.ntmps164 rfl (by assumption) ?_
  (repeat' (first | intro (b : Nat) | refine go ?_ | (refine br ?_ ?_ <;> first | exact trivial | intro hq) | refine L.call (h := by intro W hW; apply b_in _ _ _ W hW.base) (k := ?_)))
  (refine ret ?_; try exact rfl)

theorem b_StampAt (n o : Int) (w : World) (hb : D.Base w) : Calls Tryz.prog 116 #[.int .i64 n, .int .i64 o] w fun e w' => e = .returned (srV (stampAt n o)) ∧ Below w.heap.size w w' := by
  cases h2 : inR o (-1439) 1439
  · have e : stampAt n o = SR.no := if_neg (by simp [h2])
    rw [e]
    refine enter Tryz.func116 rfl Tryz.ntmps116 rfl (by assumption) ?_
    (repeat' (first | intro (b : Nat) | refine go ?_ | (refine br ?_ ?_ <;> first | exact trivial | intro hq) | refine L.call (h := by intro W hW; apply rvb h2 (b_in _ _ _ W hW.base)) (k := ?_) | refine gg ?_ | refine G.call (h := by intro W hW; apply rvb h2 (b_in _ _ _ W hW.base)) (k := ?_) | (apply C.draww (id := 9) 6 [some _, none, none, some _, none, none])))
    (refine ret ?_; try exact rfl)
  cases h1 : inR n (-86400000) 315537984000000
  · have e : stampAt n o = SR.no := if_neg (by simp [h1])
    rw [e]
    refine enter Tryz.func116 rfl Tryz.ntmps116 rfl (by assumption) ?_
    (repeat' (first | intro (b : Nat) | refine go ?_ | (refine br ?_ ?_ <;> first | exact trivial | intro hq) | refine L.call (h := by intro W hW; first | apply rvb h2 (b_in _ _ _ W hW.base) | apply rvb h1 (b_l12Ok _ W hW.base)) (k := ?_) | refine gg ?_ | refine G.call (h := by intro W hW; first | apply rvb h2 (b_in _ _ _ W hW.base) | apply rvb h1 (b_l12Ok _ W hW.base)) (k := ?_) | (apply C.draww (id := 9) 6 [some _, none, none, some _, none, none])))
    (refine ret ?_; try exact rfl)
  have hn := inR_true.1 h1
  have ho := inR_true.1 h2
  by_cases hL : 0 ≤ n + 60000 * o
  · have e : stampAt n o = stampL (n + 60000 * o) o := if_pos ⟨h1, h2, hL⟩
    rw [e]
    cases hr : inR ((n + 60000 * o) / 86400000) 0 3652058 with
    | true =>
      obtain ⟨y, m, d, k1, k2, k3⟩ := stampL_yes o hr
      rw [k3, srV]
      have k4 := b_DateOf y m d k1
      rw [k2] at k4
      refine enter Tryz.func116 rfl Tryz.ntmps116 rfl (by assumption) ?_
      (repeat' (first | intro (b : Nat) | refine go ?_ | (refine br ?_ ?_ <;> first | exact trivial | intro hq) | refine L.call (h := by intro W hW; first | apply rvb h2 (b_in _ _ _ W hW.base) | apply rvb h1 (b_l12Ok _ W hW.base) | apply k4 W hW.base | apply b_l5Of _ (by omega) W hW.base) (k := ?_) | refine gg ?_ | refine G.call (h := by intro W hW; first | apply rvb h2 (b_in _ _ _ W hW.base) | apply rvb h1 (b_l12Ok _ W hW.base) | apply k4 W hW.base | apply b_l5Of _ (by omega) W hW.base) (k := ?_) | (apply C.draww (id := 9) 6 [some _, none, none, some _, none, none])))
      (refine ret ?_; try exact rfl)
    | false =>
      rw [stampL_no o hr]
      refine enter Tryz.func116 rfl Tryz.ntmps116 rfl (by assumption) ?_
      (repeat' (first | intro (b : Nat) | refine go ?_ | (refine br ?_ ?_ <;> first | exact trivial | intro hq) | refine L.call (h := by intro W hW; first | apply rvb h2 (b_in _ _ _ W hW.base) | apply rvb h1 (b_l12Ok _ W hW.base) | apply b_DateOf_no _ hr W hW.base) (k := ?_) | refine gg ?_ | refine G.call (h := by intro W hW; first | apply rvb h2 (b_in _ _ _ W hW.base) | apply rvb h1 (b_l12Ok _ W hW.base) | apply b_DateOf_no _ hr W hW.base) (k := ?_) | (apply C.draww (id := 9) 6 [some _, none, none, some _, none, none])))
      (refine ret ?_; try exact rfl)
  · have e : stampAt n o = SR.no := if_neg (fun k => hL k.2.2)
    rw [e]
    refine enter Tryz.func116 rfl Tryz.ntmps116 rfl (by assumption) ?_
    (repeat' (first | intro (b : Nat) | refine go ?_ | (refine br ?_ ?_ <;> first | exact trivial | intro hq) | refine L.call (h := by intro W hW; first | apply rvb h2 (b_in _ _ _ W hW.base) | apply rvb h1 (b_l12Ok _ W hW.base)) (k := ?_) | refine gg ?_ | refine G.call (h := by intro W hW; first | apply rvb h2 (b_in _ _ _ W hW.base) | apply rvb h1 (b_l12Ok _ W hW.base)) (k := ?_) | (apply C.draww (id := 9) 6 [some _, none, none, some _, none, none])))
    (refine ret ?_; try exact rfl)

end D
end Go.Proofs.YtpgbmohocfcjpaaGreatDoor
