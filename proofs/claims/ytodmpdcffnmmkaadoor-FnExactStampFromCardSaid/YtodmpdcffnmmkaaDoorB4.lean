/- Walks: reading, whether it is there or not; weeks and days of years of the program. -/
import Derived.Test.YtodmpdcffnmmkaaDoorB2
import Derived.Test.YtodmpdcffnmmkaaDoorA7
namespace Go.Proofs.YtodmpdcffnmmkaaDoor
set_option linter.unusedVariables false
set_option linter.unusedSimpArgs false
set_option maxRecDepth 100000
set_option maxHeartbeats 1000000
namespace D
open Go.RowKit
open Go.PlainAid (bt bt_nonneg bt_le bt_end)
attribute [local irreducible] Calls

theorem n_any (w0 : World) (F : SH) (r : Nat) (s : ByteArray) (p m : Nat) (k : Int) (hk : k = (m : Int)) (hs : s.size ≤ 1000000000000) (hp : p ≤ s.size) (hm : m ≤ 6) (w : World) (hst : St w0 ((r, rdB s (p : Int)) :: F) w) :
    Calls Tryd.prog 22 #[.pointer (some ⟨r, 0, none⟩), .int .i64 k] w (Turns w0 (.tuple #[.int .i64 (numV s p m), .bool (allD s p m)]) ((r, rdB s (nxt s p m : Nat)) :: F)) := by
  subst hk
  cases h : allD s p m with
  | true =>
    have e1 : numV s p m = numL s p m := if_pos h
    have e2 : ((nxt s p m : Nat) : Int) = (p : Int) + m := by
      rw [show nxt s p m = p + m from if_pos h]; omega
    rw [e1, e2]
    exact a_number_yes w0 F r s p m hs hp hm h w hst
  | false =>
    have e1 : numV s p m = 0 := if_neg (by simp [h])
    have e2 : ((nxt s p m : Nat) : Int) = (p : Int) := by
      rw [show nxt s p m = p from if_neg (by simp [h])]
    rw [e1, e2]
    exact a_number_no w0 F r s p m hs hp hm h w hst

theorem t_any (w0 : World) (F : SH) (r : Nat) (s : ByteArray) (p : Nat) (c : Int) (hs : s.size ≤ 1000000000000) (hp : p ≤ s.size) (w : World) (hst : St w0 ((r, rdB s (p : Int)) :: F) w) :
    Calls Tryd.prog 12 #[.pointer (some ⟨r, 0, none⟩), .int .u8 c] w (Turns w0 (.bool (isB s p c)) ((r, rdB s (takN s p c : Nat)) :: F)) := by
  cases h : isB s p c with
  | true =>
    have e2 : ((takN s p c : Nat) : Int) = (p : Int) + 1 := by
      rw [show takN s p c = p + 1 from if_pos h]; omega
    rw [e2]
    exact a_take_yes w0 F r s p c hs h w hst
  | false =>
    have e2 : ((takN s p c : Nat) : Int) = (p : Int) := by
      rw [show takN s p c = p from if_neg (by simp [h])]
    rw [e2]
    exact a_take_no w0 F r s p c hs hp h w hst

theorem bt_any (w0 : World) (F : SH) (r : Nat) (s : ByteArray) (p : Nat) (h : Bool) (hs : s.size ≤ 1000000000000) (hp : p ≤ s.size) (w : World) (hst : St w0 ((r, rdB s (p : Int)) :: F) w) :
    Calls Tryd.prog 23 #[.pointer (some ⟨r, 0, none⟩), .bool h] w (Turns w0 (.bool (btV s p h)) ((r, rdB s (btN s p h : Nat)) :: F)) := by
  cases h with
  | false => exact a_between_free w0 F r s p w hst
  | true =>
    cases hb : isB s p 45 with
    | true =>
      have e1 : btV s p true = true := by simp [btV, hb]
      have e2 : ((btN s p true : Nat) : Int) = (p : Int) + 1 := by
        rw [show btN s p true = p + 1 from if_pos ⟨rfl, hb⟩]; omega
      rw [e1, e2]
      exact a_between_yes w0 F r s p hs hb w hst
    | false =>
      have e1 : btV s p true = false := by simp [btV, hb]
      have e2 : ((btN s p true : Nat) : Int) = (p : Int) := by
        rw [show btN s p true = p from if_neg (by simp [hb])]
      rw [e1, e2]
      exact a_between_no w0 F r s p hs hp hb w hst

end D
end Go.Proofs.YtodmpdcffnmmkaaDoor
