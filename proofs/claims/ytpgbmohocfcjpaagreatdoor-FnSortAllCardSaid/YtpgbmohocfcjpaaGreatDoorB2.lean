/- Walks: forms of dates of the program. -/
import Derived.Test.YtpgbmohocfcjpaaGreatDoorB1
import Derived.Test.YtpgbmohocfcjpaaGreatDoorA7
import Derived.Test.YtpgbmohocfcjpaaGreatDoorE3m
import Derived.Test.YtpgbmohocfcjpaaGreatDoorPT
namespace Go.Proofs.YtpgbmohocfcjpaaGreatDoor
set_option linter.unusedVariables false
set_option linter.unusedSimpArgs false
set_option maxRecDepth 100000
set_option maxHeartbeats 1000000
namespace D
open Go.RowKit
open Go.PlainAid (bt bt_nonneg bt_le bt_end)
attribute [local irreducible] Calls

theorem a_between_free (w0 : World) (F : SH) (r : Nat) (s : ByteArray) (p : Int) (w : World) (hst : St w0 ((r, rdB s p) :: F) w) :
    Calls Tryz.prog 117 #[.pointer (some ⟨r, 0, none⟩), .bool false] w (Turns w0 (.bool true) ((r, rdB s p) :: F)) := by
  refine enterl Tryz.func117 rfl Tryz.ntmps117 rfl hst ?_
  (repeat' (first | intro (b : Nat) | refine go ?_ | (refine br ?_ ?_ <;> first | exact trivial | intro hq)))
  (refine rett rfl)

theorem a_between_no (w0 : World) (F : SH) (r : Nat) (s : ByteArray) (p : Nat) (hs : s.size ≤ 1000000000000) (hp : p ≤ s.size) (h : isB s p 45 = false) (w : World) (hst : St w0 ((r, rdB s p) :: F) w) :
    Calls Tryz.prog 117 #[.pointer (some ⟨r, 0, none⟩), .bool true] w (Turns w0 (.bool false) ((r, rdB s p) :: F)) := by
  refine enterl Tryz.func117 rfl Tryz.ntmps117 rfl hst ?_
  (repeat (first | intro (b : Nat) | refine go ?_))
  (refine L.tcall (h := by intro W hW; exact a_take_no _ _ _ _ _ _ hs hp h W hW) (k := ?_))
  (repeat (first | intro (b : Nat) | refine go ?_))
  (refine rett rfl)

theorem a_between_yes (w0 : World) (F : SH) (r : Nat) (s : ByteArray) (p : Nat) (hs : s.size ≤ 1000000000000) (h : isB s p 45 = true) (w : World) (hst : St w0 ((r, rdB s p) :: F) w) :
    Calls Tryz.prog 117 #[.pointer (some ⟨r, 0, none⟩), .bool true] w (Turns w0 (.bool true) ((r, rdB s ((p : Int) + 1)) :: F)) := by
  refine enterl Tryz.func117 rfl Tryz.ntmps117 rfl hst ?_
  (repeat (first | intro (b : Nat) | refine go ?_))
  (refine L.tcall (h := by intro W hW; exact a_take_yes _ _ _ _ _ _ hs h W hW) (k := ?_))
  (repeat (first | intro (b : Nat) | refine go ?_))
  (refine rett rfl)

instance : Mth Tryz.prog 86 (.agg #[]) "loop.example/datenotation/impl.parts" 251 (.agg #[]) := ⟨fun w => by kernel_rfl⟩

instance : Mth Tryz.prog 86 (.agg #[]) "loop.example/datenotation/impl.read" 60 (.agg #[]) := ⟨fun w => by kernel_rfl⟩

theorem a_monthParts (y m d : Int) (h : dval y m d = true) (w : World) (hb : D.Base w) : Calls Tryz.prog 251 #[.agg #[], .agg #[.int .i64 y, .int .i64 m, .int .i64 d]] w (Ret w (NewSl 3 3 (.cells 9 [.string (strOfNums (digL y 4)), .string (strOfNums (digL m 2)), .string (strOfNums (digL d 2))]))) := by
  have hd := dval_bd h
  refine enter Tryz.func251 rfl Tryz.ntmps251 rfl (by assumption) ?_
  (repeat' (first | intro (b : Nat) | refine go ?_ | (refine br ?_ ?_ <;> first | exact trivial | intro hq) | refine L.call (h := by intro W hW; first | apply a_digits4 _ (by omega) W hW.base | apply a_digits2 _ (by omega) W hW.base) (k := ?_) | refine gg ?_ | refine G.call (h := by intro W hW; first | apply a_digits4 _ (by omega) W hW.base | apply a_digits2 _ (by omega) W hW.base) (k := ?_) | (apply C.draww (id := 1) 11 [none, some _, some _, none, some _, some _, none, some _, some _, some _, none])))
  exact retsl

end D
end Go.Proofs.YtpgbmohocfcjpaaGreatDoor

namespace Go.Proofs.YtpgbmohocfcjpaaGreatDoor
set_option linter.unusedVariables false
set_option linter.unusedSimpArgs false
set_option maxRecDepth 100000
set_option maxHeartbeats 1000000
namespace D
open Go.RowKit
open Go.PlainAid (bt bt_nonneg bt_le bt_end)
attribute [local irreducible] Calls

theorem n_any (w0 : World) (F : SH) (r : Nat) (s : ByteArray) (p m : Nat) (k : Int) (hk : k = (m : Int)) (hs : s.size ≤ 1000000000000) (hp : p ≤ s.size) (hm : m ≤ 6) (w : World) (hst : St w0 ((r, rdB s (p : Int)) :: F) w) :
    Calls Tryz.prog 94 #[.pointer (some ⟨r, 0, none⟩), .int .i64 k] w (Turns w0 (.tuple #[.int .i64 (numV s p m), .bool (allD s p m)]) ((r, rdB s (nxt s p m : Nat)) :: F)) := by
  subst hk
  cases h : allD s p m with
  | true =>
    have e1 : numV s p m = numL s p m := if_pos h
    have e2 : ((nxt s p m : Nat) : Int) = (p : Int) + m := by
      rw [show nxt s p m = p + m from if_pos h]; omega
    rw [e1, e2]
    exact a_number_yes w0 F r s p m hs hp hm h w hst
  | false =>
    have e1 : numV s p m = 0 := if_neg (by simp [h])
    have e2 : ((nxt s p m : Nat) : Int) = (p : Int) := by
      rw [show nxt s p m = p from if_neg (by simp [h])]
    rw [e1, e2]
    exact a_number_no w0 F r s p m hs hp hm h w hst

theorem t_any (w0 : World) (F : SH) (r : Nat) (s : ByteArray) (p : Nat) (c : Int) (hs : s.size ≤ 1000000000000) (hp : p ≤ s.size) (w : World) (hst : St w0 ((r, rdB s (p : Int)) :: F) w) :
    Calls Tryz.prog 61 #[.pointer (some ⟨r, 0, none⟩), .int .u8 c] w (Turns w0 (.bool (isB s p c)) ((r, rdB s (takN s p c : Nat)) :: F)) := by
  cases h : isB s p c with
  | true =>
    have e2 : ((takN s p c : Nat) : Int) = (p : Int) + 1 := by
      rw [show takN s p c = p + 1 from if_pos h]; omega
    rw [e2]
    exact a_take_yes w0 F r s p c hs h w hst
  | false =>
    have e2 : ((takN s p c : Nat) : Int) = (p : Int) := by
      rw [show takN s p c = p from if_neg (by simp [h])]
    rw [e2]
    exact a_take_no w0 F r s p c hs hp h w hst

theorem bt_any (w0 : World) (F : SH) (r : Nat) (s : ByteArray) (p : Nat) (h : Bool) (hs : s.size ≤ 1000000000000) (hp : p ≤ s.size) (w : World) (hst : St w0 ((r, rdB s (p : Int)) :: F) w) :
    Calls Tryz.prog 117 #[.pointer (some ⟨r, 0, none⟩), .bool h] w (Turns w0 (.bool (btV s p h)) ((r, rdB s (btN s p h : Nat)) :: F)) := by
  cases h with
  | false => exact a_between_free w0 F r s p w hst
  | true =>
    cases hb : isB s p 45 with
    | true =>
      have e1 : btV s p true = true := by simp [btV, hb]
      have e2 : ((btN s p true : Nat) : Int) = (p : Int) + 1 := by
        rw [show btN s p true = p + 1 from if_pos ⟨rfl, hb⟩]; omega
      rw [e1, e2]
      exact a_between_yes w0 F r s p hs hb w hst
    | false =>
      have e1 : btV s p true = false := by simp [btV, hb]
      have e2 : ((btN s p true : Nat) : Int) = (p : Int) := by
        rw [show btN s p true = p from if_neg (by simp [hb])]
      rw [e1, e2]
      exact a_between_no w0 F r s p hs hp hb w hst

end D
end Go.Proofs.YtpgbmohocfcjpaaGreatDoor

namespace Go.Proofs.YtpgbmohocfcjpaaGreatDoor
set_option linter.unusedVariables false
set_option linter.unusedSimpArgs false
set_option maxRecDepth 100000
set_option maxHeartbeats 1000000
namespace D
open Go.RowKit
open Go.PlainAid (bt bt_nonneg bt_le bt_end)
attribute [local irreducible] Calls

theorem m_le (s : ByteArray) (h : Bool) : m1 s ≤ s.size ∧ m2 s h ≤ s.size ∧ m3 s h ≤ s.size ∧ m4 s h ≤ s.size ∧ m5 s h ≤ s.size := by
  have h1 : m1 s ≤ s.size := nxt_le (by omega) (by omega)
  have h2 : m2 s h ≤ s.size := btN_le h1
  have h3 : m3 s h ≤ s.size := nxt_le (by omega) h2
  have h4 : m4 s h ≤ s.size := btN_le h3
  exact ⟨h1, h2, h3, h4, nxt_le (by omega) h4⟩

theorem a_monthRead (w0 : World) (F : SH) (r : Nat) (s : ByteArray) (h : Bool) (hs : s.size ≤ 1000000000000) (w : World) (hst : St w0 ((r, rdB s 0) :: F) w) :
    Calls Tryz.prog 60 #[.agg #[], .pointer (some ⟨r, 0, none⟩), .bool h] w (Turns w0 (drV (rdM s h)) ((r, rdB s (m5 s h : Nat)) :: F)) := by
  obtain ⟨h1, h2, h3, h4, h5⟩ := m_le s h
  have e : rdM s h = ⟨numV s 0 4, numV s (m2 s h) 2, numV s (m4 s h) 2, allD s 0 4 && allD s (m2 s h) 2 && allD s (m4 s h) 2 && btV s (m1 s) h && btV s (m3 s h) h && dval (numV s 0 4) (numV s (m2 s h) 2) (numV s (m4 s h) 2)⟩ := rfl
  rw [e]
  refine enterl Tryz.func60 rfl Tryz.ntmps60 rfl hst ?_
  (repeat (first | intro (b : Nat) | refine go ?_))
  (refine L.tcallb r (h := by intro W hW; exact n_any _ _ _ _ 0 4 _ rfl hs (by omega) (by omega) W hW) (k := ?_))
  change L _ _ _ _ _ _ _ _ ((r, rdB s (m1 s : Nat)) :: _)
  (repeat (first | intro (b : Nat) | refine go ?_))
  (refine L.tcallb r (h := by intro W hW; exact bt_any _ _ _ _ (m1 s) h hs h1 W hW) (k := ?_))
  change L _ _ _ _ _ _ _ _ ((r, rdB s (m2 s h : Nat)) :: _)
  (repeat (first | intro (b : Nat) | refine go ?_))
  (refine L.tcallb r (h := by intro W hW; exact n_any _ _ _ _ (m2 s h) 2 _ rfl hs h2 (by omega) W hW) (k := ?_))
  change L _ _ _ _ _ _ _ _ ((r, rdB s (m3 s h : Nat)) :: _)
  (repeat (first | intro (b : Nat) | refine go ?_))
  (refine L.tcallb r (h := by intro W hW; exact bt_any _ _ _ _ (m3 s h) h hs h3 W hW) (k := ?_))
  change L _ _ _ _ _ _ _ _ ((r, rdB s (m4 s h : Nat)) :: _)
  (repeat (first | intro (b : Nat) | refine go ?_))
  (refine L.tcallb r (h := by intro W hW; exact n_any _ _ _ _ (m4 s h) 2 _ rfl hs h4 (by omega) W hW) (k := ?_))
  change L _ _ _ _ _ _ _ _ ((r, rdB s (m5 s h : Nat)) :: _)
  generalize allD s 0 4 = x1
  generalize allD s (m2 s h) 2 = x2
  generalize allD s (m4 s h) 2 = x3
  generalize btV s (m1 s) h = x4
  generalize btV s (m3 s h) h = x5
  cases x1
  · (repeat' (first | intro (b : Nat) | refine go ?_ | (refine br ?_ ?_ <;> first | exact trivial | intro hq) | refine L.call (h := by intro W hW; apply a_DateValid _ _ _ W hW.base) (k := ?_) | refine gg ?_ | refine G.call (h := by intro W hW; apply a_DateValid _ _ _ W hW.base) (k := ?_) | (apply C.draww (id := 7) 18 [some _, none, none, none, none, none, none, none, none, none, none, none, none, none, none, some _, some _, none])))
    all_goals (refine rett ?_)
    all_goals simp [tupleOf, drV]
  cases x2
  · (repeat' (first | intro (b : Nat) | refine go ?_ | (refine br ?_ ?_ <;> first | exact trivial | intro hq) | refine L.call (h := by intro W hW; apply a_DateValid _ _ _ W hW.base) (k := ?_) | refine gg ?_ | refine G.call (h := by intro W hW; apply a_DateValid _ _ _ W hW.base) (k := ?_) | (apply C.draww (id := 7) 18 [some _, none, none, none, none, none, none, none, none, none, none, none, none, none, none, some _, some _, none])))
    all_goals (refine rett ?_)
    all_goals simp [tupleOf, drV]
  cases x3
  · (repeat' (first | intro (b : Nat) | refine go ?_ | (refine br ?_ ?_ <;> first | exact trivial | intro hq) | refine L.call (h := by intro W hW; apply a_DateValid _ _ _ W hW.base) (k := ?_) | refine gg ?_ | refine G.call (h := by intro W hW; apply a_DateValid _ _ _ W hW.base) (k := ?_) | (apply C.draww (id := 7) 18 [some _, none, none, none, none, none, none, none, none, none, none, none, none, none, none, some _, some _, none])))
    all_goals (refine rett ?_)
    all_goals simp [tupleOf, drV]
  cases x4
  · (repeat' (first | intro (b : Nat) | refine go ?_ | (refine br ?_ ?_ <;> first | exact trivial | intro hq) | refine L.call (h := by intro W hW; apply a_DateValid _ _ _ W hW.base) (k := ?_) | refine gg ?_ | refine G.call (h := by intro W hW; apply a_DateValid _ _ _ W hW.base) (k := ?_) | (apply C.draww (id := 7) 18 [some _, none, none, none, none, none, none, none, none, none, none, none, none, none, none, some _, some _, none])))
    all_goals (refine rett ?_)
    all_goals simp [tupleOf, drV]
  cases x5
  · (repeat' (first | intro (b : Nat) | refine go ?_ | (refine br ?_ ?_ <;> first | exact trivial | intro hq) | refine L.call (h := by intro W hW; apply a_DateValid _ _ _ W hW.base) (k := ?_) | refine gg ?_ | refine G.call (h := by intro W hW; apply a_DateValid _ _ _ W hW.base) (k := ?_) | (apply C.draww (id := 7) 18 [some _, none, none, none, none, none, none, none, none, none, none, none, none, none, none, some _, some _, none])))
    all_goals (refine rett ?_)
    all_goals simp [tupleOf, drV]
  · (repeat' (first | intro (b : Nat) | refine go ?_ | (refine br ?_ ?_ <;> first | exact trivial | intro hq) | refine L.call (h := by intro W hW; apply a_DateValid _ _ _ W hW.base) (k := ?_) | refine gg ?_ | refine G.call (h := by intro W hW; apply a_DateValid _ _ _ W hW.base) (k := ?_) | (apply C.draww (id := 7) 18 [some _, none, none, none, none, none, none, none, none, none, none, none, none, none, none, some _, some _, none])))
    all_goals (refine rett ?_)
    all_goals simp [tupleOf, drV]

theorem k_le (s : ByteArray) (h : Bool) : k2 s h ≤ s.size ∧ k3 s h ≤ s.size ∧ k4 s h ≤ s.size ∧ k5 s h ≤ s.size := by
  have h2 : k2 s h ≤ s.size := by
    unfold k2
    split
    · exact takN_le (m_le s h).2.1
    · exact (m_le s h).2.1
  have h3 : k3 s h ≤ s.size := nxt_le (by omega) h2
  have h4 : k4 s h ≤ s.size := btN_le h3
  exact ⟨h2, h3, h4, nxt_le (by omega) h4⟩

end D
end Go.Proofs.YtpgbmohocfcjpaaGreatDoor

namespace Go.Proofs.YtpgbmohocfcjpaaGreatDoor
set_option linter.unusedVariables false
set_option linter.unusedSimpArgs false
set_option maxRecDepth 100000
set_option maxHeartbeats 1000000
namespace D
open Go.RowKit
open Go.PlainAid (bt bt_nonneg bt_le bt_end)
attribute [local irreducible] Calls

theorem wno_53 {n : Int} (h : 0 ≤ n ∧ n ≤ 3652058) : 1 ≤ wno n ∧ wno n ≤ 53 := by
  have := wno_bd h
  have := wks_bd (wyr n)
  omega

theorem a_dateText0 (y m d : Int) (h : Bool) (hv : dval y m d = true) (w : World) (hb : D.Base w) : Calls Tryz.prog 79 #[.agg #[.int .i64 y, .int .i64 m, .int .i64 d], .iface 86 (.agg #[]), .bool h] w fun e w' => e = .returned (.string (strOfNums (dtL y m d 0 h))) ∧ Below w.heap.size w w' := by
  have es : strOfNums (dtL y m d 0 h) = strOfNums (digL y 4 ++ hy1 h ++ digL m 2 ++ hy1 h ++ digL d 2) := rfl
  have l1 := digL_length y 4
  have l2 := digL_length m 2
  have l3 := digL_length d 2
  rw [es]
  cases h
  all_goals
    refine enter Tryz.func79 rfl Tryz.ntmps79 rfl (by assumption) ?_
    (repeat (first | intro (b : Nat) | refine go ?_))
    (refine L.invsl (h := by intro W hW; exact a_monthParts y m d hv W hW.base) (k := ?_); intro bp)
    generalize digL y 4 = x at *
    generalize digL m 2 = z at *
    generalize digL d 2 = u at *
    (repeat (first | intro (b : Nat) | refine go ?_))
    refine C.rounds 6 ?_
    (repeat' (first | intro (b : Nat) | refine go ?_ | (refine br ?_ ?_ <;> first | exact trivial | intro hq)))
    (refine ret ?_)
    refine congrArg Value.string ?_
    rw [show (⟨#[]⟩ : ByteArray) = strOfNums [] from rfl]
    try rw [show (⟨#[45]⟩ : ByteArray) = strOfNums [45] from rfl]
    simp only [strOfNums_append]
    simp [hy1]

end D
end Go.Proofs.YtpgbmohocfcjpaaGreatDoor
