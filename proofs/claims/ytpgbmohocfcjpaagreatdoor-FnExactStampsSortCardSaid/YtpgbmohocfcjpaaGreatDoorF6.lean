/- Walks: stamps of texts of the program. -/
import Derived.Test.YtpgbmohocfcjpaaGreatDoorF5a
import Derived.Test.YtpgbmohocfcjpaaGreatDoorF5b
import Derived.Test.YtpgbmohocfcjpaaGreatDoorF5c
import Derived.Test.YtpgbmohocfcjpaaGreatDoorG3
namespace Go.Proofs.YtpgbmohocfcjpaaGreatDoor
set_option linter.unusedVariables false
set_option linter.unusedSimpArgs false
set_option maxRecDepth 100000
set_option maxHeartbeats 1000000
namespace D
open Go.RowKit
open Go.PlainAid (bt bt_nonneg bt_le bt_end)
attribute [local irreducible] Calls

theorem a_SFno (s : ByteArray) (hs : s.size ≤ 1000000000000) (hd : dOk s = false) (w : World) (hb : D.Base w) (hg : Hdl w) : Calls Tryz.prog 25 #[.string s] w fun e w' => e = .returned (srV (stR s (cutP s))) ∧ Below w.heap.size w w' := by
  refine enter Tryz.func25 rfl Tryz.ntmps25 rfl (by assumption) ?_
  (repeat (first | intro (b : Nat) | refine go ?_))
  revert b; intro r
  rw [stR_notA (fun h => by have := (stAt_iff.1 h).1; rw [hd] at this; cases this), srV_noA]
  have hno := rdM_no hd
  have hread : ∀ (w0 : World) (F : SH) (W : World), St w0 ((r, rdB s 0) :: F) W → Calls Tryz.prog 60 #[.agg #[], .pointer (some ⟨r, 0, none⟩), .bool true] W (Turns w0 (drV (rdM s true)) ((r, rdB s (m5 s true : Nat)) :: F)) := fun w0 F W hW => a_monthRead w0 F r s true hs W hW
  clear hd
  generalize rdM s true = x at *
  generalize m5 s true = q at *
  obtain ⟨y, m, d, ok⟩ := x
  simp only at hno
  subst hno
  (refine L.tcallb r (h := by intro W hW; exact hread _ _ W hW) (k := ?_))
  (repeat (first | intro (b : Nat) | refine go ?_))
  (refine ret ?_; try exact rfl)

theorem a_SFsep (s : ByteArray) (hs : s.size ≤ 1000000000000) (hd : dOk s = true) (hsep : sepOk s = false) (w : World) (hb : D.Base w) (hg : Hdl w) : Calls Tryz.prog 25 #[.string s] w fun e w' => e = .returned (srV (stR s (cutP s))) ∧ Below w.heap.size w w' := by
  refine enter Tryz.func25 rfl Tryz.ntmps25 rfl (by assumption) ?_
  (repeat (first | intro (b : Nat) | refine go ?_))
  revert b; intro r
  have hread : ∀ (w0 : World) (F : SH) (W : World), St w0 ((r, rdB s 0) :: F) W → Calls Tryz.prog 60 #[.agg #[], .pointer (some ⟨r, 0, none⟩), .bool true] W (Turns w0 (.tuple #[.agg #[.int .i64 (numL s 0 4), .int .i64 (numL s 5 2), .int .i64 (numL s 8 2)], .bool true]) ((r, rdB s 10) :: F)) := fun w0 F W hW => by
    have := a_monthRead w0 F r s true hs W hW
    rw [(rdM_ok hd).1, (rdM_ok hd).2] at this
    exact this
  have hz10 := dOk_size hd
  (refine L.tcallb r (h := by intro W hW; exact hread _ _ W hW) (k := ?_))
  clear hread
  rw [stR_notA (fun h => by have := (stAt_iff.1 h).2.1; rw [hsep] at this; cases this), srV_noA]
  have hn : ¬ (10 < s.size ∧ (bt s 10 = 84 ∨ bt s 10 = 116 ∨ bt s 10 = 32)) := of_decide_eq_false hsep
  have i1 : isB s 10 84 = false := bool_no fun h => hn ⟨(isB_iff.1 h).1, .inl (isB_iff.1 h).2⟩
  have i2 : isB s 10 116 = false := bool_no fun h => hn ⟨(isB_iff.1 h).1, .inr (.inl (isB_iff.1 h).2)⟩
  have i3 : isB s 10 32 = false := bool_no fun h => hn ⟨(isB_iff.1 h).1, .inr (.inr (isB_iff.1 h).2)⟩
  clear hd
  generalize numL s 0 4 = y1 at *
  generalize numL s 5 2 = y2 at *
  generalize numL s 8 2 = y3 at *
  (repeat (first | intro (b : Nat) | refine go ?_))
  (refine L.tcallb r (h := by intro W hW; exact t_no _ _ _ s 10 10 84 rfl hs hz10 i1 W hW) (k := ?_))
  (repeat (first | intro (b : Nat) | refine go ?_))
  (refine L.tcallb r (h := by intro W hW; exact t_no _ _ _ s 10 10 116 rfl hs hz10 i2 W hW) (k := ?_))
  (repeat (first | intro (b : Nat) | refine go ?_))
  (refine L.tcallb r (h := by intro W hW; exact t_no _ _ _ s 10 10 32 rfl hs hz10 i3 W hW) (k := ?_))
  (repeat (first | intro (b : Nat) | refine go ?_))
  (refine ret ?_; try exact rfl)

theorem a_StampFrom (s : ByteArray) (hs : s.size ≤ 1000000000000) (w : World) (hb : D.Base w) (hg : Hdl w) : Calls Tryz.prog 25 #[.string s] w fun e w' => e = .returned (srV (stR s (cutP s))) ∧ Below w.heap.size w w' := by
  cases hd : dOk s with
  | false => exact a_SFno s hs hd w hb hg
  | true =>
    cases hsep : sepOk s with
    | false => exact a_SFsep s hs hd hsep w hb hg
    | true =>
      have hp : 10 < s.size ∧ (bt s 10 = 84 ∨ bt s 10 = 116 ∨ bt s 10 = 32) := of_decide_eq_true hsep
      have hsepc : isB s 10 84 = true ∨ (isB s 10 84 = false ∧ isB s 10 116 = true) ∨ (isB s 10 84 = false ∧ isB s 10 116 = false ∧ isB s 10 32 = true) := by
        rcases hp with ⟨h1, h2 | h2 | h2⟩
        · exact .inl (isB_iff.2 ⟨h1, h2⟩)
        · exact .inr (.inl ⟨bool_no fun h => by have := (isB_iff.1 h).2; omega, isB_iff.2 ⟨h1, h2⟩⟩)
        · exact .inr (.inr ⟨bool_no fun h => by have := (isB_iff.1 h).2; omega, bool_no fun h => by have := (isB_iff.1 h).2; omega, isB_iff.2 ⟨h1, h2⟩⟩)
      rcases hsepc with i1 | ⟨i1, i2⟩ | ⟨i1, i2, i3⟩
      · exact a_SF84 s hs hd hsep i1 w hb hg
      · exact a_SF116 s hs hd hsep i1 i2 w hb hg
      · exact a_SF32 s hs hd hsep i1 i2 i3 w hb hg

/-- A stamp that is tidied. -/
theorem a_StampTidy (s : ByteArray) (hs : s.size ≤ 1000000000000) (w : World) (hb : D.Base w) (hg : Hdl w) : Calls Tryz.prog 24 #[.string s] w fun e w' => e = .returned (tdV s) ∧ Below w.heap.size w w' := by
  have hF := a_StampFrom s hs
  have hok : (stR s (cutP s)).ok = true → sval (stR s (cutP s)).y (stR s (cutP s)).m (stR s (cutP s)).d (stR s (cutP s)).h (stR s (cutP s)).i (stR s (cutP s)).s (stR s (cutP s)).k (stR s (cutP s)).o = true := fun h => (stR_ok h).2
  unfold tdV
  generalize stR s (cutP s) = S at *
  obtain ⟨y, m, d, h, i, s', k, o, ok⟩ := S
  simp only [srV] at hF
  cases ok with
  | false =>
    refine enter Tryz.func24 rfl Tryz.ntmps24 rfl (by assumption) ?_
    (repeat' (first | intro (b : Nat) | refine go ?_ | (refine br ?_ ?_ <;> first | exact trivial | intro hq) | refine L.call (h := by intro W hW; apply hF W hW.base (hW.old hg)) (k := ?_)))
    all_goals (refine ret ?_; try exact rfl)
  | true =>
    have hv := hok rfl
    have hT := a_StampText y m d h i s' k o
    rw [show stT y m d h i s' k o = strOfNums (stL y m d h i s' k o) from if_pos hv] at hT
    refine enter Tryz.func24 rfl Tryz.ntmps24 rfl (by assumption) ?_
    (repeat' (first | intro (b : Nat) | refine go ?_ | (refine br ?_ ?_ <;> first | exact trivial | intro hq) | refine L.call (h := by intro W hW; first | apply hF W hW.base (hW.old hg) | apply hT W hW.base) (k := ?_)))
    all_goals (refine ret ?_; try exact rfl)

end D
end Go.Proofs.YtpgbmohocfcjpaaGreatDoor

namespace Go.Proofs.YtpgbmohocfcjpaaGreatDoor
set_option linter.unusedVariables false
set_option linter.unusedSimpArgs false
set_option maxRecDepth 100000
set_option maxHeartbeats 1000000
namespace D
open Go.RowKit
attribute [local irreducible] Calls

theorem l_eqStamp (y m d h i s k o : Int) (w : World) (hb : D.Base w) : Calls Tryz.prog 29 #[.agg #[.int .i64 y, .int .i64 m, .int .i64 d, .int .i64 h, .int .i64 i, .int .i64 s, .int .i64 k, .int .i64 o], .agg #[.int .i64 y, .int .i64 m, .int .i64 d, .int .i64 h, .int .i64 i, .int .i64 s, .int .i64 k, .int .i64 o]] w fun e w' => e = .returned (.bool true) ∧ Below w.heap.size w w' := by
  have hD : ∀ W, D.Base W → Calls Tryz.prog 69 #[.agg #[.int .i64 y, .int .i64 m, .int .i64 d], .agg #[.int .i64 y, .int .i64 m, .int .i64 d]] W fun e w' => e = .returned (.bool true) ∧ Below W.heap.size W w' := fun W hW => by
    refine enter Tryz.func69 rfl Tryz.ntmps69 rfl (by assumption) ?_
    (repeat' (first | intro (b : Nat) | refine go ?_ | (refine br ?_ ?_ <;> first | exact trivial | intro hq)))
    all_goals (refine ret ?_; try exact rfl)
  have hC : ∀ W, D.Base W → Calls Tryz.prog 70 #[.agg #[.int .i64 h, .int .i64 i, .int .i64 s, .int .i64 k], .agg #[.int .i64 h, .int .i64 i, .int .i64 s, .int .i64 k]] W fun e w' => e = .returned (.bool true) ∧ Below W.heap.size W w' := fun W hW => by
    refine enter Tryz.func70 rfl Tryz.ntmps70 rfl (by assumption) ?_
    (repeat' (first | intro (b : Nat) | refine go ?_ | (refine br ?_ ?_ <;> first | exact trivial | intro hq)))
    all_goals (refine ret ?_; try exact rfl)
  refine enter Tryz.func29 rfl Tryz.ntmps29 rfl (by assumption) ?_
  (repeat' (first | intro (b : Nat) | refine go ?_ | (refine br ?_ ?_ <;> first | exact trivial | intro hq) | refine L.call (h := by intro W hW; first | apply hD W hW.base | apply hC W hW.base) (k := ?_)))
  all_goals (refine ret ?_; try exact rfl)

end D
end Go.Proofs.YtpgbmohocfcjpaaGreatDoor
