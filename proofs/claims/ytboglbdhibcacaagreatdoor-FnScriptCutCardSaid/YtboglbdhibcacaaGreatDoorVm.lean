/- Walks: spans that the reference reads. -/
import Derived.Test.YtboglbdhibcacaaGreatDoorVh
import Derived.Test.YtboglbdhibcacaaGreatDoorVS6
import Derived.Test.YtboglbdhibcacaaGreatDoorVS3
import Derived.Test.YtboglbdhibcacaaGreatDoorVk
import Derived.Test.YtboglbdhibcacaaGreatDoorVFa
import Derived.Test.YtboglbdhibcacaaGreatDoorVFb
import Derived.Test.YtboglbdhibcacaaGreatDoorVFc
namespace Go.Proofs.YtboglbdhibcacaaGreatDoor
set_option linter.unusedVariables false
set_option linter.unusedSimpArgs false
set_option maxRecDepth 100000
set_option maxHeartbeats 1000000
namespace D
open Go.RowKit
open Go.PlainAid (bt bt_nonneg bt_le bt_end)
attribute [local irreducible] Calls

/-- A stamp, as a value. -/
abbrev sa (S : SR) : Value := .agg #[.int .i64 S.y, .int .i64 S.m, .int .i64 S.d, .int .i64 S.h, .int .i64 S.i, .int .i64 S.s, .int .i64 S.k, .int .i64 S.o]
def insS (S : SR) : Int := inst S.y S.m S.d S.h S.i S.s S.k S.o
def valS (S : SR) : Prop := sval S.y S.m S.d S.h S.i S.s S.k S.o = true
noncomputable def plusO (S : SR) : Option P6 → Bool → SR
  | none, _ => SR.no
  | some v, back => splus S.y S.m S.d S.h S.i S.s S.k S.o v.a v.b v.c v.d v.e v.f back
noncomputable def spA (A B : SR) (pl : Option P6) : SR := if A.ok = true then A else if B.ok = true then plusO B pl true else SR.no
noncomputable def spB (A B : SR) (pr : Option P6) : SR := if B.ok = true then B else if A.ok = true then plusO A pr false else SR.no
/-- A span that is read, as a value. -/
noncomputable def spV (A B : SR) : Value := if A.ok = true ∧ B.ok = true ∧ insS A ≤ insS B then .tuple #[sa A, sa B, .bool true] else .tuple #[sa SR.no, sa SR.no, .bool false]
abbrev spNo : Value := .tuple #[sa SR.no, sa SR.no, .bool false]
noncomputable def stampR (s : ByteArray) : SR := stR s (cutP s)
/-- The span of the texts ahead of a slash and behind it. -/
noncomputable def spanAt (s : ByteArray) (j : Nat) : Value :=
  spV (spA (stampR (s.extract 0 j)) (stampR (s.extract (j + 1) s.size)) (perR (s.extract 0 j))) (spB (stampR (s.extract 0 j)) (stampR (s.extract (j + 1) s.size)) (perR (s.extract (j + 1) s.size)))

theorem stampR_ok {s : ByteArray} (h : (stampR s).ok = true) : valS (stampR s) := (stR_ok h).2
theorem plusO_ok {S : SR} {p : Option P6} {back : Bool} (h : (plusO S p back).ok = true) : valS (plusO S p back) := by
  cases p with
  | none => cases h
  | some v => exact (splus_ok h).2.2.1

theorem b_Plus (S : SR) (t : ByteArray) (back : Bool) (ht : t.size ≤ 1000000000000) (w : World) (hb : D.Base w) : Calls Tryz.prog 128 #[sa S, .string t, .bool back] w fun e w' => e = .returned (srV (plusO S (perR t) back)) ∧ Below w.heap.size w w' := by
  have hP := b_PeriodFrom t ht
  cases hp : perR t with
  | none =>
    rw [hp] at hP
    simp only [perT] at hP
    refine enter Tryz.func128 rfl Tryz.ntmps128 rfl (by assumption) ?_
    (repeat' (first | intro (b : Nat) | refine go ?_ | (refine br ?_ ?_ <;> first | exact trivial | intro hq) | refine L.call (h := by intro W hW; apply hP W hW.base) (k := ?_)))
    (refine ret ?_; try exact rfl)
  | some v =>
    rw [hp] at hP
    simp only [perT] at hP
    have hS := b_StampPlus S.y S.m S.d S.h S.i S.s S.k S.o v.a v.b v.c v.d v.e v.f back
    simp only [plusO]
    generalize splus S.y S.m S.d S.h S.i S.s S.k S.o v.a v.b v.c v.d v.e v.f back = T at hS ⊢
    simp only [srV] at hS ⊢
    refine enter Tryz.func128 rfl Tryz.ntmps128 rfl (by assumption) ?_
    (repeat' (first | intro (b : Nat) | refine go ?_ | (refine br ?_ ?_ <;> first | exact trivial | intro hq) | refine L.call (h := by intro W hW; first | apply hP W hW.base | apply hS W hW.base) (k := ?_)))
    (refine ret ?_; try exact rfl)

/-- The rest of the reading: both ends are there, or not. -/
theorem b_SpanFrom (s : ByteArray) (hs : s.size ≤ 1000000000000) (w : World) (hb : D.Base w) : Calls Tryz.prog 78 #[.string s] w (RetV w fun v => (∃ j, oneSl s j ∧ v = spanAt s j) ∨ ((∀ j, ¬ oneSl s j) ∧ v = spNo)) := by
  refine enter Tryz.func78 rfl Tryz.ntmps78 rfl (by assumption) ?_
  (repeat (first | intro (b : Nat) | refine go ?_))
  rename_i bt2
  (refine L.vcall (h := by intro W hW; exact b_Cut s hs W hW.base) (k := ?_); intro v hR)
  rcases hR with ⟨j, hj, rfl⟩ | ⟨hj, rfl⟩
  case' inr =>
    (repeat' (first | intro (b : Nat) | refine go ?_ | (refine br ?_ ?_ <;> first | exact trivial | intro hq)))
    (refine retw ?_)
    exact .inr ⟨hj, rfl⟩
  case' inl =>
    have hj1 := hj.1
    have z1 : (s.extract 0 j).size ≤ 1000000000000 := by rw [ByteArray.size_extract]; omega
    have z2 : (s.extract (j + 1) s.size).size ≤ 1000000000000 := by rw [ByteArray.size_extract]; omega
    have hv : ∀ v, v = spanAt s j → (∃ j, oneSl s j ∧ v = spanAt s j) ∨ ((∀ j, ¬ oneSl s j) ∧ v = spNo) := fun v h => .inl ⟨j, hj, h⟩
    unfold spanAt at hv
    generalize s.extract 0 j = l at *
    generalize s.extract (j + 1) s.size = r at *
    have hA := b_StampFrom l z1
    have hB := b_StampFrom r z2
    have vA : (stampR l).ok = true → valS (stampR l) := stampR_ok
    have vB : (stampR r).ok = true → valS (stampR r) := stampR_ok
    rw [show stR l (cutP l) = stampR l from rfl] at hA
    rw [show stR r (cutP r) = stampR r from rfl] at hB
    generalize stampR l = A at *
    generalize stampR r = B at *
    simp only [srV] at hA hB
    have pA := b_Plus A r false z2
    have pB := b_Plus B l true z1
    have vpA : (plusO A (perR r) false).ok = true → valS (plusO A (perR r) false) := plusO_ok
    have vpB : (plusO B (perR l) true).ok = true → valS (plusO B (perR l) true) := plusO_ok
    unfold spA spB at hv
    generalize plusO A (perR r) false = A' at *
    generalize plusO B (perR l) true = B' at *
    simp only [srV] at pA pB
    cases oA : A.ok <;> cases oB : B.ok <;> simp only [oA, oB, if_true, if_false, Bool.false_eq_true] at hA hB hv
    case' false.false =>
      clear pA pB vpA vpB vA vB
      (repeat' (first | intro (b : Nat) | refine go ?_ | (refine br ?_ ?_ <;> first | exact trivial | intro hq) | refine L.call (h := by intro W hW; first | apply hA W hW.base | apply hB W hW.base) (k := ?_)))
      ((repeat (refine C.seq ?_)); apply C.draww 13 [none, none, none, none, none, none, none, some _, some _, some _, some _, none, none])
      (repeat (first | intro (b : Nat) | refine gg ?_))
      (repeat' (first | intro (b : Nat) | refine go ?_ | (refine br ?_ ?_ <;> first | exact trivial | intro hq)))
      (refine retw ?_)
      refine hv _ ?_
      unfold spV
      rw [if_neg (by simp [SR.no])]
      rfl
    case' true.true =>
      clear pA pB vpA vpB
      have iA := b_l12 _ _ _ _ _ _ _ _ (vA oA)
      have iB := b_l12 _ _ _ _ _ _ _ _ (vB oB)
      (repeat' (first | intro (b : Nat) | refine go ?_ | (refine br ?_ ?_ <;> first | exact trivial | intro hq) | refine L.call (h := by intro W hW; first | apply hA W hW.base | apply hB W hW.base) (k := ?_)))
      ((repeat (refine C.seq ?_)); apply C.draww 13 [none, none, none, none, none, none, none, some _, some _, some _, some _, none, none])
      (repeat (first | intro (b : Nat) | refine gg ?_))
      (refine G.call (h := by intro W hW; exact iA W hW.base) (k := ?_))
      (repeat (first | intro (b : Nat) | refine gg ?_))
      (refine G.call (h := by intro W hW; exact iB W hW.base) (k := ?_))
      (repeat (first | intro (b : Nat) | refine gg ?_))
      (repeat' (first | intro (b : Nat) | refine go ?_ | (refine br ?_ ?_ <;> first | exact trivial | intro hq)))
      · (refine retw ?_)
        refine hv _ ?_
        unfold spV
        rw [if_neg (by unfold insS; omega)]
        rfl
      · ((repeat (refine C.seq ?_)); apply C.drawsw 2 bt2 (.cells 69 [.int .i64 0, .int .i64 0, .int .i64 0, .int .i64 0, .int .i64 0, .int .i64 0, .int .i64 0, .int .i64 0]) 3 [some _, some _, some _])
        (repeat (first | intro (b : Nat) | refine gg ?_))
        (first | (apply G.stk; exact rfl; exact rfl; exact rfl; exact rfl; exact rfl; exact rfl; exact rfl; (· (repeat (first | exact Wr.nil | apply Wr.put | apply Wr.skip)))) | (apply G.st1; exact rfl; exact rfl; exact rfl; exact rfl; exact rfl; exact rfl; (· (repeat (first | exact Wr.nil | apply Wr.put | apply Wr.skip)))))
        (repeat (first | intro (b : Nat) | refine gg ?_))
        (repeat (first | intro (b : Nat) | refine go ?_))
        (refine retw ?_)
        refine hv _ ?_
        unfold spV
        rw [if_pos ⟨oA, oB, by unfold insS; omega⟩]
        rfl
    case' true.false =>
      clear pB vpB
      have iA := b_l12 _ _ _ _ _ _ _ _ (vA oA)
      cases oP : A'.ok
      · simp only [oP] at pA
        (repeat' (first | intro (b : Nat) | refine go ?_ | (refine br ?_ ?_ <;> first | exact trivial | intro hq) | refine L.call (h := by intro W hW; first | apply hA W hW.base | apply hB W hW.base | apply pA W hW.base) (k := ?_)))
        ((repeat (refine C.seq ?_)); apply C.draww 13 [none, none, none, none, none, none, none, some _, some _, some _, some _, none, none])
        (repeat (first | intro (b : Nat) | refine gg ?_))
        (repeat' (first | intro (b : Nat) | refine go ?_ | (refine br ?_ ?_ <;> first | exact trivial | intro hq)))
        (refine retw ?_)
        refine hv _ ?_
        unfold spV
        rw [if_neg (by simp [oP])]
        rfl
      · simp only [oP] at pA
        have iB := b_l12 _ _ _ _ _ _ _ _ (vpA oP)
        (repeat' (first | intro (b : Nat) | refine go ?_ | (refine br ?_ ?_ <;> first | exact trivial | intro hq) | refine L.call (h := by intro W hW; first | apply hA W hW.base | apply hB W hW.base | apply pA W hW.base) (k := ?_)))
        ((repeat (refine C.seq ?_)); apply C.draww 13 [none, none, none, none, none, none, none, some _, some _, some _, some _, none, none])
        (repeat (first | intro (b : Nat) | refine gg ?_))
        (refine G.call (h := by intro W hW; exact iA W hW.base) (k := ?_))
        (repeat (first | intro (b : Nat) | refine gg ?_))
        (refine G.call (h := by intro W hW; exact iB W hW.base) (k := ?_))
        (repeat (first | intro (b : Nat) | refine gg ?_))
        (repeat' (first | intro (b : Nat) | refine go ?_ | (refine br ?_ ?_ <;> first | exact trivial | intro hq)))
        · (refine retw ?_)
          refine hv _ ?_
          unfold spV
          rw [if_neg (by unfold insS; omega)]
          rfl
        · ((repeat (refine C.seq ?_)); apply C.drawsw 2 bt2 (.cells 69 [.int .i64 0, .int .i64 0, .int .i64 0, .int .i64 0, .int .i64 0, .int .i64 0, .int .i64 0, .int .i64 0]) 3 [some _, some _, some _])
          (repeat (first | intro (b : Nat) | refine gg ?_))
          (first | (apply G.stk; exact rfl; exact rfl; exact rfl; exact rfl; exact rfl; exact rfl; exact rfl; (· (repeat (first | exact Wr.nil | apply Wr.put | apply Wr.skip)))) | (apply G.st1; exact rfl; exact rfl; exact rfl; exact rfl; exact rfl; exact rfl; (· (repeat (first | exact Wr.nil | apply Wr.put | apply Wr.skip)))))
          (repeat (first | intro (b : Nat) | refine gg ?_))
          (repeat (first | intro (b : Nat) | refine go ?_))
          (refine retw ?_)
          refine hv _ ?_
          unfold spV
          rw [if_pos ⟨oA, oP, by unfold insS; omega⟩]
          rfl
    case' false.true =>
      clear pA vpA
      have iB := b_l12 _ _ _ _ _ _ _ _ (vB oB)
      cases oP : B'.ok
      · simp only [oP] at pB
        (repeat' (first | intro (b : Nat) | refine go ?_ | (refine br ?_ ?_ <;> first | exact trivial | intro hq) | refine L.call (h := by intro W hW; first | apply hA W hW.base | apply hB W hW.base | apply pB W hW.base) (k := ?_)))
        ((repeat (refine C.seq ?_)); apply C.draww 13 [none, none, none, none, none, none, none, some _, some _, some _, some _, none, none])
        (repeat (first | intro (b : Nat) | refine gg ?_))
        (repeat' (first | intro (b : Nat) | refine go ?_ | (refine br ?_ ?_ <;> first | exact trivial | intro hq)))
        (refine retw ?_)
        refine hv _ ?_
        unfold spV
        rw [if_neg (by simp [oP])]
        rfl
      · simp only [oP] at pB
        have iA := b_l12 _ _ _ _ _ _ _ _ (vpB oP)
        (repeat' (first | intro (b : Nat) | refine go ?_ | (refine br ?_ ?_ <;> first | exact trivial | intro hq) | refine L.call (h := by intro W hW; first | apply hA W hW.base | apply hB W hW.base | apply pB W hW.base) (k := ?_)))
        ((repeat (refine C.seq ?_)); apply C.draww 13 [none, none, none, none, none, none, none, some _, some _, some _, some _, none, none])
        (repeat (first | intro (b : Nat) | refine gg ?_))
        (refine G.call (h := by intro W hW; exact iA W hW.base) (k := ?_))
        (repeat (first | intro (b : Nat) | refine gg ?_))
        (refine G.call (h := by intro W hW; exact iB W hW.base) (k := ?_))
        (repeat (first | intro (b : Nat) | refine gg ?_))
        (repeat' (first | intro (b : Nat) | refine go ?_ | (refine br ?_ ?_ <;> first | exact trivial | intro hq)))
        · (refine retw ?_)
          refine hv _ ?_
          unfold spV
          rw [if_neg (by unfold insS; omega)]
          rfl
        · ((repeat (refine C.seq ?_)); apply C.drawsw 2 bt2 (.cells 69 [.int .i64 0, .int .i64 0, .int .i64 0, .int .i64 0, .int .i64 0, .int .i64 0, .int .i64 0, .int .i64 0]) 3 [some _, some _, some _])
          (repeat (first | intro (b : Nat) | refine gg ?_))
          (first | (apply G.stk; exact rfl; exact rfl; exact rfl; exact rfl; exact rfl; exact rfl; exact rfl; (· (repeat (first | exact Wr.nil | apply Wr.put | apply Wr.skip)))) | (apply G.st1; exact rfl; exact rfl; exact rfl; exact rfl; exact rfl; exact rfl; (· (repeat (first | exact Wr.nil | apply Wr.put | apply Wr.skip)))))
          (repeat (first | intro (b : Nat) | refine gg ?_))
          (repeat (first | intro (b : Nat) | refine go ?_))
          (refine retw ?_)
          refine hv _ ?_
          unfold spV
          rw [if_pos ⟨oP, oB, by unfold insS; omega⟩]
          rfl

end D
end Go.Proofs.YtboglbdhibcacaaGreatDoor

namespace Go.Proofs.YtboglbdhibcacaaGreatDoor
set_option linter.unusedVariables false
set_option linter.unusedSimpArgs false
set_option maxRecDepth 100000
set_option maxHeartbeats 1000000
namespace D
open Go.RowKit
open Go.PlainAid (bt bt_nonneg bt_le bt_end)
attribute [local irreducible] Calls

theorem a_SFno (s : ByteArray) (hs : s.size ≤ 1000000000000) (hd : dOk s = false) (w : World) (hb : D.Base w) (hg : Hdl w) : Calls Tryz.prog 102 #[.string s] w fun e w' => e = .returned (srV (stR s (cutP s))) ∧ Below w.heap.size w w' := by
  refine enter Tryz.func102 rfl Tryz.ntmps102 rfl (by assumption) ?_
  (repeat (first | intro (b : Nat) | refine go ?_))
  revert b; intro r
  rw [stR_notA (fun h => by have := (stAt_iff.1 h).1; rw [hd] at this; cases this), srV_noA]
  have hno := rdM_no hd
  have hread : ∀ (w0 : World) (F : SH) (W : World), St w0 ((r, rdB s 0) :: F) W → Calls Tryz.prog 158 #[.agg #[], .pointer (some ⟨r, 0, none⟩), .bool true] W (Turns w0 (drV (rdM s true)) ((r, rdB s (m5 s true : Nat)) :: F)) := fun w0 F W hW => a_monthRead w0 F r s true hs W hW
  clear hd
  generalize rdM s true = x at *
  generalize m5 s true = q at *
  obtain ⟨y, m, d, ok⟩ := x
  simp only at hno
  subst hno
  (refine L.tcallb r (h := by intro W hW; exact hread _ _ W hW) (k := ?_))
  (repeat (first | intro (b : Nat) | refine go ?_))
  (refine ret ?_; try exact rfl)

theorem a_SFsep (s : ByteArray) (hs : s.size ≤ 1000000000000) (hd : dOk s = true) (hsep : sepOk s = false) (w : World) (hb : D.Base w) (hg : Hdl w) : Calls Tryz.prog 102 #[.string s] w fun e w' => e = .returned (srV (stR s (cutP s))) ∧ Below w.heap.size w w' := by
  refine enter Tryz.func102 rfl Tryz.ntmps102 rfl (by assumption) ?_
  (repeat (first | intro (b : Nat) | refine go ?_))
  revert b; intro r
  have hread : ∀ (w0 : World) (F : SH) (W : World), St w0 ((r, rdB s 0) :: F) W → Calls Tryz.prog 158 #[.agg #[], .pointer (some ⟨r, 0, none⟩), .bool true] W (Turns w0 (.tuple #[.agg #[.int .i64 (numL s 0 4), .int .i64 (numL s 5 2), .int .i64 (numL s 8 2)], .bool true]) ((r, rdB s 10) :: F)) := fun w0 F W hW => by
    have := a_monthRead w0 F r s true hs W hW
    rw [(rdM_ok hd).1, (rdM_ok hd).2] at this
    exact this
  have hz10 := dOk_size hd
  (refine L.tcallb r (h := by intro W hW; exact hread _ _ W hW) (k := ?_))
  clear hread
  rw [stR_notA (fun h => by have := (stAt_iff.1 h).2.1; rw [hsep] at this; cases this), srV_noA]
  have hn : ¬ (10 < s.size ∧ (bt s 10 = 84 ∨ bt s 10 = 116 ∨ bt s 10 = 32)) := of_decide_eq_false hsep
  have i1 : isB s 10 84 = false := bool_no fun h => hn ⟨(isB_iff.1 h).1, .inl (isB_iff.1 h).2⟩
  have i2 : isB s 10 116 = false := bool_no fun h => hn ⟨(isB_iff.1 h).1, .inr (.inl (isB_iff.1 h).2)⟩
  have i3 : isB s 10 32 = false := bool_no fun h => hn ⟨(isB_iff.1 h).1, .inr (.inr (isB_iff.1 h).2)⟩
  clear hd
  generalize numL s 0 4 = y1 at *
  generalize numL s 5 2 = y2 at *
  generalize numL s 8 2 = y3 at *
  (repeat (first | intro (b : Nat) | refine go ?_))
  (refine L.tcallb r (h := by intro W hW; exact t_no _ _ _ s 10 10 84 rfl hs hz10 i1 W hW) (k := ?_))
  (repeat (first | intro (b : Nat) | refine go ?_))
  (refine L.tcallb r (h := by intro W hW; exact t_no _ _ _ s 10 10 116 rfl hs hz10 i2 W hW) (k := ?_))
  (repeat (first | intro (b : Nat) | refine go ?_))
  (refine L.tcallb r (h := by intro W hW; exact t_no _ _ _ s 10 10 32 rfl hs hz10 i3 W hW) (k := ?_))
  (repeat (first | intro (b : Nat) | refine go ?_))
  (refine ret ?_; try exact rfl)

theorem a_StampFrom (s : ByteArray) (hs : s.size ≤ 1000000000000) (w : World) (hb : D.Base w) (hg : Hdl w) : Calls Tryz.prog 102 #[.string s] w fun e w' => e = .returned (srV (stR s (cutP s))) ∧ Below w.heap.size w w' := by
  cases hd : dOk s with
  | false => exact a_SFno s hs hd w hb hg
  | true =>
    cases hsep : sepOk s with
    | false => exact a_SFsep s hs hd hsep w hb hg
    | true =>
      have hp : 10 < s.size ∧ (bt s 10 = 84 ∨ bt s 10 = 116 ∨ bt s 10 = 32) := of_decide_eq_true hsep
      have hsepc : isB s 10 84 = true ∨ (isB s 10 84 = false ∧ isB s 10 116 = true) ∨ (isB s 10 84 = false ∧ isB s 10 116 = false ∧ isB s 10 32 = true) := by
        rcases hp with ⟨h1, h2 | h2 | h2⟩
        · exact .inl (isB_iff.2 ⟨h1, h2⟩)
        · exact .inr (.inl ⟨bool_no fun h => by have := (isB_iff.1 h).2; omega, isB_iff.2 ⟨h1, h2⟩⟩)
        · exact .inr (.inr ⟨bool_no fun h => by have := (isB_iff.1 h).2; omega, bool_no fun h => by have := (isB_iff.1 h).2; omega, isB_iff.2 ⟨h1, h2⟩⟩)
      rcases hsepc with i1 | ⟨i1, i2⟩ | ⟨i1, i2, i3⟩
      · exact a_SF84 s hs hd hsep i1 w hb hg
      · exact a_SF116 s hs hd hsep i1 i2 w hb hg
      · exact a_SF32 s hs hd hsep i1 i2 i3 w hb hg

/-- A stamp that is tidied. -/
theorem a_StampTidy (s : ByteArray) (hs : s.size ≤ 1000000000000) (w : World) (hb : D.Base w) (hg : Hdl w) : Calls Tryz.prog 64 #[.string s] w fun e w' => e = .returned (tdV s) ∧ Below w.heap.size w w' := by
  have hF := a_StampFrom s hs
  have hok : (stR s (cutP s)).ok = true → sval (stR s (cutP s)).y (stR s (cutP s)).m (stR s (cutP s)).d (stR s (cutP s)).h (stR s (cutP s)).i (stR s (cutP s)).s (stR s (cutP s)).k (stR s (cutP s)).o = true := fun h => (stR_ok h).2
  unfold tdV
  generalize stR s (cutP s) = S at *
  obtain ⟨y, m, d, h, i, s', k, o, ok⟩ := S
  simp only [srV] at hF
  cases ok with
  | false =>
    refine enter Tryz.func64 rfl Tryz.ntmps64 rfl (by assumption) ?_
    (repeat' (first | intro (b : Nat) | refine go ?_ | (refine br ?_ ?_ <;> first | exact trivial | intro hq) | refine L.call (h := by intro W hW; apply hF W hW.base (hW.old hg)) (k := ?_)))
    all_goals (refine ret ?_; try exact rfl)
  | true =>
    have hv := hok rfl
    have hT := a_StampText y m d h i s' k o
    rw [show stT y m d h i s' k o = strOfNums (stL y m d h i s' k o) from if_pos hv] at hT
    refine enter Tryz.func64 rfl Tryz.ntmps64 rfl (by assumption) ?_
    (repeat' (first | intro (b : Nat) | refine go ?_ | (refine br ?_ ?_ <;> first | exact trivial | intro hq) | refine L.call (h := by intro W hW; first | apply hF W hW.base (hW.old hg) | apply hT W hW.base) (k := ?_)))
    all_goals (refine ret ?_; try exact rfl)

end D
end Go.Proofs.YtboglbdhibcacaaGreatDoor

namespace Go.Proofs.YtboglbdhibcacaaGreatDoor
set_option linter.unusedVariables false
set_option linter.unusedSimpArgs false
set_option maxRecDepth 100000
set_option maxHeartbeats 1000000
namespace D
open Go.RowKit
attribute [local irreducible] Calls

end D
end Go.Proofs.YtboglbdhibcacaaGreatDoor

namespace Go.Proofs.YtboglbdhibcacaaGreatDoor
set_option linter.unusedVariables false
set_option linter.unusedSimpArgs false
set_option maxRecDepth 100000
set_option maxHeartbeats 1000000
namespace D
open Go.RowKit
open Go.PlainAid (bt bt_nonneg bt_le bt_end)
attribute [local irreducible] Calls

theorem a_both (y m d h i s k o y' m' d' h' i' s' k' o' : Int) (hv : sval y m d h i s k o = true) (hv' : sval y' m' d' h' i' s' k' o' = true) (w : World) (hb : D.Base w) :
    Calls Tryz.prog 170 #[.agg #[.int .i64 y, .int .i64 m, .int .i64 d, .int .i64 h, .int .i64 i, .int .i64 s, .int .i64 k, .int .i64 o, .int .i64 y', .int .i64 m', .int .i64 d', .int .i64 h', .int .i64 i', .int .i64 s', .int .i64 k', .int .i64 o'], .func (.func 169) #[] #[]] w fun e w' => e = .returned (.agg #[.int .i64 (inst y m d h i s k o), .int .i64 (inst y' m' d' h' i' s' k' o')]) ∧ Below w.heap.size w w' := by
  refine enter Tryz.func170 rfl Tryz.ntmps170 rfl (by assumption) ?_
  (repeat (first | intro (b : Nat) | refine go ?_))
  ((repeat (refine C.seq ?_)); apply C.draww 9 [none, none, some _, some _, none, none, some _, some _, none])
  (repeat (first | intro (b : Nat) | refine gg ?_))
  (refine G.callx (h := by intro W hW; exact a_instantOf _ _ _ _ _ _ _ _ hv W hW.base) (k := ?_))
  (repeat (first | intro (b : Nat) | refine gg ?_))
  (refine G.callx (h := by intro W hW; exact a_instantOf _ _ _ _ _ _ _ _ hv' W hW.base) (k := ?_))
  (repeat (first | intro (b : Nat) | refine gg ?_))
  (repeat (first | intro (b : Nat) | refine go ?_))
  (refine ret ?_; try exact rfl)

theorem a_spanOf (A B : SR) (hA : valS A) (hB : valS B) (w : World) (hb : D.Base w) : Calls Tryz.prog 109 #[sa A, sa B] w fun e w' => e = .returned (.tuple #[.agg #[.int .i64 (insS A), .int .i64 (insS B)], .bool (decide (insS A ≤ insS B))]) ∧ Below w.heap.size w w' := by
  have h1 := a_StampValid A.y A.m A.d A.h A.i A.s A.k A.o
  have h2 := a_StampValid B.y B.m B.d B.h B.i B.s B.k B.o
  have h3 := a_both _ _ _ _ _ _ _ _ _ _ _ _ _ _ _ _ hA hB
  unfold valS at hA hB
  rw [hA] at h1
  rw [hB] at h2
  unfold insS
  refine enter Tryz.func109 rfl Tryz.ntmps109 rfl (by assumption) ?_
  (repeat (first | intro (b : Nat) | refine go ?_))
  revert b
  intro bt4
  (repeat' (first | intro (b : Nat) | refine go ?_ | (refine br ?_ ?_ <;> first | exact trivial | intro hq) | refine L.call (h := by intro W hW; first | apply h1 W hW.base | apply h2 W hW.base | apply h3 W hW.base) (k := ?_)))
  ((repeat (refine C.seq ?_)); apply C.drawsw 6 bt4 (.cells 135 [.int .i64 0, .int .i64 0]) 7 [some _, none, some _, none, some _, none, some _])
  (repeat (first | intro (b : Nat) | refine gg ?_))
  (first | (apply G.stk; exact rfl; exact rfl; exact rfl; exact rfl; exact rfl; exact rfl; exact rfl; (· (repeat (first | exact Wr.nil | apply Wr.put | apply Wr.skip)))) | (apply G.st1; exact rfl; exact rfl; exact rfl; exact rfl; exact rfl; exact rfl; (· (repeat (first | exact Wr.nil | apply Wr.put | apply Wr.skip)))))
  (repeat (first | intro (b : Nat) | refine gg ?_))
  (repeat (first | intro (b : Nat) | refine go ?_))
  (refine ret ?_; try exact rfl)

/-- Two slashes: no span. -/
theorem spanAt_two {s : ByteArray} {j : Nat} (hj : isSl s j) (hno : ∀ j, ¬ oneSl s j) : spanAt s j = spNo := by
  obtain ⟨i, hi, hij⟩ : ∃ i, isSl s i ∧ ¬ i = j := Classical.byContradiction fun h => hno j ⟨hj.1, hj.2, fun i h1 h2 => Classical.byContradiction fun h3 => h ⟨i, ⟨h1, h2⟩, h3⟩⟩
  have key : ∀ t : ByteArray, ¬ noSl t → (stampR t).ok = false ∧ perR t = none := fun t ht => by
    refine ⟨bool_no fun h => ht (st_noSl h), ?_⟩
    cases hp : perR t with
    | none => rfl
    | some v => exact (ht (per_noSl hp)).elim
  have hz := hj.1
  unfold spanAt
  by_cases hlt : i < j
  · have hl : ¬ noSl (s.extract 0 j) := fun h => h i (by rw [size_ext (by omega)]; omega) (by rw [bt_extract (by omega) (by omega), show 0 + i = i by omega]; exact hi.2)
    obtain ⟨k1, k2⟩ := key _ hl
    rw [k2]
    unfold spV
    rw [if_neg]
    rintro ⟨h, -, -⟩
    unfold spA at h
    rw [if_neg (by simp [k1])] at h
    split at h
    · cases h
    · cases h
  · have hi1 := hi.1
    have hr : ¬ noSl (s.extract (j + 1) s.size) := fun h => h (i - (j + 1)) (by rw [size_ext (by omega)]; omega) (by rw [bt_extract (by omega) (by omega), show j + 1 + (i - (j + 1)) = i by omega]; exact hi.2)
    obtain ⟨k1, k2⟩ := key _ hr
    rw [k2]
    unfold spV
    rw [if_neg]
    rintro ⟨-, h, -⟩
    unfold spB at h
    rw [if_neg (by simp [k1])] at h
    split at h
    · cases h
    · cases h

open Classical in
/-- The span of a text, as a value. -/
noncomputable def spanR (s : ByteArray) : Value := if h : ∃ j, oneSl s j then spanAt s (Classical.choose h) else spNo
theorem spanR_yes {s : ByteArray} {j : Nat} (h : oneSl s j) : spanR s = spanAt s j := by
  have hh : ∃ j, oneSl s j := ⟨j, h⟩
  unfold spanR
  rw [dif_pos hh]
  have h2 := Classical.choose_spec hh
  rw [h.2.2 _ h2.1 h2.2.1]
theorem spanR_no {s : ByteArray} (h : ∀ j, ¬ oneSl s j) : spanR s = spNo := by
  unfold spanR
  rw [dif_neg fun ⟨j, hj⟩ => h j hj]
theorem b_SpanFromR (s : ByteArray) (hs : s.size ≤ 1000000000000) (w : World) (hb : D.Base w) : Calls Tryz.prog 78 #[.string s] w fun e w' => e = .returned (spanR s) ∧ Below w.heap.size w w' :=
  (b_SpanFrom s hs w hb).mono fun e w' ⟨v, he, hv, hn⟩ => ⟨by
    rcases hv with ⟨j, hj, rfl⟩ | ⟨hj, rfl⟩
    · rw [spanR_yes hj]; exact he
    · rw [spanR_no hj]; exact he, hn⟩

theorem a_SpanFrom (s : ByteArray) (hs : s.size ≤ 1000000000000) (w : World) (hb : D.Base w) (hg : Hdl w) : Calls Tryz.prog 68 #[.string s] w (RetV w fun v => (∃ j, isSl s j ∧ v = spanAt s j) ∨ ((∀ j, ¬ isSl s j) ∧ v = spNo)) := by
  refine enter Tryz.func68 rfl Tryz.ntmps68 rfl (by assumption) ?_
  (repeat (first | intro (b : Nat) | refine go ?_))
  rename_i bt2
  (refine L.vcall (h := by intro W hW; exact a_Cut s _ hs rfl rfl W hW.base) (k := ?_); intro v hR)
  rcases hR with ⟨j, hj, rfl⟩ | ⟨hj, rfl⟩
  case' inr =>
    (repeat' (first | intro (b : Nat) | refine go ?_ | (refine br ?_ ?_ <;> first | exact trivial | intro hq)))
    (refine retw ?_)
    exact .inr ⟨hj, rfl⟩
  case' inl =>
    have hj1 := hj.1
    have z1 : (s.extract 0 j).size ≤ 1000000000000 := by rw [ByteArray.size_extract]; omega
    have z2 : (s.extract (j + 1) s.size).size ≤ 1000000000000 := by rw [ByteArray.size_extract]; omega
    have hv : ∀ v, v = spanAt s j → (∃ j, isSl s j ∧ v = spanAt s j) ∨ ((∀ j, ¬ isSl s j) ∧ v = spNo) := fun v h => .inl ⟨j, hj, h⟩
    unfold spanAt at hv
    generalize s.extract 0 j = l at *
    generalize s.extract (j + 1) s.size = r at *
    have hA := a_StampFrom l z1
    have hB := a_StampFrom r z2
    have vA : (stampR l).ok = true → valS (stampR l) := stampR_ok
    have vB : (stampR r).ok = true → valS (stampR r) := stampR_ok
    rw [show stR l (cutP l) = stampR l from rfl] at hA
    rw [show stR r (cutP r) = stampR r from rfl] at hB
    generalize stampR l = A at *
    generalize stampR r = B at *
    simp only [srV] at hA hB
    have fA := a_PeriodFrom r z2
    have fB := a_PeriodFrom l z1
    unfold spA spB at hv
    generalize perR r = pr at *
    generalize perR l = pl at *
    cases oA : A.ok <;> cases oB : B.ok <;> simp only [oA, oB, if_true, if_false, Bool.false_eq_true] at hA hB hv
    case' false.false =>
      clear fA fB vA vB
      (repeat' (first | intro (b : Nat) | refine go ?_ | (refine br ?_ ?_ <;> first | exact trivial | intro hq) | refine L.call (h := by intro W hW; first | apply hA W hW.base (hW.old hg) | apply hB W hW.base (hW.old hg)) (k := ?_)))
      (refine retw ?_)
      refine hv _ ?_
      unfold spV
      rw [if_neg (by simp [SR.no])]
      rfl
    case' true.true =>
      clear fA fB
      have hO := a_spanOf A B (vA oA) (vB oB)
      (repeat' (first | intro (b : Nat) | refine go ?_ | (refine br ?_ ?_ <;> first | exact trivial | intro hq) | refine L.call (h := by intro W hW; first | apply hA W hW.base (hW.old hg) | apply hB W hW.base (hW.old hg) | apply hO W hW.base) (k := ?_)))
      all_goals (try clear hA hB)
      · (refine retw ?_)
        refine hv _ ?_
        unfold spV
        rw [if_neg (by rintro ⟨-, -, h⟩; omega)]
        rfl
      · ((repeat (refine C.seq ?_)); apply C.drawsw 2 bt2 (.cells 69 [.int .i64 0, .int .i64 0, .int .i64 0, .int .i64 0, .int .i64 0, .int .i64 0, .int .i64 0, .int .i64 0]) 3 [some _, some _, some _])
        (repeat (first | intro (b : Nat) | refine gg ?_))
        (first | (apply G.stk; exact rfl; exact rfl; exact rfl; exact rfl; exact rfl; exact rfl; exact rfl; (· (repeat (first | exact Wr.nil | apply Wr.put | apply Wr.skip)))) | (apply G.st1; exact rfl; exact rfl; exact rfl; exact rfl; exact rfl; exact rfl; (· (repeat (first | exact Wr.nil | apply Wr.put | apply Wr.skip)))))
        (repeat (first | intro (b : Nat) | refine gg ?_))
        (repeat (first | intro (b : Nat) | refine go ?_))
        (refine retw ?_)
        refine hv _ ?_
        unfold spV
        rw [if_pos ⟨oA, oB, by omega⟩]
        rfl
    case' true.false =>
      clear fB
      cases pr with
      | none =>
        simp only [perT] at fA
        simp only [plusO] at hv
        (repeat' (first | intro (b : Nat) | refine go ?_ | (refine br ?_ ?_ <;> first | exact trivial | intro hq) | refine L.call (h := by intro W hW; first | apply hA W hW.base (hW.old hg) | apply hB W hW.base (hW.old hg) | apply fA W hW.base) (k := ?_)))
        (refine retw ?_)
        refine hv _ ?_
        unfold spV
        rw [if_neg (by simp [plusO, SR.no])]
        rfl
      | some v =>
        simp only [perT] at fA
        simp only [plusO] at hv
        have hS := a_StampPlus A.y A.m A.d A.h A.i A.s A.k A.o v.a v.b v.c v.d v.e v.f false
        have vT : (splus A.y A.m A.d A.h A.i A.s A.k A.o v.a v.b v.c v.d v.e v.f false).ok = true → valS (splus A.y A.m A.d A.h A.i A.s A.k A.o v.a v.b v.c v.d v.e v.f false) := fun h => plusO_ok (S := A) (p := some v) (back := false) h
        generalize splus A.y A.m A.d A.h A.i A.s A.k A.o v.a v.b v.c v.d v.e v.f false = T at *
        simp only [srV] at hS
        cases oT : T.ok
        · simp only [oT] at hS
          (repeat' (first | intro (b : Nat) | refine go ?_ | (refine br ?_ ?_ <;> first | exact trivial | intro hq) | refine L.call (h := by intro W hW; first | apply hA W hW.base (hW.old hg) | apply hB W hW.base (hW.old hg) | apply fA W hW.base | apply hS W hW.base) (k := ?_)))
          (refine retw ?_)
          refine hv _ ?_
          unfold spV
          rw [if_neg (by simp [oT])]
          rfl
        · simp only [oT] at hS
          have hO := a_spanOf A T (vA oA) (vT oT)
          (repeat' (first | intro (b : Nat) | refine go ?_ | (refine br ?_ ?_ <;> first | exact trivial | intro hq) | refine L.call (h := by intro W hW; first | apply hA W hW.base (hW.old hg) | apply hB W hW.base (hW.old hg) | apply fA W hW.base | apply hS W hW.base | apply hO W hW.base) (k := ?_)))
          all_goals (try clear hA hB)
          · (refine retw ?_)
            refine hv _ ?_
            unfold spV
            rw [if_neg (by rintro ⟨-, -, h⟩; omega)]
            rfl
          · ((repeat (refine C.seq ?_)); apply C.drawsw 2 bt2 (.cells 69 [.int .i64 0, .int .i64 0, .int .i64 0, .int .i64 0, .int .i64 0, .int .i64 0, .int .i64 0, .int .i64 0]) 3 [some _, some _, some _])
            (repeat (first | intro (b : Nat) | refine gg ?_))
            (first | (apply G.stk; exact rfl; exact rfl; exact rfl; exact rfl; exact rfl; exact rfl; exact rfl; (· (repeat (first | exact Wr.nil | apply Wr.put | apply Wr.skip)))) | (apply G.st1; exact rfl; exact rfl; exact rfl; exact rfl; exact rfl; exact rfl; (· (repeat (first | exact Wr.nil | apply Wr.put | apply Wr.skip)))))
            (repeat (first | intro (b : Nat) | refine gg ?_))
            (repeat (first | intro (b : Nat) | refine go ?_))
            (refine retw ?_)
            refine hv _ ?_
            unfold spV
            rw [if_pos ⟨oA, oT, by omega⟩]
            rfl
    case' false.true =>
      clear fA
      cases pl with
      | none =>
        simp only [perT] at fB
        simp only [plusO] at hv
        (repeat' (first | intro (b : Nat) | refine go ?_ | (refine br ?_ ?_ <;> first | exact trivial | intro hq) | refine L.call (h := by intro W hW; first | apply hA W hW.base (hW.old hg) | apply hB W hW.base (hW.old hg) | apply fB W hW.base) (k := ?_)))
        (refine retw ?_)
        refine hv _ ?_
        unfold spV
        rw [if_neg (by simp [plusO, SR.no])]
        rfl
      | some v =>
        simp only [perT] at fB
        simp only [plusO] at hv
        have hS := a_StampPlus B.y B.m B.d B.h B.i B.s B.k B.o v.a v.b v.c v.d v.e v.f true
        have vT : (splus B.y B.m B.d B.h B.i B.s B.k B.o v.a v.b v.c v.d v.e v.f true).ok = true → valS (splus B.y B.m B.d B.h B.i B.s B.k B.o v.a v.b v.c v.d v.e v.f true) := fun h => plusO_ok (S := B) (p := some v) (back := true) h
        generalize splus B.y B.m B.d B.h B.i B.s B.k B.o v.a v.b v.c v.d v.e v.f true = T at *
        simp only [srV] at hS
        cases oT : T.ok
        · simp only [oT] at hS
          (repeat' (first | intro (b : Nat) | refine go ?_ | (refine br ?_ ?_ <;> first | exact trivial | intro hq) | refine L.call (h := by intro W hW; first | apply hA W hW.base (hW.old hg) | apply hB W hW.base (hW.old hg) | apply fB W hW.base | apply hS W hW.base) (k := ?_)))
          (refine retw ?_)
          refine hv _ ?_
          unfold spV
          rw [if_neg (by simp [oT])]
          rfl
        · simp only [oT] at hS
          have hO := a_spanOf T B (vT oT) (vB oB)
          (repeat' (first | intro (b : Nat) | refine go ?_ | (refine br ?_ ?_ <;> first | exact trivial | intro hq) | refine L.call (h := by intro W hW; first | apply hA W hW.base (hW.old hg) | apply hB W hW.base (hW.old hg) | apply fB W hW.base | apply hS W hW.base | apply hO W hW.base) (k := ?_)))
          all_goals (try clear hA hB)
          · (refine retw ?_)
            refine hv _ ?_
            unfold spV
            rw [if_neg (by rintro ⟨-, -, h⟩; omega)]
            rfl
          · ((repeat (refine C.seq ?_)); apply C.drawsw 2 bt2 (.cells 69 [.int .i64 0, .int .i64 0, .int .i64 0, .int .i64 0, .int .i64 0, .int .i64 0, .int .i64 0, .int .i64 0]) 3 [some _, some _, some _])
            (repeat (first | intro (b : Nat) | refine gg ?_))
            (first | (apply G.stk; exact rfl; exact rfl; exact rfl; exact rfl; exact rfl; exact rfl; exact rfl; (· (repeat (first | exact Wr.nil | apply Wr.put | apply Wr.skip)))) | (apply G.st1; exact rfl; exact rfl; exact rfl; exact rfl; exact rfl; exact rfl; (· (repeat (first | exact Wr.nil | apply Wr.put | apply Wr.skip)))))
            (repeat (first | intro (b : Nat) | refine gg ?_))
            (repeat (first | intro (b : Nat) | refine go ?_))
            (refine retw ?_)
            refine hv _ ?_
            unfold spV
            rw [if_pos ⟨oT, oB, by omega⟩]
            rfl

theorem a_SpanFromR (s : ByteArray) (hs : s.size ≤ 1000000000000) (w : World) (hb : D.Base w) (hg : Hdl w) : Calls Tryz.prog 68 #[.string s] w fun e w' => e = .returned (spanR s) ∧ Below w.heap.size w w' :=
  (a_SpanFrom s hs w hb hg).mono fun e w' ⟨v, he, hv, hn⟩ => ⟨by
    rcases hv with ⟨j, hj, rfl⟩ | ⟨hj, rfl⟩
    · by_cases h1 : oneSl s j
      · rw [spanR_yes h1]; exact he
      · have hno : ∀ i, ¬ oneSl s i := fun i hi => h1 (by rw [hi.2.2 j hj.1 hj.2]; exact hi)
        rw [spanR_no hno, ← spanAt_two hj hno]; exact he
    · rw [spanR_no fun j h => hj j ⟨h.1, h.2.1⟩]; exact he, hn⟩

end D
end Go.Proofs.YtboglbdhibcacaaGreatDoor
