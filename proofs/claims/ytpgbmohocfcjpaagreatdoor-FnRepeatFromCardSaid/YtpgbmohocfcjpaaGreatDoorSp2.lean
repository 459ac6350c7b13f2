/- Walks: spans that the reference reads. -/
import Derived.Test.YtpgbmohocfcjpaaGreatDoorPb
import Derived.Test.YtpgbmohocfcjpaaGreatDoorS6p
import Derived.Test.YtpgbmohocfcjpaaGreatDoorS3
import Derived.Test.YtpgbmohocfcjpaaGreatDoorG3
namespace Go.Proofs.YtpgbmohocfcjpaaGreatDoor
set_option linter.unusedVariables false
set_option linter.unusedSimpArgs false
set_option maxRecDepth 100000
set_option maxHeartbeats 1000000
namespace D
open Go.RowKit
open Go.PlainAid (bt bt_nonneg bt_le bt_end)
attribute [local irreducible] Calls

/-- A stamp, as a value. -/
abbrev sa (S : SR) : Value := .agg #[.int .i64 S.y, .int .i64 S.m, .int .i64 S.d, .int .i64 S.h, .int .i64 S.i, .int .i64 S.s, .int .i64 S.k, .int .i64 S.o]
def insS (S : SR) : Int := inst S.y S.m S.d S.h S.i S.s S.k S.o
def valS (S : SR) : Prop := sval S.y S.m S.d S.h S.i S.s S.k S.o = true
noncomputable def plusO (S : SR) : Option P6 → Bool → SR
  | none, _ => SR.no
  | some v, back => splus S.y S.m S.d S.h S.i S.s S.k S.o v.a v.b v.c v.d v.e v.f back
noncomputable def spA (A B : SR) (pl : Option P6) : SR := if A.ok = true then A else if B.ok = true then plusO B pl true else SR.no
noncomputable def spB (A B : SR) (pr : Option P6) : SR := if B.ok = true then B else if A.ok = true then plusO A pr false else SR.no
/-- A span that is read, as a value. -/
noncomputable def spV (A B : SR) : Value := if A.ok = true ∧ B.ok = true ∧ insS A ≤ insS B then .tuple #[sa A, sa B, .bool true] else .tuple #[sa SR.no, sa SR.no, .bool false]
abbrev spNo : Value := .tuple #[sa SR.no, sa SR.no, .bool false]
noncomputable def stampR (s : ByteArray) : SR := stR s (cutP s)
/-- The span of the texts ahead of a slash and behind it. -/
noncomputable def spanAt (s : ByteArray) (j : Nat) : Value :=
  spV (spA (stampR (s.extract 0 j)) (stampR (s.extract (j + 1) s.size)) (perR (s.extract 0 j))) (spB (stampR (s.extract 0 j)) (stampR (s.extract (j + 1) s.size)) (perR (s.extract (j + 1) s.size)))

theorem stampR_ok {s : ByteArray} (h : (stampR s).ok = true) : valS (stampR s) := (stR_ok h).2
theorem plusO_ok {S : SR} {p : Option P6} {back : Bool} (h : (plusO S p back).ok = true) : valS (plusO S p back) := by
  cases p with
  | none => cases h
  | some v => exact (splus_ok h).2.2.1

theorem b_Plus (S : SR) (t : ByteArray) (back : Bool) (ht : t.size ≤ 1000000000000) (w : World) (hb : D.Base w) : Calls Tryz.prog 65 #[sa S, .string t, .bool back] w fun e w' => e = .returned (srV (plusO S (perR t) back)) ∧ Below w.heap.size w w' := by
  have hP := b_PeriodFrom t ht
  cases hp : perR t with
  | none =>
    rw [hp] at hP
    simp only [perT] at hP
    refine enter Tryz.func65 rfl Tryz.ntmps65 rfl (by assumption) ?_
    (repeat' (first | intro (b : Nat) | refine go ?_ | (refine br ?_ ?_ <;> first | exact trivial | intro hq) | refine L.call (h := by intro W hW; apply hP W hW.base) (k := ?_)))
    (refine ret ?_; try exact rfl)
  | some v =>
    rw [hp] at hP
    simp only [perT] at hP
    have hS := b_StampPlus S.y S.m S.d S.h S.i S.s S.k S.o v.a v.b v.c v.d v.e v.f back
    simp only [plusO]
    generalize splus S.y S.m S.d S.h S.i S.s S.k S.o v.a v.b v.c v.d v.e v.f back = T at hS ⊢
    simp only [srV] at hS ⊢
    refine enter Tryz.func65 rfl Tryz.ntmps65 rfl (by assumption) ?_
    (repeat' (first | intro (b : Nat) | refine go ?_ | (refine br ?_ ?_ <;> first | exact trivial | intro hq) | refine L.call (h := by intro W hW; first | apply hP W hW.base | apply hS W hW.base) (k := ?_)))
    (refine ret ?_; try exact rfl)

/-- The rest of the reading: both ends are there, or not. -/
theorem b_SpanFrom (s : ByteArray) (hs : s.size ≤ 1000000000000) (w : World) (hb : D.Base w) : Calls Tryz.prog 27 #[.string s] w (RetV w fun v => (∃ j, oneSl s j ∧ v = spanAt s j) ∨ ((∀ j, ¬ oneSl s j) ∧ v = spNo)) := by
  refine enter Tryz.func27 rfl Tryz.ntmps27 rfl (by assumption) ?_
  (repeat (first | intro (b : Nat) | refine go ?_))
  rename_i bt2
  (refine L.vcall (h := by intro W hW; exact b_Cut s hs W hW.base) (k := ?_); intro v hR)
  rcases hR with ⟨j, hj, rfl⟩ | ⟨hj, rfl⟩
  case' inr =>
    (repeat' (first | intro (b : Nat) | refine go ?_ | (refine br ?_ ?_ <;> first | exact trivial | intro hq)))
    (refine retw ?_)
    exact .inr ⟨hj, rfl⟩
  case' inl =>
    have hj1 := hj.1
    have z1 : (s.extract 0 j).size ≤ 1000000000000 := by rw [ByteArray.size_extract]; omega
    have z2 : (s.extract (j + 1) s.size).size ≤ 1000000000000 := by rw [ByteArray.size_extract]; omega
    have hv : ∀ v, v = spanAt s j → (∃ j, oneSl s j ∧ v = spanAt s j) ∨ ((∀ j, ¬ oneSl s j) ∧ v = spNo) := fun v h => .inl ⟨j, hj, h⟩
    unfold spanAt at hv
    generalize s.extract 0 j = l at *
    generalize s.extract (j + 1) s.size = r at *
    have hA := b_StampFrom l z1
    have hB := b_StampFrom r z2
    have vA : (stampR l).ok = true → valS (stampR l) := stampR_ok
    have vB : (stampR r).ok = true → valS (stampR r) := stampR_ok
    rw [show stR l (cutP l) = stampR l from rfl] at hA
    rw [show stR r (cutP r) = stampR r from rfl] at hB
    generalize stampR l = A at *
    generalize stampR r = B at *
    simp only [srV] at hA hB
    have pA := b_Plus A r false z2
    have pB := b_Plus B l true z1
    have vpA : (plusO A (perR r) false).ok = true → valS (plusO A (perR r) false) := plusO_ok
    have vpB : (plusO B (perR l) true).ok = true → valS (plusO B (perR l) true) := plusO_ok
    unfold spA spB at hv
    generalize plusO A (perR r) false = A' at *
    generalize plusO B (perR l) true = B' at *
    simp only [srV] at pA pB
    cases oA : A.ok <;> cases oB : B.ok <;> simp only [oA, oB, if_true, if_false, Bool.false_eq_true] at hA hB hv
    case' false.false =>
      clear pA pB vpA vpB vA vB
      (repeat' (first | intro (b : Nat) | refine go ?_ | (refine br ?_ ?_ <;> first | exact trivial | intro hq) | refine L.call (h := by intro W hW; first | apply hA W hW.base | apply hB W hW.base) (k := ?_)))
      ((repeat (refine C.seq ?_)); apply C.draww 13 [none, none, none, none, none, none, none, some _, some _, some _, some _, none, none])
      (repeat (first | intro (b : Nat) | refine gg ?_))
      (repeat' (first | intro (b : Nat) | refine go ?_ | (refine br ?_ ?_ <;> first | exact trivial | intro hq)))
      (refine retw ?_)
      refine hv _ ?_
      unfold spV
      rw [if_neg (by simp [SR.no])]
      rfl
    case' true.true =>
      clear pA pB vpA vpB
      have iA := b_l12 _ _ _ _ _ _ _ _ (vA oA)
      have iB := b_l12 _ _ _ _ _ _ _ _ (vB oB)
      (repeat' (first | intro (b : Nat) | refine go ?_ | (refine br ?_ ?_ <;> first | exact trivial | intro hq) | refine L.call (h := by intro W hW; first | apply hA W hW.base | apply hB W hW.base) (k := ?_)))
      ((repeat (refine C.seq ?_)); apply C.draww 13 [none, none, none, none, none, none, none, some _, some _, some _, some _, none, none])
      (repeat (first | intro (b : Nat) | refine gg ?_))
      (refine G.call (h := by intro W hW; exact iA W hW.base) (k := ?_))
      (repeat (first | intro (b : Nat) | refine gg ?_))
      (refine G.call (h := by intro W hW; exact iB W hW.base) (k := ?_))
      (repeat (first | intro (b : Nat) | refine gg ?_))
      (repeat' (first | intro (b : Nat) | refine go ?_ | (refine br ?_ ?_ <;> first | exact trivial | intro hq)))
      · (refine retw ?_)
        refine hv _ ?_
        unfold spV
        rw [if_neg (by unfold insS; omega)]
        rfl
      · ((repeat (refine C.seq ?_)); apply C.drawsw 2 bt2 (.cells 37 [.int .i64 0, .int .i64 0, .int .i64 0, .int .i64 0, .int .i64 0, .int .i64 0, .int .i64 0, .int .i64 0]) 3 [some _, some _, some _])
        (repeat (first | intro (b : Nat) | refine gg ?_))
        (first | (apply G.stk; exact rfl; exact rfl; exact rfl; exact rfl; exact rfl; exact rfl; exact rfl; (· (repeat (first | exact Wr.nil | apply Wr.put | apply Wr.skip)))) | (apply G.st1; exact rfl; exact rfl; exact rfl; exact rfl; exact rfl; exact rfl; (· (repeat (first | exact Wr.nil | apply Wr.put | apply Wr.skip)))))
        (repeat (first | intro (b : Nat) | refine gg ?_))
        (repeat (first | intro (b : Nat) | refine go ?_))
        (refine retw ?_)
        refine hv _ ?_
        unfold spV
        rw [if_pos ⟨oA, oB, by unfold insS; omega⟩]
        rfl
    case' true.false =>
      clear pB vpB
      have iA := b_l12 _ _ _ _ _ _ _ _ (vA oA)
      cases oP : A'.ok
      · simp only [oP] at pA
        (repeat' (first | intro (b : Nat) | refine go ?_ | (refine br ?_ ?_ <;> first | exact trivial | intro hq) | refine L.call (h := by intro W hW; first | apply hA W hW.base | apply hB W hW.base | apply pA W hW.base) (k := ?_)))
        ((repeat (refine C.seq ?_)); apply C.draww 13 [none, none, none, none, none, none, none, some _, some _, some _, some _, none, none])
        (repeat (first | intro (b : Nat) | refine gg ?_))
        (repeat' (first | intro (b : Nat) | refine go ?_ | (refine br ?_ ?_ <;> first | exact trivial | intro hq)))
        (refine retw ?_)
        refine hv _ ?_
        unfold spV
        rw [if_neg (by simp [oP])]
        rfl
      · simp only [oP] at pA
        have iB := b_l12 _ _ _ _ _ _ _ _ (vpA oP)
        (repeat' (first | intro (b : Nat) | refine go ?_ | (refine br ?_ ?_ <;> first | exact trivial | intro hq) | refine L.call (h := by intro W hW; first | apply hA W hW.base | apply hB W hW.base | apply pA W hW.base) (k := ?_)))
        ((repeat (refine C.seq ?_)); apply C.draww 13 [none, none, none, none, none, none, none, some _, some _, some _, some _, none, none])
        (repeat (first | intro (b : Nat) | refine gg ?_))
        (refine G.call (h := by intro W hW; exact iA W hW.base) (k := ?_))
        (repeat (first | intro (b : Nat) | refine gg ?_))
        (refine G.call (h := by intro W hW; exact iB W hW.base) (k := ?_))
        (repeat (first | intro (b : Nat) | refine gg ?_))
        (repeat' (first | intro (b : Nat) | refine go ?_ | (refine br ?_ ?_ <;> first | exact trivial | intro hq)))
        · (refine retw ?_)
          refine hv _ ?_
          unfold spV
          rw [if_neg (by unfold insS; omega)]
          rfl
        · ((repeat (refine C.seq ?_)); apply C.drawsw 2 bt2 (.cells 37 [.int .i64 0, .int .i64 0, .int .i64 0, .int .i64 0, .int .i64 0, .int .i64 0, .int .i64 0, .int .i64 0]) 3 [some _, some _, some _])
          (repeat (first | intro (b : Nat) | refine gg ?_))
          (first | (apply G.stk; exact rfl; exact rfl; exact rfl; exact rfl; exact rfl; exact rfl; exact rfl; (· (repeat (first | exact Wr.nil | apply Wr.put | apply Wr.skip)))) | (apply G.st1; exact rfl; exact rfl; exact rfl; exact rfl; exact rfl; exact rfl; (· (repeat (first | exact Wr.nil | apply Wr.put | apply Wr.skip)))))
          (repeat (first | intro (b : Nat) | refine gg ?_))
          (repeat (first | intro (b : Nat) | refine go ?_))
          (refine retw ?_)
          refine hv _ ?_
          unfold spV
          rw [if_pos ⟨oA, oP, by unfold insS; omega⟩]
          rfl
    case' false.true =>
      clear pA vpA
      have iB := b_l12 _ _ _ _ _ _ _ _ (vB oB)
      cases oP : B'.ok
      · simp only [oP] at pB
        (repeat' (first | intro (b : Nat) | refine go ?_ | (refine br ?_ ?_ <;> first | exact trivial | intro hq) | refine L.call (h := by intro W hW; first | apply hA W hW.base | apply hB W hW.base | apply pB W hW.base) (k := ?_)))
        ((repeat (refine C.seq ?_)); apply C.draww 13 [none, none, none, none, none, none, none, some _, some _, some _, some _, none, none])
        (repeat (first | intro (b : Nat) | refine gg ?_))
        (repeat' (first | intro (b : Nat) | refine go ?_ | (refine br ?_ ?_ <;> first | exact trivial | intro hq)))
        (refine retw ?_)
        refine hv _ ?_
        unfold spV
        rw [if_neg (by simp [oP])]
        rfl
      · simp only [oP] at pB
        have iA := b_l12 _ _ _ _ _ _ _ _ (vpB oP)
        (repeat' (first | intro (b : Nat) | refine go ?_ | (refine br ?_ ?_ <;> first | exact trivial | intro hq) | refine L.call (h := by intro W hW; first | apply hA W hW.base | apply hB W hW.base | apply pB W hW.base) (k := ?_)))
        ((repeat (refine C.seq ?_)); apply C.draww 13 [none, none, none, none, none, none, none, some _, some _, some _, some _, none, none])
        (repeat (first | intro (b : Nat) | refine gg ?_))
        (refine G.call (h := by intro W hW; exact iA W hW.base) (k := ?_))
        (repeat (first | intro (b : Nat) | refine gg ?_))
        (refine G.call (h := by intro W hW; exact iB W hW.base) (k := ?_))
        (repeat (first | intro (b : Nat) | refine gg ?_))
        (repeat' (first | intro (b : Nat) | refine go ?_ | (refine br ?_ ?_ <;> first | exact trivial | intro hq)))
        · (refine retw ?_)
          refine hv _ ?_
          unfold spV
          rw [if_neg (by unfold insS; omega)]
          rfl
        · ((repeat (refine C.seq ?_)); apply C.drawsw 2 bt2 (.cells 37 [.int .i64 0, .int .i64 0, .int .i64 0, .int .i64 0, .int .i64 0, .int .i64 0, .int .i64 0, .int .i64 0]) 3 [some _, some _, some _])
          (repeat (first | intro (b : Nat) | refine gg ?_))
          (first | (apply G.stk; exact rfl; exact rfl; exact rfl; exact rfl; exact rfl; exact rfl; exact rfl; (· (repeat (first | exact Wr.nil | apply Wr.put | apply Wr.skip)))) | (apply G.st1; exact rfl; exact rfl; exact rfl; exact rfl; exact rfl; exact rfl; (· (repeat (first | exact Wr.nil | apply Wr.put | apply Wr.skip)))))
          (repeat (first | intro (b : Nat) | refine gg ?_))
          (repeat (first | intro (b : Nat) | refine go ?_))
          (refine retw ?_)
          refine hv _ ?_
          unfold spV
          rw [if_pos ⟨oP, oB, by unfold insS; omega⟩]
          rfl

end D
end Go.Proofs.YtpgbmohocfcjpaaGreatDoor
