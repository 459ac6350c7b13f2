/- Walks: spans that the program reads. -/
import Derived.Test.YtpgbmohocfcjpaaGreatDoorSp2
import Derived.Test.YtpgbmohocfcjpaaGreatDoorF6
namespace Go.Proofs.YtpgbmohocfcjpaaGreatDoor
set_option linter.unusedVariables false
set_option linter.unusedSimpArgs false
set_option maxRecDepth 100000
set_option maxHeartbeats 1000000
namespace D
open Go.RowKit
open Go.PlainAid (bt bt_nonneg bt_le bt_end)
attribute [local irreducible] Calls

theorem a_both (y m d h i s k o y' m' d' h' i' s' k' o' : Int) (hv : sval y m d h i s k o = true) (hv' : sval y' m' d' h' i' s' k' o' = true) (w : World) (hb : D.Base w) :
    Calls Tryz.prog 125 #[.agg #[.int .i64 y, .int .i64 m, .int .i64 d, .int .i64 h, .int .i64 i, .int .i64 s, .int .i64 k, .int .i64 o, .int .i64 y', .int .i64 m', .int .i64 d', .int .i64 h', .int .i64 i', .int .i64 s', .int .i64 k', .int .i64 o'], .func (.func 50) #[] #[]] w fun e w' => e = .returned (.agg #[.int .i64 (inst y m d h i s k o), .int .i64 (inst y' m' d' h' i' s' k' o')]) ∧ Below w.heap.size w w' := by
  refine enter Tryz.func125 rfl Tryz.ntmps125 rfl (by assumption) ?_
  (repeat (first | intro (b : Nat) | refine go ?_))
  ((repeat (refine C.seq ?_)); apply C.draww 9 [none, none, some _, some _, none, none, some _, some _, none])
  (repeat (first | intro (b : Nat) | refine gg ?_))
  (refine G.callx (h := by intro W hW; exact a_instantOf _ _ _ _ _ _ _ _ hv W hW.base) (k := ?_))
  (repeat (first | intro (b : Nat) | refine gg ?_))
  (refine G.callx (h := by intro W hW; exact a_instantOf _ _ _ _ _ _ _ _ hv' W hW.base) (k := ?_))
  (repeat (first | intro (b : Nat) | refine gg ?_))
  (repeat (first | intro (b : Nat) | refine go ?_))
  (refine ret ?_; try exact rfl)

theorem a_spanOf (A B : SR) (hA : valS A) (hB : valS B) (w : World) (hb : D.Base w) : Calls Tryz.prog 68 #[sa A, sa B] w fun e w' => e = .returned (.tuple #[.agg #[.int .i64 (insS A), .int .i64 (insS B)], .bool (decide (insS A ≤ insS B))]) ∧ Below w.heap.size w w' := by
  have h1 := a_StampValid A.y A.m A.d A.h A.i A.s A.k A.o
  have h2 := a_StampValid B.y B.m B.d B.h B.i B.s B.k B.o
  have h3 := a_both _ _ _ _ _ _ _ _ _ _ _ _ _ _ _ _ hA hB
  unfold valS at hA hB
  rw [hA] at h1
  rw [hB] at h2
  unfold insS
  refine enter Tryz.func68 rfl Tryz.ntmps68 rfl (by assumption) ?_
  (repeat (first | intro (b : Nat) | refine go ?_))
  revert b
  intro bt4
  (repeat' (first | intro (b : Nat) | refine go ?_ | (refine br ?_ ?_ <;> first | exact trivial | intro hq) | refine L.call (h := by intro W hW; first | apply h1 W hW.base | apply h2 W hW.base | apply h3 W hW.base) (k := ?_)))
  ((repeat (refine C.seq ?_)); apply C.drawsw 6 bt4 (.cells 100 [.int .i64 0, .int .i64 0]) 7 [some _, none, some _, none, some _, none, some _])
  (repeat (first | intro (b : Nat) | refine gg ?_))
  (first | (apply G.stk; exact rfl; exact rfl; exact rfl; exact rfl; exact rfl; exact rfl; exact rfl; (· (repeat (first | exact Wr.nil | apply Wr.put | apply Wr.skip)))) | (apply G.st1; exact rfl; exact rfl; exact rfl; exact rfl; exact rfl; exact rfl; (· (repeat (first | exact Wr.nil | apply Wr.put | apply Wr.skip)))))
  (repeat (first | intro (b : Nat) | refine gg ?_))
  (repeat (first | intro (b : Nat) | refine go ?_))
  (refine ret ?_; try exact rfl)

/-- Two slashes: no span. -/
theorem spanAt_two {s : ByteArray} {j : Nat} (hj : isSl s j) (hno : ∀ j, ¬ oneSl s j) : spanAt s j = spNo := by
  obtain ⟨i, hi, hij⟩ : ∃ i, isSl s i ∧ ¬ i = j := Classical.byContradiction fun h => hno j ⟨hj.1, hj.2, fun i h1 h2 => Classical.byContradiction fun h3 => h ⟨i, ⟨h1, h2⟩, h3⟩⟩
  have key : ∀ t : ByteArray, ¬ noSl t → (stampR t).ok = false ∧ perR t = none := fun t ht => by
    refine ⟨bool_no fun h => ht (st_noSl h), ?_⟩
    cases hp : perR t with
    | none => rfl
    | some v => exact (ht (per_noSl hp)).elim
  have hz := hj.1
  unfold spanAt
  by_cases hlt : i < j
  · have hl : ¬ noSl (s.extract 0 j) := fun h => h i (by rw [size_ext (by omega)]; omega) (by rw [bt_extract (by omega) (by omega), show 0 + i = i by omega]; exact hi.2)
    obtain ⟨k1, k2⟩ := key _ hl
    rw [k2]
    unfold spV
    rw [if_neg]
    rintro ⟨h, -, -⟩
    unfold spA at h
    rw [if_neg (by simp [k1])] at h
    split at h
    · cases h
    · cases h
  · have hi1 := hi.1
    have hr : ¬ noSl (s.extract (j + 1) s.size) := fun h => h (i - (j + 1)) (by rw [size_ext (by omega)]; omega) (by rw [bt_extract (by omega) (by omega), show j + 1 + (i - (j + 1)) = i by omega]; exact hi.2)
    obtain ⟨k1, k2⟩ := key _ hr
    rw [k2]
    unfold spV
    rw [if_neg]
    rintro ⟨-, h, -⟩
    unfold spB at h
    rw [if_neg (by simp [k1])] at h
    split at h
    · cases h
    · cases h

open Classical in
/-- The span of a text, as a value. -/
noncomputable def spanR (s : ByteArray) : Value := if h : ∃ j, oneSl s j then spanAt s (Classical.choose h) else spNo
theorem spanR_yes {s : ByteArray} {j : Nat} (h : oneSl s j) : spanR s = spanAt s j := by
  have hh : ∃ j, oneSl s j := ⟨j, h⟩
  unfold spanR
  rw [dif_pos hh]
  have h2 := Classical.choose_spec hh
  rw [h.2.2 _ h2.1 h2.2.1]
theorem spanR_no {s : ByteArray} (h : ∀ j, ¬ oneSl s j) : spanR s = spNo := by
  unfold spanR
  rw [dif_neg fun ⟨j, hj⟩ => h j hj]
theorem spanR_form (s : ByteArray) : ∃ (S T : SR) (ok : Bool), spanR s = .tuple #[sa S, sa T, .bool ok] := by
  by_cases h : ∃ j, oneSl s j
  · obtain ⟨j, hj⟩ := h
    rw [spanR_yes hj]
    unfold spanAt spV
    split
    · exact ⟨_, _, _, rfl⟩
    · exact ⟨_, _, _, rfl⟩
  · rw [spanR_no fun j hj => h ⟨j, hj⟩]
    exact ⟨SR.no, SR.no, false, rfl⟩

theorem b_SpanFromR (s : ByteArray) (hs : s.size ≤ 1000000000000) (w : World) (hb : D.Base w) : Calls Tryz.prog 27 #[.string s] w fun e w' => e = .returned (spanR s) ∧ Below w.heap.size w w' :=
  (b_SpanFrom s hs w hb).mono fun e w' ⟨v, he, hv, hn⟩ => ⟨by
    rcases hv with ⟨j, hj, rfl⟩ | ⟨hj, rfl⟩
    · rw [spanR_yes hj]; exact he
    · rw [spanR_no hj]; exact he, hn⟩

theorem a_SpanFrom (s : ByteArray) (hs : s.size ≤ 1000000000000) (w : World) (hb : D.Base w) (hg : Hdl w) : Calls Tryz.prog 28 #[.string s] w (RetV w fun v => (∃ j, isSl s j ∧ v = spanAt s j) ∨ ((∀ j, ¬ isSl s j) ∧ v = spNo)) := by
  refine enter Tryz.func28 rfl Tryz.ntmps28 rfl (by assumption) ?_
  (repeat (first | intro (b : Nat) | refine go ?_))
  rename_i bt2
  (refine L.vcall (h := by intro W hW; exact a_Cut s _ hs rfl rfl W hW.base) (k := ?_); intro v hR)
  rcases hR with ⟨j, hj, rfl⟩ | ⟨hj, rfl⟩
  case' inr =>
    (repeat' (first | intro (b : Nat) | refine go ?_ | (refine br ?_ ?_ <;> first | exact trivial | intro hq)))
    (refine retw ?_)
    exact .inr ⟨hj, rfl⟩
  case' inl =>
    have hj1 := hj.1
    have z1 : (s.extract 0 j).size ≤ 1000000000000 := by rw [ByteArray.size_extract]; omega
    have z2 : (s.extract (j + 1) s.size).size ≤ 1000000000000 := by rw [ByteArray.size_extract]; omega
    have hv : ∀ v, v = spanAt s j → (∃ j, isSl s j ∧ v = spanAt s j) ∨ ((∀ j, ¬ isSl s j) ∧ v = spNo) := fun v h => .inl ⟨j, hj, h⟩
    unfold spanAt at hv
    generalize s.extract 0 j = l at *
    generalize s.extract (j + 1) s.size = r at *
    have hA := a_StampFrom l z1
    have hB := a_StampFrom r z2
    have vA : (stampR l).ok = true → valS (stampR l) := stampR_ok
    have vB : (stampR r).ok = true → valS (stampR r) := stampR_ok
    rw [show stR l (cutP l) = stampR l from rfl] at hA
    rw [show stR r (cutP r) = stampR r from rfl] at hB
    generalize stampR l = A at *
    generalize stampR r = B at *
    simp only [srV] at hA hB
    have fA := a_PeriodFrom r z2
    have fB := a_PeriodFrom l z1
    unfold spA spB at hv
    generalize perR r = pr at *
    generalize perR l = pl at *
    cases oA : A.ok <;> cases oB : B.ok <;> simp only [oA, oB, if_true, if_false, Bool.false_eq_true] at hA hB hv
    case' false.false =>
      clear fA fB vA vB
      (repeat' (first | intro (b : Nat) | refine go ?_ | (refine br ?_ ?_ <;> first | exact trivial | intro hq) | refine L.call (h := by intro W hW; first | apply hA W hW.base (hW.old hg) | apply hB W hW.base (hW.old hg)) (k := ?_)))
      (refine retw ?_)
      refine hv _ ?_
      unfold spV
      rw [if_neg (by simp [SR.no])]
      rfl
    case' true.true =>
      clear fA fB
      have hO := a_spanOf A B (vA oA) (vB oB)
      (repeat' (first | intro (b : Nat) | refine go ?_ | (refine br ?_ ?_ <;> first | exact trivial | intro hq) | refine L.call (h := by intro W hW; first | apply hA W hW.base (hW.old hg) | apply hB W hW.base (hW.old hg) | apply hO W hW.base) (k := ?_)))
      all_goals (try clear hA hB)
      · (refine retw ?_)
        refine hv _ ?_
        unfold spV
        rw [if_neg (by rintro ⟨-, -, h⟩; omega)]
        rfl
      · ((repeat (refine C.seq ?_)); apply C.drawsw 2 bt2 (.cells 37 [.int .i64 0, .int .i64 0, .int .i64 0, .int .i64 0, .int .i64 0, .int .i64 0, .int .i64 0, .int .i64 0]) 3 [some _, some _, some _])
        (repeat (first | intro (b : Nat) | refine gg ?_))
        (first | (apply G.stk; exact rfl; exact rfl; exact rfl; exact rfl; exact rfl; exact rfl; exact rfl; (· (repeat (first | exact Wr.nil | apply Wr.put | apply Wr.skip)))) | (apply G.st1; exact rfl; exact rfl; exact rfl; exact rfl; exact rfl; exact rfl; (· (repeat (first | exact Wr.nil | apply Wr.put | apply Wr.skip)))))
        (repeat (first | intro (b : Nat) | refine gg ?_))
        (repeat (first | intro (b : Nat) | refine go ?_))
        (refine retw ?_)
        refine hv _ ?_
        unfold spV
        rw [if_pos ⟨oA, oB, by omega⟩]
        rfl
    case' true.false =>
      clear fB
      cases pr with
      | none =>
        simp only [perT] at fA
        simp only [plusO] at hv
        (repeat' (first | intro (b : Nat) | refine go ?_ | (refine br ?_ ?_ <;> first | exact trivial | intro hq) | refine L.call (h := by intro W hW; first | apply hA W hW.base (hW.old hg) | apply hB W hW.base (hW.old hg) | apply fA W hW.base) (k := ?_)))
        (refine retw ?_)
        refine hv _ ?_
        unfold spV
        rw [if_neg (by simp [plusO, SR.no])]
        rfl
      | some v =>
        simp only [perT] at fA
        simp only [plusO] at hv
        have hS := a_StampPlus A.y A.m A.d A.h A.i A.s A.k A.o v.a v.b v.c v.d v.e v.f false
        have vT : (splus A.y A.m A.d A.h A.i A.s A.k A.o v.a v.b v.c v.d v.e v.f false).ok = true → valS (splus A.y A.m A.d A.h A.i A.s A.k A.o v.a v.b v.c v.d v.e v.f false) := fun h => plusO_ok (S := A) (p := some v) (back := false) h
        generalize splus A.y A.m A.d A.h A.i A.s A.k A.o v.a v.b v.c v.d v.e v.f false = T at *
        simp only [srV] at hS
        cases oT : T.ok
        · simp only [oT] at hS
          (repeat' (first | intro (b : Nat) | refine go ?_ | (refine br ?_ ?_ <;> first | exact trivial | intro hq) | refine L.call (h := by intro W hW; first | apply hA W hW.base (hW.old hg) | apply hB W hW.base (hW.old hg) | apply fA W hW.base | apply hS W hW.base) (k := ?_)))
          (refine retw ?_)
          refine hv _ ?_
          unfold spV
          rw [if_neg (by simp [oT])]
          rfl
        · simp only [oT] at hS
          have hO := a_spanOf A T (vA oA) (vT oT)
          (repeat' (first | intro (b : Nat) | refine go ?_ | (refine br ?_ ?_ <;> first | exact trivial | intro hq) | refine L.call (h := by intro W hW; first | apply hA W hW.base (hW.old hg) | apply hB W hW.base (hW.old hg) | apply fA W hW.base | apply hS W hW.base | apply hO W hW.base) (k := ?_)))
          all_goals (try clear hA hB)
          · (refine retw ?_)
            refine hv _ ?_
            unfold spV
            rw [if_neg (by rintro ⟨-, -, h⟩; omega)]
            rfl
          · ((repeat (refine C.seq ?_)); apply C.drawsw 2 bt2 (.cells 37 [.int .i64 0, .int .i64 0, .int .i64 0, .int .i64 0, .int .i64 0, .int .i64 0, .int .i64 0, .int .i64 0]) 3 [some _, some _, some _])
            (repeat (first | intro (b : Nat) | refine gg ?_))
            (first | (apply G.stk; exact rfl; exact rfl; exact rfl; exact rfl; exact rfl; exact rfl; exact rfl; (· (repeat (first | exact Wr.nil | apply Wr.put | apply Wr.skip)))) | (apply G.st1; exact rfl; exact rfl; exact rfl; exact rfl; exact rfl; exact rfl; (· (repeat (first | exact Wr.nil | apply Wr.put | apply Wr.skip)))))
            (repeat (first | intro (b : Nat) | refine gg ?_))
            (repeat (first | intro (b : Nat) | refine go ?_))
            (refine retw ?_)
            refine hv _ ?_
            unfold spV
            rw [if_pos ⟨oA, oT, by omega⟩]
            rfl
    case' false.true =>
      clear fA
      cases pl with
      | none =>
        simp only [perT] at fB
        simp only [plusO] at hv
        (repeat' (first | intro (b : Nat) | refine go ?_ | (refine br ?_ ?_ <;> first | exact trivial | intro hq) | refine L.call (h := by intro W hW; first | apply hA W hW.base (hW.old hg) | apply hB W hW.base (hW.old hg) | apply fB W hW.base) (k := ?_)))
        (refine retw ?_)
        refine hv _ ?_
        unfold spV
        rw [if_neg (by simp [plusO, SR.no])]
        rfl
      | some v =>
        simp only [perT] at fB
        simp only [plusO] at hv
        have hS := a_StampPlus B.y B.m B.d B.h B.i B.s B.k B.o v.a v.b v.c v.d v.e v.f true
        have vT : (splus B.y B.m B.d B.h B.i B.s B.k B.o v.a v.b v.c v.d v.e v.f true).ok = true → valS (splus B.y B.m B.d B.h B.i B.s B.k B.o v.a v.b v.c v.d v.e v.f true) := fun h => plusO_ok (S := B) (p := some v) (back := true) h
        generalize splus B.y B.m B.d B.h B.i B.s B.k B.o v.a v.b v.c v.d v.e v.f true = T at *
        simp only [srV] at hS
        cases oT : T.ok
        · simp only [oT] at hS
          (repeat' (first | intro (b : Nat) | refine go ?_ | (refine br ?_ ?_ <;> first | exact trivial | intro hq) | refine L.call (h := by intro W hW; first | apply hA W hW.base (hW.old hg) | apply hB W hW.base (hW.old hg) | apply fB W hW.base | apply hS W hW.base) (k := ?_)))
          (refine retw ?_)
          refine hv _ ?_
          unfold spV
          rw [if_neg (by simp [oT])]
          rfl
        · simp only [oT] at hS
          have hO := a_spanOf T B (vT oT) (vB oB)
          (repeat' (first | intro (b : Nat) | refine go ?_ | (refine br ?_ ?_ <;> first | exact trivial | intro hq) | refine L.call (h := by intro W hW; first | apply hA W hW.base (hW.old hg) | apply hB W hW.base (hW.old hg) | apply fB W hW.base | apply hS W hW.base | apply hO W hW.base) (k := ?_)))
          all_goals (try clear hA hB)
          · (refine retw ?_)
            refine hv _ ?_
            unfold spV
            rw [if_neg (by rintro ⟨-, -, h⟩; omega)]
            rfl
          · ((repeat (refine C.seq ?_)); apply C.drawsw 2 bt2 (.cells 37 [.int .i64 0, .int .i64 0, .int .i64 0, .int .i64 0, .int .i64 0, .int .i64 0, .int .i64 0, .int .i64 0]) 3 [some _, some _, some _])
            (repeat (first | intro (b : Nat) | refine gg ?_))
            (first | (apply G.stk; exact rfl; exact rfl; exact rfl; exact rfl; exact rfl; exact rfl; exact rfl; (· (repeat (first | exact Wr.nil | apply Wr.put | apply Wr.skip)))) | (apply G.st1; exact rfl; exact rfl; exact rfl; exact rfl; exact rfl; exact rfl; (· (repeat (first | exact Wr.nil | apply Wr.put | apply Wr.skip)))))
            (repeat (first | intro (b : Nat) | refine gg ?_))
            (repeat (first | intro (b : Nat) | refine go ?_))
            (refine retw ?_)
            refine hv _ ?_
            unfold spV
            rw [if_pos ⟨oT, oB, by omega⟩]
            rfl

theorem a_SpanFromR (s : ByteArray) (hs : s.size ≤ 1000000000000) (w : World) (hb : D.Base w) (hg : Hdl w) : Calls Tryz.prog 28 #[.string s] w fun e w' => e = .returned (spanR s) ∧ Below w.heap.size w w' :=
  (a_SpanFrom s hs w hb hg).mono fun e w' ⟨v, he, hv, hn⟩ => ⟨by
    rcases hv with ⟨j, hj, rfl⟩ | ⟨hj, rfl⟩
    · by_cases h1 : oneSl s j
      · rw [spanR_yes h1]; exact he
      · have hno : ∀ i, ¬ oneSl s i := fun i hi => h1 (by rw [hi.2.2 j hj.1 hj.2]; exact hi)
        rw [spanR_no hno, ← spanAt_two hj hno]; exact he
    · rw [spanR_no fun j h => hj j ⟨h.1, h.2.1⟩]; exact he, hn⟩

theorem law_FnExactSpanFrom (s : ByteArray) (w : World) (hb : D.Base w) (hg : Hdl w) : Calls Tryz.prog 7 #[.string s] w fun e w' => e = .returned (.bool true) ∧ Below w.heap.size w w' := by
  by_cases hn : s.size ≤ 1048576
  · have hA := a_SpanFromR s (by omega)
    have hB := b_SpanFromR s (by omega)
    obtain ⟨S, T, ok, e⟩ := spanR_form s
    rw [e] at hA hB
    cases ok
    all_goals
      refine enter Tryz.func7 rfl Tryz.ntmps7 rfl (by assumption) ?_
      (repeat' (first | intro (b : Nat) | refine go ?_ | (refine br ?_ ?_ <;> first | exact trivial | intro hq) | refine L.call (h := by intro W hW; first | apply hA W hW.base (hW.old hg) | apply hB W hW.base | apply l_eqStamp _ _ _ _ _ _ _ _ W hW.base) (k := ?_)))
      all_goals (refine ret ?_; try exact rfl)
  · refine enter Tryz.func7 rfl Tryz.ntmps7 rfl (by assumption) ?_
    (repeat' (first | intro (b : Nat) | refine go ?_ | (refine br ?_ ?_ <;> first | exact trivial | intro hq)))
    all_goals (refine ret ?_; try exact rfl)

end D
end Go.Proofs.YtpgbmohocfcjpaaGreatDoor
