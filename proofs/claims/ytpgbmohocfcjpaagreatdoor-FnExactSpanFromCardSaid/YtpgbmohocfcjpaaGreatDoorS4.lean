/- Walks: clocks, stamps and what is between stamps, in the reference; the walk of the law. -/
import Derived.Test.YtpgbmohocfcjpaaGreatDoorS1
import Derived.Test.YtpgbmohocfcjpaaGreatDoorA4
namespace Go.Proofs.YtpgbmohocfcjpaaGreatDoor
set_option linter.unusedVariables false
set_option linter.unusedSimpArgs false
set_option maxRecDepth 100000
set_option maxHeartbeats 1000000
namespace D
open Go.RowKit

theorem b_ClockValid (h i s k : Int) (w : World) (hb : D.Base w) : Calls Tryz.prog 154 #[.agg #[.int .i64 h, .int .i64 i, .int .i64 s, .int .i64 k]] w fun e w' => e = .returned (.bool (cval h i s k)) ∧ Below w.heap.size w w' := by
  by_cases c0 : inR h 0 24 = true
  · by_cases c1 : inR i 0 59 = true
    · by_cases c2 : inR s 0 59 = true
      · by_cases c3 : inR k 0 999 = true
        · have hb0 := inR_true.1 c0
          have hb1 := inR_true.1 c1
          have hb2 := inR_true.1 c2
          have hb3 := inR_true.1 c3
          refine enter Tryz.func154 rfl Tryz.ntmps154 rfl (by assumption) ?_
          (repeat (first | intro (b : Nat) | refine go ?_))
          (refine L.call (h := by intro W hW; exact c0 ▸ b_in _ _ _ W hW.base) (k := ?_))
          (repeat (first | intro (b : Nat) | refine go ?_))
          (refine L.call (h := by intro W hW; exact c1 ▸ b_in _ _ _ W hW.base) (k := ?_))
          (repeat (first | intro (b : Nat) | refine go ?_))
          (refine L.call (h := by intro W hW; exact c2 ▸ b_in _ _ _ W hW.base) (k := ?_))
          (repeat (first | intro (b : Nat) | refine go ?_))
          (refine L.call (h := by intro W hW; exact c3 ▸ b_in _ _ _ W hW.base) (k := ?_))
          (repeat' (first | intro (b : Nat) | refine go ?_ | (refine br ?_ ?_ <;> first | exact trivial | intro hq)))
          all_goals (refine ret ?_; try exact rfl)
          · rw [show cval h i s k = true by simp only [cval, c0, c1, c2, c3, Bool.true_and, Bool.or_eq_true, decide_eq_true_eq]; exact Or.inl (by omega)]
            rfl
          · refine congrArg Value.bool ?_
            rw [Bool.eq_iff_iff]
            simp only [cval, c0, c1, c2, c3, Bool.true_and, Bool.or_eq_true, Bool.and_eq_true, decide_eq_true_eq, beq_iff_eq]
            omega
        · have c3 : inR k 0 999 = false := by simpa using c3
          refine enter Tryz.func154 rfl Tryz.ntmps154 rfl (by assumption) ?_
          (repeat (first | intro (b : Nat) | refine go ?_))
          (refine L.call (h := by intro W hW; exact c0 ▸ b_in _ _ _ W hW.base) (k := ?_))
          (repeat (first | intro (b : Nat) | refine go ?_))
          (refine L.call (h := by intro W hW; exact c1 ▸ b_in _ _ _ W hW.base) (k := ?_))
          (repeat (first | intro (b : Nat) | refine go ?_))
          (refine L.call (h := by intro W hW; exact c2 ▸ b_in _ _ _ W hW.base) (k := ?_))
          (repeat (first | intro (b : Nat) | refine go ?_))
          (refine L.call (h := by intro W hW; exact c3 ▸ b_in _ _ _ W hW.base) (k := ?_))
          (repeat (first | intro (b : Nat) | refine go ?_))
          (refine ret ?_; try exact rfl)
          simp [tupleOf, cval, c3]
      · have c2 : inR s 0 59 = false := by simpa using c2
        refine enter Tryz.func154 rfl Tryz.ntmps154 rfl (by assumption) ?_
        (repeat (first | intro (b : Nat) | refine go ?_))
        (refine L.call (h := by intro W hW; exact c0 ▸ b_in _ _ _ W hW.base) (k := ?_))
        (repeat (first | intro (b : Nat) | refine go ?_))
        (refine L.call (h := by intro W hW; exact c1 ▸ b_in _ _ _ W hW.base) (k := ?_))
        (repeat (first | intro (b : Nat) | refine go ?_))
        (refine L.call (h := by intro W hW; exact c2 ▸ b_in _ _ _ W hW.base) (k := ?_))
        (repeat (first | intro (b : Nat) | refine go ?_))
        (refine ret ?_; try exact rfl)
        simp [tupleOf, cval, c2]
    · have c1 : inR i 0 59 = false := by simpa using c1
      refine enter Tryz.func154 rfl Tryz.ntmps154 rfl (by assumption) ?_
      (repeat (first | intro (b : Nat) | refine go ?_))
      (refine L.call (h := by intro W hW; exact c0 ▸ b_in _ _ _ W hW.base) (k := ?_))
      (repeat (first | intro (b : Nat) | refine go ?_))
      (refine L.call (h := by intro W hW; exact c1 ▸ b_in _ _ _ W hW.base) (k := ?_))
      (repeat (first | intro (b : Nat) | refine go ?_))
      (refine ret ?_; try exact rfl)
      simp [tupleOf, cval, c1]
  · have c0 : inR h 0 24 = false := by simpa using c0
    refine enter Tryz.func154 rfl Tryz.ntmps154 rfl (by assumption) ?_
    (repeat (first | intro (b : Nat) | refine go ?_))
    (refine L.call (h := by intro W hW; exact c0 ▸ b_in _ _ _ W hW.base) (k := ?_))
    (repeat (first | intro (b : Nat) | refine go ?_))
    (refine ret ?_; try exact rfl)
    simp [tupleOf, cval, c0]

theorem b_ClockMillis (h i s k : Int) (hv : cval h i s k = true) (w : World) (hb : D.Base w) : Calls Tryz.prog 105 #[.agg #[.int .i64 h, .int .i64 i, .int .i64 s, .int .i64 k]] w fun e w' => e = .returned (.int .i64 (cms h i s k)) ∧ Below w.heap.size w w' := by
  have hd := cval_bd hv
  have e0 : cms h i s k = ((h * 60 + i) * 60 + s) * 1000 + k := rfl
  refine enter Tryz.func105 rfl Tryz.ntmps105 rfl (by assumption) ?_
  (repeat (first | intro (b : Nat) | refine go ?_))
  (refine L.call (h := by intro W hW; exact hv ▸ b_ClockValid _ _ _ _ W hW.base) (k := ?_))
  (repeat (first | intro (b : Nat) | refine go ?_))
  (refine ret ?_; try exact rfl)
  ((try simp only [tupleOf, Value.agg.injEq, Value.tuple.injEq, List.toArray_inj, Array.mk.injEq, List.cons.injEq, Value.int.injEq, Value.bool.injEq, and_true, true_and]) <;> (try omega))

theorem b_StampValid (y m d h i s k o : Int) (w : World) (hb : D.Base w) : Calls Tryz.prog 114 #[.agg #[.int .i64 y, .int .i64 m, .int .i64 d, .int .i64 h, .int .i64 i, .int .i64 s, .int .i64 k, .int .i64 o]] w fun e w' => e = .returned (.bool (sval y m d h i s k o)) ∧ Below w.heap.size w w' := by
  by_cases c0 : dval y m d = true
  · by_cases c1 : cval h i s k = true
    · refine enter Tryz.func114 rfl Tryz.ntmps114 rfl (by assumption) ?_
      (repeat (first | intro (b : Nat) | refine go ?_))
      (refine L.call (h := by intro W hW; exact c0 ▸ b_DateValid _ _ _ W hW.base) (k := ?_))
      (repeat (first | intro (b : Nat) | refine go ?_))
      (refine L.call (h := by intro W hW; exact c1 ▸ b_ClockValid _ _ _ _ W hW.base) (k := ?_))
      (repeat (first | intro (b : Nat) | refine go ?_))
      (refine L.call (h := by intro W hW; exact b_in _ _ _ W hW.base) (k := ?_))
      (repeat (first | intro (b : Nat) | refine go ?_))
      (refine ret ?_; try exact rfl)
      simp [tupleOf, sval, c0, c1]
    · have c1 : cval h i s k = false := by simpa using c1
      refine enter Tryz.func114 rfl Tryz.ntmps114 rfl (by assumption) ?_
      (repeat (first | intro (b : Nat) | refine go ?_))
      (refine L.call (h := by intro W hW; exact c0 ▸ b_DateValid _ _ _ W hW.base) (k := ?_))
      (repeat (first | intro (b : Nat) | refine go ?_))
      (refine L.call (h := by intro W hW; exact c1 ▸ b_ClockValid _ _ _ _ W hW.base) (k := ?_))
      (repeat (first | intro (b : Nat) | refine go ?_))
      (refine ret ?_; try exact rfl)
      simp [tupleOf, sval, c1]
  · have c0 : dval y m d = false := by simpa using c0
    refine enter Tryz.func114 rfl Tryz.ntmps114 rfl (by assumption) ?_
    (repeat (first | intro (b : Nat) | refine go ?_))
    (refine L.call (h := by intro W hW; exact c0 ▸ b_DateValid _ _ _ W hW.base) (k := ?_))
    (repeat (first | intro (b : Nat) | refine go ?_))
    (refine ret ?_; try exact rfl)
    simp [tupleOf, sval, c0]

theorem b_l12 (y m d h i s k o : Int) (hv : sval y m d h i s k o = true) (w : World) (hb : D.Base w) : Calls Tryz.prog 47 #[.agg #[.int .i64 y, .int .i64 m, .int .i64 d, .int .i64 h, .int .i64 i, .int .i64 s, .int .i64 k, .int .i64 o]] w fun e w' => e = .returned (.int .i64 (inst y m d h i s k o)) ∧ Below w.heap.size w w' := by
  obtain ⟨h1, h2, h3, h4⟩ := sval_parts hv
  have hn := num_bd h1
  have hm := cms_bd h2
  have e0 : inst y m d h i s k o = 86400000 * num y m d + cms h i s k - 60000 * o := rfl
  have hq1 : dnum y m d = num y m d := if_pos h1
  refine enter Tryz.func47 rfl Tryz.ntmps47 rfl (by assumption) ?_
  (repeat (first | intro (b : Nat) | refine go ?_))
  ((repeat (refine C.seq ?_)); apply C.draww 13 [none, some _, some _, none, none, some _, some _, none, none, some _, none, none, none])
  (repeat (first | intro (b : Nat) | refine gg ?_))
  (refine G.call (h := by intro W hW; exact hq1 ▸ b_DayNumber _ _ _ W hW.base) (k := ?_))
  (repeat (first | intro (b : Nat) | refine gg ?_))
  (refine G.call (h := by intro W hW; exact b_ClockMillis _ _ _ _ h2 W hW.base) (k := ?_))
  (repeat (first | intro (b : Nat) | refine gg ?_))
  (repeat (first | intro (b : Nat) | refine go ?_))
  (refine ret ?_; try exact rfl)
  ((try simp only [tupleOf, Value.agg.injEq, Value.tuple.injEq, List.toArray_inj, Array.mk.injEq, List.cons.injEq, Value.int.injEq, Value.bool.injEq, and_true, true_and]) <;> (try omega))

theorem b_SpanLength_yes (y m d h i s k o y' m' d' h' i' s' k' o' : Int) (hv : sval y m d h i s k o = true) (hv' : sval y' m' d' h' i' s' k' o' = true) (hle : inst y m d h i s k o ≤ inst y' m' d' h' i' s' k' o') (w : World) (hb : D.Base w) :
    Calls Tryz.prog 72 #[.agg #[.int .i64 y, .int .i64 m, .int .i64 d, .int .i64 h, .int .i64 i, .int .i64 s, .int .i64 k, .int .i64 o], .agg #[.int .i64 y', .int .i64 m', .int .i64 d', .int .i64 h', .int .i64 i', .int .i64 s', .int .i64 k', .int .i64 o']] w fun e w' => e = .returned (.int .i64 (inst y' m' d' h' i' s' k' o' - inst y m d h i s k o)) ∧ Below w.heap.size w w' := by
  have hn := inst_bd hv
  have hn' := inst_bd hv'
  refine enter Tryz.func72 rfl Tryz.ntmps72 rfl (by assumption) ?_
  (repeat (first | intro (b : Nat) | refine go ?_))
  ((repeat (refine C.seq ?_)); apply C.draww 15 [some _, some _, none, none, some _, some _, none, none, none, some _, some _, some _, some _, none, none])
  (repeat (first | intro (b : Nat) | refine gg ?_))
  (refine G.call (h := by intro W hW; exact hv ▸ b_StampValid _ _ _ _ _ _ _ _ W hW.base) (k := ?_))
  (repeat (first | intro (b : Nat) | refine gg ?_))
  (refine G.call (h := by intro W hW; exact hv' ▸ b_StampValid _ _ _ _ _ _ _ _ W hW.base) (k := ?_))
  (repeat (first | intro (b : Nat) | refine gg ?_))
  (refine G.call (h := by intro W hW; exact b_l12 _ _ _ _ _ _ _ _ hv W hW.base) (k := ?_))
  (repeat (first | intro (b : Nat) | refine gg ?_))
  (refine G.call (h := by intro W hW; exact b_l12 _ _ _ _ _ _ _ _ hv' W hW.base) (k := ?_))
  (repeat (first | intro (b : Nat) | refine gg ?_))
  (repeat' (first | intro (b : Nat) | refine go ?_ | (refine br ?_ ?_ <;> first | exact trivial | intro hq)))
  ((repeat (refine C.seq ?_)); apply C.draww 6 [some _, some _, some _, some _, none, none])
  (repeat (first | intro (b : Nat) | refine gg ?_))
  (refine G.call (h := by intro W hW; exact b_l12 _ _ _ _ _ _ _ _ hv' W hW.base) (k := ?_))
  (repeat (first | intro (b : Nat) | refine gg ?_))
  (refine G.call (h := by intro W hW; exact b_l12 _ _ _ _ _ _ _ _ hv W hW.base) (k := ?_))
  (repeat (first | intro (b : Nat) | refine gg ?_))
  (repeat (first | intro (b : Nat) | refine go ?_))
  (refine ret ?_; try exact rfl)

theorem b_SpanLength_no (y m d h i s k o y' m' d' h' i' s' k' o' : Int) (hno : ¬ (sval y m d h i s k o = true ∧ sval y' m' d' h' i' s' k' o' = true ∧ inst y m d h i s k o ≤ inst y' m' d' h' i' s' k' o')) (w : World) (hb : D.Base w) :
    Calls Tryz.prog 72 #[.agg #[.int .i64 y, .int .i64 m, .int .i64 d, .int .i64 h, .int .i64 i, .int .i64 s, .int .i64 k, .int .i64 o], .agg #[.int .i64 y', .int .i64 m', .int .i64 d', .int .i64 h', .int .i64 i', .int .i64 s', .int .i64 k', .int .i64 o']] w fun e w' => e = .returned (.int .i64 (-1)) ∧ Below w.heap.size w w' := by
  cases hv : sval y m d h i s k o
  · refine enter Tryz.func72 rfl Tryz.ntmps72 rfl (by assumption) ?_
    (repeat (first | intro (b : Nat) | refine go ?_))
    ((repeat (refine C.seq ?_)); apply C.draww 15 [some _, some _, none, none, some _, some _, none, none, none, some _, some _, some _, some _, none, none])
    (repeat (first | intro (b : Nat) | refine gg ?_))
    (refine G.call (h := by intro W hW; exact hv ▸ b_StampValid _ _ _ _ _ _ _ _ W hW.base) (k := ?_))
    (repeat (first | intro (b : Nat) | refine gg ?_))
    (repeat (first | intro (b : Nat) | refine go ?_))
    (refine ret ?_; try exact rfl)
  cases hv' : sval y' m' d' h' i' s' k' o'
  · refine enter Tryz.func72 rfl Tryz.ntmps72 rfl (by assumption) ?_
    (repeat (first | intro (b : Nat) | refine go ?_))
    ((repeat (refine C.seq ?_)); apply C.draww 15 [some _, some _, none, none, some _, some _, none, none, none, some _, some _, some _, some _, none, none])
    (repeat (first | intro (b : Nat) | refine gg ?_))
    (refine G.call (h := by intro W hW; exact hv ▸ b_StampValid _ _ _ _ _ _ _ _ W hW.base) (k := ?_))
    (repeat (first | intro (b : Nat) | refine gg ?_))
    (refine G.call (h := by intro W hW; exact hv' ▸ b_StampValid _ _ _ _ _ _ _ _ W hW.base) (k := ?_))
    (repeat (first | intro (b : Nat) | refine gg ?_))
    (repeat (first | intro (b : Nat) | refine go ?_))
    (refine ret ?_; try exact rfl)
  have hn := inst_bd hv
  have hn' := inst_bd hv'
  have hlt : inst y' m' d' h' i' s' k' o' < inst y m d h i s k o := by
    by_cases hle : inst y m d h i s k o ≤ inst y' m' d' h' i' s' k' o'
    · exact absurd ⟨hv, hv', hle⟩ hno
    · omega
  refine enter Tryz.func72 rfl Tryz.ntmps72 rfl (by assumption) ?_
  (repeat (first | intro (b : Nat) | refine go ?_))
  ((repeat (refine C.seq ?_)); apply C.draww 15 [some _, some _, none, none, some _, some _, none, none, none, some _, some _, some _, some _, none, none])
  (repeat (first | intro (b : Nat) | refine gg ?_))
  (refine G.call (h := by intro W hW; exact hv ▸ b_StampValid _ _ _ _ _ _ _ _ W hW.base) (k := ?_))
  (repeat (first | intro (b : Nat) | refine gg ?_))
  (refine G.call (h := by intro W hW; exact hv' ▸ b_StampValid _ _ _ _ _ _ _ _ W hW.base) (k := ?_))
  (repeat (first | intro (b : Nat) | refine gg ?_))
  (refine G.call (h := by intro W hW; exact b_l12 _ _ _ _ _ _ _ _ hv W hW.base) (k := ?_))
  (repeat (first | intro (b : Nat) | refine gg ?_))
  (refine G.call (h := by intro W hW; exact b_l12 _ _ _ _ _ _ _ _ hv' W hW.base) (k := ?_))
  (repeat (first | intro (b : Nat) | refine gg ?_))
  (repeat' (first | intro (b : Nat) | refine go ?_ | (refine br ?_ ?_ <;> first | exact trivial | intro hq)))
  (refine ret ?_; try exact rfl)

end D
end Go.Proofs.YtpgbmohocfcjpaaGreatDoor
