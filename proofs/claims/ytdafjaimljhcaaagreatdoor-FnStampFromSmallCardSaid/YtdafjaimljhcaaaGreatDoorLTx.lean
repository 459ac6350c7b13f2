/- The walks of the laws on texts of stamps. -/
import Derived.Test.YtdafjaimljhcaaaGreatDoorDr6
import Derived.Test.YtdafjaimljhcaaaGreatDoorF6
import Derived.Test.YtdafjaimljhcaaaGreatDoorEq
namespace Go.Proofs.YtdafjaimljhcaaaGreatDoor
set_option linter.unusedVariables false
set_option linter.unusedSimpArgs false
set_option maxRecDepth 100000
set_option maxHeartbeats 1000000
namespace D
open Go.RowKit
attribute [local irreducible] Calls

theorem law_FnExactStampTidy (s : ByteArray) (w : World) (hb : D.Base w) (hg : Hdl w) : Calls Tryz.prog 5 #[.string s] w fun e w' => e = .returned (.bool true) ∧ Below w.heap.size w w' := by
  by_cases hn : s.size ≤ 1048576
  · have hA := a_StampTidy s (by omega)
    have hB := b_StampTidy s (by omega)
    obtain ⟨t, ok, e⟩ := tdV_some s
    rw [e] at hA hB
    cases ok
    all_goals
      refine enter Tryz.func5 rfl Tryz.ntmps5 rfl (by assumption) ?_
      (repeat' (first | intro (b : Nat) | refine go ?_ | (refine br ?_ ?_ <;> first | exact trivial | intro hq) | refine L.call (h := by intro W hW; first | apply hA W hW.base (hW.old hg) | apply hB W hW.base) (k := ?_)))
      all_goals (refine ret ?_; try exact rfl)
  · refine enter Tryz.func5 rfl Tryz.ntmps5 rfl (by assumption) ?_
    (repeat' (first | intro (b : Nat) | refine go ?_ | (refine br ?_ ?_ <;> first | exact trivial | intro hq)))
    all_goals (refine ret ?_; try exact rfl)

theorem law_FnStampText (a : Option Addr) (n c : Nat) (w : World) (hc : n ≤ 1048576 → CodeAt w (.slice a n c)) (hb : D.Base w) (hg : Hdl w) :
    Calls Tryz.prog 4 #[.slice a n c] w fun e w' => e = .returned (.bool true) ∧ Below w.heap.size w w' := by
  by_cases hn : n ≤ 1048576
  · refine enter Tryz.func4 rfl Tryz.ntmps4 rfl (by assumption) ?_
    (repeat' (first | intro (b : Nat) | refine go ?_ | (refine br ?_ ?_ <;> first | exact trivial | intro hq)))
    (refine L.vcall (h := by intro W hW; exact d_StampTextA _ W ((hc hn).keep hW.low) hW.base) (k := ?_); intro v hR)
    obtain ⟨y, m, d, h, i, s, k, o, rfl⟩ := hR
    have hA := a_StampText y m d h i s k o
    have hB := b_StampText y m d h i s k o
    cases hv : sval y m d h i s k o with
    | false =>
      rw [show stT y m d h i s k o = ⟨#[]⟩ from if_neg (by simp [hv])] at hA hB
      (repeat' (first | intro (b : Nat) | refine go ?_ | (refine br ?_ ?_ <;> first | exact trivial | intro hq) | refine L.call (h := by intro W hW; first | apply hA W hW.base | apply hB W hW.base) (k := ?_)))
      all_goals (refine ret ?_; try exact rfl)
      all_goals simp [tupleOf]
    | true =>
      rw [show stT y m d h i s k o = strOfNums (stL y m d h i s k o) from if_pos hv] at hA hB
      have hz := stL_size (y := y) (m := m) (d := d) (h := h) (i := i) (s := s) (k := k) (o := o)
      have hF := a_StampFrom (strOfNums (stL y m d h i s k o)) (by omega)
      have hT := a_StampTidy (strOfNums (stL y m d h i s k o)) (by omega)
      have ht := st_text hv
      have et : tdV (strOfNums (stL y m d h i s k o)) = .tuple #[.string (strOfNums (stL y m d h i s k o)), .bool true] := by
        unfold tdV
        rw [ht]
        rfl
      rw [ht] at hF
      rw [et] at hT
      simp only [srV] at hF
      clear ht et
      have hne : ¬ strOfNums (stL y m d h i s k o) = ⟨#[]⟩ := fun h => by
        rw [h] at hz
        exact absurd hz.1 (by decide)
      generalize strOfNums (stL y m d h i s k o) = t at *
      (repeat' (first | intro (b : Nat) | refine go ?_ | (refine br ?_ ?_ <;> first | exact trivial | intro hq) | refine L.call (h := by intro W hW; first | apply hA W hW.base | apply hB W hW.base | apply hF W hW.base (hW.old hg) | apply hT W hW.base (hW.old hg)) (k := ?_)))
      all_goals (try (exfalso; contradiction))
      all_goals (refine ret ?_; try exact rfl)
      all_goals simp [tupleOf]
  · refine enter Tryz.func4 rfl Tryz.ntmps4 rfl (by assumption) ?_
    (repeat' (first | intro (b : Nat) | refine go ?_ | (refine br ?_ ?_ <;> first | exact trivial | intro hq)))
    (refine ret ?_; try exact rfl)

theorem law_FnStampFrom (a : Option Addr) (n c : Nat) (w : World) (hc : n ≤ 1048576 → CodeAt w (.slice a n c)) (hb : D.Base w) (hg : Hdl w) :
    Calls Tryz.prog 6 #[.slice a n c] w fun e w' => e = .returned (.bool true) ∧ Below w.heap.size w w' := by
  by_cases hn : n ≤ 1048576
  · refine enter Tryz.func6 rfl Tryz.ntmps6 rfl (by assumption) ?_
    (repeat' (first | intro (b : Nat) | refine go ?_ | (refine br ?_ ?_ <;> first | exact trivial | intro hq)))
    (refine L.vcall (h := by intro W hW; exact d_StampFromS _ W ((hc hn).keep hW.low) hW.base) (k := ?_); intro v hR)
    obtain ⟨t, rfl, hz⟩ := hR
    have hA := a_StampFrom t (by omega)
    have hB := b_StampFrom t (by omega)
    have hT := a_StampTidy t (by omega)
    have hok : (stR t (cutP t)).ok = true → sval (stR t (cutP t)).y (stR t (cutP t)).m (stR t (cutP t)).d (stR t (cutP t)).h (stR t (cutP t)).i (stR t (cutP t)).s (stR t (cutP t)).k (stR t (cutP t)).o = true := fun h => (stR_ok h).2
    unfold tdV at hT
    generalize stR t (cutP t) = S at *
    obtain ⟨y, m, d, h, i, s, k, o, ok⟩ := S
    simp only [srV] at hA hB
    cases ok with
    | false =>
      clear hT
      (repeat' (first | intro (b : Nat) | refine go ?_ | (refine br ?_ ?_ <;> first | exact trivial | intro hq) | refine L.call (h := by intro W hW; first | apply hA W hW.base (hW.old hg) | apply hB W hW.base) (k := ?_)))
      all_goals (refine ret ?_; try exact rfl)
      all_goals simp [tupleOf]
    | true =>
      have hv := hok rfl
      simp only [if_true] at hT
      have hX := a_StampText y m d h i s k o
      rw [show stT y m d h i s k o = strOfNums (stL y m d h i s k o) from if_pos hv] at hX
      generalize strOfNums (stL y m d h i s k o) = u at *
      (repeat' (first | intro (b : Nat) | refine go ?_ | (refine br ?_ ?_ <;> first | exact trivial | intro hq) | refine L.call (h := by intro W hW; first | apply hA W hW.base (hW.old hg) | apply hB W hW.base | apply hT W hW.base (hW.old hg) | apply hX W hW.base | apply rvb hv (a_StampValid _ _ _ _ _ _ _ _ W hW.base)) (k := ?_)))
      all_goals (refine ret ?_; try exact rfl)
      all_goals simp [tupleOf]
  · refine enter Tryz.func6 rfl Tryz.ntmps6 rfl (by assumption) ?_
    (repeat' (first | intro (b : Nat) | refine go ?_ | (refine br ?_ ?_ <;> first | exact trivial | intro hq)))
    (refine ret ?_; try exact rfl)

theorem law_FnTidy (a : Option Addr) (n c : Nat) (w : World) (hc : n ≤ 1048576 → CodeAt w (.slice a n c)) (hb : D.Base w) (hg : Hdl w) :
    Calls Tryz.prog 7 #[.slice a n c] w fun e w' => e = .returned (.bool true) ∧ Below w.heap.size w w' := by
  by_cases hn : n ≤ 1048576
  · refine enter Tryz.func7 rfl Tryz.ntmps7 rfl (by assumption) ?_
    (repeat' (first | intro (b : Nat) | refine go ?_ | (refine br ?_ ?_ <;> first | exact trivial | intro hq)))
    (refine L.vcall (h := by intro W hW; exact d_StampTidyS _ W ((hc hn).keep hW.low) hW.base) (k := ?_); intro v hR)
    obtain ⟨t, rfl, hz⟩ := hR
    have hA := a_StampTidy t (by omega)
    have hB := b_StampTidy t (by omega)
    have hF := a_StampFrom t (by omega)
    have hok : (stR t (cutP t)).ok = true → sval (stR t (cutP t)).y (stR t (cutP t)).m (stR t (cutP t)).d (stR t (cutP t)).h (stR t (cutP t)).i (stR t (cutP t)).s (stR t (cutP t)).k (stR t (cutP t)).o = true := fun h => (stR_ok h).2
    unfold tdV at hA hB
    generalize stR t (cutP t) = S at *
    obtain ⟨y, m, d, h, i, s, k, o, ok⟩ := S
    simp only [srV] at hF
    cases ok with
    | false =>
      simp only [Bool.false_eq_true, if_false] at hA hB
      (repeat' (first | intro (b : Nat) | refine go ?_ | (refine br ?_ ?_ <;> first | exact trivial | intro hq) | refine L.call (h := by intro W hW; first | apply hA W hW.base (hW.old hg) | apply hB W hW.base) (k := ?_)))
      all_goals (refine ret ?_; try exact rfl)
      all_goals simp [tupleOf]
    | true =>
      have hv := hok rfl
      simp only [if_true] at hA hB
      have hz2 := stL_size (y := y) (m := m) (d := d) (h := h) (i := i) (s := s) (k := k) (o := o)
      have hF2 := a_StampFrom (strOfNums (stL y m d h i s k o)) (by omega)
      have hT2 := a_StampTidy (strOfNums (stL y m d h i s k o)) (by omega)
      have ht := st_text hv
      have et : tdV (strOfNums (stL y m d h i s k o)) = .tuple #[.string (strOfNums (stL y m d h i s k o)), .bool true] := by
        unfold tdV
        rw [ht]
        rfl
      rw [ht] at hF2
      rw [et] at hT2
      simp only [srV] at hF2
      clear ht et
      generalize strOfNums (stL y m d h i s k o) = u at *
      (repeat' (first | intro (b : Nat) | refine go ?_ | (refine br ?_ ?_ <;> first | exact trivial | intro hq) | refine L.call (h := by intro W hW; first | apply hA W hW.base (hW.old hg) | apply hB W hW.base | apply hF W hW.base (hW.old hg) | apply hT2 W hW.base (hW.old hg) | apply hF2 W hW.base (hW.old hg)) (k := ?_)))
      all_goals (try (exfalso; contradiction))
      all_goals (refine ret ?_; try exact rfl)
      all_goals simp [tupleOf]
  · refine enter Tryz.func7 rfl Tryz.ntmps7 rfl (by assumption) ?_
    (repeat' (first | intro (b : Nat) | refine go ?_ | (refine br ?_ ?_ <;> first | exact trivial | intro hq)))
    (refine ret ?_; try exact rfl)

end D
end Go.Proofs.YtdafjaimljhcaaaGreatDoor
