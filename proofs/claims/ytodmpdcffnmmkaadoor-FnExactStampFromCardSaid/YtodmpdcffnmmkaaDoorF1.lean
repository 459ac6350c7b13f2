/- Walks: texts of times, offsets and stamps of the program. -/
import Derived.Test.YtodmpdcffnmmkaaDoorB5
import Derived.Test.YtodmpdcffnmmkaaDoorA4
import Derived.Test.YtodmpdcffnmmkaaDoorQS
namespace Go.Proofs.YtodmpdcffnmmkaaDoor
set_option linter.unusedVariables false
set_option linter.unusedSimpArgs false
set_option maxRecDepth 100000
set_option maxHeartbeats 1000000
namespace D
open Go.RowKit
open Go.PlainAid (bt bt_nonneg bt_le bt_end)
attribute [local irreducible] Calls

theorem a_signOf (o : Int) (w : World) (hb : D.Base w) : Calls Tryd.prog 49 #[.int .i64 o] w fun e w' => e = .returned (.int .u64 (if o = 0 then 1 else if o < 0 then 2 else 0)) ∧ Below w.heap.size w w' := by
  by_cases h0 : o = 0
  · rw [if_pos h0]
    refine enter Tryd.func49 rfl Tryd.ntmps49 rfl (by assumption) ?_
    (repeat' (first | intro (b : Nat) | refine go ?_ | (refine br ?_ ?_ <;> first | exact trivial | intro hq)))
    all_goals (refine ret ?_; try exact rfl)
  · rw [if_neg h0]
    by_cases hn : o < 0
    · rw [if_pos hn]
      refine enter Tryd.func49 rfl Tryd.ntmps49 rfl (by assumption) ?_
      (repeat' (first | intro (b : Nat) | refine go ?_ | (refine br ?_ ?_ <;> first | exact trivial | intro hq)))
      all_goals (refine ret ?_; try exact rfl)
    · rw [if_neg hn]
      refine enter Tryd.func49 rfl Tryd.ntmps49 rfl (by assumption) ?_
      (repeat' (first | intro (b : Nat) | refine go ?_ | (refine br ?_ ?_ <;> first | exact trivial | intro hq)))
      all_goals (refine ret ?_; try exact rfl)

theorem a_OffsetText (o : Int) (w : World) (hb : D.Base w) : Calls Tryd.prog 28 #[.int .i64 o] w fun e w' => e = .returned (.string (ofT o)) ∧ Below w.heap.size w w' := by
  cases hr : inR o (-1439) 1439 with
  | false =>
    have e : ofT o = ⟨#[]⟩ := if_neg (by simp [hr])
    rw [e]
    refine enter Tryd.func28 rfl Tryd.ntmps28 rfl (by assumption) ?_
    (repeat' (first | intro (b : Nat) | refine go ?_ | (refine br ?_ ?_ <;> first | exact trivial | intro hq) | refine L.call (h := by intro W hW; apply rvb hr (a_offsetValid _ W hW.base)) (k := ?_)))
    all_goals (refine ret ?_; try exact rfl)
  | true =>
    have e : ofT o = strOfNums (ofL o) := if_pos hr
    have hd := inR_true.1 hr
    rw [e]
    have hS := a_signOf o
    by_cases h0 : o = 0
    · rw [if_pos h0] at hS
      subst h0
      refine enter Tryd.func28 rfl Tryd.ntmps28 rfl (by assumption) ?_
      (repeat' (first | intro (b : Nat) | refine go ?_ | (refine br ?_ ?_ <;> first | exact trivial | intro hq) | refine L.call (h := by intro W hW; first | apply rvb hr (a_offsetValid _ W hW.base) | apply hS W hW.base) (k := ?_)))
      all_goals (refine ret ?_; try exact rfl)
    · rw [if_neg h0] at hS
      by_cases hn : o < 0
      · rw [if_pos hn] at hS
        have e2 : ofL o = 45 :: (digL (-o / 60) 2 ++ [58] ++ digL (-o % 60) 2) := by
          unfold ofL ofP
          rw [if_neg h0, if_pos hn, if_pos hn]
        have l1 := digL_length (-o / 60) 2
        have l2 := digL_length (-o % 60) 2
        rw [e2]
        refine enter Tryd.func28 rfl Tryd.ntmps28 rfl (by assumption) ?_
        (repeat' (first | intro (b : Nat) | refine go ?_ | (refine br ?_ ?_ <;> first | exact trivial | intro hq) | refine L.call (h := by intro W hW; first | apply rvb hr (a_offsetValid _ W hW.base) | apply hS W hW.base | apply a_digits2 _ (by omega) W hW.base) (k := ?_)))
        all_goals (refine ret ?_)
        all_goals (refine congrArg Value.string ?_; simp only [str58, str45, strOfNums_append]; rfl)
      · rw [if_neg hn] at hS
        have e2 : ofL o = 43 :: (digL (o / 60) 2 ++ [58] ++ digL (o % 60) 2) := by
          unfold ofL ofP
          rw [if_neg h0, if_neg hn, if_neg hn]
        have l1 := digL_length (o / 60) 2
        have l2 := digL_length (o % 60) 2
        rw [e2]
        refine enter Tryd.func28 rfl Tryd.ntmps28 rfl (by assumption) ?_
        (repeat' (first | intro (b : Nat) | refine go ?_ | (refine br ?_ ?_ <;> first | exact trivial | intro hq) | refine L.call (h := by intro W hW; first | apply rvb hr (a_offsetValid _ W hW.base) | apply hS W hW.base | apply a_digits2 _ (by omega) W hW.base) (k := ?_)))
        all_goals (refine ret ?_)
        all_goals (refine congrArg Value.string ?_; simp only [str58, str43, strOfNums_append]; rfl)

end D
end Go.Proofs.YtodmpdcffnmmkaaDoor
