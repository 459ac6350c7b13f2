/- Walks of the reference: texts of times, offsets and stamps. -/
import Derived.Test.YtdafjaimljhcaaaGreatDoorC3
import Derived.Test.YtdafjaimljhcaaaGreatDoorS4
import Derived.Test.YtdafjaimljhcaaaGreatDoorQS
namespace Go.Proofs.YtdafjaimljhcaaaGreatDoor
set_option linter.unusedVariables false
set_option linter.unusedSimpArgs false
set_option maxRecDepth 100000
set_option maxHeartbeats 1000000
namespace D
open Go.RowKit
open Go.PlainAid (bt bt_nonneg bt_le bt_end)
attribute [local irreducible] Calls

theorem b_Fraction (k : Int) (h : 0 ≤ k ∧ k ≤ 999) (w : World) (hb : D.Base w) : Calls Tryz.prog 111 #[.int .i64 k] w fun e w' => e = .returned (.string (strOfNums (frL k))) ∧ Below w.heap.size w w' := by
  have l1 := digL_length (k / 100) 1
  have l2 := digL_length (k / 10) 2
  have l3 := digL_length k 3
  by_cases h0 : k = 0
  · have e : frL k = [] := if_pos h0
    rw [e]
    refine enter Tryz.func111 rfl Tryz.ntmps111 rfl (by assumption) ?_
    (repeat' (first | intro (b : Nat) | refine go ?_ | (refine br ?_ ?_ <;> first | exact trivial | intro hq) | refine L.call (h := by intro W hW; first | apply b_Put1 _ (by omega) W hW.base | apply b_Put2 _ (by omega) W hW.base | apply b_Put3 _ (by omega) W hW.base) (k := ?_)))
    all_goals (refine ret ?_; try exact rfl)
  · by_cases h1 : k % 100 = 0
    · have e : frL k = 46 :: digL (k / 100) 1 := (if_neg h0).trans (if_pos h1)
      rw [e]
      refine enter Tryz.func111 rfl Tryz.ntmps111 rfl (by assumption) ?_
      (repeat' (first | intro (b : Nat) | refine go ?_ | (refine br ?_ ?_ <;> first | exact trivial | intro hq) | refine L.call (h := by intro W hW; first | apply b_Put1 _ (by omega) W hW.base | apply b_Put2 _ (by omega) W hW.base | apply b_Put3 _ (by omega) W hW.base) (k := ?_)))
      all_goals (refine ret ?_)
      all_goals (refine congrArg Value.string ?_; rw [str46, strOfNums_append]; rfl)
    · by_cases h2 : k % 10 = 0
      · have e : frL k = 46 :: digL (k / 10) 2 := (if_neg h0).trans ((if_neg h1).trans (if_pos h2))
        rw [e]
        refine enter Tryz.func111 rfl Tryz.ntmps111 rfl (by assumption) ?_
        (repeat' (first | intro (b : Nat) | refine go ?_ | (refine br ?_ ?_ <;> first | exact trivial | intro hq) | refine L.call (h := by intro W hW; first | apply b_Put1 _ (by omega) W hW.base | apply b_Put2 _ (by omega) W hW.base | apply b_Put3 _ (by omega) W hW.base) (k := ?_)))
        all_goals (refine ret ?_)
        all_goals (refine congrArg Value.string ?_; rw [str46, strOfNums_append]; rfl)
      · have e : frL k = 46 :: digL k 3 := (if_neg h0).trans ((if_neg h1).trans (if_neg h2))
        rw [e]
        refine enter Tryz.func111 rfl Tryz.ntmps111 rfl (by assumption) ?_
        (repeat' (first | intro (b : Nat) | refine go ?_ | (refine br ?_ ?_ <;> first | exact trivial | intro hq) | refine L.call (h := by intro W hW; first | apply b_Put1 _ (by omega) W hW.base | apply b_Put2 _ (by omega) W hW.base | apply b_Put3 _ (by omega) W hW.base) (k := ?_)))
        all_goals (refine ret ?_)
        all_goals (refine congrArg Value.string ?_; rw [str46, strOfNums_append]; rfl)

theorem b_l5Text (h i s k : Int) (hv : cval h i s k = true) (w : World) (hb : D.Base w) : Calls Tryz.prog 79 #[.agg #[.int .i64 h, .int .i64 i, .int .i64 s, .int .i64 k], .bool true] w fun e w' => e = .returned (.string (strOfNums (clL h i s k))) ∧ Below w.heap.size w w' := by
  have hd := cval_bd hv
  have l1 := digL_length h 2
  have l2 := digL_length i 2
  have l3 := digL_length s 2
  have l4 := frL_len k
  refine enter Tryz.func79 rfl Tryz.ntmps79 rfl (by assumption) ?_
  (repeat' (first | intro (b : Nat) | refine go ?_ | (refine br ?_ ?_ <;> first | exact trivial | intro hq) | refine L.call (h := by intro W hW; first | apply b_Put2 _ (by omega) W hW.base | apply b_Fraction _ (by omega) W hW.base) (k := ?_) | refine gg ?_ | refine G.call (h := by intro W hW; first | apply b_Put2 _ (by omega) W hW.base | apply b_Fraction _ (by omega) W hW.base) (k := ?_) | (apply C.draww (id := 4) 20 [none, some _, some _, none, none, none, some _, some _, none, none, none, none, some _, some _, none, none, some _, some _, none, none])))
  all_goals (refine ret ?_)
  all_goals (refine congrArg Value.string ?_; simp only [str58, strOfNums_append]; rfl)

theorem b_OffsetText (o : Int) (w : World) (hb : D.Base w) : Calls Tryz.prog 80 #[.int .i64 o] w fun e w' => e = .returned (.string (ofT o)) ∧ Below w.heap.size w w' := by
  cases hr : inR o (-1439) 1439 with
  | false =>
    have e : ofT o = ⟨#[]⟩ := if_neg (by simp [hr])
    rw [e]
    refine enter Tryz.func80 rfl Tryz.ntmps80 rfl (by assumption) ?_
    (repeat' (first | intro (b : Nat) | refine go ?_ | (refine br ?_ ?_ <;> first | exact trivial | intro hq) | refine L.call (h := by intro W hW; apply rvb hr (b_in _ _ _ W hW.base)) (k := ?_)))
    all_goals (refine ret ?_; try exact rfl)
  | true =>
    have e : ofT o = strOfNums (ofL o) := if_pos hr
    have hd := inR_true.1 hr
    rw [e]
    by_cases h0 : o = 0
    · subst h0
      refine enter Tryz.func80 rfl Tryz.ntmps80 rfl (by assumption) ?_
      (repeat' (first | intro (b : Nat) | refine go ?_ | (refine br ?_ ?_ <;> first | exact trivial | intro hq) | refine L.call (h := by intro W hW; apply rvb hr (b_in _ _ _ W hW.base)) (k := ?_)))
      all_goals (refine ret ?_; try exact rfl)
    · by_cases hn : o < 0
      · have e2 : ofL o = 45 :: (digL (-o / 60) 2 ++ [58] ++ digL (-o % 60) 2) := by
          unfold ofL ofP
          rw [if_neg h0, if_pos hn, if_pos hn]
        have l1 := digL_length (-o / 60) 2
        have l2 := digL_length (-o % 60) 2
        rw [e2]
        refine enter Tryz.func80 rfl Tryz.ntmps80 rfl (by assumption) ?_
        (repeat' (first | intro (b : Nat) | refine go ?_ | (refine br ?_ ?_ <;> first | exact trivial | intro hq) | refine L.call (h := by intro W hW; first | apply rvb hr (b_in _ _ _ W hW.base) | apply b_Put2 _ (by omega) W hW.base) (k := ?_)))
        all_goals (refine ret ?_)
        all_goals (refine congrArg Value.string ?_; simp only [str58, str45, strOfNums_append]; rfl)
      · have e2 : ofL o = 43 :: (digL (o / 60) 2 ++ [58] ++ digL (o % 60) 2) := by
          unfold ofL ofP
          rw [if_neg h0, if_neg hn, if_neg hn]
        have l1 := digL_length (o / 60) 2
        have l2 := digL_length (o % 60) 2
        rw [e2]
        refine enter Tryz.func80 rfl Tryz.ntmps80 rfl (by assumption) ?_
        (repeat' (first | intro (b : Nat) | refine go ?_ | (refine br ?_ ?_ <;> first | exact trivial | intro hq) | refine L.call (h := by intro W hW; first | apply rvb hr (b_in _ _ _ W hW.base) | apply b_Put2 _ (by omega) W hW.base) (k := ?_)))
        all_goals (refine ret ?_)
        all_goals (refine congrArg Value.string ?_; simp only [str58, str43, strOfNums_append]; rfl)

end D
end Go.Proofs.YtdafjaimljhcaaaGreatDoor
