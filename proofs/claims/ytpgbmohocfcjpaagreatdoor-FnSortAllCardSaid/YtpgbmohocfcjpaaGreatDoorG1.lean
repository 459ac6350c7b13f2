/- Walks of the reference: texts of times, offsets and stamps. -/
import Derived.Test.YtpgbmohocfcjpaaGreatDoorC2
import Derived.Test.YtpgbmohocfcjpaaGreatDoorS3
import Derived.Test.YtpgbmohocfcjpaaGreatDoorQS
namespace Go.Proofs.YtpgbmohocfcjpaaGreatDoor
set_option linter.unusedVariables false
set_option linter.unusedSimpArgs false
set_option maxRecDepth 100000
set_option maxHeartbeats 1000000
namespace D
open Go.RowKit
open Go.PlainAid (bt bt_nonneg bt_le bt_end)
attribute [local irreducible] Calls

theorem b_Fraction (k : Int) (h : 0 ≤ k ∧ k ≤ 999) (w : World) (hb : D.Base w) : Calls Tryz.prog 159 #[.int .i64 k] w fun e w' => e = .returned (.string (strOfNums (frL k))) ∧ Below w.heap.size w w' := by
  have l1 := digL_length (k / 100) 1
  have l2 := digL_length (k / 10) 2
  have l3 := digL_length k 3
  by_cases h0 : k = 0
  · have e : frL k = [] := if_pos h0
    rw [e]
    refine enter Tryz.func159 rfl Tryz.ntmps159 rfl (by assumption) ?_
    (repeat' (first | intro (b : Nat) | refine go ?_ | (refine br ?_ ?_ <;> first | exact trivial | intro hq) | refine L.call (h := by intro W hW; first | apply b_Put1 _ (by omega) W hW.base | apply b_Put2 _ (by omega) W hW.base | apply b_Put3 _ (by omega) W hW.base) (k := ?_)))
    all_goals (refine ret ?_; try exact rfl)
  · by_cases h1 : k % 100 = 0
    · have e : frL k = 46 :: digL (k / 100) 1 := (if_neg h0).trans (if_pos h1)
      rw [e]
      refine enter Tryz.func159 rfl Tryz.ntmps159 rfl (by assumption) ?_
      (repeat' (first | intro (b : Nat) | refine go ?_ | (refine br ?_ ?_ <;> first | exact trivial | intro hq) | refine L.call (h := by intro W hW; first | apply b_Put1 _ (by omega) W hW.base | apply b_Put2 _ (by omega) W hW.base | apply b_Put3 _ (by omega) W hW.base) (k := ?_)))
      all_goals (refine ret ?_)
      all_goals (refine congrArg Value.string ?_; rw [str46, strOfNums_append]; rfl)
    · by_cases h2 : k % 10 = 0
      · have e : frL k = 46 :: digL (k / 10) 2 := (if_neg h0).trans ((if_neg h1).trans (if_pos h2))
        rw [e]
        refine enter Tryz.func159 rfl Tryz.ntmps159 rfl (by assumption) ?_
        (repeat' (first | intro (b : Nat) | refine go ?_ | (refine br ?_ ?_ <;> first | exact trivial | intro hq) | refine L.call (h := by intro W hW; first | apply b_Put1 _ (by omega) W hW.base | apply b_Put2 _ (by omega) W hW.base | apply b_Put3 _ (by omega) W hW.base) (k := ?_)))
        all_goals (refine ret ?_)
        all_goals (refine congrArg Value.string ?_; rw [str46, strOfNums_append]; rfl)
      · have e : frL k = 46 :: digL k 3 := (if_neg h0).trans ((if_neg h1).trans (if_neg h2))
        rw [e]
        refine enter Tryz.func159 rfl Tryz.ntmps159 rfl (by assumption) ?_
        (repeat' (first | intro (b : Nat) | refine go ?_ | (refine br ?_ ?_ <;> first | exact trivial | intro hq) | refine L.call (h := by intro W hW; first | apply b_Put1 _ (by omega) W hW.base | apply b_Put2 _ (by omega) W hW.base | apply b_Put3 _ (by omega) W hW.base) (k := ?_)))
        all_goals (refine ret ?_)
        all_goals (refine congrArg Value.string ?_; rw [str46, strOfNums_append]; rfl)

theorem b_l5Text (h i s k : Int) (hv : cval h i s k = true) (w : World) (hb : D.Base w) : Calls Tryz.prog 107 #[.agg #[.int .i64 h, .int .i64 i, .int .i64 s, .int .i64 k], .bool true] w fun e w' => e = .returned (.string (strOfNums (clL h i s k))) ∧ Below w.heap.size w w' := by
  have hd := cval_bd hv
  have l1 := digL_length h 2
  have l2 := digL_length i 2
  have l3 := digL_length s 2
  have l4 := frL_len k
  refine enter Tryz.func107 rfl Tryz.ntmps107 rfl (by assumption) ?_
  (repeat' (first | intro (b : Nat) | refine go ?_ | (refine br ?_ ?_ <;> first | exact trivial | intro hq) | refine L.call (h := by intro W hW; first | apply b_Put2 _ (by omega) W hW.base | apply b_Fraction _ (by omega) W hW.base) (k := ?_) | refine gg ?_ | refine G.call (h := by intro W hW; first | apply b_Put2 _ (by omega) W hW.base | apply b_Fraction _ (by omega) W hW.base) (k := ?_) | (apply C.draww (id := 4) 20 [none, some _, some _, none, none, none, some _, some _, none, none, none, none, some _, some _, none, none, some _, some _, none, none])))
  all_goals (refine ret ?_)
  all_goals (refine congrArg Value.string ?_; simp only [str58, strOfNums_append]; rfl)

theorem b_OffsetText (o : Int) (w : World) (hb : D.Base w) : Calls Tryz.prog 108 #[.int .i64 o] w fun e w' => e = .returned (.string (ofT o)) ∧ Below w.heap.size w w' := by
  cases hr : inR o (-1439) 1439 with
  | false =>
    have e : ofT o = ⟨#[]⟩ := if_neg (by simp [hr])
    rw [e]
    refine enter Tryz.func108 rfl Tryz.ntmps108 rfl (by assumption) ?_
    (repeat' (first | intro (b : Nat) | refine go ?_ | (refine br ?_ ?_ <;> first | exact trivial | intro hq) | refine L.call (h := by intro W hW; apply rvb hr (b_in _ _ _ W hW.base)) (k := ?_)))
    all_goals (refine ret ?_; try exact rfl)
  | true =>
    have e : ofT o = strOfNums (ofL o) := if_pos hr
    have hd := inR_true.1 hr
    rw [e]
    by_cases h0 : o = 0
    · subst h0
      refine enter Tryz.func108 rfl Tryz.ntmps108 rfl (by assumption) ?_
      (repeat' (first | intro (b : Nat) | refine go ?_ | (refine br ?_ ?_ <;> first | exact trivial | intro hq) | refine L.call (h := by intro W hW; apply rvb hr (b_in _ _ _ W hW.base)) (k := ?_)))
      all_goals (refine ret ?_; try exact rfl)
    · by_cases hn : o < 0
      · have e2 : ofL o = 45 :: (digL (-o / 60) 2 ++ [58] ++ digL (-o % 60) 2) := by
          unfold ofL ofP
          rw [if_neg h0, if_pos hn, if_pos hn]
        have l1 := digL_length (-o / 60) 2
        have l2 := digL_length (-o % 60) 2
        rw [e2]
        refine enter Tryz.func108 rfl Tryz.ntmps108 rfl (by assumption) ?_
        (repeat' (first | intro (b : Nat) | refine go ?_ | (refine br ?_ ?_ <;> first | exact trivial | intro hq) | refine L.call (h := by intro W hW; first | apply rvb hr (b_in _ _ _ W hW.base) | apply b_Put2 _ (by omega) W hW.base) (k := ?_)))
        all_goals (refine ret ?_)
        all_goals (refine congrArg Value.string ?_; simp only [str58, str45, strOfNums_append]; rfl)
      · have e2 : ofL o = 43 :: (digL (o / 60) 2 ++ [58] ++ digL (o % 60) 2) := by
          unfold ofL ofP
          rw [if_neg h0, if_neg hn, if_neg hn]
        have l1 := digL_length (o / 60) 2
        have l2 := digL_length (o % 60) 2
        rw [e2]
        refine enter Tryz.func108 rfl Tryz.ntmps108 rfl (by assumption) ?_
        (repeat' (first | intro (b : Nat) | refine go ?_ | (refine br ?_ ?_ <;> first | exact trivial | intro hq) | refine L.call (h := by intro W hW; first | apply rvb hr (b_in _ _ _ W hW.base) | apply b_Put2 _ (by omega) W hW.base) (k := ?_)))
        all_goals (refine ret ?_)
        all_goals (refine congrArg Value.string ?_; simp only [str58, str43, strOfNums_append]; rfl)

end D
end Go.Proofs.YtpgbmohocfcjpaaGreatDoor

namespace Go.Proofs.YtpgbmohocfcjpaaGreatDoor
set_option linter.unusedVariables false
set_option linter.unusedSimpArgs false
set_option maxRecDepth 100000
set_option maxHeartbeats 1000000
namespace D
open Go.RowKit
open Go.PlainAid (bt bt_nonneg bt_le bt_end)
attribute [local irreducible] Calls

/-- The thousandths that the reference reads. -/
def mlV (s : ByteArray) (q : Nat) : Int := if s.size = q then 0 else if isB s q 46 = true ∧ q + 2 ≤ s.size ∧ s.size ≤ q + 4 then numV s (q + 1) (s.size - q - 1) * p10 (3 - (s.size - q - 1)) else 0

theorem mlV_ok {s : ByteArray} {q : Nat} (h : frOk s q = true) : mlV s q = frK s q := by
  unfold mlV frK
  by_cases h0 : s.size = q
  · rw [if_pos h0, if_pos h0]
  · simp only [frOk, Bool.or_eq_true, Bool.and_eq_true, decide_eq_true_eq] at h
    rcases h with h | ⟨⟨h1, h2⟩, h3⟩
    · exact (h0 h).elim
    · rw [if_neg h0, if_neg h0, if_pos ⟨h1, h2⟩, numV_eq h3]

theorem b_Milli (s : ByteArray) (q : Nat) (hs : s.size ≤ 1000000000000) (hq : q ≤ 100) (w : World) (hb : D.Base w) : Calls Tryz.prog 186 #[.string s, .int .i64 (q : Int)] w fun e w' => e = .returned (.tuple #[.int .i64 (mlV s q), .bool (frOk s q)]) ∧ Below w.heap.size w w' := by
  by_cases h0 : s.size = q
  · have e1 : mlV s q = 0 := if_pos h0
    have e2 : frOk s q = true := by simp [frOk, h0]
    rw [e1, e2]
    refine enter Tryz.func186 rfl Tryz.ntmps186 rfl (by assumption) ?_
    (repeat' (first | intro (b : Nat) | refine go ?_ | (refine br ?_ ?_ <;> first | exact trivial | intro hq)))
    all_goals (refine ret ?_; try exact rfl)
  · by_cases hc : isB s q 46 = true ∧ q + 2 ≤ s.size ∧ s.size ≤ q + 4
    · have e1 : mlV s q = numV s (q + 1) (s.size - q - 1) * p10 (3 - (s.size - q - 1)) := (if_neg h0).trans (if_pos hc)
      have e2 : frOk s q = allD s (q + 1) (s.size - q - 1) := by simp [frOk, h0, hc]
      have hB := isB_iff.1 hc.1
      have e3 : ((q : Int)).toNat = q := by omega
      rw [e1, e2]
      have hB2 : bt s ((q : Int)).toNat = 46 := by rw [e3]; exact hB.2
      have hr : inR ((s.size : Int) - (q : Int) - 1) 1 3 = true := inR_true.2 (by omega)
      rcases (by omega : s.size - q - 1 = 1 ∨ s.size - q - 1 = 2 ∨ s.size - q - 1 = 3) with hm | hm | hm
      · rw [hm]
        have hd : ∀ W, D.Base W → Calls Tryz.prog 89 #[.string s, .int .i64 ((q : Int) + 1), .int .i64 ((s.size : Int) - (q : Int) - 1)] W fun e w' => e = .returned (.tuple #[.int .i64 (numV s (q + 1) 1), .bool (allD s (q + 1) 1)]) ∧ Below W.heap.size W w' := fun W hW => b_dg s _ (q + 1) 1 _ (by omega) (by omega) hs (by omega) (by omega) W hW
        have hbd := numV_bd s (q + 1) (m := 1) (by omega)
        have hp10 : p10 1 = 10 := rfl
        have hpp : p10 (3 - 1) = 100 := rfl
        have hp : ∀ W, D.Base W → Calls Tryz.prog 188 #[.int .i64 (3 - ((s.size : Int) - (q : Int) - 1))] W fun e w' => e = .returned (.int .i64 100) ∧ Below W.heap.size W w' := fun W hW => b_Pow _ 2 (by omega) (by omega) _ rfl W hW
        rw [hp10] at hbd
        rw [hpp]
        generalize numV s (q + 1) 1 = nn at *
        refine enter Tryz.func186 rfl Tryz.ntmps186 rfl (by assumption) ?_
        (repeat' (first | intro (b : Nat) | refine go ?_ | (refine br ?_ ?_ <;> first | exact trivial | intro hq) | refine L.call (h := by intro W hW; first | apply hd W hW.base | apply rvb hr (b_in _ _ _ W hW.base) | apply hp W hW.base) (k := ?_)))
        all_goals (refine ret ?_; try exact rfl)
      · rw [hm]
        have hd : ∀ W, D.Base W → Calls Tryz.prog 89 #[.string s, .int .i64 ((q : Int) + 1), .int .i64 ((s.size : Int) - (q : Int) - 1)] W fun e w' => e = .returned (.tuple #[.int .i64 (numV s (q + 1) 2), .bool (allD s (q + 1) 2)]) ∧ Below W.heap.size W w' := fun W hW => b_dg s _ (q + 1) 2 _ (by omega) (by omega) hs (by omega) (by omega) W hW
        have hbd := numV_bd s (q + 1) (m := 2) (by omega)
        have hp10 : p10 2 = 100 := rfl
        have hpp : p10 (3 - 2) = 10 := rfl
        have hp : ∀ W, D.Base W → Calls Tryz.prog 188 #[.int .i64 (3 - ((s.size : Int) - (q : Int) - 1))] W fun e w' => e = .returned (.int .i64 10) ∧ Below W.heap.size W w' := fun W hW => b_Pow _ 1 (by omega) (by omega) _ rfl W hW
        rw [hp10] at hbd
        rw [hpp]
        generalize numV s (q + 1) 2 = nn at *
        refine enter Tryz.func186 rfl Tryz.ntmps186 rfl (by assumption) ?_
        (repeat' (first | intro (b : Nat) | refine go ?_ | (refine br ?_ ?_ <;> first | exact trivial | intro hq) | refine L.call (h := by intro W hW; first | apply hd W hW.base | apply rvb hr (b_in _ _ _ W hW.base) | apply hp W hW.base) (k := ?_)))
        all_goals (refine ret ?_; try exact rfl)
      · rw [hm]
        have hd : ∀ W, D.Base W → Calls Tryz.prog 89 #[.string s, .int .i64 ((q : Int) + 1), .int .i64 ((s.size : Int) - (q : Int) - 1)] W fun e w' => e = .returned (.tuple #[.int .i64 (numV s (q + 1) 3), .bool (allD s (q + 1) 3)]) ∧ Below W.heap.size W w' := fun W hW => b_dg s _ (q + 1) 3 _ (by omega) (by omega) hs (by omega) (by omega) W hW
        have hbd := numV_bd s (q + 1) (m := 3) (by omega)
        have hp10 : p10 3 = 1000 := rfl
        have hpp : p10 (3 - 3) = 1 := rfl
        have hp : ∀ W, D.Base W → Calls Tryz.prog 188 #[.int .i64 (3 - ((s.size : Int) - (q : Int) - 1))] W fun e w' => e = .returned (.int .i64 1) ∧ Below W.heap.size W w' := fun W hW => b_Pow _ 0 (by omega) (by omega) _ rfl W hW
        rw [hp10] at hbd
        rw [hpp]
        generalize numV s (q + 1) 3 = nn at *
        refine enter Tryz.func186 rfl Tryz.ntmps186 rfl (by assumption) ?_
        (repeat' (first | intro (b : Nat) | refine go ?_ | (refine br ?_ ?_ <;> first | exact trivial | intro hq) | refine L.call (h := by intro W hW; first | apply hd W hW.base | apply rvb hr (b_in _ _ _ W hW.base) | apply hp W hW.base) (k := ?_)))
        all_goals (refine ret ?_; try exact rfl)
    · have e1 : mlV s q = 0 := (if_neg h0).trans (if_neg hc)
      have e2 : frOk s q = false := by
        refine bool_no fun h => ?_
        simp only [frOk, Bool.or_eq_true, Bool.and_eq_true, decide_eq_true_eq] at h
        rcases h with h | h
        · exact h0 h
        · exact hc h.1
      rw [e1, e2]
      by_cases hlt : q < s.size
      · have e3 : ((q : Int)).toNat = q := by omega
        by_cases h46 : bt s q = 46
        · have h46' : bt s ((q : Int)).toNat = 46 := by rw [e3]; exact h46
          have hr : inR ((s.size : Int) - (q : Int) - 1) 1 3 = false := inR_false.2 fun h => hc ⟨isB_iff.2 ⟨hlt, h46⟩, by omega⟩
          refine enter Tryz.func186 rfl Tryz.ntmps186 rfl (by assumption) ?_
          (repeat' (first | intro (b : Nat) | refine go ?_ | (refine br ?_ ?_ <;> first | exact trivial | intro hq) | refine L.call (h := by intro W hW; apply rvb hr (b_in _ _ _ W hW.base)) (k := ?_)))
          all_goals (refine ret ?_; try exact rfl)
        · have h46' : ¬ bt s ((q : Int)).toNat = 46 := by rw [e3]; exact h46
          refine enter Tryz.func186 rfl Tryz.ntmps186 rfl (by assumption) ?_
          (repeat' (first | intro (b : Nat) | refine go ?_ | (refine br ?_ ?_ <;> first | exact trivial | intro hq)))
          all_goals (refine ret ?_; try exact rfl)
      · refine enter Tryz.func186 rfl Tryz.ntmps186 rfl (by assumption) ?_
        (repeat' (first | intro (b : Nat) | refine go ?_ | (refine br ?_ ?_ <;> first | exact trivial | intro hq)))
        all_goals (refine ret ?_; try exact rfl)

end D
end Go.Proofs.YtpgbmohocfcjpaaGreatDoor
