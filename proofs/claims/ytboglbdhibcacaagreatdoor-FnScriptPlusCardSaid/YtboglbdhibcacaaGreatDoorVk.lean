/- Walks of the reference: texts of times, offsets and stamps. -/
import Derived.Test.YtboglbdhibcacaaGreatDoorVC2
import Derived.Test.YtboglbdhibcacaaGreatDoorVS3
import Derived.Test.YtboglbdhibcacaaGreatDoorVe
import Derived.Test.YtboglbdhibcacaaGreatDoorVA7
namespace Go.Proofs.YtboglbdhibcacaaGreatDoor
set_option linter.unusedVariables false
set_option linter.unusedSimpArgs false
set_option maxRecDepth 100000
set_option maxHeartbeats 1000000
namespace D
open Go.RowKit
open Go.PlainAid (bt bt_nonneg bt_le bt_end)
attribute [local irreducible] Calls

theorem b_Fraction (k : Int) (h : 0 ≤ k ∧ k ≤ 999) (w : World) (hb : D.Base w) : Calls Tryz.prog 148 #[.int .i64 k] w fun e w' => e = .returned (.string (strOfNums (frL k))) ∧ Below w.heap.size w w' := by
  have l1 := digL_length (k / 100) 1
  have l2 := digL_length (k / 10) 2
  have l3 := digL_length k 3
  by_cases h0 : k = 0
  · have e : frL k = [] := if_pos h0
    rw [e]
    refine enter Tryz.func148 rfl Tryz.ntmps148 rfl (by assumption) ?_
    (repeat' (first | intro (b : Nat) | refine go ?_ | (refine br ?_ ?_ <;> first | exact trivial | intro hq) | refine L.call (h := by intro W hW; first | apply b_Put1 _ (by omega) W hW.base | apply b_Put2 _ (by omega) W hW.base | apply b_Put3 _ (by omega) W hW.base) (k := ?_)))
    all_goals (refine ret ?_; try exact rfl)
  · by_cases h1 : k % 100 = 0
    · have e : frL k = 46 :: digL (k / 100) 1 := (if_neg h0).trans (if_pos h1)
      rw [e]
      refine enter Tryz.func148 rfl Tryz.ntmps148 rfl (by assumption) ?_
      (repeat' (first | intro (b : Nat) | refine go ?_ | (refine br ?_ ?_ <;> first | exact trivial | intro hq) | refine L.call (h := by intro W hW; first | apply b_Put1 _ (by omega) W hW.base | apply b_Put2 _ (by omega) W hW.base | apply b_Put3 _ (by omega) W hW.base) (k := ?_)))
      all_goals (refine ret ?_)
      all_goals (refine congrArg Value.string ?_; rw [str46, strOfNums_append]; rfl)
    · by_cases h2 : k % 10 = 0
      · have e : frL k = 46 :: digL (k / 10) 2 := (if_neg h0).trans ((if_neg h1).trans (if_pos h2))
        rw [e]
        refine enter Tryz.func148 rfl Tryz.ntmps148 rfl (by assumption) ?_
        (repeat' (first | intro (b : Nat) | refine go ?_ | (refine br ?_ ?_ <;> first | exact trivial | intro hq) | refine L.call (h := by intro W hW; first | apply b_Put1 _ (by omega) W hW.base | apply b_Put2 _ (by omega) W hW.base | apply b_Put3 _ (by omega) W hW.base) (k := ?_)))
        all_goals (refine ret ?_)
        all_goals (refine congrArg Value.string ?_; rw [str46, strOfNums_append]; rfl)
      · have e : frL k = 46 :: digL k 3 := (if_neg h0).trans ((if_neg h1).trans (if_neg h2))
        rw [e]
        refine enter Tryz.func148 rfl Tryz.ntmps148 rfl (by assumption) ?_
        (repeat' (first | intro (b : Nat) | refine go ?_ | (refine br ?_ ?_ <;> first | exact trivial | intro hq) | refine L.call (h := by intro W hW; first | apply b_Put1 _ (by omega) W hW.base | apply b_Put2 _ (by omega) W hW.base | apply b_Put3 _ (by omega) W hW.base) (k := ?_)))
        all_goals (refine ret ?_)
        all_goals (refine congrArg Value.string ?_; rw [str46, strOfNums_append]; rfl)

theorem b_l5Text (h i s k : Int) (hv : cval h i s k = true) (w : World) (hb : D.Base w) : Calls Tryz.prog 90 #[.agg #[.int .i64 h, .int .i64 i, .int .i64 s, .int .i64 k], .bool true] w fun e w' => e = .returned (.string (strOfNums (clL h i s k))) ∧ Below w.heap.size w w' := by
  have hd := cval_bd hv
  have l1 := digL_length h 2
  have l2 := digL_length i 2
  have l3 := digL_length s 2
  have l4 := frL_len k
  refine enter Tryz.func90 rfl Tryz.ntmps90 rfl (by assumption) ?_
  (repeat' (first | intro (b : Nat) | refine go ?_ | (refine br ?_ ?_ <;> first | exact trivial | intro hq) | refine L.call (h := by intro W hW; first | apply b_Put2 _ (by omega) W hW.base | apply b_Fraction _ (by omega) W hW.base) (k := ?_) | refine gg ?_ | refine G.call (h := by intro W hW; first | apply b_Put2 _ (by omega) W hW.base | apply b_Fraction _ (by omega) W hW.base) (k := ?_) | (apply C.draww (id := 4) 20 [none, some _, some _, none, none, none, some _, some _, none, none, none, none, some _, some _, none, none, some _, some _, none, none])))
  all_goals (refine ret ?_)
  all_goals (refine congrArg Value.string ?_; simp only [str58, strOfNums_append]; rfl)

theorem b_OffsetText (o : Int) (w : World) (hb : D.Base w) : Calls Tryz.prog 91 #[.int .i64 o] w fun e w' => e = .returned (.string (ofT o)) ∧ Below w.heap.size w w' := by
  cases hr : inR o (-1439) 1439 with
  | false =>
    have e : ofT o = ⟨#[]⟩ := if_neg (by simp [hr])
    rw [e]
    refine enter Tryz.func91 rfl Tryz.ntmps91 rfl (by assumption) ?_
    (repeat' (first | intro (b : Nat) | refine go ?_ | (refine br ?_ ?_ <;> first | exact trivial | intro hq) | refine L.call (h := by intro W hW; apply rvb hr (b_in _ _ _ W hW.base)) (k := ?_)))
    all_goals (refine ret ?_; try exact rfl)
  | true =>
    have e : ofT o = strOfNums (ofL o) := if_pos hr
    have hd := inR_true.1 hr
    rw [e]
    by_cases h0 : o = 0
    · subst h0
      refine enter Tryz.func91 rfl Tryz.ntmps91 rfl (by assumption) ?_
      (repeat' (first | intro (b : Nat) | refine go ?_ | (refine br ?_ ?_ <;> first | exact trivial | intro hq) | refine L.call (h := by intro W hW; apply rvb hr (b_in _ _ _ W hW.base)) (k := ?_)))
      all_goals (refine ret ?_; try exact rfl)
    · by_cases hn : o < 0
      · have e2 : ofL o = 45 :: (digL (-o / 60) 2 ++ [58] ++ digL (-o % 60) 2) := by
          unfold ofL ofP
          rw [if_neg h0, if_pos hn, if_pos hn]
        have l1 := digL_length (-o / 60) 2
        have l2 := digL_length (-o % 60) 2
        rw [e2]
        refine enter Tryz.func91 rfl Tryz.ntmps91 rfl (by assumption) ?_
        (repeat' (first | intro (b : Nat) | refine go ?_ | (refine br ?_ ?_ <;> first | exact trivial | intro hq) | refine L.call (h := by intro W hW; first | apply rvb hr (b_in _ _ _ W hW.base) | apply b_Put2 _ (by omega) W hW.base) (k := ?_)))
        all_goals (refine ret ?_)
        all_goals (refine congrArg Value.string ?_; simp only [str58, str45, strOfNums_append]; rfl)
      · have e2 : ofL o = 43 :: (digL (o / 60) 2 ++ [58] ++ digL (o % 60) 2) := by
          unfold ofL ofP
          rw [if_neg h0, if_neg hn, if_neg hn]
        have l1 := digL_length (o / 60) 2
        have l2 := digL_length (o % 60) 2
        rw [e2]
        refine enter Tryz.func91 rfl Tryz.ntmps91 rfl (by assumption) ?_
        (repeat' (first | intro (b : Nat) | refine go ?_ | (refine br ?_ ?_ <;> first | exact trivial | intro hq) | refine L.call (h := by intro W hW; first | apply rvb hr (b_in _ _ _ W hW.base) | apply b_Put2 _ (by omega) W hW.base) (k := ?_)))
        all_goals (refine ret ?_)
        all_goals (refine congrArg Value.string ?_; simp only [str58, str43, strOfNums_append]; rfl)

end D
end Go.Proofs.YtboglbdhibcacaaGreatDoor

namespace Go.Proofs.YtboglbdhibcacaaGreatDoor
set_option linter.unusedVariables false
set_option linter.unusedSimpArgs false
set_option maxRecDepth 100000
set_option maxHeartbeats 1000000
namespace D
open Go.RowKit
open Go.PlainAid (bt bt_nonneg bt_le bt_end)
attribute [local irreducible] Calls

/-- The thousandths that the reference reads. -/
def mlV (s : ByteArray) (q : Nat) : Int := if s.size = q then 0 else if isB s q 46 = true ∧ q + 2 ≤ s.size ∧ s.size ≤ q + 4 then numV s (q + 1) (s.size - q - 1) * p10 (3 - (s.size - q - 1)) else 0

theorem mlV_ok {s : ByteArray} {q : Nat} (h : frOk s q = true) : mlV s q = frK s q := by
  unfold mlV frK
  by_cases h0 : s.size = q
  · rw [if_pos h0, if_pos h0]
  · simp only [frOk, Bool.or_eq_true, Bool.and_eq_true, decide_eq_true_eq] at h
    rcases h with h | ⟨⟨h1, h2⟩, h3⟩
    · exact (h0 h).elim
    · rw [if_neg h0, if_neg h0, if_pos ⟨h1, h2⟩, numV_eq h3]

theorem b_Milli (s : ByteArray) (q : Nat) (hs : s.size ≤ 1000000000000) (hq : q ≤ 100) (w : World) (hb : D.Base w) : Calls Tryz.prog 225 #[.string s, .int .i64 (q : Int)] w fun e w' => e = .returned (.tuple #[.int .i64 (mlV s q), .bool (frOk s q)]) ∧ Below w.heap.size w w' := by
  by_cases h0 : s.size = q
  · have e1 : mlV s q = 0 := if_pos h0
    have e2 : frOk s q = true := by simp [frOk, h0]
    rw [e1, e2]
    refine enter Tryz.func225 rfl Tryz.ntmps225 rfl (by assumption) ?_
    (repeat' (first | intro (b : Nat) | refine go ?_ | (refine br ?_ ?_ <;> first | exact trivial | intro hq)))
    all_goals (refine ret ?_; try exact rfl)
  · by_cases hc : isB s q 46 = true ∧ q + 2 ≤ s.size ∧ s.size ≤ q + 4
    · have e1 : mlV s q = numV s (q + 1) (s.size - q - 1) * p10 (3 - (s.size - q - 1)) := (if_neg h0).trans (if_pos hc)
      have e2 : frOk s q = allD s (q + 1) (s.size - q - 1) := by simp [frOk, h0, hc]
      have hB := isB_iff.1 hc.1
      have e3 : ((q : Int)).toNat = q := by omega
      rw [e1, e2]
      have hB2 : bt s ((q : Int)).toNat = 46 := by rw [e3]; exact hB.2
      have hr : inR ((s.size : Int) - (q : Int) - 1) 1 3 = true := inR_true.2 (by omega)
      rcases (by omega : s.size - q - 1 = 1 ∨ s.size - q - 1 = 2 ∨ s.size - q - 1 = 3) with hm | hm | hm
      · rw [hm]
        have hd : ∀ W, D.Base W → Calls Tryz.prog 76 #[.string s, .int .i64 ((q : Int) + 1), .int .i64 ((s.size : Int) - (q : Int) - 1)] W fun e w' => e = .returned (.tuple #[.int .i64 (numV s (q + 1) 1), .bool (allD s (q + 1) 1)]) ∧ Below W.heap.size W w' := fun W hW => b_dg s _ (q + 1) 1 _ (by omega) (by omega) hs (by omega) (by omega) W hW
        have hbd := numV_bd s (q + 1) (m := 1) (by omega)
        have hp10 : p10 1 = 10 := rfl
        have hpp : p10 (3 - 1) = 100 := rfl
        have hp : ∀ W, D.Base W → Calls Tryz.prog 144 #[.int .i64 (3 - ((s.size : Int) - (q : Int) - 1))] W fun e w' => e = .returned (.int .i64 100) ∧ Below W.heap.size W w' := fun W hW => b_Pow _ 2 (by omega) (by omega) _ rfl W hW
        rw [hp10] at hbd
        rw [hpp]
        generalize numV s (q + 1) 1 = nn at *
        refine enter Tryz.func225 rfl Tryz.ntmps225 rfl (by assumption) ?_
        (repeat' (first | intro (b : Nat) | refine go ?_ | (refine br ?_ ?_ <;> first | exact trivial | intro hq) | refine L.call (h := by intro W hW; first | apply hd W hW.base | apply rvb hr (b_in _ _ _ W hW.base) | apply hp W hW.base) (k := ?_)))
        all_goals (refine ret ?_; try exact rfl)
      · rw [hm]
        have hd : ∀ W, D.Base W → Calls Tryz.prog 76 #[.string s, .int .i64 ((q : Int) + 1), .int .i64 ((s.size : Int) - (q : Int) - 1)] W fun e w' => e = .returned (.tuple #[.int .i64 (numV s (q + 1) 2), .bool (allD s (q + 1) 2)]) ∧ Below W.heap.size W w' := fun W hW => b_dg s _ (q + 1) 2 _ (by omega) (by omega) hs (by omega) (by omega) W hW
        have hbd := numV_bd s (q + 1) (m := 2) (by omega)
        have hp10 : p10 2 = 100 := rfl
        have hpp : p10 (3 - 2) = 10 := rfl
        have hp : ∀ W, D.Base W → Calls Tryz.prog 144 #[.int .i64 (3 - ((s.size : Int) - (q : Int) - 1))] W fun e w' => e = .returned (.int .i64 10) ∧ Below W.heap.size W w' := fun W hW => b_Pow _ 1 (by omega) (by omega) _ rfl W hW
        rw [hp10] at hbd
        rw [hpp]
        generalize numV s (q + 1) 2 = nn at *
        refine enter Tryz.func225 rfl Tryz.ntmps225 rfl (by assumption) ?_
        (repeat' (first | intro (b : Nat) | refine go ?_ | (refine br ?_ ?_ <;> first | exact trivial | intro hq) | refine L.call (h := by intro W hW; first | apply hd W hW.base | apply rvb hr (b_in _ _ _ W hW.base) | apply hp W hW.base) (k := ?_)))
        all_goals (refine ret ?_; try exact rfl)
      · rw [hm]
        have hd : ∀ W, D.Base W → Calls Tryz.prog 76 #[.string s, .int .i64 ((q : Int) + 1), .int .i64 ((s.size : Int) - (q : Int) - 1)] W fun e w' => e = .returned (.tuple #[.int .i64 (numV s (q + 1) 3), .bool (allD s (q + 1) 3)]) ∧ Below W.heap.size W w' := fun W hW => b_dg s _ (q + 1) 3 _ (by omega) (by omega) hs (by omega) (by omega) W hW
        have hbd := numV_bd s (q + 1) (m := 3) (by omega)
        have hp10 : p10 3 = 1000 := rfl
        have hpp : p10 (3 - 3) = 1 := rfl
        have hp : ∀ W, D.Base W → Calls Tryz.prog 144 #[.int .i64 (3 - ((s.size : Int) - (q : Int) - 1))] W fun e w' => e = .returned (.int .i64 1) ∧ Below W.heap.size W w' := fun W hW => b_Pow _ 0 (by omega) (by omega) _ rfl W hW
        rw [hp10] at hbd
        rw [hpp]
        generalize numV s (q + 1) 3 = nn at *
        refine enter Tryz.func225 rfl Tryz.ntmps225 rfl (by assumption) ?_
        (repeat' (first | intro (b : Nat) | refine go ?_ | (refine br ?_ ?_ <;> first | exact trivial | intro hq) | refine L.call (h := by intro W hW; first | apply hd W hW.base | apply rvb hr (b_in _ _ _ W hW.base) | apply hp W hW.base) (k := ?_)))
        all_goals (refine ret ?_; try exact rfl)
    · have e1 : mlV s q = 0 := (if_neg h0).trans (if_neg hc)
      have e2 : frOk s q = false := by
        refine bool_no fun h => ?_
        simp only [frOk, Bool.or_eq_true, Bool.and_eq_true, decide_eq_true_eq] at h
        rcases h with h | h
        · exact h0 h
        · exact hc h.1
      rw [e1, e2]
      by_cases hlt : q < s.size
      · have e3 : ((q : Int)).toNat = q := by omega
        by_cases h46 : bt s q = 46
        · have h46' : bt s ((q : Int)).toNat = 46 := by rw [e3]; exact h46
          have hr : inR ((s.size : Int) - (q : Int) - 1) 1 3 = false := inR_false.2 fun h => hc ⟨isB_iff.2 ⟨hlt, h46⟩, by omega⟩
          refine enter Tryz.func225 rfl Tryz.ntmps225 rfl (by assumption) ?_
          (repeat' (first | intro (b : Nat) | refine go ?_ | (refine br ?_ ?_ <;> first | exact trivial | intro hq) | refine L.call (h := by intro W hW; apply rvb hr (b_in _ _ _ W hW.base)) (k := ?_)))
          all_goals (refine ret ?_; try exact rfl)
        · have h46' : ¬ bt s ((q : Int)).toNat = 46 := by rw [e3]; exact h46
          refine enter Tryz.func225 rfl Tryz.ntmps225 rfl (by assumption) ?_
          (repeat' (first | intro (b : Nat) | refine go ?_ | (refine br ?_ ?_ <;> first | exact trivial | intro hq)))
          all_goals (refine ret ?_; try exact rfl)
      · refine enter Tryz.func225 rfl Tryz.ntmps225 rfl (by assumption) ?_
        (repeat' (first | intro (b : Nat) | refine go ?_ | (refine br ?_ ?_ <;> first | exact trivial | intro hq)))
        all_goals (refine ret ?_; try exact rfl)

end D
end Go.Proofs.YtboglbdhibcacaaGreatDoor

namespace Go.Proofs.YtboglbdhibcacaaGreatDoor
set_option linter.unusedVariables false
set_option linter.unusedSimpArgs false
set_option maxRecDepth 100000
set_option maxHeartbeats 1000000
namespace D
open Go.RowKit
open Go.PlainAid (bt bt_nonneg bt_le bt_end)
attribute [local irreducible] Calls

theorem b_l5Read1 (s : ByteArray) (hs : s.size ≤ 1000000000000) (w : World) (hb : D.Base w) : Calls Tryz.prog 189 #[.string s, .int .i64 1] w fun e w' => e = .returned (.tuple #[.agg #[.int .i64 (numV s 0 2), .int .i64 (numV s 3 2), .int .i64 (numV s 6 2), .int .i64 (mlV s 8)], .bool (clkOk s true)]) ∧ Below w.heap.size w w' := by
  have h1 : ∀ W, D.Base W → Calls Tryz.prog 76 #[.string s, .int .i64 0, .int .i64 2] W fun e w' => e = .returned (.tuple #[.int .i64 (numV s 0 2), .bool (allD s 0 2)]) ∧ Below W.heap.size W w' := fun W hW => b_dg s 0 0 2 2 rfl rfl hs (by omega) (by omega) W hW
  have h2 : ∀ W, D.Base W → Calls Tryz.prog 76 #[.string s, .int .i64 3, .int .i64 2] W fun e w' => e = .returned (.tuple #[.int .i64 (numV s 3 2), .bool (allD s 3 2)]) ∧ Below W.heap.size W w' := fun W hW => b_dg s 3 3 2 2 rfl rfl hs (by omega) (by omega) W hW
  have h3 : ∀ W, D.Base W → Calls Tryz.prog 76 #[.string s, .int .i64 6, .int .i64 2] W fun e w' => e = .returned (.tuple #[.int .i64 (numV s 6 2), .bool (allD s 6 2)]) ∧ Below W.heap.size W w' := fun W hW => b_dg s 6 6 2 2 rfl rfl hs (by omega) (by omega) W hW
  have h4 : ∀ W, D.Base W → Calls Tryz.prog 225 #[.string s, .int .i64 8] W fun e w' => e = .returned (.tuple #[.int .i64 (mlV s 8), .bool (frOk s 8)]) ∧ Below W.heap.size W w' := fun W hW => b_Milli s 8 hs (by omega) W hW
  have ek : clkOk s true = (allD s 0 2 && isB s 2 58 && allD s 3 2 && isB s 5 58 && allD s 6 2 && frOk s 8 && cval (numL s 0 2) (numL s 3 2) (numL s 6 2) (frK s 8)) := by simp [clkOk, coV, b2]
  rw [ek]
  clear ek
  by_cases a1 : allD s 0 2 = true
  · by_cases a2 : allD s 3 2 = true
    · by_cases a3 : allD s 6 2 = true
      · by_cases a4 : frOk s 8 = true
        · have hz : 8 ≤ s.size := by
            have := isD_lt (allD_iff.1 a3 1 (by omega))
            omega
          rw [numV_eq a1, a1] at h1
          rw [numV_eq a2, a2] at h2
          rw [numV_eq a3, a3] at h3
          rw [mlV_ok a4, a4] at h4
          rw [numV_eq a1, numV_eq a2, numV_eq a3, mlV_ok a4, a1, a2, a3, a4]
          have i1 : isB s 2 58 = decide (bt s (2 : Int).toNat = 58) := (show isB s 2 58 = decide (bt s 2 = 58) by simp [isB]; omega)
          have i2 : isB s 5 58 = decide (bt s (5 : Int).toNat = 58) := (show isB s 5 58 = decide (bt s 5 = 58) by simp [isB]; omega)
          rw [i1, i2]
          clear i1 i2
          generalize numL s 0 2 = n1 at *
          generalize numL s 3 2 = n2 at *
          generalize numL s 6 2 = n3 at *
          generalize frK s 8 = n4 at *
          cases hv : cval n1 n2 n3 n4
          · refine enter Tryz.func189 rfl Tryz.ntmps189 rfl (by assumption) ?_
            (repeat' (first | intro (b : Nat) | refine go ?_ | (refine br ?_ ?_ <;> first | exact trivial | intro hq) | refine L.call (h := by intro W hW; first | apply h1 W hW.base | apply h2 W hW.base | apply h3 W hW.base | apply h4 W hW.base | apply rvb hv (b_ClockValid _ _ _ _ W hW.base)) (k := ?_) | refine gg ?_ | refine G.call (h := by intro W hW; first | apply h1 W hW.base | apply h2 W hW.base | apply h3 W hW.base | apply h4 W hW.base | apply rvb hv (b_ClockValid _ _ _ _ W hW.base)) (k := ?_) | (apply C.draww (id := 6) 29 [some _, none, none, none, none, none, none, none, none, none, none, none, some _, some _, none, none, none, none, none, none, none, none, none, none, none, none, none, none, none])))
            all_goals (refine ret ?_; try exact rfl)
            all_goals simp [tupleOf]
          · cases q2 : decide (bt s (2 : Int).toNat = 58)
            · refine enter Tryz.func189 rfl Tryz.ntmps189 rfl (by assumption) ?_
              (repeat' (first | intro (b : Nat) | refine go ?_ | (refine br ?_ ?_ <;> first | exact trivial | intro hq) | refine L.call (h := by intro W hW; first | apply h1 W hW.base | apply h2 W hW.base | apply h3 W hW.base | apply h4 W hW.base | apply rvb hv (b_ClockValid _ _ _ _ W hW.base)) (k := ?_) | refine gg ?_ | refine G.call (h := by intro W hW; first | apply h1 W hW.base | apply h2 W hW.base | apply h3 W hW.base | apply h4 W hW.base | apply rvb hv (b_ClockValid _ _ _ _ W hW.base)) (k := ?_) | (apply C.draww (id := 6) 29 [some _, none, none, none, none, none, none, none, none, none, none, none, some _, some _, none, none, none, none, none, none, none, none, none, none, none, none, none, none, none])))
              all_goals (refine ret ?_; try exact rfl)
            · cases q5 : decide (bt s (5 : Int).toNat = 58)
              all_goals
                refine enter Tryz.func189 rfl Tryz.ntmps189 rfl (by assumption) ?_
                (repeat' (first | intro (b : Nat) | refine go ?_ | (refine br ?_ ?_ <;> first | exact trivial | intro hq) | refine L.call (h := by intro W hW; first | apply h1 W hW.base | apply h2 W hW.base | apply h3 W hW.base | apply h4 W hW.base | apply rvb hv (b_ClockValid _ _ _ _ W hW.base)) (k := ?_) | refine gg ?_ | refine G.call (h := by intro W hW; first | apply h1 W hW.base | apply h2 W hW.base | apply h3 W hW.base | apply h4 W hW.base | apply rvb hv (b_ClockValid _ _ _ _ W hW.base)) (k := ?_) | (apply C.draww (id := 6) 29 [some _, none, none, none, none, none, none, none, none, none, none, none, some _, some _, none, none, none, none, none, none, none, none, none, none, none, none, none, none, none])))
                all_goals (refine ret ?_; try exact rfl)
                all_goals (simp only [q5]; rfl)
        · have a4 : frOk s 8 = false := by simpa using a4
          rw [a1] at h1
          rw [a2] at h2
          rw [a3] at h3
          rw [a4] at h4
          rw [a1, a2, a3, a4]
          refine enter Tryz.func189 rfl Tryz.ntmps189 rfl (by assumption) ?_
          (repeat' (first | intro (b : Nat) | refine go ?_ | (refine br ?_ ?_ <;> first | exact trivial | intro hq) | refine L.call (h := by intro W hW; first | apply h1 W hW.base | apply h2 W hW.base | apply h3 W hW.base | apply h4 W hW.base) (k := ?_) | refine gg ?_ | refine G.call (h := by intro W hW; first | apply h1 W hW.base | apply h2 W hW.base | apply h3 W hW.base | apply h4 W hW.base) (k := ?_) | (apply C.draww (id := 6) 29 [some _, none, none, none, none, none, none, none, none, none, none, none, some _, some _, none, none, none, none, none, none, none, none, none, none, none, none, none, none, none])))
          all_goals (refine ret ?_; try exact rfl)
          all_goals simp [tupleOf, *]
      · have a3 : allD s 6 2 = false := by simpa using a3
        rw [a1] at h1
        rw [a2] at h2
        rw [a3] at h3
        rw [a1, a2, a3]
        refine enter Tryz.func189 rfl Tryz.ntmps189 rfl (by assumption) ?_
        (repeat' (first | intro (b : Nat) | refine go ?_ | (refine br ?_ ?_ <;> first | exact trivial | intro hq) | refine L.call (h := by intro W hW; first | apply h1 W hW.base | apply h2 W hW.base | apply h3 W hW.base | apply h4 W hW.base) (k := ?_) | refine gg ?_ | refine G.call (h := by intro W hW; first | apply h1 W hW.base | apply h2 W hW.base | apply h3 W hW.base | apply h4 W hW.base) (k := ?_) | (apply C.draww (id := 6) 29 [some _, none, none, none, none, none, none, none, none, none, none, none, some _, some _, none, none, none, none, none, none, none, none, none, none, none, none, none, none, none])))
        all_goals (refine ret ?_; try exact rfl)
        all_goals simp [tupleOf, *]
    · have a2 : allD s 3 2 = false := by simpa using a2
      rw [a1] at h1
      rw [a2] at h2
      rw [a1, a2]
      refine enter Tryz.func189 rfl Tryz.ntmps189 rfl (by assumption) ?_
      (repeat' (first | intro (b : Nat) | refine go ?_ | (refine br ?_ ?_ <;> first | exact trivial | intro hq) | refine L.call (h := by intro W hW; first | apply h1 W hW.base | apply h2 W hW.base | apply h3 W hW.base | apply h4 W hW.base) (k := ?_) | refine gg ?_ | refine G.call (h := by intro W hW; first | apply h1 W hW.base | apply h2 W hW.base | apply h3 W hW.base | apply h4 W hW.base) (k := ?_) | (apply C.draww (id := 6) 29 [some _, none, none, none, none, none, none, none, none, none, none, none, some _, some _, none, none, none, none, none, none, none, none, none, none, none, none, none, none, none])))
      all_goals (refine ret ?_; try exact rfl)
      all_goals simp [tupleOf, *]
  · have a1 : allD s 0 2 = false := by simpa using a1
    rw [a1] at h1
    rw [a1]
    refine enter Tryz.func189 rfl Tryz.ntmps189 rfl (by assumption) ?_
    (repeat' (first | intro (b : Nat) | refine go ?_ | (refine br ?_ ?_ <;> first | exact trivial | intro hq) | refine L.call (h := by intro W hW; first | apply h1 W hW.base | apply h2 W hW.base | apply h3 W hW.base | apply h4 W hW.base) (k := ?_) | refine gg ?_ | refine G.call (h := by intro W hW; first | apply h1 W hW.base | apply h2 W hW.base | apply h3 W hW.base | apply h4 W hW.base) (k := ?_) | (apply C.draww (id := 6) 29 [some _, none, none, none, none, none, none, none, none, none, none, none, some _, some _, none, none, none, none, none, none, none, none, none, none, none, none, none, none, none])))
    all_goals (refine ret ?_; try exact rfl)
    all_goals simp [tupleOf, *]

theorem b_l5Read0 (s : ByteArray) (hs : s.size ≤ 1000000000000) (w : World) (hb : D.Base w) : Calls Tryz.prog 189 #[.string s, .int .i64 0] w fun e w' => e = .returned (.tuple #[.agg #[.int .i64 (numV s 0 2), .int .i64 (numV s 2 2), .int .i64 (numV s 4 2), .int .i64 (mlV s 6)], .bool (clkOk s false)]) ∧ Below w.heap.size w w' := by
  have h1 : ∀ W, D.Base W → Calls Tryz.prog 76 #[.string s, .int .i64 0, .int .i64 2] W fun e w' => e = .returned (.tuple #[.int .i64 (numV s 0 2), .bool (allD s 0 2)]) ∧ Below W.heap.size W w' := fun W hW => b_dg s 0 0 2 2 rfl rfl hs (by omega) (by omega) W hW
  have h2 : ∀ W, D.Base W → Calls Tryz.prog 76 #[.string s, .int .i64 2, .int .i64 2] W fun e w' => e = .returned (.tuple #[.int .i64 (numV s 2 2), .bool (allD s 2 2)]) ∧ Below W.heap.size W w' := fun W hW => b_dg s 2 2 2 2 rfl rfl hs (by omega) (by omega) W hW
  have h3 : ∀ W, D.Base W → Calls Tryz.prog 76 #[.string s, .int .i64 4, .int .i64 2] W fun e w' => e = .returned (.tuple #[.int .i64 (numV s 4 2), .bool (allD s 4 2)]) ∧ Below W.heap.size W w' := fun W hW => b_dg s 4 4 2 2 rfl rfl hs (by omega) (by omega) W hW
  have h4 : ∀ W, D.Base W → Calls Tryz.prog 225 #[.string s, .int .i64 6] W fun e w' => e = .returned (.tuple #[.int .i64 (mlV s 6), .bool (frOk s 6)]) ∧ Below W.heap.size W w' := fun W hW => b_Milli s 6 hs (by omega) W hW
  have ek : clkOk s false = (allD s 0 2 && allD s 2 2 && allD s 4 2 && frOk s 6 && cval (numL s 0 2) (numL s 2 2) (numL s 4 2) (frK s 6)) := by simp [clkOk, coV, b2]
  rw [ek]
  clear ek
  by_cases a1 : allD s 0 2 = true
  · by_cases a2 : allD s 2 2 = true
    · by_cases a3 : allD s 4 2 = true
      · by_cases a4 : frOk s 6 = true
        · rw [numV_eq a1, a1] at h1
          rw [numV_eq a2, a2] at h2
          rw [numV_eq a3, a3] at h3
          rw [mlV_ok a4, a4] at h4
          rw [numV_eq a1, numV_eq a2, numV_eq a3, mlV_ok a4, a1, a2, a3, a4]
          generalize numL s 0 2 = n1 at *
          generalize numL s 2 2 = n2 at *
          generalize numL s 4 2 = n3 at *
          generalize frK s 6 = n4 at *
          cases hv : cval n1 n2 n3 n4
          all_goals
            refine enter Tryz.func189 rfl Tryz.ntmps189 rfl (by assumption) ?_
            (repeat' (first | intro (b : Nat) | refine go ?_ | (refine br ?_ ?_ <;> first | exact trivial | intro hq) | refine L.call (h := by intro W hW; first | apply h1 W hW.base | apply h2 W hW.base | apply h3 W hW.base | apply h4 W hW.base | apply rvb hv (b_ClockValid _ _ _ _ W hW.base)) (k := ?_) | refine gg ?_ | refine G.call (h := by intro W hW; first | apply h1 W hW.base | apply h2 W hW.base | apply h3 W hW.base | apply h4 W hW.base | apply rvb hv (b_ClockValid _ _ _ _ W hW.base)) (k := ?_) | (apply C.draww (id := 6) 29 [some _, none, none, none, none, none, none, none, none, none, none, none, some _, some _, none, none, none, none, none, none, none, none, none, none, none, none, none, none, none])))
            all_goals (refine ret ?_; try exact rfl)
            all_goals simp [tupleOf, *]
        · have a4 : frOk s 6 = false := by simpa using a4
          rw [a1] at h1
          rw [a2] at h2
          rw [a3] at h3
          rw [a4] at h4
          rw [a1, a2, a3, a4]
          refine enter Tryz.func189 rfl Tryz.ntmps189 rfl (by assumption) ?_
          (repeat' (first | intro (b : Nat) | refine go ?_ | (refine br ?_ ?_ <;> first | exact trivial | intro hq) | refine L.call (h := by intro W hW; first | apply h1 W hW.base | apply h2 W hW.base | apply h3 W hW.base | apply h4 W hW.base) (k := ?_) | refine gg ?_ | refine G.call (h := by intro W hW; first | apply h1 W hW.base | apply h2 W hW.base | apply h3 W hW.base | apply h4 W hW.base) (k := ?_) | (apply C.draww (id := 6) 29 [some _, none, none, none, none, none, none, none, none, none, none, none, some _, some _, none, none, none, none, none, none, none, none, none, none, none, none, none, none, none])))
          all_goals (refine ret ?_; try exact rfl)
          all_goals simp [tupleOf, *]
      · have a3 : allD s 4 2 = false := by simpa using a3
        rw [a1] at h1
        rw [a2] at h2
        rw [a3] at h3
        rw [a1, a2, a3]
        refine enter Tryz.func189 rfl Tryz.ntmps189 rfl (by assumption) ?_
        (repeat' (first | intro (b : Nat) | refine go ?_ | (refine br ?_ ?_ <;> first | exact trivial | intro hq) | refine L.call (h := by intro W hW; first | apply h1 W hW.base | apply h2 W hW.base | apply h3 W hW.base | apply h4 W hW.base) (k := ?_) | refine gg ?_ | refine G.call (h := by intro W hW; first | apply h1 W hW.base | apply h2 W hW.base | apply h3 W hW.base | apply h4 W hW.base) (k := ?_) | (apply C.draww (id := 6) 29 [some _, none, none, none, none, none, none, none, none, none, none, none, some _, some _, none, none, none, none, none, none, none, none, none, none, none, none, none, none, none])))
        all_goals (refine ret ?_; try exact rfl)
        all_goals simp [tupleOf, *]
    · have a2 : allD s 2 2 = false := by simpa using a2
      rw [a1] at h1
      rw [a2] at h2
      rw [a1, a2]
      refine enter Tryz.func189 rfl Tryz.ntmps189 rfl (by assumption) ?_
      (repeat' (first | intro (b : Nat) | refine go ?_ | (refine br ?_ ?_ <;> first | exact trivial | intro hq) | refine L.call (h := by intro W hW; first | apply h1 W hW.base | apply h2 W hW.base | apply h3 W hW.base | apply h4 W hW.base) (k := ?_) | refine gg ?_ | refine G.call (h := by intro W hW; first | apply h1 W hW.base | apply h2 W hW.base | apply h3 W hW.base | apply h4 W hW.base) (k := ?_) | (apply C.draww (id := 6) 29 [some _, none, none, none, none, none, none, none, none, none, none, none, some _, some _, none, none, none, none, none, none, none, none, none, none, none, none, none, none, none])))
      all_goals (refine ret ?_; try exact rfl)
      all_goals simp [tupleOf, *]
  · have a1 : allD s 0 2 = false := by simpa using a1
    rw [a1] at h1
    rw [a1]
    refine enter Tryz.func189 rfl Tryz.ntmps189 rfl (by assumption) ?_
    (repeat' (first | intro (b : Nat) | refine go ?_ | (refine br ?_ ?_ <;> first | exact trivial | intro hq) | refine L.call (h := by intro W hW; first | apply h1 W hW.base | apply h2 W hW.base | apply h3 W hW.base | apply h4 W hW.base) (k := ?_) | refine gg ?_ | refine G.call (h := by intro W hW; first | apply h1 W hW.base | apply h2 W hW.base | apply h3 W hW.base | apply h4 W hW.base) (k := ?_) | (apply C.draww (id := 6) 29 [some _, none, none, none, none, none, none, none, none, none, none, none, some _, some _, none, none, none, none, none, none, none, none, none, none, none, none, none, none, none])))
    all_goals (refine ret ?_; try exact rfl)
    all_goals simp [tupleOf, *]

theorem clk_one {s : ByteArray} (h : clkOk s false = true) : clkOk s true = false := by
  refine bool_no fun h2 => ?_
  simp only [clkOk, coV, b2, Bool.not_true, Bool.false_or, Bool.and_eq_true, Bool.not_false, Bool.true_or, if_true, Bool.false_eq_true, if_false, true_and, and_true] at h h2
  have d1 := allD_at h.1.1.1.2 0 (by omega)
  have d2 := (isB_iff.1 h2.1.1.1.1.1.2).2
  simp only [Nat.add_zero] at d1
  omega

theorem clk_vals {s : ByteArray} {h : Bool} (hk : clkOk s h = true) : numV s 0 2 = numL s 0 2 ∧ numV s (2 + b2 h) 2 = numL s (2 + b2 h) 2 ∧ numV s (4 + 2 * b2 h) 2 = numL s (4 + 2 * b2 h) 2 ∧ mlV s (6 + 2 * b2 h) = frK s (6 + 2 * b2 h) := by
  simp only [clkOk, Bool.and_eq_true] at hk
  exact ⟨numV_eq hk.1.1.1.1.1.1, numV_eq hk.1.1.1.1.2, numV_eq hk.1.1.2, mlV_ok hk.1.2⟩

/-- The time of a text, whether it has colons, and whether there is one. -/
def cfV (s : ByteArray) : Value :=
  if clkOk s true = true then .tuple #[.agg #[.int .i64 (numL s 0 2), .int .i64 (numL s 3 2), .int .i64 (numL s 6 2), .int .i64 (frK s 8)], .bool true, .bool true]
  else if clkOk s false = true then .tuple #[.agg #[.int .i64 (numL s 0 2), .int .i64 (numL s 2 2), .int .i64 (numL s 4 2), .int .i64 (frK s 6)], .bool false, .bool true]
  else .tuple #[.agg #[.int .i64 0, .int .i64 0, .int .i64 0, .int .i64 0], .bool false, .bool false]

theorem b_ClockFrom (s : ByteArray) (hs : s.size ≤ 1000000000000) (w : World) (hb : D.Base w) : Calls Tryz.prog 131 #[.string s] w fun e w' => e = .returned (cfV s) ∧ Below w.heap.size w w' := by
  have r0 := b_l5Read0 s hs
  have r1 := b_l5Read1 s hs
  cases k0 : clkOk s false with
  | true =>
    have e : cfV s = .tuple #[.agg #[.int .i64 (numL s 0 2), .int .i64 (numL s 2 2), .int .i64 (numL s 4 2), .int .i64 (frK s 6)], .bool false, .bool true] := (if_neg (by simp [clk_one k0])).trans (if_pos k0)
    have hv := clk_vals k0
    simp only [b2, Bool.false_eq_true, if_false, Nat.add_zero, Nat.mul_zero] at hv
    rw [k0, hv.1, hv.2.1, hv.2.2.1, hv.2.2.2] at r0
    rw [e]
    refine enter Tryz.func131 rfl Tryz.ntmps131 rfl (by assumption) ?_
    (repeat (first | intro (b : Nat) | refine go ?_))
    refine C.rounds 3 ?_
    (repeat' (first | intro (b : Nat) | refine go ?_ | (refine br ?_ ?_ <;> first | exact trivial | intro hq) | refine L.call (h := by intro W hW; first | apply r0 W hW.base | apply r1 W hW.base) (k := ?_)))
    all_goals (refine ret ?_; try exact rfl)
  | false =>
    cases k1 : clkOk s true with
    | true =>
      have e : cfV s = .tuple #[.agg #[.int .i64 (numL s 0 2), .int .i64 (numL s 3 2), .int .i64 (numL s 6 2), .int .i64 (frK s 8)], .bool true, .bool true] := if_pos k1
      have hv := clk_vals k1
      simp only [b2, if_true] at hv
      rw [k1, hv.1, hv.2.1, hv.2.2.1, hv.2.2.2] at r1
      rw [k0] at r0
      rw [e]
      refine enter Tryz.func131 rfl Tryz.ntmps131 rfl (by assumption) ?_
      (repeat (first | intro (b : Nat) | refine go ?_))
      refine C.rounds 3 ?_
      (repeat' (first | intro (b : Nat) | refine go ?_ | (refine br ?_ ?_ <;> first | exact trivial | intro hq) | refine L.call (h := by intro W hW; first | apply r0 W hW.base | apply r1 W hW.base) (k := ?_)))
      all_goals (refine ret ?_; try exact rfl)
    | false =>
      have e : cfV s = .tuple #[.agg #[.int .i64 0, .int .i64 0, .int .i64 0, .int .i64 0], .bool false, .bool false] := (if_neg (by simp [k1])).trans (if_neg (by simp [k0]))
      rw [k1] at r1
      rw [k0] at r0
      rw [e]
      refine enter Tryz.func131 rfl Tryz.ntmps131 rfl (by assumption) ?_
      (repeat (first | intro (b : Nat) | refine go ?_))
      refine C.rounds 3 ?_
      (repeat' (first | intro (b : Nat) | refine go ?_ | (refine br ?_ ?_ <;> first | exact trivial | intro hq) | refine L.call (h := by intro W hW; first | apply r0 W hW.base | apply r1 W hW.base) (k := ?_)))
      all_goals (refine ret ?_; try exact rfl)

end D
end Go.Proofs.YtboglbdhibcacaaGreatDoor

namespace Go.Proofs.YtboglbdhibcacaaGreatDoor
set_option linter.unusedVariables false
set_option linter.unusedSimpArgs false
set_option maxRecDepth 100000
set_option maxHeartbeats 1000000
namespace D
open Go.RowKit
open Go.PlainAid (bt bt_nonneg bt_le bt_end)
attribute [local irreducible] Calls

theorem b_OffsetFrom (s : ByteArray) (hs : s.size ≤ 1000000000000) (w : World) (hb : D.Base w) : Calls Tryz.prog 132 #[.string s] w fun e w' => e = .returned (ofV s) ∧ Below w.heap.size w w' := by
  have h1 : ∀ W, D.Base W → Calls Tryz.prog 76 #[.string s, .int .i64 1, .int .i64 2] W fun e w' => e = .returned (.tuple #[.int .i64 (numV s 1 2), .bool (allD s 1 2)]) ∧ Below W.heap.size W w' := fun W hW => b_dg s 1 1 2 2 rfl rfl hs (by omega) (by omega) W hW
  have h2 : ∀ W, D.Base W → Calls Tryz.prog 76 #[.string s, .int .i64 4, .int .i64 2] W fun e w' => e = .returned (.tuple #[.int .i64 (numV s 4 2), .bool (allD s 4 2)]) ∧ Below W.heap.size W w' := fun W hW => b_dg s 4 4 2 2 rfl rfl hs (by omega) (by omega) W hW
  by_cases hZ : s = ⟨#[90]⟩
  · subst hZ
    have e : ofV ⟨#[90]⟩ = .tuple #[.int .i64 0, .bool true] := rfl
    rw [e]
    clear h1 h2
    refine enter Tryz.func132 rfl Tryz.ntmps132 rfl (by assumption) ?_
    (repeat' (first | intro (b : Nat) | refine go ?_ | (refine br ?_ ?_ <;> first | exact trivial | intro hq)))
    all_goals (try (exfalso; contradiction))
    all_goals (refine ret ?_; try exact rfl)
  by_cases hz : s = ⟨#[122]⟩
  · subst hz
    have e : ofV ⟨#[122]⟩ = .tuple #[.int .i64 0, .bool true] := rfl
    rw [e]
    clear h1 h2
    refine enter Tryz.func132 rfl Tryz.ntmps132 rfl (by assumption) ?_
    (repeat' (first | intro (b : Nat) | refine go ?_ | (refine br ?_ ?_ <;> first | exact trivial | intro hq)))
    all_goals (try (exfalso; contradiction))
    all_goals (refine ret ?_; try exact rfl)
  have hn1 : ¬ (s.size = 1 ∧ (bt s 0 = 90 ∨ bt s 0 = 122)) := by
    rintro ⟨k1, k2 | k2⟩
    · exact hZ (one_byte (by omega) k1 k2)
    · exact hz (one_byte (by omega) k1 k2)
  have ek : ofOk s = (decide (s.size = 6) && isB s 3 58 && allD s 1 2 && allD s 4 2 && decide (numL s 1 2 ≤ 23 ∧ numL s 4 2 ≤ 59 ∧ (bt s 0 = 43 ∨ (bt s 0 = 45 ∧ 0 < 60 * numL s 1 2 + numL s 4 2)))) := by
    unfold ofOk
    rw [decide_eq_false hn1, Bool.false_or]
  have hbt := bt_in s 0
  by_cases h6 : s.size = 6
  · by_cases a1 : allD s 1 2 = true
    · by_cases a2 : allD s 4 2 = true
      · rw [numV_eq a1, a1] at h1
        rw [numV_eq a2, a2] at h2
        have n1 := numL_bd a1
        have n2 := numL_bd a2
        have p2 : p10 2 = 100 := rfl
        rw [p2] at n1 n2
        have i3 : isB s 3 58 = decide (bt s 3 = 58) := by simp [isB]; omega
        rw [a1, a2, i3, decide_eq_true h6] at ek
        have eN : ofN s = if bt s 0 = 45 then -(60 * numL s 1 2 + numL s 4 2) else 60 * numL s 1 2 + numL s 4 2 := if_neg (by omega)
        generalize numL s 1 2 = x1 at *
        generalize numL s 4 2 = x2 at *
        by_cases hok : bt s 3 = 58 ∧ x1 ≤ 23 ∧ x2 ≤ 59 ∧ (bt s 0 = 43 ∨ (bt s 0 = 45 ∧ 0 < 60 * x1 + x2))
        · have hok' : ofOk s = true := by rw [ek]; simp [hok.1, hok.2.1, hok.2.2.1]; exact hok.2.2.2
          have e : ofV s = .tuple #[.int .i64 (ofN s), .bool true] := if_pos hok'
          have r1 : inR x1 0 23 = true := inR_true.2 (by omega)
          have r2 : inR x2 0 59 = true := inR_true.2 (by omega)
          rw [e, eN]
          obtain ⟨k1, k2, k3, k4⟩ := hok
          rcases k4 with k4 | ⟨k4, k5⟩
          · rw [if_neg (by omega)]
            clear ek eN hok'
            refine enter Tryz.func132 rfl Tryz.ntmps132 rfl (by assumption) ?_
            (repeat' (first | intro (b : Nat) | refine go ?_ | (refine br ?_ ?_ <;> first | exact trivial | intro hq) | refine L.call (h := by intro W hW; first | apply h1 W hW.base | apply h2 W hW.base | apply rvb r1 (b_in _ _ _ W hW.base) | apply rvb r2 (b_in _ _ _ W hW.base)) (k := ?_)))
            all_goals (try (exfalso; contradiction))
            all_goals (refine ret ?_; try exact rfl)
          · rw [if_pos k4]
            have k4' : bt s (0 : Int).toNat = 45 := k4
            clear ek eN hok'
            refine enter Tryz.func132 rfl Tryz.ntmps132 rfl (by assumption) ?_
            (repeat' (first | intro (b : Nat) | refine go ?_ | (refine br ?_ ?_ <;> first | exact trivial | intro hq) | refine L.call (h := by intro W hW; first | apply h1 W hW.base | apply h2 W hW.base | apply rvb r1 (b_in _ _ _ W hW.base) | apply rvb r2 (b_in _ _ _ W hW.base)) (k := ?_)))
            all_goals (try (exfalso; contradiction))
            all_goals (refine ret ?_; try exact rfl)
        · have hok' : ofOk s = false := bool_no fun h => by
            rw [ek] at h
            simp only [Bool.and_eq_true, decide_eq_true_eq, Bool.true_and, true_and, and_true] at h
            exact hok ⟨h.1, h.2⟩
          have e : ofV s = .tuple #[.int .i64 0, .bool false] := if_neg (by simp [hok'])
          rw [e]
          clear ek eN hok' e
          by_cases k3 : bt s 3 = 58
          · cases r1 : inR x1 0 23 with
            | false =>
              refine enter Tryz.func132 rfl Tryz.ntmps132 rfl (by assumption) ?_
              (repeat' (first | intro (b : Nat) | refine go ?_ | (refine br ?_ ?_ <;> first | exact trivial | intro hq) | refine L.call (h := by intro W hW; first | apply h1 W hW.base | apply h2 W hW.base | apply rvb r1 (b_in _ _ _ W hW.base)) (k := ?_)))
              all_goals (try (exfalso; contradiction))
              all_goals (refine ret ?_; try exact rfl)
            | true =>
              have q1 := inR_true.1 r1
              cases r2 : inR x2 0 59 with
              | false =>
                refine enter Tryz.func132 rfl Tryz.ntmps132 rfl (by assumption) ?_
                (repeat' (first | intro (b : Nat) | refine go ?_ | (refine br ?_ ?_ <;> first | exact trivial | intro hq) | refine L.call (h := by intro W hW; first | apply h1 W hW.base | apply h2 W hW.base | apply rvb r1 (b_in _ _ _ W hW.base) | apply rvb r2 (b_in _ _ _ W hW.base)) (k := ?_)))
                all_goals (try (exfalso; contradiction))
                all_goals (refine ret ?_; try exact rfl)
              | true =>
                have q2 := inR_true.1 r2
                have q3 : ¬ bt s 0 = 43 := fun h => hok ⟨k3, q1.2, q2.2, .inl h⟩
                have q4 : ¬ (bt s 0 = 45 ∧ 0 < 60 * x1 + x2) := fun h => hok ⟨k3, q1.2, q2.2, .inr h⟩
                have q3' : ¬ bt s (0 : Int).toNat = 43 := q3
                have q4' : ¬ (bt s (0 : Int).toNat = 45 ∧ 0 < 60 * x1 + x2) := q4
                clear hok
                refine enter Tryz.func132 rfl Tryz.ntmps132 rfl (by assumption) ?_
                (repeat' (first | intro (b : Nat) | refine go ?_ | (refine br ?_ ?_ <;> first | exact trivial | intro hq) | refine L.call (h := by intro W hW; first | apply h1 W hW.base | apply h2 W hW.base | apply rvb r1 (b_in _ _ _ W hW.base) | apply rvb r2 (b_in _ _ _ W hW.base)) (k := ?_)))
                all_goals (try (exfalso; contradiction))
                all_goals (refine ret ?_; try exact rfl)
          · clear hok
            refine enter Tryz.func132 rfl Tryz.ntmps132 rfl (by assumption) ?_
            (repeat' (first | intro (b : Nat) | refine go ?_ | (refine br ?_ ?_ <;> first | exact trivial | intro hq) | refine L.call (h := by intro W hW; first | apply h1 W hW.base | apply h2 W hW.base) (k := ?_)))
            all_goals (try (exfalso; contradiction))
            all_goals (refine ret ?_; try exact rfl)
      · have a2 : allD s 4 2 = false := by simpa using a2
        have hok' : ofOk s = false := by rw [ek, a2]; simp
        have e : ofV s = .tuple #[.int .i64 0, .bool false] := if_neg (by simp [hok'])
        rw [a1] at h1
        rw [a2] at h2
        rw [e]
        clear ek hok' e
        refine enter Tryz.func132 rfl Tryz.ntmps132 rfl (by assumption) ?_
        (repeat' (first | intro (b : Nat) | refine go ?_ | (refine br ?_ ?_ <;> first | exact trivial | intro hq) | refine L.call (h := by intro W hW; first | apply h1 W hW.base | apply h2 W hW.base) (k := ?_)))
        all_goals (try (exfalso; contradiction))
        all_goals (refine ret ?_; try exact rfl)
    · have a1 : allD s 1 2 = false := by simpa using a1
      have hok' : ofOk s = false := by rw [ek, a1]; simp
      have e : ofV s = .tuple #[.int .i64 0, .bool false] := if_neg (by simp [hok'])
      rw [a1] at h1
      rw [e]
      clear ek hok' e
      refine enter Tryz.func132 rfl Tryz.ntmps132 rfl (by assumption) ?_
      (repeat' (first | intro (b : Nat) | refine go ?_ | (refine br ?_ ?_ <;> first | exact trivial | intro hq) | refine L.call (h := by intro W hW; first | apply h1 W hW.base | apply h2 W hW.base) (k := ?_)))
      all_goals (try (exfalso; contradiction))
      all_goals (refine ret ?_; try exact rfl)
  · have hok' : ofOk s = false := by rw [ek, decide_eq_false h6]; simp
    have e : ofV s = .tuple #[.int .i64 0, .bool false] := if_neg (by simp [hok'])
    rw [e]
    clear ek hok' e
    refine enter Tryz.func132 rfl Tryz.ntmps132 rfl (by assumption) ?_
    (repeat' (first | intro (b : Nat) | refine go ?_ | (refine br ?_ ?_ <;> first | exact trivial | intro hq) | refine L.call (h := by intro W hW; first | apply h1 W hW.base | apply h2 W hW.base) (k := ?_)))
    all_goals (try (exfalso; contradiction))
    all_goals (refine ret ?_; try exact rfl)

theorem b_l13Text (y m d h i s k o : Int) (hv : sval y m d h i s k o = true) (w : World) (hb : D.Base w) : Calls Tryz.prog 52 #[.agg #[.int .i64 y, .int .i64 m, .int .i64 d, .int .i64 h, .int .i64 i, .int .i64 s, .int .i64 k, .int .i64 o]] w fun e w' => e = .returned (.string (strOfNums (stL y m d h i s k o))) ∧ Below w.heap.size w w' := by
  obtain ⟨h1, h2, h3, h4⟩ := sval_parts hv
  have hT : ∀ W, D.Base W → Calls Tryz.prog 50 #[.agg #[.int .i64 y, .int .i64 m, .int .i64 d], .int .i64 0, .bool true] W fun e w' => e = .returned (.tuple #[.string (strOfNums (dtL y m d 0 true)), .bool true]) ∧ Below W.heap.size W w' := fun W hW => rv (if_pos ⟨h1, rfl⟩) (b_DateText y m d 0 true W hW)
  have hO : ∀ W, D.Base W → Calls Tryz.prog 91 #[.int .i64 o] W fun e w' => e = .returned (.string (strOfNums (ofL o))) ∧ Below W.heap.size W w' := fun W hW => rv (congrArg Value.string (if_pos (inR_true.2 ⟨h3, h4⟩))) (b_OffsetText o W hW)
  have hC := b_l5Text h i s k h2
  have l1 : (dtL y m d 0 true).length = 10 := by simp [dtL, hy1, digL_length]
  have l2 := clL_len h i s k
  have l3 := frL_len k
  have l4 := ofL_len o
  have es : strOfNums (stL y m d h i s k o) = strOfNums (dtL y m d 0 true) ++ ⟨#[84]⟩ ++ strOfNums (clL h i s k) ++ strOfNums (ofL o) := by rw [stL_str, str84]
  rw [es]
  have z1 : (strOfNums (dtL y m d 0 true)).size = 10 := by rw [strOfNums_size, l1]
  have z2 : (strOfNums (clL h i s k)).size ≤ 12 := by rw [strOfNums_size]; omega
  have z3 : (strOfNums (ofL o)).size ≤ 6 := by rw [strOfNums_size]; omega
  clear l1 l2 l3 l4 es
  generalize strOfNums (dtL y m d 0 true) = t1 at *
  generalize strOfNums (clL h i s k) = t2 at *
  generalize strOfNums (ofL o) = t3 at *
  refine enter Tryz.func52 rfl Tryz.ntmps52 rfl (by assumption) ?_
  (repeat' (first | intro (b : Nat) | refine go ?_ | (refine br ?_ ?_ <;> first | exact trivial | intro hq) | refine L.call (h := by intro W hW; first | apply hT W hW.base | apply hC W hW.base | apply hO W hW.base) (k := ?_) | refine gg ?_ | refine G.call (h := by intro W hW; first | apply hT W hW.base | apply hC W hW.base | apply hO W hW.base) (k := ?_) | (apply C.draww (id := 2) 11 [none, none, none, some _, some _, none, none, some _, some _, none, none])))
  all_goals (refine ret ?_; try exact rfl)

/-- Where the reference looks for the offset. -/
def AtV (s : ByteArray) (v : Value) : Prop := (∃ k : Nat, v = .int .i64 k ∧ 11 ≤ k ∧ k < s.size ∧ (∀ i, 11 ≤ i → i < k → ¬ isO s i) ∧ isO s k) ∨ (v = .int .i64 (-1) ∧ ∀ i, 11 ≤ i → i < s.size → ¬ isO s i)

theorem b_l13Offset (s : ByteArray) (hs : s.size ≤ 1000000000000) (w : World) (hb : D.Base w) : Calls Tryz.prog 130 #[.string s] w (RetV w (AtV s)) := by
  refine enter Tryz.func130 rfl Tryz.ntmps130 rfl (by assumption) ?_
  (repeat (first | intro (b : Nat) | refine go ?_))
  refine C.loopw (Y := Nat) (fun k => [(0, .string s), (3, .int .i64 (k : Int))]) (fun k => []) (fun k => 11 ≤ k ∧ (k ≤ s.size ∨ k = 11) ∧ ∀ i, 11 ≤ i → i < k → ¬ isO s i) (fun k => s.size - k) 11 ⟨by omega, by omega, fun i h1 h2 => by omega⟩ (fun k hy => ?_)
  obtain ⟨hk1, hk2, hk3⟩ := hy
  have e1 : ((k : Int)).toNat = k := by omega
  by_cases hlt : k < s.size
  · by_cases hO : isO s k
    · have hO' : bt s ((k : Int)).toNat = 90 ∨ bt s ((k : Int)).toNat = 122 ∨ bt s ((k : Int)).toNat = 43 ∨ bt s ((k : Int)).toNat = 45 := by rw [e1]; exact hO
      (repeat' (first | intro (b : Nat) | refine go ?_ | (refine br ?_ ?_ <;> first | exact trivial | intro hq)))
      all_goals (refine retw ?_)
      all_goals exact .inl ⟨k, rfl, hk1, hlt, hk3, hO⟩
    · have hO' : ¬ (bt s ((k : Int)).toNat = 90 ∨ bt s ((k : Int)).toNat = 122 ∨ bt s ((k : Int)).toNat = 43 ∨ bt s ((k : Int)).toNat = 45) := by rw [e1]; exact hO
      (repeat' (first | intro (b : Nat) | refine go ?_ | (refine br ?_ ?_ <;> first | exact trivial | intro hq)))
      refine X.roundw (k + 1) (⟨by omega, by omega, fun i h1 h2 => by
        by_cases e : i = k
        · subst e; exact hO
        · exact hk3 i h1 (by omega)⟩) (by omega)
  · (repeat' (first | intro (b : Nat) | refine go ?_ | (refine br ?_ ?_ <;> first | exact trivial | intro hq)))
    (refine retw ?_)
    exact .inr ⟨rfl, fun i h1 h2 => hk3 i h1 (by omega)⟩

theorem dfV_no0 {t : ByteArray} (h : okS t 0 = false) : ∃ (y m d f : Int) (hy a : Bool), dfV (okS t) (dS t) = .tuple #[.agg #[.int .i64 y, .int .i64 m, .int .i64 d], .int .i64 f, .bool hy, .bool a] ∧ (a = false ∨ (a = true ∧ hy = false) ∨ (a = true ∧ hy = true ∧ ¬ f = 0)) := by
  rcases dfV_or (okS t) (dS t) with ⟨k, h1, h2, h3, h4⟩ | ⟨h1, h2⟩
  · rw [h4]
    refine ⟨_, _, _, _, _, _, rfl, .inr ?_⟩
    rcases (by omega : k = 0 ∨ k % 2 = 1 ∨ (k % 2 = 0 ∧ ¬ k / 2 = 0)) with e | e | ⟨e1, e2⟩
    · subst e
      rw [h] at h3
      cases h3
    · exact .inl ⟨rfl, decide_eq_false (by omega)⟩
    · exact .inr ⟨rfl, decide_eq_true e1, by omega⟩
  · rw [h2]
    exact ⟨_, _, _, _, _, _, rfl, .inl rfl⟩

theorem dfV_yes0 {t : ByteArray} (h : okS t 0 = true) : dfV (okS t) (dS t) = .tuple #[.agg #[.int .i64 (numL t 0 4), .int .i64 (numL t 5 2), .int .i64 (numL t 8 2)], .int .i64 0, .bool true, .bool true] := by
  rw [dfV_at (k := 0) (by omega) (fun j hj => by omega) h, dS0 t ((okS0 t).1 h)]
  rfl

theorem cfV_no {c : ByteArray} (h : clkOk c true = false) : ∃ (a b d e : Int) (co ok : Bool), cfV c = .tuple #[.agg #[.int .i64 a, .int .i64 b, .int .i64 d, .int .i64 e], .bool co, .bool ok] ∧ (ok = false ∨ (ok = true ∧ co = false)) := by
  unfold cfV
  rw [if_neg (by simp [h])]
  split
  · exact ⟨_, _, _, _, _, _, rfl, .inr ⟨rfl, rfl⟩⟩
  · exact ⟨_, _, _, _, _, _, rfl, .inl rfl⟩

theorem cfV_some (c : ByteArray) : ∃ (a b d e : Int) (co ok : Bool), cfV c = .tuple #[.agg #[.int .i64 a, .int .i64 b, .int .i64 d, .int .i64 e], .bool co, .bool ok] := by
  unfold cfV
  split
  · exact ⟨_, _, _, _, _, _, rfl⟩
  · split
    · exact ⟨_, _, _, _, _, _, rfl⟩
    · exact ⟨_, _, _, _, _, _, rfl⟩

theorem ofV_some (c : ByteArray) : ∃ (a : Int) (ok : Bool), ofV c = .tuple #[.int .i64 a, .bool ok] := by
  unfold ofV
  split
  · exact ⟨_, _, rfl⟩
  · exact ⟨_, _, rfl⟩

theorem stR_not {s : ByteArray} {a : Nat} (h : ¬ stAt s a = true) : stR s a = SR.no := if_neg h

theorem srV_no : srV SR.no = .tuple #[.agg #[.int .i64 0, .int .i64 0, .int .i64 0, .int .i64 0, .int .i64 0, .int .i64 0, .int .i64 0, .int .i64 0], .bool false] := rfl

theorem b_StampFrom (s : ByteArray) (hs : s.size ≤ 1000000000000) (w : World) (hb : D.Base w) : Calls Tryz.prog 79 #[.string s] w fun e w' => e = .returned (srV (stR s (cutP s))) ∧ Below w.heap.size w w' := by
  refine enter Tryz.func79 rfl Tryz.ntmps79 rfl (by assumption) ?_
  (repeat (first | intro (b : Nat) | refine go ?_))
  (refine L.vcall (h := by intro W hW; exact b_l13Offset s hs W hW.base) (k := ?_); intro v hR)
  rcases hR with ⟨k, rfl, hk1, hk2, hk3, hO⟩ | ⟨rfl, hnone⟩
  · rw [← stR_found hk1 hk3 hO]
    clear hk3 hO
    cases hsep : sepOk s with
    | false =>
      rw [stR_not (fun h => by have := (stAt_iff.1 h).2.1; rw [hsep] at this; cases this), srV_no]
      have hb10 : ¬ (bt s (10 : Int).toNat = 84 ∨ bt s (10 : Int).toNat = 116 ∨ bt s (10 : Int).toNat = 32) := fun h => by
        have : sepOk s = true := decide_eq_true ⟨by omega, h⟩
        rw [hsep] at this
        cases this
      (repeat' (first | intro (b : Nat) | refine go ?_ | (refine br ?_ ?_ <;> first | exact trivial | intro hq)))
      all_goals (refine ret ?_; try exact rfl)
    | true =>
      have hb10 : bt s (10 : Int).toNat = 84 ∨ bt s (10 : Int).toNat = 116 ∨ bt s (10 : Int).toNat = 32 := (of_decide_eq_true hsep).2
      have hten := dOk_ten (s := s) (by omega)
      have hD := b_DateFrom (s.extract 0 10) (by rw [size_ext (by omega)]; omega)
      have hC := b_ClockFrom (s.extract 11 k) (by rw [size_ext (by omega)]; omega)
      have hF := b_OffsetFrom (s.extract k s.size) (by rw [size_ext (by omega)]; omega)
      cases hd : dOk s with
      | false =>
        rw [stR_not (fun h => by have := (stAt_iff.1 h).1; rw [hd] at this; cases this), srV_no]
        obtain ⟨y, m, d, f, hy, a, e, hor⟩ := dfV_no0 (t := s.extract 0 10) (by rw [hten.1]; exact hd)
        obtain ⟨c1, c2, c3, c4, co, ok, ec⟩ := cfV_some (s.extract 11 k)
        obtain ⟨o, ok2, eo⟩ := ofV_some (s.extract k s.size)
        rw [e] at hD
        rw [ec] at hC
        rw [eo] at hF
        clear hten e ec eo
        rcases hor with rfl | ⟨rfl, rfl⟩ | ⟨rfl, rfl, hf⟩
        all_goals
          (repeat' (first | intro (b : Nat) | refine go ?_ | (refine br ?_ ?_ <;> first | exact trivial | intro hq) | refine L.call (h := by intro W hW; first | apply hD W hW.base | apply hC W hW.base | apply hF W hW.base) (k := ?_)))
          all_goals (refine ret ?_; try exact rfl)
      | true =>
        rw [dfV_yes0 (by rw [hten.1]; exact hd), hten.2.1, hten.2.2.1, hten.2.2.2] at hD
        clear hten
        cases hc : clkOk (s.extract 11 k) true with
        | false =>
          rw [stR_not (fun h => by have := (stAt_iff.1 h).2.2.2.1; rw [hc] at this; cases this), srV_no]
          obtain ⟨c1, c2, c3, c4, co, ok, ec, hor⟩ := cfV_no hc
          obtain ⟨o, ok2, eo⟩ := ofV_some (s.extract k s.size)
          rw [ec] at hC
          rw [eo] at hF
          clear ec eo hc hd
          generalize numL s 0 4 = y1 at *
          generalize numL s 5 2 = y2 at *
          generalize numL s 8 2 = y3 at *
          rcases hor with rfl | ⟨rfl, rfl⟩
          all_goals
            (repeat' (first | intro (b : Nat) | refine go ?_ | (refine br ?_ ?_ <;> first | exact trivial | intro hq) | refine L.call (h := by intro W hW; first | apply hD W hW.base | apply hC W hW.base | apply hF W hW.base) (k := ?_)))
            all_goals (refine ret ?_; try exact rfl)
        | true =>
          rw [show cfV (s.extract 11 k) = .tuple #[.agg #[.int .i64 (numL (s.extract 11 k) 0 2), .int .i64 (numL (s.extract 11 k) 3 2), .int .i64 (numL (s.extract 11 k) 6 2), .int .i64 (frK (s.extract 11 k) 8)], .bool true, .bool true] from if_pos hc] at hC
          cases ho : ofOk (s.extract k s.size) with
          | false =>
            rw [stR_not (fun h => by have := (stAt_iff.1 h).2.2.2.2; rw [ho] at this; cases this), srV_no]
            rw [show ofV (s.extract k s.size) = .tuple #[.int .i64 0, .bool false] from if_neg (by simp [ho])] at hF
            clear hc ho hd
            generalize numL s 0 4 = y1 at *
            generalize numL s 5 2 = y2 at *
            generalize numL s 8 2 = y3 at *
            generalize numL (s.extract 11 k) 0 2 = y4 at *
            generalize numL (s.extract 11 k) 3 2 = y5 at *
            generalize numL (s.extract 11 k) 6 2 = y6 at *
            generalize frK (s.extract 11 k) 8 = y7 at *
            (repeat' (first | intro (b : Nat) | refine go ?_ | (refine br ?_ ?_ <;> first | exact trivial | intro hq) | refine L.call (h := by intro W hW; first | apply hD W hW.base | apply hC W hW.base | apply hF W hW.base) (k := ?_)))
            all_goals (refine ret ?_; try exact rfl)
          | true =>
            rw [show stR s k = ⟨numL s 0 4, numL s 5 2, numL s 8 2, numL (s.extract 11 k) 0 2, numL (s.extract 11 k) 3 2, numL (s.extract 11 k) 6 2, frK (s.extract 11 k) 8, ofN (s.extract k s.size), true⟩ from if_pos (stAt_iff.2 ⟨hd, hsep, ⟨by omega, by omega⟩, hc, ho⟩)]
            rw [show ofV (s.extract k s.size) = .tuple #[.int .i64 (ofN (s.extract k s.size)), .bool true] from if_pos ho] at hF
            simp only [srV]
            clear hc ho hd
            generalize numL s 0 4 = y1 at *
            generalize numL s 5 2 = y2 at *
            generalize numL s 8 2 = y3 at *
            generalize numL (s.extract 11 k) 0 2 = y4 at *
            generalize numL (s.extract 11 k) 3 2 = y5 at *
            generalize numL (s.extract 11 k) 6 2 = y6 at *
            generalize frK (s.extract 11 k) 8 = y7 at *
            generalize ofN (s.extract k s.size) = y8 at *
            (repeat' (first | intro (b : Nat) | refine go ?_ | (refine br ?_ ?_ <;> first | exact trivial | intro hq) | refine L.call (h := by intro W hW; first | apply hD W hW.base | apply hC W hW.base | apply hF W hW.base) (k := ?_)))
            all_goals (refine ret ?_; try exact rfl)
  · rw [stR_none hnone, srV_no]
    clear hnone
    (repeat' (first | intro (b : Nat) | refine go ?_ | (refine br ?_ ?_ <;> first | exact trivial | intro hq)))
    all_goals (refine ret ?_; try exact rfl)

theorem b_StampTidy (s : ByteArray) (hs : s.size ≤ 1000000000000) (w : World) (hb : D.Base w) : Calls Tryz.prog 75 #[.string s] w fun e w' => e = .returned (tdV s) ∧ Below w.heap.size w w' := by
  have hF := b_StampFrom s hs
  have hok : (stR s (cutP s)).ok = true → sval (stR s (cutP s)).y (stR s (cutP s)).m (stR s (cutP s)).d (stR s (cutP s)).h (stR s (cutP s)).i (stR s (cutP s)).s (stR s (cutP s)).k (stR s (cutP s)).o = true := fun h => (stR_ok h).2
  unfold tdV
  generalize stR s (cutP s) = S at *
  obtain ⟨y, m, d, h, i, s', k, o, ok⟩ := S
  simp only [srV] at hF
  cases ok with
  | false =>
    refine enter Tryz.func75 rfl Tryz.ntmps75 rfl (by assumption) ?_
    (repeat' (first | intro (b : Nat) | refine go ?_ | (refine br ?_ ?_ <;> first | exact trivial | intro hq) | refine L.call (h := by intro W hW; apply hF W hW.base) (k := ?_)))
    all_goals (refine ret ?_; try exact rfl)
  | true =>
    have hv := hok rfl
    refine enter Tryz.func75 rfl Tryz.ntmps75 rfl (by assumption) ?_
    (repeat' (first | intro (b : Nat) | refine go ?_ | (refine br ?_ ?_ <;> first | exact trivial | intro hq) | refine L.call (h := by intro W hW; first | apply hF W hW.base | apply b_l13Text _ _ _ _ _ _ _ _ hv W hW.base) (k := ?_)))
    all_goals (refine ret ?_; try exact rfl)

end D
end Go.Proofs.YtboglbdhibcacaaGreatDoor
