/- Walks of the reference: times, offsets and stamps of texts. -/
import Derived.Test.YtodmpdcffnmmkaaDoorG1
import Derived.Test.YtodmpdcffnmmkaaDoorC4
import Derived.Test.YtodmpdcffnmmkaaDoorQS
namespace Go.Proofs.YtodmpdcffnmmkaaDoor
set_option linter.unusedVariables false
set_option linter.unusedSimpArgs false
set_option maxRecDepth 100000
set_option maxHeartbeats 1000000
namespace D
open Go.RowKit
open Go.PlainAid (bt bt_nonneg bt_le bt_end)
attribute [local irreducible] Calls

/-- The thousandths that the reference reads. -/
def mlV (s : ByteArray) (q : Nat) : Int := if s.size = q then 0 else if isB s q 46 = true ∧ q + 2 ≤ s.size ∧ s.size ≤ q + 4 then numV s (q + 1) (s.size - q - 1) * p10 (3 - (s.size - q - 1)) else 0

theorem mlV_ok {s : ByteArray} {q : Nat} (h : frOk s q = true) : mlV s q = frK s q := by
  unfold mlV frK
  by_cases h0 : s.size = q
  · rw [if_pos h0, if_pos h0]
  · simp only [frOk, Bool.or_eq_true, Bool.and_eq_true, decide_eq_true_eq] at h
    rcases h with h | ⟨⟨h1, h2⟩, h3⟩
    · exact (h0 h).elim
    · rw [if_neg h0, if_neg h0, if_pos ⟨h1, h2⟩, numV_eq h3]

theorem b_Milli (s : ByteArray) (q : Nat) (hs : s.size ≤ 1000000000000) (hq : q ≤ 100) (w : World) (hb : D.Base w) : Calls Tryd.prog 36 #[.string s, .int .i64 (q : Int)] w fun e w' => e = .returned (.tuple #[.int .i64 (mlV s q), .bool (frOk s q)]) ∧ Below w.heap.size w w' := by
  by_cases h0 : s.size = q
  · have e1 : mlV s q = 0 := if_pos h0
    have e2 : frOk s q = true := by simp [frOk, h0]
    rw [e1, e2]
    refine enter Tryd.func36 rfl Tryd.ntmps36 rfl (by assumption) ?_
    (repeat' (first | intro (b : Nat) | refine go ?_ | (refine br ?_ ?_ <;> first | exact trivial | intro hq)))
    all_goals (refine ret ?_; try exact rfl)
  · by_cases hc : isB s q 46 = true ∧ q + 2 ≤ s.size ∧ s.size ≤ q + 4
    · have e1 : mlV s q = numV s (q + 1) (s.size - q - 1) * p10 (3 - (s.size - q - 1)) := (if_neg h0).trans (if_pos hc)
      have e2 : frOk s q = allD s (q + 1) (s.size - q - 1) := by simp [frOk, h0, hc]
      have hB := isB_iff.1 hc.1
      have e3 : ((q : Int)).toNat = q := by omega
      rw [e1, e2]
      have hB2 : bt s ((q : Int)).toNat = 46 := by rw [e3]; exact hB.2
      have hr : inR ((s.size : Int) - (q : Int) - 1) 1 3 = true := inR_true.2 (by omega)
      rcases (by omega : s.size - q - 1 = 1 ∨ s.size - q - 1 = 2 ∨ s.size - q - 1 = 3) with hm | hm | hm
      · rw [hm]
        have hd : ∀ W, D.Base W → Calls Tryd.prog 20 #[.string s, .int .i64 ((q : Int) + 1), .int .i64 ((s.size : Int) - (q : Int) - 1)] W fun e w' => e = .returned (.tuple #[.int .i64 (numV s (q + 1) 1), .bool (allD s (q + 1) 1)]) ∧ Below W.heap.size W w' := fun W hW => b_dg s _ (q + 1) 1 _ (by omega) (by omega) hs (by omega) (by omega) W hW
        have hbd := numV_bd s (q + 1) (m := 1) (by omega)
        have hp10 : p10 1 = 10 := rfl
        have hpp : p10 (3 - 1) = 100 := rfl
        have hp : ∀ W, D.Base W → Calls Tryd.prog 58 #[.int .i64 (3 - ((s.size : Int) - (q : Int) - 1))] W fun e w' => e = .returned (.int .i64 100) ∧ Below W.heap.size W w' := fun W hW => b_Pow _ 2 (by omega) (by omega) _ rfl W hW
        rw [hp10] at hbd
        rw [hpp]
        generalize numV s (q + 1) 1 = nn at *
        refine enter Tryd.func36 rfl Tryd.ntmps36 rfl (by assumption) ?_
        (repeat' (first | intro (b : Nat) | refine go ?_ | (refine br ?_ ?_ <;> first | exact trivial | intro hq) | refine L.call (h := by intro W hW; first | apply hd W hW.base | apply rvb hr (b_in _ _ _ W hW.base) | apply hp W hW.base) (k := ?_)))
        all_goals (refine ret ?_; try exact rfl)
      · rw [hm]
        have hd : ∀ W, D.Base W → Calls Tryd.prog 20 #[.string s, .int .i64 ((q : Int) + 1), .int .i64 ((s.size : Int) - (q : Int) - 1)] W fun e w' => e = .returned (.tuple #[.int .i64 (numV s (q + 1) 2), .bool (allD s (q + 1) 2)]) ∧ Below W.heap.size W w' := fun W hW => b_dg s _ (q + 1) 2 _ (by omega) (by omega) hs (by omega) (by omega) W hW
        have hbd := numV_bd s (q + 1) (m := 2) (by omega)
        have hp10 : p10 2 = 100 := rfl
        have hpp : p10 (3 - 2) = 10 := rfl
        have hp : ∀ W, D.Base W → Calls Tryd.prog 58 #[.int .i64 (3 - ((s.size : Int) - (q : Int) - 1))] W fun e w' => e = .returned (.int .i64 10) ∧ Below W.heap.size W w' := fun W hW => b_Pow _ 1 (by omega) (by omega) _ rfl W hW
        rw [hp10] at hbd
        rw [hpp]
        generalize numV s (q + 1) 2 = nn at *
        refine enter Tryd.func36 rfl Tryd.ntmps36 rfl (by assumption) ?_
        (repeat' (first | intro (b : Nat) | refine go ?_ | (refine br ?_ ?_ <;> first | exact trivial | intro hq) | refine L.call (h := by intro W hW; first | apply hd W hW.base | apply rvb hr (b_in _ _ _ W hW.base) | apply hp W hW.base) (k := ?_)))
        all_goals (refine ret ?_; try exact rfl)
      · rw [hm]
        have hd : ∀ W, D.Base W → Calls Tryd.prog 20 #[.string s, .int .i64 ((q : Int) + 1), .int .i64 ((s.size : Int) - (q : Int) - 1)] W fun e w' => e = .returned (.tuple #[.int .i64 (numV s (q + 1) 3), .bool (allD s (q + 1) 3)]) ∧ Below W.heap.size W w' := fun W hW => b_dg s _ (q + 1) 3 _ (by omega) (by omega) hs (by omega) (by omega) W hW
        have hbd := numV_bd s (q + 1) (m := 3) (by omega)
        have hp10 : p10 3 = 1000 := rfl
        have hpp : p10 (3 - 3) = 1 := rfl
        have hp : ∀ W, D.Base W → Calls Tryd.prog 58 #[.int .i64 (3 - ((s.size : Int) - (q : Int) - 1))] W fun e w' => e = .returned (.int .i64 1) ∧ Below W.heap.size W w' := fun W hW => b_Pow _ 0 (by omega) (by omega) _ rfl W hW
        rw [hp10] at hbd
        rw [hpp]
        generalize numV s (q + 1) 3 = nn at *
        refine enter Tryd.func36 rfl Tryd.ntmps36 rfl (by assumption) ?_
        (repeat' (first | intro (b : Nat) | refine go ?_ | (refine br ?_ ?_ <;> first | exact trivial | intro hq) | refine L.call (h := by intro W hW; first | apply hd W hW.base | apply rvb hr (b_in _ _ _ W hW.base) | apply hp W hW.base) (k := ?_)))
        all_goals (refine ret ?_; try exact rfl)
    · have e1 : mlV s q = 0 := (if_neg h0).trans (if_neg hc)
      have e2 : frOk s q = false := by
        refine bool_no fun h => ?_
        simp only [frOk, Bool.or_eq_true, Bool.and_eq_true, decide_eq_true_eq] at h
        rcases h with h | h
        · exact h0 h
        · exact hc h.1
      rw [e1, e2]
      by_cases hlt : q < s.size
      · have e3 : ((q : Int)).toNat = q := by omega
        by_cases h46 : bt s q = 46
        · have h46' : bt s ((q : Int)).toNat = 46 := by rw [e3]; exact h46
          have hr : inR ((s.size : Int) - (q : Int) - 1) 1 3 = false := inR_false.2 fun h => hc ⟨isB_iff.2 ⟨hlt, h46⟩, by omega⟩
          refine enter Tryd.func36 rfl Tryd.ntmps36 rfl (by assumption) ?_
          (repeat' (first | intro (b : Nat) | refine go ?_ | (refine br ?_ ?_ <;> first | exact trivial | intro hq) | refine L.call (h := by intro W hW; apply rvb hr (b_in _ _ _ W hW.base)) (k := ?_)))
          all_goals (refine ret ?_; try exact rfl)
        · have h46' : ¬ bt s ((q : Int)).toNat = 46 := by rw [e3]; exact h46
          refine enter Tryd.func36 rfl Tryd.ntmps36 rfl (by assumption) ?_
          (repeat' (first | intro (b : Nat) | refine go ?_ | (refine br ?_ ?_ <;> first | exact trivial | intro hq)))
          all_goals (refine ret ?_; try exact rfl)
      · refine enter Tryd.func36 rfl Tryd.ntmps36 rfl (by assumption) ?_
        (repeat' (first | intro (b : Nat) | refine go ?_ | (refine br ?_ ?_ <;> first | exact trivial | intro hq)))
        all_goals (refine ret ?_; try exact rfl)

end D
end Go.Proofs.YtodmpdcffnmmkaaDoor
