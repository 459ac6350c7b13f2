/- Walks of the reference: digits. -/
import Derived.Test.YtpgbmohocfcjpaaGreatDoorB1
import Derived.Test.YtpgbmohocfcjpaaGreatDoorS1
namespace Go.Proofs.YtpgbmohocfcjpaaGreatDoor
set_option linter.unusedVariables false
set_option linter.unusedSimpArgs false
set_option maxRecDepth 100000
set_option maxHeartbeats 1000000
namespace D
open Go.RowKit
open Go.PlainAid (bt bt_nonneg bt_le bt_end)
attribute [local irreducible] Calls

theorem b_dec1 (n : Int) (h : 0 ≤ n ∧ n ≤ 9) (w : World) (hb : D.Base w) : Calls Tryz.prog 97 #[.int .i64 n] w fun e w' => e = .returned (.string (strOfNums [48 + n])) ∧ Below w.heap.size w w' := by
  refine enter Tryz.func97 rfl Tryz.ntmps97 rfl (by assumption) ?_
  (repeat' (first | intro (b : Nat) | refine go ?_ | (refine br ?_ ?_ <;> first | exact trivial | intro hq) | refine gg ?_ | (apply C.draww (id := 7) 11 [none, none, some _, none, none, none, none, some _, some _, none, none])))
  (refine ret ?_; try exact rfl)

theorem b_Power (n : Nat) (h : n ≤ 6) (w : World) (hb : D.Base w) : Calls Tryz.prog 188 #[.int .i64 (n : Int)] w fun e w' => e = .returned (.int .i64 (p10 n)) ∧ Below w.heap.size w w' := by
  rcases (by omega : n = 0 ∨ n = 1 ∨ n = 2 ∨ n = 3 ∨ n = 4 ∨ n = 5 ∨ n = 6) with rfl | rfl | rfl | rfl | rfl | rfl | rfl
  all_goals
    refine enter Tryz.func188 rfl Tryz.ntmps188 rfl (by assumption) ?_
    (repeat (first | intro (b : Nat) | refine go ?_))
    refine C.rounds 8 ?_
    (repeat' (first | intro (b : Nat) | refine go ?_ | (refine br ?_ ?_ <;> first | exact trivial | intro hq)))
    (refine ret ?_; try exact rfl)

theorem b_Pow (k : Int) (m : Nat) (hk : k = (m : Int)) (h : m ≤ 6) (v : Int) (hv : p10 m = v) (w : World) (hb : D.Base w) : Calls Tryz.prog 188 #[.int .i64 k] w fun e w' => e = .returned (.int .i64 v) ∧ Below w.heap.size w w' := by
  subst hk
  subst hv
  exact b_Power m h w hb

theorem b_Put1 (n : Int) (h : 0 ≤ n ∧ n ≤ 1000000000) (w : World) (hb : D.Base w) : Calls Tryz.prog 156 #[.int .i64 n, .int .i64 1] w fun e w' => e = .returned (.string (strOfNums (digL n 1))) ∧ Below w.heap.size w w' := by
  refine enter Tryz.func156 rfl Tryz.ntmps156 rfl (by assumption) ?_
  (repeat (first | intro (b : Nat) | refine go ?_))
  refine C.rounds 6 ?_
  (repeat' (first | intro (b : Nat) | refine go ?_ | (refine br ?_ ?_ <;> first | exact trivial | intro hq) | refine L.call (h := by intro W hW; first | apply b_Pow _ 0 (by omega) (by omega) 1 rfl W hW.base | apply b_dec1 _ (by omega) W hW.base) (k := ?_)))
  (refine ret ?_)
  refine congrArg Value.string ?_
  rw [show (⟨#[]⟩ : ByteArray) = strOfNums [] from rfl]
  simp only [strOfNums_append]
  refine congrArg strOfNums ?_
  simp only [digL, List.nil_append, List.cons_append, List.cons.injEq, and_true, true_and]
  omega

theorem b_Put2 (n : Int) (h : 0 ≤ n ∧ n ≤ 1000000000) (w : World) (hb : D.Base w) : Calls Tryz.prog 156 #[.int .i64 n, .int .i64 2] w fun e w' => e = .returned (.string (strOfNums (digL n 2))) ∧ Below w.heap.size w w' := by
  refine enter Tryz.func156 rfl Tryz.ntmps156 rfl (by assumption) ?_
  (repeat (first | intro (b : Nat) | refine go ?_))
  refine C.rounds 6 ?_
  (repeat' (first | intro (b : Nat) | refine go ?_ | (refine br ?_ ?_ <;> first | exact trivial | intro hq) | refine L.call (h := by intro W hW; first | apply b_Pow _ 1 (by omega) (by omega) 10 rfl W hW.base | apply b_Pow _ 0 (by omega) (by omega) 1 rfl W hW.base | apply b_dec1 _ (by omega) W hW.base) (k := ?_)))
  (refine ret ?_)
  refine congrArg Value.string ?_
  rw [show (⟨#[]⟩ : ByteArray) = strOfNums [] from rfl]
  simp only [strOfNums_append]
  refine congrArg strOfNums ?_
  simp only [digL, List.nil_append, List.cons_append, List.cons.injEq, and_true, true_and]
  omega

theorem b_Put3 (n : Int) (h : 0 ≤ n ∧ n ≤ 1000000000) (w : World) (hb : D.Base w) : Calls Tryz.prog 156 #[.int .i64 n, .int .i64 3] w fun e w' => e = .returned (.string (strOfNums (digL n 3))) ∧ Below w.heap.size w w' := by
  refine enter Tryz.func156 rfl Tryz.ntmps156 rfl (by assumption) ?_
  (repeat (first | intro (b : Nat) | refine go ?_))
  refine C.rounds 6 ?_
  (repeat' (first | intro (b : Nat) | refine go ?_ | (refine br ?_ ?_ <;> first | exact trivial | intro hq) | refine L.call (h := by intro W hW; first | apply b_Pow _ 2 (by omega) (by omega) 100 rfl W hW.base | apply b_Pow _ 1 (by omega) (by omega) 10 rfl W hW.base | apply b_Pow _ 0 (by omega) (by omega) 1 rfl W hW.base | apply b_dec1 _ (by omega) W hW.base) (k := ?_)))
  (refine ret ?_)
  refine congrArg Value.string ?_
  rw [show (⟨#[]⟩ : ByteArray) = strOfNums [] from rfl]
  simp only [strOfNums_append]
  refine congrArg strOfNums ?_
  simp only [digL, List.nil_append, List.cons_append, List.cons.injEq, and_true, true_and]
  omega

theorem b_Put4 (n : Int) (h : 0 ≤ n ∧ n ≤ 1000000000) (w : World) (hb : D.Base w) : Calls Tryz.prog 156 #[.int .i64 n, .int .i64 4] w fun e w' => e = .returned (.string (strOfNums (digL n 4))) ∧ Below w.heap.size w w' := by
  refine enter Tryz.func156 rfl Tryz.ntmps156 rfl (by assumption) ?_
  (repeat (first | intro (b : Nat) | refine go ?_))
  refine C.rounds 6 ?_
  (repeat' (first | intro (b : Nat) | refine go ?_ | (refine br ?_ ?_ <;> first | exact trivial | intro hq) | refine L.call (h := by intro W hW; first | apply b_Pow _ 3 (by omega) (by omega) 1000 rfl W hW.base | apply b_Pow _ 2 (by omega) (by omega) 100 rfl W hW.base | apply b_Pow _ 1 (by omega) (by omega) 10 rfl W hW.base | apply b_Pow _ 0 (by omega) (by omega) 1 rfl W hW.base | apply b_dec1 _ (by omega) W hW.base) (k := ?_)))
  (refine ret ?_)
  refine congrArg Value.string ?_
  rw [show (⟨#[]⟩ : ByteArray) = strOfNums [] from rfl]
  simp only [strOfNums_append]
  refine congrArg strOfNums ?_
  simp only [digL, List.nil_append, List.cons_append, List.cons.injEq, and_true, true_and]
  omega

theorem b_Digit (s : ByteArray) (p : Nat) (hs : s.size ≤ 1000000000000) (w : World) (hb : D.Base w) : Calls Tryz.prog 142 #[.string s, .int .i64 (p : Int)] w fun e w' => e = .returned (.bool (isD s p)) ∧ Below w.heap.size w w' := by
  have e1 : ((p : Int)).toNat = p := by omega
  by_cases hlt : p < s.size
  · have hr : inR (p : Int) 0 ((s.size : Int) - 1) = true := inR_true.2 (by omega)
    refine enter Tryz.func142 rfl Tryz.ntmps142 rfl (by assumption) ?_
    (repeat' (first | intro (b : Nat) | refine go ?_ | (refine br ?_ ?_ <;> first | exact trivial | intro hq) | refine L.call (h := by intro W hW; apply rvb hr (b_in _ _ _ W hW.base)) (k := ?_)))
    all_goals (refine ret ?_; try exact rfl)
    all_goals (rw [e1] at *)
    all_goals (refine congrArg Value.bool ?_; rw [Bool.eq_iff_iff]; simp [isD]; omega)
  · have hr : inR (p : Int) 0 ((s.size : Int) - 1) = false := inR_false.2 (by omega)
    have hd : isD s p = false := by
      cases hd : isD s p with
      | false => rfl
      | true => exact (hlt (isD_lt hd)).elim
    refine enter Tryz.func142 rfl Tryz.ntmps142 rfl (by assumption) ?_
    (repeat' (first | intro (b : Nat) | refine go ?_ | (refine br ?_ ?_ <;> first | exact trivial | intro hq) | refine L.call (h := by intro W hW; apply rvb hr (b_in _ _ _ W hW.base)) (k := ?_)))
    all_goals (refine ret ?_; try exact rfl)
    all_goals (rw [hd]; rfl)

theorem b_DigitsGet (s : ByteArray) (p m : Nat) (hs : s.size ≤ 1000000000000) (hp : p ≤ 1000000000000) (hm : 1 ≤ m ∧ m ≤ 6) (w : World) (hb : D.Base w) :
    Calls Tryz.prog 89 #[.string s, .int .i64 (p : Int), .int .i64 (m : Int)] w fun e w' => e = .returned (.tuple #[.int .i64 (if allD s p m = true then numL s p m else 0), .bool (allD s p m)]) ∧ Below w.heap.size w w' := by
  have hr : inR (m : Int) 1 6 = true := inR_true.2 (by omega)
  refine enter Tryz.func89 rfl Tryz.ntmps89 rfl (by assumption) ?_
  (repeat' (first | intro (b : Nat) | refine go ?_ | (refine br ?_ ?_ <;> first | exact trivial | intro hq) | refine L.call (h := by intro W hW; apply rvb hr (b_in _ _ _ W hW.base)) (k := ?_)))
  refine C.loopw (Y := Nat) (fun k => [(0, .string s), (1, .int .i64 (p : Int)), (2, .int .i64 (m : Int)), (8, .int .i64 (numL s p k)), (9, .int .i64 (k : Int))]) (fun k => []) (fun k => k ≤ m ∧ allD s p k = true) (fun k => m - k) 0 ⟨by omega, rfl⟩ (fun k hy => ?_)
  have hbd := numL_bd hy.2
  have hp10 := p10_le (k := k) (by omega)
  have ec : (p : Int) + (k : Int) = ((p + k : Nat) : Int) := by omega
  by_cases hlt : k < m
  · cases hd : isD s (p + k)
    · have hno : allD s p m = false := by
        cases h : allD s p m with
        | false => rfl
        | true =>
          have := allD_iff.1 h k hlt
          rw [hd] at this
          cases this
      (repeat' (first | intro (b : Nat) | refine go ?_ | (refine br ?_ ?_ <;> first | exact trivial | intro hq) | refine L.call (h := by intro W hW; apply rvb hd (ec ▸ b_Digit s (p + k) hs W hW.base)) (k := ?_)))
      (refine ret ?_; try exact rfl)
      rw [hno]; rfl
    · have hsz := isD_lt hd
      have e1 : ((p : Int) + (k : Int)).toNat = p + k := by omega
      have hb1 : 48 ≤ bt s ((p : Int) + (k : Int)).toNat ∧ bt s ((p : Int) + (k : Int)).toNat ≤ 57 := by rw [e1]; exact isD_iff.1 hd
      have e2 : numL s p (k + 1) = 10 * numL s p k + (bt s ((p : Int) + (k : Int)).toNat - 48) := by rw [e1]; rfl
      have hnext : allD s p (k + 1) = true := by simp [allD, hy.2, hd]
      (repeat' (first | intro (b : Nat) | refine go ?_ | (refine br ?_ ?_ <;> first | exact trivial | intro hq) | refine L.call (h := by intro W hW; apply rvb hd (ec ▸ b_Digit s (p + k) hs W hW.base)) (k := ?_)))
      refine X.roundw (k + 1) (⟨by omega, hnext⟩) (by omega)
  · obtain rfl : k = m := by omega
    (repeat' (first | intro (b : Nat) | refine go ?_ | (refine br ?_ ?_ <;> first | exact trivial | intro hq)))
    (refine ret ?_; try exact rfl)
    rw [hy.2]; rfl

end D
end Go.Proofs.YtpgbmohocfcjpaaGreatDoor
