/- Walks of the reference: times of texts. -/
import Derived.Test.YtpgbmohocfcjpaaGreatDoorG1
namespace Go.Proofs.YtpgbmohocfcjpaaGreatDoor
set_option linter.unusedVariables false
set_option linter.unusedSimpArgs false
set_option maxRecDepth 100000
set_option maxHeartbeats 1000000
namespace D
open Go.RowKit
open Go.PlainAid (bt bt_nonneg bt_le bt_end)
attribute [local irreducible] Calls

theorem b_l5Read1 (s : ByteArray) (hs : s.size ≤ 1000000000000) (w : World) (hb : D.Base w) : Calls Tryz.prog 150 #[.string s, .int .i64 1] w fun e w' => e = .returned (.tuple #[.agg #[.int .i64 (numV s 0 2), .int .i64 (numV s 3 2), .int .i64 (numV s 6 2), .int .i64 (mlV s 8)], .bool (clkOk s true)]) ∧ Below w.heap.size w w' := by
  have h1 : ∀ W, D.Base W → Calls Tryz.prog 89 #[.string s, .int .i64 0, .int .i64 2] W fun e w' => e = .returned (.tuple #[.int .i64 (numV s 0 2), .bool (allD s 0 2)]) ∧ Below W.heap.size W w' := fun W hW => b_dg s 0 0 2 2 rfl rfl hs (by omega) (by omega) W hW
  have h2 : ∀ W, D.Base W → Calls Tryz.prog 89 #[.string s, .int .i64 3, .int .i64 2] W fun e w' => e = .returned (.tuple #[.int .i64 (numV s 3 2), .bool (allD s 3 2)]) ∧ Below W.heap.size W w' := fun W hW => b_dg s 3 3 2 2 rfl rfl hs (by omega) (by omega) W hW
  have h3 : ∀ W, D.Base W → Calls Tryz.prog 89 #[.string s, .int .i64 6, .int .i64 2] W fun e w' => e = .returned (.tuple #[.int .i64 (numV s 6 2), .bool (allD s 6 2)]) ∧ Below W.heap.size W w' := fun W hW => b_dg s 6 6 2 2 rfl rfl hs (by omega) (by omega) W hW
  have h4 : ∀ W, D.Base W → Calls Tryz.prog 186 #[.string s, .int .i64 8] W fun e w' => e = .returned (.tuple #[.int .i64 (mlV s 8), .bool (frOk s 8)]) ∧ Below W.heap.size W w' := fun W hW => b_Milli s 8 hs (by omega) W hW
  have ek : clkOk s true = (allD s 0 2 && isB s 2 58 && allD s 3 2 && isB s 5 58 && allD s 6 2 && frOk s 8 && cval (numL s 0 2) (numL s 3 2) (numL s 6 2) (frK s 8)) := by simp [clkOk, coV, b2]
  rw [ek]
  clear ek
  by_cases a1 : allD s 0 2 = true
  · by_cases a2 : allD s 3 2 = true
    · by_cases a3 : allD s 6 2 = true
      · by_cases a4 : frOk s 8 = true
        · have hz : 8 ≤ s.size := by
            have := isD_lt (allD_iff.1 a3 1 (by omega))
            omega
          rw [numV_eq a1, a1] at h1
          rw [numV_eq a2, a2] at h2
          rw [numV_eq a3, a3] at h3
          rw [mlV_ok a4, a4] at h4
          rw [numV_eq a1, numV_eq a2, numV_eq a3, mlV_ok a4, a1, a2, a3, a4]
          have i1 : isB s 2 58 = decide (bt s (2 : Int).toNat = 58) := (show isB s 2 58 = decide (bt s 2 = 58) by simp [isB]; omega)
          have i2 : isB s 5 58 = decide (bt s (5 : Int).toNat = 58) := (show isB s 5 58 = decide (bt s 5 = 58) by simp [isB]; omega)
          rw [i1, i2]
          clear i1 i2
          generalize numL s 0 2 = n1 at *
          generalize numL s 3 2 = n2 at *
          generalize numL s 6 2 = n3 at *
          generalize frK s 8 = n4 at *
          cases hv : cval n1 n2 n3 n4
          · refine enter Tryz.func150 rfl Tryz.ntmps150 rfl (by assumption) ?_
            (repeat' (first | intro (b : Nat) | refine go ?_ | (refine br ?_ ?_ <;> first | exact trivial | intro hq) | refine L.call (h := by intro W hW; first | apply h1 W hW.base | apply h2 W hW.base | apply h3 W hW.base | apply h4 W hW.base | apply rvb hv (b_ClockValid _ _ _ _ W hW.base)) (k := ?_) | refine gg ?_ | refine G.call (h := by intro W hW; first | apply h1 W hW.base | apply h2 W hW.base | apply h3 W hW.base | apply h4 W hW.base | apply rvb hv (b_ClockValid _ _ _ _ W hW.base)) (k := ?_) | (apply C.draww (id := 6) 29 [some _, none, none, none, none, none, none, none, none, none, none, none, some _, some _, none, none, none, none, none, none, none, none, none, none, none, none, none, none, none])))
            all_goals (refine ret ?_; try exact rfl)
            all_goals simp [tupleOf]
          · cases q2 : decide (bt s (2 : Int).toNat = 58)
            · refine enter Tryz.func150 rfl Tryz.ntmps150 rfl (by assumption) ?_
              (repeat' (first | intro (b : Nat) | refine go ?_ | (refine br ?_ ?_ <;> first | exact trivial | intro hq) | refine L.call (h := by intro W hW; first | apply h1 W hW.base | apply h2 W hW.base | apply h3 W hW.base | apply h4 W hW.base | apply rvb hv (b_ClockValid _ _ _ _ W hW.base)) (k := ?_) | refine gg ?_ | refine G.call (h := by intro W hW; first | apply h1 W hW.base | apply h2 W hW.base | apply h3 W hW.base | apply h4 W hW.base | apply rvb hv (b_ClockValid _ _ _ _ W hW.base)) (k := ?_) | (apply C.draww (id := 6) 29 [some _, none, none, none, none, none, none, none, none, none, none, none, some _, some _, none, none, none, none, none, none, none, none, none, none, none, none, none, none, none])))
              all_goals (refine ret ?_; try exact rfl)
            · cases q5 : decide (bt s (5 : Int).toNat = 58)
              all_goals
                refine enter Tryz.func150 rfl Tryz.ntmps150 rfl (by assumption) ?_
                (repeat' (first | intro (b : Nat) | refine go ?_ | (refine br ?_ ?_ <;> first | exact trivial | intro hq) | refine L.call (h := by intro W hW; first | apply h1 W hW.base | apply h2 W hW.base | apply h3 W hW.base | apply h4 W hW.base | apply rvb hv (b_ClockValid _ _ _ _ W hW.base)) (k := ?_) | refine gg ?_ | refine G.call (h := by intro W hW; first | apply h1 W hW.base | apply h2 W hW.base | apply h3 W hW.base | apply h4 W hW.base | apply rvb hv (b_ClockValid _ _ _ _ W hW.base)) (k := ?_) | (apply C.draww (id := 6) 29 [some _, none, none, none, none, none, none, none, none, none, none, none, some _, some _, none, none, none, none, none, none, none, none, none, none, none, none, none, none, none])))
                all_goals (refine ret ?_; try exact rfl)
                all_goals (simp only [q5]; rfl)
        · have a4 : frOk s 8 = false := by simpa using a4
          rw [a1] at h1
          rw [a2] at h2
          rw [a3] at h3
          rw [a4] at h4
          rw [a1, a2, a3, a4]
          refine enter Tryz.func150 rfl Tryz.ntmps150 rfl (by assumption) ?_
          (repeat' (first | intro (b : Nat) | refine go ?_ | (refine br ?_ ?_ <;> first | exact trivial | intro hq) | refine L.call (h := by intro W hW; first | apply h1 W hW.base | apply h2 W hW.base | apply h3 W hW.base | apply h4 W hW.base) (k := ?_) | refine gg ?_ | refine G.call (h := by intro W hW; first | apply h1 W hW.base | apply h2 W hW.base | apply h3 W hW.base | apply h4 W hW.base) (k := ?_) | (apply C.draww (id := 6) 29 [some _, none, none, none, none, none, none, none, none, none, none, none, some _, some _, none, none, none, none, none, none, none, none, none, none, none, none, none, none, none])))
          all_goals (refine ret ?_; try exact rfl)
          all_goals simp [tupleOf, *]
      · have a3 : allD s 6 2 = false := by simpa using a3
        rw [a1] at h1
        rw [a2] at h2
        rw [a3] at h3
        rw [a1, a2, a3]
        refine enter Tryz.func150 rfl Tryz.ntmps150 rfl (by assumption) ?_
        (repeat' (first | intro (b : Nat) | refine go ?_ | (refine br ?_ ?_ <;> first | exact trivial | intro hq) | refine L.call (h := by intro W hW; first | apply h1 W hW.base | apply h2 W hW.base | apply h3 W hW.base | apply h4 W hW.base) (k := ?_) | refine gg ?_ | refine G.call (h := by intro W hW; first | apply h1 W hW.base | apply h2 W hW.base | apply h3 W hW.base | apply h4 W hW.base) (k := ?_) | (apply C.draww (id := 6) 29 [some _, none, none, none, none, none, none, none, none, none, none, none, some _, some _, none, none, none, none, none, none, none, none, none, none, none, none, none, none, none])))
        all_goals (refine ret ?_; try exact rfl)
        all_goals simp [tupleOf, *]
    · have a2 : allD s 3 2 = false := by simpa using a2
      rw [a1] at h1
      rw [a2] at h2
      rw [a1, a2]
      refine enter Tryz.func150 rfl Tryz.ntmps150 rfl (by assumption) ?_
      (repeat' (first | intro (b : Nat) | refine go ?_ | (refine br ?_ ?_ <;> first | exact trivial | intro hq) | refine L.call (h := by intro W hW; first | apply h1 W hW.base | apply h2 W hW.base | apply h3 W hW.base | apply h4 W hW.base) (k := ?_) | refine gg ?_ | refine G.call (h := by intro W hW; first | apply h1 W hW.base | apply h2 W hW.base | apply h3 W hW.base | apply h4 W hW.base) (k := ?_) | (apply C.draww (id := 6) 29 [some _, none, none, none, none, none, none, none, none, none, none, none, some _, some _, none, none, none, none, none, none, none, none, none, none, none, none, none, none, none])))
      all_goals (refine ret ?_; try exact rfl)
      all_goals simp [tupleOf, *]
  · have a1 : allD s 0 2 = false := by simpa using a1
    rw [a1] at h1
    rw [a1]
    refine enter Tryz.func150 rfl Tryz.ntmps150 rfl (by assumption) ?_
    (repeat' (first | intro (b : Nat) | refine go ?_ | (refine br ?_ ?_ <;> first | exact trivial | intro hq) | refine L.call (h := by intro W hW; first | apply h1 W hW.base | apply h2 W hW.base | apply h3 W hW.base | apply h4 W hW.base) (k := ?_) | refine gg ?_ | refine G.call (h := by intro W hW; first | apply h1 W hW.base | apply h2 W hW.base | apply h3 W hW.base | apply h4 W hW.base) (k := ?_) | (apply C.draww (id := 6) 29 [some _, none, none, none, none, none, none, none, none, none, none, none, some _, some _, none, none, none, none, none, none, none, none, none, none, none, none, none, none, none])))
    all_goals (refine ret ?_; try exact rfl)
    all_goals simp [tupleOf, *]

theorem b_l5Read0 (s : ByteArray) (hs : s.size ≤ 1000000000000) (w : World) (hb : D.Base w) : Calls Tryz.prog 150 #[.string s, .int .i64 0] w fun e w' => e = .returned (.tuple #[.agg #[.int .i64 (numV s 0 2), .int .i64 (numV s 2 2), .int .i64 (numV s 4 2), .int .i64 (mlV s 6)], .bool (clkOk s false)]) ∧ Below w.heap.size w w' := by
  have h1 : ∀ W, D.Base W → Calls Tryz.prog 89 #[.string s, .int .i64 0, .int .i64 2] W fun e w' => e = .returned (.tuple #[.int .i64 (numV s 0 2), .bool (allD s 0 2)]) ∧ Below W.heap.size W w' := fun W hW => b_dg s 0 0 2 2 rfl rfl hs (by omega) (by omega) W hW
  have h2 : ∀ W, D.Base W → Calls Tryz.prog 89 #[.string s, .int .i64 2, .int .i64 2] W fun e w' => e = .returned (.tuple #[.int .i64 (numV s 2 2), .bool (allD s 2 2)]) ∧ Below W.heap.size W w' := fun W hW => b_dg s 2 2 2 2 rfl rfl hs (by omega) (by omega) W hW
  have h3 : ∀ W, D.Base W → Calls Tryz.prog 89 #[.string s, .int .i64 4, .int .i64 2] W fun e w' => e = .returned (.tuple #[.int .i64 (numV s 4 2), .bool (allD s 4 2)]) ∧ Below W.heap.size W w' := fun W hW => b_dg s 4 4 2 2 rfl rfl hs (by omega) (by omega) W hW
  have h4 : ∀ W, D.Base W → Calls Tryz.prog 186 #[.string s, .int .i64 6] W fun e w' => e = .returned (.tuple #[.int .i64 (mlV s 6), .bool (frOk s 6)]) ∧ Below W.heap.size W w' := fun W hW => b_Milli s 6 hs (by omega) W hW
  have ek : clkOk s false = (allD s 0 2 && allD s 2 2 && allD s 4 2 && frOk s 6 && cval (numL s 0 2) (numL s 2 2) (numL s 4 2) (frK s 6)) := by simp [clkOk, coV, b2]
  rw [ek]
  clear ek
  by_cases a1 : allD s 0 2 = true
  · by_cases a2 : allD s 2 2 = true
    · by_cases a3 : allD s 4 2 = true
      · by_cases a4 : frOk s 6 = true
        · rw [numV_eq a1, a1] at h1
          rw [numV_eq a2, a2] at h2
          rw [numV_eq a3, a3] at h3
          rw [mlV_ok a4, a4] at h4
          rw [numV_eq a1, numV_eq a2, numV_eq a3, mlV_ok a4, a1, a2, a3, a4]
          generalize numL s 0 2 = n1 at *
          generalize numL s 2 2 = n2 at *
          generalize numL s 4 2 = n3 at *
          generalize frK s 6 = n4 at *
          cases hv : cval n1 n2 n3 n4
          all_goals
            refine enter Tryz.func150 rfl Tryz.ntmps150 rfl (by assumption) ?_
            (repeat' (first | intro (b : Nat) | refine go ?_ | (refine br ?_ ?_ <;> first | exact trivial | intro hq) | refine L.call (h := by intro W hW; first | apply h1 W hW.base | apply h2 W hW.base | apply h3 W hW.base | apply h4 W hW.base | apply rvb hv (b_ClockValid _ _ _ _ W hW.base)) (k := ?_) | refine gg ?_ | refine G.call (h := by intro W hW; first | apply h1 W hW.base | apply h2 W hW.base | apply h3 W hW.base | apply h4 W hW.base | apply rvb hv (b_ClockValid _ _ _ _ W hW.base)) (k := ?_) | (apply C.draww (id := 6) 29 [some _, none, none, none, none, none, none, none, none, none, none, none, some _, some _, none, none, none, none, none, none, none, none, none, none, none, none, none, none, none])))
            all_goals (refine ret ?_; try exact rfl)
            all_goals simp [tupleOf, *]
        · have a4 : frOk s 6 = false := by simpa using a4
          rw [a1] at h1
          rw [a2] at h2
          rw [a3] at h3
          rw [a4] at h4
          rw [a1, a2, a3, a4]
          refine enter Tryz.func150 rfl Tryz.ntmps150 rfl (by assumption) ?_
          (repeat' (first | intro (b : Nat) | refine go ?_ | (refine br ?_ ?_ <;> first | exact trivial | intro hq) | refine L.call (h := by intro W hW; first | apply h1 W hW.base | apply h2 W hW.base | apply h3 W hW.base | apply h4 W hW.base) (k := ?_) | refine gg ?_ | refine G.call (h := by intro W hW; first | apply h1 W hW.base | apply h2 W hW.base | apply h3 W hW.base | apply h4 W hW.base) (k := ?_) | (apply C.draww (id := 6) 29 [some _, none, none, none, none, none, none, none, none, none, none, none, some _, some _, none, none, none, none, none, none, none, none, none, none, none, none, none, none, none])))
          all_goals (refine ret ?_; try exact rfl)
          all_goals simp [tupleOf, *]
      · have a3 : allD s 4 2 = false := by simpa using a3
        rw [a1] at h1
        rw [a2] at h2
        rw [a3] at h3
        rw [a1, a2, a3]
        refine enter Tryz.func150 rfl Tryz.ntmps150 rfl (by assumption) ?_
        (repeat' (first | intro (b : Nat) | refine go ?_ | (refine br ?_ ?_ <;> first | exact trivial | intro hq) | refine L.call (h := by intro W hW; first | apply h1 W hW.base | apply h2 W hW.base | apply h3 W hW.base | apply h4 W hW.base) (k := ?_) | refine gg ?_ | refine G.call (h := by intro W hW; first | apply h1 W hW.base | apply h2 W hW.base | apply h3 W hW.base | apply h4 W hW.base) (k := ?_) | (apply C.draww (id := 6) 29 [some _, none, none, none, none, none, none, none, none, none, none, none, some _, some _, none, none, none, none, none, none, none, none, none, none, none, none, none, none, none])))
        all_goals (refine ret ?_; try exact rfl)
        all_goals simp [tupleOf, *]
    · have a2 : allD s 2 2 = false := by simpa using a2
      rw [a1] at h1
      rw [a2] at h2
      rw [a1, a2]
      refine enter Tryz.func150 rfl Tryz.ntmps150 rfl (by assumption) ?_
      (repeat' (first | intro (b : Nat) | refine go ?_ | (refine br ?_ ?_ <;> first | exact trivial | intro hq) | refine L.call (h := by intro W hW; first | apply h1 W hW.base | apply h2 W hW.base | apply h3 W hW.base | apply h4 W hW.base) (k := ?_) | refine gg ?_ | refine G.call (h := by intro W hW; first | apply h1 W hW.base | apply h2 W hW.base | apply h3 W hW.base | apply h4 W hW.base) (k := ?_) | (apply C.draww (id := 6) 29 [some _, none, none, none, none, none, none, none, none, none, none, none, some _, some _, none, none, none, none, none, none, none, none, none, none, none, none, none, none, none])))
      all_goals (refine ret ?_; try exact rfl)
      all_goals simp [tupleOf, *]
  · have a1 : allD s 0 2 = false := by simpa using a1
    rw [a1] at h1
    rw [a1]
    refine enter Tryz.func150 rfl Tryz.ntmps150 rfl (by assumption) ?_
    (repeat' (first | intro (b : Nat) | refine go ?_ | (refine br ?_ ?_ <;> first | exact trivial | intro hq) | refine L.call (h := by intro W hW; first | apply h1 W hW.base | apply h2 W hW.base | apply h3 W hW.base | apply h4 W hW.base) (k := ?_) | refine gg ?_ | refine G.call (h := by intro W hW; first | apply h1 W hW.base | apply h2 W hW.base | apply h3 W hW.base | apply h4 W hW.base) (k := ?_) | (apply C.draww (id := 6) 29 [some _, none, none, none, none, none, none, none, none, none, none, none, some _, some _, none, none, none, none, none, none, none, none, none, none, none, none, none, none, none])))
    all_goals (refine ret ?_; try exact rfl)
    all_goals simp [tupleOf, *]

theorem clk_one {s : ByteArray} (h : clkOk s false = true) : clkOk s true = false := by
  refine bool_no fun h2 => ?_
  simp only [clkOk, coV, b2, Bool.not_true, Bool.false_or, Bool.and_eq_true, Bool.not_false, Bool.true_or, if_true, Bool.false_eq_true, if_false, true_and, and_true] at h h2
  have d1 := allD_at h.1.1.1.2 0 (by omega)
  have d2 := (isB_iff.1 h2.1.1.1.1.1.2).2
  simp only [Nat.add_zero] at d1
  omega

theorem clk_vals {s : ByteArray} {h : Bool} (hk : clkOk s h = true) : numV s 0 2 = numL s 0 2 ∧ numV s (2 + b2 h) 2 = numL s (2 + b2 h) 2 ∧ numV s (4 + 2 * b2 h) 2 = numL s (4 + 2 * b2 h) 2 ∧ mlV s (6 + 2 * b2 h) = frK s (6 + 2 * b2 h) := by
  simp only [clkOk, Bool.and_eq_true] at hk
  exact ⟨numV_eq hk.1.1.1.1.1.1, numV_eq hk.1.1.1.1.2, numV_eq hk.1.1.2, mlV_ok hk.1.2⟩

/-- The time of a text, whether it has colons, and whether there is one. -/
def cfV (s : ByteArray) : Value :=
  if clkOk s true = true then .tuple #[.agg #[.int .i64 (numL s 0 2), .int .i64 (numL s 3 2), .int .i64 (numL s 6 2), .int .i64 (frK s 8)], .bool true, .bool true]
  else if clkOk s false = true then .tuple #[.agg #[.int .i64 (numL s 0 2), .int .i64 (numL s 2 2), .int .i64 (numL s 4 2), .int .i64 (frK s 6)], .bool false, .bool true]
  else .tuple #[.agg #[.int .i64 0, .int .i64 0, .int .i64 0, .int .i64 0], .bool false, .bool false]

theorem b_ClockFrom (s : ByteArray) (hs : s.size ≤ 1000000000000) (w : World) (hb : D.Base w) : Calls Tryz.prog 102 #[.string s] w fun e w' => e = .returned (cfV s) ∧ Below w.heap.size w w' := by
  have r0 := b_l5Read0 s hs
  have r1 := b_l5Read1 s hs
  cases k0 : clkOk s false with
  | true =>
    have e : cfV s = .tuple #[.agg #[.int .i64 (numL s 0 2), .int .i64 (numL s 2 2), .int .i64 (numL s 4 2), .int .i64 (frK s 6)], .bool false, .bool true] := (if_neg (by simp [clk_one k0])).trans (if_pos k0)
    have hv := clk_vals k0
    simp only [b2, Bool.false_eq_true, if_false, Nat.add_zero, Nat.mul_zero] at hv
    rw [k0, hv.1, hv.2.1, hv.2.2.1, hv.2.2.2] at r0
    rw [e]
    refine enter Tryz.func102 rfl Tryz.ntmps102 rfl (by assumption) ?_
    (repeat (first | intro (b : Nat) | refine go ?_))
    refine C.rounds 3 ?_
    (repeat' (first | intro (b : Nat) | refine go ?_ | (refine br ?_ ?_ <;> first | exact trivial | intro hq) | refine L.call (h := by intro W hW; first | apply r0 W hW.base | apply r1 W hW.base) (k := ?_)))
    all_goals (refine ret ?_; try exact rfl)
  | false =>
    cases k1 : clkOk s true with
    | true =>
      have e : cfV s = .tuple #[.agg #[.int .i64 (numL s 0 2), .int .i64 (numL s 3 2), .int .i64 (numL s 6 2), .int .i64 (frK s 8)], .bool true, .bool true] := if_pos k1
      have hv := clk_vals k1
      simp only [b2, if_true] at hv
      rw [k1, hv.1, hv.2.1, hv.2.2.1, hv.2.2.2] at r1
      rw [k0] at r0
      rw [e]
      refine enter Tryz.func102 rfl Tryz.ntmps102 rfl (by assumption) ?_
      (repeat (first | intro (b : Nat) | refine go ?_))
      refine C.rounds 3 ?_
      (repeat' (first | intro (b : Nat) | refine go ?_ | (refine br ?_ ?_ <;> first | exact trivial | intro hq) | refine L.call (h := by intro W hW; first | apply r0 W hW.base | apply r1 W hW.base) (k := ?_)))
      all_goals (refine ret ?_; try exact rfl)
    | false =>
      have e : cfV s = .tuple #[.agg #[.int .i64 0, .int .i64 0, .int .i64 0, .int .i64 0], .bool false, .bool false] := (if_neg (by simp [k1])).trans (if_neg (by simp [k0]))
      rw [k1] at r1
      rw [k0] at r0
      rw [e]
      refine enter Tryz.func102 rfl Tryz.ntmps102 rfl (by assumption) ?_
      (repeat (first | intro (b : Nat) | refine go ?_))
      refine C.rounds 3 ?_
      (repeat' (first | intro (b : Nat) | refine go ?_ | (refine br ?_ ?_ <;> first | exact trivial | intro hq) | refine L.call (h := by intro W hW; first | apply r0 W hW.base | apply r1 W hW.base) (k := ?_)))
      all_goals (refine ret ?_; try exact rfl)

end D
end Go.Proofs.YtpgbmohocfcjpaaGreatDoor
