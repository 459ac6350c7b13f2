/- Walks: repeats that the reference reads. -/
import Derived.Test.YtpgbmohocfcjpaaGreatDoorRp1
namespace Go.Proofs.YtpgbmohocfcjpaaGreatDoor
set_option linter.unusedVariables false
set_option linter.unusedSimpArgs false
set_option maxRecDepth 100000
set_option maxHeartbeats 1000000
namespace D
open Go.RowKit
open Go.PlainAid (bt bt_nonneg bt_le bt_end)
attribute [local irreducible] Calls

/-- Behind the end no digits follow. -/
theorem b_DigitsRun1 (s : ByteArray) (hs : s.size ≤ 1000000000000) (h : s.size = 0) (w : World) (hb : D.Base w) :
    Calls Tryz.prog 88 #[.string s, .int .i64 1] w fun e w' => e = .returned (.int .i64 0) ∧ Below w.heap.size w w' := by
  have hd : isD s 1 = false := by
    cases hd : isD s 1 with
    | false => rfl
    | true => have := isD_lt hd; omega
  have hdig : ∀ W, D.Base W → Calls Tryz.prog 142 #[.string s, .int .i64 (1 + 0)] W fun e w' => e = .returned (.bool false) ∧ Below W.heap.size W w' := fun W hW => by
    have := b_Digit s 1 hs W hW
    rw [hd] at this
    exact this
  refine enter Tryz.func88 rfl Tryz.ntmps88 rfl (by assumption) ?_
  (repeat (first | intro (b : Nat) | refine go ?_))
  refine C.rounds 1 ?_
  (repeat' (first | intro (b : Nat) | refine go ?_ | (refine br ?_ ?_ <;> first | exact trivial | intro hq) | refine L.call (h := by intro W hW; apply hdig W hW.base) (k := ?_)))
  (refine ret ?_; try exact rfl)

theorem b_RepeatFrom (s : ByteArray) (hs : s.size ≤ 1000000000000) (w : World) (hb : D.Base w) : Calls Tryz.prog 38 #[.string s] w (RetV w (RepR s)) := by
  have hno : ¬ headOk s → RepR s repNo := fun h => .inr ⟨fun k hk => h hk.1.1, rfl⟩
  by_cases hz : s.size = 0
  · have g0 := b_DigitsGet_bad s 1 0 (.inl rfl) (by omega)
    refine enter Tryz.func38 rfl Tryz.ntmps38 rfl (by assumption) ?_
    (repeat' (first | intro (b : Nat) | refine go ?_ | (refine br ?_ ?_ <;> first | exact trivial | intro hq) | refine L.call (h := by intro W hW; first | apply b_DigitsRun1 s hs hz W hW.base | apply g0 W hW.base) (k := ?_)))
    (refine retw ?_)
    exact hno fun h => by have := (isB_iff.1 h.1).1; omega
  have hrl := runN_le (s := s) (p := 1) (by omega)
  have run := b_DigitsRun s 1 hs (by omega)
  by_cases hm6 : 1 ≤ runN s 1 ∧ runN s 1 ≤ 6
  case' neg =>
    have g0 := b_DigitsGet_bad s 1 (runN s 1) (by omega) (by omega)
    refine enter Tryz.func38 rfl Tryz.ntmps38 rfl (by assumption) ?_
    (repeat' (first | intro (b : Nat) | refine go ?_ | (refine br ?_ ?_ <;> first | exact trivial | intro hq) | refine L.call (h := by intro W hW; first | apply run W hW.base | apply g0 W hW.base) (k := ?_)))
    (refine retw ?_)
    exact hno fun h => by have := h.2.1; omega
  case' pos =>
    have g1 := b_GetRun s 1 hs (by omega) hm6
    have e1 : ((1 : Int) + (runN s 1 : Int)).toNat = 1 + runN s 1 := by omega
    by_cases hH : headOk s
    case' neg =>
      have hh : ¬ (bt s (Int.toNat 0) = 82 ∧ runN s 1 ≤ 2 ∧ 1 + runN s 1 < s.size ∧ bt s ((1 : Int) + (runN s 1 : Int)).toNat = 47) := fun ⟨a, b, c, d⟩ => hH ⟨isB_iff.2 ⟨by omega, a⟩, ⟨hm6.1, b⟩, isB_iff.2 ⟨c, by rw [← e1]; exact d⟩⟩
      refine enter Tryz.func38 rfl Tryz.ntmps38 rfl (by assumption) ?_
      (repeat' (first | intro (b : Nat) | refine go ?_ | (refine br ?_ ?_ <;> first | exact trivial | intro hq) | refine L.call (h := by intro W hW; first | apply run W hW.base | apply g1 W hW.base) (k := ?_)))
      all_goals first | ((refine retw ?_); exact hno hH) | (exfalso; omega)
    case' pos =>
      have h82 : bt s (Int.toNat 0) = 82 := (isB_iff.1 hH.1).2
      have h2 := hH.2.1
      have hz1 := (isB_iff.1 hH.2.2).1
      have h47 : bt s ((1 : Int) + (runN s 1 : Int)).toNat = 47 := by rw [e1]; exact (isB_iff.1 hH.2.2).2
      refine enter Tryz.func38 rfl Tryz.ntmps38 rfl (by assumption) ?_
      (repeat' (first | intro (b : Nat) | refine go ?_ | (refine br ?_ ?_ <;> first | exact trivial | intro hq) | refine L.call (h := by intro W hW; first | apply run W hW.base | apply g1 W hW.base) (k := ?_)))
      have zt : (s.extract ((2 : Int) + (runN s 1 : Int)).toNat s.size).size ≤ 1000000000000 := by rw [ByteArray.size_extract]; omega
      (refine L.vcall (h := by intro W hW; exact b_Cut _ zt W hW.base) (k := ?_); intro v hR)
      have e2 : ((2 : Int) + (runN s 1 : Int)).toNat = 2 + runN s 1 := by omega
      rw [e2] at hR zt
      have zt2 : (s.extract (2 + runN s 1) s.size).size = s.size - (2 + runN s 1) := size_ext (Nat.le_refl _)
      have hbt : ∀ i, i < s.size - (2 + runN s 1) → bt (s.extract (2 + runN s 1) s.size) i = bt s (2 + runN s 1 + i) := fun i hi => bt_extract (Nat.le_refl _) (by omega)
      rcases hR with ⟨j, hj, rfl⟩ | ⟨hj, rfl⟩
      case' inr =>
        have hx : ∀ k, ¬ rOne s k := fun k hk => by
          have k1 := hk.1.2.1
          have k2 := hk.1.2.2
          have k3 := k2.1
          refine hj (k - (2 + runN s 1)) ⟨by omega, ?_, fun i hi h => ?_⟩
          · rw [hbt _ (by omega), show 2 + runN s 1 + (k - (2 + runN s 1)) = k by omega]
            exact k2.2
          · rw [hbt _ (by omega)] at h
            have := hk.2 (2 + runN s 1 + i) ⟨hH, by omega, by omega, h⟩
            omega
        have hv : RepR s repNo := .inr ⟨hx, rfl⟩
        clear hx
        have hA := b_StampFrom ⟨#[]⟩ (by decide)
        have hB := b_PeriodFrom ⟨#[]⟩ (by decide)
        rw [show stR ⟨#[]⟩ (cutP ⟨#[]⟩) = stampR ⟨#[]⟩ from rfl] at hA
        generalize stampR ⟨#[]⟩ = A at *
        generalize perR ⟨#[]⟩ = pr at *
        simp only [srV] at hA
        cases pr with
        | none =>
          simp only [perT] at hB
          (repeat' (first | intro (b : Nat) | refine go ?_ | (refine br ?_ ?_ <;> first | exact trivial | intro hq) | refine L.call (h := by intro W hW; first | apply hA W hW.base | apply hB W hW.base) (k := ?_)))
          all_goals first | ((refine retw ?_); exact hv) | (exfalso; omega)
        | some v =>
          simp only [perT] at hB
          (repeat' (first | intro (b : Nat) | refine go ?_ | (refine br ?_ ?_ <;> first | exact trivial | intro hq) | refine L.call (h := by intro W hW; first | apply hA W hW.base | apply hB W hW.base) (k := ?_)))
          all_goals first | ((refine retw ?_); exact hv) | (exfalso; omega)
      case' inl =>
        have hj1 := hj.1
        rw [zt2] at hj1
        have hone : rOne s (2 + runN s 1 + j) := ⟨⟨hH, by omega, by omega, by rw [← hbt j hj1]; exact hj.2.1⟩, fun i hi => by
          have i1 := hi.2.1
          have i2 := hi.2.2.1
          have := hj.2.2 (i - (2 + runN s 1)) (by omega) (by rw [hbt _ (by omega), show 2 + runN s 1 + (i - (2 + runN s 1)) = i by omega]; exact hi.2.2.2)
          omega⟩
        have hl : (s.extract (2 + runN s 1) s.size).extract 0 j = s.extract (2 + runN s 1) (2 + runN s 1 + j) := ext_ext (Nat.le_refl _) (by omega)
        have hr : (s.extract (2 + runN s 1) s.size).extract (j + 1) (s.extract (2 + runN s 1) s.size).size = s.extract (2 + runN s 1 + j + 1) s.size := by
          rw [zt2]
          exact ext_ext2 (Nat.le_refl _) (by omega)
        have hv : ∀ v, v = repAt s (2 + runN s 1 + j) → RepR s v := fun v h => .inl ⟨_, hone, h⟩
        unfold repAt at hv
        rw [← hl, ← hr] at hv
        have z1 : ((s.extract (2 + runN s 1) s.size).extract 0 j).size ≤ 1000000000000 := by rw [ByteArray.size_extract]; omega
        have z2 : ((s.extract (2 + runN s 1) s.size).extract (j + 1) (s.extract (2 + runN s 1) s.size).size).size ≤ 1000000000000 := by rw [ByteArray.size_extract]; omega
        generalize (s.extract (2 + runN s 1) s.size).extract (j + 1) (s.extract (2 + runN s 1) s.size).size = rr at *
        generalize (s.extract (2 + runN s 1) s.size).extract 0 j = ll at *
        have hA := b_StampFrom ll z1
        have hB := b_PeriodFrom rr z2
        rw [show stR ll (cutP ll) = stampR ll from rfl] at hA
        generalize stampR ll = A at *
        generalize perR rr = pr at *
        generalize numL s 1 (runN s 1) = N at *
        simp only [srV] at hA
        clear hl hr hj hbt hone hH
        cases pr with
        | none =>
          simp only [perT] at hB
          (repeat' (first | intro (b : Nat) | refine go ?_ | (refine br ?_ ?_ <;> first | exact trivial | intro hq) | refine L.call (h := by intro W hW; first | apply hA W hW.base | apply hB W hW.base) (k := ?_)))
          all_goals first | ((refine retw ?_); exact hv _ rfl) | (exfalso; omega)
        | some v =>
          simp only [perT] at hB
          have hV := b_RepeatValid A v N
          unfold repV at hv
          dsimp only at hv
          cases oA : A.ok
          · simp only [oA] at hA
            rw [if_neg (by simp [oA])] at hv
            (repeat' (first | intro (b : Nat) | refine go ?_ | (refine br ?_ ?_ <;> first | exact trivial | intro hq) | refine L.call (h := by intro W hW; first | apply hA W hW.base | apply hB W hW.base) (k := ?_)))
            all_goals first | ((refine retw ?_); exact hv _ rfl) | (exfalso; omega)
          · simp only [oA] at hA
            cases oR : repOk A v N
            · rw [oR] at hV
              rw [if_neg (by simp [oR])] at hv
              (repeat' (first | intro (b : Nat) | refine go ?_ | (refine br ?_ ?_ <;> first | exact trivial | intro hq) | refine L.call (h := by intro W hW; first | apply hA W hW.base | apply hB W hW.base | apply hV W hW.base) (k := ?_)))
              all_goals first | ((refine retw ?_); exact hv _ rfl) | (exfalso; omega)
            · rw [oR] at hV
              rw [if_pos ⟨oA, oR⟩] at hv
              (repeat' (first | intro (b : Nat) | refine go ?_ | (refine br ?_ ?_ <;> first | exact trivial | intro hq) | refine L.call (h := by intro W hW; first | apply hA W hW.base | apply hB W hW.base | apply hV W hW.base) (k := ?_)))
              all_goals first | ((refine retw ?_); exact hv _ rfl) | (exfalso; omega)

end D
end Go.Proofs.YtpgbmohocfcjpaaGreatDoor
