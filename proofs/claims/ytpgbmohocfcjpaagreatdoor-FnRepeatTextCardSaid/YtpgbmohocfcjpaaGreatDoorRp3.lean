/- Walks: repeats that the program reads. -/
import Derived.Test.YtpgbmohocfcjpaaGreatDoorRp1
namespace Go.Proofs.YtpgbmohocfcjpaaGreatDoor
set_option linter.unusedVariables false
set_option linter.unusedSimpArgs false
set_option maxRecDepth 100000
set_option maxHeartbeats 1000000
namespace D
open Go.RowKit
open Go.PlainAid (bt bt_nonneg bt_le bt_end)
attribute [local irreducible] Calls

theorem a_RepeatFrom (s : ByteArray) (hs : s.size ≤ 1000000000000) (w : World) (hb : D.Base w) (hg : Hdl w) : Calls Tryz.prog 39 #[.string s] w (RetV w (RepP s)) := by
  have hno : ¬ headOk s → RepP s repNo := fun h => .inr ⟨fun k hk => h hk.1, rfl⟩
  refine enter Tryz.func39 rfl Tryz.ntmps39 rfl (by assumption) ?_
  (repeat (first | intro (b : Nat) | refine go ?_))
  rename_i bt2
  revert b
  intro rr
  cases h0 : isB s 0 82
  · refine L.tcallb rr (h := by intro W hW; exact a_take_no _ _ _ _ 0 _ hs (Nat.zero_le _) h0 W hW) (k := ?_)
    (repeat' (first | intro (b : Nat) | refine go ?_ | (refine br ?_ ?_ <;> first | exact trivial | intro hq)))
    (refine retw ?_)
    exact hno fun h => by have := h.1; rw [h0] at this; cases this
  have hz0 := (isB_iff.1 h0).1
  refine L.tcallb rr (h := by intro W hW; exact a_take_yes _ _ _ _ 0 _ hs h0 W hW) (k := ?_)
  (repeat' (first | intro (b : Nat) | refine go ?_ | (refine br ?_ ?_ <;> first | exact trivial | intro hq)))
  have hrl := runN_le (s := s) (p := 1) (by omega)
  by_cases hm : 1 ≤ runN s 1 ∧ runN s 1 ≤ 2
  case' neg =>
    have hi : inR (runN s 1) 1 2 = false := inR_false.2 (by omega)
    (repeat' (first | intro (b : Nat) | refine go ?_ | (refine br ?_ ?_ <;> first | exact trivial | intro hq) | refine L.call (h := by intro W hW; first | apply a_runN rr s 1 hs (by omega) W (hW.cell (List.Mem.head _) rfl) (hW.cell (List.Mem.head _) rfl) hW.base | apply rvb hi (a_within _ _ _ W hW.base)) (k := ?_)))
    (refine retw ?_)
    exact hno fun h => hm h.2.1
  case' pos =>
    have hi : inR (runN s 1) 1 2 = true := inR_true.2 (by omega)
    (repeat' (first | intro (b : Nat) | refine go ?_ | (refine br ?_ ?_ <;> first | exact trivial | intro hq) | refine L.call (h := by intro W hW; first | apply a_runN rr s 1 hs (by omega) W (hW.cell (List.Mem.head _) rfl) (hW.cell (List.Mem.head _) rfl) hW.base | apply rvb hi (a_within _ _ _ W hW.base)) (k := ?_)))
    revert b
    intro b6
    refine L.tcallb rr (h := by intro W hW; exact a_number_yes _ _ _ _ 1 (runN s 1) hs (by omega) (by omega) (runN_allD s 1) W hW) (k := ?_)
    (repeat' (first | intro (b : Nat) | refine go ?_ | (refine br ?_ ?_ <;> first | exact trivial | intro hq)))
    cases h47 : isB s (1 + runN s 1) 47
    case' false =>
      refine L.tcallb rr (h := by intro W hW; exact a_take_no _ _ _ _ (1 + runN s 1) _ hs hrl h47 W hW) (k := ?_)
      (repeat' (first | intro (b : Nat) | refine go ?_ | (refine br ?_ ?_ <;> first | exact trivial | intro hq)))
      (refine retw ?_)
      exact hno fun h => by have := h.2.2; rw [h47] at this; cases this
    case' true =>
      have hz1 := (isB_iff.1 h47).1
      have hH : headOk s := ⟨h0, hm, h47⟩
      refine L.tcallb rr (h := by intro W hW; exact a_take_yes _ _ _ _ (1 + runN s 1) _ hs h47 W hW) (k := ?_)
      (repeat' (first | intro (b : Nat) | refine go ?_ | (refine br ?_ ?_ <;> first | exact trivial | intro hq)))
      have eP : ((((1 + runN s 1 : Nat) : Int)) + 1).toNat = 2 + runN s 1 := by omega
      refine C.loopw (Y := Nat) (fun k => [(0, .string s), (2, .pointer (some ⟨bt2, 0, none⟩)), (4, .pointer (some ⟨rr, 0, none⟩)), (6, .pointer (some ⟨b6, 0, none⟩)), (7, .int .i64 (k : Int))]) (fun k => [(rr, rdB s (((1 + runN s 1 : Nat) : Int) + 1)), (b6, .cells 56 [.int .i64 0, .int .i64 0, .int .i64 0, .int .i64 0, .int .i64 0, .int .i64 0, .int .i64 0, .int .i64 0, .int .i64 0, .int .i64 0, .int .i64 0, .int .i64 0, .int .i64 0, .int .i64 0, .int .i64 (numL s 1 (runN s 1))]), (bt2, .cells 56 [.int .i64 0, .int .i64 0, .int .i64 0, .int .i64 0, .int .i64 0, .int .i64 0, .int .i64 0, .int .i64 0, .int .i64 0, .int .i64 0, .int .i64 0, .int .i64 0, .int .i64 0, .int .i64 0, .int .i64 0])]) (fun k => 2 + runN s 1 ≤ k ∧ k ≤ s.size ∧ ∀ i, 2 + runN s 1 ≤ i → i < k → ¬ bt s i = 47) (fun k => s.size - k) (2 + runN s 1) ⟨Nat.le_refl _, by omega, fun i h1 h2 => by omega⟩ (fun k hy => ?_)
      obtain ⟨hk1, hk2, hk3⟩ := hy
      have eK : ((k : Int)).toNat = k := by omega
      have eK1 : ((k : Int) + 1).toNat = k + 1 := by omega
      by_cases hlt : k < s.size
      case' neg =>
        (repeat' (first | intro (b : Nat) | refine go ?_ | (refine br ?_ ?_ <;> first | exact trivial | intro hq)))
        (refine retw ?_)
        exact .inr ⟨fun i hi => hk3 i hi.2.1 (by have := hi.2.2.1; omega) hi.2.2.2, rfl⟩
      case' pos =>
        by_cases h47' : bt s ((k : Int)).toNat = 47
        case' neg =>
          (repeat' (first | intro (b : Nat) | refine go ?_ | (refine br ?_ ?_ <;> first | exact trivial | intro hq)))
          refine X.roundw (k + 1) (⟨by omega, by omega, fun i h1 h2 => by
            rcases (by omega : i < k ∨ i = k) with h | h
            · exact hk3 i h1 h
            · subst h; rw [eK] at h47'; exact h47'⟩) (by omega)
        case' pos =>
          have hsl : rSl s k := ⟨hH, hk1, hlt, by rw [eK] at h47'; exact h47'⟩
          have z1 : (s.extract (2 + runN s 1) k).size ≤ 1000000000000 := by rw [ByteArray.size_extract]; omega
          have z2 : (s.extract (k + 1) s.size).size ≤ 1000000000000 := by rw [ByteArray.size_extract]; omega
          have hv : ∀ v, v = repAt s k → RepP s v := fun v h => .inl ⟨k, hsl, h⟩
          have hA := a_StampFrom (s.extract (2 + runN s 1) k) z1
          have hB := a_PeriodFrom (s.extract (k + 1) s.size) z2
          rw [show stR (s.extract (2 + runN s 1) k) (cutP (s.extract (2 + runN s 1) k)) = stampR (s.extract (2 + runN s 1) k) from rfl] at hA
          unfold repAt at hv
          generalize stampR (s.extract (2 + runN s 1) k) = A at hA hv
          generalize perR (s.extract (k + 1) s.size) = pr at hB hv
          rw [← eP, ← eK] at hA
          rw [← eK1] at hB
          clear z1 z2 hsl eP eK eK1
          generalize numL s 1 (runN s 1) = N at *
          simp only [srV] at hA
          cases pr with
          | none =>
            simp only [perT] at hB
            cases oA : A.ok <;> (
              simp only [oA] at hA
              (repeat' (first | intro (b : Nat) | refine go ?_ | (refine br ?_ ?_ <;> first | exact trivial | intro hq) | refine L.call (h := by intro W hW; first | apply hA W hW.base (hW.old hg) | apply hB W hW.base) (k := ?_)))
              all_goals try (exfalso; omega)
              ((repeat (refine C.seq ?_)); apply C.drawsw 3 b6 (.cells 56 [.int .i64 0, .int .i64 0, .int .i64 0, .int .i64 0, .int .i64 0, .int .i64 0, .int .i64 0, .int .i64 0, .int .i64 0, .int .i64 0, .int .i64 0, .int .i64 0, .int .i64 0, .int .i64 0, .int .i64 N]) 4 [some _, some _, none, some _])
              (repeat (first | intro (b : Nat) | refine gg ?_))
              (first | (apply G.stk; exact rfl; exact rfl; exact rfl; exact rfl; exact rfl; exact rfl; exact rfl; (· (repeat (first | exact Wr.nil | apply Wr.put | apply Wr.skip)))) | (apply G.st1; exact rfl; exact rfl; exact rfl; exact rfl; exact rfl; exact rfl; (· (repeat (first | exact Wr.nil | apply Wr.put | apply Wr.skip)))))
              (repeat (first | intro (b : Nat) | refine gg ?_))
              (repeat' (first | intro (b : Nat) | refine go ?_ | (refine br ?_ ?_ <;> first | exact trivial | intro hq) | refine L.call (h := by intro W hW; apply hA W hW.base (hW.old hg)) (k := ?_)))
              (refine retw ?_)
              exact hv _ rfl)
          | some v =>
            simp only [perT] at hB
            have hV := a_RepeatValid A v N
            unfold repV at hv
            dsimp only at hv
            cases oA : A.ok
            · simp only [oA] at hA
              rw [if_neg (by simp [oA])] at hv
              (repeat' (first | intro (b : Nat) | refine go ?_ | (refine br ?_ ?_ <;> first | exact trivial | intro hq) | refine L.call (h := by intro W hW; first | apply hA W hW.base (hW.old hg) | apply hB W hW.base) (k := ?_)))
              all_goals try (exfalso; omega)
              ((repeat (refine C.seq ?_)); apply C.drawsw 3 b6 (.cells 56 [.int .i64 0, .int .i64 0, .int .i64 0, .int .i64 0, .int .i64 0, .int .i64 0, .int .i64 0, .int .i64 0, .int .i64 0, .int .i64 0, .int .i64 0, .int .i64 0, .int .i64 0, .int .i64 0, .int .i64 N]) 4 [some _, some _, none, some _])
              (repeat (first | intro (b : Nat) | refine gg ?_))
              (first | (apply G.stk; exact rfl; exact rfl; exact rfl; exact rfl; exact rfl; exact rfl; exact rfl; (· (repeat (first | exact Wr.nil | apply Wr.put | apply Wr.skip)))) | (apply G.st1; exact rfl; exact rfl; exact rfl; exact rfl; exact rfl; exact rfl; (· (repeat (first | exact Wr.nil | apply Wr.put | apply Wr.skip)))))
              (repeat (first | intro (b : Nat) | refine gg ?_))
              (repeat' (first | intro (b : Nat) | refine go ?_ | (refine br ?_ ?_ <;> first | exact trivial | intro hq) | refine L.call (h := by intro W hW; apply hA W hW.base (hW.old hg)) (k := ?_)))
              (refine retw ?_)
              exact hv _ rfl
            · simp only [oA] at hA
              cases oR : repOk A v N
              · rw [oR] at hV
                rw [if_neg (by simp [oR])] at hv
                (repeat' (first | intro (b : Nat) | refine go ?_ | (refine br ?_ ?_ <;> first | exact trivial | intro hq) | refine L.call (h := by intro W hW; first | apply hA W hW.base (hW.old hg) | apply hB W hW.base) (k := ?_)))
                all_goals try (exfalso; omega)
                ((repeat (refine C.seq ?_)); apply C.drawsw 3 b6 (.cells 56 [.int .i64 0, .int .i64 0, .int .i64 0, .int .i64 0, .int .i64 0, .int .i64 0, .int .i64 0, .int .i64 0, .int .i64 0, .int .i64 0, .int .i64 0, .int .i64 0, .int .i64 0, .int .i64 0, .int .i64 N]) 4 [some _, some _, none, some _])
                (repeat (first | intro (b : Nat) | refine gg ?_))
                (first | (apply G.stk; exact rfl; exact rfl; exact rfl; exact rfl; exact rfl; exact rfl; exact rfl; (· (repeat (first | exact Wr.nil | apply Wr.put | apply Wr.skip)))) | (apply G.st1; exact rfl; exact rfl; exact rfl; exact rfl; exact rfl; exact rfl; (· (repeat (first | exact Wr.nil | apply Wr.put | apply Wr.skip)))))
                (repeat (first | intro (b : Nat) | refine gg ?_))
                (repeat' (first | intro (b : Nat) | refine go ?_ | (refine br ?_ ?_ <;> first | exact trivial | intro hq) | refine L.call (h := by intro W hW; apply hV W hW.base) (k := ?_)))
                (refine retw ?_)
                exact hv _ rfl
              · rw [oR] at hV
                rw [if_pos ⟨oA, oR⟩] at hv
                (repeat' (first | intro (b : Nat) | refine go ?_ | (refine br ?_ ?_ <;> first | exact trivial | intro hq) | refine L.call (h := by intro W hW; first | apply hA W hW.base (hW.old hg) | apply hB W hW.base) (k := ?_)))
                all_goals try (exfalso; omega)
                ((repeat (refine C.seq ?_)); apply C.drawsw 3 b6 (.cells 56 [.int .i64 0, .int .i64 0, .int .i64 0, .int .i64 0, .int .i64 0, .int .i64 0, .int .i64 0, .int .i64 0, .int .i64 0, .int .i64 0, .int .i64 0, .int .i64 0, .int .i64 0, .int .i64 0, .int .i64 N]) 4 [some _, some _, none, some _])
                (repeat (first | intro (b : Nat) | refine gg ?_))
                (first | (apply G.stk; exact rfl; exact rfl; exact rfl; exact rfl; exact rfl; exact rfl; exact rfl; (· (repeat (first | exact Wr.nil | apply Wr.put | apply Wr.skip)))) | (apply G.st1; exact rfl; exact rfl; exact rfl; exact rfl; exact rfl; exact rfl; (· (repeat (first | exact Wr.nil | apply Wr.put | apply Wr.skip)))))
                (repeat (first | intro (b : Nat) | refine gg ?_))
                (repeat' (first | intro (b : Nat) | refine go ?_ | (refine br ?_ ?_ <;> first | exact trivial | intro hq) | refine L.call (h := by intro W hW; apply hV W hW.base) (k := ?_)))
                (refine retw ?_)
                exact hv _ rfl

end D
end Go.Proofs.YtpgbmohocfcjpaaGreatDoor
