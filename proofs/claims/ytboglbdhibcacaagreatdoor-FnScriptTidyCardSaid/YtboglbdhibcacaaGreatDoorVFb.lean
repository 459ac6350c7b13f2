/- Walks: stamps of texts of the program, where the date ends as told. -/
import Derived.Test.YtboglbdhibcacaaGreatDoorVF3
namespace Go.Proofs.YtboglbdhibcacaaGreatDoor
set_option linter.unusedVariables false
set_option linter.unusedSimpArgs false
set_option maxRecDepth 100000
set_option maxHeartbeats 1000000
namespace D
open Go.RowKit
open Go.PlainAid (bt bt_nonneg bt_le bt_end)
attribute [local irreducible] Calls

set_option maxHeartbeats 8000000 in
theorem a_SF116 (s : ByteArray) (hs : s.size ≤ 1000000000000) (hd : dOk s = true) (hsep : sepOk s = true) (i1 : isB s 10 84 = false) (i2 : isB s 10 116 = true) (w : World) (hb : D.Base w) (hg : Hdl w) : Calls Tryz.prog 102 #[.string s] w fun e w' => e = .returned (srV (stR s (cutP s))) ∧ Below w.heap.size w w' := by
  refine enter Tryz.func102 rfl Tryz.ntmps102 rfl (by assumption) ?_
  (repeat (first | intro (b : Nat) | refine go ?_))
  revert b; intro r
  have hread : ∀ (w0 : World) (F : SH) (W : World), St w0 ((r, rdB s 0) :: F) W → Calls Tryz.prog 158 #[.agg #[], .pointer (some ⟨r, 0, none⟩), .bool true] W (Turns w0 (.tuple #[.agg #[.int .i64 (numL s 0 4), .int .i64 (numL s 5 2), .int .i64 (numL s 8 2)], .bool true]) ((r, rdB s 10) :: F)) := fun w0 F W hW => by
    have := a_monthRead w0 F r s true hs W hW
    rw [(rdM_ok hd).1, (rdM_ok hd).2] at this
    exact this
  have hz10 := dOk_size hd
  (refine L.tcallb r (h := by intro W hW; exact hread _ _ W hW) (k := ?_))
  clear hread
  have hp : 10 < s.size ∧ (bt s 10 = 84 ∨ bt s 10 = 116 ∨ bt s 10 = 32) := of_decide_eq_true hsep
  obtain ⟨rest, hrest⟩ : ∃ t, s.extract (11 : Int).toNat s.size = t := ⟨_, rfl⟩
  have hrest' : s.extract 11 s.size = rest := hrest
  have hzr : rest.size = s.size - 11 := by rw [← hrest', size_ext (Nat.le_refl _)]
  have hbr : ∀ i, 11 + i < s.size → bt rest i = bt s (11 + i) := fun i hi => by rw [← hrest']; exact bt_extract (Nat.le_refl _) hi
  have hmain : ∀ (e : Int), (e = (cutP s : Int) - 11 ∧ 11 ≤ cutP s) → rest.extract 0 e.toNat = s.extract 11 (cutP s) ∧ rest.extract e.toNat rest.size = s.extract (cutP s) s.size := fun e he => by
    have hc : cutP s ≤ s.size := by unfold cutP; split <;> omega
    have ee : e.toNat = cutP s - 11 := by omega
    rw [ee, ← hrest']
    refine ⟨?_, ?_⟩
    · rw [ext_ext (Nat.le_refl _) (by omega)]
      congr 1
      omega
    · rw [size_ext (Nat.le_refl _), ext_ext2 (Nat.le_refl _) (by omega)]
      congr 1
      omega
  have hsz : ∃ n : Nat, rest.size = n := ⟨_, rfl⟩
  have hL : 12 ≤ s.size → bt rest (((rest.size : Nat) : Int) - 1).toNat = bt s (s.size - 1) := fun h => by
    rw [show (((rest.size : Nat) : Int) - 1).toNat = s.size - 12 by omega, hbr _ (by omega)]
    congr 1
    omega
  have hcut : (11 ≤ cutP s ∧ cutP s ≤ s.size ∧ ((12 ≤ s.size ∧ (bt s (s.size - 1) = 90 ∨ bt s (s.size - 1) = 122) ∧ ((rest.size : Int) - 1) = (cutP s : Int) - 11) ∨ (17 ≤ s.size ∧ ¬ (bt s (s.size - 1) = 90 ∨ bt s (s.size - 1) = 122) ∧ ((rest.size : Int) - 6) = (cutP s : Int) - 11))) ∨ (s.size < 17 ∧ cutP s < 11 ∧ (12 ≤ s.size → ¬ (bt s (s.size - 1) = 90 ∨ bt s (s.size - 1) = 122))) := by
    unfold cutP
    by_cases h1 : 12 ≤ s.size ∧ (bt s (s.size - 1) = 90 ∨ bt s (s.size - 1) = 122)
    · rw [if_pos h1]
      exact .inl ⟨by omega, by omega, .inl ⟨h1.1, h1.2, by omega⟩⟩
    · rw [if_neg h1]
      by_cases h2 : 17 ≤ s.size
      · exact .inl ⟨by omega, by omega, .inr ⟨h2, fun h => h1 ⟨by omega, h⟩, by omega⟩⟩
      · exact .inr ⟨by omega, by omega, fun h3 h4 => h1 ⟨h3, h4⟩⟩
  have hp1 := hp.1
  have hz0 : (s.extract (11 : Int).toNat s.size).size ≤ 1000000000000 := by rw [ByteArray.size_extract]; omega
  rcases hcut with ⟨hc1, hc2, hcc⟩ | ⟨hc1, hc2, hc3⟩
  · obtain ⟨c1, c2, c3, c4, o, co, ok, ok2, ec, eo, hor⟩ := stR_parts hd hsep ⟨hc1, hc2⟩
    have hC := a_ClockFrom (s.extract 11 (cutP s)) (by rw [size_ext hc2]; omega)
    have hF := a_OffsetFrom (s.extract (cutP s) s.size) (by rw [size_ext (Nat.le_refl _)]; omega)
    rw [ec] at hC
    rw [eo] at hF
    clear ec eo hd hsep hp hbr
    generalize numL s 0 4 = y1 at *
    generalize numL s 5 2 = y2 at *
    generalize numL s 8 2 = y3 at *
    generalize stR s (cutP s) = S at hor ⊢
    rcases hcc with ⟨k1, k2, k3⟩ | ⟨k1, k2, k3⟩
    · obtain ⟨m1, m2⟩ := hmain _ ⟨k3, hc1⟩
      rw [← m1] at hC
      rw [← m2] at hF
      rw [← hL k1] at k2
      clear hmain m1 m2 hL hrest'
      (repeat (first | intro (b : Nat) | refine go ?_))
      (refine L.tcallb r (h := by intro W hW; exact t_no _ _ _ s 10 10 84 rfl hs hz10 i1 W hW) (k := ?_))
      (repeat (first | intro (b : Nat) | refine go ?_))
      (refine L.tcallb r (h := by intro W hW; exact t_yes _ _ _ s 10 11 10 116 rfl rfl hs i2 W hW) (k := ?_))
      (repeat (first | intro (b : Nat) | refine go ?_))
      rw [hrest]
      clear hrest
      (repeat' (first | intro (b : Nat) | refine go ?_ | (refine br ?_ ?_ <;> first | exact trivial | intro hq) | refine L.call (h := by intro W hW; first | apply hC W hW.base (hW.old hg) | apply hF W hW.base) (k := ?_)))
      all_goals (refine ret ?_)
      all_goals (clear hC hF; rcases hor with ⟨h1, h2, h3, h4⟩ | ⟨h1, h4⟩ <;> simp_all [srV, SR.no, tupleOf])
    · obtain ⟨m1, m2⟩ := hmain _ ⟨k3, hc1⟩
      rw [← m1] at hC
      rw [← m2] at hF
      rw [← hL (by omega)] at k2
      clear hmain m1 m2 hL hrest'
      (repeat (first | intro (b : Nat) | refine go ?_))
      (refine L.tcallb r (h := by intro W hW; exact t_no _ _ _ s 10 10 84 rfl hs hz10 i1 W hW) (k := ?_))
      (repeat (first | intro (b : Nat) | refine go ?_))
      (refine L.tcallb r (h := by intro W hW; exact t_yes _ _ _ s 10 11 10 116 rfl rfl hs i2 W hW) (k := ?_))
      (repeat (first | intro (b : Nat) | refine go ?_))
      rw [hrest]
      clear hrest
      (repeat' (first | intro (b : Nat) | refine go ?_ | (refine br ?_ ?_ <;> first | exact trivial | intro hq) | refine L.call (h := by intro W hW; first | apply hC W hW.base (hW.old hg) | apply hF W hW.base) (k := ?_)))
      all_goals (refine ret ?_)
      all_goals (clear hC hF; rcases hor with ⟨h1, h2, h3, h4⟩ | ⟨h1, h4⟩ <;> simp_all [srV, SR.no, tupleOf])
  · rw [stR_notA (fun hA => by have := (stAt_iff.1 hA).2.2.1; omega), srV_noA]
    clear hd hsep hp hmain hbr hrest'
    generalize numL s 0 4 = y1 at *
    generalize numL s 5 2 = y2 at *
    generalize numL s 8 2 = y3 at *
    by_cases k1 : 12 ≤ s.size
    · have k2 := hc3 k1
      rw [← hL k1] at k2
      clear hL hc3
      (repeat (first | intro (b : Nat) | refine go ?_))
      (refine L.tcallb r (h := by intro W hW; exact t_no _ _ _ s 10 10 84 rfl hs hz10 i1 W hW) (k := ?_))
      (repeat (first | intro (b : Nat) | refine go ?_))
      (refine L.tcallb r (h := by intro W hW; exact t_yes _ _ _ s 10 11 10 116 rfl rfl hs i2 W hW) (k := ?_))
      (repeat (first | intro (b : Nat) | refine go ?_))
      rw [hrest]
      (repeat' (first | intro (b : Nat) | refine go ?_ | (refine br ?_ ?_ <;> first | exact trivial | intro hq)))
      all_goals (refine ret ?_; try exact rfl)
    · clear hL hc3
      (repeat (first | intro (b : Nat) | refine go ?_))
      (refine L.tcallb r (h := by intro W hW; exact t_no _ _ _ s 10 10 84 rfl hs hz10 i1 W hW) (k := ?_))
      (repeat (first | intro (b : Nat) | refine go ?_))
      (refine L.tcallb r (h := by intro W hW; exact t_yes _ _ _ s 10 11 10 116 rfl rfl hs i2 W hW) (k := ?_))
      (repeat (first | intro (b : Nat) | refine go ?_))
      rw [hrest]
      (repeat' (first | intro (b : Nat) | refine go ?_ | (refine br ?_ ?_ <;> first | exact trivial | intro hq)))
      all_goals (refine ret ?_; try exact rfl)

end D
end Go.Proofs.YtboglbdhibcacaaGreatDoor
