/- Walks: offsets and stamps of texts of the program. -/
import Derived.Test.YtboglbdhibcacaaGreatDoorVl
import Derived.Test.YtboglbdhibcacaaGreatDoorVk
namespace Go.Proofs.YtboglbdhibcacaaGreatDoor
set_option linter.unusedVariables false
set_option linter.unusedSimpArgs false
set_option maxRecDepth 100000
set_option maxHeartbeats 1000000
namespace D
open Go.RowKit
open Go.PlainAid (bt bt_nonneg bt_le bt_end)
attribute [local irreducible] Calls

theorem a_DigitsGet (s : ByteArray) (q : Int) (p m : Nat) (k : Int) (hq : q = (p : Int)) (hk : k = (m : Int)) (hs : s.size ≤ 1000000000000) (hp : p ≤ s.size) (hm : 1 ≤ m ∧ m ≤ 6) (w : World) (hb : D.Base w) :
    Calls Tryz.prog 65 #[.string s, .int .i64 q, .int .i64 k] w fun e w' => e = .returned (.tuple #[.int .i64 (numV s p m), .bool (allD s p m)]) ∧ Below w.heap.size w w' := by
  have hr : inR k 1 6 = true := inR_true.2 (by omega)
  subst hq
  refine enter Tryz.func65 rfl Tryz.ntmps65 rfl (by assumption) ?_
  (repeat' (first | intro (b : Nat) | refine go ?_ | (refine br ?_ ?_ <;> first | exact trivial | intro hq) | refine L.call (h := by intro W hW; apply rvb hr (a_within _ _ _ W hW.base)) (k := ?_)))
  revert b; intro r
  (refine L.tcallb r (h := by intro W hW; exact n_any _ _ _ _ p m _ hk hs hp (by omega) W hW) (k := ?_))
  (repeat (first | intro (b : Nat) | refine go ?_))
  (refine ret ?_; try exact rfl)

theorem six_bytes {s : ByteArray} (hz : s.size = 6) (c0 : bt s 0 = 43) (c1 : bt s 1 = 48) (c2 : bt s 2 = 48) (c3 : bt s 3 = 58) (c4 : bt s 4 = 48) (c5 : bt s 5 = 48) : s = strOfNums [43, 48, 48, 58, 48, 48] := by
  rw [eq_strOf (by intro x hx; simp only [List.mem_cons, List.not_mem_nil, or_false] at hx; omega)]
  refine ⟨hz, fun i hi => ?_⟩
  have hi' : i < 6 := hi
  rcases (by omega : i = 0 ∨ i = 1 ∨ i = 2 ∨ i = 3 ∨ i = 4 ∨ i = 5) with rfl | rfl | rfl | rfl | rfl | rfl <;> assumption

/-- When the text of the offset that was read is the text itself. -/
theorem of_cmp {s : ByteArray} (h6 : s.size = 6) (h3 : bt s 3 = 58) (a1 : allD s 1 2 = true) (a2 : allD s 4 2 = true) (hne : ¬ s = strOfNums [43, 48, 48, 58, 48, 48]) :
    (ofT (if bt s 0 = 45 then -(60 * numL s 1 2 + numL s 4 2) else 60 * numL s 1 2 + numL s 4 2) = s ↔ ofOk s = true) := by
  have n1 := numL_bd a1
  have n2 := numL_bd a2
  have p2 : p10 2 = 100 := rfl
  rw [p2] at n1 n2
  have d1 := allD_at a1 0 (by omega)
  have d2 := allD_at a1 1 (by omega)
  have d4 := allD_at a2 0 (by omega)
  have d5 := allD_at a2 1 (by omega)
  simp only [Nat.add_zero, Nat.reduceAdd] at d1 d2 d4 d5
  have e1 : numL s 1 2 = 10 * (bt s 1 - 48) + (bt s 2 - 48) := by simp [numL]
  have e2 : numL s 4 2 = 10 * (bt s 4 - 48) + (bt s 5 - 48) := by simp [numL]
  have ek : ofOk s = true ↔ numL s 1 2 ≤ 23 ∧ numL s 4 2 ≤ 59 ∧ (bt s 0 = 43 ∨ (bt s 0 = 45 ∧ 0 < 60 * numL s 1 2 + numL s 4 2)) := by
    unfold ofOk
    rw [a1, a2, isB_iff.2 ⟨by omega, h3⟩, decide_eq_true h6, decide_eq_false (show ¬ (s.size = 1 ∧ (bt s 0 = 90 ∨ bt s 0 = 122)) by omega)]
    simp
  rw [ek]
  constructor
  · intro h
    obtain ⟨o, ho⟩ : ∃ o, o = (if bt s 0 = 45 then -(60 * numL s 1 2 + numL s 4 2) else 60 * numL s 1 2 + numL s 4 2) := ⟨_, rfl⟩
    rw [← ho] at h
    cases hr : inR o (-1439) 1439 with
    | false =>
      have e0 : ofT o = ⟨#[]⟩ := if_neg (by simp [hr])
      rw [e0] at h
      have : s.size = 0 := by rw [← h]; rfl
      omega
    | true =>
      have e0 : ofT o = strOfNums (ofL o) := if_pos hr
      rw [e0] at h
      have hr' := inR_true.1 hr
      by_cases h0 : o = 0
      · rw [h0] at h
        have : (strOfNums (ofL 0)).size = 1 := by rw [strOfNums_size]; rfl
        rw [h] at this
        omega
      · have e : ofL o = ofP o (if o < 0 then -o else o) := if_neg h0
        rw [e] at h
        obtain ⟨k1, k2, k3, k4, k5, k6, k7⟩ := ofP_read (by split <;> omega) h
        rw [k5, k7]
        clear ho e0 e h
        by_cases hneg : o < 0
        · simp only [if_pos hneg] at *
          omega
        · simp only [if_neg hneg] at *
          omega
  · rintro ⟨k1, k2, k3⟩
    rcases k3 with k3 | ⟨k3, k4⟩
    · rw [if_neg (by omega)]
      by_cases h0 : 60 * numL s 1 2 + numL s 4 2 = 0
      · exact (hne (six_bytes h6 k3 (by omega) (by omega) h3 (by omega) (by omega))).elim
      · have hr : inR (60 * numL s 1 2 + numL s 4 2) (-1439) 1439 = true := inR_true.2 (by omega)
        have e : ofL (60 * numL s 1 2 + numL s 4 2) = ofP (60 * numL s 1 2 + numL s 4 2) (60 * numL s 1 2 + numL s 4 2) := by
          unfold ofL
          rw [if_neg h0, if_neg (by omega)]
        unfold ofT
        rw [if_pos hr, e, ofP_iff (by omega), if_neg (by omega)]
        refine ⟨h6, k3, ?_, ?_, h3, ?_, ?_⟩ <;> omega
    · rw [if_pos k3]
      have hr : inR (-(60 * numL s 1 2 + numL s 4 2)) (-1439) 1439 = true := inR_true.2 (by omega)
      have e : ofL (-(60 * numL s 1 2 + numL s 4 2)) = ofP (-(60 * numL s 1 2 + numL s 4 2)) (60 * numL s 1 2 + numL s 4 2) := by
        unfold ofL
        rw [if_neg (by omega), if_pos (by omega), Int.neg_neg]
      unfold ofT
      rw [if_pos hr, e, ofP_iff (by omega), if_pos (by omega)]
      refine ⟨h6, k3, ?_, ?_, h3, ?_, ?_⟩ <;> omega

theorem a_OffsetFrom (s : ByteArray) (hs : s.size ≤ 1000000000000) (w : World) (hb : D.Base w) : Calls Tryz.prog 161 #[.string s] w fun e w' => e = .returned (ofV s) ∧ Below w.heap.size w w' := by
  by_cases hZ : s = ⟨#[90]⟩
  · subst hZ
    have e : ofV ⟨#[90]⟩ = .tuple #[.int .i64 0, .bool true] := rfl
    rw [e]
    refine enter Tryz.func161 rfl Tryz.ntmps161 rfl (by assumption) ?_
    (repeat' (first | intro (b : Nat) | refine go ?_ | (refine br ?_ ?_ <;> first | exact trivial | intro hq)))
    all_goals (try (exfalso; contradiction))
    all_goals (refine ret ?_; try exact rfl)
  by_cases hz : s = ⟨#[122]⟩
  · subst hz
    have e : ofV ⟨#[122]⟩ = .tuple #[.int .i64 0, .bool true] := rfl
    rw [e]
    refine enter Tryz.func161 rfl Tryz.ntmps161 rfl (by assumption) ?_
    (repeat' (first | intro (b : Nat) | refine go ?_ | (refine br ?_ ?_ <;> first | exact trivial | intro hq)))
    all_goals (try (exfalso; contradiction))
    all_goals (refine ret ?_; try exact rfl)
  by_cases h0 : s = ⟨#[43, 48, 48, 58, 48, 48]⟩
  · subst h0
    have e : ofV ⟨#[43, 48, 48, 58, 48, 48]⟩ = .tuple #[.int .i64 0, .bool true] := rfl
    rw [e]
    refine enter Tryz.func161 rfl Tryz.ntmps161 rfl (by assumption) ?_
    (repeat' (first | intro (b : Nat) | refine go ?_ | (refine br ?_ ?_ <;> first | exact trivial | intro hq)))
    all_goals (try (exfalso; contradiction))
    all_goals (refine ret ?_; try exact rfl)
  have hn1 : ¬ (s.size = 1 ∧ (bt s 0 = 90 ∨ bt s 0 = 122)) := by
    rintro ⟨k1, k2 | k2⟩
    · exact hZ (one_byte (by omega) k1 k2)
    · exact hz (one_byte (by omega) k1 k2)
  have ek : ofOk s = (decide (s.size = 6) && isB s 3 58 && allD s 1 2 && allD s 4 2 && decide (numL s 1 2 ≤ 23 ∧ numL s 4 2 ≤ 59 ∧ (bt s 0 = 43 ∨ (bt s 0 = 45 ∧ 0 < 60 * numL s 1 2 + numL s 4 2)))) := by
    unfold ofOk
    rw [decide_eq_false hn1, Bool.false_or]
  have hbt := bt_in s 0
  by_cases h6 : s.size = 6
  · have g1 : ∀ W, D.Base W → Calls Tryz.prog 65 #[.string s, .int .i64 1, .int .i64 2] W fun e w' => e = .returned (.tuple #[.int .i64 (numV s 1 2), .bool (allD s 1 2)]) ∧ Below W.heap.size W w' := fun W hW => a_DigitsGet s 1 1 2 2 rfl rfl hs (by omega) (by omega) W hW
    have g2 : ∀ W, D.Base W → Calls Tryz.prog 65 #[.string s, .int .i64 4, .int .i64 2] W fun e w' => e = .returned (.tuple #[.int .i64 (numV s 4 2), .bool (allD s 4 2)]) ∧ Below W.heap.size W w' := fun W hW => a_DigitsGet s 4 4 2 2 rfl rfl hs (by omega) (by omega) W hW
    have v1 := numV_bd s 1 (m := 2) (by omega)
    have v2 := numV_bd s 4 (m := 2) (by omega)
    have p2 : p10 2 = 100 := rfl
    rw [p2] at v1 v2
    by_cases h3 : bt s 3 = 58
    · by_cases a1 : allD s 1 2 = true
      · by_cases a2 : allD s 4 2 = true
        · have hcmp := of_cmp h6 h3 a1 a2 (by intro h; exact h0 h)
          have eN : ofN s = if bt s 0 = 45 then -(60 * numL s 1 2 + numL s 4 2) else 60 * numL s 1 2 + numL s 4 2 := if_neg (by omega)
          rw [numV_eq a1] at g1 v1
          rw [numV_eq a2] at g2 v2
          rw [a1] at g1
          rw [a2] at g2
          cases hok : ofOk s with
          | true =>
            have e : ofV s = .tuple #[.int .i64 (ofN s), .bool true] := if_pos hok
            have hT := hcmp.2 hok
            rw [e, eN]
            clear ek eN hcmp hok hn1 e
            generalize numL s 1 2 = x1 at *
            generalize numL s 4 2 = x2 at *
            by_cases hneg : bt s 0 = 45
            · rw [if_pos hneg] at hT ⊢
              have hneg' : bt s (0 : Int).toNat = 45 := hneg
              have hO := a_OffsetText (-(60 * x1 + x2))
              rw [hT] at hO
              refine enter Tryz.func161 rfl Tryz.ntmps161 rfl (by assumption) ?_
              (repeat' (first | intro (b : Nat) | refine go ?_ | (refine br ?_ ?_ <;> first | exact trivial | intro hq) | refine L.call (h := by intro W hW; first | apply g1 W hW.base | apply g2 W hW.base | apply hO W hW.base) (k := ?_)))
              all_goals (try (exfalso; contradiction))
              all_goals (refine ret ?_; try exact rfl)
            · rw [if_neg hneg] at hT ⊢
              have hneg' : ¬ bt s (0 : Int).toNat = 45 := hneg
              have hO := a_OffsetText (60 * x1 + x2)
              rw [hT] at hO
              refine enter Tryz.func161 rfl Tryz.ntmps161 rfl (by assumption) ?_
              (repeat' (first | intro (b : Nat) | refine go ?_ | (refine br ?_ ?_ <;> first | exact trivial | intro hq) | refine L.call (h := by intro W hW; first | apply g1 W hW.base | apply g2 W hW.base | apply hO W hW.base) (k := ?_)))
              all_goals (try (exfalso; contradiction))
              all_goals (refine ret ?_; try exact rfl)
          | false =>
            have e : ofV s = .tuple #[.int .i64 0, .bool false] := if_neg (by simp [hok])
            have hT : ¬ ofT (if bt s 0 = 45 then -(60 * numL s 1 2 + numL s 4 2) else 60 * numL s 1 2 + numL s 4 2) = s := fun h => by
              rw [hcmp.1 h] at hok
              cases hok
            rw [e]
            clear ek eN hcmp hok hn1 e
            generalize numL s 1 2 = x1 at *
            generalize numL s 4 2 = x2 at *
            by_cases hneg : bt s 0 = 45
            · rw [if_pos hneg] at hT
              have hneg' : bt s (0 : Int).toNat = 45 := hneg
              have hO := a_OffsetText (-(60 * x1 + x2))
              have hT' : ¬ ofT (-(60 * x1 + x2)) = s := hT
              generalize ofT (-(60 * x1 + x2)) = u at *
              clear hT
              refine enter Tryz.func161 rfl Tryz.ntmps161 rfl (by assumption) ?_
              (repeat' (first | intro (b : Nat) | refine go ?_ | (refine br ?_ ?_ <;> first | exact trivial | intro hq) | refine L.call (h := by intro W hW; first | apply g1 W hW.base | apply g2 W hW.base | apply hO W hW.base) (k := ?_)))
              all_goals (try (exfalso; contradiction))
              all_goals (refine ret ?_; try exact rfl)
            · rw [if_neg hneg] at hT
              have hneg' : ¬ bt s (0 : Int).toNat = 45 := hneg
              have hO := a_OffsetText (60 * x1 + x2)
              have hT' : ¬ ofT (60 * x1 + x2) = s := hT
              generalize ofT (60 * x1 + x2) = u at *
              clear hT
              refine enter Tryz.func161 rfl Tryz.ntmps161 rfl (by assumption) ?_
              (repeat' (first | intro (b : Nat) | refine go ?_ | (refine br ?_ ?_ <;> first | exact trivial | intro hq) | refine L.call (h := by intro W hW; first | apply g1 W hW.base | apply g2 W hW.base | apply hO W hW.base) (k := ?_)))
              all_goals (try (exfalso; contradiction))
              all_goals (refine ret ?_; try exact rfl)
        · have a2 : allD s 4 2 = false := by simpa using a2
          have hok : ofOk s = false := by rw [ek, a2]; simp
          have e : ofV s = .tuple #[.int .i64 0, .bool false] := if_neg (by simp [hok])
          rw [a1] at g1
          rw [a2] at g2
          rw [e]
          clear ek hok e hn1
          generalize numV s 1 2 = x1 at *
          generalize numV s 4 2 = x2 at *
          refine enter Tryz.func161 rfl Tryz.ntmps161 rfl (by assumption) ?_
          (repeat' (first | intro (b : Nat) | refine go ?_ | (refine br ?_ ?_ <;> first | exact trivial | intro hq) | refine L.call (h := by intro W hW; first | apply g1 W hW.base | apply g2 W hW.base) (k := ?_)))
          all_goals (try (exfalso; contradiction))
          all_goals (refine ret ?_; try exact rfl)
      · have a1 : allD s 1 2 = false := by simpa using a1
        have hok : ofOk s = false := by rw [ek, a1]; simp
        have e : ofV s = .tuple #[.int .i64 0, .bool false] := if_neg (by simp [hok])
        rw [a1] at g1
        rw [e]
        clear ek hok e hn1
        generalize numV s 1 2 = x1 at *
        generalize numV s 4 2 = x2 at *
        refine enter Tryz.func161 rfl Tryz.ntmps161 rfl (by assumption) ?_
        (repeat' (first | intro (b : Nat) | refine go ?_ | (refine br ?_ ?_ <;> first | exact trivial | intro hq) | refine L.call (h := by intro W hW; first | apply g1 W hW.base | apply g2 W hW.base) (k := ?_)))
        all_goals (try (exfalso; contradiction))
        all_goals (refine ret ?_; try exact rfl)
    · have hok : ofOk s = false := by rw [ek]; simp [isB, h3]
      have e : ofV s = .tuple #[.int .i64 0, .bool false] := if_neg (by simp [hok])
      rw [e]
      clear ek hok e hn1 g1 g2 v1 v2
      refine enter Tryz.func161 rfl Tryz.ntmps161 rfl (by assumption) ?_
      (repeat' (first | intro (b : Nat) | refine go ?_ | (refine br ?_ ?_ <;> first | exact trivial | intro hq)))
      all_goals (try (exfalso; contradiction))
      all_goals (refine ret ?_; try exact rfl)
  · have hok : ofOk s = false := by rw [ek, decide_eq_false h6]; simp
    have e : ofV s = .tuple #[.int .i64 0, .bool false] := if_neg (by simp [hok])
    rw [e]
    clear ek hok e hn1
    refine enter Tryz.func161 rfl Tryz.ntmps161 rfl (by assumption) ?_
    (repeat' (first | intro (b : Nat) | refine go ?_ | (refine br ?_ ?_ <;> first | exact trivial | intro hq)))
    all_goals (try (exfalso; contradiction))
    all_goals (refine ret ?_; try exact rfl)

end D
end Go.Proofs.YtboglbdhibcacaaGreatDoor

namespace Go.Proofs.YtboglbdhibcacaaGreatDoor
set_option linter.unusedVariables false
set_option linter.unusedSimpArgs false
set_option maxRecDepth 100000
set_option maxHeartbeats 1000000
namespace D
open Go.RowKit
open Go.PlainAid (bt bt_nonneg bt_le bt_end)
attribute [local irreducible] Calls

/-- The program's two ways to look for a time. -/
theorem a_ClockFrom (s : ByteArray) (hs : s.size ≤ 1000000000000) (w : World) (hb : D.Base w) (hg : Hdl w) : Calls Tryz.prog 160 #[.string s] w fun e w' => e = .returned (cfV s) ∧ Below w.heap.size w w' := by
  refine enter Tryz.func160 rfl Tryz.ntmps160 rfl (by assumption) ?_
  (repeat (first | intro (b : Nat) | refine go ?_))
  refine C.rounds 4 ?_
  (repeat (first | intro (b : Nat) | refine go ?_))
  revert b; intro r1
  (refine L.tcallR r1 (h := by intro W hW; exact a_clock1 _ _ r1 s hs W hW) (k := ?_); intro v H hR)
  simp only [ClkR, b2, if_true, Nat.mul_one, Nat.reduceAdd] at hR
  rcases hR with ⟨hk, rfl, q, rfl⟩ | ⟨hk, be, p, q, rfl, rfl⟩
  · rw [show cfV s = .tuple #[.agg #[.int .i64 (numL s 0 2), .int .i64 (numL s 3 2), .int .i64 (numL s 6 2), .int .i64 (frK s 8)], .bool true, .bool true] from if_pos hk]
    clear hk
    generalize numL s 0 2 = y4 at *
    generalize numL s 3 2 = y5 at *
    generalize numL s 6 2 = y6 at *
    generalize frK s 8 = y7 at *
    (repeat (first | intro (b : Nat) | refine go ?_))
    (refine L.call (h := by intro W hW; exact as_no _ W hW.base) (k := ?_))
    (repeat (first | intro (b : Nat) | refine go ?_))
    (refine ret ?_; try exact rfl)
  · (repeat (first | intro (b : Nat) | refine go ?_))
    revert b; intro bt1
    (refine L.tcallb bt1 (h := by intro W hW; exact as_yes _ _ be bt1 _ hg W hW) (k := ?_))
    (repeat (first | intro (b : Nat) | refine go ?_))
    revert b; intro r2
    (refine L.tcallR r2 (h := by intro W hW; exact a_clock0 _ _ r2 s hs W hW) (k := ?_); intro v H hR)
    simp only [ClkR, b2, Bool.false_eq_true, if_false, Nat.mul_zero, Nat.add_zero] at hR
    rcases hR with ⟨hk2, rfl, q2, rfl⟩ | ⟨hk2, be2, p2, q2, rfl, rfl⟩
    · rw [show cfV s = .tuple #[.agg #[.int .i64 (numL s 0 2), .int .i64 (numL s 2 2), .int .i64 (numL s 4 2), .int .i64 (frK s 6)], .bool false, .bool true] from (if_neg (by simp [hk])).trans (if_pos hk2)]
      clear hk hk2
      generalize numL s 0 2 = y4 at *
      generalize numL s 2 2 = y5 at *
      generalize numL s 4 2 = y6 at *
      generalize frK s 6 = y7 at *
      (repeat (first | intro (b : Nat) | refine go ?_))
      (refine L.call (h := by intro W hW; exact as_no _ W hW.base) (k := ?_))
      (repeat (first | intro (b : Nat) | refine go ?_))
      (refine ret ?_; try exact rfl)
    · rw [show cfV s = .tuple #[.agg #[.int .i64 0, .int .i64 0, .int .i64 0, .int .i64 0], .bool false, .bool false] from (if_neg (by simp [hk])).trans (if_neg (by simp [hk2]))]
      clear hk hk2
      (repeat (first | intro (b : Nat) | refine go ?_))
      revert b; intro bt2
      (refine L.tcallb bt2 (h := by intro W hW; exact as_yes _ _ be2 bt2 _ hg W hW) (k := ?_))
      (repeat (first | intro (b : Nat) | refine go ?_))
      (refine ret ?_; try exact rfl)

theorem a_StampText (y m d h i s k o : Int) (w : World) (hb : D.Base w) : Calls Tryz.prog 69 #[.agg #[.int .i64 y, .int .i64 m, .int .i64 d, .int .i64 h, .int .i64 i, .int .i64 s, .int .i64 k, .int .i64 o]] w fun e w' => e = .returned (.string (stT y m d h i s k o)) ∧ Below w.heap.size w w' := by
  cases hv : sval y m d h i s k o with
  | false =>
    have e : stT y m d h i s k o = ⟨#[]⟩ := if_neg (by simp [hv])
    rw [e]
    refine enter Tryz.func69 rfl Tryz.ntmps69 rfl (by assumption) ?_
    (repeat' (first | intro (b : Nat) | refine go ?_ | (refine br ?_ ?_ <;> first | exact trivial | intro hq) | refine L.call (h := by intro W hW; apply rvb hv (a_StampValid _ _ _ _ _ _ _ _ W hW.base)) (k := ?_) | refine gg ?_ | refine G.call (h := by intro W hW; apply rvb hv (a_StampValid _ _ _ _ _ _ _ _ W hW.base)) (k := ?_) | (apply C.draww (id := 3) 15 [none, some _, none, none, some _, none, none, some _, some _, none, none, some _, some _, none, none])))
    all_goals (refine ret ?_; try exact rfl)
  | true =>
    have e : stT y m d h i s k o = strOfNums (stL y m d h i s k o) := if_pos hv
    obtain ⟨h1, h2, h3, h4⟩ := sval_parts hv
    have hT := a_dateText0 y m d true h1
    have hO : ∀ W, D.Base W → Calls Tryz.prog 112 #[.int .i64 o] W fun e w' => e = .returned (.string (strOfNums (ofL o))) ∧ Below W.heap.size W w' := fun W hW => rv (congrArg Value.string (if_pos (inR_true.2 ⟨h3, h4⟩))) (a_OffsetText o W hW)
    have hC := a_ClockText h i s k h2
    have l1 : (dtL y m d 0 true).length = 10 := by simp [dtL, hy1, digL_length]
    have l2 := clL_len h i s k
    have l3 := frL_len k
    have l4 := ofL_len o
    have es : strOfNums (stL y m d h i s k o) = strOfNums (dtL y m d 0 true) ++ ⟨#[84]⟩ ++ strOfNums (clL h i s k) ++ strOfNums (ofL o) := by rw [stL_str, str84]
    rw [e, es]
    have z1 : (strOfNums (dtL y m d 0 true)).size = 10 := by rw [strOfNums_size, l1]
    have z2 : (strOfNums (clL h i s k)).size ≤ 12 := by rw [strOfNums_size]; omega
    have z3 : (strOfNums (ofL o)).size ≤ 6 := by rw [strOfNums_size]; omega
    clear l1 l2 l3 l4 es e
    generalize strOfNums (dtL y m d 0 true) = t1 at *
    generalize strOfNums (clL h i s k) = t2 at *
    generalize strOfNums (ofL o) = t3 at *
    refine enter Tryz.func69 rfl Tryz.ntmps69 rfl (by assumption) ?_
    (repeat' (first | intro (b : Nat) | refine go ?_ | (refine br ?_ ?_ <;> first | exact trivial | intro hq) | refine L.call (h := by intro W hW; first | apply rvb hv (a_StampValid _ _ _ _ _ _ _ _ W hW.base) | apply hT W hW.base | apply hC W hW.base | apply hO W hW.base) (k := ?_) | refine gg ?_ | refine G.call (h := by intro W hW; first | apply rvb hv (a_StampValid _ _ _ _ _ _ _ _ W hW.base) | apply hT W hW.base | apply hC W hW.base | apply hO W hW.base) (k := ?_) | (apply C.draww (id := 3) 15 [none, some _, none, none, some _, none, none, some _, some _, none, none, some _, some _, none, none])))
    all_goals (refine ret ?_; try exact rfl)

theorem srV_noA : srV SR.no = .tuple #[.agg #[.int .i64 0, .int .i64 0, .int .i64 0, .int .i64 0, .int .i64 0, .int .i64 0, .int .i64 0, .int .i64 0], .bool false] := rfl

theorem stR_notA {s : ByteArray} {a : Nat} (h : ¬ stAt s a = true) : stR s a = SR.no := if_neg h

theorem cfV_noA {c : ByteArray} (h : clkOk c true = false) : ∃ (a b d e : Int) (co ok : Bool), cfV c = .tuple #[.agg #[.int .i64 a, .int .i64 b, .int .i64 d, .int .i64 e], .bool co, .bool ok] ∧ (ok = false ∨ (ok = true ∧ co = false)) := by
  unfold cfV
  rw [if_neg (by simp [h])]
  split
  · exact ⟨_, _, _, _, _, _, rfl, .inr ⟨rfl, rfl⟩⟩
  · exact ⟨_, _, _, _, _, _, rfl, .inl rfl⟩

theorem ofV_someA (c : ByteArray) : ∃ (a : Int) (ok : Bool), ofV c = .tuple #[.int .i64 a, .bool ok] := by
  unfold ofV
  split
  · exact ⟨_, _, rfl⟩
  · exact ⟨_, _, rfl⟩

/-- What both looks give, as the program puts it together. -/
theorem stR_parts {s : ByteArray} {a : Nat} (hd : dOk s = true) (hsep : sepOk s = true) (ha : 11 ≤ a ∧ a ≤ s.size) :
    (∃ (c1 c2 c3 c4 o : Int) (co ok ok2 : Bool), cfV (s.extract 11 a) = .tuple #[.agg #[.int .i64 c1, .int .i64 c2, .int .i64 c3, .int .i64 c4], .bool co, .bool ok] ∧ ofV (s.extract a s.size) = .tuple #[.int .i64 o, .bool ok2] ∧
      ((ok = true ∧ co = true ∧ ok2 = true ∧ stR s a = ⟨numL s 0 4, numL s 5 2, numL s 8 2, c1, c2, c3, c4, o, true⟩) ∨ ((ok = false ∨ (ok = true ∧ co = false) ∨ (ok = true ∧ co = true ∧ ok2 = false)) ∧ stR s a = SR.no))) := by
  cases hc : clkOk (s.extract 11 a) true with
  | false =>
    obtain ⟨c1, c2, c3, c4, co, ok, ec, hor⟩ := cfV_noA hc
    obtain ⟨o, ok2, eo⟩ := ofV_someA (s.extract a s.size)
    refine ⟨c1, c2, c3, c4, o, co, ok, ok2, ec, eo, .inr ⟨?_, stR_notA fun h => by have := (stAt_iff.1 h).2.2.2.1; rw [hc] at this; cases this⟩⟩
    rcases hor with h | h
    · exact .inl h
    · exact .inr (.inl h)
  | true =>
    have ec : cfV (s.extract 11 a) = .tuple #[.agg #[.int .i64 (numL (s.extract 11 a) 0 2), .int .i64 (numL (s.extract 11 a) 3 2), .int .i64 (numL (s.extract 11 a) 6 2), .int .i64 (frK (s.extract 11 a) 8)], .bool true, .bool true] := if_pos hc
    cases ho : ofOk (s.extract a s.size) with
    | false =>
      have eo : ofV (s.extract a s.size) = .tuple #[.int .i64 0, .bool false] := if_neg (by simp [ho])
      exact ⟨_, _, _, _, _, _, _, _, ec, eo, .inr ⟨.inr (.inr ⟨rfl, rfl, rfl⟩), stR_notA fun h => by have := (stAt_iff.1 h).2.2.2.2; rw [ho] at this; cases this⟩⟩
    | true =>
      have eo : ofV (s.extract a s.size) = .tuple #[.int .i64 (ofN (s.extract a s.size)), .bool true] := if_pos ho
      exact ⟨_, _, _, _, _, _, _, _, ec, eo, .inl ⟨rfl, rfl, rfl, if_pos (stAt_iff.2 ⟨hd, hsep, ha, hc, ho⟩)⟩⟩

end D
end Go.Proofs.YtboglbdhibcacaaGreatDoor
