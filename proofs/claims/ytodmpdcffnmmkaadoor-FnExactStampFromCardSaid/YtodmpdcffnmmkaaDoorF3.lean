/- Walks: offsets and stamps of texts of the program. -/
import Derived.Test.YtodmpdcffnmmkaaDoorF2
namespace Go.Proofs.YtodmpdcffnmmkaaDoor
set_option linter.unusedVariables false
set_option linter.unusedSimpArgs false
set_option maxRecDepth 100000
set_option maxHeartbeats 1000000
namespace D
open Go.RowKit
open Go.PlainAid (bt bt_nonneg bt_le bt_end)
attribute [local irreducible] Calls

theorem a_DigitsGet (s : ByteArray) (q : Int) (p m : Nat) (k : Int) (hq : q = (p : Int)) (hk : k = (m : Int)) (hs : s.size ≤ 1000000000000) (hp : p ≤ s.size) (hm : 1 ≤ m ∧ m ≤ 6) (w : World) (hb : D.Base w) :
    Calls Tryd.prog 27 #[.string s, .int .i64 q, .int .i64 k] w fun e w' => e = .returned (.tuple #[.int .i64 (numV s p m), .bool (allD s p m)]) ∧ Below w.heap.size w w' := by
  have hr : inR k 1 6 = true := inR_true.2 (by omega)
  subst hq
  refine enter Tryd.func27 rfl Tryd.ntmps27 rfl (by assumption) ?_
  (repeat' (first | intro (b : Nat) | refine go ?_ | (refine br ?_ ?_ <;> first | exact trivial | intro hq) | refine L.call (h := by intro W hW; apply rvb hr (a_within _ _ _ W hW.base)) (k := ?_)))
  revert b; intro r
  (refine L.tcallb r (h := by intro W hW; exact n_any _ _ _ _ p m _ hk hs hp (by omega) W hW) (k := ?_))
  (repeat (first | intro (b : Nat) | refine go ?_))
  (refine ret ?_; try exact rfl)

theorem six_bytes {s : ByteArray} (hz : s.size = 6) (c0 : bt s 0 = 43) (c1 : bt s 1 = 48) (c2 : bt s 2 = 48) (c3 : bt s 3 = 58) (c4 : bt s 4 = 48) (c5 : bt s 5 = 48) : s = strOfNums [43, 48, 48, 58, 48, 48] := by
  rw [eq_strOf (by intro x hx; simp only [List.mem_cons, List.not_mem_nil, or_false] at hx; omega)]
  refine ⟨hz, fun i hi => ?_⟩
  have hi' : i < 6 := hi
  rcases (by omega : i = 0 ∨ i = 1 ∨ i = 2 ∨ i = 3 ∨ i = 4 ∨ i = 5) with rfl | rfl | rfl | rfl | rfl | rfl <;> assumption

/-- When the text of the offset that was read is the text itself. -/
theorem of_cmp {s : ByteArray} (h6 : s.size = 6) (h3 : bt s 3 = 58) (a1 : allD s 1 2 = true) (a2 : allD s 4 2 = true) (hne : ¬ s = strOfNums [43, 48, 48, 58, 48, 48]) :
    (ofT (if bt s 0 = 45 then -(60 * numL s 1 2 + numL s 4 2) else 60 * numL s 1 2 + numL s 4 2) = s ↔ ofOk s = true) := by
  have n1 := numL_bd a1
  have n2 := numL_bd a2
  have p2 : p10 2 = 100 := rfl
  rw [p2] at n1 n2
  have d1 := allD_at a1 0 (by omega)
  have d2 := allD_at a1 1 (by omega)
  have d4 := allD_at a2 0 (by omega)
  have d5 := allD_at a2 1 (by omega)
  simp only [Nat.add_zero, Nat.reduceAdd] at d1 d2 d4 d5
  have e1 : numL s 1 2 = 10 * (bt s 1 - 48) + (bt s 2 - 48) := by simp [numL]
  have e2 : numL s 4 2 = 10 * (bt s 4 - 48) + (bt s 5 - 48) := by simp [numL]
  have ek : ofOk s = true ↔ numL s 1 2 ≤ 23 ∧ numL s 4 2 ≤ 59 ∧ (bt s 0 = 43 ∨ (bt s 0 = 45 ∧ 0 < 60 * numL s 1 2 + numL s 4 2)) := by
    unfold ofOk
    rw [a1, a2, isB_iff.2 ⟨by omega, h3⟩, decide_eq_true h6, decide_eq_false (show ¬ (s.size = 1 ∧ (bt s 0 = 90 ∨ bt s 0 = 122)) by omega)]
    simp
  rw [ek]
  constructor
  · intro h
    obtain ⟨o, ho⟩ : ∃ o, o = (if bt s 0 = 45 then -(60 * numL s 1 2 + numL s 4 2) else 60 * numL s 1 2 + numL s 4 2) := ⟨_, rfl⟩
    rw [← ho] at h
    cases hr : inR o (-1439) 1439 with
    | false =>
      have e0 : ofT o = ⟨#[]⟩ := if_neg (by simp [hr])
      rw [e0] at h
      have : s.size = 0 := by rw [← h]; rfl
      omega
    | true =>
      have e0 : ofT o = strOfNums (ofL o) := if_pos hr
      rw [e0] at h
      have hr' := inR_true.1 hr
      by_cases h0 : o = 0
      · rw [h0] at h
        have : (strOfNums (ofL 0)).size = 1 := by rw [strOfNums_size]; rfl
        rw [h] at this
        omega
      · have e : ofL o = ofP o (if o < 0 then -o else o) := if_neg h0
        rw [e] at h
        obtain ⟨k1, k2, k3, k4, k5, k6, k7⟩ := ofP_read (by split <;> omega) h
        rw [k5, k7]
        clear ho e0 e h
        by_cases hneg : o < 0
        · simp only [if_pos hneg] at *
          omega
        · simp only [if_neg hneg] at *
          omega
  · rintro ⟨k1, k2, k3⟩
    rcases k3 with k3 | ⟨k3, k4⟩
    · rw [if_neg (by omega)]
      by_cases h0 : 60 * numL s 1 2 + numL s 4 2 = 0
      · exact (hne (six_bytes h6 k3 (by omega) (by omega) h3 (by omega) (by omega))).elim
      · have hr : inR (60 * numL s 1 2 + numL s 4 2) (-1439) 1439 = true := inR_true.2 (by omega)
        have e : ofL (60 * numL s 1 2 + numL s 4 2) = ofP (60 * numL s 1 2 + numL s 4 2) (60 * numL s 1 2 + numL s 4 2) := by
          unfold ofL
          rw [if_neg h0, if_neg (by omega)]
        unfold ofT
        rw [if_pos hr, e, ofP_iff (by omega), if_neg (by omega)]
        refine ⟨h6, k3, ?_, ?_, h3, ?_, ?_⟩ <;> omega
    · rw [if_pos k3]
      have hr : inR (-(60 * numL s 1 2 + numL s 4 2)) (-1439) 1439 = true := inR_true.2 (by omega)
      have e : ofL (-(60 * numL s 1 2 + numL s 4 2)) = ofP (-(60 * numL s 1 2 + numL s 4 2)) (60 * numL s 1 2 + numL s 4 2) := by
        unfold ofL
        rw [if_neg (by omega), if_pos (by omega), Int.neg_neg]
      unfold ofT
      rw [if_pos hr, e, ofP_iff (by omega), if_pos (by omega)]
      refine ⟨h6, k3, ?_, ?_, h3, ?_, ?_⟩ <;> omega

theorem a_OffsetFrom (s : ByteArray) (hs : s.size ≤ 1000000000000) (w : World) (hb : D.Base w) : Calls Tryd.prog 14 #[.string s] w fun e w' => e = .returned (ofV s) ∧ Below w.heap.size w w' := by
  by_cases hZ : s = ⟨#[90]⟩
  · subst hZ
    have e : ofV ⟨#[90]⟩ = .tuple #[.int .i64 0, .bool true] := rfl
    rw [e]
    refine enter Tryd.func14 rfl Tryd.ntmps14 rfl (by assumption) ?_
    (repeat' (first | intro (b : Nat) | refine go ?_ | (refine br ?_ ?_ <;> first | exact trivial | intro hq)))
    all_goals (try (exfalso; contradiction))
    all_goals (refine ret ?_; try exact rfl)
  by_cases hz : s = ⟨#[122]⟩
  · subst hz
    have e : ofV ⟨#[122]⟩ = .tuple #[.int .i64 0, .bool true] := rfl
    rw [e]
    refine enter Tryd.func14 rfl Tryd.ntmps14 rfl (by assumption) ?_
    (repeat' (first | intro (b : Nat) | refine go ?_ | (refine br ?_ ?_ <;> first | exact trivial | intro hq)))
    all_goals (try (exfalso; contradiction))
    all_goals (refine ret ?_; try exact rfl)
  by_cases h0 : s = ⟨#[43, 48, 48, 58, 48, 48]⟩
  · subst h0
    have e : ofV ⟨#[43, 48, 48, 58, 48, 48]⟩ = .tuple #[.int .i64 0, .bool true] := rfl
    rw [e]
    refine enter Tryd.func14 rfl Tryd.ntmps14 rfl (by assumption) ?_
    (repeat' (first | intro (b : Nat) | refine go ?_ | (refine br ?_ ?_ <;> first | exact trivial | intro hq)))
    all_goals (try (exfalso; contradiction))
    all_goals (refine ret ?_; try exact rfl)
  have hn1 : ¬ (s.size = 1 ∧ (bt s 0 = 90 ∨ bt s 0 = 122)) := by
    rintro ⟨k1, k2 | k2⟩
    · exact hZ (one_byte (by omega) k1 k2)
    · exact hz (one_byte (by omega) k1 k2)
  have ek : ofOk s = (decide (s.size = 6) && isB s 3 58 && allD s 1 2 && allD s 4 2 && decide (numL s 1 2 ≤ 23 ∧ numL s 4 2 ≤ 59 ∧ (bt s 0 = 43 ∨ (bt s 0 = 45 ∧ 0 < 60 * numL s 1 2 + numL s 4 2)))) := by
    unfold ofOk
    rw [decide_eq_false hn1, Bool.false_or]
  have hbt := bt_in s 0
  by_cases h6 : s.size = 6
  · have g1 : ∀ W, D.Base W → Calls Tryd.prog 27 #[.string s, .int .i64 1, .int .i64 2] W fun e w' => e = .returned (.tuple #[.int .i64 (numV s 1 2), .bool (allD s 1 2)]) ∧ Below W.heap.size W w' := fun W hW => a_DigitsGet s 1 1 2 2 rfl rfl hs (by omega) (by omega) W hW
    have g2 : ∀ W, D.Base W → Calls Tryd.prog 27 #[.string s, .int .i64 4, .int .i64 2] W fun e w' => e = .returned (.tuple #[.int .i64 (numV s 4 2), .bool (allD s 4 2)]) ∧ Below W.heap.size W w' := fun W hW => a_DigitsGet s 4 4 2 2 rfl rfl hs (by omega) (by omega) W hW
    have v1 := numV_bd s 1 (m := 2) (by omega)
    have v2 := numV_bd s 4 (m := 2) (by omega)
    have p2 : p10 2 = 100 := rfl
    rw [p2] at v1 v2
    by_cases h3 : bt s 3 = 58
    · by_cases a1 : allD s 1 2 = true
      · by_cases a2 : allD s 4 2 = true
        · have hcmp := of_cmp h6 h3 a1 a2 (by intro h; exact h0 h)
          have eN : ofN s = if bt s 0 = 45 then -(60 * numL s 1 2 + numL s 4 2) else 60 * numL s 1 2 + numL s 4 2 := if_neg (by omega)
          rw [numV_eq a1] at g1 v1
          rw [numV_eq a2] at g2 v2
          rw [a1] at g1
          rw [a2] at g2
          cases hok : ofOk s with
          | true =>
            have e : ofV s = .tuple #[.int .i64 (ofN s), .bool true] := if_pos hok
            have hT := hcmp.2 hok
            rw [e, eN]
            clear ek eN hcmp hok hn1 e
            generalize numL s 1 2 = x1 at *
            generalize numL s 4 2 = x2 at *
            by_cases hneg : bt s 0 = 45
            · rw [if_pos hneg] at hT ⊢
              have hneg' : bt s (0 : Int).toNat = 45 := hneg
              have hO := a_OffsetText (-(60 * x1 + x2))
              rw [hT] at hO
              refine enter Tryd.func14 rfl Tryd.ntmps14 rfl (by assumption) ?_
              (repeat' (first | intro (b : Nat) | refine go ?_ | (refine br ?_ ?_ <;> first | exact trivial | intro hq) | refine L.call (h := by intro W hW; first | apply g1 W hW.base | apply g2 W hW.base | apply hO W hW.base) (k := ?_)))
              all_goals (try (exfalso; contradiction))
              all_goals (refine ret ?_; try exact rfl)
            · rw [if_neg hneg] at hT ⊢
              have hneg' : ¬ bt s (0 : Int).toNat = 45 := hneg
              have hO := a_OffsetText (60 * x1 + x2)
              rw [hT] at hO
              refine enter Tryd.func14 rfl Tryd.ntmps14 rfl (by assumption) ?_
              (repeat' (first | intro (b : Nat) | refine go ?_ | (refine br ?_ ?_ <;> first | exact trivial | intro hq) | refine L.call (h := by intro W hW; first | apply g1 W hW.base | apply g2 W hW.base | apply hO W hW.base) (k := ?_)))
              all_goals (try (exfalso; contradiction))
              all_goals (refine ret ?_; try exact rfl)
          | false =>
            have e : ofV s = .tuple #[.int .i64 0, .bool false] := if_neg (by simp [hok])
            have hT : ¬ ofT (if bt s 0 = 45 then -(60 * numL s 1 2 + numL s 4 2) else 60 * numL s 1 2 + numL s 4 2) = s := fun h => by
              rw [hcmp.1 h] at hok
              cases hok
            rw [e]
            clear ek eN hcmp hok hn1 e
            generalize numL s 1 2 = x1 at *
            generalize numL s 4 2 = x2 at *
            by_cases hneg : bt s 0 = 45
            · rw [if_pos hneg] at hT
              have hneg' : bt s (0 : Int).toNat = 45 := hneg
              have hO := a_OffsetText (-(60 * x1 + x2))
              have hT' : ¬ ofT (-(60 * x1 + x2)) = s := hT
              generalize ofT (-(60 * x1 + x2)) = u at *
              clear hT
              refine enter Tryd.func14 rfl Tryd.ntmps14 rfl (by assumption) ?_
              (repeat' (first | intro (b : Nat) | refine go ?_ | (refine br ?_ ?_ <;> first | exact trivial | intro hq) | refine L.call (h := by intro W hW; first | apply g1 W hW.base | apply g2 W hW.base | apply hO W hW.base) (k := ?_)))
              all_goals (try (exfalso; contradiction))
              all_goals (refine ret ?_; try exact rfl)
            · rw [if_neg hneg] at hT
              have hneg' : ¬ bt s (0 : Int).toNat = 45 := hneg
              have hO := a_OffsetText (60 * x1 + x2)
              have hT' : ¬ ofT (60 * x1 + x2) = s := hT
              generalize ofT (60 * x1 + x2) = u at *
              clear hT
              refine enter Tryd.func14 rfl Tryd.ntmps14 rfl (by assumption) ?_
              (repeat' (first | intro (b : Nat) | refine go ?_ | (refine br ?_ ?_ <;> first | exact trivial | intro hq) | refine L.call (h := by intro W hW; first | apply g1 W hW.base | apply g2 W hW.base | apply hO W hW.base) (k := ?_)))
              all_goals (try (exfalso; contradiction))
              all_goals (refine ret ?_; try exact rfl)
        · have a2 : allD s 4 2 = false := by simpa using a2
          have hok : ofOk s = false := by rw [ek, a2]; simp
          have e : ofV s = .tuple #[.int .i64 0, .bool false] := if_neg (by simp [hok])
          rw [a1] at g1
          rw [a2] at g2
          rw [e]
          clear ek hok e hn1
          generalize numV s 1 2 = x1 at *
          generalize numV s 4 2 = x2 at *
          refine enter Tryd.func14 rfl Tryd.ntmps14 rfl (by assumption) ?_
          (repeat' (first | intro (b : Nat) | refine go ?_ | (refine br ?_ ?_ <;> first | exact trivial | intro hq) | refine L.call (h := by intro W hW; first | apply g1 W hW.base | apply g2 W hW.base) (k := ?_)))
          all_goals (try (exfalso; contradiction))
          all_goals (refine ret ?_; try exact rfl)
      · have a1 : allD s 1 2 = false := by simpa using a1
        have hok : ofOk s = false := by rw [ek, a1]; simp
        have e : ofV s = .tuple #[.int .i64 0, .bool false] := if_neg (by simp [hok])
        rw [a1] at g1
        rw [e]
        clear ek hok e hn1
        generalize numV s 1 2 = x1 at *
        generalize numV s 4 2 = x2 at *
        refine enter Tryd.func14 rfl Tryd.ntmps14 rfl (by assumption) ?_
        (repeat' (first | intro (b : Nat) | refine go ?_ | (refine br ?_ ?_ <;> first | exact trivial | intro hq) | refine L.call (h := by intro W hW; first | apply g1 W hW.base | apply g2 W hW.base) (k := ?_)))
        all_goals (try (exfalso; contradiction))
        all_goals (refine ret ?_; try exact rfl)
    · have hok : ofOk s = false := by rw [ek]; simp [isB, h3]
      have e : ofV s = .tuple #[.int .i64 0, .bool false] := if_neg (by simp [hok])
      rw [e]
      clear ek hok e hn1 g1 g2 v1 v2
      refine enter Tryd.func14 rfl Tryd.ntmps14 rfl (by assumption) ?_
      (repeat' (first | intro (b : Nat) | refine go ?_ | (refine br ?_ ?_ <;> first | exact trivial | intro hq)))
      all_goals (try (exfalso; contradiction))
      all_goals (refine ret ?_; try exact rfl)
  · have hok : ofOk s = false := by rw [ek, decide_eq_false h6]; simp
    have e : ofV s = .tuple #[.int .i64 0, .bool false] := if_neg (by simp [hok])
    rw [e]
    clear ek hok e hn1
    refine enter Tryd.func14 rfl Tryd.ntmps14 rfl (by assumption) ?_
    (repeat' (first | intro (b : Nat) | refine go ?_ | (refine br ?_ ?_ <;> first | exact trivial | intro hq)))
    all_goals (try (exfalso; contradiction))
    all_goals (refine ret ?_; try exact rfl)

end D
end Go.Proofs.YtodmpdcffnmmkaaDoor
