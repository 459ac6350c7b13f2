/- Walks of the reference: dates of texts. -/
import Derived.Test.YtpgbmohocfcjpaaGreatDoorC3
namespace Go.Proofs.YtpgbmohocfcjpaaGreatDoor
set_option linter.unusedVariables false
set_option linter.unusedSimpArgs false
set_option maxRecDepth 100000
set_option maxHeartbeats 1000000
namespace D
open Go.RowKit
open Go.PlainAid (bt bt_nonneg bt_le bt_end)
attribute [local irreducible] Calls

theorem b_dg (s : ByteArray) (q : Int) (p m : Nat) (k : Int) (hq : q = (p : Int)) (hk : k = (m : Int)) (hs : s.size ≤ 1000000000000) (hp : p ≤ 1000000000000) (hm : 1 ≤ m ∧ m ≤ 6) (w : World) (hb : D.Base w) :
    Calls Tryz.prog 89 #[.string s, .int .i64 q, .int .i64 k] w fun e w' => e = .returned (.tuple #[.int .i64 (numV s p m), .bool (allD s p m)]) ∧ Below w.heap.size w w' := by
  subst hq
  subst hk
  exact b_DigitsGet s p m hs hp hm w hb

theorem b_l4Read0 (s : ByteArray) (hs : s.size ≤ 1000000000000) (w : World) (hb : D.Base w) : Calls Tryz.prog 149 #[.string s, .int .i64 0, .bool true] w fun e w' => e = .returned (drV (dS s 0)) ∧ Below w.heap.size w w' := by
  have h1 : ∀ W, D.Base W → Calls Tryz.prog 89 #[.string s, .int .i64 0, .int .i64 4] W fun e w' => e = .returned (.tuple #[.int .i64 (numV s 0 4), .bool (allD s 0 4)]) ∧ Below W.heap.size W w' := fun W hW => b_dg s 0 0 4 4 rfl rfl hs (by omega) (by omega) W hW
  have h2 : ∀ W, D.Base W → Calls Tryz.prog 89 #[.string s, .int .i64 5, .int .i64 2] W fun e w' => e = .returned (.tuple #[.int .i64 (numV s 5 2), .bool (allD s 5 2)]) ∧ Below W.heap.size W w' := fun W hW => b_dg s 5 5 2 2 rfl rfl hs (by omega) (by omega) W hW
  have h3 : ∀ W, D.Base W → Calls Tryz.prog 89 #[.string s, .int .i64 8, .int .i64 2] W fun e w' => e = .returned (.tuple #[.int .i64 (numV s 8 2), .bool (allD s 8 2)]) ∧ Below W.heap.size W w' := fun W hW => b_dg s 8 8 2 2 rfl rfl hs (by omega) (by omega) W hW
  have e : l4M s 5 8 = if allD s 0 4 = true then ⟨numV s 0 4, numV s 5 2, numV s 8 2, allD s 5 2 && allD s 8 2⟩ else DR.no := rfl
  show Calls Tryz.prog 149 _ w fun e w' => e = .returned (drV (l4M s 5 8)) ∧ Below w.heap.size w w'
  rw [e]
  clear e
  generalize numV s 0 4 = n1 at *
  generalize allD s 0 4 = x1 at *
  generalize numV s 5 2 = n2 at *
  generalize numV s 8 2 = n3 at *
  generalize allD s 5 2 = x2 at *
  generalize allD s 8 2 = x3 at *
  cases x1 <;> cases x2 <;> cases x3
  all_goals
    refine enter Tryz.func149 rfl Tryz.ntmps149 rfl (by assumption) ?_
    (repeat' (first | intro (b : Nat) | refine go ?_ | (refine br ?_ ?_ <;> first | exact trivial | intro hq) | refine L.call (h := by intro W hW; first | apply h1 W hW.base | apply h2 W hW.base | apply h3 W hW.base) (k := ?_)))
    all_goals (refine ret ?_; try exact rfl)

theorem b_l4Read1 (s : ByteArray) (hs : s.size ≤ 1000000000000) (w : World) (hb : D.Base w) : Calls Tryz.prog 149 #[.string s, .int .i64 0, .bool false] w fun e w' => e = .returned (drV (dS s 1)) ∧ Below w.heap.size w w' := by
  have h1 : ∀ W, D.Base W → Calls Tryz.prog 89 #[.string s, .int .i64 0, .int .i64 4] W fun e w' => e = .returned (.tuple #[.int .i64 (numV s 0 4), .bool (allD s 0 4)]) ∧ Below W.heap.size W w' := fun W hW => b_dg s 0 0 4 4 rfl rfl hs (by omega) (by omega) W hW
  have h2 : ∀ W, D.Base W → Calls Tryz.prog 89 #[.string s, .int .i64 4, .int .i64 2] W fun e w' => e = .returned (.tuple #[.int .i64 (numV s 4 2), .bool (allD s 4 2)]) ∧ Below W.heap.size W w' := fun W hW => b_dg s 4 4 2 2 rfl rfl hs (by omega) (by omega) W hW
  have h3 : ∀ W, D.Base W → Calls Tryz.prog 89 #[.string s, .int .i64 6, .int .i64 2] W fun e w' => e = .returned (.tuple #[.int .i64 (numV s 6 2), .bool (allD s 6 2)]) ∧ Below W.heap.size W w' := fun W hW => b_dg s 6 6 2 2 rfl rfl hs (by omega) (by omega) W hW
  have e : l4M s 4 6 = if allD s 0 4 = true then ⟨numV s 0 4, numV s 4 2, numV s 6 2, allD s 4 2 && allD s 6 2⟩ else DR.no := rfl
  show Calls Tryz.prog 149 _ w fun e w' => e = .returned (drV (l4M s 4 6)) ∧ Below w.heap.size w w'
  rw [e]
  clear e
  generalize numV s 0 4 = n1 at *
  generalize allD s 0 4 = x1 at *
  generalize numV s 4 2 = n2 at *
  generalize numV s 6 2 = n3 at *
  generalize allD s 4 2 = x2 at *
  generalize allD s 6 2 = x3 at *
  cases x1 <;> cases x2 <;> cases x3
  all_goals
    refine enter Tryz.func149 rfl Tryz.ntmps149 rfl (by assumption) ?_
    (repeat' (first | intro (b : Nat) | refine go ?_ | (refine br ?_ ?_ <;> first | exact trivial | intro hq) | refine L.call (h := by intro W hW; first | apply h1 W hW.base | apply h2 W hW.base | apply h3 W hW.base) (k := ?_)))
    all_goals (refine ret ?_; try exact rfl)

theorem b_l4Read2 (s : ByteArray) (hs : s.size ≤ 1000000000000) (w : World) (hb : D.Base w) : Calls Tryz.prog 149 #[.string s, .int .i64 1, .bool true] w fun e w' => e = .returned (drV (dS s 2)) ∧ Below w.heap.size w w' := by
  have h1 : ∀ W, D.Base W → Calls Tryz.prog 89 #[.string s, .int .i64 0, .int .i64 4] W fun e w' => e = .returned (.tuple #[.int .i64 (numV s 0 4), .bool (allD s 0 4)]) ∧ Below W.heap.size W w' := fun W hW => b_dg s 0 0 4 4 rfl rfl hs (by omega) (by omega) W hW
  have h2 : ∀ W, D.Base W → Calls Tryz.prog 89 #[.string s, .int .i64 6, .int .i64 2] W fun e w' => e = .returned (.tuple #[.int .i64 (numV s 6 2), .bool (allD s 6 2)]) ∧ Below W.heap.size W w' := fun W hW => b_dg s 6 6 2 2 rfl rfl hs (by omega) (by omega) W hW
  have h3 : ∀ W, D.Base W → Calls Tryz.prog 89 #[.string s, .int .i64 9, .int .i64 1] W fun e w' => e = .returned (.tuple #[.int .i64 (numV s 9 1), .bool (allD s 9 1)]) ∧ Below W.heap.size W w' := fun W hW => b_dg s 9 9 1 1 rfl rfl hs (by omega) (by omega) W hW
  have e : l4K s 6 9 = if (allD s 0 4 && allD s 6 2 && allD s 9 1) = true then wkD (numV s 0 4) (numV s 6 2) (numV s 9 1) else DR.no := rfl
  show Calls Tryz.prog 149 _ w fun e w' => e = .returned (drV (l4K s 6 9)) ∧ Below w.heap.size w w'
  rw [e]
  clear e
  generalize numV s 0 4 = n1 at *
  generalize allD s 0 4 = x1 at *
  generalize numV s 6 2 = n2 at *
  generalize numV s 9 1 = n3 at *
  generalize allD s 6 2 = x2 at *
  generalize allD s 9 1 = x3 at *
  cases x1 <;> cases x2 <;> cases x3
  all_goals
    refine enter Tryz.func149 rfl Tryz.ntmps149 rfl (by assumption) ?_
    (repeat' (first | intro (b : Nat) | refine go ?_ | (refine br ?_ ?_ <;> first | exact trivial | intro hq) | refine L.call (h := by intro W hW; first | apply h1 W hW.base | apply h2 W hW.base | apply h3 W hW.base | apply b_WeekDate _ _ _ W hW.base) (k := ?_)))
    all_goals (refine ret ?_; try exact rfl)

theorem b_l4Read3 (s : ByteArray) (hs : s.size ≤ 1000000000000) (w : World) (hb : D.Base w) : Calls Tryz.prog 149 #[.string s, .int .i64 1, .bool false] w fun e w' => e = .returned (drV (dS s 3)) ∧ Below w.heap.size w w' := by
  have h1 : ∀ W, D.Base W → Calls Tryz.prog 89 #[.string s, .int .i64 0, .int .i64 4] W fun e w' => e = .returned (.tuple #[.int .i64 (numV s 0 4), .bool (allD s 0 4)]) ∧ Below W.heap.size W w' := fun W hW => b_dg s 0 0 4 4 rfl rfl hs (by omega) (by omega) W hW
  have h2 : ∀ W, D.Base W → Calls Tryz.prog 89 #[.string s, .int .i64 5, .int .i64 2] W fun e w' => e = .returned (.tuple #[.int .i64 (numV s 5 2), .bool (allD s 5 2)]) ∧ Below W.heap.size W w' := fun W hW => b_dg s 5 5 2 2 rfl rfl hs (by omega) (by omega) W hW
  have h3 : ∀ W, D.Base W → Calls Tryz.prog 89 #[.string s, .int .i64 7, .int .i64 1] W fun e w' => e = .returned (.tuple #[.int .i64 (numV s 7 1), .bool (allD s 7 1)]) ∧ Below W.heap.size W w' := fun W hW => b_dg s 7 7 1 1 rfl rfl hs (by omega) (by omega) W hW
  have e : l4K s 5 7 = if (allD s 0 4 && allD s 5 2 && allD s 7 1) = true then wkD (numV s 0 4) (numV s 5 2) (numV s 7 1) else DR.no := rfl
  show Calls Tryz.prog 149 _ w fun e w' => e = .returned (drV (l4K s 5 7)) ∧ Below w.heap.size w w'
  rw [e]
  clear e
  generalize numV s 0 4 = n1 at *
  generalize allD s 0 4 = x1 at *
  generalize numV s 5 2 = n2 at *
  generalize numV s 7 1 = n3 at *
  generalize allD s 5 2 = x2 at *
  generalize allD s 7 1 = x3 at *
  cases x1 <;> cases x2 <;> cases x3
  all_goals
    refine enter Tryz.func149 rfl Tryz.ntmps149 rfl (by assumption) ?_
    (repeat' (first | intro (b : Nat) | refine go ?_ | (refine br ?_ ?_ <;> first | exact trivial | intro hq) | refine L.call (h := by intro W hW; first | apply h1 W hW.base | apply h2 W hW.base | apply h3 W hW.base | apply b_WeekDate _ _ _ W hW.base) (k := ?_)))
    all_goals (refine ret ?_; try exact rfl)

theorem b_l4Read4 (s : ByteArray) (hs : s.size ≤ 1000000000000) (w : World) (hb : D.Base w) : Calls Tryz.prog 149 #[.string s, .int .i64 2, .bool true] w fun e w' => e = .returned (drV (dS s 4)) ∧ Below w.heap.size w w' := by
  have h1 : ∀ W, D.Base W → Calls Tryz.prog 89 #[.string s, .int .i64 0, .int .i64 4] W fun e w' => e = .returned (.tuple #[.int .i64 (numV s 0 4), .bool (allD s 0 4)]) ∧ Below W.heap.size W w' := fun W hW => b_dg s 0 0 4 4 rfl rfl hs (by omega) (by omega) W hW
  have h2 : ∀ W, D.Base W → Calls Tryz.prog 89 #[.string s, .int .i64 5, .int .i64 3] W fun e w' => e = .returned (.tuple #[.int .i64 (numV s 5 3), .bool (allD s 5 3)]) ∧ Below W.heap.size W w' := fun W hW => b_dg s 5 5 3 3 rfl rfl hs (by omega) (by omega) W hW
  have e : l4O s 5 = if (allD s 0 4 && allD s 5 3) = true then orD (numV s 0 4) (numV s 5 3) else DR.no := rfl
  show Calls Tryz.prog 149 _ w fun e w' => e = .returned (drV (l4O s 5)) ∧ Below w.heap.size w w'
  rw [e]
  clear e
  generalize numV s 0 4 = n1 at *
  generalize allD s 0 4 = x1 at *
  generalize numV s 5 3 = n2 at *
  generalize allD s 5 3 = x2 at *
  cases x1 <;> cases x2
  all_goals
    refine enter Tryz.func149 rfl Tryz.ntmps149 rfl (by assumption) ?_
    (repeat' (first | intro (b : Nat) | refine go ?_ | (refine br ?_ ?_ <;> first | exact trivial | intro hq) | refine L.call (h := by intro W hW; first | apply h1 W hW.base | apply h2 W hW.base | apply b_OrdinalDate _ _ W hW.base) (k := ?_)))
    all_goals (refine ret ?_; try exact rfl)

theorem b_l4Read5 (s : ByteArray) (hs : s.size ≤ 1000000000000) (w : World) (hb : D.Base w) : Calls Tryz.prog 149 #[.string s, .int .i64 2, .bool false] w fun e w' => e = .returned (drV (dS s 5)) ∧ Below w.heap.size w w' := by
  have h1 : ∀ W, D.Base W → Calls Tryz.prog 89 #[.string s, .int .i64 0, .int .i64 4] W fun e w' => e = .returned (.tuple #[.int .i64 (numV s 0 4), .bool (allD s 0 4)]) ∧ Below W.heap.size W w' := fun W hW => b_dg s 0 0 4 4 rfl rfl hs (by omega) (by omega) W hW
  have h2 : ∀ W, D.Base W → Calls Tryz.prog 89 #[.string s, .int .i64 4, .int .i64 3] W fun e w' => e = .returned (.tuple #[.int .i64 (numV s 4 3), .bool (allD s 4 3)]) ∧ Below W.heap.size W w' := fun W hW => b_dg s 4 4 3 3 rfl rfl hs (by omega) (by omega) W hW
  have e : l4O s 4 = if (allD s 0 4 && allD s 4 3) = true then orD (numV s 0 4) (numV s 4 3) else DR.no := rfl
  show Calls Tryz.prog 149 _ w fun e w' => e = .returned (drV (l4O s 4)) ∧ Below w.heap.size w w'
  rw [e]
  clear e
  generalize numV s 0 4 = n1 at *
  generalize allD s 0 4 = x1 at *
  generalize numV s 4 3 = n2 at *
  generalize allD s 4 3 = x2 at *
  cases x1 <;> cases x2
  all_goals
    refine enter Tryz.func149 rfl Tryz.ntmps149 rfl (by assumption) ?_
    (repeat' (first | intro (b : Nat) | refine go ?_ | (refine br ?_ ?_ <;> first | exact trivial | intro hq) | refine L.call (h := by intro W hW; first | apply h1 W hW.base | apply h2 W hW.base | apply b_OrdinalDate _ _ W hW.base) (k := ?_)))
    all_goals (refine ret ?_; try exact rfl)

theorem b_DateFrom (s : ByteArray) (hs : s.size ≤ 1000000000000) (w : World) (hb : D.Base w) : Calls Tryz.prog 101 #[.string s] w fun e w' => e = .returned (dfV (okS s) (dS s)) ∧ Below w.heap.size w w' := by
  refine enter Tryz.func101 rfl Tryz.ntmps101 rfl (by assumption) ?_
  (repeat (first | intro (b : Nat) | refine go ?_))
  revert b; intro b2
  refine C.loopw (Y := Nat) (fun k => [(0, .string s), (2, .pointer (some ⟨b2, 0, none⟩)), (3, .int .i64 0), (4, .bool false), (5, .bool false), (6, .int .i64 (k : Int))]) (fun k => [(b2, .cells 33 [.int .i64 0, .int .i64 0, .int .i64 0])]) (fun k => k ≤ 6 ∧ ∀ j, j < k → okS s j = false) (fun k => 6 - k) 0 ⟨by omega, fun j hj => by omega⟩ (fun k hy => ?_)
  obtain ⟨hk, hno⟩ := hy
  by_cases hlt : k < 6
  · rcases (by omega : k = 0 ∨ k = 1 ∨ k = 2 ∨ k = 3 ∨ k = 4 ∨ k = 5) with rfl | rfl | rfl | rfl | rfl | rfl
    · have hread : ∀ W, D.Base W → Calls Tryz.prog 149 #[.string s, .int .i64 0, .bool true] W fun e w' => e = .returned (drV (dS s 0)) ∧ Below W.heap.size W w' := fun W hW => b_l4Read0 s hs W hW
      have e0 : okS s 0 = ((dS s 0).ok && dval (dS s 0).y (dS s 0).m (dS s 0).d && decide (strOfNums (dtL (dS s 0).y (dS s 0).m (dS s 0).d 0 true) = s)) := rfl
      obtain ⟨x, e1⟩ : ∃ x, dS s 0 = x := ⟨_, rfl⟩
      rw [e1] at hread e0
      obtain ⟨y, m, d, ok⟩ := x
      cases dv : dval y m d
      · have hT : ∀ W, D.Base W → Calls Tryz.prog 106 #[.agg #[.int .i64 y, .int .i64 m, .int .i64 d], .int .i64 0, .bool true] W fun e w' => e = .returned (.tuple #[.string ⟨#[]⟩, .bool false]) ∧ Below W.heap.size W w' := fun W hW => rv (if_neg (by simp [dv])) (b_DateText y m d 0 true W hW)
        have e2 : okS s 0 = false := by rw [e0]; simp [dv]
        cases ok
        all_goals
          (repeat' (first | intro (b : Nat) | refine go ?_ | (refine br ?_ ?_ <;> first | exact trivial | intro hq) | refine L.call (h := by intro W hW; first | apply hread W hW.base | apply hT W hW.base) (k := ?_)))
          refine X.roundw (1) (⟨by omega, fun j hj => by
            by_cases e : j = 0
            · rw [e, e2]
            · exact hno j (by omega)⟩) (by omega)
      · have hT : ∀ W, D.Base W → Calls Tryz.prog 106 #[.agg #[.int .i64 y, .int .i64 m, .int .i64 d], .int .i64 0, .bool true] W fun e w' => e = .returned (.tuple #[.string (strOfNums (dtL y m d 0 true)), .bool true]) ∧ Below W.heap.size W w' := fun W hW => rv (if_pos ⟨dv, rfl⟩) (b_DateText y m d 0 true W hW)
        generalize strOfNums (dtL y m d 0 true) = t at *
        cases ok
        · have e2 : okS s 0 = false := by rw [e0]; simp
          (repeat' (first | intro (b : Nat) | refine go ?_ | (refine br ?_ ?_ <;> first | exact trivial | intro hq) | refine L.call (h := by intro W hW; first | apply hread W hW.base | apply hT W hW.base) (k := ?_)))
          refine X.roundw (1) (⟨by omega, fun j hj => by
            by_cases e : j = 0
            · rw [e, e2]
            · exact hno j (by omega)⟩) (by omega)
        · by_cases hne : t = s
          · have e2 : okS s 0 = true := by rw [e0]; simp [dv, hne]
            (repeat' (first | intro (b : Nat) | refine go ?_ | (refine br ?_ ?_ <;> first | exact trivial | intro hq) | refine L.call (h := by intro W hW; first | apply hread W hW.base | apply hT W hW.base) (k := ?_)))
            all_goals (try (exfalso; contradiction))
            (refine ret ?_)
            rw [dfV_at (k := 0) (by omega) hno e2, e1]
            rfl
          · have e2 : okS s 0 = false := by rw [e0]; simp [hne]
            (repeat' (first | intro (b : Nat) | refine go ?_ | (refine br ?_ ?_ <;> first | exact trivial | intro hq) | refine L.call (h := by intro W hW; first | apply hread W hW.base | apply hT W hW.base) (k := ?_)))
            all_goals (try (exfalso; contradiction))
            refine X.roundw (1) (⟨by omega, fun j hj => by
              by_cases e : j = 0
              · rw [e, e2]
              · exact hno j (by omega)⟩) (by omega)
    · have hread : ∀ W, D.Base W → Calls Tryz.prog 149 #[.string s, .int .i64 0, .bool false] W fun e w' => e = .returned (drV (dS s 1)) ∧ Below W.heap.size W w' := fun W hW => b_l4Read1 s hs W hW
      have e0 : okS s 1 = ((dS s 1).ok && dval (dS s 1).y (dS s 1).m (dS s 1).d && decide (strOfNums (dtL (dS s 1).y (dS s 1).m (dS s 1).d 0 false) = s)) := rfl
      obtain ⟨x, e1⟩ : ∃ x, dS s 1 = x := ⟨_, rfl⟩
      rw [e1] at hread e0
      obtain ⟨y, m, d, ok⟩ := x
      cases dv : dval y m d
      · have hT : ∀ W, D.Base W → Calls Tryz.prog 106 #[.agg #[.int .i64 y, .int .i64 m, .int .i64 d], .int .i64 0, .bool false] W fun e w' => e = .returned (.tuple #[.string ⟨#[]⟩, .bool false]) ∧ Below W.heap.size W w' := fun W hW => rv (if_neg (by simp [dv])) (b_DateText y m d 0 false W hW)
        have e2 : okS s 1 = false := by rw [e0]; simp [dv]
        cases ok
        all_goals
          (repeat' (first | intro (b : Nat) | refine go ?_ | (refine br ?_ ?_ <;> first | exact trivial | intro hq) | refine L.call (h := by intro W hW; first | apply hread W hW.base | apply hT W hW.base) (k := ?_)))
          refine X.roundw (2) (⟨by omega, fun j hj => by
            by_cases e : j = 1
            · rw [e, e2]
            · exact hno j (by omega)⟩) (by omega)
      · have hT : ∀ W, D.Base W → Calls Tryz.prog 106 #[.agg #[.int .i64 y, .int .i64 m, .int .i64 d], .int .i64 0, .bool false] W fun e w' => e = .returned (.tuple #[.string (strOfNums (dtL y m d 0 false)), .bool true]) ∧ Below W.heap.size W w' := fun W hW => rv (if_pos ⟨dv, rfl⟩) (b_DateText y m d 0 false W hW)
        generalize strOfNums (dtL y m d 0 false) = t at *
        cases ok
        · have e2 : okS s 1 = false := by rw [e0]; simp
          (repeat' (first | intro (b : Nat) | refine go ?_ | (refine br ?_ ?_ <;> first | exact trivial | intro hq) | refine L.call (h := by intro W hW; first | apply hread W hW.base | apply hT W hW.base) (k := ?_)))
          refine X.roundw (2) (⟨by omega, fun j hj => by
            by_cases e : j = 1
            · rw [e, e2]
            · exact hno j (by omega)⟩) (by omega)
        · by_cases hne : t = s
          · have e2 : okS s 1 = true := by rw [e0]; simp [dv, hne]
            (repeat' (first | intro (b : Nat) | refine go ?_ | (refine br ?_ ?_ <;> first | exact trivial | intro hq) | refine L.call (h := by intro W hW; first | apply hread W hW.base | apply hT W hW.base) (k := ?_)))
            all_goals (try (exfalso; contradiction))
            (refine ret ?_)
            rw [dfV_at (k := 1) (by omega) hno e2, e1]
            rfl
          · have e2 : okS s 1 = false := by rw [e0]; simp [hne]
            (repeat' (first | intro (b : Nat) | refine go ?_ | (refine br ?_ ?_ <;> first | exact trivial | intro hq) | refine L.call (h := by intro W hW; first | apply hread W hW.base | apply hT W hW.base) (k := ?_)))
            all_goals (try (exfalso; contradiction))
            refine X.roundw (2) (⟨by omega, fun j hj => by
              by_cases e : j = 1
              · rw [e, e2]
              · exact hno j (by omega)⟩) (by omega)
    · have hread : ∀ W, D.Base W → Calls Tryz.prog 149 #[.string s, .int .i64 1, .bool true] W fun e w' => e = .returned (drV (dS s 2)) ∧ Below W.heap.size W w' := fun W hW => b_l4Read2 s hs W hW
      have e0 : okS s 2 = ((dS s 2).ok && dval (dS s 2).y (dS s 2).m (dS s 2).d && decide (strOfNums (dtL (dS s 2).y (dS s 2).m (dS s 2).d 1 true) = s)) := rfl
      obtain ⟨x, e1⟩ : ∃ x, dS s 2 = x := ⟨_, rfl⟩
      rw [e1] at hread e0
      obtain ⟨y, m, d, ok⟩ := x
      cases dv : dval y m d
      · have hT : ∀ W, D.Base W → Calls Tryz.prog 106 #[.agg #[.int .i64 y, .int .i64 m, .int .i64 d], .int .i64 1, .bool true] W fun e w' => e = .returned (.tuple #[.string ⟨#[]⟩, .bool false]) ∧ Below W.heap.size W w' := fun W hW => rv (if_neg (by simp [dv])) (b_DateText y m d 1 true W hW)
        have e2 : okS s 2 = false := by rw [e0]; simp [dv]
        cases ok
        all_goals
          (repeat' (first | intro (b : Nat) | refine go ?_ | (refine br ?_ ?_ <;> first | exact trivial | intro hq) | refine L.call (h := by intro W hW; first | apply hread W hW.base | apply hT W hW.base) (k := ?_)))
          refine X.roundw (3) (⟨by omega, fun j hj => by
            by_cases e : j = 2
            · rw [e, e2]
            · exact hno j (by omega)⟩) (by omega)
      · have hT : ∀ W, D.Base W → Calls Tryz.prog 106 #[.agg #[.int .i64 y, .int .i64 m, .int .i64 d], .int .i64 1, .bool true] W fun e w' => e = .returned (.tuple #[.string (strOfNums (dtL y m d 1 true)), .bool true]) ∧ Below W.heap.size W w' := fun W hW => rv (if_pos ⟨dv, rfl⟩) (b_DateText y m d 1 true W hW)
        generalize strOfNums (dtL y m d 1 true) = t at *
        cases ok
        · have e2 : okS s 2 = false := by rw [e0]; simp
          (repeat' (first | intro (b : Nat) | refine go ?_ | (refine br ?_ ?_ <;> first | exact trivial | intro hq) | refine L.call (h := by intro W hW; first | apply hread W hW.base | apply hT W hW.base) (k := ?_)))
          refine X.roundw (3) (⟨by omega, fun j hj => by
            by_cases e : j = 2
            · rw [e, e2]
            · exact hno j (by omega)⟩) (by omega)
        · by_cases hne : t = s
          · have e2 : okS s 2 = true := by rw [e0]; simp [dv, hne]
            (repeat' (first | intro (b : Nat) | refine go ?_ | (refine br ?_ ?_ <;> first | exact trivial | intro hq) | refine L.call (h := by intro W hW; first | apply hread W hW.base | apply hT W hW.base) (k := ?_)))
            all_goals (try (exfalso; contradiction))
            (refine ret ?_)
            rw [dfV_at (k := 2) (by omega) hno e2, e1]
            rfl
          · have e2 : okS s 2 = false := by rw [e0]; simp [hne]
            (repeat' (first | intro (b : Nat) | refine go ?_ | (refine br ?_ ?_ <;> first | exact trivial | intro hq) | refine L.call (h := by intro W hW; first | apply hread W hW.base | apply hT W hW.base) (k := ?_)))
            all_goals (try (exfalso; contradiction))
            refine X.roundw (3) (⟨by omega, fun j hj => by
              by_cases e : j = 2
              · rw [e, e2]
              · exact hno j (by omega)⟩) (by omega)
    · have hread : ∀ W, D.Base W → Calls Tryz.prog 149 #[.string s, .int .i64 1, .bool false] W fun e w' => e = .returned (drV (dS s 3)) ∧ Below W.heap.size W w' := fun W hW => b_l4Read3 s hs W hW
      have e0 : okS s 3 = ((dS s 3).ok && dval (dS s 3).y (dS s 3).m (dS s 3).d && decide (strOfNums (dtL (dS s 3).y (dS s 3).m (dS s 3).d 1 false) = s)) := rfl
      obtain ⟨x, e1⟩ : ∃ x, dS s 3 = x := ⟨_, rfl⟩
      rw [e1] at hread e0
      obtain ⟨y, m, d, ok⟩ := x
      cases dv : dval y m d
      · have hT : ∀ W, D.Base W → Calls Tryz.prog 106 #[.agg #[.int .i64 y, .int .i64 m, .int .i64 d], .int .i64 1, .bool false] W fun e w' => e = .returned (.tuple #[.string ⟨#[]⟩, .bool false]) ∧ Below W.heap.size W w' := fun W hW => rv (if_neg (by simp [dv])) (b_DateText y m d 1 false W hW)
        have e2 : okS s 3 = false := by rw [e0]; simp [dv]
        cases ok
        all_goals
          (repeat' (first | intro (b : Nat) | refine go ?_ | (refine br ?_ ?_ <;> first | exact trivial | intro hq) | refine L.call (h := by intro W hW; first | apply hread W hW.base | apply hT W hW.base) (k := ?_)))
          refine X.roundw (4) (⟨by omega, fun j hj => by
            by_cases e : j = 3
            · rw [e, e2]
            · exact hno j (by omega)⟩) (by omega)
      · have hT : ∀ W, D.Base W → Calls Tryz.prog 106 #[.agg #[.int .i64 y, .int .i64 m, .int .i64 d], .int .i64 1, .bool false] W fun e w' => e = .returned (.tuple #[.string (strOfNums (dtL y m d 1 false)), .bool true]) ∧ Below W.heap.size W w' := fun W hW => rv (if_pos ⟨dv, rfl⟩) (b_DateText y m d 1 false W hW)
        generalize strOfNums (dtL y m d 1 false) = t at *
        cases ok
        · have e2 : okS s 3 = false := by rw [e0]; simp
          (repeat' (first | intro (b : Nat) | refine go ?_ | (refine br ?_ ?_ <;> first | exact trivial | intro hq) | refine L.call (h := by intro W hW; first | apply hread W hW.base | apply hT W hW.base) (k := ?_)))
          refine X.roundw (4) (⟨by omega, fun j hj => by
            by_cases e : j = 3
            · rw [e, e2]
            · exact hno j (by omega)⟩) (by omega)
        · by_cases hne : t = s
          · have e2 : okS s 3 = true := by rw [e0]; simp [dv, hne]
            (repeat' (first | intro (b : Nat) | refine go ?_ | (refine br ?_ ?_ <;> first | exact trivial | intro hq) | refine L.call (h := by intro W hW; first | apply hread W hW.base | apply hT W hW.base) (k := ?_)))
            all_goals (try (exfalso; contradiction))
            (refine ret ?_)
            rw [dfV_at (k := 3) (by omega) hno e2, e1]
            rfl
          · have e2 : okS s 3 = false := by rw [e0]; simp [hne]
            (repeat' (first | intro (b : Nat) | refine go ?_ | (refine br ?_ ?_ <;> first | exact trivial | intro hq) | refine L.call (h := by intro W hW; first | apply hread W hW.base | apply hT W hW.base) (k := ?_)))
            all_goals (try (exfalso; contradiction))
            refine X.roundw (4) (⟨by omega, fun j hj => by
              by_cases e : j = 3
              · rw [e, e2]
              · exact hno j (by omega)⟩) (by omega)
    · have hread : ∀ W, D.Base W → Calls Tryz.prog 149 #[.string s, .int .i64 2, .bool true] W fun e w' => e = .returned (drV (dS s 4)) ∧ Below W.heap.size W w' := fun W hW => b_l4Read4 s hs W hW
      have e0 : okS s 4 = ((dS s 4).ok && dval (dS s 4).y (dS s 4).m (dS s 4).d && decide (strOfNums (dtL (dS s 4).y (dS s 4).m (dS s 4).d 2 true) = s)) := rfl
      obtain ⟨x, e1⟩ : ∃ x, dS s 4 = x := ⟨_, rfl⟩
      rw [e1] at hread e0
      obtain ⟨y, m, d, ok⟩ := x
      cases dv : dval y m d
      · have hT : ∀ W, D.Base W → Calls Tryz.prog 106 #[.agg #[.int .i64 y, .int .i64 m, .int .i64 d], .int .i64 2, .bool true] W fun e w' => e = .returned (.tuple #[.string ⟨#[]⟩, .bool false]) ∧ Below W.heap.size W w' := fun W hW => rv (if_neg (by simp [dv])) (b_DateText y m d 2 true W hW)
        have e2 : okS s 4 = false := by rw [e0]; simp [dv]
        cases ok
        all_goals
          (repeat' (first | intro (b : Nat) | refine go ?_ | (refine br ?_ ?_ <;> first | exact trivial | intro hq) | refine L.call (h := by intro W hW; first | apply hread W hW.base | apply hT W hW.base) (k := ?_)))
          refine X.roundw (5) (⟨by omega, fun j hj => by
            by_cases e : j = 4
            · rw [e, e2]
            · exact hno j (by omega)⟩) (by omega)
      · have hT : ∀ W, D.Base W → Calls Tryz.prog 106 #[.agg #[.int .i64 y, .int .i64 m, .int .i64 d], .int .i64 2, .bool true] W fun e w' => e = .returned (.tuple #[.string (strOfNums (dtL y m d 2 true)), .bool true]) ∧ Below W.heap.size W w' := fun W hW => rv (if_pos ⟨dv, rfl⟩) (b_DateText y m d 2 true W hW)
        generalize strOfNums (dtL y m d 2 true) = t at *
        cases ok
        · have e2 : okS s 4 = false := by rw [e0]; simp
          (repeat' (first | intro (b : Nat) | refine go ?_ | (refine br ?_ ?_ <;> first | exact trivial | intro hq) | refine L.call (h := by intro W hW; first | apply hread W hW.base | apply hT W hW.base) (k := ?_)))
          refine X.roundw (5) (⟨by omega, fun j hj => by
            by_cases e : j = 4
            · rw [e, e2]
            · exact hno j (by omega)⟩) (by omega)
        · by_cases hne : t = s
          · have e2 : okS s 4 = true := by rw [e0]; simp [dv, hne]
            (repeat' (first | intro (b : Nat) | refine go ?_ | (refine br ?_ ?_ <;> first | exact trivial | intro hq) | refine L.call (h := by intro W hW; first | apply hread W hW.base | apply hT W hW.base) (k := ?_)))
            all_goals (try (exfalso; contradiction))
            (refine ret ?_)
            rw [dfV_at (k := 4) (by omega) hno e2, e1]
            rfl
          · have e2 : okS s 4 = false := by rw [e0]; simp [hne]
            (repeat' (first | intro (b : Nat) | refine go ?_ | (refine br ?_ ?_ <;> first | exact trivial | intro hq) | refine L.call (h := by intro W hW; first | apply hread W hW.base | apply hT W hW.base) (k := ?_)))
            all_goals (try (exfalso; contradiction))
            refine X.roundw (5) (⟨by omega, fun j hj => by
              by_cases e : j = 4
              · rw [e, e2]
              · exact hno j (by omega)⟩) (by omega)
    · have hread : ∀ W, D.Base W → Calls Tryz.prog 149 #[.string s, .int .i64 2, .bool false] W fun e w' => e = .returned (drV (dS s 5)) ∧ Below W.heap.size W w' := fun W hW => b_l4Read5 s hs W hW
      have e0 : okS s 5 = ((dS s 5).ok && dval (dS s 5).y (dS s 5).m (dS s 5).d && decide (strOfNums (dtL (dS s 5).y (dS s 5).m (dS s 5).d 2 false) = s)) := rfl
      obtain ⟨x, e1⟩ : ∃ x, dS s 5 = x := ⟨_, rfl⟩
      rw [e1] at hread e0
      obtain ⟨y, m, d, ok⟩ := x
      cases dv : dval y m d
      · have hT : ∀ W, D.Base W → Calls Tryz.prog 106 #[.agg #[.int .i64 y, .int .i64 m, .int .i64 d], .int .i64 2, .bool false] W fun e w' => e = .returned (.tuple #[.string ⟨#[]⟩, .bool false]) ∧ Below W.heap.size W w' := fun W hW => rv (if_neg (by simp [dv])) (b_DateText y m d 2 false W hW)
        have e2 : okS s 5 = false := by rw [e0]; simp [dv]
        cases ok
        all_goals
          (repeat' (first | intro (b : Nat) | refine go ?_ | (refine br ?_ ?_ <;> first | exact trivial | intro hq) | refine L.call (h := by intro W hW; first | apply hread W hW.base | apply hT W hW.base) (k := ?_)))
          refine X.roundw (6) (⟨by omega, fun j hj => by
            by_cases e : j = 5
            · rw [e, e2]
            · exact hno j (by omega)⟩) (by omega)
      · have hT : ∀ W, D.Base W → Calls Tryz.prog 106 #[.agg #[.int .i64 y, .int .i64 m, .int .i64 d], .int .i64 2, .bool false] W fun e w' => e = .returned (.tuple #[.string (strOfNums (dtL y m d 2 false)), .bool true]) ∧ Below W.heap.size W w' := fun W hW => rv (if_pos ⟨dv, rfl⟩) (b_DateText y m d 2 false W hW)
        generalize strOfNums (dtL y m d 2 false) = t at *
        cases ok
        · have e2 : okS s 5 = false := by rw [e0]; simp
          (repeat' (first | intro (b : Nat) | refine go ?_ | (refine br ?_ ?_ <;> first | exact trivial | intro hq) | refine L.call (h := by intro W hW; first | apply hread W hW.base | apply hT W hW.base) (k := ?_)))
          refine X.roundw (6) (⟨by omega, fun j hj => by
            by_cases e : j = 5
            · rw [e, e2]
            · exact hno j (by omega)⟩) (by omega)
        · by_cases hne : t = s
          · have e2 : okS s 5 = true := by rw [e0]; simp [dv, hne]
            (repeat' (first | intro (b : Nat) | refine go ?_ | (refine br ?_ ?_ <;> first | exact trivial | intro hq) | refine L.call (h := by intro W hW; first | apply hread W hW.base | apply hT W hW.base) (k := ?_)))
            all_goals (try (exfalso; contradiction))
            (refine ret ?_)
            rw [dfV_at (k := 5) (by omega) hno e2, e1]
            rfl
          · have e2 : okS s 5 = false := by rw [e0]; simp [hne]
            (repeat' (first | intro (b : Nat) | refine go ?_ | (refine br ?_ ?_ <;> first | exact trivial | intro hq) | refine L.call (h := by intro W hW; first | apply hread W hW.base | apply hT W hW.base) (k := ?_)))
            all_goals (try (exfalso; contradiction))
            refine X.roundw (6) (⟨by omega, fun j hj => by
              by_cases e : j = 5
              · rw [e, e2]
              · exact hno j (by omega)⟩) (by omega)
  · obtain rfl : k = 6 := by omega
    (repeat' (first | intro (b : Nat) | refine go ?_ | (refine br ?_ ?_ <;> first | exact trivial | intro hq)))
    (refine ret ?_; try exact rfl)
    exact (dfV_no hno).symm

end D
end Go.Proofs.YtpgbmohocfcjpaaGreatDoor
