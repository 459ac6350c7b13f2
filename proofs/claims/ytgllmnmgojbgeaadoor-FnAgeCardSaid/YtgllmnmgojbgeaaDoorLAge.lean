/- The walk of the law on ages: nobody is older than the years between. -/
import Derived.Test.YtgllmnmgojbgeaaDoorDr2
import Derived.Test.YtgllmnmgojbgeaaDoorS2
namespace Go.Proofs.YtgllmnmgojbgeaaDoor
set_option linter.unusedVariables false
set_option linter.unusedSimpArgs false
set_option maxRecDepth 100000
set_option maxHeartbeats 1000000
namespace D
open Go.RowKit

theorem age_near {y m d y' m' d' : Int} (h : bOk y m d y' m' d' = true) : (1 ≤ y ∧ y ≤ 9999) ∧ (1 ≤ y' ∧ y' ≤ 9999) ∧ 0 ≤ bn y m d y' m' d' / 12 ∧ (bn y m d y' m' d' / 12 = y' - y ∨ bn y m d y' m' d' / 12 = y' - y - 1) := by
  obtain ⟨h1, h2, h3⟩ := bOk_iff.1 h
  have hd := dval_bd h1
  have hd' := dval_bd h2
  have hB := btw h1 h2 h3
  unfold n0 at hB
  omega

theorem law_FnAge (a : Option Addr) (n c : Nat) (w : World) (hc : n ≤ 1048576 → CodeAt w (.slice a n c)) (hb : D.Base w) (he : Err w) :
    Calls Tryd.prog 9 #[.slice a n c] w fun e w' => e = .returned (.bool true) ∧ Below w.heap.size w w' := by
  by_cases hn : n ≤ 1048576
  · refine enter Tryd.func9 rfl Tryd.ntmps9 rfl (by assumption) ?_
    (repeat' (first | intro (b : Nat) | refine go ?_ | (refine br ?_ ?_ <;> first | exact trivial | intro hq)))
    (refine L.vcall (h := by intro W hW; exact d_AgeOf _ W ((hc hn).keep hW.low) hW.base) (k := ?_); intro v hR)
    obtain ⟨y, m, d, y2, m2, d2, rfl⟩ := hR
    cases h : bOk y m d y2 m2 d2
    · have ha : age y m d y2 m2 d2 = -1 := by rw [age_bV, h]; rfl
      (repeat (first | intro (b : Nat) | refine go ?_))
      (refine L.call (h := by intro W hW; exact ha ▸ a_AgeOf _ _ _ _ _ _ W hW.base (hW.err he)) (k := ?_))
      (repeat (first | intro (b : Nat) | refine go ?_))
      (refine L.call (h := by intro W hW; exact ha ▸ b_AgeOf _ _ _ _ _ _ W hW.base) (k := ?_))
      (repeat' (first | intro (b : Nat) | refine go ?_ | (refine br ?_ ?_ <;> first | exact trivial | intro hq)))
      (refine ret ?_; try exact rfl)
    · have ha : age y m d y2 m2 d2 = bn y m d y2 m2 d2 / 12 := by rw [age_bV, h]; rfl
      obtain ⟨hy, hy2, h0, hor⟩ := age_near h
      have hV := bV_yes h
      generalize bn y m d y2 m2 d2 = N at *
      generalize bd y m d y2 m2 d2 = B at *
      (repeat (first | intro (b : Nat) | refine go ?_))
      (refine L.call (h := by intro W hW; exact ha ▸ a_AgeOf _ _ _ _ _ _ W hW.base (hW.err he)) (k := ?_))
      (repeat (first | intro (b : Nat) | refine go ?_))
      (refine L.call (h := by intro W hW; exact ha ▸ b_AgeOf _ _ _ _ _ _ W hW.base) (k := ?_))
      (repeat' (first | intro (b : Nat) | refine go ?_ | (refine br ?_ ?_ <;> first | exact trivial | intro hq)))
      (refine L.call (h := by intro W hW; exact hV ▸ a_DatesBetween _ _ _ _ _ _ W hW.base (hW.err he)) (k := ?_))
      (repeat' (first | intro (b : Nat) | refine go ?_ | (refine br ?_ ?_ <;> first | exact trivial | intro hq)))
      all_goals (refine ret ?_; try exact rfl)
      all_goals simp only [tupleOf, Value.bool.injEq, decide_eq_true_eq]
      all_goals omega
  · refine enter Tryd.func9 rfl Tryd.ntmps9 rfl (by assumption) ?_
    (repeat' (first | intro (b : Nat) | refine go ?_ | (refine br ?_ ?_ <;> first | exact trivial | intro hq)))
    (refine ret ?_; try exact rfl)

end D
end Go.Proofs.YtgllmnmgojbgeaaDoor
