/- The walk of the law that a period leads to the second date. -/
import Derived.Test.YtgllmnmgojbgeaaDoorDr2
import Derived.Test.YtgllmnmgojbgeaaDoorS2
import Derived.Test.YtgllmnmgojbgeaaDoorA3
import Derived.Test.YtgllmnmgojbgeaaDoorA8
import Derived.Test.YtgllmnmgojbgeaaDoorEq
import Derived.Test.YtgllmnmgojbgeaaDoorPB
namespace Go.Proofs.YtgllmnmgojbgeaaDoor
set_option linter.unusedVariables false
set_option linter.unusedSimpArgs false
set_option maxRecDepth 100000
set_option maxHeartbeats 1000000
namespace D
open Go.RowKit
attribute [local irreducible] Calls

theorem dplus_btw {y m d y2 m2 d2 : Int} (h1 : dval y m d = true) (h2 : dval y2 m2 d2 = true) (h3 : num y m d ≤ num y2 m2 d2) :
    dplus y m d (bn y m d y2 m2 d2 / 12) (bn y m d y2 m2 d2 % 12) (bd y m d y2 m2 d2) 0 0 0 false = ⟨y2, m2, d2, true⟩ := by
  have hB := btw h1 h2 h3
  obtain ⟨k1, k2, k3⟩ := btw_sum h1 h2 h3
  generalize bn y m d y2 m2 d2 = N at *
  generalize bd y m d y2 m2 d2 = B at *
  have e1 : sgn false * (12 * (N / 12) + N % 12) = N := by simp only [sgn]; simp; omega
  have e2 : sgn false * B = B := by simp [sgn]
  unfold dplus
  rw [if_pos ⟨h1, perV_iff.2 (by omega), by omega⟩, e1, e2]
  unfold dshift
  rw [if_pos k1]
  unfold dayp
  rw [if_pos ⟨k2, inR_true.2 (by omega)⟩]
  unfold numR at k3
  rw [k3, dateOf_num h2]

theorem law_FnBetween (a : Option Addr) (n c : Nat) (w : World) (hc : n ≤ 1048576 → CodeAt w (.slice a n c)) (hb : D.Base w) (he : Err w) :
    Calls Tryd.prog 13 #[.slice a n c] w fun e w' => e = .returned (.bool true) ∧ Below w.heap.size w w' := by
  by_cases hn : n ≤ 1048576
  · refine enter Tryd.func13 rfl Tryd.ntmps13 rfl (by assumption) ?_
    (repeat' (first | intro (b : Nat) | refine go ?_ | (refine br ?_ ?_ <;> first | exact trivial | intro hq)))
    (refine L.vcall (h := by intro W hW; exact d_DatesBetween _ W ((hc hn).keep hW.low) hW.base) (k := ?_); intro v hR)
    obtain ⟨y, m, d, y2, m2, d2, rfl⟩ := hR
    cases h : bOk y m d y2 m2 d2
    · have hV := bV_no h
      (repeat' (first | intro (b : Nat) | refine go ?_ | (refine br ?_ ?_ <;> first | exact trivial | intro hq) | refine L.call (h := by intro W hW; first | apply rv hV (a_DatesBetween _ _ _ _ _ _ W hW.base (hW.err he)) | apply rv hV (b_DatesBetween _ _ _ _ _ _ W hW.base)) (k := ?_)))
      all_goals (refine ret ?_; try exact rfl)
      all_goals simp [tupleOf]
    · have hV := bV_yes h
      obtain ⟨h1, h2, h3⟩ := bOk_iff.1 h
      have hP := a_DatePlus y m d (bn y m d y2 m2 d2 / 12) (bn y m d y2 m2 d2 % 12) (bd y m d y2 m2 d2) 0 0 0 false
      rw [dplus_btw h1 h2 h3] at hP
      simp only [drV] at hP
      generalize bn y m d y2 m2 d2 = N at *
      generalize bd y m d y2 m2 d2 = B at *
      (repeat' (first | intro (b : Nat) | refine go ?_ | (refine br ?_ ?_ <;> first | exact trivial | intro hq) | refine L.call (h := by intro W hW; first | apply rv hV (a_DatesBetween _ _ _ _ _ _ W hW.base (hW.err he)) | apply rv hV (b_DatesBetween _ _ _ _ _ _ W hW.base) | apply hP W hW.base) (k := ?_)))
      all_goals (refine ret ?_; try exact rfl)
      all_goals simp [tupleOf]
  · refine enter Tryd.func13 rfl Tryd.ntmps13 rfl (by assumption) ?_
    (repeat' (first | intro (b : Nat) | refine go ?_ | (refine br ?_ ?_ <;> first | exact trivial | intro hq)))
    (refine ret ?_; try exact rfl)

end D
end Go.Proofs.YtgllmnmgojbgeaaDoor
