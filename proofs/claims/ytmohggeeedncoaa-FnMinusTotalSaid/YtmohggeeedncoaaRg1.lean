/- Walks: ranges of the program: valid ones, what is left of a range. -/
import Derived.Test.YtmohggeeedncoaaEp
namespace Go.Proofs.Ytmohggeeedncoaa
set_option linter.unusedVariables false
set_option linter.unusedSimpArgs false
set_option maxRecDepth 100000
set_option maxHeartbeats 1000000
namespace D
open Go.RowKit
attribute [local irreducible] Calls

theorem a_within (n lo hi : Int) (w : World) (hb : D.Base w) : Calls Try.prog 49 #[.int .i64 n, .int .i64 lo, .int .i64 hi] w fun e w' => e = .returned (.bool (inR n lo hi)) ∧ Below w.heap.size w w' := by
  refine enter Try.func49 rfl Try.ntmps49 rfl (by assumption) ?_
  (repeat' (first | intro (b : Nat) | refine go ?_ | (refine br ?_ ?_ <;> first | exact trivial | intro hq)))
  all_goals (refine ret ?_; try exact rfl)
  all_goals (simp [tupleOf, inR] <;> omega)

theorem a_instantValid (n : Int) (w : World) (hb : D.Base w) : Calls Try.prog 42 #[.int .i64 n] w fun e w' => e = .returned (.bool (insV n)) ∧ Below w.heap.size w w' := by
  refine enter Try.func42 rfl Try.ntmps42 rfl (by assumption) ?_
  (repeat' (first | intro (b : Nat) | refine go ?_ | (refine br ?_ ?_ <;> first | exact trivial | intro hq) | refine L.call (h := by intro W hW; apply a_within _ _ _ W hW.base) (k := ?_)))
  (refine ret ?_; try exact rfl)

theorem a_rangeValid (r : Rg) (w : World) (hb : D.Base w) : Calls Try.prog 30 #[.agg (rc r).toArray] w fun e w' => e = .returned (.bool (rOk r)) ∧ Below w.heap.size w w' := by
  refine enter Try.func30 rfl Try.ntmps30 rfl (by assumption) ?_
  (repeat' (first | intro (b : Nat) | refine go ?_ | (refine br ?_ ?_ <;> first | exact trivial | intro hq) | refine L.call (h := by intro W hW; apply a_instantValid _ W hW.base) (k := ?_)))
  all_goals (refine ret ?_; try exact rfl)
  all_goals simp [tupleOf, rOk, *]

theorem a_RangesValid (p : Option Addr) (c : Nat) (A : List Rg) (w : World) (hA : RAt w p A) (hb : D.Base w) : Calls Try.prog 17 #[.slice p A.length c] w fun e w' => e = .returned (.bool (rvB A)) ∧ Below w.heap.size w w' := by
  by_cases h8 : A.length ≤ 8
  · refine enter Try.func17 rfl Try.ntmps17 rfl (by assumption) ?_
    (repeat' (first | intro (b : Nat) | refine go ?_ | (refine br ?_ ?_ <;> first | exact trivial | intro hq) | refine gg ?_ | (apply C.draww (id := 6) 18 [some _, some _, none, none, none, none, none, none, some _, none, none, none, none, none, some _, none, none, none])))
    refine C.loopw (Y := Nat) (fun k => [(0, .slice p A.length c), (8, .slice p A.length c), (9, .int .i64 A.length), (10, .int .i64 k)]) (fun k => []) (fun k => k ≤ A.length ∧ AscTo A k) (fun k => A.length - k) 0 ⟨by omega, fun i hi => by omega⟩ (fun k hy => ?_)
    (repeat' (first | intro (b : Nat) | refine go ?_ | (refine br ?_ ?_ <;> first | exact trivial | intro hq)))
    · have hk : k < A.length := by omega
      obtain ⟨b, o, rfl, h1, h2, h3⟩ := hA.at (i := k) (by omega) (by omega)
      simp only [Int.toNat_natCast] at h1 h2 h3
      cases hr : rOk (gR A k) with
      | false =>
        (repeat' (first | intro (b : Nat) | refine go ?_ | (refine br ?_ ?_ <;> first | exact trivial | intro hq) | refine L.call (h := by intro W hW; apply rvb hr (a_rangeValid _ W hW.base)) (k := ?_) | refine gg ?_ | refine G.call (h := by intro W hW; apply rvb hr (a_rangeValid _ W hW.base)) (k := ?_) | (apply C.draww (id := 6) 18 [some _, some _, none, none, none, none, none, none, some _, none, none, none, none, none, some _, none, none, none])))
        all_goals (refine ret ?_; try exact rfl)
        all_goals (have h4 := asc_not hk (by simp [hr]); simp [tupleOf, rvB, h4])
      | true =>
        by_cases hk0 : k = 0
        · have hg : decide ((0 : Int) < (k : Int)) = false := by simp [hk0]
          (repeat' (first | intro (b : Nat) | refine go ?_ | (refine br ?_ ?_ <;> first | exact trivial | intro hq) | refine L.call (h := by intro W hW; apply rvb hr (a_rangeValid _ W hW.base)) (k := ?_) | refine gg ?_ | refine G.call (h := by intro W hW; apply rvb hr (a_rangeValid _ W hW.base)) (k := ?_) | (apply C.draww (id := 6) 18 [some _, some _, none, none, none, none, none, none, some _, none, none, none, none, none, some _, none, none, none])))
          refine X.roundw (k + 1) (⟨by omega, ascTo_succ hy.2 hr (by omega)⟩) (by omega)
        · have hg : decide ((0 : Int) < (k : Int)) = true := by simp; omega
          obtain ⟨b', o', hp', k1, k2, k3⟩ := hA.at (i := (k : Int) - 1) (by omega) (by omega)
          obtain ⟨rfl, rfl⟩ : b' = b ∧ o' = o := by simpa using hp'.symm
          (repeat' (first | intro (b : Nat) | refine go ?_ | (refine br ?_ ?_ <;> first | exact trivial | intro hq) | refine L.call (h := by intro W hW; apply rvb hr (a_rangeValid _ W hW.base)) (k := ?_) | refine gg ?_ | refine G.call (h := by intro W hW; apply rvb hr (a_rangeValid _ W hW.base)) (k := ?_) | (apply C.draww (id := 6) 18 [some _, some _, none, none, none, none, none, none, some _, none, none, none, none, none, some _, none, none, none])))
          · (refine ret ?_; try exact rfl)
            simp only [tupleOf]
            refine congrArg Value.bool ?_
            simp only [rvB, asc_not hk (fun h => by have := h.2 (by omega); rw [show ((k : Int) - 1).toNat = k - 1 by omega] at *; omega)]
            rfl
          · refine X.roundw (k + 1) (⟨by omega, ascTo_succ hy.2 hr (fun _ => by rw [show ((k : Int) - 1).toNat = k - 1 by omega] at *; omega)⟩) (by omega)
    · (refine ret ?_; try exact rfl)
      have e : k = A.length := by omega
      have : AscTo A A.length := e ▸ hy.2
      simp [tupleOf, rvB, ascR, this, h8]
  · refine enter Try.func17 rfl Try.ntmps17 rfl (by assumption) ?_
    (repeat' (first | intro (b : Nat) | refine go ?_ | (refine br ?_ ?_ <;> first | exact trivial | intro hq) | refine gg ?_ | (apply C.draww (id := 6) 18 [some _, some _, none, none, none, none, none, none, some _, none, none, none, none, none, some _, none, none, none])))
    (refine ret ?_; try exact rfl)
    simp [tupleOf, rvB, h8]

end D
end Go.Proofs.Ytmohggeeedncoaa
