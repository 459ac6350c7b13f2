/- The walk of the law on dates of texts: a date has its text. -/
import Derived.Test.YtdhlbaccbeahoaaDoorDr5
import Derived.Test.YtdhlbaccbeahoaaDoorB6
import Derived.Test.YtdhlbaccbeahoaaDoorC4
import Derived.Test.YtdhlbaccbeahoaaDoorPT
import Derived.Test.YtdhlbaccbeahoaaDoorEq
namespace Go.Proofs.YtdhlbaccbeahoaaDoor
set_option linter.unusedVariables false
set_option linter.unusedSimpArgs false
set_option maxRecDepth 100000
set_option maxHeartbeats 1000000
namespace D
open Go.RowKit
attribute [local irreducible] Calls

/-- What a text that is read as a date gives. -/
theorem df_cases (s : ByteArray) : (∃ (y m d f : Int) (h : Bool), dfV (okS s) (dS s) = .tuple #[.agg #[.int .i64 y, .int .i64 m, .int .i64 d], .int .i64 f, .bool h, .bool true] ∧ dval y m d = true ∧ inR f 0 2 = true ∧ strOfNums (dtL y m d f h) = s) ∨ dfV (okS s) (dS s) = dfNo := by
  rcases dfV_or (okS s) (dS s) with ⟨k, h1, h2, h3, h4⟩ | ⟨h1, h2⟩
  · left
    unfold okS at h3
    simp only [Bool.and_eq_true, decide_eq_true_eq] at h3
    exact ⟨_, _, _, _, _, h4, h3.1.2, inR_true.2 (by omega), h3.2⟩
  · exact .inr h2

theorem law_FnDateFrom (a : Option Addr) (n c : Nat) (w : World) (hc : n ≤ 1048576 → CodeAt w (.slice a n c)) (hb : D.Base w) :
    Calls Tryd.prog 4 #[.slice a n c] w fun e w' => e = .returned (.bool true) ∧ Below w.heap.size w w' := by
  by_cases hn : n ≤ 1048576
  · refine enter Tryd.func4 rfl Tryd.ntmps4 rfl (by assumption) ?_
    (repeat' (first | intro (b : Nat) | refine go ?_ | (refine br ?_ ?_ <;> first | exact trivial | intro hq)))
    (refine L.vcall (h := by intro W hW; exact d_DateFromS _ W ((hc hn).keep hW.low) hW.base) (k := ?_); intro v hR)
    obtain ⟨s, rfl, hs⟩ := hR
    have hA := a_DateFrom s (by omega)
    have hB := b_DateFrom s (by omega)
    rw [df_eq s] at hA
    rcases df_cases s with ⟨y, m, d, f, h, e, hv, hf, ht⟩ | e
    · rw [e] at hA hB
      have hT := a_DateText y m d f h
      rw [show dtS y m d f h = .tuple #[.string (strOfNums (dtL y m d f h)), .bool true] from if_pos ⟨hv, hf⟩, ht] at hT
      clear ht e
      cases h
      all_goals
        (repeat' (first | intro (b : Nat) | refine go ?_ | (refine br ?_ ?_ <;> first | exact trivial | intro hq) | refine L.call (h := by intro W hW; first | apply hA W hW.base | apply hB W hW.base | apply hT W hW.base | apply rvb hv (a_DateValid _ _ _ W hW.base)) (k := ?_)))
        all_goals (refine ret ?_; try exact rfl)
        all_goals simp [tupleOf]
    · rw [e] at hA hB
      unfold dfNo at hA hB
      (repeat' (first | intro (b : Nat) | refine go ?_ | (refine br ?_ ?_ <;> first | exact trivial | intro hq) | refine L.call (h := by intro W hW; first | apply hA W hW.base | apply hB W hW.base) (k := ?_)))
      all_goals (refine ret ?_; try exact rfl)
      all_goals simp [tupleOf]
  · refine enter Tryd.func4 rfl Tryd.ntmps4 rfl (by assumption) ?_
    (repeat' (first | intro (b : Nat) | refine go ?_ | (refine br ?_ ?_ <;> first | exact trivial | intro hq)))
    (refine ret ?_; try exact rfl)

end D
end Go.Proofs.YtdhlbaccbeahoaaDoor
