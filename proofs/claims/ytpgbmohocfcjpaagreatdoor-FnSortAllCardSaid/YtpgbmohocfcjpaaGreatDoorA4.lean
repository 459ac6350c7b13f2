/- Walks: clocks and stamps of the program. -/
import Derived.Test.YtpgbmohocfcjpaaGreatDoorA1
import Derived.Test.YtpgbmohocfcjpaaGreatDoorEq
import Derived.Test.YtpgbmohocfcjpaaGreatDoorPL
namespace Go.Proofs.YtpgbmohocfcjpaaGreatDoor
set_option linter.unusedVariables false
set_option linter.unusedSimpArgs false
set_option maxRecDepth 100000
set_option maxHeartbeats 1000000
namespace D
open Go.RowKit
attribute [local irreducible] Calls

theorem a_ClockValid (h i s k : Int) (w : World) (hb : D.Base w) : Calls Tryz.prog 77 #[.agg #[.int .i64 h, .int .i64 i, .int .i64 s, .int .i64 k]] w fun e w' => e = .returned (.bool (cval h i s k)) ∧ Below w.heap.size w w' := by
  by_cases h24 : h = 24 ∧ i = 0 ∧ s = 0 ∧ k = 0
  · obtain ⟨rfl, rfl, rfl, rfl⟩ := h24
    refine enter Tryz.func77 rfl Tryz.ntmps77 rfl (by assumption) ?_
    (repeat' (first | intro (b : Nat) | refine go ?_ | (refine br ?_ ?_ <;> first | exact trivial | intro hq)))
    (refine ret ?_; try exact rfl)
  · have hcv : cval h i s k = (inR h 0 23 && inR i 0 59 && inR s 0 59 && inR k 0 999) := by
      rw [Bool.eq_iff_iff]
      simp only [cval, Bool.and_eq_true, Bool.or_eq_true, decide_eq_true_eq, beq_iff_eq, inR_true]
      omega
    rw [hcv]
    clear hcv
    refine enter Tryz.func77 rfl Tryz.ntmps77 rfl (by assumption) ?_
    (repeat' (first | intro (b : Nat) | refine go ?_ | (refine br ?_ ?_ <;> first | exact trivial | intro hq) | refine L.call (h := by intro W hW; apply a_within _ _ _ W hW.base) (k := ?_)))
    all_goals (refine ret ?_; try exact rfl)
    all_goals simp_all [tupleOf]

theorem a_millis (h i s k : Int) (hv : cval h i s k = true) (w : World) (hb : D.Base w) : Calls Tryz.prog 192 #[.agg #[.int .i64 h, .int .i64 i, .int .i64 s, .int .i64 k]] w fun e w' => e = .returned (.int .i64 (cms h i s k)) ∧ Below w.heap.size w w' := by
  have hbd := cval_bd hv
  refine enter Tryz.func192 rfl Tryz.ntmps192 rfl (by assumption) ?_
  (repeat (first | intro (b : Nat) | refine go ?_))
  (refine ret ?_; try exact rfl)

theorem a_offsetValid (o : Int) (w : World) (hb : D.Base w) : Calls Tryz.prog 78 #[.int .i64 o] w fun e w' => e = .returned (.bool (inR o (-1439) 1439)) ∧ Below w.heap.size w w' := by
  refine enter Tryz.func78 rfl Tryz.ntmps78 rfl (by assumption) ?_
  (repeat (first | intro (b : Nat) | refine go ?_))
  (refine L.call (h := by intro W hW; exact a_within _ _ _ W hW.base) (k := ?_))
  (repeat (first | intro (b : Nat) | refine go ?_))
  (refine ret ?_; try exact rfl)

theorem a_StampValid (y m d h i s k o : Int) (w : World) (hb : D.Base w) : Calls Tryz.prog 34 #[.agg #[.int .i64 y, .int .i64 m, .int .i64 d, .int .i64 h, .int .i64 i, .int .i64 s, .int .i64 k, .int .i64 o]] w fun e w' => e = .returned (.bool (sval y m d h i s k o)) ∧ Below w.heap.size w w' := by
  by_cases c1 : dval y m d = true
  · by_cases c2 : cval h i s k = true
    · refine enter Tryz.func34 rfl Tryz.ntmps34 rfl (by assumption) ?_
      (repeat (first | intro (b : Nat) | refine go ?_))
      (refine L.call (h := by intro W hW; exact c1 ▸ a_DateValid _ _ _ W hW.base) (k := ?_))
      (repeat (first | intro (b : Nat) | refine go ?_))
      (refine L.call (h := by intro W hW; exact c2 ▸ a_ClockValid _ _ _ _ W hW.base) (k := ?_))
      (repeat (first | intro (b : Nat) | refine go ?_))
      (refine L.call (h := by intro W hW; exact a_offsetValid _ W hW.base) (k := ?_))
      (repeat (first | intro (b : Nat) | refine go ?_))
      (refine ret ?_; try exact rfl)
      simp [tupleOf, sval, c1, c2]
    · have c2 : cval h i s k = false := by simpa using c2
      refine enter Tryz.func34 rfl Tryz.ntmps34 rfl (by assumption) ?_
      (repeat (first | intro (b : Nat) | refine go ?_))
      (refine L.call (h := by intro W hW; exact c1 ▸ a_DateValid _ _ _ W hW.base) (k := ?_))
      (repeat (first | intro (b : Nat) | refine go ?_))
      (refine L.call (h := by intro W hW; exact c2 ▸ a_ClockValid _ _ _ _ W hW.base) (k := ?_))
      (repeat (first | intro (b : Nat) | refine go ?_))
      (refine ret ?_; try exact rfl)
      simp [tupleOf, sval, c1, c2]
  · have c1 : dval y m d = false := by simpa using c1
    refine enter Tryz.func34 rfl Tryz.ntmps34 rfl (by assumption) ?_
    (repeat (first | intro (b : Nat) | refine go ?_))
    (refine L.call (h := by intro W hW; exact c1 ▸ a_DateValid _ _ _ W hW.base) (k := ?_))
    (repeat (first | intro (b : Nat) | refine go ?_))
    (refine ret ?_; try exact rfl)
    simp [tupleOf, sval, c1]

theorem a_momentOf (y m d h i s k o : Int) (h1 : dval y m d = true) (w : World) (hb : D.Base w) : Calls Tryz.prog 110 #[.agg #[.int .i64 y, .int .i64 m, .int .i64 d, .int .i64 h, .int .i64 i, .int .i64 s, .int .i64 k, .int .i64 o]] w fun e w' => e = .returned (.agg #[.int .i64 y, .int .i64 m, .int .i64 d, .int .i64 (num y m d), .int .i64 h, .int .i64 i, .int .i64 s, .int .i64 k, .int .i64 o]) ∧ Below w.heap.size w w' := by
  refine enter Tryz.func110 rfl Tryz.ntmps110 rfl (by assumption) ?_
  (repeat (first | intro (b : Nat) | refine go ?_))
  ((repeat (refine C.seq ?_)); apply C.draww 10 [none, some _, none, some _, some _, none, some _, none, some _, none])
  (repeat (first | intro (b : Nat) | refine gg ?_))
  (refine G.call (h := by intro W hW; exact a_number _ _ _ h1 W hW.base) (k := ?_))
  (repeat (first | intro (b : Nat) | refine gg ?_))
  (repeat (first | intro (b : Nat) | refine go ?_))
  (refine ret ?_; try exact rfl)

theorem a_local (y m d n h i s k o : Int) (h1 : 0 ≤ n ∧ n ≤ 3652058) (h2 : cval h i s k = true) (w : World) (hb : D.Base w) : Calls Tryz.prog 161 #[.agg #[.int .i64 y, .int .i64 m, .int .i64 d, .int .i64 n, .int .i64 h, .int .i64 i, .int .i64 s, .int .i64 k, .int .i64 o]] w fun e w' => e = .returned (.int .i64 (86400000 * n + cms h i s k)) ∧ Below w.heap.size w w' := by
  have hc := cms_bd h2
  refine enter Tryz.func161 rfl Tryz.ntmps161 rfl (by assumption) ?_
  (repeat (first | intro (b : Nat) | refine go ?_))
  ((repeat (refine C.seq ?_)); apply C.draww 8 [none, some _, none, none, some _, some _, none, none])
  (repeat (first | intro (b : Nat) | refine gg ?_))
  (refine G.call (h := by intro W hW; exact a_millis _ _ _ _ h2 W hW.base) (k := ?_))
  (repeat (first | intro (b : Nat) | refine gg ?_))
  (repeat (first | intro (b : Nat) | refine go ?_))
  (refine ret ?_; try exact rfl)

theorem a_instant (y m d n h i s k o : Int) (h1 : 0 ≤ n ∧ n ≤ 3652058) (h2 : cval h i s k = true) (h3 : -1439 ≤ o ∧ o ≤ 1439) (w : World) (hb : D.Base w) : Calls Tryz.prog 111 #[.agg #[.int .i64 y, .int .i64 m, .int .i64 d, .int .i64 n, .int .i64 h, .int .i64 i, .int .i64 s, .int .i64 k, .int .i64 o]] w fun e w' => e = .returned (.int .i64 (86400000 * n + cms h i s k - 60000 * o)) ∧ Below w.heap.size w w' := by
  have hc := cms_bd h2
  refine enter Tryz.func111 rfl Tryz.ntmps111 rfl (by assumption) ?_
  (repeat (first | intro (b : Nat) | refine go ?_))
  ((repeat (refine C.seq ?_)); apply C.draww 7 [some _, some _, none, some _, none, none, none])
  (repeat (first | intro (b : Nat) | refine gg ?_))
  (refine G.call (h := by intro W hW; exact a_local _ _ _ _ _ _ _ _ _ h1 h2 W hW.base) (k := ?_))
  (repeat (first | intro (b : Nat) | refine gg ?_))
  (repeat (first | intro (b : Nat) | refine go ?_))
  (refine ret ?_; try exact rfl)

theorem a_instantOf (y m d h i s k o : Int) (hv : sval y m d h i s k o = true) (w : World) (hb : D.Base w) : Calls Tryz.prog 50 #[.agg #[.int .i64 y, .int .i64 m, .int .i64 d, .int .i64 h, .int .i64 i, .int .i64 s, .int .i64 k, .int .i64 o]] w fun e w' => e = .returned (.int .i64 (inst y m d h i s k o)) ∧ Below w.heap.size w w' := by
  obtain ⟨h1, h2, h3, h4⟩ := sval_parts hv
  have hn := num_bd h1
  refine enter Tryz.func50 rfl Tryz.ntmps50 rfl (by assumption) ?_
  (repeat (first | intro (b : Nat) | refine go ?_))
  (refine L.call (h := by intro W hW; exact a_momentOf _ _ _ _ _ _ _ _ h1 W hW.base) (k := ?_))
  (repeat (first | intro (b : Nat) | refine go ?_))
  (refine L.call (h := by intro W hW; exact a_instant _ _ _ _ _ _ _ _ _ hn h2 ⟨h3, h4⟩ W hW.base) (k := ?_))
  (repeat (first | intro (b : Nat) | refine go ?_))
  (refine ret ?_; try exact rfl)

end D
end Go.Proofs.YtpgbmohocfcjpaaGreatDoor

namespace Go.Proofs.YtpgbmohocfcjpaaGreatDoor
set_option linter.unusedVariables false
set_option linter.unusedSimpArgs false
set_option maxRecDepth 100000
set_option maxHeartbeats 1000000
namespace D
open Go.RowKit

/-- The period of so many seconds, and whether there is one. -/
def secV (ok : Bool) (n : Int) : Value := if ok = true then .tuple #[.agg #[.int .i64 0, .int .i64 0, .int .i64 (n / 86400), .int .i64 (n / 3600 % 24), .int .i64 (n / 60 % 60), .int .i64 (n % 60)], .bool true] else .tuple #[.agg #[.int .i64 0, .int .i64 0, .int .i64 0, .int .i64 0, .int .i64 0, .int .i64 0], .bool false]

end D
end Go.Proofs.YtpgbmohocfcjpaaGreatDoor
