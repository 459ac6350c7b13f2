/- Walks: texts of dates; dates of texts. -/
import Derived.Test.YtdafjaimljhcaaaGreatDoorB3
import Derived.Test.YtdafjaimljhcaaaGreatDoorE3m
import Derived.Test.YtdafjaimljhcaaaGreatDoorPT
namespace Go.Proofs.YtdafjaimljhcaaaGreatDoor
set_option linter.unusedVariables false
set_option linter.unusedSimpArgs false
set_option maxRecDepth 100000
set_option maxHeartbeats 1000000
namespace D
open Go.RowKit
open Go.PlainAid (bt bt_nonneg bt_le bt_end)
attribute [local irreducible] Calls

theorem wno_53 {n : Int} (h : 0 ≤ n ∧ n ≤ 3652058) : 1 ≤ wno n ∧ wno n ≤ 53 := by
  have := wno_bd h
  have := wks_bd (wyr n)
  omega

theorem a_dateText0 (y m d : Int) (h : Bool) (hv : dval y m d = true) (w : World) (hb : D.Base w) : Calls Tryz.prog 43 #[.agg #[.int .i64 y, .int .i64 m, .int .i64 d], .iface 54 (.agg #[]), .bool h] w fun e w' => e = .returned (.string (strOfNums (dtL y m d 0 h))) ∧ Below w.heap.size w w' := by
  have es : strOfNums (dtL y m d 0 h) = strOfNums (digL y 4 ++ hy1 h ++ digL m 2 ++ hy1 h ++ digL d 2) := rfl
  have l1 := digL_length y 4
  have l2 := digL_length m 2
  have l3 := digL_length d 2
  rw [es]
  cases h
  all_goals
    refine enter Tryz.func43 rfl Tryz.ntmps43 rfl (by assumption) ?_
    (repeat (first | intro (b : Nat) | refine go ?_))
    (refine L.invsl (h := by intro W hW; exact a_monthParts y m d hv W hW.base) (k := ?_); intro bp)
    generalize digL y 4 = x at *
    generalize digL m 2 = z at *
    generalize digL d 2 = u at *
    (repeat (first | intro (b : Nat) | refine go ?_))
    refine C.rounds 6 ?_
    (repeat' (first | intro (b : Nat) | refine go ?_ | (refine br ?_ ?_ <;> first | exact trivial | intro hq)))
    (refine ret ?_)
    refine congrArg Value.string ?_
    rw [show (⟨#[]⟩ : ByteArray) = strOfNums [] from rfl]
    try rw [show (⟨#[45]⟩ : ByteArray) = strOfNums [45] from rfl]
    simp only [strOfNums_append]
    simp [hy1]

end D
end Go.Proofs.YtdafjaimljhcaaaGreatDoor
