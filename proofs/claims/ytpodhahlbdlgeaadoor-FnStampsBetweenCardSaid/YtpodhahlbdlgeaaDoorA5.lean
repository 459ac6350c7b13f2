/- Walks: what is between stamps, in the program. -/
import Derived.Test.YtpodhahlbdlgeaaDoorA4
namespace Go.Proofs.YtpodhahlbdlgeaaDoor
set_option linter.unusedVariables false
set_option linter.unusedSimpArgs false
set_option maxRecDepth 100000
set_option maxHeartbeats 1000000
namespace D
open Go.RowKit

theorem a_apartS_ok (y m d h i s k o y' m' d' h' i' s' k' o' : Int) (hv : sval y m d h i s k o = true) (hv' : sval y' m' d' h' i' s' k' o' = true) (hle : inst y m d h i s k o ≤ inst y' m' d' h' i' s' k' o') (w : World) (hb : D.Base w) :
    Calls Tryd.prog 13 #[.agg #[.int .i64 y, .int .i64 m, .int .i64 d, .int .i64 h, .int .i64 i, .int .i64 s, .int .i64 k, .int .i64 o], .agg #[.int .i64 y', .int .i64 m', .int .i64 d', .int .i64 h', .int .i64 i', .int .i64 s', .int .i64 k', .int .i64 o'], .func (.func 14) #[] #[]] w fun e w' => e = .returned (.tuple #[.int .i64 (inst y' m' d' h' i' s' k' o' - inst y m d h i s k o), .nilIface]) ∧ Below w.heap.size w w' := by
  have hn := inst_bd hv
  have hn' := inst_bd hv'
  have hc : cmp (inst y m d h i s k o) (inst y' m' d' h' i' s' k' o') ≤ 0 := by unfold cmp; split <;> (try split) <;> omega
  refine enter Tryd.func13 rfl Tryd.ntmps13 rfl (by assumption) ?_
  (repeat (first | intro (b : Nat) | refine go ?_))
  ((repeat (refine C.seq ?_)); apply C.draww 8 [none, some _, some _, none, some _, some _, some _, none])
  (repeat (first | intro (b : Nat) | refine gg ?_))
  (refine G.callx (h := by intro W hW; exact a_instantOf _ _ _ _ _ _ _ _ hv W hW.base) (k := ?_))
  (repeat (first | intro (b : Nat) | refine gg ?_))
  (refine G.callx (h := by intro W hW; exact a_instantOf _ _ _ _ _ _ _ _ hv' W hW.base) (k := ?_))
  (repeat (first | intro (b : Nat) | refine gg ?_))
  (refine G.call (h := by intro W hW; exact a_Compare _ _ W hW.base) (k := ?_))
  (repeat (first | intro (b : Nat) | refine gg ?_))
  (repeat' (first | intro (b : Nat) | refine go ?_ | (refine br ?_ ?_ <;> first | exact trivial | intro hq)))
  ((repeat (refine C.seq ?_)); apply C.draww 9 [none, some _, some _, none, some _, some _, none, none, none])
  (repeat (first | intro (b : Nat) | refine gg ?_))
  (refine G.callx (h := by intro W hW; exact a_instantOf _ _ _ _ _ _ _ _ hv' W hW.base) (k := ?_))
  (repeat (first | intro (b : Nat) | refine gg ?_))
  (refine G.callx (h := by intro W hW; exact a_instantOf _ _ _ _ _ _ _ _ hv W hW.base) (k := ?_))
  (repeat (first | intro (b : Nat) | refine gg ?_))
  (repeat (first | intro (b : Nat) | refine go ?_))
  (refine ret ?_; try exact rfl)

theorem a_apartS_back (y m d h i s k o y' m' d' h' i' s' k' o' : Int) (ea : Addr) (hv : sval y m d h i s k o = true) (hv' : sval y' m' d' h' i' s' k' o' = true) (hlt : inst y' m' d' h' i' s' k' o' < inst y m d h i s k o) (w : World) (hb : D.Base w) (hea : w.cell? ⟨0, 0, none⟩ = some (.iface 105 (.pointer (some ea)))) :
    Calls Tryd.prog 13 #[.agg #[.int .i64 y, .int .i64 m, .int .i64 d, .int .i64 h, .int .i64 i, .int .i64 s, .int .i64 k, .int .i64 o], .agg #[.int .i64 y', .int .i64 m', .int .i64 d', .int .i64 h', .int .i64 i', .int .i64 s', .int .i64 k', .int .i64 o'], .func (.func 14) #[] #[]] w fun e w' => e = .returned (.tuple #[.int .i64 0, .iface 105 (.pointer (some ea))]) ∧ Below w.heap.size w w' := by
  have hn := inst_bd hv
  have hn' := inst_bd hv'
  have hc : 0 < cmp (inst y m d h i s k o) (inst y' m' d' h' i' s' k' o') := by unfold cmp; rw [if_neg (by omega), if_pos (by omega)]; omega
  refine enter Tryd.func13 rfl Tryd.ntmps13 rfl (by assumption) ?_
  (repeat (first | intro (b : Nat) | refine go ?_))
  ((repeat (refine C.seq ?_)); apply C.draww 8 [none, some _, some _, none, some _, some _, some _, none])
  (repeat (first | intro (b : Nat) | refine gg ?_))
  (refine G.callx (h := by intro W hW; exact a_instantOf _ _ _ _ _ _ _ _ hv W hW.base) (k := ?_))
  (repeat (first | intro (b : Nat) | refine gg ?_))
  (refine G.callx (h := by intro W hW; exact a_instantOf _ _ _ _ _ _ _ _ hv' W hW.base) (k := ?_))
  (repeat (first | intro (b : Nat) | refine gg ?_))
  (refine G.call (h := by intro W hW; exact a_Compare _ _ W hW.base) (k := ?_))
  (repeat (first | intro (b : Nat) | refine gg ?_))
  (repeat' (first | intro (b : Nat) | refine go ?_ | (refine br ?_ ?_ <;> first | exact trivial | intro hq)))
  ((repeat (refine C.seq ?_)); apply C.draww 3 [some _, none, none])
  (repeat (first | intro (b : Nat) | refine gg ?_))
  (repeat (first | intro (b : Nat) | refine go ?_))
  (refine ret ?_; try exact rfl)

theorem a_ofSeconds (n : Int) (h1 : 0 ≤ n) (h2 : n ≤ 9223372036854775807) (w : World) (hb : D.Base w) : Calls Tryd.prog 16 #[.int .i64 n] w fun e w' => e = .returned (.agg #[.int .i64 0, .int .i64 0, .int .i64 (n / 86400), .int .i64 (n / 3600 % 24), .int .i64 (n / 60 % 60), .int .i64 (n % 60)]) ∧ Below w.heap.size w w' := by
  refine enter Tryd.func16 rfl Tryd.ntmps16 rfl (by assumption) ?_
  (repeat (first | intro (b : Nat) | refine go ?_))
  (refine ret ?_; try exact rfl)

/-- The period of so many seconds, and whether there is one. -/
def secV (ok : Bool) (n : Int) : Value := if ok = true then .tuple #[.agg #[.int .i64 0, .int .i64 0, .int .i64 (n / 86400), .int .i64 (n / 3600 % 24), .int .i64 (n / 60 % 60), .int .i64 (n % 60)], .bool true] else .tuple #[.agg #[.int .i64 0, .int .i64 0, .int .i64 0, .int .i64 0, .int .i64 0, .int .i64 0], .bool false]

theorem a_StampsBetween (y m d h i s k o y' m' d' h' i' s' k' o' : Int) (w : World) (hb : D.Base w) (he : Err w) :
    Calls Tryd.prog 5 #[.agg #[.int .i64 y, .int .i64 m, .int .i64 d, .int .i64 h, .int .i64 i, .int .i64 s, .int .i64 k, .int .i64 o], .agg #[.int .i64 y', .int .i64 m', .int .i64 d', .int .i64 h', .int .i64 i', .int .i64 s', .int .i64 k', .int .i64 o']] w fun e w' => e = .returned (secV (sbOk y m d h i s k o y' m' d' h' i' s' k' o') ((inst y' m' d' h' i' s' k' o' - inst y m d h i s k o) / 1000)) ∧ Below w.heap.size w w' := by
  obtain ⟨ea, hea⟩ := he
  cases hv : sval y m d h i s k o
  · rw [show sbOk y m d h i s k o y' m' d' h' i' s' k' o' = false by simp [sbOk, hv]]
    refine enter Tryd.func5 rfl Tryd.ntmps5 rfl (by assumption) ?_
    (repeat (first | intro (b : Nat) | refine go ?_))
    (refine L.call (h := by intro W hW; exact hv ▸ a_StampValid _ _ _ _ _ _ _ _ W hW.base) (k := ?_))
    (repeat (first | intro (b : Nat) | refine go ?_))
    (refine ret ?_; try exact rfl)
  cases hv' : sval y' m' d' h' i' s' k' o'
  · rw [show sbOk y m d h i s k o y' m' d' h' i' s' k' o' = false by simp [sbOk, hv']]
    refine enter Tryd.func5 rfl Tryd.ntmps5 rfl (by assumption) ?_
    (repeat (first | intro (b : Nat) | refine go ?_))
    (refine L.call (h := by intro W hW; exact hv ▸ a_StampValid _ _ _ _ _ _ _ _ W hW.base) (k := ?_))
    (repeat (first | intro (b : Nat) | refine go ?_))
    (refine L.call (h := by intro W hW; exact hv' ▸ a_StampValid _ _ _ _ _ _ _ _ W hW.base) (k := ?_))
    (repeat (first | intro (b : Nat) | refine go ?_))
    (refine ret ?_; try exact rfl)
  have hn := inst_bd hv
  have hn' := inst_bd hv'
  by_cases hle : inst y m d h i s k o ≤ inst y' m' d' h' i' s' k' o'
  · by_cases h99 : (inst y' m' d' h' i' s' k' o' - inst y m d h i s k o) / 86400000 ≤ 9999
    · rw [show sbOk y m d h i s k o y' m' d' h' i' s' k' o' = true by simp [sbOk, hv, hv', hle, h99]]
      refine enter Tryd.func5 rfl Tryd.ntmps5 rfl (by assumption) ?_
      (repeat (first | intro (b : Nat) | refine go ?_))
      (refine L.call (h := by intro W hW; exact hv ▸ a_StampValid _ _ _ _ _ _ _ _ W hW.base) (k := ?_))
      (repeat (first | intro (b : Nat) | refine go ?_))
      (refine L.call (h := by intro W hW; exact hv' ▸ a_StampValid _ _ _ _ _ _ _ _ W hW.base) (k := ?_))
      (repeat (first | intro (b : Nat) | refine go ?_))
      (refine L.call (h := by intro W hW; exact a_apartS_ok _ _ _ _ _ _ _ _ _ _ _ _ _ _ _ _ hv hv' hle W hW.base) (k := ?_))
      (repeat (first | intro (b : Nat) | refine go ?_))
      (refine L.call (h := by intro W hW; exact a_is_nil _ W) (k := ?_))
      (repeat (first | intro (b : Nat) | refine go ?_))
      (refine L.call (h := by intro W hW; exact a_ofSeconds _ (by omega) (by omega) W hW.base) (k := ?_))
      (repeat' (first | intro (b : Nat) | refine go ?_ | (refine br ?_ ?_ <;> first | exact trivial | intro hq)))
      (refine ret ?_; try exact rfl)
    · rw [show sbOk y m d h i s k o y' m' d' h' i' s' k' o' = false by simp [sbOk, hv, hv', hle, h99]]
      refine enter Tryd.func5 rfl Tryd.ntmps5 rfl (by assumption) ?_
      (repeat (first | intro (b : Nat) | refine go ?_))
      (refine L.call (h := by intro W hW; exact hv ▸ a_StampValid _ _ _ _ _ _ _ _ W hW.base) (k := ?_))
      (repeat (first | intro (b : Nat) | refine go ?_))
      (refine L.call (h := by intro W hW; exact hv' ▸ a_StampValid _ _ _ _ _ _ _ _ W hW.base) (k := ?_))
      (repeat (first | intro (b : Nat) | refine go ?_))
      (refine L.call (h := by intro W hW; exact a_apartS_ok _ _ _ _ _ _ _ _ _ _ _ _ _ _ _ _ hv hv' hle W hW.base) (k := ?_))
      (repeat (first | intro (b : Nat) | refine go ?_))
      (refine L.call (h := by intro W hW; exact a_is_nil _ W) (k := ?_))
      (repeat (first | intro (b : Nat) | refine go ?_))
      (refine L.call (h := by intro W hW; exact a_ofSeconds _ (by omega) (by omega) W hW.base) (k := ?_))
      (repeat' (first | intro (b : Nat) | refine go ?_ | (refine br ?_ ?_ <;> first | exact trivial | intro hq)))
      (refine ret ?_; try exact rfl)
  · rw [show sbOk y m d h i s k o y' m' d' h' i' s' k' o' = false by simp [sbOk, hv, hv', hle]]
    refine enter Tryd.func5 rfl Tryd.ntmps5 rfl (by assumption) ?_
    (repeat (first | intro (b : Nat) | refine go ?_))
    (refine L.call (h := by intro W hW; exact hv ▸ a_StampValid _ _ _ _ _ _ _ _ W hW.base) (k := ?_))
    (repeat (first | intro (b : Nat) | refine go ?_))
    (refine L.call (h := by intro W hW; exact hv' ▸ a_StampValid _ _ _ _ _ _ _ _ W hW.base) (k := ?_))
    (repeat (first | intro (b : Nat) | refine go ?_))
    (refine L.call (h := by intro W hW; exact a_apartS_back _ _ _ _ _ _ _ _ _ _ _ _ _ _ _ _ ea hv hv' (by omega) W hW.base (hW.old hea)) (k := ?_))
    (repeat (first | intro (b : Nat) | refine go ?_))
    (refine L.call (h := by intro W hW; exact a_is_same _ W) (k := ?_))
    (repeat (first | intro (b : Nat) | refine go ?_))
    (refine ret ?_; try exact rfl)

end D
end Go.Proofs.YtpodhahlbdlgeaaDoor
