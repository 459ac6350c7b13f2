/- Walks: clocks and stamps of the program. -/
import Derived.Test.YtboglbdhibcacaaGreatDoorVf
import Derived.Test.YtboglbdhibcacaaGreatDoorVd
import Derived.Test.YtboglbdhibcacaaGreatDoorVe
import Derived.Test.YtboglbdhibcacaaGreatDoorVi
namespace Go.Proofs.YtboglbdhibcacaaGreatDoor
set_option linter.unusedVariables false
set_option linter.unusedSimpArgs false
set_option maxRecDepth 100000
set_option maxHeartbeats 1000000
namespace D
open Go.RowKit
attribute [local irreducible] Calls

theorem a_ClockValid (h i s k : Int) (w : World) (hb : D.Base w) : Calls Tryz.prog 171 #[.agg #[.int .i64 h, .int .i64 i, .int .i64 s, .int .i64 k]] w fun e w' => e = .returned (.bool (cval h i s k)) ∧ Below w.heap.size w w' := by
  by_cases h24 : h = 24 ∧ i = 0 ∧ s = 0 ∧ k = 0
  · obtain ⟨rfl, rfl, rfl, rfl⟩ := h24
    refine enter Tryz.func171 rfl Tryz.ntmps171 rfl (by assumption) ?_
    (repeat' (first | intro (b : Nat) | refine go ?_ | (refine br ?_ ?_ <;> first | exact trivial | intro hq)))
    (refine ret ?_; try exact rfl)
  · have hcv : cval h i s k = (inR h 0 23 && inR i 0 59 && inR s 0 59 && inR k 0 999) := by
      rw [Bool.eq_iff_iff]
      simp only [cval, Bool.and_eq_true, Bool.or_eq_true, decide_eq_true_eq, beq_iff_eq, inR_true]
      omega
    rw [hcv]
    clear hcv
    refine enter Tryz.func171 rfl Tryz.ntmps171 rfl (by assumption) ?_
    (repeat' (first | intro (b : Nat) | refine go ?_ | (refine br ?_ ?_ <;> first | exact trivial | intro hq) | refine L.call (h := by intro W hW; apply a_within _ _ _ W hW.base) (k := ?_)))
    all_goals (refine ret ?_; try exact rfl)
    all_goals simp_all [tupleOf]

theorem a_millis (h i s k : Int) (hv : cval h i s k = true) (w : World) (hb : D.Base w) : Calls Tryz.prog 238 #[.agg #[.int .i64 h, .int .i64 i, .int .i64 s, .int .i64 k]] w fun e w' => e = .returned (.int .i64 (cms h i s k)) ∧ Below w.heap.size w w' := by
  have hbd := cval_bd hv
  refine enter Tryz.func238 rfl Tryz.ntmps238 rfl (by assumption) ?_
  (repeat (first | intro (b : Nat) | refine go ?_))
  (refine ret ?_; try exact rfl)

theorem a_offsetValid (o : Int) (w : World) (hb : D.Base w) : Calls Tryz.prog 172 #[.int .i64 o] w fun e w' => e = .returned (.bool (inR o (-1439) 1439)) ∧ Below w.heap.size w w' := by
  refine enter Tryz.func172 rfl Tryz.ntmps172 rfl (by assumption) ?_
  (repeat (first | intro (b : Nat) | refine go ?_))
  (refine L.call (h := by intro W hW; exact a_within _ _ _ W hW.base) (k := ?_))
  (repeat (first | intro (b : Nat) | refine go ?_))
  (refine ret ?_; try exact rfl)

theorem a_StampValid (y m d h i s k o : Int) (w : World) (hb : D.Base w) : Calls Tryz.prog 110 #[.agg #[.int .i64 y, .int .i64 m, .int .i64 d, .int .i64 h, .int .i64 i, .int .i64 s, .int .i64 k, .int .i64 o]] w fun e w' => e = .returned (.bool (sval y m d h i s k o)) ∧ Below w.heap.size w w' := by
  by_cases c1 : dval y m d = true
  · by_cases c2 : cval h i s k = true
    · refine enter Tryz.func110 rfl Tryz.ntmps110 rfl (by assumption) ?_
      (repeat (first | intro (b : Nat) | refine go ?_))
      (refine L.call (h := by intro W hW; exact c1 ▸ a_DateValid _ _ _ W hW.base) (k := ?_))
      (repeat (first | intro (b : Nat) | refine go ?_))
      (refine L.call (h := by intro W hW; exact c2 ▸ a_ClockValid _ _ _ _ W hW.base) (k := ?_))
      (repeat (first | intro (b : Nat) | refine go ?_))
      (refine L.call (h := by intro W hW; exact a_offsetValid _ W hW.base) (k := ?_))
      (repeat (first | intro (b : Nat) | refine go ?_))
      (refine ret ?_; try exact rfl)
      simp [tupleOf, sval, c1, c2]
    · have c2 : cval h i s k = false := by simpa using c2
      refine enter Tryz.func110 rfl Tryz.ntmps110 rfl (by assumption) ?_
      (repeat (first | intro (b : Nat) | refine go ?_))
      (refine L.call (h := by intro W hW; exact c1 ▸ a_DateValid _ _ _ W hW.base) (k := ?_))
      (repeat (first | intro (b : Nat) | refine go ?_))
      (refine L.call (h := by intro W hW; exact c2 ▸ a_ClockValid _ _ _ _ W hW.base) (k := ?_))
      (repeat (first | intro (b : Nat) | refine go ?_))
      (refine ret ?_; try exact rfl)
      simp [tupleOf, sval, c1, c2]
  · have c1 : dval y m d = false := by simpa using c1
    refine enter Tryz.func110 rfl Tryz.ntmps110 rfl (by assumption) ?_
    (repeat (first | intro (b : Nat) | refine go ?_))
    (refine L.call (h := by intro W hW; exact c1 ▸ a_DateValid _ _ _ W hW.base) (k := ?_))
    (repeat (first | intro (b : Nat) | refine go ?_))
    (refine ret ?_; try exact rfl)
    simp [tupleOf, sval, c1]

theorem a_momentOf (y m d h i s k o : Int) (h1 : dval y m d = true) (w : World) (hb : D.Base w) : Calls Tryz.prog 214 #[.agg #[.int .i64 y, .int .i64 m, .int .i64 d, .int .i64 h, .int .i64 i, .int .i64 s, .int .i64 k, .int .i64 o]] w fun e w' => e = .returned (.agg #[.int .i64 y, .int .i64 m, .int .i64 d, .int .i64 (num y m d), .int .i64 h, .int .i64 i, .int .i64 s, .int .i64 k, .int .i64 o]) ∧ Below w.heap.size w w' := by
  refine enter Tryz.func214 rfl Tryz.ntmps214 rfl (by assumption) ?_
  (repeat (first | intro (b : Nat) | refine go ?_))
  ((repeat (refine C.seq ?_)); apply C.draww 10 [none, some _, none, some _, some _, none, some _, none, some _, none])
  (repeat (first | intro (b : Nat) | refine gg ?_))
  (refine G.call (h := by intro W hW; exact a_number _ _ _ h1 W hW.base) (k := ?_))
  (repeat (first | intro (b : Nat) | refine gg ?_))
  (repeat (first | intro (b : Nat) | refine go ?_))
  (refine ret ?_; try exact rfl)

theorem a_local (y m d n h i s k o : Int) (h1 : 0 ≤ n ∧ n ≤ 3652058) (h2 : cval h i s k = true) (w : World) (hb : D.Base w) : Calls Tryz.prog 232 #[.agg #[.int .i64 y, .int .i64 m, .int .i64 d, .int .i64 n, .int .i64 h, .int .i64 i, .int .i64 s, .int .i64 k, .int .i64 o]] w fun e w' => e = .returned (.int .i64 (86400000 * n + cms h i s k)) ∧ Below w.heap.size w w' := by
  have hc := cms_bd h2
  refine enter Tryz.func232 rfl Tryz.ntmps232 rfl (by assumption) ?_
  (repeat (first | intro (b : Nat) | refine go ?_))
  ((repeat (refine C.seq ?_)); apply C.draww 8 [none, some _, none, none, some _, some _, none, none])
  (repeat (first | intro (b : Nat) | refine gg ?_))
  (refine G.call (h := by intro W hW; exact a_millis _ _ _ _ h2 W hW.base) (k := ?_))
  (repeat (first | intro (b : Nat) | refine gg ?_))
  (repeat (first | intro (b : Nat) | refine go ?_))
  (refine ret ?_; try exact rfl)

theorem a_instant (y m d n h i s k o : Int) (h1 : 0 ≤ n ∧ n ≤ 3652058) (h2 : cval h i s k = true) (h3 : -1439 ≤ o ∧ o ≤ 1439) (w : World) (hb : D.Base w) : Calls Tryz.prog 215 #[.agg #[.int .i64 y, .int .i64 m, .int .i64 d, .int .i64 n, .int .i64 h, .int .i64 i, .int .i64 s, .int .i64 k, .int .i64 o]] w fun e w' => e = .returned (.int .i64 (86400000 * n + cms h i s k - 60000 * o)) ∧ Below w.heap.size w w' := by
  have hc := cms_bd h2
  refine enter Tryz.func215 rfl Tryz.ntmps215 rfl (by assumption) ?_
  (repeat (first | intro (b : Nat) | refine go ?_))
  ((repeat (refine C.seq ?_)); apply C.draww 7 [some _, some _, none, some _, none, none, none])
  (repeat (first | intro (b : Nat) | refine gg ?_))
  (refine G.call (h := by intro W hW; exact a_local _ _ _ _ _ _ _ _ _ h1 h2 W hW.base) (k := ?_))
  (repeat (first | intro (b : Nat) | refine gg ?_))
  (repeat (first | intro (b : Nat) | refine go ?_))
  (refine ret ?_; try exact rfl)

theorem a_instantOf (y m d h i s k o : Int) (hv : sval y m d h i s k o = true) (w : World) (hb : D.Base w) : Calls Tryz.prog 169 #[.agg #[.int .i64 y, .int .i64 m, .int .i64 d, .int .i64 h, .int .i64 i, .int .i64 s, .int .i64 k, .int .i64 o]] w fun e w' => e = .returned (.int .i64 (inst y m d h i s k o)) ∧ Below w.heap.size w w' := by
  obtain ⟨h1, h2, h3, h4⟩ := sval_parts hv
  have hn := num_bd h1
  refine enter Tryz.func169 rfl Tryz.ntmps169 rfl (by assumption) ?_
  (repeat (first | intro (b : Nat) | refine go ?_))
  (refine L.call (h := by intro W hW; exact a_momentOf _ _ _ _ _ _ _ _ h1 W hW.base) (k := ?_))
  (repeat (first | intro (b : Nat) | refine go ?_))
  (refine L.call (h := by intro W hW; exact a_instant _ _ _ _ _ _ _ _ _ hn h2 ⟨h3, h4⟩ W hW.base) (k := ?_))
  (repeat (first | intro (b : Nat) | refine go ?_))
  (refine ret ?_; try exact rfl)

end D
end Go.Proofs.YtboglbdhibcacaaGreatDoor

namespace Go.Proofs.YtboglbdhibcacaaGreatDoor
set_option linter.unusedVariables false
set_option linter.unusedSimpArgs false
set_option maxRecDepth 100000
set_option maxHeartbeats 1000000
namespace D
open Go.RowKit

end D
end Go.Proofs.YtboglbdhibcacaaGreatDoor

namespace Go.Proofs.YtboglbdhibcacaaGreatDoor
set_option linter.unusedVariables false
set_option linter.unusedSimpArgs false
set_option maxRecDepth 100000
set_option maxHeartbeats 1000000
namespace D
open Go.RowKit

theorem a_apartD_ok (y m d y' m' d' : Int) (h : dval y m d = true) (h' : dval y' m' d' = true) (hle : num y m d ≤ num y' m' d') (w : World) (hb : D.Base w) :
    Calls Tryz.prog 113 #[.agg #[.int .i64 y, .int .i64 m, .int .i64 d], .agg #[.int .i64 y', .int .i64 m', .int .i64 d'], .func (.func 114) #[] #[]] w fun e w' => e = .returned (.tuple #[.int .i64 (num y' m' d' - num y m d), .nilIface]) ∧ Below w.heap.size w w' := by
  have hn := num_bd h
  have hn' := num_bd h'
  have hc : cmp (num y m d) (num y' m' d') ≤ 0 := by unfold cmp; split <;> (try split) <;> omega
  refine enter Tryz.func113 rfl Tryz.ntmps113 rfl (by assumption) ?_
  (repeat (first | intro (b : Nat) | refine go ?_))
  ((repeat (refine C.seq ?_)); apply C.draww 8 [none, some _, some _, none, some _, some _, some _, none])
  (repeat (first | intro (b : Nat) | refine gg ?_))
  (refine G.callx (h := by intro W hW; exact a_number _ _ _ h W hW.base) (k := ?_))
  (repeat (first | intro (b : Nat) | refine gg ?_))
  (refine G.callx (h := by intro W hW; exact a_number _ _ _ h' W hW.base) (k := ?_))
  (repeat (first | intro (b : Nat) | refine gg ?_))
  (refine G.call (h := by intro W hW; exact a_Compare _ _ W hW.base) (k := ?_))
  (repeat (first | intro (b : Nat) | refine gg ?_))
  (repeat' (first | intro (b : Nat) | refine go ?_ | (refine br ?_ ?_ <;> first | exact trivial | intro hq)))
  ((repeat (refine C.seq ?_)); apply C.draww 9 [none, some _, some _, none, some _, some _, none, none, none])
  (repeat (first | intro (b : Nat) | refine gg ?_))
  (refine G.callx (h := by intro W hW; exact a_number _ _ _ h' W hW.base) (k := ?_))
  (repeat (first | intro (b : Nat) | refine gg ?_))
  (refine G.callx (h := by intro W hW; exact a_number _ _ _ h W hW.base) (k := ?_))
  (repeat (first | intro (b : Nat) | refine gg ?_))
  (repeat (first | intro (b : Nat) | refine go ?_))
  (refine ret ?_; try exact rfl)

theorem a_apartD_back (y m d y' m' d' : Int) (ea : Addr) (h : dval y m d = true) (h' : dval y' m' d' = true) (hlt : num y' m' d' < num y m d) (w : World) (hb : D.Base w) (hea : w.cell? ⟨0, 0, none⟩ = some (.iface 261 (.pointer (some ea)))) :
    Calls Tryz.prog 113 #[.agg #[.int .i64 y, .int .i64 m, .int .i64 d], .agg #[.int .i64 y', .int .i64 m', .int .i64 d'], .func (.func 114) #[] #[]] w fun e w' => e = .returned (.tuple #[.int .i64 0, .iface 261 (.pointer (some ea))]) ∧ Below w.heap.size w w' := by
  have hn := num_bd h
  have hn' := num_bd h'
  have hc : 0 < cmp (num y m d) (num y' m' d') := by unfold cmp; rw [if_neg (by omega), if_pos (by omega)]; omega
  refine enter Tryz.func113 rfl Tryz.ntmps113 rfl (by assumption) ?_
  (repeat (first | intro (b : Nat) | refine go ?_))
  ((repeat (refine C.seq ?_)); apply C.draww 8 [none, some _, some _, none, some _, some _, some _, none])
  (repeat (first | intro (b : Nat) | refine gg ?_))
  (refine G.callx (h := by intro W hW; exact a_number _ _ _ h W hW.base) (k := ?_))
  (repeat (first | intro (b : Nat) | refine gg ?_))
  (refine G.callx (h := by intro W hW; exact a_number _ _ _ h' W hW.base) (k := ?_))
  (repeat (first | intro (b : Nat) | refine gg ?_))
  (refine G.call (h := by intro W hW; exact a_Compare _ _ W hW.base) (k := ?_))
  (repeat (first | intro (b : Nat) | refine gg ?_))
  (repeat' (first | intro (b : Nat) | refine go ?_ | (refine br ?_ ?_ <;> first | exact trivial | intro hq)))
  ((repeat (refine C.seq ?_)); apply C.draww 3 [some _, none, none])
  (repeat (first | intro (b : Nat) | refine gg ?_))
  (repeat (first | intro (b : Nat) | refine go ?_))
  (refine ret ?_; try exact rfl)

/-! What is between two dates, for all arguments. -/

def bOk (y m d y' m' d' : Int) : Bool := dval y m d && dval y' m' d' && decide (num y m d ≤ num y' m' d')

def bY (y m d y' m' d' : Int) : Int := if bOk y m d y' m' d' = true then bn y m d y' m' d' / 12 else 0

def bM (y m d y' m' d' : Int) : Int := if bOk y m d y' m' d' = true then bn y m d y' m' d' % 12 else 0

def bD (y m d y' m' d' : Int) : Int := if bOk y m d y' m' d' = true then bd y m d y' m' d' else 0

def bV (y m d y' m' d' : Int) : Value := .tuple #[.agg #[.int .i64 (bY y m d y' m' d'), .int .i64 (bM y m d y' m' d'), .int .i64 (bD y m d y' m' d'), .int .i64 0, .int .i64 0, .int .i64 0], .bool (bOk y m d y' m' d')]

theorem bOk_iff {y m d y' m' d' : Int} : bOk y m d y' m' d' = true ↔ dval y m d = true ∧ dval y' m' d' = true ∧ num y m d ≤ num y' m' d' := by simp [bOk, and_assoc]

theorem bV_no {y m d y' m' d' : Int} (h : bOk y m d y' m' d' = false) : bV y m d y' m' d' = .tuple #[.agg #[.int .i64 0, .int .i64 0, .int .i64 0, .int .i64 0, .int .i64 0, .int .i64 0], .bool false] := by simp [bV, bY, bM, bD, h]

theorem bV_yes {y m d y' m' d' : Int} (h : bOk y m d y' m' d' = true) : bV y m d y' m' d' = .tuple #[.agg #[.int .i64 (bn y m d y' m' d' / 12), .int .i64 (bn y m d y' m' d' % 12), .int .i64 (bd y m d y' m' d'), .int .i64 0, .int .i64 0, .int .i64 0], .bool true] := by simp [bV, bY, bM, bD, h]

theorem a_DatesBetween_no (y m d y' m' d' : Int) (h : bOk y m d y' m' d' = false) (w : World) (hb : D.Base w) (he : Err w) :
    Calls Tryz.prog 71 #[.agg #[.int .i64 y, .int .i64 m, .int .i64 d], .agg #[.int .i64 y', .int .i64 m', .int .i64 d']] w fun e w' => e = .returned (.tuple #[.agg #[.int .i64 0, .int .i64 0, .int .i64 0, .int .i64 0, .int .i64 0, .int .i64 0], .bool false]) ∧ Below w.heap.size w w' := by
  cases h1 : dval y m d
  · refine enter Tryz.func71 rfl Tryz.ntmps71 rfl (by assumption) ?_
    (repeat (first | intro (b : Nat) | refine go ?_))
    (refine L.call (h := by intro W hW; exact h1 ▸ a_DateValid _ _ _ W hW.base) (k := ?_))
    (repeat (first | intro (b : Nat) | refine go ?_))
    (refine ret ?_; try exact rfl)
  · cases h2 : dval y' m' d'
    · refine enter Tryz.func71 rfl Tryz.ntmps71 rfl (by assumption) ?_
      (repeat (first | intro (b : Nat) | refine go ?_))
      (refine L.call (h := by intro W hW; exact h1 ▸ a_DateValid _ _ _ W hW.base) (k := ?_))
      (repeat (first | intro (b : Nat) | refine go ?_))
      (refine L.call (h := by intro W hW; exact h2 ▸ a_DateValid _ _ _ W hW.base) (k := ?_))
      (repeat (first | intro (b : Nat) | refine go ?_))
      (refine ret ?_; try exact rfl)
    · have hlt : num y' m' d' < num y m d := by simp [bOk, h1, h2] at h; exact h
      obtain ⟨ea, hea⟩ := he
      refine enter Tryz.func71 rfl Tryz.ntmps71 rfl (by assumption) ?_
      (repeat (first | intro (b : Nat) | refine go ?_))
      (refine L.call (h := by intro W hW; exact h1 ▸ a_DateValid _ _ _ W hW.base) (k := ?_))
      (repeat (first | intro (b : Nat) | refine go ?_))
      (refine L.call (h := by intro W hW; exact h2 ▸ a_DateValid _ _ _ W hW.base) (k := ?_))
      (repeat (first | intro (b : Nat) | refine go ?_))
      (refine L.call (h := by intro W hW; exact a_apartD_back _ _ _ _ _ _ ea h1 h2 hlt W hW.base (hW.old hea)) (k := ?_))
      (repeat (first | intro (b : Nat) | refine go ?_))
      (refine L.call (h := by intro W hW; exact a_is_same _ W) (k := ?_))
      (repeat (first | intro (b : Nat) | refine go ?_))
      (refine ret ?_; try exact rfl)

theorem a_DatesBetween (y m d y' m' d' : Int) (w : World) (hb : D.Base w) (he : Err w) :
    Calls Tryz.prog 71 #[.agg #[.int .i64 y, .int .i64 m, .int .i64 d], .agg #[.int .i64 y', .int .i64 m', .int .i64 d']] w fun e w' => e = .returned (bV y m d y' m' d') ∧ Below w.heap.size w w' := by
  cases h : bOk y m d y' m' d'
  · rw [bV_no h]; exact a_DatesBetween_no _ _ _ _ _ _ h w hb he
  rw [bV_yes h]
  obtain ⟨h1, h2, hle⟩ := bOk_iff.1 h
  clear h
  have hd := dval_bd h1
  have hd' := dval_bd h2
  have hB := btw h1 h2 hle
  have hv0 := mplus_val h1 hB.2.2.1 hB.2.2.2.1
  have hv := mplus_val h1 hB.2.2.2.2.2.2.1 hB.2.2.2.2.2.2.2.1
  have eb1 : num y' m' d' < numR (mplus y m d (12 * (y' - y) + m' - m)) → bn y m d y' m' d' = 12 * (y' - y) + m' - m - 1 := fun h => if_pos h
  have eb2 : ¬ num y' m' d' < numR (mplus y m d (12 * (y' - y) + m' - m)) → bn y m d y' m' d' = 12 * (y' - y) + m' - m := fun h => if_neg h
  have ed : bd y m d y' m' d' = num y' m' d' - numR (mplus y m d (bn y m d y' m' d')) := rfl
  have hbd := hB.2.2.2.2.2.2.2.2.1
  have hb0 := hB.2.2.2.2.1
  have hN := hB.1
  have hN2 := hB.2.1
  clear hB
  simp only [n0] at hv0 hN hN2
  have hnb := num_bd h1
  have hnb' := num_bd h2
  obtain ⟨ea, hea⟩ := he
  generalize hx : mplus y m d (12 * (y' - y) + m' - m) = x at hv0 eb1 eb2
  obtain ⟨xy, xm, xd, xok⟩ := x
  obtain ⟨rfl, hxv, hxs⟩ := hv0
  simp only [numR] at eb1 eb2 hxv hxs
  have hxb := num_bd hxv
  by_cases hlt : num y' m' d' < num xy xm xd
  · have eb := eb1 hlt
    rw [eb] at ed hv hb0 ⊢
    rw [ed]
    generalize hz : mplus y m d (12 * (y' - y) + m' - m - 1) = z at ed hv ⊢
    obtain ⟨zy, zm, zd, zok⟩ := z
    obtain ⟨rfl, hzv, hzs⟩ := hv
    simp only [numR] at ed hzv hzs ⊢
    have hzb := num_bd hzv
    have hc : 0 < cmp (num xy xm xd) (num y' m' d') := by unfold cmp; rw [if_neg (by omega), if_pos (by omega)]; omega
    refine enter Tryz.func71 rfl Tryz.ntmps71 rfl (by assumption) ?_
    (repeat (first | intro (b : Nat) | refine go ?_))
    (refine L.call (h := by intro W hW; exact h1 ▸ a_DateValid _ _ _ W hW.base) (k := ?_))
    (repeat (first | intro (b : Nat) | refine go ?_))
    (refine L.call (h := by intro W hW; exact h2 ▸ a_DateValid _ _ _ W hW.base) (k := ?_))
    (repeat (first | intro (b : Nat) | refine go ?_))
    (refine L.call (h := by intro W hW; exact a_apartD_ok _ _ _ _ _ _ h1 h2 hle W hW.base) (k := ?_))
    (repeat (first | intro (b : Nat) | refine go ?_))
    (refine L.call (h := by intro W hW; exact a_is_nil _ W) (k := ?_))
    (repeat (first | intro (b : Nat) | refine go ?_))
    (refine L.call (h := by intro W hW; exact hx ▸ a_MonthPlus _ _ _ _ W hW.base) (k := ?_))
    (repeat (first | intro (b : Nat) | refine go ?_))
    (refine L.call (h := by intro W hW; exact a_compare _ _ _ _ _ _ hxv h2 W hW.base) (k := ?_))
    (repeat' (first | intro (b : Nat) | refine go ?_ | (refine br ?_ ?_ <;> first | exact trivial | intro hq)))
    (refine L.call (h := by intro W hW; exact hz ▸ a_MonthPlus _ _ _ _ W hW.base) (k := ?_))
    (repeat (first | intro (b : Nat) | refine go ?_))
    (refine L.call (h := by intro W hW; exact a_apartD_ok _ _ _ _ _ _ hzv h2 (by omega) W hW.base) (k := ?_))
    (repeat (first | intro (b : Nat) | refine go ?_))
    (refine ret ?_; try exact rfl)
  · have eb := eb2 hlt
    rw [eb] at ed hv hb0 ⊢
    rw [ed]
    rw [hx]
    simp only [numR]
    have hc : cmp (num xy xm xd) (num y' m' d') ≤ 0 := by unfold cmp; split <;> (try split) <;> omega
    refine enter Tryz.func71 rfl Tryz.ntmps71 rfl (by assumption) ?_
    (repeat (first | intro (b : Nat) | refine go ?_))
    (refine L.call (h := by intro W hW; exact h1 ▸ a_DateValid _ _ _ W hW.base) (k := ?_))
    (repeat (first | intro (b : Nat) | refine go ?_))
    (refine L.call (h := by intro W hW; exact h2 ▸ a_DateValid _ _ _ W hW.base) (k := ?_))
    (repeat (first | intro (b : Nat) | refine go ?_))
    (refine L.call (h := by intro W hW; exact a_apartD_ok _ _ _ _ _ _ h1 h2 hle W hW.base) (k := ?_))
    (repeat (first | intro (b : Nat) | refine go ?_))
    (refine L.call (h := by intro W hW; exact a_is_nil _ W) (k := ?_))
    (repeat (first | intro (b : Nat) | refine go ?_))
    (refine L.call (h := by intro W hW; exact hx ▸ a_MonthPlus _ _ _ _ W hW.base) (k := ?_))
    (repeat (first | intro (b : Nat) | refine go ?_))
    (refine L.call (h := by intro W hW; exact a_compare _ _ _ _ _ _ hxv h2 W hW.base) (k := ?_))
    (repeat' (first | intro (b : Nat) | refine go ?_ | (refine br ?_ ?_ <;> first | exact trivial | intro hq)))
    (refine L.call (h := by intro W hW; exact a_apartD_ok _ _ _ _ _ _ hxv h2 (by omega) W hW.base) (k := ?_))
    (repeat (first | intro (b : Nat) | refine go ?_))
    (refine ret ?_; try exact rfl)

end D
end Go.Proofs.YtboglbdhibcacaaGreatDoor

namespace Go.Proofs.YtboglbdhibcacaaGreatDoor
set_option linter.unusedVariables false
set_option linter.unusedSimpArgs false
set_option maxRecDepth 100000
set_option maxHeartbeats 2000000
namespace D
open Go.RowKit
attribute [local irreducible] Calls

def eD (y : Int) : Int := (19 * (y % 19) + y / 100 - y / 100 / 4 - (y / 100 - (y / 100 + 8) / 25 + 1) / 3 + 15) % 30
def eE (y : Int) : Int := (32 + 2 * (y / 100 % 4) + 2 * (y % 100 / 4) - eD y - y % 100 % 4) % 7
def eNn (y : Int) : Int := eD y + eE y - 7 * ((y % 19 + 11 * eD y + 22 * eE y) / 451) + 114
theorem eNn_in {y : Int} (h : 1583 ≤ y ∧ y ≤ 9999) : 93 ≤ eNn y ∧ eNn y ≤ 148 := by
  have h1 : 0 ≤ eD y ∧ eD y ≤ 29 := by unfold eD; omega
  have h2 : 0 ≤ eE y ∧ eE y ≤ 6 := by unfold eE; omega
  have h3 : 0 ≤ y % 19 ∧ y % 19 ≤ 18 := by omega
  unfold eNn
  generalize eD y = d at *
  generalize eE y = e at *
  generalize y % 19 = a at *
  omega
/-- Easter Sunday of a year, as a value. -/
def easV (y : Int) : Value := if inR y 1583 9999 = true then .tuple #[.agg #[.int .i64 y, .int .i64 (eNn y / 31), .int .i64 (eNn y % 31 + 1)], .bool true] else .tuple #[.agg #[.int .i64 0, .int .i64 0, .int .i64 0], .bool false]

theorem a_EasterOf (y : Int) (w : World) (hb : D.Base w) : Calls Tryz.prog 66 #[.int .i64 y] w fun e w' => e = .returned (easV y) ∧ Below w.heap.size w w' := by
  have hI := a_within y 1583 9999
  unfold easV
  cases hi : inR y 1583 9999 with
  | false =>
    rw [hi] at hI
    refine enter Tryz.func66 rfl Tryz.ntmps66 rfl (by assumption) ?_
    (repeat' (first | intro (b : Nat) | refine go ?_ | (refine br ?_ ?_ <;> first | exact trivial | intro hq) | refine L.call (h := by intro W hW; apply hI W hW.base) (k := ?_)))
    (refine ret ?_; try exact rfl)
  | true =>
    rw [hi] at hI
    have hy := inR_true.1 hi
    have hn := eNn_in hy
    unfold eNn eE eD at *
    refine enter Tryz.func66 rfl Tryz.ntmps66 rfl (by assumption) ?_
    (repeat' (first | intro (b : Nat) | refine go ?_ | (refine br ?_ ?_ <;> first | exact trivial | intro hq) | refine L.call (h := by intro W hW; apply hI W hW.base) (k := ?_)))
    (refine ret ?_; try exact rfl)
    have hd : 0 ≤ (19 * (y % 19) + y / 100 - y / 100 / 4 - (y / 100 - (y / 100 + 8) / 25 + 1) / 3 + 15) % 30 ∧ (19 * (y % 19) + y / 100 - y / 100 / 4 - (y / 100 - (y / 100 + 8) / 25 + 1) / 3 + 15) % 30 ≤ 29 := by omega
    generalize (19 * (y % 19) + y / 100 - y / 100 / 4 - (y / 100 - (y / 100 + 8) / 25 + 1) / 3 + 15) % 30 = d at *
    have ht := Int.tmod_eq_emod_of_nonneg (a := 32 + 2 * (y / 100 % 4) + 2 * (y % 100 / 4) - d - y % 100 % 4) (b := 7) (by clear hn; omega)
    rw [ht]
    have he : 0 ≤ (32 + 2 * (y / 100 % 4) + 2 * (y % 100 / 4) - d - y % 100 % 4) % 7 ∧ (32 + 2 * (y / 100 % 4) + 2 * (y % 100 / 4) - d - y % 100 % 4) % 7 ≤ 6 := by clear hn; omega
    clear ht
    generalize (32 + 2 * (y / 100 % 4) + 2 * (y % 100 / 4) - d - y % 100 % 4) % 7 = e at *
    have ha : 0 ≤ y % 19 ∧ y % 19 ≤ 18 := by omega
    generalize y % 19 = a at *
    simp (disch := omega) only [IntWalk.i64_in, Int.tdiv_eq_ediv_of_nonneg, Int.tmod_eq_emod_of_nonneg]
    rfl

theorem b_EasterOf (y : Int) (w : World) (hb : D.Base w) : Calls Tryz.prog 77 #[.int .i64 y] w fun e w' => e = .returned (easV y) ∧ Below w.heap.size w w' := by
  have hI := b_in y 1583 9999
  unfold easV
  cases hi : inR y 1583 9999 with
  | false =>
    rw [hi] at hI
    refine enter Tryz.func77 rfl Tryz.ntmps77 rfl (by assumption) ?_
    (repeat' (first | intro (b : Nat) | refine go ?_ | (refine br ?_ ?_ <;> first | exact trivial | intro hq) | refine L.call (h := by intro W hW; apply hI W hW.base) (k := ?_)))
    (refine ret ?_; try exact rfl)
  | true =>
    rw [hi] at hI
    have hy := inR_true.1 hi
    have hn := eNn_in hy
    unfold eNn eE eD at *
    refine enter Tryz.func77 rfl Tryz.ntmps77 rfl (by assumption) ?_
    (repeat' (first | intro (b : Nat) | refine go ?_ | (refine br ?_ ?_ <;> first | exact trivial | intro hq) | refine L.call (h := by intro W hW; apply hI W hW.base) (k := ?_)))
    (refine ret ?_; try exact rfl)
    have hd : 0 ≤ (19 * (y % 19) + y / 100 - y / 100 / 4 - (y / 100 - (y / 100 + 8) / 25 + 1) / 3 + 15) % 30 ∧ (19 * (y % 19) + y / 100 - y / 100 / 4 - (y / 100 - (y / 100 + 8) / 25 + 1) / 3 + 15) % 30 ≤ 29 := by omega
    generalize (19 * (y % 19) + y / 100 - y / 100 / 4 - (y / 100 - (y / 100 + 8) / 25 + 1) / 3 + 15) % 30 = d at *
    have ht := Int.tmod_eq_emod_of_nonneg (a := 32 + 2 * (y / 100 % 4) + 2 * (y % 100 / 4) - d - y % 100 % 4) (b := 7) (by clear hn; omega)
    rw [ht]
    have he : 0 ≤ (32 + 2 * (y / 100 % 4) + 2 * (y % 100 / 4) - d - y % 100 % 4) % 7 ∧ (32 + 2 * (y / 100 % 4) + 2 * (y % 100 / 4) - d - y % 100 % 4) % 7 ≤ 6 := by clear hn; omega
    clear ht
    generalize (32 + 2 * (y / 100 % 4) + 2 * (y % 100 / 4) - d - y % 100 % 4) % 7 = e at *
    have ha : 0 ≤ y % 19 ∧ y % 19 ≤ 18 := by omega
    generalize y % 19 = a at *
    simp (disch := omega) only [IntWalk.i64_in, Int.tdiv_eq_ediv_of_nonneg, Int.tmod_eq_emod_of_nonneg]
    rfl

end D
end Go.Proofs.YtboglbdhibcacaaGreatDoor

namespace Go.Proofs.YtboglbdhibcacaaGreatDoor
set_option linter.unusedVariables false
set_option linter.unusedSimpArgs false
set_option maxRecDepth 100000
set_option maxHeartbeats 1000000
namespace D
open Go.RowKit

theorem dnum_yes {y m d : Int} (h : dval y m d = true) : dnum y m d = num y m d := if_pos h

theorem b_l41 (y m d y' m' d' : Int) (h1 : dval y m d = true) (h2 : dval y' m' d' = true) (hle : num y m d ≤ num y' m' d') (w : World) (hb : D.Base w) :
    Calls Tryz.prog 140 #[.agg #[.int .i64 y, .int .i64 m, .int .i64 d], .agg #[.int .i64 y', .int .i64 m', .int .i64 d']] w fun e w' => e = .returned (.int .i64 (bn y m d y' m' d')) ∧ Below w.heap.size w w' := by
  have hd := dval_bd h1
  have hd' := dval_bd h2
  have hB := btw h1 h2 hle
  have hv0 := mplus_val h1 hB.2.2.1 hB.2.2.2.1
  have eb1 : num y' m' d' < numR (mplus y m d (12 * (y' - y) + m' - m)) → bn y m d y' m' d' = 12 * (y' - y) + m' - m - 1 := fun h => if_pos h
  have eb2 : ¬ num y' m' d' < numR (mplus y m d (12 * (y' - y) + m' - m)) → bn y m d y' m' d' = 12 * (y' - y) + m' - m := fun h => if_neg h
  have hN := hB.1
  have hN2 := hB.2.1
  clear hB
  simp only [n0] at hv0 hN hN2
  generalize hx : mplus y m d (12 * (y' - y) + m' - m) = x at hv0 eb1 eb2
  obtain ⟨xy, xm, xd, xok⟩ := x
  obtain ⟨rfl, hxv, hxs⟩ := hv0
  simp only [numR] at eb1 eb2 hxv hxs
  have hq1 := dnum_yes hxv
  have hq2 := dnum_yes h2
  refine enter Tryz.func140 rfl Tryz.ntmps140 rfl (by assumption) ?_
  (repeat (first | intro (b : Nat) | refine go ?_))
  (refine L.call (h := by intro W hW; exact hx ▸ b_MonthPlus _ _ _ _ W hW.base) (k := ?_))
  (repeat (first | intro (b : Nat) | refine go ?_))
  ((repeat (refine C.seq ?_)); apply C.draww 9 [none, none, none, some _, some _, some _, some _, none, none])
  (repeat (first | intro (b : Nat) | refine gg ?_))
  (refine G.call (h := by intro W hW; exact hq1 ▸ b_DayNumber _ _ _ W hW.base) (k := ?_))
  (repeat (first | intro (b : Nat) | refine gg ?_))
  (refine G.call (h := by intro W hW; exact hq2 ▸ b_DayNumber _ _ _ W hW.base) (k := ?_))
  (repeat (first | intro (b : Nat) | refine gg ?_))
  (repeat' (first | intro (b : Nat) | refine go ?_ | (refine br ?_ ?_ <;> first | exact trivial | intro hq)))
  all_goals (refine ret ?_; try exact rfl)
  · rw [eb1 (by assumption)]; rfl
  · rw [eb2 (by omega)]; rfl

theorem b_DatesBetween (y m d y' m' d' : Int) (w : World) (hb : D.Base w) :
    Calls Tryz.prog 82 #[.agg #[.int .i64 y, .int .i64 m, .int .i64 d], .agg #[.int .i64 y', .int .i64 m', .int .i64 d']] w fun e w' => e = .returned (bV y m d y' m' d') ∧ Below w.heap.size w w' := by
  cases h1 : dval y m d
  · rw [bV_no (by simp [bOk, h1])]
    refine enter Tryz.func82 rfl Tryz.ntmps82 rfl (by assumption) ?_
    (repeat (first | intro (b : Nat) | refine go ?_))
    ((repeat (refine C.seq ?_)); apply C.draww 15 [some _, some _, none, none, some _, some _, none, none, none, some _, some _, some _, some _, none, none])
    (repeat (first | intro (b : Nat) | refine gg ?_))
    (refine G.call (h := by intro W hW; exact h1 ▸ b_DateValid _ _ _ W hW.base) (k := ?_))
    (repeat (first | intro (b : Nat) | refine gg ?_))
    (repeat (first | intro (b : Nat) | refine go ?_))
    (refine ret ?_; try exact rfl)
  cases h2 : dval y' m' d'
  · rw [bV_no (by simp [bOk, h2])]
    refine enter Tryz.func82 rfl Tryz.ntmps82 rfl (by assumption) ?_
    (repeat (first | intro (b : Nat) | refine go ?_))
    ((repeat (refine C.seq ?_)); apply C.draww 15 [some _, some _, none, none, some _, some _, none, none, none, some _, some _, some _, some _, none, none])
    (repeat (first | intro (b : Nat) | refine gg ?_))
    (refine G.call (h := by intro W hW; exact h1 ▸ b_DateValid _ _ _ W hW.base) (k := ?_))
    (repeat (first | intro (b : Nat) | refine gg ?_))
    (refine G.call (h := by intro W hW; exact h2 ▸ b_DateValid _ _ _ W hW.base) (k := ?_))
    (repeat (first | intro (b : Nat) | refine gg ?_))
    (repeat (first | intro (b : Nat) | refine go ?_))
    (refine ret ?_; try exact rfl)
  have hq1 := dnum_yes h1
  have hq2 := dnum_yes h2
  by_cases hle : num y m d ≤ num y' m' d'
  · rw [bV_yes (bOk_iff.2 ⟨h1, h2, hle⟩)]
    have hd := dval_bd h1
    have hd' := dval_bd h2
    have hB := btw h1 h2 hle
    have hv := mplus_val h1 hB.2.2.2.2.2.2.1 hB.2.2.2.2.2.2.2.1
    have ed : bd y m d y' m' d' = num y' m' d' - numR (mplus y m d (bn y m d y' m' d')) := rfl
    have hbd := hB.2.2.2.2.2.2.2.2.1
    have hbd2 := hB.2.2.2.2.2.2.2.2.2.1
    have hb0 := hB.2.2.2.2.1
    have hb1 := hB.2.2.2.2.2.1
    clear hB
    have hl := b_l41 y m d y' m' d' h1 h2 hle
    generalize bn y m d y' m' d' = N at *
    generalize hx : mplus y m d N = x at ed hv
    obtain ⟨xy, xm, xd, xok⟩ := x
    obtain ⟨rfl, hxv, hxs⟩ := hv
    simp only [numR] at ed hxv hxs
    have hq3 := dnum_yes hxv
    rw [ed] at hbd hbd2 ⊢
    clear ed
    refine enter Tryz.func82 rfl Tryz.ntmps82 rfl (by assumption) ?_
    (repeat (first | intro (b : Nat) | refine go ?_))
    ((repeat (refine C.seq ?_)); apply C.draww 15 [some _, some _, none, none, some _, some _, none, none, none, some _, some _, some _, some _, none, none])
    (repeat (first | intro (b : Nat) | refine gg ?_))
    (refine G.call (h := by intro W hW; exact h1 ▸ b_DateValid _ _ _ W hW.base) (k := ?_))
    (repeat (first | intro (b : Nat) | refine gg ?_))
    (refine G.call (h := by intro W hW; exact h2 ▸ b_DateValid _ _ _ W hW.base) (k := ?_))
    (repeat (first | intro (b : Nat) | refine gg ?_))
    (refine G.call (h := by intro W hW; exact hq1 ▸ b_DayNumber _ _ _ W hW.base) (k := ?_))
    (repeat (first | intro (b : Nat) | refine gg ?_))
    (refine G.call (h := by intro W hW; exact hq2 ▸ b_DayNumber _ _ _ W hW.base) (k := ?_))
    (repeat (first | intro (b : Nat) | refine gg ?_))
    (repeat' (first | intro (b : Nat) | refine go ?_ | (refine br ?_ ?_ <;> first | exact trivial | intro hq)))
    (refine L.call (h := by intro W hW; exact hl W hW.base) (k := ?_))
    (repeat (first | intro (b : Nat) | refine go ?_))
    (refine L.call (h := by intro W hW; exact hx ▸ b_MonthPlus _ _ _ _ W hW.base) (k := ?_))
    (repeat (first | intro (b : Nat) | refine go ?_))
    ((repeat (refine C.seq ?_)); apply C.draww 10 [none, none, none, none, some _, some _, some _, some _, none, none])
    (repeat (first | intro (b : Nat) | refine gg ?_))
    (refine G.call (h := by intro W hW; exact hq2 ▸ b_DayNumber _ _ _ W hW.base) (k := ?_))
    (repeat (first | intro (b : Nat) | refine gg ?_))
    (refine G.call (h := by intro W hW; exact hq3 ▸ b_DayNumber _ _ _ W hW.base) (k := ?_))
    (repeat (first | intro (b : Nat) | refine gg ?_))
    (repeat (first | intro (b : Nat) | refine go ?_))
    (refine ret ?_; try exact rfl)
  · rw [bV_no (by simp [bOk, hle])]
    refine enter Tryz.func82 rfl Tryz.ntmps82 rfl (by assumption) ?_
    (repeat (first | intro (b : Nat) | refine go ?_))
    ((repeat (refine C.seq ?_)); apply C.draww 15 [some _, some _, none, none, some _, some _, none, none, none, some _, some _, some _, some _, none, none])
    (repeat (first | intro (b : Nat) | refine gg ?_))
    (refine G.call (h := by intro W hW; exact h1 ▸ b_DateValid _ _ _ W hW.base) (k := ?_))
    (repeat (first | intro (b : Nat) | refine gg ?_))
    (refine G.call (h := by intro W hW; exact h2 ▸ b_DateValid _ _ _ W hW.base) (k := ?_))
    (repeat (first | intro (b : Nat) | refine gg ?_))
    (refine G.call (h := by intro W hW; exact hq1 ▸ b_DayNumber _ _ _ W hW.base) (k := ?_))
    (repeat (first | intro (b : Nat) | refine gg ?_))
    (refine G.call (h := by intro W hW; exact hq2 ▸ b_DayNumber _ _ _ W hW.base) (k := ?_))
    (repeat (first | intro (b : Nat) | refine gg ?_))
    (repeat' (first | intro (b : Nat) | refine go ?_ | (refine br ?_ ?_ <;> first | exact trivial | intro hq)))
    (refine ret ?_; try exact rfl)

end D
end Go.Proofs.YtboglbdhibcacaaGreatDoor
