/- Walks: what is between dates; ages. -/
import Derived.Test.YtgllmnmgojbgeaaDoorA2m
import Derived.Test.YtgllmnmgojbgeaaDoorEr
import Derived.Test.YtgllmnmgojbgeaaDoorPlain3
namespace Go.Proofs.YtgllmnmgojbgeaaDoor
set_option linter.unusedVariables false
set_option linter.unusedSimpArgs false
set_option maxRecDepth 100000
set_option maxHeartbeats 1000000
namespace D
open Go.RowKit

theorem a_apartD_ok (y m d y' m' d' : Int) (h : dval y m d = true) (h' : dval y' m' d' = true) (hle : num y m d ≤ num y' m' d') (w : World) (hb : D.Base w) :
    Calls Tryd.prog 42 #[.agg #[.int .i64 y, .int .i64 m, .int .i64 d], .agg #[.int .i64 y', .int .i64 m', .int .i64 d'], .func (.func 43) #[] #[]] w fun e w' => e = .returned (.tuple #[.int .i64 (num y' m' d' - num y m d), .nilIface]) ∧ Below w.heap.size w w' := by
  have hn := num_bd h
  have hn' := num_bd h'
  have hc : cmp (num y m d) (num y' m' d') ≤ 0 := by unfold cmp; split <;> (try split) <;> omega
  refine enter Tryd.func42 rfl Tryd.ntmps42 rfl (by assumption) ?_
  (repeat (first | intro (b : Nat) | refine go ?_))
  ((repeat (refine C.seq ?_)); apply C.draww 8 [none, some _, some _, none, some _, some _, some _, none])
  (repeat (first | intro (b : Nat) | refine gg ?_))
  (refine G.callx (h := by intro W hW; exact a_number _ _ _ h W hW.base) (k := ?_))
  (repeat (first | intro (b : Nat) | refine gg ?_))
  (refine G.callx (h := by intro W hW; exact a_number _ _ _ h' W hW.base) (k := ?_))
  (repeat (first | intro (b : Nat) | refine gg ?_))
  (refine G.call (h := by intro W hW; exact a_Compare _ _ W hW.base) (k := ?_))
  (repeat (first | intro (b : Nat) | refine gg ?_))
  (repeat' (first | intro (b : Nat) | refine go ?_ | (refine br ?_ ?_ <;> first | exact trivial | intro hq)))
  ((repeat (refine C.seq ?_)); apply C.draww 9 [none, some _, some _, none, some _, some _, none, none, none])
  (repeat (first | intro (b : Nat) | refine gg ?_))
  (refine G.callx (h := by intro W hW; exact a_number _ _ _ h' W hW.base) (k := ?_))
  (repeat (first | intro (b : Nat) | refine gg ?_))
  (refine G.callx (h := by intro W hW; exact a_number _ _ _ h W hW.base) (k := ?_))
  (repeat (first | intro (b : Nat) | refine gg ?_))
  (repeat (first | intro (b : Nat) | refine go ?_))
  (refine ret ?_; try exact rfl)

theorem a_apartD_back (y m d y' m' d' : Int) (ea : Addr) (h : dval y m d = true) (h' : dval y' m' d' = true) (hlt : num y' m' d' < num y m d) (w : World) (hb : D.Base w) (hea : w.cell? ⟨0, 0, none⟩ = some (.iface 110 (.pointer (some ea)))) :
    Calls Tryd.prog 42 #[.agg #[.int .i64 y, .int .i64 m, .int .i64 d], .agg #[.int .i64 y', .int .i64 m', .int .i64 d'], .func (.func 43) #[] #[]] w fun e w' => e = .returned (.tuple #[.int .i64 0, .iface 110 (.pointer (some ea))]) ∧ Below w.heap.size w w' := by
  have hn := num_bd h
  have hn' := num_bd h'
  have hc : 0 < cmp (num y m d) (num y' m' d') := by unfold cmp; rw [if_neg (by omega), if_pos (by omega)]; omega
  refine enter Tryd.func42 rfl Tryd.ntmps42 rfl (by assumption) ?_
  (repeat (first | intro (b : Nat) | refine go ?_))
  ((repeat (refine C.seq ?_)); apply C.draww 8 [none, some _, some _, none, some _, some _, some _, none])
  (repeat (first | intro (b : Nat) | refine gg ?_))
  (refine G.callx (h := by intro W hW; exact a_number _ _ _ h W hW.base) (k := ?_))
  (repeat (first | intro (b : Nat) | refine gg ?_))
  (refine G.callx (h := by intro W hW; exact a_number _ _ _ h' W hW.base) (k := ?_))
  (repeat (first | intro (b : Nat) | refine gg ?_))
  (refine G.call (h := by intro W hW; exact a_Compare _ _ W hW.base) (k := ?_))
  (repeat (first | intro (b : Nat) | refine gg ?_))
  (repeat' (first | intro (b : Nat) | refine go ?_ | (refine br ?_ ?_ <;> first | exact trivial | intro hq)))
  ((repeat (refine C.seq ?_)); apply C.draww 3 [some _, none, none])
  (repeat (first | intro (b : Nat) | refine gg ?_))
  (repeat (first | intro (b : Nat) | refine go ?_))
  (refine ret ?_; try exact rfl)

/-! What is between two dates, for all arguments. -/

def bOk (y m d y' m' d' : Int) : Bool := dval y m d && dval y' m' d' && decide (num y m d ≤ num y' m' d')

def bY (y m d y' m' d' : Int) : Int := if bOk y m d y' m' d' = true then bn y m d y' m' d' / 12 else 0

def bM (y m d y' m' d' : Int) : Int := if bOk y m d y' m' d' = true then bn y m d y' m' d' % 12 else 0

def bD (y m d y' m' d' : Int) : Int := if bOk y m d y' m' d' = true then bd y m d y' m' d' else 0

def bV (y m d y' m' d' : Int) : Value := .tuple #[.agg #[.int .i64 (bY y m d y' m' d'), .int .i64 (bM y m d y' m' d'), .int .i64 (bD y m d y' m' d'), .int .i64 0, .int .i64 0, .int .i64 0], .bool (bOk y m d y' m' d')]

theorem bOk_iff {y m d y' m' d' : Int} : bOk y m d y' m' d' = true ↔ dval y m d = true ∧ dval y' m' d' = true ∧ num y m d ≤ num y' m' d' := by simp [bOk, and_assoc]

theorem bV_no {y m d y' m' d' : Int} (h : bOk y m d y' m' d' = false) : bV y m d y' m' d' = .tuple #[.agg #[.int .i64 0, .int .i64 0, .int .i64 0, .int .i64 0, .int .i64 0, .int .i64 0], .bool false] := by simp [bV, bY, bM, bD, h]

theorem bV_yes {y m d y' m' d' : Int} (h : bOk y m d y' m' d' = true) : bV y m d y' m' d' = .tuple #[.agg #[.int .i64 (bn y m d y' m' d' / 12), .int .i64 (bn y m d y' m' d' % 12), .int .i64 (bd y m d y' m' d'), .int .i64 0, .int .i64 0, .int .i64 0], .bool true] := by simp [bV, bY, bM, bD, h]

theorem a_DatesBetween_no (y m d y' m' d' : Int) (h : bOk y m d y' m' d' = false) (w : World) (hb : D.Base w) (he : Err w) :
    Calls Tryd.prog 15 #[.agg #[.int .i64 y, .int .i64 m, .int .i64 d], .agg #[.int .i64 y', .int .i64 m', .int .i64 d']] w fun e w' => e = .returned (.tuple #[.agg #[.int .i64 0, .int .i64 0, .int .i64 0, .int .i64 0, .int .i64 0, .int .i64 0], .bool false]) ∧ Below w.heap.size w w' := by
  cases h1 : dval y m d
  · refine enter Tryd.func15 rfl Tryd.ntmps15 rfl (by assumption) ?_
    (repeat (first | intro (b : Nat) | refine go ?_))
    (refine L.call (h := by intro W hW; exact h1 ▸ a_DateValid _ _ _ W hW.base) (k := ?_))
    (repeat (first | intro (b : Nat) | refine go ?_))
    (refine ret ?_; try exact rfl)
  · cases h2 : dval y' m' d'
    · refine enter Tryd.func15 rfl Tryd.ntmps15 rfl (by assumption) ?_
      (repeat (first | intro (b : Nat) | refine go ?_))
      (refine L.call (h := by intro W hW; exact h1 ▸ a_DateValid _ _ _ W hW.base) (k := ?_))
      (repeat (first | intro (b : Nat) | refine go ?_))
      (refine L.call (h := by intro W hW; exact h2 ▸ a_DateValid _ _ _ W hW.base) (k := ?_))
      (repeat (first | intro (b : Nat) | refine go ?_))
      (refine ret ?_; try exact rfl)
    · have hlt : num y' m' d' < num y m d := by simp [bOk, h1, h2] at h; exact h
      obtain ⟨ea, hea⟩ := he
      refine enter Tryd.func15 rfl Tryd.ntmps15 rfl (by assumption) ?_
      (repeat (first | intro (b : Nat) | refine go ?_))
      (refine L.call (h := by intro W hW; exact h1 ▸ a_DateValid _ _ _ W hW.base) (k := ?_))
      (repeat (first | intro (b : Nat) | refine go ?_))
      (refine L.call (h := by intro W hW; exact h2 ▸ a_DateValid _ _ _ W hW.base) (k := ?_))
      (repeat (first | intro (b : Nat) | refine go ?_))
      (refine L.call (h := by intro W hW; exact a_apartD_back _ _ _ _ _ _ ea h1 h2 hlt W hW.base (hW.old hea)) (k := ?_))
      (repeat (first | intro (b : Nat) | refine go ?_))
      (refine L.call (h := by intro W hW; exact a_is_same _ W) (k := ?_))
      (repeat (first | intro (b : Nat) | refine go ?_))
      (refine ret ?_; try exact rfl)

theorem a_DatesBetween (y m d y' m' d' : Int) (w : World) (hb : D.Base w) (he : Err w) :
    Calls Tryd.prog 15 #[.agg #[.int .i64 y, .int .i64 m, .int .i64 d], .agg #[.int .i64 y', .int .i64 m', .int .i64 d']] w fun e w' => e = .returned (bV y m d y' m' d') ∧ Below w.heap.size w w' := by
  cases h : bOk y m d y' m' d'
  · rw [bV_no h]; exact a_DatesBetween_no _ _ _ _ _ _ h w hb he
  rw [bV_yes h]
  obtain ⟨h1, h2, hle⟩ := bOk_iff.1 h
  clear h
  have hd := dval_bd h1
  have hd' := dval_bd h2
  have hB := btw h1 h2 hle
  have hv0 := mplus_val h1 hB.2.2.1 hB.2.2.2.1
  have hv := mplus_val h1 hB.2.2.2.2.2.2.1 hB.2.2.2.2.2.2.2.1
  have eb1 : num y' m' d' < numR (mplus y m d (12 * (y' - y) + m' - m)) → bn y m d y' m' d' = 12 * (y' - y) + m' - m - 1 := fun h => if_pos h
  have eb2 : ¬ num y' m' d' < numR (mplus y m d (12 * (y' - y) + m' - m)) → bn y m d y' m' d' = 12 * (y' - y) + m' - m := fun h => if_neg h
  have ed : bd y m d y' m' d' = num y' m' d' - numR (mplus y m d (bn y m d y' m' d')) := rfl
  have hbd := hB.2.2.2.2.2.2.2.2.1
  have hb0 := hB.2.2.2.2.1
  have hN := hB.1
  have hN2 := hB.2.1
  clear hB
  simp only [n0] at hv0 hN hN2
  have hnb := num_bd h1
  have hnb' := num_bd h2
  obtain ⟨ea, hea⟩ := he
  generalize hx : mplus y m d (12 * (y' - y) + m' - m) = x at hv0 eb1 eb2
  obtain ⟨xy, xm, xd, xok⟩ := x
  obtain ⟨rfl, hxv, hxs⟩ := hv0
  simp only [numR] at eb1 eb2 hxv hxs
  have hxb := num_bd hxv
  by_cases hlt : num y' m' d' < num xy xm xd
  · have eb := eb1 hlt
    rw [eb] at ed hv hb0 ⊢
    rw [ed]
    generalize hz : mplus y m d (12 * (y' - y) + m' - m - 1) = z at ed hv ⊢
    obtain ⟨zy, zm, zd, zok⟩ := z
    obtain ⟨rfl, hzv, hzs⟩ := hv
    simp only [numR] at ed hzv hzs ⊢
    have hzb := num_bd hzv
    have hc : 0 < cmp (num xy xm xd) (num y' m' d') := by unfold cmp; rw [if_neg (by omega), if_pos (by omega)]; omega
    refine enter Tryd.func15 rfl Tryd.ntmps15 rfl (by assumption) ?_
    (repeat (first | intro (b : Nat) | refine go ?_))
    (refine L.call (h := by intro W hW; exact h1 ▸ a_DateValid _ _ _ W hW.base) (k := ?_))
    (repeat (first | intro (b : Nat) | refine go ?_))
    (refine L.call (h := by intro W hW; exact h2 ▸ a_DateValid _ _ _ W hW.base) (k := ?_))
    (repeat (first | intro (b : Nat) | refine go ?_))
    (refine L.call (h := by intro W hW; exact a_apartD_ok _ _ _ _ _ _ h1 h2 hle W hW.base) (k := ?_))
    (repeat (first | intro (b : Nat) | refine go ?_))
    (refine L.call (h := by intro W hW; exact a_is_nil _ W) (k := ?_))
    (repeat (first | intro (b : Nat) | refine go ?_))
    (refine L.call (h := by intro W hW; exact hx ▸ a_MonthPlus _ _ _ _ W hW.base) (k := ?_))
    (repeat (first | intro (b : Nat) | refine go ?_))
    (refine L.call (h := by intro W hW; exact a_compare _ _ _ _ _ _ hxv h2 W hW.base) (k := ?_))
    (repeat' (first | intro (b : Nat) | refine go ?_ | (refine br ?_ ?_ <;> first | exact trivial | intro hq)))
    (refine L.call (h := by intro W hW; exact hz ▸ a_MonthPlus _ _ _ _ W hW.base) (k := ?_))
    (repeat (first | intro (b : Nat) | refine go ?_))
    (refine L.call (h := by intro W hW; exact a_apartD_ok _ _ _ _ _ _ hzv h2 (by omega) W hW.base) (k := ?_))
    (repeat (first | intro (b : Nat) | refine go ?_))
    (refine ret ?_; try exact rfl)
  · have eb := eb2 hlt
    rw [eb] at ed hv hb0 ⊢
    rw [ed]
    rw [hx]
    simp only [numR]
    have hc : cmp (num xy xm xd) (num y' m' d') ≤ 0 := by unfold cmp; split <;> (try split) <;> omega
    refine enter Tryd.func15 rfl Tryd.ntmps15 rfl (by assumption) ?_
    (repeat (first | intro (b : Nat) | refine go ?_))
    (refine L.call (h := by intro W hW; exact h1 ▸ a_DateValid _ _ _ W hW.base) (k := ?_))
    (repeat (first | intro (b : Nat) | refine go ?_))
    (refine L.call (h := by intro W hW; exact h2 ▸ a_DateValid _ _ _ W hW.base) (k := ?_))
    (repeat (first | intro (b : Nat) | refine go ?_))
    (refine L.call (h := by intro W hW; exact a_apartD_ok _ _ _ _ _ _ h1 h2 hle W hW.base) (k := ?_))
    (repeat (first | intro (b : Nat) | refine go ?_))
    (refine L.call (h := by intro W hW; exact a_is_nil _ W) (k := ?_))
    (repeat (first | intro (b : Nat) | refine go ?_))
    (refine L.call (h := by intro W hW; exact hx ▸ a_MonthPlus _ _ _ _ W hW.base) (k := ?_))
    (repeat (first | intro (b : Nat) | refine go ?_))
    (refine L.call (h := by intro W hW; exact a_compare _ _ _ _ _ _ hxv h2 W hW.base) (k := ?_))
    (repeat' (first | intro (b : Nat) | refine go ?_ | (refine br ?_ ?_ <;> first | exact trivial | intro hq)))
    (refine L.call (h := by intro W hW; exact a_apartD_ok _ _ _ _ _ _ hxv h2 (by omega) W hW.base) (k := ?_))
    (repeat (first | intro (b : Nat) | refine go ?_))
    (refine ret ?_; try exact rfl)

theorem age_bV (y m d y' m' d' : Int) : age y m d y' m' d' = if bOk y m d y' m' d' = true then bn y m d y' m' d' / 12 else -1 := by
  unfold age
  by_cases h : bOk y m d y' m' d' = true
  · rw [if_pos h, if_pos (bOk_iff.1 h)]
  · rw [if_neg h, if_neg (fun k => h (bOk_iff.2 k))]

theorem a_AgeOf (y m d y' m' d' : Int) (w : World) (hb : D.Base w) (he : Err w) :
    Calls Tryd.prog 30 #[.agg #[.int .i64 y, .int .i64 m, .int .i64 d], .agg #[.int .i64 y', .int .i64 m', .int .i64 d']] w fun e w' => e = .returned (.int .i64 (age y m d y' m' d')) ∧ Below w.heap.size w w' := by
  cases h : bOk y m d y' m' d'
  · refine enter Tryd.func30 rfl Tryd.ntmps30 rfl (by assumption) ?_
    (repeat (first | intro (b : Nat) | refine go ?_))
    (refine L.call (h := by intro W hW; exact bV_no h ▸ a_DatesBetween _ _ _ _ _ _ W hW.base (hW.err he)) (k := ?_))
    (repeat (first | intro (b : Nat) | refine go ?_))
    (refine ret ?_; try exact rfl)
    rw [age_bV, h]; rfl
  · refine enter Tryd.func30 rfl Tryd.ntmps30 rfl (by assumption) ?_
    (repeat (first | intro (b : Nat) | refine go ?_))
    (refine L.call (h := by intro W hW; exact bV_yes h ▸ a_DatesBetween _ _ _ _ _ _ W hW.base (hW.err he)) (k := ?_))
    (repeat (first | intro (b : Nat) | refine go ?_))
    (refine ret ?_; try exact rfl)
    rw [age_bV, h]; rfl

end D
end Go.Proofs.YtgllmnmgojbgeaaDoor
