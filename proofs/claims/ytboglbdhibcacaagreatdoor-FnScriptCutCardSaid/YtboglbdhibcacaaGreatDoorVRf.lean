/- Walks: lines and scripts (the reference). -/
import Derived.Test.YtboglbdhibcacaaGreatDoorVo
import Derived.Test.YtboglbdhibcacaaGreatDoorVp
import Derived.Test.YtboglbdhibcacaaGreatDoorVC2
import Derived.Test.YtboglbdhibcacaaGreatDoorVk
import Derived.Test.YtboglbdhibcacaaGreatDoorVj
namespace Go.Proofs.YtboglbdhibcacaaGreatDoor
set_option linter.unusedVariables false
set_option linter.unusedSimpArgs false
set_option maxRecDepth 100000
set_option maxHeartbeats 2000000
namespace D
open Go.RowKit
open Go.PlainAid (bt bt_nonneg bt_le bt_end)
attribute [local irreducible] Calls

theorem no_nl : (⟨#[110, 111, 10]⟩ : ByteArray) = tNo ++ s10 := by decide
theorem what_nl : (⟨#[119, 104, 97, 116, 10]⟩ : ByteArray) = tWhat ++ s10 := by decide
theorem tell_no {t : ByteArray} : tellW (t, false) = tNo := rfl
theorem tell_yes {t : ByteArray} : tellW (t, true) = t := rfl
theorem spanR_or' (s : ByteArray) : (∃ S T : SR, spanR s = .tuple #[sa S, sa T, .bool true] ∧ valS S ∧ valS T) ∨ spanR s = spNo := by
  by_cases h : ∃ j, oneSl s j
  · obtain ⟨j, hj⟩ := h
    rw [spanR_yes hj]
    unfold spanAt spV
    split
    · rename_i hh
      exact .inl ⟨_, _, rfl, spA_val hh.1, spB_val hh.2.1⟩
    · exact .inr rfl
  · exact .inr (spanR_no fun j hj => h ⟨j, hj⟩)

theorem b_dateW (s : ByteArray) (hs : s.size ≤ 1000000000000) (w : World) (hb : D.Base w) : Calls Tryz.prog 44 #[.string s] w fun e w' => e = .returned (.string (tellW (dateW s) ++ s10)) ∧ Below w.heap.size w w' := by
  have hD := b_DateFrom s hs
  rcases dateR_ok s with ⟨r, f, h, e1, hv, e2⟩ | ⟨e1, e2⟩
  · rw [e2] at hD
    have e3 : dateW s = (dt3 r.y r.m r.d, true) := by unfold dateW; rw [e1]
    rw [e3]
    have ht0 := b_DateText r.y r.m r.d 0 true
    have ht1 := b_DateText r.y r.m r.d 1 true
    have ht2 := b_DateText r.y r.m r.d 2 true
    rw [show dtS r.y r.m r.d 0 true = _ from if_pos ⟨hv, rfl⟩] at ht0
    rw [show dtS r.y r.m r.d 1 true = _ from if_pos ⟨hv, rfl⟩] at ht1
    rw [show dtS r.y r.m r.d 2 true = _ from if_pos ⟨hv, rfl⟩] at ht2
    have z0 := dtL_sz r.y r.m r.d 0
    have z1 := dtL_sz r.y r.m r.d 1
    have z2 := dtL_sz r.y r.m r.d 2
    unfold dt3
    generalize strOfNums (dtL r.y r.m r.d 0 true) = x0 at *
    generalize strOfNums (dtL r.y r.m r.d 1 true) = x1 at *
    generalize strOfNums (dtL r.y r.m r.d 2 true) = x2 at *
    have hz : s32.size = 1 := rfl
    have h10 : s10.size = 1 := rfl
    have y1 : (x0 ++ s32).size = x0.size + 1 := by rw [ByteArray.size_append, hz]
    have y2 : (x0 ++ s32 ++ x1).size = x0.size + 1 + x1.size := by rw [ByteArray.size_append, y1]
    have y3 : (x0 ++ s32 ++ x1 ++ s32).size = x0.size + 1 + x1.size + 1 := by rw [ByteArray.size_append, y2, hz]
    have y4 : (x0 ++ s32 ++ x1 ++ s32 ++ x2).size = x0.size + 1 + x1.size + 1 + x2.size := by rw [ByteArray.size_append, y3]
    refine enter Tryz.func44 rfl Tryz.ntmps44 rfl (by assumption) ?_
    (repeat' (first | intro (b : Nat) | refine go ?_ | (refine br ?_ ?_ <;> first | exact trivial | intro hq) | refine L.call (h := by intro W hW; first | apply hD W hW.base | apply ht0 W hW.base | apply ht1 W hW.base | apply ht2 W hW.base) (k := ?_)))
    (refine ret ?_; try exact rfl)
  · rw [e2] at hD
    have e3 : dateW s = (sNil, false) := by unfold dateW; rw [e1]
    rw [e3, tell_no, ← no_nl]
    refine enter Tryz.func44 rfl Tryz.ntmps44 rfl (by assumption) ?_
    (repeat' (first | intro (b : Nat) | refine go ?_ | (refine br ?_ ?_ <;> first | exact trivial | intro hq) | refine L.call (h := by intro W hW; apply hD W hW.base) (k := ?_)))
    (refine ret ?_; try exact rfl)

theorem b_tidyW (s : ByteArray) (hs : s.size ≤ 1000000000000) (w : World) (hb : D.Base w) : Calls Tryz.prog 45 #[.string s] w fun e w' => e = .returned (.string (tellW (tidyW s) ++ s10)) ∧ Below w.heap.size w w' := by
  have hT := b_StampTidy s hs
  rw [tidy_val s] at hT
  have hz := tidyW_sz s
  have h10 : s10.size = 1 := rfl
  generalize tidyW s = r at *
  obtain ⟨t, ok⟩ := r
  cases ok with
  | true =>
    rw [tell_yes]
    dsimp only at hT hz
    refine enter Tryz.func45 rfl Tryz.ntmps45 rfl (by assumption) ?_
    (repeat' (first | intro (b : Nat) | refine go ?_ | (refine br ?_ ?_ <;> first | exact trivial | intro hq) | refine L.call (h := by intro W hW; apply hT W hW.base) (k := ?_)))
    (refine ret ?_; try exact rfl)
  | false =>
    rw [tell_no, ← no_nl]
    dsimp only at hT
    refine enter Tryz.func45 rfl Tryz.ntmps45 rfl (by assumption) ?_
    (repeat' (first | intro (b : Nat) | refine go ?_ | (refine br ?_ ?_ <;> first | exact trivial | intro hq) | refine L.call (h := by intro W hW; apply hT W hW.base) (k := ?_)))
    (refine ret ?_; try exact rfl)

theorem b_eastW (s : ByteArray) (hs : s.size ≤ 1000000000000) (w : World) (hb : D.Base w) : Calls Tryz.prog 46 #[.string s] w fun e w' => e = .returned (.string (tellW (eastW s) ++ s10)) ∧ Below w.heap.size w w' := by
  have hD := b_DigitsGet s 0 4 hs (by omega) (by omega)
  have hE := b_EasterOf (if allD s 0 4 = true then numL s 0 4 else 0)
  by_cases hc : (allD s 0 4 = true ∧ s.size = 4) ∧ inR (numL s 0 4) 1583 9999 = true
  · obtain ⟨⟨hd, hz⟩, hy⟩ := hc
    have hT := b_DateText (numL s 0 4) (eNn (numL s 0 4) / 31) (eNn (numL s 0 4) % 31 + 1) 0 true
    rw [show dtS (numL s 0 4) (eNn (numL s 0 4) / 31) (eNn (numL s 0 4) % 31 + 1) 0 true = _ from if_pos ⟨eas_val hy, rfl⟩] at hT
    have z0 := dtL_sz (numL s 0 4) (eNn (numL s 0 4) / 31) (eNn (numL s 0 4) % 31 + 1) 0
    have h10 : s10.size = 1 := rfl
    rw [if_pos hd, hd] at hD
    rw [if_pos hd, show easV (numL s 0 4) = _ from if_pos hy] at hE
    rw [show eastW s = _ from if_pos ⟨⟨hd, hz⟩, hy⟩, tell_yes]
    generalize strOfNums (dtL (numL s 0 4) (eNn (numL s 0 4) / 31) (eNn (numL s 0 4) % 31 + 1) 0 true) = x0 at *
    refine enter Tryz.func46 rfl Tryz.ntmps46 rfl (by assumption) ?_
    (repeat' (first | intro (b : Nat) | refine go ?_ | (refine br ?_ ?_ <;> first | exact trivial | intro hq) | refine L.call (h := by intro W hW; first | apply hD W hW.base | apply hE W hW.base | apply hT W hW.base) (k := ?_)))
    (refine ret ?_; try exact rfl)
  · rw [show eastW s = _ from if_neg hc, tell_no, ← no_nl]
    cases hd : allD s 0 4 with
    | false =>
      rw [hd, if_neg (by decide)] at hD
      rw [hd, if_neg (by decide), show easV 0 = _ from if_neg (by decide)] at hE
      refine enter Tryz.func46 rfl Tryz.ntmps46 rfl (by assumption) ?_
      (repeat' (first | intro (b : Nat) | refine go ?_ | (refine br ?_ ?_ <;> first | exact trivial | intro hq) | refine L.call (h := by intro W hW; first | apply hD W hW.base | apply hE W hW.base) (k := ?_)))
      (refine ret ?_; try exact rfl)
    | true =>
      rw [hd, if_pos rfl] at hD
      rw [hd, if_pos rfl] at hE
      by_cases hy : inR (numL s 0 4) 1583 9999 = true
      · have hz : ¬ s.size = 4 := fun h => hc ⟨⟨hd, h⟩, hy⟩
        rw [show easV (numL s 0 4) = _ from if_pos hy] at hE
        refine enter Tryz.func46 rfl Tryz.ntmps46 rfl (by assumption) ?_
        (repeat' (first | intro (b : Nat) | refine go ?_ | (refine br ?_ ?_ <;> first | exact trivial | intro hq) | refine L.call (h := by intro W hW; first | apply hD W hW.base | apply hE W hW.base) (k := ?_)))
        (refine ret ?_; try exact rfl)
      · rw [show easV (numL s 0 4) = _ from if_neg hy] at hE
        refine enter Tryz.func46 rfl Tryz.ntmps46 rfl (by assumption) ?_
        (repeat' (first | intro (b : Nat) | refine go ?_ | (refine br ?_ ?_ <;> first | exact trivial | intro hq) | refine L.call (h := by intro W hW; first | apply hD W hW.base | apply hE W hW.base) (k := ?_)))
        (refine ret ?_; try exact rfl)

theorem b_spanW (s : ByteArray) (hs : s.size ≤ 1000000000000) (w : World) (hb : D.Base w) : Calls Tryz.prog 47 #[.string s] w fun e w' => e = .returned (.string (tellW (spanW s) ++ s10)) ∧ Below w.heap.size w w' := by
  have hT := b_SpanFromR s hs
  rcases spanR_or' s with ⟨S, T, e1, h2, h3⟩ | e1
  · rw [e1] at hT
    have ha := b_l13Text S.y S.m S.d S.h S.i S.s S.k S.o h2
    have hb2 := b_l13Text T.y T.m T.d T.h T.i T.s T.k T.o h3
    rw [spanW_yes e1, tell_yes]
    have z1 := txS_sz S
    have z2 := txS_sz T
    unfold txS at *
    generalize strOfNums (stL S.y S.m S.d S.h S.i S.s S.k S.o) = x at *
    generalize strOfNums (stL T.y T.m T.d T.h T.i T.s T.k T.o) = y at *
    have hz : s32.size = 1 := rfl
    have h10 : s10.size = 1 := rfl
    have hz2 : (x ++ s32).size = x.size + 1 := by rw [ByteArray.size_append, hz]
    have hz3 : (x ++ s32 ++ y).size = x.size + 1 + y.size := by rw [ByteArray.size_append, hz2]
    refine enter Tryz.func47 rfl Tryz.ntmps47 rfl (by assumption) ?_
    (repeat' (first | intro (b : Nat) | refine go ?_ | (refine br ?_ ?_ <;> first | exact trivial | intro hq) | refine L.call (h := by intro W hW; first | apply hT W hW.base | apply ha W hW.base | apply hb2 W hW.base) (k := ?_) | refine gg ?_ | refine G.call (h := by intro W hW; first | apply hT W hW.base | apply ha W hW.base | apply hb2 W hW.base) (k := ?_) | (apply C.draww (id := 4) 8 [some _, some _, none, some _, some _, none, none, none])))
    (refine ret ?_; try exact rfl)
  · rw [e1] at hT
    rw [spanW_no e1, tell_no, ← no_nl]
    refine enter Tryz.func47 rfl Tryz.ntmps47 rfl (by assumption) ?_
    (repeat' (first | intro (b : Nat) | refine go ?_ | (refine br ?_ ?_ <;> first | exact trivial | intro hq) | refine L.call (h := by intro W hW; apply hT W hW.base) (k := ?_) | refine gg ?_ | refine G.call (h := by intro W hW; apply hT W hW.base) (k := ?_) | (apply C.draww (id := 4) 8 [some _, some _, none, some _, some _, none, none, none])))
    (refine ret ?_; try exact rfl)

theorem b_plusW (s t : ByteArray) (back : Bool) (hs : s.size ≤ 1000000000000) (ht : t.size ≤ 1000000000000) (w : World) (hb : D.Base w) :
    Calls Tryz.prog 48 #[.string s, .string t, .bool back] w fun e w' => e = .returned (.string (tellW (plusW s t back) ++ s10)) ∧ Below w.heap.size w w' := by
  have hS := b_StampFrom s hs
  have hP := b_PeriodFrom t ht
  unfold plusW
  rw [show stR s (cutP s) = stampR s from rfl] at hS
  generalize stampR s = S at *
  unfold srV at hS
  have h10 : s10.size = 1 := rfl
  cases hp : perR t with
  | none =>
    rw [hp] at hP
    have hQ := b_StampPlus S.y S.m S.d S.h S.i S.s S.k S.o 0 0 0 0 0 0 back
    generalize splus S.y S.m S.d S.h S.i S.s S.k S.o 0 0 0 0 0 0 back = R at *
    unfold srV at hQ
    have e : tellW (if S.ok = true then (match (none : Option P6) with
      | some p => if (plusO S (some p) back).ok = true then (txS (plusO S (some p) back), true) else (sNil, false)
      | none => (sNil, false)) else (sNil, false)) = tNo := by split <;> rfl
    rw [e, ← no_nl]
    refine enter Tryz.func48 rfl Tryz.ntmps48 rfl (by assumption) ?_
    (repeat' (first | intro (b : Nat) | refine go ?_ | (refine br ?_ ?_ <;> first | exact trivial | intro hq) | refine L.call (h := by intro W hW; first | apply hS W hW.base | apply hP W hW.base | apply hQ W hW.base) (k := ?_)))
    all_goals (refine ret ?_; try exact rfl)
  | some p =>
    rw [hp] at hP
    have hQ := b_StampPlus S.y S.m S.d S.h S.i S.s S.k S.o p.a p.b p.c p.d p.e p.f back
    have hv := @plusO_ok S (some p) back
    rw [show splus S.y S.m S.d S.h S.i S.s S.k S.o p.a p.b p.c p.d p.e p.f back = plusO S (some p) back from rfl] at hQ
    have e : tellW (if S.ok = true then (match (some p : Option P6) with
      | some p => if (plusO S (some p) back).ok = true then (txS (plusO S (some p) back), true) else (sNil, false)
      | none => (sNil, false)) else (sNil, false)) = if S.ok = true ∧ (plusO S (some p) back).ok = true then txS (plusO S (some p) back) else tNo := by
      by_cases h1 : S.ok = true <;> by_cases h2 : (plusO S (some p) back).ok = true <;> simp [h1, h2, tellW]
    rw [e]
    generalize plusO S (some p) back = R at *
    unfold srV at hQ
    by_cases h1 : S.ok = true
    · by_cases h2 : R.ok = true
      · rw [h2] at hQ
        rw [h1] at hS
        rw [if_pos ⟨h1, h2⟩]
        have hT := b_l13Text R.y R.m R.d R.h R.i R.s R.k R.o (hv h2)
        have z1 := txS_sz R
        unfold txS at *
        generalize strOfNums (stL R.y R.m R.d R.h R.i R.s R.k R.o) = x at *
        refine enter Tryz.func48 rfl Tryz.ntmps48 rfl (by assumption) ?_
        (repeat' (first | intro (b : Nat) | refine go ?_ | (refine br ?_ ?_ <;> first | exact trivial | intro hq) | refine L.call (h := by intro W hW; first | apply hS W hW.base | apply hP W hW.base | apply hQ W hW.base | apply hT W hW.base) (k := ?_)))
        (refine ret ?_; try exact rfl)
      · rw [if_neg fun h => h2 h.2, ← no_nl]
        rw [Bool.not_eq_true] at h2
        rw [h2] at hQ
        rw [h1] at hS
        refine enter Tryz.func48 rfl Tryz.ntmps48 rfl (by assumption) ?_
        (repeat' (first | intro (b : Nat) | refine go ?_ | (refine br ?_ ?_ <;> first | exact trivial | intro hq) | refine L.call (h := by intro W hW; first | apply hS W hW.base | apply hP W hW.base | apply hQ W hW.base) (k := ?_)))
        (refine ret ?_; try exact rfl)
    · rw [if_neg fun h => h1 h.1, ← no_nl]
      rw [Bool.not_eq_true] at h1
      rw [h1] at hS
      refine enter Tryz.func48 rfl Tryz.ntmps48 rfl (by assumption) ?_
      (repeat' (first | intro (b : Nat) | refine go ?_ | (refine br ?_ ?_ <;> first | exact trivial | intro hq) | refine L.call (h := by intro W hW; first | apply hS W hW.base | apply hP W hW.base | apply hQ W hW.base) (k := ?_)))
      (refine ret ?_; try exact rfl)

theorem b_betwW (s t : ByteArray) (hs : s.size ≤ 1000000000000) (ht : t.size ≤ 1000000000000) (w : World) (hb : D.Base w) :
    Calls Tryz.prog 49 #[.string s, .string t] w fun e w' => e = .returned (.string (tellW (betwW s t) ++ s10)) ∧ Below w.heap.size w w' := by
  have hA := b_DateFrom s hs
  have hB := b_DateFrom t ht
  have h10 : s10.size = 1 := rfl
  have main : ∀ (y m d y' m' d' : Int) (f f' : Int) (h h' : Bool) (ok ok' : Bool), dfV (okS s) (dS s) = .tuple #[daV y m d, .int .i64 f, .bool h, .bool ok] → dfV (okS t) (dS t) = .tuple #[daV y' m' d', .int .i64 f', .bool h', .bool ok'] →
      tellW (betwW s t) = (if ok = true ∧ ok' = true ∧ bOk y m d y' m' d' = true then strOfNums (perL (perY y m d y' m' d')) else tNo) →
      Calls Tryz.prog 49 #[.string s, .string t] w fun e w' => e = .returned (.string (tellW (betwW s t) ++ s10)) ∧ Below w.heap.size w w' := fun y m d y' m' d' f f' h h' ok ok' e1 e2 e3 => by
    rw [e1] at hA
    rw [e2] at hB
    rw [e3]
    have hD := b_DatesBetween y m d y' m' d'
    unfold bV at hD
    by_cases hk : ok = true ∧ ok' = true ∧ bOk y m d y' m' d' = true
    · rw [if_pos hk]
      obtain ⟨rfl, rfl, hk⟩ := hk
      have hT := b_l15Text (perY y m d y' m' d') (perY_ok hk)
      have z := perL_sz (perY y m d y' m' d')
      generalize strOfNums (perL (perY y m d y' m' d')) = x at *
      rw [hk] at hD
      unfold perY at hT
      dsimp only at hT
      refine enter Tryz.func49 rfl Tryz.ntmps49 rfl (by assumption) ?_
      (repeat' (first | intro (b : Nat) | refine go ?_ | (refine br ?_ ?_ <;> first | exact trivial | intro hq) | refine L.call (h := by intro W hW; first | apply hA W hW.base | apply hB W hW.base | apply hD W hW.base | apply hT W hW.base) (k := ?_)))
      (refine ret ?_; try exact rfl)
    · rw [if_neg hk, ← no_nl]
      cases ok with
      | false =>
        refine enter Tryz.func49 rfl Tryz.ntmps49 rfl (by assumption) ?_
        (repeat' (first | intro (b : Nat) | refine go ?_ | (refine br ?_ ?_ <;> first | exact trivial | intro hq) | refine L.call (h := by intro W hW; first | apply hA W hW.base | apply hB W hW.base | apply hD W hW.base) (k := ?_)))
        (refine ret ?_; try exact rfl)
      | true =>
        cases ok' with
        | false =>
          refine enter Tryz.func49 rfl Tryz.ntmps49 rfl (by assumption) ?_
          (repeat' (first | intro (b : Nat) | refine go ?_ | (refine br ?_ ?_ <;> first | exact trivial | intro hq) | refine L.call (h := by intro W hW; first | apply hA W hW.base | apply hB W hW.base | apply hD W hW.base) (k := ?_)))
          (refine ret ?_; try exact rfl)
        | true =>
          have h3 : bOk y m d y' m' d' = false := by
            rw [← Bool.not_eq_true]
            exact fun h => hk ⟨rfl, rfl, h⟩
          rw [h3] at hD
          refine enter Tryz.func49 rfl Tryz.ntmps49 rfl (by assumption) ?_
          (repeat' (first | intro (b : Nat) | refine go ?_ | (refine br ?_ ?_ <;> first | exact trivial | intro hq) | refine L.call (h := by intro W hW; first | apply hA W hW.base | apply hB W hW.base | apply hD W hW.base) (k := ?_)))
          (refine ret ?_; try exact rfl)
  rcases dateR_ok s with ⟨r, f, h, e1, hv, e2⟩ | ⟨e1, e2⟩
  · rcases dateR_ok t with ⟨q, f', h', e3, hv', e4⟩ | ⟨e3, e4⟩
    · refine main _ _ _ _ _ _ _ _ _ _ _ _ e2 e4 ?_
      unfold betwW
      rw [e1, e3]
      unfold tellW perX
      dsimp only
      by_cases hk : bOk r.y r.m r.d q.y q.m q.d = true
      · rw [if_pos hk, if_pos (perY_ok hk), if_pos ⟨rfl, rfl, hk⟩]
      · rw [if_neg hk, if_neg fun h => hk h.2.2]
    · refine main _ _ _ _ _ _ _ _ _ _ _ _ e2 e4 ?_
      unfold betwW
      rw [e1, e3]
      rfl
  · rcases dateR_ok t with ⟨q, f', h', e3, hv', e4⟩ | ⟨e3, e4⟩
    · refine main _ _ _ _ _ _ _ _ _ _ _ _ e2 e4 ?_
      unfold betwW
      rw [e1]
      rfl
    · refine main _ _ _ _ _ _ _ _ _ _ _ _ e2 e4 ?_
      unfold betwW
      rw [e1]
      rfl

end D
end Go.Proofs.YtboglbdhibcacaaGreatDoor
