/- Walks: texts of spans, of both. -/
import Derived.Test.YtboglbdhibcacaaGreatDoorVm
import Derived.Test.YtboglbdhibcacaaGreatDoorVDr
import Derived.Test.YtboglbdhibcacaaGreatDoorVPx
import Derived.Test.YtboglbdhibcacaaGreatDoorVd
import Derived.Test.YtboglbdhibcacaaGreatDoorVB6
import Derived.Test.YtboglbdhibcacaaGreatDoorVC2
import Derived.Test.YtboglbdhibcacaaGreatDoorVe
import Derived.Test.YtboglbdhibcacaaGreatDoorVj
namespace Go.Proofs.YtboglbdhibcacaaGreatDoor
set_option linter.unusedVariables false
set_option linter.unusedSimpArgs false
set_option maxRecDepth 100000
set_option maxHeartbeats 1000000
namespace D
open Go.RowKit
open Go.PlainAid (bt bt_nonneg bt_le bt_end)
attribute [local irreducible] Calls

/-- The text of a stamp that there is. -/
noncomputable abbrev txS (S : SR) : ByteArray := strOfNums (stL S.y S.m S.d S.h S.i S.s S.k S.o)
theorem stT_of {S : SR} (h : valS S) : stT S.y S.m S.d S.h S.i S.s S.k S.o = txS S := if_pos h

end D
end Go.Proofs.YtboglbdhibcacaaGreatDoor

namespace Go.Proofs.YtboglbdhibcacaaGreatDoor
set_option linter.unusedVariables false
set_option linter.unusedSimpArgs false
set_option maxRecDepth 100000
set_option maxHeartbeats 1000000
namespace D
open Go.RowKit
open Go.PlainAid (bt bt_nonneg bt_le bt_end)

end D
end Go.Proofs.YtboglbdhibcacaaGreatDoor

namespace Go.Proofs.YtboglbdhibcacaaGreatDoor
set_option linter.unusedVariables false
set_option linter.unusedSimpArgs false
set_option maxRecDepth 100000
set_option maxHeartbeats 1000000
namespace D
open Go.RowKit
attribute [local irreducible] Calls

def SomePeriod (v : Value) : Prop := ∃ p : P6, v = .agg #[.int .i64 p.a, .int .i64 p.b, .int .i64 p.c, .int .i64 p.d, .int .i64 p.e, .int .i64 p.f]

theorem d_period (w0 : World) (F : SH) (s : Value) (r : Nat) (p : Int) (hc : CodeAt w0 s) (hp0 : 0 ≤ p) (hp : p ≤ 100000000000) (w : World) (hst : St w0 ((r, rb s p) :: F) w) :
    Calls Tryz.prog 55 #[.pointer (some ⟨r, 0, none⟩)] w (LentV w0 r (rb s) p 20 F SomePeriod) := by
  refine enterl Tryz.func55 rfl Tryz.ntmps55 rfl hst ?_
  (repeat' (first | intro (b : Nat) | refine go ?_ | (refine br ?_ ?_ <;> first | exact trivial | intro hq) | (refine L.lcall (bs := rb s) (h := by intro W hW; exact d_pick1 _ _ _ _ _ _ hc (by omega) (by omega) (by omega) W hW) (k := ?_); intro v p1 hR hp1 hp2; obtain ⟨m, rfl, hm0, hm1⟩ := hR) | (apply L.li (lo := -100000000) (hi := 100000000); exact rfl; exact rfl; exact rfl; (· (repeat (first | exact List.Mem.head _ | apply List.Mem.tail))); (· simp <;> omega); (· (repeat (first | exact AllI.nil | (apply AllI.cons; omega; omega)))); intro m hm0 hm1)))
  all_goals (refine retl ?_)
  all_goals exact ⟨⟨_, _, _, _, _, _⟩, rfl⟩

theorem perX_size (p : P6) : (perX p).size ≤ 40 := by
  unfold perX
  split
  · rw [strOfNums_size]
    cases h : pzero p with
    | true => rw [perL_z p h]; decide
    | false => rw [← preP_end p h]; exact preP_len p 6
  · decide

theorem d_PeriodTextT (w0 : World) (F : SH) (s : Value) (r : Nat) (p : Int) (hc : CodeAt w0 s) (hp0 : 0 ≤ p) (hp : p ≤ 10000000000) (w : World) (hst : St w0 ((r, rb s p) :: F) w) :
    Calls Tryz.prog 31 #[.pointer (some ⟨r, 0, none⟩)] w (LentV w0 r (rb s) p 40 F (StrIn 100)) := by
  refine enterl Tryz.func31 rfl Tryz.ntmps31 rfl hst ?_
  (repeat (first | intro (b : Nat) | refine go ?_))
  (refine L.lcall (bs := rb s) (h := by intro W hW; exact d_pick1 _ _ _ _ _ _ hc (by omega) (by omega) (by omega) W hW) (k := ?_); intro v p1 hR hp1 hp2; obtain ⟨m, rfl, hm0, hm1⟩ := hR)
  (repeat' (first | intro (b : Nat) | refine go ?_ | (refine br ?_ ?_ <;> first | exact trivial | intro hq)))
  · (refine L.lcall (bs := rb s) (h := by intro W hW; exact d_of _ _ s r _ hc (by omega) (by omega) _ 19 60 _ rfl (by omega) (List.Mem.head _) (by repeat (first | exact AllS.nil | (refine AllS.cons (by decide) ?_))) W hW) (k := ?_); intro v p1 hR hp1 hp2)
    obtain ⟨u, rfl, hu⟩ := hR
    (repeat (first | intro (b : Nat) | refine go ?_))
    (refine retl ?_)
    exact ⟨_, rfl, by omega⟩
  · (refine L.lcall (bs := rb s) (h := by intro W hW; exact d_period _ _ _ _ _ hc (by omega) (by omega) W hW) (k := ?_); intro v p1 hR hp1 hp2)
    obtain ⟨q, rfl⟩ := hR
    have hz := perX_size q
    have hT := b_PeriodText q
    generalize perX q = t at *
    (repeat (first | intro (b : Nat) | refine go ?_))
    (refine L.call (h := by intro W hW; exact hT W hW.base) (k := ?_))
    (repeat (first | intro (b : Nat) | refine go ?_))
    (refine L.lcall (bs := rb s) (h := by intro W hW; exact d_of _ _ s r _ hc (by omega) (by omega) _ 4 10 _ rfl (by omega) (List.Mem.head _) (by repeat (first | exact AllS.nil | (refine AllS.cons (by decide) ?_))) W hW) (k := ?_); intro v p1 hR hp1 hp2)
    obtain ⟨u, rfl, hu⟩ := hR
    (repeat (first | intro (b : Nat) | refine go ?_))
    (refine retl ?_)
    exact ⟨_, rfl, by simp only [ByteArray.size_append]; omega⟩
  · (refine L.lcall (bs := rb s) (h := by intro W hW; exact d_period _ _ _ _ _ hc (by omega) (by omega) W hW) (k := ?_); intro v p1 hR hp1 hp2)
    obtain ⟨q, rfl⟩ := hR
    have hz := perX_size q
    have hT := b_PeriodText q
    generalize perX q = t at *
    (repeat (first | intro (b : Nat) | refine go ?_))
    (refine L.call (h := by intro W hW; exact hT W hW.base) (k := ?_))
    (repeat (first | intro (b : Nat) | refine go ?_))
    (refine retl ?_)
    exact ⟨_, rfl, by omega⟩

end D
end Go.Proofs.YtboglbdhibcacaaGreatDoor

namespace Go.Proofs.YtboglbdhibcacaaGreatDoor
set_option linter.unusedVariables false
set_option linter.unusedSimpArgs false
set_option maxRecDepth 100000
set_option maxHeartbeats 1000000
namespace D
open Go.RowKit
attribute [local irreducible] Calls

theorem spA_val {l r : ByteArray} {p : Option P6} (h : (spA (stampR l) (stampR r) p).ok = true) : valS (spA (stampR l) (stampR r) p) := by
  unfold spA at *
  by_cases h1 : (stampR l).ok = true
  · rw [if_pos h1]; exact stampR_ok h1
  · rw [if_neg h1] at *
    by_cases h2 : (stampR r).ok = true
    · rw [if_pos h2] at *; exact plusO_ok h
    · rw [if_neg h2] at h; cases h
theorem spB_val {l r : ByteArray} {p : Option P6} (h : (spB (stampR l) (stampR r) p).ok = true) : valS (spB (stampR l) (stampR r) p) := by
  unfold spB at *
  by_cases h1 : (stampR r).ok = true
  · rw [if_pos h1]; exact stampR_ok h1
  · rw [if_neg h1] at *
    by_cases h2 : (stampR l).ok = true
    · rw [if_pos h2] at *; exact plusO_ok h
    · rw [if_neg h2] at h; cases h
end D
end Go.Proofs.YtboglbdhibcacaaGreatDoor

namespace Go.Proofs.YtboglbdhibcacaaGreatDoor
set_option linter.unusedVariables false
set_option linter.unusedSimpArgs false
set_option maxRecDepth 100000
set_option maxHeartbeats 2000000
namespace D
open Go.RowKit
open Go.PlainAid (bt bt_nonneg bt_le bt_end)

abbrev s32 : ByteArray := ⟨#[32]⟩
abbrev s10 : ByteArray := ⟨#[10]⟩
abbrev tNo : ByteArray := ⟨#[110, 111]⟩
abbrev tWhat : ByteArray := ⟨#[119, 104, 97, 116]⟩
abbrev sNil : ByteArray := ⟨#[]⟩

/-- The date that a text tells, if any. -/
noncomputable def dateR (s : ByteArray) : Option DR :=
  if okS s 0 = true then some (dS s 0) else if okS s 1 = true then some (dS s 1) else if okS s 2 = true then some (dS s 2) else if okS s 3 = true then some (dS s 3) else if okS s 4 = true then some (dS s 4) else if okS s 5 = true then some (dS s 5) else none
abbrev daV (y m d : Int) : Value := .agg #[.int .i64 y, .int .i64 m, .int .i64 d]
theorem dateR_ok (s : ByteArray) : (∃ (r : DR) (f : Int) (h : Bool), dateR s = some r ∧ dval r.y r.m r.d = true ∧ dfV (okS s) (dS s) = .tuple #[daV r.y r.m r.d, .int .i64 f, .bool h, .bool true]) ∨ (dateR s = none ∧ dfV (okS s) (dS s) = .tuple #[daV 0 0 0, .int .i64 0, .bool false, .bool false]) := by
  rcases dfV_or (okS s) (dS s) with ⟨k, h1, h2, h3, h4⟩ | ⟨h1, h2⟩
  · have hd : dval (dS s k).y (dS s k).m (dS s k).d = true := by
      have h5 := h3
      unfold okS at h5
      simp only [Bool.and_eq_true, decide_eq_true_eq] at h5
      exact h5.1.2
    refine .inl ⟨dS s k, _, _, ?_, hd, h4⟩
    unfold dateR
    rcases (by omega : k = 0 ∨ k = 1 ∨ k = 2 ∨ k = 3 ∨ k = 4 ∨ k = 5) with rfl | rfl | rfl | rfl | rfl | rfl
    · simp [h3]
    · simp [h3, h2 0 (by omega)]
    · simp [h3, h2 0 (by omega), h2 1 (by omega)]
    · simp [h3, h2 0 (by omega), h2 1 (by omega), h2 2 (by omega)]
    · simp [h3, h2 0 (by omega), h2 1 (by omega), h2 2 (by omega), h2 3 (by omega)]
    · simp [h3, h2 0 (by omega), h2 1 (by omega), h2 2 (by omega), h2 3 (by omega), h2 4 (by omega)]
  · refine .inr ⟨?_, h2⟩
    simp [dateR, h1 0 (by omega), h1 1 (by omega), h1 2 (by omega), h1 3 (by omega), h1 4 (by omega), h1 5 (by omega)]

/-- The three texts of a date. -/
noncomputable def dt3 (y m d : Int) : ByteArray := strOfNums (dtL y m d 0 true) ++ s32 ++ strOfNums (dtL y m d 1 true) ++ s32 ++ strOfNums (dtL y m d 2 true)
noncomputable def dateW (s : ByteArray) : ByteArray × Bool := match dateR s with
  | some r => (dt3 r.y r.m r.d, true)
  | none => (sNil, false)
noncomputable def tidyW (s : ByteArray) : ByteArray × Bool := if (stampR s).ok = true then (txS (stampR s), true) else (sNil, false)
noncomputable def eastW (s : ByteArray) : ByteArray × Bool :=
  if (allD s 0 4 = true ∧ s.size = 4) ∧ inR (numL s 0 4) 1583 9999 = true then (strOfNums (dtL (numL s 0 4) (eNn (numL s 0 4) / 31) (eNn (numL s 0 4) % 31 + 1) 0 true), true) else (sNil, false)
open Classical in
noncomputable def spanW (s : ByteArray) : ByteArray × Bool :=
  if h : ∃ p : SR × SR, spanR s = .tuple #[sa p.1, sa p.2, .bool true] then (txS (Classical.choose h).1 ++ s32 ++ txS (Classical.choose h).2, true) else (s32, false)
noncomputable def plusW (s t : ByteArray) (back : Bool) : ByteArray × Bool :=
  if (stampR s).ok = true then match perR t with
    | some p => if (plusO (stampR s) (some p) back).ok = true then (txS (plusO (stampR s) (some p) back), true) else (sNil, false)
    | none => (sNil, false)
  else (sNil, false)
def perY (y m d y' m' d' : Int) : P6 := ⟨bY y m d y' m' d', bM y m d y' m' d', bD y m d y' m' d', 0, 0, 0⟩
noncomputable def betwW (s t : ByteArray) : ByteArray × Bool := match dateR s with
  | some a => match dateR t with
    | some b => (perX (perY a.y a.m a.d b.y b.m b.d), bOk a.y a.m a.d b.y b.m b.d)
    | none => (sNil, false)
  | none => (sNil, false)

theorem sa_txS {S T : SR} (h : sa S = sa T) : txS S = txS T := by
  simp only [Value.agg.injEq, Array.mk.injEq, List.cons.injEq, Value.int.injEq, true_and, and_true] at h
  obtain ⟨a1, a2, a3, a4, a5, a6, a7, a8⟩ := h
  unfold txS
  rw [a1, a2, a3, a4, a5, a6, a7, a8]
theorem spanW_yes {s : ByteArray} {S T : SR} (h : spanR s = .tuple #[sa S, sa T, .bool true]) : spanW s = (txS S ++ s32 ++ txS T, true) := by
  have hh : ∃ p : SR × SR, spanR s = .tuple #[sa p.1, sa p.2, .bool true] := ⟨(S, T), h⟩
  have h2 := Classical.choose_spec hh
  unfold spanW
  rw [dif_pos hh]
  have h3 := h.symm.trans h2
  rw [Value.tuple.injEq, Array.mk.injEq, List.cons.injEq, List.cons.injEq] at h3
  rw [← sa_txS h3.1, ← sa_txS h3.2.1]
theorem spanW_no {s : ByteArray} {S T : SR} (h : spanR s = .tuple #[sa S, sa T, .bool false]) : spanW s = (s32, false) := by
  unfold spanW
  rw [dif_neg]
  rintro ⟨p, h2⟩
  rw [h] at h2
  simp at h2
theorem tidy_val (s : ByteArray) : tdV s = .tuple #[.string (tidyW s).1, .bool (tidyW s).2] := by
  unfold tdV tidyW stampR
  split <;> rfl
theorem eas_val {y : Int} (h : inR y 1583 9999 = true) : dval y (eNn y / 31) (eNn y % 31 + 1) = true := by
  have hn := eNn_in (inR_true.1 h)
  have hy := inR_true.1 h
  rcases (by omega : eNn y / 31 = 3 ∨ (eNn y / 31 = 4 ∧ eNn y % 31 ≤ 24)) with h3 | ⟨h3, h4⟩
  · rw [h3]
    have hm : md y 3 = 31 := by
      unfold md
      simp [inR, mdTab]
      try omega
    unfold dval
    rw [hm]
    exact inR_true.2 (by omega)
  · rw [h3]
    have hm : md y 4 = 30 := by
      unfold md
      simp [inR, mdTab]
      try omega
    unfold dval
    rw [hm]
    exact inR_true.2 (by omega)
theorem perY_ok {y m d y' m' d' : Int} (h : bOk y m d y' m' d' = true) : pOk (perY y m d y' m' d') = true := by
  obtain ⟨h1, h2, h3⟩ := bOk_iff.1 h
  have hb := btw h1 h2 h3
  unfold pOk perY bY bM bD
  rw [if_pos h, if_pos h, if_pos h, decide_eq_true_eq]
  refine ⟨⟨?_, ?_⟩, ⟨?_, ?_⟩, ⟨?_, ?_⟩, ?_⟩ <;> (try dsimp only) <;> omega
theorem perL_sz (p : P6) : (strOfNums (perL p)).size ≤ 40 := by
  rw [strOfNums_size]
  cases hz : pzero p with
  | true => rw [perL_z p hz]; decide
  | false => rw [← preP_end p hz]; exact preP_len p 6
theorem dtL_sz (y m d f : Int) : (strOfNums (dtL y m d f true)).size ≤ 20 := by
  rw [strOfNums_size]
  exact dtL_len y m d f true
theorem dt3_sz (y m d : Int) : (dt3 y m d).size ≤ 100 := by
  have h1 := dtL_sz y m d 0
  have h2 := dtL_sz y m d 1
  have h3 := dtL_sz y m d 2
  have hz : s32.size = 1 := rfl
  unfold dt3
  simp only [ByteArray.size_append, hz]
  omega

/-! ### Lines -/
abbrev kDate : ByteArray := ⟨#[100, 97, 116, 101]⟩
abbrev kTidy : ByteArray := ⟨#[116, 105, 100, 121]⟩
abbrev kEast : ByteArray := ⟨#[101, 97, 115, 116, 101, 114]⟩
abbrev kSpan : ByteArray := ⟨#[115, 112, 97, 110]⟩
abbrev kPlus : ByteArray := ⟨#[112, 108, 117, 115]⟩
abbrev kMinu : ByteArray := ⟨#[109, 105, 110, 117, 115]⟩
abbrev kBetw : ByteArray := ⟨#[98, 101, 116, 119, 101, 101, 110]⟩
/-- What is told, or "no". -/
def tellW (r : ByteArray × Bool) : ByteArray := if r.2 = true then r.1 else tNo
/-- The answer to a line, by its words. -/
noncomputable def ansW (W : List ByteArray) : ByteArray :=
  if W.getD 0 sNil = kDate ∧ W.length = 2 then tellW (dateW (W.getD 1 sNil))
  else if W.getD 0 sNil = kTidy ∧ W.length = 2 then tellW (tidyW (W.getD 1 sNil))
  else if W.getD 0 sNil = kEast ∧ W.length = 2 then tellW (eastW (W.getD 1 sNil))
  else if W.getD 0 sNil = kSpan ∧ W.length = 2 then tellW (spanW (W.getD 1 sNil))
  else if W.getD 0 sNil = kPlus ∧ W.length = 3 then tellW (plusW (W.getD 1 sNil) (W.getD 2 sNil) false)
  else if W.getD 0 sNil = kMinu ∧ W.length = 3 then tellW (plusW (W.getD 1 sNil) (W.getD 2 sNil) true)
  else if W.getD 0 sNil = kBetw ∧ W.length = 3 then tellW (betwW (W.getD 1 sNil) (W.getD 2 sNil))
  else tWhat
noncomputable def ansT (l : ByteArray) : ByteArray := ansW (splL 32 l)
theorem tellW_sz {r : ByteArray × Bool} (h : r.1.size ≤ 100) : (tellW r).size ≤ 100 := by
  unfold tellW
  split
  · exact h
  · decide
theorem sNil_sz : sNil.size ≤ 100 := by decide
theorem txS_sz (S : SR) : (txS S).size ≤ 40 := stL_size.2
theorem dateW_sz (s : ByteArray) : (dateW s).1.size ≤ 100 := by
  unfold dateW
  split
  · exact dt3_sz _ _ _
  · exact sNil_sz
theorem tidyW_sz (s : ByteArray) : (tidyW s).1.size ≤ 100 := by
  unfold tidyW
  split
  · exact Nat.le_trans (txS_sz _) (by omega)
  · exact sNil_sz
theorem eastW_sz (s : ByteArray) : (eastW s).1.size ≤ 100 := by
  unfold eastW
  split
  · exact Nat.le_trans (dtL_sz _ _ _ _) (by omega)
  · exact sNil_sz
theorem spanW_sz (s : ByteArray) : (spanW s).1.size ≤ 100 := by
  unfold spanW
  split
  · have hz : s32.size = 1 := rfl
    simp only [ByteArray.size_append, hz]
    have h1 := txS_sz
    exact Nat.le_trans (Nat.add_le_add (Nat.add_le_add (h1 _) (Nat.le_refl 1)) (h1 _)) (by omega)
  · show s32.size ≤ 100
    decide
theorem plusW_sz (s t : ByteArray) (b : Bool) : (plusW s t b).1.size ≤ 100 := by
  unfold plusW
  split
  · split
    · split
      · exact Nat.le_trans (txS_sz _) (by omega)
      · exact sNil_sz
    · exact sNil_sz
  · exact sNil_sz
theorem perX_sz (p : P6) : (perX p).size ≤ 40 := by
  unfold perX
  split
  · exact perL_sz p
  · decide
theorem betwW_sz (s t : ByteArray) : (betwW s t).1.size ≤ 100 := by
  unfold betwW
  split
  · split
    · exact Nat.le_trans (perX_sz _) (by omega)
    · exact sNil_sz
  · exact sNil_sz
theorem ansW_sz (W : List ByteArray) : (ansW W).size ≤ 100 := by
  unfold ansW
  repeat' split
  · exact tellW_sz (dateW_sz _)
  · exact tellW_sz (tidyW_sz _)
  · exact tellW_sz (eastW_sz _)
  · exact tellW_sz (spanW_sz _)
  · exact tellW_sz (plusW_sz _ _ _)
  · exact tellW_sz (plusW_sz _ _ _)
  · exact tellW_sz (betwW_sz _ _)
  · decide

/-! ### Scripts -/
/-- What the lines are answered. -/
noncomputable def outL : List ByteArray → ByteArray
  | [] => sNil
  | l :: r => (ansT l ++ s10) ++ outL r
theorem nil_app (t : ByteArray) : sNil ++ t = t := ByteArray.empty_append
theorem app_nil (t : ByteArray) : t ++ sNil = t := ByteArray.append_empty
theorem outL_app : ∀ L M : List ByteArray, outL (L ++ M) = outL L ++ outL M
  | [], M => (nil_app _).symm
  | l :: r, M => by
    rw [List.cons_append, outL, outL, outL_app r M]
    simp only [ByteArray.append_assoc]
theorem outL_snoc (L : List ByteArray) (l : ByteArray) : outL (L ++ [l]) = outL L ++ (ansT l ++ s10) := by
  rw [outL_app]
  show outL L ++ ((ansT l ++ s10) ++ sNil) = _
  rw [app_nil]
theorem outL_sz : ∀ L : List ByteArray, (outL L).size ≤ 101 * L.length
  | [] => Nat.le_refl _
  | l :: r => by
    have h1 := outL_sz r
    have h2 := ansW_sz (splL 32 l)
    have hz : s10.size = 1 := rfl
    unfold outL
    simp only [ByteArray.size_append, hz, List.length_cons]
    unfold ansT
    omega
abbrev tLines : ByteArray := ⟨#[108, 105, 110, 101, 115, 32]⟩
abbrev tLong : ByteArray := ⟨#[116, 111, 111, 32, 108, 111, 110, 103, 10]⟩
noncomputable def exeL (L : List ByteArray) : ByteArray := outL L ++ (tLines ++ strOfNums (decL (L.length : Int)) ++ s10)
noncomputable def exeT (s : ByteArray) : ByteArray := if s.size ≤ 600 then exeL (splL 10 s).dropLast else tLong
theorem splL_few (c : Int) (s : ByteArray) : (splL c s).length ≤ s.size + 1 := by
  have h1 := cutB_len c s s.size 0
  have : ∀ f, cntB' c s f ≤ f := fun f => by
    induction f with
    | zero => exact Nat.le_refl _
    | succ f ih => unfold cntB'; split <;> omega
  have h2 := this s.size
  unfold splL
  omega
theorem splL_size (c : Int) (s : ByteArray) : ∀ t ∈ splL c s, t.size ≤ s.size := cutB_size c s _ _

end D
end Go.Proofs.YtboglbdhibcacaaGreatDoor

namespace Go.Proofs.YtboglbdhibcacaaGreatDoor
set_option linter.unusedVariables false
set_option linter.unusedSimpArgs false
set_option maxRecDepth 100000
set_option maxHeartbeats 2000000
namespace D
open Go.RowKit
open Go.PlainAid (bt bt_nonneg bt_le bt_end)

/-- No byte of a text is this one. -/
def freeB (c : Int) (s : ByteArray) : Prop := ∀ i, i < s.size → ¬ bt s i = c
/-- Lines, each with its end. -/
def jnL : List ByteArray → ByteArray
  | [] => sNil
  | l :: r => (l ++ s10) ++ jnL r
theorem s10_size : s10.size = 1 := rfl
theorem sNil_size : sNil.size = 0 := rfl
theorem btL {a b : ByteArray} {i : Nat} (h : i < a.size) : bt (a ++ b) i = bt a i := by
  have h2 : i < (a ++ b).size := by rw [ByteArray.size_append]; omega
  unfold bt
  rw [dif_pos h, dif_pos h2, ByteArray.getElem_append_left h]
theorem btR {a b : ByteArray} {i : Nat} (h : i < b.size) : bt (a ++ b) (a.size + i) = bt b i := by
  have h2 : a.size + i < (a ++ b).size := by rw [ByteArray.size_append]; omega
  unfold bt
  rw [dif_pos h, dif_pos h2, ByteArray.getElem_append_right (by omega)]
  congr 2
  simp
theorem extR (a b : ByteArray) : (a ++ b).extract a.size (a ++ b).size = b := by
  apply bt_ext
  · rw [size_ext (Nat.le_refl _), ByteArray.size_append]; omega
  · intro k hk
    rw [size_ext (Nat.le_refl _), ByteArray.size_append] at hk
    rw [bt_extract (Nat.le_refl _) (by rw [ByteArray.size_append]; omega), btR (by omega)]
theorem extL (a b : ByteArray) : (a ++ b).extract 0 a.size = a := by
  apply bt_ext
  · rw [size_ext (by rw [ByteArray.size_append]; omega)]; omega
  · intro k hk
    rw [size_ext (by rw [ByteArray.size_append]; omega)] at hk
    rw [bt_extract (by rw [ByteArray.size_append]; omega) (by omega), Nat.zero_add, btL (by omega)]
theorem extM (a b c : ByteArray) : (a ++ (b ++ c)).extract a.size (a.size + b.size) = b := by
  apply bt_ext
  · rw [size_ext (by simp only [ByteArray.size_append]; omega)]; omega
  · intro k hk
    rw [size_ext (by simp only [ByteArray.size_append]; omega)] at hk
    rw [bt_extract (by simp only [ByteArray.size_append]; omega) (by omega), btR (by rw [ByteArray.size_append]; omega), btL (by omega)]
theorem jnL_app : ∀ L M : List ByteArray, jnL (L ++ M) = jnL L ++ jnL M
  | [], M => (nil_app _).symm
  | l :: r, M => by
    rw [List.cons_append, jnL, jnL, jnL_app r M]
    simp only [ByteArray.append_assoc]
theorem outL_jn : ∀ L : List ByteArray, outL L = jnL (L.map ansT)
  | [] => rfl
  | l :: r => by rw [outL, List.map_cons, jnL, outL_jn r]
/-- Lines and what follows are cut into them. -/
theorem cutB_jn {t : ByteArray} (ht : freeB 10 t) : ∀ (Ls : List ByteArray) (pre s : ByteArray), s = pre ++ (jnL Ls ++ t) → (∀ l ∈ Ls, freeB 10 l) → cutB 10 s (s.size - pre.size) pre.size = Ls ++ [t]
  | [], pre, s, hs, _ => by
    rw [jnL, nil_app] at hs
    subst hs
    rw [cutB_none (by rw [ByteArray.size_append]; omega) fun i h1 h2 => ?_, extR]
    · rfl
    · rw [ByteArray.size_append] at h2
      rw [show i = pre.size + (i - pre.size) by omega, btR (by omega)]
      exact ht _ (by omega)
  | l :: r, pre, s, hs, hf => by
    have e1 : s = pre ++ (l ++ (s10 ++ (jnL r ++ t))) := by rw [hs, jnL]; simp only [ByteArray.append_assoc]
    have e2 : s = (pre ++ (l ++ s10)) ++ (jnL r ++ t) := by rw [e1]; simp only [ByteArray.append_assoc]
    have hz : s.size = pre.size + (l.size + (1 + (jnL r ++ t).size)) := by rw [e1]; simp only [ByteArray.size_append, s10_size]
    have ih := cutB_jn ht r (pre ++ (l ++ s10)) s e2 fun x hx => hf x (List.mem_cons_of_mem _ hx)
    have hz2 : (pre ++ (l ++ s10)).size = pre.size + l.size + 1 := by simp only [ByteArray.size_append, s10_size]; omega
    rw [hz2] at ih
    rw [cutB_first (p := pre.size) (j := pre.size + l.size) (by omega) (by omega) (by rw [e1, btR (by simp only [ByteArray.size_append, s10_size]; omega), show l.size = l.size + 0 from rfl, btR (by simp only [ByteArray.size_append, s10_size]; omega), btL (by decide)]; rfl) (fun i h1 h2 => by
      rw [e1, show i = pre.size + (i - pre.size) by omega, btR (by simp only [ByteArray.size_append]; omega), btL (by omega)]
      exact hf l (List.mem_cons_self ..) _ (by omega)), ih]
    have e3 : s.extract pre.size (pre.size + l.size) = l := by rw [e1]; exact extM _ _ _
    rw [e3]
    rfl
theorem splL_jn {Ls : List ByteArray} {t : ByteArray} (hf : ∀ l ∈ Ls, freeB 10 l) (ht : freeB 10 t) : splL 10 (jnL Ls ++ t) = Ls ++ [t] := by
  have := cutB_jn ht Ls sNil (jnL Ls ++ t) (nil_app _).symm hf
  rwa [sNil_size, Nat.sub_zero] at this
theorem free_nil : freeB 10 sNil := fun i h => absurd h (by rw [sNil_size]; omega)
theorem exeT_jn {Ls : List ByteArray} {t : ByteArray} (hf : ∀ l ∈ Ls, freeB 10 l) (ht : freeB 10 t) (hz : (jnL Ls ++ t).size ≤ 600) : exeT (jnL Ls ++ t) = exeL Ls := by
  unfold exeT
  rw [if_pos hz, splL_jn hf ht, List.dropLast_concat]
theorem exeT_jn0 {Ls : List ByteArray} (hf : ∀ l ∈ Ls, freeB 10 l) (hz : (jnL Ls).size ≤ 600) : exeT (jnL Ls) = exeL Ls := by
  have := exeT_jn hf free_nil (by rwa [app_nil])
  rwa [app_nil] at this

/-- Each text is lines and what follows. -/
theorem first_or (c : Int) (s : ByteArray) : ∀ k, (∃ j, j < k ∧ bt s j = c ∧ ∀ i, i < j → ¬ bt s i = c) ∨ (∀ j, j < k → ¬ bt s j = c)
  | 0 => .inr fun j h => absurd h (by omega)
  | k + 1 => by
    rcases first_or c s k with ⟨j, h1, h2, h3⟩ | h
    · exact .inl ⟨j, by omega, h2, h3⟩
    · by_cases hk : bt s k = c
      · exact .inl ⟨k, by omega, hk, h⟩
      · refine .inr fun j hj => ?_
        rcases (by omega : j < k ∨ j = k) with h4 | rfl
        · exact h j h4
        · exact hk
theorem lines_of : ∀ (n : Nat) (s : ByteArray), s.size ≤ n → ∃ (Ls : List ByteArray) (t : ByteArray), s = jnL Ls ++ t ∧ (∀ l ∈ Ls, freeB 10 l) ∧ freeB 10 t
  | n, s, hn => by
    rcases first_or 10 s s.size with ⟨j, h1, h2, h3⟩ | h
    · cases n with
      | zero => omega
      | succ n =>
        obtain ⟨Ls, t, e, hf, ht⟩ := lines_of n (s.extract (j + 1) s.size) (by rw [size_ext (Nat.le_refl _)]; omega)
        refine ⟨s.extract 0 j :: Ls, t, ?_, fun l hl => ?_, ht⟩
        · rw [jnL, ByteArray.append_assoc, ← e]
          have z1 : (s.extract 0 j).size = j := by rw [size_ext (by omega)]; omega
          have z2 : (s.extract 0 j ++ s10).size = j + 1 := by rw [ByteArray.size_append, z1]; rfl
          have z3 : (s.extract (j + 1) s.size).size = s.size - (j + 1) := size_ext (Nat.le_refl _)
          apply bt_ext
          · rw [ByteArray.size_append, z2, z3]; omega
          · intro k hk
            rcases (by omega : k < j ∨ k = j ∨ j < k) with h4 | h4 | h4
            · rw [btL (by omega), btL (by omega), bt_extract (by omega) (by omega), Nat.zero_add]
            · rw [btL (by omega), show k = (s.extract 0 j).size + 0 by omega, btR (by decide), z1, Nat.add_zero, h2]; rfl
            · rw [show k = (s.extract 0 j ++ s10).size + (k - (j + 1)) by omega, btR (by omega), bt_extract (Nat.le_refl _) (by omega), z2]
        · rcases List.mem_cons.1 hl with rfl | hl
          · intro i hi
            rw [size_ext (by omega)] at hi
            rw [bt_extract (by omega) (by omega), Nat.zero_add]
            exact h3 i (by omega)
          · exact hf l hl
    · exact ⟨[], s, (nil_app _).symm, (fun l hl => by cases hl), h⟩

/-- Behind the last newline before a place. -/
def cmpB (s : ByteArray) : Nat → Nat
  | 0 => 0
  | i + 1 => if bt s i = 10 then i + 1 else cmpB s i
theorem cmpB_le (s : ByteArray) : ∀ n, cmpB s n ≤ n
  | 0 => Nat.le_refl _
  | n + 1 => by
    unfold cmpB
    have := cmpB_le s n
    split <;> omega
theorem cmpB_at {s : ByteArray} {k : Nat} : ∀ n, k ≤ n → (k = 0 ∨ bt s (k - 1) = 10) → (∀ i, k ≤ i → i < n → ¬ bt s i = 10) → cmpB s n = k
  | 0, h, _, _ => by show 0 = k; omega
  | n + 1, h, h1, h2 => by
    unfold cmpB
    by_cases hb : bt s n = 10
    · rw [if_pos hb]
      rcases (by omega : k = n + 1 ∨ k ≤ n) with h3 | h3
      · exact h3.symm
      · exact absurd hb (h2 n h3 (by omega))
    · rw [if_neg hb]
      rcases (by omega : k = n + 1 ∨ k ≤ n) with h3 | h3
      · subst h3
        rcases h1 with h1 | h1
        · omega
        · exact absurd h1 hb
      · exact cmpB_at n h3 h1 fun i h4 h5 => h2 i h4 (by omega)
theorem jn_last : ∀ Ls : List ByteArray, (jnL Ls).size = 0 ∨ bt (jnL Ls) ((jnL Ls).size - 1) = 10
  | [] => .inl rfl
  | l :: r => by
    refine .inr ?_
    have hz : (l ++ s10).size = l.size + 1 := by rw [ByteArray.size_append]; rfl
    have hz2 : (jnL (l :: r)).size = (l ++ s10).size + (jnL r).size := by rw [jnL, ByteArray.size_append]
    rw [jnL, ByteArray.size_append]
    rcases jn_last r with h | h
    · rw [btL (by omega), h, show (l ++ s10).size + 0 - 1 = l.size + 0 by omega, btR (by decide)]
      rfl
    · by_cases h0 : (jnL r).size = 0
      · rw [btL (by omega), h0, show (l ++ s10).size + 0 - 1 = l.size + 0 by omega, btR (by decide)]
        rfl
      · rw [show (l ++ s10).size + (jnL r).size - 1 = (l ++ s10).size + ((jnL r).size - 1) by omega, btR (by omega), h]
/-- The last newline of lines and what follows, before a place. -/
theorem cmp_jn (Ls : List ByteArray) (t : ByteArray) (n : Nat) (hn : n ≤ t.size) (ht : ∀ i, i < n → ¬ bt t i = 10) : cmpB (jnL Ls ++ t) ((jnL Ls).size + n) = (jnL Ls).size := by
  refine cmpB_at _ (by omega) ?_ fun i h1 h2 => ?_
  · rcases jn_last Ls with h | h
    · exact .inl h
    · by_cases h0 : (jnL Ls).size = 0
      · exact .inl h0
      · exact .inr (by rw [btL (by omega)]; exact h)
  · rw [show i = (jnL Ls).size + (i - (jnL Ls).size) by omega, btR (by omega)]
    exact ht _ (by omega)

/-- The complete lines of a script. -/
def cmpT (s : ByteArray) : ByteArray := s.extract 0 (cmpB s s.size)
theorem cmpT_sz (s : ByteArray) : (cmpT s).size ≤ s.size := by
  unfold cmpT
  rw [size_ext (cmpB_le s s.size)]
  have := cmpB_le s s.size
  omega
theorem cmpT_jn {Ls : List ByteArray} {t : ByteArray} (ht : freeB 10 t) : cmpT (jnL Ls ++ t) = jnL Ls := by
  unfold cmpT
  have := cmp_jn Ls t t.size (Nat.le_refl _) ht
  rw [← ByteArray.size_append] at this
  rw [this, extL]
theorem law_cut {s : ByteArray} (hs : s.size ≤ 600) : exeT (cmpT s) = exeT s := by
  obtain ⟨Ls, t, rfl, hf, ht⟩ := lines_of s.size s (Nat.le_refl _)
  have hz := cmpT_sz (jnL Ls ++ t)
  rw [cmpT_jn ht] at hz ⊢
  rw [exeT_jn0 hf (by omega), exeT_jn hf ht hs]

/-- The last line of an answer. -/
def lstN (s : ByteArray) : Nat := cmpB s (s.size - 1)
def lstT (s : ByteArray) : ByteArray := s.extract (lstN s) s.size
noncomputable def tailT (n : Nat) : ByteArray := tLines ++ strOfNums (decL (n : Int))
theorem exeL_eq (Ls : List ByteArray) : exeL Ls = jnL (Ls.map ansT) ++ (tailT Ls.length ++ s10) := by
  unfold exeL tailT
  rw [outL_jn]
theorem tail_free (n : Nat) : freeB 10 (tailT n) := fun i hi => by
  unfold tailT at hi ⊢
  rw [ByteArray.size_append] at hi
  by_cases h : i < tLines.size
  · rw [btL h]
    have h6 : tLines.size = 6 := rfl
    rcases (by omega : i = 0 ∨ i = 1 ∨ i = 2 ∨ i = 3 ∨ i = 4 ∨ i = 5) with rfl | rfl | rfl | rfl | rfl | rfl <;> decide
  · rw [show i = tLines.size + (i - tLines.size) by omega, btR (by omega)]
    have hk : i - tLines.size < (decL (n : Int)).length := by rw [← strOfNums_size]; omega
    rw [bt_strOf _ _ fun x hx => by have := decL_in _ x hx; omega]
    rw [List.getD_eq_getElem?_getD, List.getElem?_eq_getElem hk, Option.getD_some]
    have := decL_in _ _ (List.getElem_mem hk)
    omega
theorem lstN_exe (Ls : List ByteArray) : lstN (exeL Ls) = (jnL (Ls.map ansT)).size := by
  rw [exeL_eq]
  unfold lstN
  have hz : (tailT Ls.length ++ s10).size = (tailT Ls.length).size + 1 := by rw [ByteArray.size_append]; rfl
  rw [ByteArray.size_append, hz, show (jnL (Ls.map ansT)).size + ((tailT Ls.length).size + 1) - 1 = (jnL (Ls.map ansT)).size + (tailT Ls.length).size by omega]
  exact cmp_jn _ _ _ (by omega) fun i hi => by rw [btL hi]; exact tail_free _ i hi
theorem lstT_exe (Ls : List ByteArray) : lstT (exeL Ls) = tailT Ls.length ++ s10 := by
  unfold lstT
  rw [lstN_exe, exeL_eq, extR]
/-- The answer to all lines but the count. -/
def hdT (s : ByteArray) : ByteArray := s.extract 0 (s.size - (lstT s).size)
theorem hdT_exe (Ls : List ByteArray) : hdT (exeL Ls) = jnL (Ls.map ansT) := by
  unfold hdT
  rw [lstT_exe, exeL_eq, ByteArray.size_append, Nat.add_sub_cancel, extL]
theorem law_twice {s : ByteArray} (hs : 2 * s.size ≤ 600) :
    2 * (hdT (exeT (cmpT s))).size ≤ (exeT (cmpT s ++ cmpT s)).size ∧ (exeT (cmpT s ++ cmpT s)).extract 0 (2 * (hdT (exeT (cmpT s))).size) = hdT (exeT (cmpT s)) ++ hdT (exeT (cmpT s)) ∧
    (exeT (cmpT s ++ cmpT s)).size - (lstT (exeT (cmpT s ++ cmpT s))).size = 2 * (hdT (exeT (cmpT s))).size := by
  obtain ⟨Ls, t, rfl, hf, ht⟩ := lines_of s.size s (Nat.le_refl _)
  have hz := cmpT_sz (jnL Ls ++ t)
  rw [cmpT_jn ht] at hz ⊢
  have hz2 : (jnL (Ls ++ Ls)).size ≤ 600 := by rw [jnL_app, ByteArray.size_append]; omega
  have hf2 : ∀ l ∈ Ls ++ Ls, freeB 10 l := fun l hl => by
    rcases List.mem_append.1 hl with h | h <;> exact hf l h
  rw [← jnL_app, exeT_jn0 hf (by omega), exeT_jn0 hf2 hz2, hdT_exe, lstT_exe, exeL_eq, List.map_append, jnL_app]
  have e : (jnL (Ls.map ansT) ++ jnL (Ls.map ansT)).size = 2 * (jnL (Ls.map ansT)).size := by rw [ByteArray.size_append]; omega
  refine ⟨?_, ?_, ?_⟩
  · rw [ByteArray.size_append]; omega
  · rw [← e, extL]
  · rw [ByteArray.size_append]; omega
theorem exe_nil : exeT sNil = ⟨#[108, 105, 110, 101, 115, 32, 48, 10]⟩ := by
  have h : exeT (jnL []) = exeL [] := exeT_jn0 (fun l hl => by cases hl) (by decide)
  rw [show sNil = jnL [] from rfl, h, exeL_eq]
  unfold tailT
  decide
theorem exe_sz (s : ByteArray) : (exeT s).size ≤ 1000000 := by
  unfold exeT
  split
  · rename_i h
    unfold exeL
    have h1 := outL_sz (splL 10 s).dropLast
    have h2 := splL_few 10 s
    have h3 := (decL_len (((splL 10 s).dropLast).length : Int)).2
    have h6 : tLines.size = 6 := rfl
    have h7 : (splL 10 s).dropLast.length ≤ (splL 10 s).length := by rw [List.length_dropLast]; omega
    simp only [ByteArray.size_append, strOfNums_size, s10_size, h6]
    omega
  · decide
theorem exe_pos (s : ByteArray) : 0 < (exeT s).size := by
  unfold exeT
  split
  · unfold exeL
    have h6 : tLines.size = 6 := rfl
    simp only [ByteArray.size_append, h6]
    omega
  · decide

end D
end Go.Proofs.YtboglbdhibcacaaGreatDoor

namespace Go.Proofs.YtboglbdhibcacaaGreatDoor
set_option linter.unusedVariables false
set_option linter.unusedSimpArgs false
set_option maxRecDepth 100000
set_option maxHeartbeats 4000000
namespace D
open Go.RowKit
open Go.PlainAid (bt bt_nonneg bt_le bt_end)

theorem free_of {s : ByteArray} (h : decide (∀ i, i < s.size → ¬ bt s i = 10) = true) : freeB 10 s := fun i hi => (of_decide_eq_true h : ∀ i, i < s.size → ¬ bt s i = 10) i hi
theorem free_cons {l : ByteArray} {r : List ByteArray} (h : freeB 10 l) (h2 : ∀ x ∈ r, freeB 10 x) : ∀ x ∈ l :: r, freeB 10 x := fun x hx => by
  rcases List.mem_cons.1 hx with rfl | hx
  · exact h
  · exact h2 x hx
theorem free_none : ∀ x ∈ ([] : List ByteArray), freeB 10 x := fun x hx => by cases hx
theorem dateOf_at {n y m d : Int} (h : dval y m d = true) (hn : n = num y m d) : dateOf n = ⟨y, m, d, true⟩ := by rw [hn]; exact dateOf_num h
theorem dateR_0 {s : ByteArray} (h : okS s 0 = true) : dateR s = some (dS s 0) := if_pos h
theorem dateR_1 {s : ByteArray} (h0 : okS s 0 = false) (h1 : okS s 1 = false) (h2 : okS s 2 = false) (h3 : okS s 3 = true) : dateR s = some (dS s 3) := by
  unfold dateR
  simp [h0, h1, h2, h3]
theorem dateR_4 {s : ByteArray} (h0 : okS s 0 = false) (h1 : okS s 1 = false) (h2 : okS s 2 = false) (h3 : okS s 3 = false) (h4 : okS s 4 = true) : dateR s = some (dS s 4) := by
  unfold dateR
  simp [h0, h1, h2, h3, h4]
theorem dateR_none {s : ByteArray} (h0 : okS s 0 = false) (h1 : okS s 1 = false) (h2 : okS s 2 = false) (h3 : okS s 3 = false) (h4 : okS s 4 = false) (h5 : okS s 5 = false) : dateR s = none := by
  unfold dateR
  simp [h0, h1, h2, h3, h4, h5]
/-- A date of a week, as bytes. -/
theorem dtL_wk {y m d : Int} (h : Bool) {yy n : Int} (e : wyr (num y m d) = yy) (en : (thu (num y m d) - ny yy) / 7 + 1 = n) : dtL y m d 1 h = digL yy 4 ++ hy1 h ++ (87 :: digL n 2) ++ hy1 h ++ digL (num y m d % 7 + 1) 1 := by
  have e2 : wno (num y m d) = n := by unfold wno; rw [e]; exact en
  unfold dtL
  rw [if_neg (by decide), if_pos rfl, e, e2]
theorem wk1 (h : Bool) : dtL 2021 1 3 1 h = digL 2020 4 ++ hy1 h ++ (87 :: digL 53 2) ++ hy1 h ++ digL (num 2021 1 3 % 7 + 1) 1 :=
  dtL_wk h (by unfold wyr; rw [dateOf_at (y := 2020) (m := 12) (d := 31) (by kernel_rfl) (by kernel_rfl)]) (by kernel_rfl)
theorem wk2 (h : Bool) : dtL 2021 9 11 1 h = digL 2021 4 ++ hy1 h ++ (87 :: digL 36 2) ++ hy1 h ++ digL (num 2021 9 11 % 7 + 1) 1 :=
  dtL_wk h (by unfold wyr; rw [dateOf_at (y := 2021) (m := 9) (d := 9) (by kernel_rfl) (by kernel_rfl)]) (by kernel_rfl)
theorem dt3_a : dt3 2021 1 3 = ⟨#[50, 48, 50, 49, 45, 48, 49, 45, 48, 51, 32, 50, 48, 50, 48, 45, 87, 53, 51, 45, 55, 32, 50, 48, 50, 49, 45, 48, 48, 51]⟩ := by
  unfold dt3
  rw [wk1]
  kernel_rfl
theorem wkD_at {y w d a b c : Int} (h : inR w 1 (wks y) = true ∧ inR d 1 7 = true) (h2 : dval a b c = true) (h3 : fmon y + 7 * (w - 1) + d - 1 = num a b c) : wkD y w d = ⟨a, b, c, true⟩ := by
  unfold wkD
  rw [if_pos h, dateOf_at h2 h3]
theorem orD_at {y k a b c : Int} (h : inR y 1 9999 = true ∧ inR k 1 (ny (y + 1) - ny y) = true) (h2 : dval a b c = true) (h3 : ny y + k - 1 = num a b c) : orD y k = ⟨a, b, c, true⟩ := by
  unfold orD
  rw [if_pos h, dateOf_at h2 h3]
theorem dS3_at {s : ByteArray} {r : DR} (h : (allD s 0 4 && allD s 5 2 && allD s 7 1) = true) (h2 : wkD (numV s 0 4) (numV s 5 2) (numV s 7 1) = r) : dS s 3 = r := by
  show l4K s 5 7 = r
  unfold l4K
  rw [if_pos h, h2]
theorem dS4_at {s : ByteArray} {r : DR} (h : (allD s 0 4 && allD s 5 3) = true) (h2 : orD (numV s 0 4) (numV s 5 3) = r) : dS s 4 = r := by
  show l4O s 5 = r
  unfold l4O
  rw [if_pos h, h2]
theorem okS_at {s : ByteArray} {k : Nat} {r : DR} {c : Bool} (h : dS s k = r) (h2 : (r.ok && dval r.y r.m r.d && decide (strOfNums (dtL r.y r.m r.d (k / 2 : Nat) (decide (k % 2 = 0))) = s)) = c) : okS s k = c := by
  unfold okS
  rw [h]
  exact h2
theorem dateW_yes {s : ByteArray} {r : DR} (h : dateR s = some r) : dateW s = (dt3 r.y r.m r.d, true) := by unfold dateW; rw [h]
theorem dateW_no {s : ByteArray} (h : dateR s = none) : dateW s = (sNil, false) := by unfold dateW; rw [h]
theorem ans_date {l w : ByteArray} (h : splL 32 l = [kDate, w]) : ansT l = tellW (dateW w) := by
  unfold ansT
  rw [h]
  exact if_pos ⟨rfl, rfl⟩
theorem ans_span {l w : ByteArray} (h : splL 32 l = [kSpan, w]) : ansT l = tellW (spanW w) := by
  unfold ansT
  rw [h]
  unfold ansW
  rw [if_neg (fun e => absurd e.1 (by show ¬ kSpan = kDate; decide)), if_neg (fun e => absurd e.1 (by show ¬ kSpan = kTidy; decide)), if_neg (fun e => absurd e.1 (by show ¬ kSpan = kEast; decide))]
  exact if_pos ⟨rfl, rfl⟩
theorem ans_plus {l w v : ByteArray} (h : splL 32 l = [kPlus, w, v]) : ansT l = tellW (plusW w v false) := by
  unfold ansT
  rw [h]
  unfold ansW
  rw [if_neg (fun e => absurd e.2 (by show ¬ 3 = 2; omega)), if_neg (fun e => absurd e.2 (by show ¬ 3 = 2; omega)), if_neg (fun e => absurd e.2 (by show ¬ 3 = 2; omega)), if_neg (fun e => absurd e.2 (by show ¬ 3 = 2; omega))]
  exact if_pos ⟨rfl, rfl⟩
theorem ans_minu {l w v : ByteArray} (h : splL 32 l = [kMinu, w, v]) : ansT l = tellW (plusW w v true) := by
  unfold ansT
  rw [h]
  unfold ansW
  rw [if_neg (fun e => absurd e.2 (by show ¬ 3 = 2; omega)), if_neg (fun e => absurd e.2 (by show ¬ 3 = 2; omega)), if_neg (fun e => absurd e.2 (by show ¬ 3 = 2; omega)), if_neg (fun e => absurd e.2 (by show ¬ 3 = 2; omega)), if_neg (fun e => absurd e.1 (by show ¬ kMinu = kPlus; decide))]
  exact if_pos ⟨rfl, rfl⟩
theorem ans_betw {l w v : ByteArray} (h : splL 32 l = [kBetw, w, v]) : ansT l = tellW (betwW w v) := by
  unfold ansT
  rw [h]
  unfold ansW
  rw [if_neg (fun e => absurd e.2 (by show ¬ 3 = 2; omega)), if_neg (fun e => absurd e.2 (by show ¬ 3 = 2; omega)), if_neg (fun e => absurd e.2 (by show ¬ 3 = 2; omega)), if_neg (fun e => absurd e.2 (by show ¬ 3 = 2; omega)), if_neg (fun e => absurd e.1 (by show ¬ kBetw = kPlus; decide)), if_neg (fun e => absurd e.1 (by show ¬ kBetw = kMinu; decide))]
  exact if_pos ⟨rfl, rfl⟩
/-- A stamp plus a period. -/
theorem splus_val {y m d h i s k o a x c d' f g y1 m1 d1 y2 m2 d2 y3 m3 d3 : Int} {back : Bool} (h1 : sval y m d h i s k o = true) (h2 : perV a x c d' f g = true) (h3 : mplus y m d (sgn back * (12 * a + x)) = ⟨y1, m1, d1, true⟩) (h4 : dval y1 m1 d1 = true ∧ inR (sgn back * c) (-3652058) 3652058 = true)
    (h5 : dval y2 m2 d2 = true) (h6 : num y1 m1 d1 + sgn back * c = num y2 m2 d2) {n : Int} (h7 : inst y2 m2 d2 h i s k o + sgn back * (1000 * ((d' * 60 + f) * 60 + g)) = n) (h8 : inR n (-86400000) 315537984000000 = true ∧ inR o (-1439) 1439 = true ∧ 0 ≤ n + 60000 * o)
    (h9 : dval y3 m3 d3 = true) (h10 : (n + 60000 * o) / 86400000 = num y3 m3 d3) :
    splus y m d h i s k o a x c d' f g back = ⟨y3, m3, d3, (n + 60000 * o) % 86400000 / 3600000, (n + 60000 * o) % 86400000 / 60000 % 60, (n + 60000 * o) % 86400000 / 1000 % 60, (n + 60000 * o) % 86400000 % 1000, o, true⟩ := by
  have hd : dshift y m d (sgn back * (12 * a + x)) (sgn back * c) = ⟨y2, m2, d2, true⟩ := by
    unfold dshift
    rw [h3, if_pos rfl]
    unfold dayp
    rw [if_pos h4, dateOf_at h5 h6]
  unfold splus
  rw [hd, if_pos ⟨h1, h2, rfl⟩]
  dsimp only
  rw [h7]
  unfold stampAt
  rw [if_pos h8]
  unfold stampL
  rw [dateOf_at h9 h10, if_pos rfl]
theorem plusW_val {s t : ByteArray} {back : Bool} {S R : SR} {p : P6} (h1 : stampR s = S) (h2 : S.ok = true) (h3 : perR t = some p) (h4 : plusO S (some p) back = R) (h5 : R.ok = true) : tellW (plusW s t back) = txS R := by
  unfold plusW
  rw [h1, if_pos h2, h3]
  dsimp only
  rw [h4, if_pos h5]
  rfl
theorem betwW_val {s t : ByteArray} {a b : DR} (h1 : dateR s = some a) (h2 : dateR t = some b) : betwW s t = (perX (perY a.y a.m a.d b.y b.m b.d), bOk a.y a.m a.d b.y b.m b.d) := by
  unfold betwW
  rw [h1, h2]

abbrev l_date0 : ByteArray := ⟨#[100, 97, 116, 101, 32, 50, 48, 50, 49, 45, 48, 49, 45, 48, 51]⟩
abbrev a_date0 : ByteArray := ⟨#[50, 48, 50, 49, 45, 48, 49, 45, 48, 51, 32, 50, 48, 50, 48, 45, 87, 53, 51, 45, 55, 32, 50, 48, 50, 49, 45, 48, 48, 51]⟩

theorem v_date0 : ansT l_date0 = a_date0 := (ans_date (w := ⟨#[50, 48, 50, 49, 45, 48, 49, 45, 48, 51]⟩) (by kernel_rfl)).trans (by rw [dateW_yes (dateR_0 (s := (⟨#[50, 48, 50, 49, 45, 48, 49, 45, 48, 51]⟩ : ByteArray)) (by kernel_rfl))]; exact dt3_a)

abbrev l_date1 : ByteArray := ⟨#[100, 97, 116, 101, 32, 50, 48, 50, 48, 87, 53, 51, 55]⟩
abbrev a_date1 : ByteArray := ⟨#[50, 48, 50, 49, 45, 48, 49, 45, 48, 51, 32, 50, 48, 50, 48, 45, 87, 53, 51, 45, 55, 32, 50, 48, 50, 49, 45, 48, 48, 51]⟩

theorem r_date1 : dS (⟨#[50, 48, 50, 48, 87, 53, 51, 55]⟩ : ByteArray) 3 = ⟨2021, 1, 3, true⟩ := dS3_at (by kernel_rfl) (wkD_at ⟨by kernel_rfl, by kernel_rfl⟩ (by kernel_rfl) (by kernel_rfl))

theorem v_date1 : ansT l_date1 = a_date1 := (ans_date (w := ⟨#[50, 48, 50, 48, 87, 53, 51, 55]⟩) (by kernel_rfl)).trans (by rw [dateW_yes (dateR_1 (s := (⟨#[50, 48, 50, 48, 87, 53, 51, 55]⟩ : ByteArray)) (by kernel_rfl) (by kernel_rfl) (by kernel_rfl) (okS_at r_date1 (by dsimp only; rw [show (((3 / 2 : Nat) : Int)) = 1 from rfl, wk1]; kernel_rfl))), r_date1]; exact dt3_a)

abbrev l_date2 : ByteArray := ⟨#[100, 97, 116, 101, 32, 50, 48, 50, 49, 45, 48, 48, 51]⟩
abbrev a_date2 : ByteArray := ⟨#[50, 48, 50, 49, 45, 48, 49, 45, 48, 51, 32, 50, 48, 50, 48, 45, 87, 53, 51, 45, 55, 32, 50, 48, 50, 49, 45, 48, 48, 51]⟩

theorem r_date2 : dS (⟨#[50, 48, 50, 49, 45, 48, 48, 51]⟩ : ByteArray) 4 = ⟨2021, 1, 3, true⟩ := dS4_at (by kernel_rfl) (orD_at ⟨by kernel_rfl, by kernel_rfl⟩ (by kernel_rfl) (by kernel_rfl))

theorem v_date2 : ansT l_date2 = a_date2 := (ans_date (w := ⟨#[50, 48, 50, 49, 45, 48, 48, 51]⟩) (by kernel_rfl)).trans (by rw [dateW_yes (dateR_4 (s := (⟨#[50, 48, 50, 49, 45, 48, 48, 51]⟩ : ByteArray)) (by kernel_rfl) (by kernel_rfl) (by kernel_rfl) (by kernel_rfl) (okS_at r_date2 (by kernel_rfl))), r_date2]; exact dt3_a)

abbrev l_date3 : ByteArray := ⟨#[100, 97, 116, 101, 32, 50, 48, 50, 49, 45, 51, 54, 54]⟩
abbrev a_date3 : ByteArray := ⟨#[110, 111]⟩

theorem r_date3 : dS (⟨#[50, 48, 50, 49, 45, 51, 54, 54]⟩ : ByteArray) 3 = ⟨2021, 9, 11, true⟩ := dS3_at (by kernel_rfl) (wkD_at ⟨by kernel_rfl, by kernel_rfl⟩ (by kernel_rfl) (by kernel_rfl))

theorem v_date3 : ansT l_date3 = a_date3 := (ans_date (w := ⟨#[50, 48, 50, 49, 45, 51, 54, 54]⟩) (by kernel_rfl)).trans (by rw [dateW_no (dateR_none (s := (⟨#[50, 48, 50, 49, 45, 51, 54, 54]⟩ : ByteArray)) (by kernel_rfl) (by kernel_rfl) (by kernel_rfl) (okS_at r_date3 (by dsimp only; rw [show (((3 / 2 : Nat) : Int)) = 1 from rfl, wk2]; kernel_rfl)) (by kernel_rfl) (by kernel_rfl))]; rfl)

theorem e_date : exeT ⟨#[100, 97, 116, 101, 32, 50, 48, 50, 49, 45, 48, 49, 45, 48, 51, 10, 100, 97, 116, 101, 32, 50, 48, 50, 48, 87, 53, 51, 55, 10, 100, 97, 116, 101, 32, 50, 48, 50, 49, 45, 48, 48, 51, 10, 100, 97, 116, 101, 32, 50, 48, 50, 49, 45, 51, 54, 54, 10]⟩ = ⟨#[50, 48, 50, 49, 45, 48, 49, 45, 48, 51, 32, 50, 48, 50, 48, 45, 87, 53, 51, 45, 55, 32, 50, 48, 50, 49, 45, 48, 48, 51, 10, 50, 48, 50, 49, 45, 48, 49, 45, 48, 51, 32, 50, 48, 50, 48, 45, 87, 53, 51, 45, 55, 32, 50, 48, 50, 49, 45, 48, 48, 51, 10, 50, 48, 50, 49, 45, 48, 49, 45, 48, 51, 32, 50, 48, 50, 48, 45, 87, 53, 51, 45, 55, 32, 50, 48, 50, 49, 45, 48, 48, 51, 10, 110, 111, 10, 108, 105, 110, 101, 115, 32, 52, 10]⟩ := by
  have h : exeT (jnL [l_date0, l_date1, l_date2, l_date3]) = exeL [l_date0, l_date1, l_date2, l_date3] := exeT_jn0 (free_cons (free_of (by kernel_rfl)) (free_cons (free_of (by kernel_rfl)) (free_cons (free_of (by kernel_rfl)) (free_cons (free_of (by kernel_rfl)) free_none)))) (of_decide_eq_true (by kernel_rfl))
  have e : (⟨#[100, 97, 116, 101, 32, 50, 48, 50, 49, 45, 48, 49, 45, 48, 51, 10, 100, 97, 116, 101, 32, 50, 48, 50, 48, 87, 53, 51, 55, 10, 100, 97, 116, 101, 32, 50, 48, 50, 49, 45, 48, 48, 51, 10, 100, 97, 116, 101, 32, 50, 48, 50, 49, 45, 51, 54, 54, 10]⟩ : ByteArray) = jnL [l_date0, l_date1, l_date2, l_date3] := by kernel_rfl
  have h2 : jnL (([l_date0, l_date1, l_date2, l_date3] : List ByteArray).map ansT) = jnL [a_date0, a_date1, a_date2, a_date3] := by
    simp only [List.map_cons, List.map_nil, v_date0, v_date1, v_date2, v_date3]
  exact (congrArg exeT e).trans (h.trans ((exeL_eq _).trans ((congrArg (· ++ (tailT 4 ++ s10)) h2).trans (by kernel_rfl))))

abbrev l_tidy0 : ByteArray := ⟨#[116, 105, 100, 121, 32, 50, 48, 50, 48, 45, 48, 50, 45, 50, 57, 116, 49, 50, 58, 48, 48, 58, 48, 48, 46, 53, 48, 48, 122]⟩
abbrev a_tidy0 : ByteArray := ⟨#[50, 48, 50, 48, 45, 48, 50, 45, 50, 57, 84, 49, 50, 58, 48, 48, 58, 48, 48, 46, 53, 90]⟩

theorem v_tidy0 : ansT l_tidy0 = a_tidy0 := by kernel_rfl

abbrev l_tidy1 : ByteArray := ⟨#[116, 105, 100, 121, 32, 50, 48, 50, 48, 45, 48, 50, 45, 50, 57, 84, 49, 50, 58, 48, 48, 58, 48, 48, 43, 48, 48, 58, 48, 48]⟩
abbrev a_tidy1 : ByteArray := ⟨#[50, 48, 50, 48, 45, 48, 50, 45, 50, 57, 84, 49, 50, 58, 48, 48, 58, 48, 48, 90]⟩

theorem v_tidy1 : ansT l_tidy1 = a_tidy1 := by kernel_rfl

abbrev l_tidy2 : ByteArray := ⟨#[116, 105, 100, 121, 32, 50, 48, 50, 49, 45, 48, 50, 45, 50, 57, 84, 49, 50, 58, 48, 48, 58, 48, 48, 90]⟩
abbrev a_tidy2 : ByteArray := ⟨#[110, 111]⟩

theorem v_tidy2 : ansT l_tidy2 = a_tidy2 := by kernel_rfl

theorem e_tidy : exeT ⟨#[116, 105, 100, 121, 32, 50, 48, 50, 48, 45, 48, 50, 45, 50, 57, 116, 49, 50, 58, 48, 48, 58, 48, 48, 46, 53, 48, 48, 122, 10, 116, 105, 100, 121, 32, 50, 48, 50, 48, 45, 48, 50, 45, 50, 57, 84, 49, 50, 58, 48, 48, 58, 48, 48, 43, 48, 48, 58, 48, 48, 10, 116, 105, 100, 121, 32, 50, 48, 50, 49, 45, 48, 50, 45, 50, 57, 84, 49, 50, 58, 48, 48, 58, 48, 48, 90, 10]⟩ = ⟨#[50, 48, 50, 48, 45, 48, 50, 45, 50, 57, 84, 49, 50, 58, 48, 48, 58, 48, 48, 46, 53, 90, 10, 50, 48, 50, 48, 45, 48, 50, 45, 50, 57, 84, 49, 50, 58, 48, 48, 58, 48, 48, 90, 10, 110, 111, 10, 108, 105, 110, 101, 115, 32, 51, 10]⟩ := by
  have h : exeT (jnL [l_tidy0, l_tidy1, l_tidy2]) = exeL [l_tidy0, l_tidy1, l_tidy2] := exeT_jn0 (free_cons (free_of (by kernel_rfl)) (free_cons (free_of (by kernel_rfl)) (free_cons (free_of (by kernel_rfl)) free_none))) (of_decide_eq_true (by kernel_rfl))
  have e : (⟨#[116, 105, 100, 121, 32, 50, 48, 50, 48, 45, 48, 50, 45, 50, 57, 116, 49, 50, 58, 48, 48, 58, 48, 48, 46, 53, 48, 48, 122, 10, 116, 105, 100, 121, 32, 50, 48, 50, 48, 45, 48, 50, 45, 50, 57, 84, 49, 50, 58, 48, 48, 58, 48, 48, 43, 48, 48, 58, 48, 48, 10, 116, 105, 100, 121, 32, 50, 48, 50, 49, 45, 48, 50, 45, 50, 57, 84, 49, 50, 58, 48, 48, 58, 48, 48, 90, 10]⟩ : ByteArray) = jnL [l_tidy0, l_tidy1, l_tidy2] := by kernel_rfl
  have h2 : jnL (([l_tidy0, l_tidy1, l_tidy2] : List ByteArray).map ansT) = jnL [a_tidy0, a_tidy1, a_tidy2] := by
    simp only [List.map_cons, List.map_nil, v_tidy0, v_tidy1, v_tidy2]
  exact (congrArg exeT e).trans (h.trans ((exeL_eq _).trans ((congrArg (· ++ (tailT 3 ++ s10)) h2).trans (by kernel_rfl))))

abbrev l_plus0 : ByteArray := ⟨#[112, 108, 117, 115, 32, 50, 48, 50, 48, 45, 48, 49, 45, 51, 49, 84, 50, 50, 58, 48, 48, 58, 48, 48, 90, 32, 80, 49, 77, 84, 51, 72]⟩
abbrev a_plus0 : ByteArray := ⟨#[50, 48, 50, 48, 45, 48, 51, 45, 48, 49, 84, 48, 49, 58, 48, 48, 58, 48, 48, 90]⟩

theorem r_plus0 : plusO ⟨2020, 1, 31, 22, 0, 0, 0, 0, true⟩ (some ⟨0, 1, 0, 3, 0, 0⟩) false = ⟨2020, 3, 1, 1, 0, 0, 0, 0, true⟩ := (splus_val (back := false) (y1 := 2020) (m1 := 2) (d1 := 29) (y2 := 2020) (m2 := 2) (d2 := 29) (y3 := 2020) (m3 := 3) (d3 := 1) (by kernel_rfl) (by kernel_rfl) (by kernel_rfl) ⟨by kernel_rfl, by kernel_rfl⟩ (by kernel_rfl) (by kernel_rfl) rfl ⟨by kernel_rfl, by kernel_rfl, of_decide_eq_true (by kernel_rfl)⟩ (by kernel_rfl) (by kernel_rfl)).trans (by kernel_rfl)

theorem v_plus0 : ansT l_plus0 = a_plus0 := (ans_plus (w := ⟨#[50, 48, 50, 48, 45, 48, 49, 45, 51, 49, 84, 50, 50, 58, 48, 48, 58, 48, 48, 90]⟩) (v := ⟨#[80, 49, 77, 84, 51, 72]⟩) (by kernel_rfl)).trans ((plusW_val (s := ⟨#[50, 48, 50, 48, 45, 48, 49, 45, 51, 49, 84, 50, 50, 58, 48, 48, 58, 48, 48, 90]⟩) (t := ⟨#[80, 49, 77, 84, 51, 72]⟩) (S := ⟨2020, 1, 31, 22, 0, 0, 0, 0, true⟩) (p := ⟨0, 1, 0, 3, 0, 0⟩) (R := ⟨2020, 3, 1, 1, 0, 0, 0, 0, true⟩) (by kernel_rfl) rfl (by kernel_rfl) r_plus0 rfl).trans (by kernel_rfl))

abbrev l_plus1 : ByteArray := ⟨#[109, 105, 110, 117, 115, 32, 50, 48, 50, 48, 45, 48, 51, 45, 51, 49, 84, 48, 49, 58, 48, 48, 58, 48, 48, 43, 48, 49, 58, 48, 48, 32, 80, 49, 77, 84, 50, 72]⟩
abbrev a_plus1 : ByteArray := ⟨#[50, 48, 50, 48, 45, 48, 50, 45, 50, 56, 84, 50, 51, 58, 48, 48, 58, 48, 48, 43, 48, 49, 58, 48, 48]⟩

theorem r_plus1 : plusO ⟨2020, 3, 31, 1, 0, 0, 0, 60, true⟩ (some ⟨0, 1, 0, 2, 0, 0⟩) true = ⟨2020, 2, 28, 23, 0, 0, 0, 60, true⟩ := (splus_val (back := true) (y1 := 2020) (m1 := 2) (d1 := 29) (y2 := 2020) (m2 := 2) (d2 := 29) (y3 := 2020) (m3 := 2) (d3 := 28) (by kernel_rfl) (by kernel_rfl) (by kernel_rfl) ⟨by kernel_rfl, by kernel_rfl⟩ (by kernel_rfl) (by kernel_rfl) rfl ⟨by kernel_rfl, by kernel_rfl, of_decide_eq_true (by kernel_rfl)⟩ (by kernel_rfl) (by kernel_rfl)).trans (by kernel_rfl)

theorem v_plus1 : ansT l_plus1 = a_plus1 := (ans_minu (w := ⟨#[50, 48, 50, 48, 45, 48, 51, 45, 51, 49, 84, 48, 49, 58, 48, 48, 58, 48, 48, 43, 48, 49, 58, 48, 48]⟩) (v := ⟨#[80, 49, 77, 84, 50, 72]⟩) (by kernel_rfl)).trans ((plusW_val (s := ⟨#[50, 48, 50, 48, 45, 48, 51, 45, 51, 49, 84, 48, 49, 58, 48, 48, 58, 48, 48, 43, 48, 49, 58, 48, 48]⟩) (t := ⟨#[80, 49, 77, 84, 50, 72]⟩) (S := ⟨2020, 3, 31, 1, 0, 0, 0, 60, true⟩) (p := ⟨0, 1, 0, 2, 0, 0⟩) (R := ⟨2020, 2, 28, 23, 0, 0, 0, 60, true⟩) (by kernel_rfl) rfl (by kernel_rfl) r_plus1 rfl).trans (by kernel_rfl))

abbrev l_plus2 : ByteArray := ⟨#[115, 112, 97, 110, 32, 50, 48, 50, 48, 45, 48, 49, 45, 48, 49, 84, 48, 48, 58, 48, 48, 58, 48, 48, 90, 47, 80, 49, 87]⟩
abbrev a_plus2 : ByteArray := ⟨#[50, 48, 50, 48, 45, 48, 49, 45, 48, 49, 84, 48, 48, 58, 48, 48, 58, 48, 48, 90, 32, 50, 48, 50, 48, 45, 48, 49, 45, 48, 56, 84, 48, 48, 58, 48, 48, 58, 48, 48, 90]⟩

theorem r_plus2 : plusO ⟨2020, 1, 1, 0, 0, 0, 0, 0, true⟩ (some ⟨0, 0, 7, 0, 0, 0⟩) false = ⟨2020, 1, 8, 0, 0, 0, 0, 0, true⟩ := (splus_val (back := false) (y1 := 2020) (m1 := 1) (d1 := 1) (y2 := 2020) (m2 := 1) (d2 := 8) (y3 := 2020) (m3 := 1) (d3 := 8) (by kernel_rfl) (by kernel_rfl) (by kernel_rfl) ⟨by kernel_rfl, by kernel_rfl⟩ (by kernel_rfl) (by kernel_rfl) rfl ⟨by kernel_rfl, by kernel_rfl, of_decide_eq_true (by kernel_rfl)⟩ (by kernel_rfl) (by kernel_rfl)).trans (by kernel_rfl)

theorem q_plus2 : spanR (⟨#[50, 48, 50, 48, 45, 48, 49, 45, 48, 49, 84, 48, 48, 58, 48, 48, 58, 48, 48, 90, 47, 80, 49, 87]⟩ : ByteArray) = .tuple #[sa ⟨2020, 1, 1, 0, 0, 0, 0, 0, true⟩, sa ⟨2020, 1, 8, 0, 0, 0, 0, 0, true⟩, .bool true] := by
  rw [spanR_yes (j := 20) ⟨of_decide_eq_true (by kernel_rfl), (by kernel_rfl), of_decide_eq_true (by kernel_rfl)⟩]
  unfold spanAt
  rw [show stampR ((⟨#[50, 48, 50, 48, 45, 48, 49, 45, 48, 49, 84, 48, 48, 58, 48, 48, 58, 48, 48, 90, 47, 80, 49, 87]⟩ : ByteArray).extract 0 20) = ⟨2020, 1, 1, 0, 0, 0, 0, 0, true⟩ by kernel_rfl, show stampR ((⟨#[50, 48, 50, 48, 45, 48, 49, 45, 48, 49, 84, 48, 48, 58, 48, 48, 58, 48, 48, 90, 47, 80, 49, 87]⟩ : ByteArray).extract (20 + 1) (⟨#[50, 48, 50, 48, 45, 48, 49, 45, 48, 49, 84, 48, 48, 58, 48, 48, 58, 48, 48, 90, 47, 80, 49, 87]⟩ : ByteArray).size) = SR.no by kernel_rfl, show perR ((⟨#[50, 48, 50, 48, 45, 48, 49, 45, 48, 49, 84, 48, 48, 58, 48, 48, 58, 48, 48, 90, 47, 80, 49, 87]⟩ : ByteArray).extract (20 + 1) (⟨#[50, 48, 50, 48, 45, 48, 49, 45, 48, 49, 84, 48, 48, 58, 48, 48, 58, 48, 48, 90, 47, 80, 49, 87]⟩ : ByteArray).size) = some ⟨0, 0, 7, 0, 0, 0⟩ by kernel_rfl]
  unfold spA spB
  rw [if_pos rfl, if_neg (by decide), if_pos rfl, r_plus2]
  exact if_pos ⟨rfl, rfl, of_decide_eq_true (by kernel_rfl)⟩

theorem v_plus2 : ansT l_plus2 = a_plus2 := (ans_span (w := ⟨#[50, 48, 50, 48, 45, 48, 49, 45, 48, 49, 84, 48, 48, 58, 48, 48, 58, 48, 48, 90, 47, 80, 49, 87]⟩) (by kernel_rfl)).trans (by rw [spanW_yes q_plus2]; kernel_rfl)

theorem e_plus : exeT ⟨#[112, 108, 117, 115, 32, 50, 48, 50, 48, 45, 48, 49, 45, 51, 49, 84, 50, 50, 58, 48, 48, 58, 48, 48, 90, 32, 80, 49, 77, 84, 51, 72, 10, 109, 105, 110, 117, 115, 32, 50, 48, 50, 48, 45, 48, 51, 45, 51, 49, 84, 48, 49, 58, 48, 48, 58, 48, 48, 43, 48, 49, 58, 48, 48, 32, 80, 49, 77, 84, 50, 72, 10, 115, 112, 97, 110, 32, 50, 48, 50, 48, 45, 48, 49, 45, 48, 49, 84, 48, 48, 58, 48, 48, 58, 48, 48, 90, 47, 80, 49, 87, 10]⟩ = ⟨#[50, 48, 50, 48, 45, 48, 51, 45, 48, 49, 84, 48, 49, 58, 48, 48, 58, 48, 48, 90, 10, 50, 48, 50, 48, 45, 48, 50, 45, 50, 56, 84, 50, 51, 58, 48, 48, 58, 48, 48, 43, 48, 49, 58, 48, 48, 10, 50, 48, 50, 48, 45, 48, 49, 45, 48, 49, 84, 48, 48, 58, 48, 48, 58, 48, 48, 90, 32, 50, 48, 50, 48, 45, 48, 49, 45, 48, 56, 84, 48, 48, 58, 48, 48, 58, 48, 48, 90, 10, 108, 105, 110, 101, 115, 32, 51, 10]⟩ := by
  have h : exeT (jnL [l_plus0, l_plus1, l_plus2]) = exeL [l_plus0, l_plus1, l_plus2] := exeT_jn0 (free_cons (free_of (by kernel_rfl)) (free_cons (free_of (by kernel_rfl)) (free_cons (free_of (by kernel_rfl)) free_none))) (of_decide_eq_true (by kernel_rfl))
  have e : (⟨#[112, 108, 117, 115, 32, 50, 48, 50, 48, 45, 48, 49, 45, 51, 49, 84, 50, 50, 58, 48, 48, 58, 48, 48, 90, 32, 80, 49, 77, 84, 51, 72, 10, 109, 105, 110, 117, 115, 32, 50, 48, 50, 48, 45, 48, 51, 45, 51, 49, 84, 48, 49, 58, 48, 48, 58, 48, 48, 43, 48, 49, 58, 48, 48, 32, 80, 49, 77, 84, 50, 72, 10, 115, 112, 97, 110, 32, 50, 48, 50, 48, 45, 48, 49, 45, 48, 49, 84, 48, 48, 58, 48, 48, 58, 48, 48, 90, 47, 80, 49, 87, 10]⟩ : ByteArray) = jnL [l_plus0, l_plus1, l_plus2] := by kernel_rfl
  have h2 : jnL (([l_plus0, l_plus1, l_plus2] : List ByteArray).map ansT) = jnL [a_plus0, a_plus1, a_plus2] := by
    simp only [List.map_cons, List.map_nil, v_plus0, v_plus1, v_plus2]
  exact (congrArg exeT e).trans (h.trans ((exeL_eq _).trans ((congrArg (· ++ (tailT 3 ++ s10)) h2).trans (by kernel_rfl))))

abbrev l_betw0 : ByteArray := ⟨#[98, 101, 116, 119, 101, 101, 110, 32, 50, 48, 50, 48, 45, 48, 50, 45, 50, 57, 32, 50, 48, 50, 49, 45, 48, 51, 45, 48, 49]⟩
abbrev a_betw0 : ByteArray := ⟨#[80, 49, 89, 49, 68]⟩

theorem v_betw0 : ansT l_betw0 = a_betw0 := (ans_betw (w := ⟨#[50, 48, 50, 48, 45, 48, 50, 45, 50, 57]⟩) (v := ⟨#[50, 48, 50, 49, 45, 48, 51, 45, 48, 49]⟩) (by kernel_rfl)).trans (by rw [betwW_val (dateR_0 (s := (⟨#[50, 48, 50, 48, 45, 48, 50, 45, 50, 57]⟩ : ByteArray)) (by kernel_rfl)) (dateR_0 (s := (⟨#[50, 48, 50, 49, 45, 48, 51, 45, 48, 49]⟩ : ByteArray)) (by kernel_rfl))]; kernel_rfl)

abbrev l_betw1 : ByteArray := ⟨#[98, 101, 116, 119, 101, 101, 110, 32, 50, 48, 50, 49, 45, 48, 51, 45, 48, 49, 32, 50, 48, 50, 48, 45, 48, 50, 45, 50, 57]⟩
abbrev a_betw1 : ByteArray := ⟨#[110, 111]⟩

theorem v_betw1 : ansT l_betw1 = a_betw1 := (ans_betw (w := ⟨#[50, 48, 50, 49, 45, 48, 51, 45, 48, 49]⟩) (v := ⟨#[50, 48, 50, 48, 45, 48, 50, 45, 50, 57]⟩) (by kernel_rfl)).trans (by rw [betwW_val (dateR_0 (s := (⟨#[50, 48, 50, 49, 45, 48, 51, 45, 48, 49]⟩ : ByteArray)) (by kernel_rfl)) (dateR_0 (s := (⟨#[50, 48, 50, 48, 45, 48, 50, 45, 50, 57]⟩ : ByteArray)) (by kernel_rfl))]; kernel_rfl)

abbrev l_betw2 : ByteArray := ⟨#[101, 97, 115, 116, 101, 114, 32, 50, 48, 50, 52]⟩
abbrev a_betw2 : ByteArray := ⟨#[50, 48, 50, 52, 45, 48, 51, 45, 51, 49]⟩

theorem v_betw2 : ansT l_betw2 = a_betw2 := by kernel_rfl

abbrev l_betw3 : ByteArray := ⟨#[101, 97, 115, 116, 101, 114, 32, 49, 53, 56, 50]⟩
abbrev a_betw3 : ByteArray := ⟨#[110, 111]⟩

theorem v_betw3 : ansT l_betw3 = a_betw3 := by kernel_rfl

theorem e_betw : exeT ⟨#[98, 101, 116, 119, 101, 101, 110, 32, 50, 48, 50, 48, 45, 48, 50, 45, 50, 57, 32, 50, 48, 50, 49, 45, 48, 51, 45, 48, 49, 10, 98, 101, 116, 119, 101, 101, 110, 32, 50, 48, 50, 49, 45, 48, 51, 45, 48, 49, 32, 50, 48, 50, 48, 45, 48, 50, 45, 50, 57, 10, 101, 97, 115, 116, 101, 114, 32, 50, 48, 50, 52, 10, 101, 97, 115, 116, 101, 114, 32, 49, 53, 56, 50, 10]⟩ = ⟨#[80, 49, 89, 49, 68, 10, 110, 111, 10, 50, 48, 50, 52, 45, 48, 51, 45, 51, 49, 10, 110, 111, 10, 108, 105, 110, 101, 115, 32, 52, 10]⟩ := by
  have h : exeT (jnL [l_betw0, l_betw1, l_betw2, l_betw3]) = exeL [l_betw0, l_betw1, l_betw2, l_betw3] := exeT_jn0 (free_cons (free_of (by kernel_rfl)) (free_cons (free_of (by kernel_rfl)) (free_cons (free_of (by kernel_rfl)) (free_cons (free_of (by kernel_rfl)) free_none)))) (of_decide_eq_true (by kernel_rfl))
  have e : (⟨#[98, 101, 116, 119, 101, 101, 110, 32, 50, 48, 50, 48, 45, 48, 50, 45, 50, 57, 32, 50, 48, 50, 49, 45, 48, 51, 45, 48, 49, 10, 98, 101, 116, 119, 101, 101, 110, 32, 50, 48, 50, 49, 45, 48, 51, 45, 48, 49, 32, 50, 48, 50, 48, 45, 48, 50, 45, 50, 57, 10, 101, 97, 115, 116, 101, 114, 32, 50, 48, 50, 52, 10, 101, 97, 115, 116, 101, 114, 32, 49, 53, 56, 50, 10]⟩ : ByteArray) = jnL [l_betw0, l_betw1, l_betw2, l_betw3] := by kernel_rfl
  have h2 : jnL (([l_betw0, l_betw1, l_betw2, l_betw3] : List ByteArray).map ansT) = jnL [a_betw0, a_betw1, a_betw2, a_betw3] := by
    simp only [List.map_cons, List.map_nil, v_betw0, v_betw1, v_betw2, v_betw3]
  exact (congrArg exeT e).trans (h.trans ((exeL_eq _).trans ((congrArg (· ++ (tailT 4 ++ s10)) h2).trans (by kernel_rfl))))

abbrev l_bad0 : ByteArray := ⟨#[100, 97, 116, 101]⟩
abbrev a_bad0 : ByteArray := ⟨#[119, 104, 97, 116]⟩

theorem v_bad0 : ansT l_bad0 = a_bad0 := by kernel_rfl

abbrev l_bad1 : ByteArray := ⟨#[100, 97, 116, 101, 32, 50, 48, 50, 49, 45, 48, 49, 45, 48, 51, 32, 120]⟩
abbrev a_bad1 : ByteArray := ⟨#[119, 104, 97, 116]⟩

theorem v_bad1 : ansT l_bad1 = a_bad1 := by kernel_rfl

abbrev l_bad2 : ByteArray := ⟨#[122, 105, 112, 32, 49]⟩
abbrev a_bad2 : ByteArray := ⟨#[119, 104, 97, 116]⟩

theorem v_bad2 : ansT l_bad2 = a_bad2 := by kernel_rfl

abbrev l_bad3 : ByteArray := ⟨#[]⟩
abbrev a_bad3 : ByteArray := ⟨#[119, 104, 97, 116]⟩

theorem v_bad3 : ansT l_bad3 = a_bad3 := by kernel_rfl

abbrev l_bad4 : ByteArray := ⟨#[112, 108, 117, 115, 32, 80, 49, 68]⟩
abbrev a_bad4 : ByteArray := ⟨#[119, 104, 97, 116]⟩

theorem v_bad4 : ansT l_bad4 = a_bad4 := by kernel_rfl

theorem e_bad : exeT ⟨#[100, 97, 116, 101, 10, 100, 97, 116, 101, 32, 50, 48, 50, 49, 45, 48, 49, 45, 48, 51, 32, 120, 10, 122, 105, 112, 32, 49, 10, 10, 112, 108, 117, 115, 32, 80, 49, 68, 10]⟩ = ⟨#[119, 104, 97, 116, 10, 119, 104, 97, 116, 10, 119, 104, 97, 116, 10, 119, 104, 97, 116, 10, 119, 104, 97, 116, 10, 108, 105, 110, 101, 115, 32, 53, 10]⟩ := by
  have h : exeT (jnL [l_bad0, l_bad1, l_bad2, l_bad3, l_bad4]) = exeL [l_bad0, l_bad1, l_bad2, l_bad3, l_bad4] := exeT_jn0 (free_cons (free_of (by kernel_rfl)) (free_cons (free_of (by kernel_rfl)) (free_cons (free_of (by kernel_rfl)) (free_cons (free_of (by kernel_rfl)) (free_cons (free_of (by kernel_rfl)) free_none))))) (of_decide_eq_true (by kernel_rfl))
  have e : (⟨#[100, 97, 116, 101, 10, 100, 97, 116, 101, 32, 50, 48, 50, 49, 45, 48, 49, 45, 48, 51, 32, 120, 10, 122, 105, 112, 32, 49, 10, 10, 112, 108, 117, 115, 32, 80, 49, 68, 10]⟩ : ByteArray) = jnL [l_bad0, l_bad1, l_bad2, l_bad3, l_bad4] := by kernel_rfl
  have h2 : jnL (([l_bad0, l_bad1, l_bad2, l_bad3, l_bad4] : List ByteArray).map ansT) = jnL [a_bad0, a_bad1, a_bad2, a_bad3, a_bad4] := by
    simp only [List.map_cons, List.map_nil, v_bad0, v_bad1, v_bad2, v_bad3, v_bad4]
  exact (congrArg exeT e).trans (h.trans ((exeL_eq _).trans ((congrArg (· ++ (tailT 5 ++ s10)) h2).trans (by kernel_rfl))))

end D
end Go.Proofs.YtboglbdhibcacaaGreatDoor
