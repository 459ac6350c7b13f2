/- Walks: texts of spans, of both. -/
import Derived.Test.YtpgbmohocfcjpaaGreatDoorSp3
import Derived.Test.YtpgbmohocfcjpaaGreatDoorDr
import Derived.Test.YtpgbmohocfcjpaaGreatDoorPx
namespace Go.Proofs.YtpgbmohocfcjpaaGreatDoor
set_option linter.unusedVariables false
set_option linter.unusedSimpArgs false
set_option maxRecDepth 100000
set_option maxHeartbeats 1000000
namespace D
open Go.RowKit
open Go.PlainAid (bt bt_nonneg bt_le bt_end)
attribute [local irreducible] Calls

/-- The text of a stamp that there is. -/
noncomputable abbrev txS (S : SR) : ByteArray := strOfNums (stL S.y S.m S.d S.h S.i S.s S.k S.o)
theorem txS_read {S : SR} (h : valS S) : stampR (txS S) = ⟨S.y, S.m, S.d, S.h, S.i, S.s, S.k, S.o, true⟩ := st_text h
theorem txS_ok {S : SR} (h : valS S) : (stampR (txS S)).ok = true := by rw [txS_read h]
theorem txS_noSl {S : SR} (h : valS S) : noSl (txS S) := st_noSl (txS_ok h)

abbrev s47 : ByteArray := ⟨#[47]⟩
theorem join_size (t u : ByteArray) : (t ++ s47 ++ u).size = t.size + 1 + u.size := by simp only [ByteArray.size_append]; rfl
theorem join_l (t u : ByteArray) : (t ++ s47 ++ u).extract 0 t.size = t := by
  rw [ByteArray.append_assoc]
  exact ByteArray.extract_append_eq_left rfl
theorem join_r (t u : ByteArray) : (t ++ s47 ++ u).extract (t.size + 1) (t ++ s47 ++ u).size = u := by
  have e : (t ++ s47).size = t.size + 1 := by rw [ByteArray.size_append]; rfl
  rw [join_size]
  exact ByteArray.extract_append_eq_right e.symm (by rw [e])
theorem join_bt_l {t u : ByteArray} {i : Nat} (h : i < t.size) : bt (t ++ s47 ++ u) i = bt t i := by
  have := bt_extract (s := t ++ s47 ++ u) (a := 0) (b := t.size) (i := i) (by rw [join_size]; omega) (by omega)
  rw [join_l, Nat.zero_add] at this
  exact this.symm
theorem join_bt_r {t u : ByteArray} {i : Nat} (h : i < u.size) : bt (t ++ s47 ++ u) (t.size + 1 + i) = bt u i := by
  have := bt_extract (s := t ++ s47 ++ u) (a := t.size + 1) (b := (t ++ s47 ++ u).size) (i := i) (Nat.le_refl _) (by rw [join_size]; omega)
  rw [join_r] at this
  exact this.symm
theorem join_bt_m (t u : ByteArray) : bt (t ++ s47 ++ u) t.size = 47 := by
  have e : (t ++ s47).extract t.size (t.size + 1) = s47 := ByteArray.extract_append_eq_right rfl rfl
  have e2 : (t ++ s47 ++ u).extract 0 (t ++ s47).size = t ++ s47 := ByteArray.extract_append_eq_left rfl
  have z : (t ++ s47).size = t.size + 1 := by rw [ByteArray.size_append]; rfl
  have h1 := bt_extract (s := t ++ s47 ++ u) (a := 0) (b := (t ++ s47).size) (i := t.size) (by rw [join_size, z]; omega) (by rw [z]; omega)
  rw [e2, Nat.zero_add] at h1
  have h2 := bt_extract (s := t ++ s47) (a := t.size) (b := t.size + 1) (i := 0) (by rw [z]; omega) (by omega)
  rw [e, Nat.add_zero] at h2
  rw [← h1, ← h2]
  rfl
theorem join_one {t u : ByteArray} (h1 : noSl t) (h2 : noSl u) : oneSl (t ++ s47 ++ u) t.size := by
  refine ⟨by rw [join_size]; omega, join_bt_m t u, fun i hi h => ?_⟩
  rw [join_size] at hi
  rcases (by omega : i < t.size ∨ i = t.size ∨ t.size < i) with h3 | h3 | h3
  · rw [join_bt_l h3] at h
    exact (h1 i h3 h).elim
  · exact h3
  · have := join_bt_r (t := t) (u := u) (i := i - (t.size + 1)) (by omega)
    rw [show t.size + 1 + (i - (t.size + 1)) = i by omega, h] at this
    exact (h2 _ (by omega) this.symm).elim
/-- The span of two texts without slashes. -/
theorem span_join {t u : ByteArray} (h1 : noSl t) (h2 : noSl u) : spanR (t ++ s47 ++ u) = spV (spA (stampR t) (stampR u) (perR t)) (spB (stampR t) (stampR u) (perR u)) := by
  rw [spanR_yes (join_one h1 h2)]
  unfold spanAt
  rw [join_l, join_r]
theorem span_two {A B : SR} (hA : valS A) (hB : valS B) (hle : insS A ≤ insS B) : spanR (txS A ++ s47 ++ txS B) = .tuple #[sa A, sa B, .bool true] := by
  rw [span_join (txS_noSl hA) (txS_noSl hB)]
  unfold spA spB
  rw [if_pos (txS_ok hA), if_pos (txS_ok hB), txS_read hA, txS_read hB]
  unfold spV
  rw [if_pos ⟨rfl, rfl, hle⟩]

open Classical in
/-- The text of a span, as a value. -/
noncomputable def spT (A B : SR) : Value := if valS A ∧ valS B ∧ insS A ≤ insS B then .tuple #[.string (txS A ++ s47 ++ txS B), .bool true] else .tuple #[.string ⟨#[]⟩, .bool false]

theorem a_spanOf_no (A B : SR) (h : ¬ (valS A ∧ valS B)) (w : World) (hb : D.Base w) : Calls Tryz.prog 68 #[sa A, sa B] w fun e w' => e = .returned (.tuple #[.agg #[.int .i64 0, .int .i64 0], .bool false]) ∧ Below w.heap.size w w' := by
  have h1 := a_StampValid A.y A.m A.d A.h A.i A.s A.k A.o
  have h2 := a_StampValid B.y B.m B.d B.h B.i B.s B.k B.o
  unfold valS at h
  generalize sval A.y A.m A.d A.h A.i A.s A.k A.o = p at *
  generalize sval B.y B.m B.d B.h B.i B.s B.k B.o = q at *
  cases p
  · refine enter Tryz.func68 rfl Tryz.ntmps68 rfl (by assumption) ?_
    (repeat' (first | intro (b : Nat) | refine go ?_ | (refine br ?_ ?_ <;> first | exact trivial | intro hq) | refine L.call (h := by intro W hW; first | apply h1 W hW.base | apply h2 W hW.base) (k := ?_)))
    (refine ret ?_; try exact rfl)
  · cases q
    · refine enter Tryz.func68 rfl Tryz.ntmps68 rfl (by assumption) ?_
      (repeat' (first | intro (b : Nat) | refine go ?_ | (refine br ?_ ?_ <;> first | exact trivial | intro hq) | refine L.call (h := by intro W hW; first | apply h1 W hW.base | apply h2 W hW.base) (k := ?_)))
      (refine ret ?_; try exact rfl)
    · exact (h ⟨rfl, rfl⟩).elim

theorem stT_of {S : SR} (h : valS S) : stT S.y S.m S.d S.h S.i S.s S.k S.o = txS S := if_pos h

theorem a_SpanText (A B : SR) (w : World) (hb : D.Base w) : Calls Tryz.prog 31 #[sa A, sa B] w fun e w' => e = .returned (spT A B) ∧ Below w.heap.size w w' := by
  unfold spT
  by_cases hv : valS A ∧ valS B
  · have hO := a_spanOf A B hv.1 hv.2
    by_cases hle : insS A ≤ insS B
    · rw [if_pos ⟨hv.1, hv.2, hle⟩]
      have hX := a_StampText A.y A.m A.d A.h A.i A.s A.k A.o
      have hY := a_StampText B.y B.m B.d B.h B.i B.s B.k B.o
      rw [stT_of hv.1] at hX
      rw [stT_of hv.2] at hY
      have zA : (txS A).size ≤ 40 := stL_size.2
      have zB : (txS B).size ≤ 40 := stL_size.2
      rw [decide_eq_true hle] at hO
      generalize txS A = t at *
      generalize txS B = u at *
      refine enter Tryz.func31 rfl Tryz.ntmps31 rfl (by assumption) ?_
      (repeat' (first | intro (b : Nat) | refine go ?_ | (refine br ?_ ?_ <;> first | exact trivial | intro hq) | refine L.call (h := by intro W hW; first | apply hO W hW.base | apply hX W hW.base | apply hY W hW.base) (k := ?_) | refine gg ?_ | refine G.call (h := by intro W hW; first | apply hO W hW.base | apply hX W hW.base | apply hY W hW.base) (k := ?_) | (apply C.draww (id := 4) 8 [some _, some _, none, some _, some _, none, none, none])))
      (refine ret ?_; try exact rfl)
    · rw [if_neg (fun h => hle h.2.2)]
      rw [decide_eq_false hle] at hO
      refine enter Tryz.func31 rfl Tryz.ntmps31 rfl (by assumption) ?_
      (repeat' (first | intro (b : Nat) | refine go ?_ | (refine br ?_ ?_ <;> first | exact trivial | intro hq) | refine L.call (h := by intro W hW; apply hO W hW.base) (k := ?_) | refine gg ?_ | refine G.call (h := by intro W hW; apply hO W hW.base) (k := ?_) | (apply C.draww (id := 4) 8 [some _, some _, none, some _, some _, none, none, none])))
      (refine ret ?_; try exact rfl)
  · have hO := a_spanOf_no A B hv
    rw [if_neg (fun h => hv ⟨h.1, h.2.1⟩)]
    refine enter Tryz.func31 rfl Tryz.ntmps31 rfl (by assumption) ?_
    (repeat' (first | intro (b : Nat) | refine go ?_ | (refine br ?_ ?_ <;> first | exact trivial | intro hq) | refine L.call (h := by intro W hW; apply hO W hW.base) (k := ?_) | refine gg ?_ | refine G.call (h := by intro W hW; apply hO W hW.base) (k := ?_) | (apply C.draww (id := 4) 8 [some _, some _, none, some _, some _, none, none, none])))
    (refine ret ?_; try exact rfl)

theorem b_SpanText (A B : SR) (w : World) (hb : D.Base w) : Calls Tryz.prog 32 #[sa A, sa B] w fun e w' => e = .returned (spT A B) ∧ Below w.heap.size w w' := by
  unfold spT
  by_cases hv : valS A ∧ valS B ∧ insS A ≤ insS B
  · rw [if_pos hv]
    have hL := b_SpanLength_yes _ _ _ _ _ _ _ _ _ _ _ _ _ _ _ _ hv.1 hv.2.1 hv.2.2
    have hX := b_l13Text A.y A.m A.d A.h A.i A.s A.k A.o hv.1
    have hY := b_l13Text B.y B.m B.d B.h B.i B.s B.k B.o hv.2.1
    rw [show strOfNums (stL A.y A.m A.d A.h A.i A.s A.k A.o) = txS A from rfl] at hX
    rw [show strOfNums (stL B.y B.m B.d B.h B.i B.s B.k B.o) = txS B from rfl] at hY
    have hle := hv.2.2
    unfold insS at hle
    have zA : (txS A).size ≤ 40 := stL_size.2
    have zB : (txS B).size ≤ 40 := stL_size.2
    generalize inst A.y A.m A.d A.h A.i A.s A.k A.o = ia at *
    generalize inst B.y B.m B.d B.h B.i B.s B.k B.o = ib at *
    generalize txS A = t at *
    generalize txS B = u at *
    refine enter Tryz.func32 rfl Tryz.ntmps32 rfl (by assumption) ?_
    (repeat' (first | intro (b : Nat) | refine go ?_ | (refine br ?_ ?_ <;> first | exact trivial | intro hq) | refine L.call (h := by intro W hW; first | apply hL W hW.base | apply hX W hW.base | apply hY W hW.base) (k := ?_) | refine gg ?_ | refine G.call (h := by intro W hW; first | apply hL W hW.base | apply hX W hW.base | apply hY W hW.base) (k := ?_) | (apply C.draww (id := 3) 8 [some _, some _, none, some _, some _, none, none, none])))
    (refine ret ?_; try exact rfl)
  · rw [if_neg hv]
    have hL := b_SpanLength_no A.y A.m A.d A.h A.i A.s A.k A.o B.y B.m B.d B.h B.i B.s B.k B.o hv
    refine enter Tryz.func32 rfl Tryz.ntmps32 rfl (by assumption) ?_
    (repeat' (first | intro (b : Nat) | refine go ?_ | (refine br ?_ ?_ <;> first | exact trivial | intro hq) | refine L.call (h := by intro W hW; apply hL W hW.base) (k := ?_) | refine gg ?_ | refine G.call (h := by intro W hW; apply hL W hW.base) (k := ?_) | (apply C.draww (id := 3) 8 [some _, some _, none, some _, some _, none, none, none])))
    (refine ret ?_; try exact rfl)

end D
end Go.Proofs.YtpgbmohocfcjpaaGreatDoor

namespace Go.Proofs.YtpgbmohocfcjpaaGreatDoor
set_option linter.unusedVariables false
set_option linter.unusedSimpArgs false
set_option maxRecDepth 100000
set_option maxHeartbeats 1000000
namespace D
open Go.RowKit
open Go.PlainAid (bt bt_nonneg bt_le bt_end)

theorem per_first {s : ByteArray} {p : P6} (h : perR s = some p) : bt s 0 = 80 := by
  unfold perR at h
  by_cases h0 : s.size < 3 ∨ ¬ bt s 0 = 80
  · rw [if_pos h0] at h; cases h
  · omega
theorem stamp_digit {s : ByteArray} (h : (stampR s).ok = true) : 48 ≤ bt s 0 ∧ bt s 0 ≤ 57 := by
  obtain ⟨h1, h2, h3, h4, h5⟩ := stAt_iff.1 (stR_ok h).1
  obtain ⟨a1, a2, a3, a4, a5, -⟩ := dOk_iff.1 h1
  have := isD_iff.1 (allD_iff.1 a1 0 (by omega))
  exact this
theorem perR_nil : perR ⟨#[]⟩ = none := by
  unfold perR
  rw [if_pos (.inl (by decide))]
theorem perX_R (p : P6) : perR (perX p) = if pOk p = true then some p else none := by
  unfold perX
  by_cases h : pOk p = true
  · rw [if_pos h, if_pos h, per_text h]
  · rw [if_neg h, if_neg h, perR_nil]
theorem perX_no (p : P6) : (stampR (perX p)).ok = false := by
  refine bool_no fun h => ?_
  have h1 := stamp_digit h
  by_cases hp : pOk p = true
  · have := per_first (s := perX p) (p := p) (by rw [perX_R, if_pos hp])
    omega
  · unfold perX at h1
    rw [if_neg hp] at h1
    have : bt ⟨#[]⟩ 0 = 0 := rfl
    omega
theorem perX_noSl (p : P6) : noSl (perX p) := by
  by_cases hp : pOk p = true
  · exact per_noSl (p := p) (by rw [perX_R, if_pos hp])
  · unfold perX
    rw [if_neg hp]
    intro i hi
    exact absurd hi (by show ¬ i < 0; omega)
/-- A stamp plus a period. -/
noncomputable abbrev plS (S : SR) (p : P6) (back : Bool) : SR := splus S.y S.m S.d S.h S.i S.s S.k S.o p.a p.b p.c p.d p.e p.f back
theorem plusX (S : SR) (p : P6) (back : Bool) : plusO S (perR (perX p)) back = plS S p back := by
  rw [perX_R]
  by_cases hp : pOk p = true
  · rw [if_pos hp]; rfl
  · rw [if_neg hp]
    cases hq : (plS S p back).ok with
    | true => exact (hp (splus_ok hq).2.1).elim
    | false =>
      unfold plS splus
      rw [if_neg fun h => hp (perV_ok.1 h.2.1)]
      rfl
theorem span_per {S : SR} (hS : valS S) (p : P6) : spanR (txS S ++ s47 ++ perX p) = if (plS S p false).ok = true then .tuple #[sa S, sa (plS S p false), .bool true] else spNo := by
  rw [span_join (txS_noSl hS) (perX_noSl p)]
  unfold spA spB
  rw [if_pos (txS_ok hS), if_neg (by rw [perX_no]; decide), if_pos (txS_ok hS), txS_read hS, plusX]
  unfold spV
  by_cases h : (plS S p false).ok = true
  · rw [if_pos h, if_pos ⟨rfl, h, (splus_ok h).2.2.2⟩]
  · rw [if_neg h, if_neg fun hh => h hh.2.1]
theorem span_perB {S : SR} (hS : valS S) (p : P6) : spanR (perX p ++ s47 ++ txS S) = if (plS S p true).ok = true then .tuple #[sa (plS S p true), sa S, .bool true] else spNo := by
  rw [span_join (perX_noSl p) (txS_noSl hS)]
  unfold spA spB
  rw [if_neg (by rw [perX_no]; decide), if_pos (txS_ok hS), if_pos (txS_ok hS), txS_read hS, plusX]
  unfold spV
  by_cases h : (plS S p true).ok = true
  · rw [if_pos h, if_pos ⟨h, rfl, (splus_ok h).2.2.2⟩]
  · rw [if_neg h, if_neg fun hh => h hh.1]

end D
end Go.Proofs.YtpgbmohocfcjpaaGreatDoor
