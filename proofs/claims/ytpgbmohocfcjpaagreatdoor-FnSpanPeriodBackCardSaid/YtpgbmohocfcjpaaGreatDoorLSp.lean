/- The walks of the laws on texts of spans. -/
import Derived.Test.YtpgbmohocfcjpaaGreatDoorSp4
import Derived.Test.YtpgbmohocfcjpaaGreatDoorDr7
import Derived.Test.YtpgbmohocfcjpaaGreatDoorEq
namespace Go.Proofs.YtpgbmohocfcjpaaGreatDoor
set_option linter.unusedVariables false
set_option linter.unusedSimpArgs false
set_option maxRecDepth 100000
set_option maxHeartbeats 1000000
namespace D
open Go.RowKit
attribute [local irreducible] Calls

theorem law_FnSpanText (a : Option Addr) (n c : Nat) (w : World) (hc : n ≤ 1048576 → CodeAt w (.slice a n c)) (hb : D.Base w) (hg : Hdl w) :
    Calls Tryz.prog 8 #[.slice a n c] w fun e w' => e = .returned (.bool true) ∧ Below w.heap.size w w' := by
  by_cases hn : n ≤ 1048576
  · refine enter Tryz.func8 rfl Tryz.ntmps8 rfl (by assumption) ?_
    (repeat' (first | intro (b : Nat) | refine go ?_ | (refine br ?_ ?_ <;> first | exact trivial | intro hq)))
    (refine L.vcall (h := by intro W hW; exact d_SpanTextD _ W ((hc hn).keep hW.low) hW.base) (k := ?_); intro v hR)
    obtain ⟨y, m, d, h, i, s, k, o, y2, m2, d2, h2, i2, s2, k2, o2, rfl⟩ := hR
    have hA := a_SpanText ⟨y, m, d, h, i, s, k, o, true⟩ ⟨y2, m2, d2, h2, i2, s2, k2, o2, true⟩
    have hB := b_SpanText ⟨y, m, d, h, i, s, k, o, true⟩ ⟨y2, m2, d2, h2, i2, s2, k2, o2, true⟩
    unfold spT at hA hB
    by_cases hv : valS ⟨y, m, d, h, i, s, k, o, true⟩ ∧ valS ⟨y2, m2, d2, h2, i2, s2, k2, o2, true⟩ ∧ insS ⟨y, m, d, h, i, s, k, o, true⟩ ≤ insS ⟨y2, m2, d2, h2, i2, s2, k2, o2, true⟩
    · rw [if_pos hv] at hA hB
      have zA : (txS ⟨y, m, d, h, i, s, k, o, true⟩).size ≤ 40 := stL_size.2
      have zB : (txS ⟨y2, m2, d2, h2, i2, s2, k2, o2, true⟩).size ≤ 40 := stL_size.2
      have hF := a_SpanFromR (txS ⟨y, m, d, h, i, s, k, o, true⟩ ++ s47 ++ txS ⟨y2, m2, d2, h2, i2, s2, k2, o2, true⟩) (by rw [join_size]; omega)
      rw [span_two hv.1 hv.2.1 hv.2.2] at hF
      clear zA zB
      generalize txS ⟨y, m, d, h, i, s, k, o, true⟩ ++ s47 ++ txS ⟨y2, m2, d2, h2, i2, s2, k2, o2, true⟩ = t at *
      (repeat' (first | intro (b : Nat) | refine go ?_ | (refine br ?_ ?_ <;> first | exact trivial | intro hq) | refine L.call (h := by intro W hW; first | apply hA W hW.base | apply hB W hW.base | apply hF W hW.base (hW.old hg)) (k := ?_)))
      all_goals (refine ret ?_; try exact rfl)
      all_goals simp [tupleOf]
    · rw [if_neg hv] at hA hB
      (repeat' (first | intro (b : Nat) | refine go ?_ | (refine br ?_ ?_ <;> first | exact trivial | intro hq) | refine L.call (h := by intro W hW; first | apply hA W hW.base | apply hB W hW.base) (k := ?_)))
      all_goals (refine ret ?_; try exact rfl)
      all_goals simp [tupleOf]
  · refine enter Tryz.func8 rfl Tryz.ntmps8 rfl (by assumption) ?_
    (repeat' (first | intro (b : Nat) | refine go ?_ | (refine br ?_ ?_ <;> first | exact trivial | intro hq)))
    (refine ret ?_; try exact rfl)

theorem spA_val {l r : ByteArray} {p : Option P6} (h : (spA (stampR l) (stampR r) p).ok = true) : valS (spA (stampR l) (stampR r) p) := by
  unfold spA at *
  by_cases h1 : (stampR l).ok = true
  · rw [if_pos h1]; exact stampR_ok h1
  · rw [if_neg h1] at *
    by_cases h2 : (stampR r).ok = true
    · rw [if_pos h2] at *; exact plusO_ok h
    · rw [if_neg h2] at h; cases h
theorem spB_val {l r : ByteArray} {p : Option P6} (h : (spB (stampR l) (stampR r) p).ok = true) : valS (spB (stampR l) (stampR r) p) := by
  unfold spB at *
  by_cases h1 : (stampR r).ok = true
  · rw [if_pos h1]; exact stampR_ok h1
  · rw [if_neg h1] at *
    by_cases h2 : (stampR l).ok = true
    · rw [if_pos h2] at *; exact plusO_ok h
    · rw [if_neg h2] at h; cases h
theorem spanR_val (s : ByteArray) : ∃ (S T : SR) (ok : Bool), spanR s = .tuple #[sa S, sa T, .bool ok] ∧ (ok = true → valS S ∧ valS T ∧ insS S ≤ insS T) := by
  by_cases h : ∃ j, oneSl s j
  · obtain ⟨j, hj⟩ := h
    rw [spanR_yes hj]
    unfold spanAt spV
    split
    · rename_i hh
      exact ⟨_, _, _, rfl, fun _ => ⟨spA_val hh.1, spB_val hh.2.1, hh.2.2⟩⟩
    · exact ⟨_, _, _, rfl, fun h => by cases h⟩
  · rw [spanR_no fun j hj => h ⟨j, hj⟩]
    exact ⟨SR.no, SR.no, false, rfl, fun h => by cases h⟩

theorem a_StampLess (A B : SR) (hA : valS A) (hB : valS B) (w : World) (hb : D.Base w) : Calls Tryz.prog 26 #[sa A, sa B] w fun e w' => e = .returned (.bool (decide (insS A < insS B))) ∧ Below w.heap.size w w' := by
  have h1 := a_StampValid A.y A.m A.d A.h A.i A.s A.k A.o
  have h2 := a_StampValid B.y B.m B.d B.h B.i B.s B.k B.o
  have h3 := a_instantOf _ _ _ _ _ _ _ _ hA
  have h4 := a_instantOf _ _ _ _ _ _ _ _ hB
  unfold valS at hA hB
  rw [hA] at h1
  rw [hB] at h2
  unfold insS
  generalize inst A.y A.m A.d A.h A.i A.s A.k A.o = ia at *
  generalize inst B.y B.m B.d B.h B.i B.s B.k B.o = ib at *
  refine enter Tryz.func26 rfl Tryz.ntmps26 rfl (by assumption) ?_
  (repeat' (first | intro (b : Nat) | refine go ?_ | (refine br ?_ ?_ <;> first | exact trivial | intro hq) | refine L.call (h := by intro W hW; first | apply h1 W hW.base | apply h2 W hW.base | apply h3 W hW.base | apply h4 W hW.base) (k := ?_) | refine gg ?_ | refine G.call (h := by intro W hW; first | apply h1 W hW.base | apply h2 W hW.base | apply h3 W hW.base | apply h4 W hW.base) (k := ?_) | (apply C.draww (id := 1) 14 [some _, some _, none, some _, some _, none, none, some _, some _, some _, some _, none, none, none])))
  (refine ret ?_; try exact rfl)

theorem law_FnSpanFrom (a : Option Addr) (n c : Nat) (w : World) (hc : n ≤ 1048576 → CodeAt w (.slice a n c)) (hb : D.Base w) (hg : Hdl w) :
    Calls Tryz.prog 9 #[.slice a n c] w fun e w' => e = .returned (.bool true) ∧ Below w.heap.size w w' := by
  by_cases hn : n ≤ 1048576
  · refine enter Tryz.func9 rfl Tryz.ntmps9 rfl (by assumption) ?_
    (repeat' (first | intro (b : Nat) | refine go ?_ | (refine br ?_ ?_ <;> first | exact trivial | intro hq)))
    (refine L.vcall (h := by intro W hW; exact d_SpanFromD _ W ((hc hn).keep hW.low) hW.base) (k := ?_); intro v hR)
    obtain ⟨t, rfl, hz⟩ := hR
    have hA := a_SpanFromR t (by omega)
    have hB := b_SpanFromR t (by omega)
    obtain ⟨S, T, ok, e, hv⟩ := spanR_val t
    rw [e] at hA hB
    cases ok with
    | false =>
      clear hv
      (repeat' (first | intro (b : Nat) | refine go ?_ | (refine br ?_ ?_ <;> first | exact trivial | intro hq) | refine L.call (h := by intro W hW; first | apply hA W hW.base (hW.old hg) | apply hB W hW.base) (k := ?_)))
      all_goals (refine ret ?_; try exact rfl)
      all_goals simp [tupleOf]
    | true =>
      obtain ⟨v1, v2, v3⟩ := hv rfl
      have hL := a_StampLess T S v2 v1
      rw [decide_eq_false (by omega)] at hL
      (repeat' (first | intro (b : Nat) | refine go ?_ | (refine br ?_ ?_ <;> first | exact trivial | intro hq) | refine L.call (h := by intro W hW; first | apply hA W hW.base (hW.old hg) | apply hB W hW.base | apply rvb v1 (a_StampValid _ _ _ _ _ _ _ _ W hW.base) | apply rvb v2 (a_StampValid _ _ _ _ _ _ _ _ W hW.base) | apply hL W hW.base) (k := ?_)))
      all_goals (refine ret ?_; try exact rfl)
      all_goals simp [tupleOf]
  · refine enter Tryz.func9 rfl Tryz.ntmps9 rfl (by assumption) ?_
    (repeat' (first | intro (b : Nat) | refine go ?_ | (refine br ?_ ?_ <;> first | exact trivial | intro hq)))
    (refine ret ?_; try exact rfl)

end D
end Go.Proofs.YtpgbmohocfcjpaaGreatDoor
