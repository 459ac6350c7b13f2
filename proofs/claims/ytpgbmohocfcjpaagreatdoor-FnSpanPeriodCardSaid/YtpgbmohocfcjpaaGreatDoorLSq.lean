/- The walks of the laws on periods beside stamps. -/
import Derived.Test.YtpgbmohocfcjpaaGreatDoorLSp
import Derived.Test.YtpgbmohocfcjpaaGreatDoorSp4
namespace Go.Proofs.YtpgbmohocfcjpaaGreatDoor
set_option linter.unusedVariables false
set_option linter.unusedSimpArgs false
set_option maxRecDepth 100000
set_option maxHeartbeats 1000000
namespace D
open Go.RowKit
attribute [local irreducible] Calls

theorem law_FnSpanPeriod (a : Option Addr) (n c : Nat) (a2 : Option Addr) (n2 c2 : Nat) (w : World) (hc : n ≤ 1048576 → CodeAt w (.slice a n c)) (_hc2 : n2 ≤ 1048576 → CodeAt w (.slice a2 n2 c2)) (hb : D.Base w) (hg : Hdl w) (hp : Pw w) :
    Calls Tryz.prog 10 #[.slice a n c, .slice a2 n2 c2] w fun e w' => e = .returned (.bool true) ∧ Below w.heap.size w w' := by
  by_cases hn : n ≤ 1048576 ∧ n2 ≤ 1048576
  · have hn1 := hn.1
    have hn2 := hn.2
    clear hn
    refine enter Tryz.func10 rfl Tryz.ntmps10 rfl (by assumption) ?_
    (repeat' (first | intro (b : Nat) | refine go ?_ | (refine br ?_ ?_ <;> first | exact trivial | intro hq)))
    (refine L.vcall (h := by intro W hW; exact d_SpanFromD _ W ((hc hn1).keep hW.low) hW.base) (k := ?_); intro v hR)
    obtain ⟨t, rfl, hz⟩ := hR
    have hA := a_SpanFromR t (by omega)
    have hB := b_SpanFromR t (by omega)
    obtain ⟨S, T, ok, e, hv⟩ := spanR_val t
    rw [e] at hA hB
    cases ok with
    | false =>
      clear hv
      (repeat' (first | intro (b : Nat) | refine go ?_ | (refine br ?_ ?_ <;> first | exact trivial | intro hq) | refine L.call (h := by intro W hW; first | apply hA W hW.base (hW.old hg) | apply hB W hW.base) (k := ?_) | refine gg ?_ | refine G.call (h := by intro W hW; first | apply hA W hW.base (hW.old hg) | apply hB W hW.base) (k := ?_) | (apply C.draww (id := 9) 13 [some _, some _, none, some _, some _, none, some _, none, none, none, none, some _, some _])))
      all_goals (refine ret ?_; try exact rfl)
      all_goals simp [tupleOf]
    | true =>
      obtain ⟨v1, v2, v3⟩ := hv rfl
      have hX := a_StampText S.y S.m S.d S.h S.i S.s S.k S.o
      rw [stT_of v1] at hX
      have hY := a_PeriodText ⟨0, (n2 : Int) % 20, (n2 : Int) / 20, 0, 0, 0⟩
      have hP := a_StampPlus S.y S.m S.d S.h S.i S.s S.k S.o 0 ((n2 : Int) % 20) ((n2 : Int) / 20) 0 0 0 false
      have zA : (txS S).size ≤ 40 := stL_size.2
      have zB := perX_size ⟨0, (n2 : Int) % 20, (n2 : Int) / 20, 0, 0, 0⟩
      have hF := a_SpanFromR (txS S ++ s47 ++ perX ⟨0, (n2 : Int) % 20, (n2 : Int) / 20, 0, 0, 0⟩) (by rw [join_size]; omega)
      rw [span_per v1] at hF
      simp only [plS] at hF
      generalize perX ⟨0, (n2 : Int) % 20, (n2 : Int) / 20, 0, 0, 0⟩ = u at *
      generalize splus S.y S.m S.d S.h S.i S.s S.k S.o 0 ((n2 : Int) % 20) ((n2 : Int) / 20) 0 0 0 false = Q at *
      generalize txS S = z at *
      simp only [srV] at hP
      clear e hv v1 v2 v3
      cases hq : Q.ok with
      | false =>
        rw [if_neg (by simp [hq])] at hF
        rw [hq] at hP
        (repeat' (first | intro (b : Nat) | refine go ?_ | (refine br ?_ ?_ <;> first | exact trivial | intro hq) | refine L.call (h := by intro W hW; first | apply hA W hW.base (hW.old hg) | apply hB W hW.base | apply hX W hW.base | apply hY W hW.base (hp.old hW) | apply hF W hW.base (hW.old hg) | apply hP W hW.base) (k := ?_) | refine gg ?_ | refine G.call (h := by intro W hW; first | apply hA W hW.base (hW.old hg) | apply hB W hW.base | apply hX W hW.base | apply hY W hW.base (hp.old hW) | apply hF W hW.base (hW.old hg) | apply hP W hW.base) (k := ?_) | (apply C.draww (id := 9) 13 [some _, some _, none, some _, some _, none, some _, none, none, none, none, some _, some _])))
        all_goals (refine ret ?_; try exact rfl)
        all_goals simp [tupleOf]
      | true =>
        rw [if_pos hq] at hF
        rw [hq] at hP
        (repeat' (first | intro (b : Nat) | refine go ?_ | (refine br ?_ ?_ <;> first | exact trivial | intro hq) | refine L.call (h := by intro W hW; first | apply hA W hW.base (hW.old hg) | apply hB W hW.base | apply hX W hW.base | apply hY W hW.base (hp.old hW) | apply hF W hW.base (hW.old hg) | apply hP W hW.base) (k := ?_) | refine gg ?_ | refine G.call (h := by intro W hW; first | apply hA W hW.base (hW.old hg) | apply hB W hW.base | apply hX W hW.base | apply hY W hW.base (hp.old hW) | apply hF W hW.base (hW.old hg) | apply hP W hW.base) (k := ?_) | (apply C.draww (id := 9) 13 [some _, some _, none, some _, some _, none, some _, none, none, none, none, some _, some _])))
        all_goals (refine ret ?_; try exact rfl)
        all_goals simp [tupleOf]
  · refine enter Tryz.func10 rfl Tryz.ntmps10 rfl (by assumption) ?_
    (repeat' (first | intro (b : Nat) | refine go ?_ | (refine br ?_ ?_ <;> first | exact trivial | intro hq)))
    all_goals first | (exfalso; omega) | (refine ret ?_; try exact rfl)

theorem law_FnSpanPeriodBack (a : Option Addr) (n c : Nat) (a2 : Option Addr) (n2 c2 : Nat) (w : World) (hc : n ≤ 1048576 → CodeAt w (.slice a n c)) (_hc2 : n2 ≤ 1048576 → CodeAt w (.slice a2 n2 c2)) (hb : D.Base w) (hg : Hdl w) (hp : Pw w) :
    Calls Tryz.prog 11 #[.slice a n c, .slice a2 n2 c2] w fun e w' => e = .returned (.bool true) ∧ Below w.heap.size w w' := by
  by_cases hn : n ≤ 1048576 ∧ n2 ≤ 1048576
  · have hn1 := hn.1
    have hn2 := hn.2
    clear hn
    refine enter Tryz.func11 rfl Tryz.ntmps11 rfl (by assumption) ?_
    (repeat' (first | intro (b : Nat) | refine go ?_ | (refine br ?_ ?_ <;> first | exact trivial | intro hq)))
    (refine L.vcall (h := by intro W hW; exact d_SpanFromD _ W ((hc hn1).keep hW.low) hW.base) (k := ?_); intro v hR)
    obtain ⟨t, rfl, hz⟩ := hR
    have hA := a_SpanFromR t (by omega)
    have hB := b_SpanFromR t (by omega)
    obtain ⟨S, T, ok, e, hv⟩ := spanR_val t
    rw [e] at hA hB
    cases ok with
    | false =>
      clear hv
      (repeat' (first | intro (b : Nat) | refine go ?_ | (refine br ?_ ?_ <;> first | exact trivial | intro hq) | refine L.call (h := by intro W hW; first | apply hA W hW.base (hW.old hg) | apply hB W hW.base) (k := ?_) | refine gg ?_ | refine G.call (h := by intro W hW; first | apply hA W hW.base (hW.old hg) | apply hB W hW.base) (k := ?_) | (apply C.draww (id := 9) 13 [some _, some _, none, some _, some _, none, some _, none, none, none, none, some _, some _])))
      all_goals (refine ret ?_; try exact rfl)
      all_goals simp [tupleOf]
    | true =>
      obtain ⟨v1, v2, v3⟩ := hv rfl
      have hX := a_StampText T.y T.m T.d T.h T.i T.s T.k T.o
      rw [stT_of v2] at hX
      have hY := a_PeriodText ⟨0, (n2 : Int) % 20, (n2 : Int) / 20, 0, 0, 0⟩
      have hP := a_StampPlus T.y T.m T.d T.h T.i T.s T.k T.o 0 ((n2 : Int) % 20) ((n2 : Int) / 20) 0 0 0 true
      have zA : (txS T).size ≤ 40 := stL_size.2
      have zB := perX_size ⟨0, (n2 : Int) % 20, (n2 : Int) / 20, 0, 0, 0⟩
      have hF := a_SpanFromR (perX ⟨0, (n2 : Int) % 20, (n2 : Int) / 20, 0, 0, 0⟩ ++ s47 ++ txS T) (by rw [join_size]; omega)
      rw [span_perB v2] at hF
      simp only [plS] at hF
      generalize perX ⟨0, (n2 : Int) % 20, (n2 : Int) / 20, 0, 0, 0⟩ = u at *
      generalize splus T.y T.m T.d T.h T.i T.s T.k T.o 0 ((n2 : Int) % 20) ((n2 : Int) / 20) 0 0 0 true = Q at *
      generalize txS T = z at *
      simp only [srV] at hP
      clear e hv v1 v2 v3
      cases hq : Q.ok with
      | false =>
        rw [if_neg (by simp [hq])] at hF
        rw [hq] at hP
        (repeat' (first | intro (b : Nat) | refine go ?_ | (refine br ?_ ?_ <;> first | exact trivial | intro hq) | refine L.call (h := by intro W hW; first | apply hA W hW.base (hW.old hg) | apply hB W hW.base | apply hX W hW.base | apply hY W hW.base (hp.old hW) | apply hF W hW.base (hW.old hg) | apply hP W hW.base) (k := ?_) | refine gg ?_ | refine G.call (h := by intro W hW; first | apply hA W hW.base (hW.old hg) | apply hB W hW.base | apply hX W hW.base | apply hY W hW.base (hp.old hW) | apply hF W hW.base (hW.old hg) | apply hP W hW.base) (k := ?_) | (apply C.draww (id := 9) 13 [some _, some _, none, some _, some _, none, some _, none, none, none, none, some _, some _])))
        all_goals (refine ret ?_; try exact rfl)
        all_goals simp [tupleOf]
      | true =>
        rw [if_pos hq] at hF
        rw [hq] at hP
        (repeat' (first | intro (b : Nat) | refine go ?_ | (refine br ?_ ?_ <;> first | exact trivial | intro hq) | refine L.call (h := by intro W hW; first | apply hA W hW.base (hW.old hg) | apply hB W hW.base | apply hX W hW.base | apply hY W hW.base (hp.old hW) | apply hF W hW.base (hW.old hg) | apply hP W hW.base) (k := ?_) | refine gg ?_ | refine G.call (h := by intro W hW; first | apply hA W hW.base (hW.old hg) | apply hB W hW.base | apply hX W hW.base | apply hY W hW.base (hp.old hW) | apply hF W hW.base (hW.old hg) | apply hP W hW.base) (k := ?_) | (apply C.draww (id := 9) 13 [some _, some _, none, some _, some _, none, some _, none, none, none, none, some _, some _])))
        all_goals (refine ret ?_; try exact rfl)
        all_goals simp [tupleOf]
  · refine enter Tryz.func11 rfl Tryz.ntmps11 rfl (by assumption) ?_
    (repeat' (first | intro (b : Nat) | refine go ?_ | (refine br ?_ ?_ <;> first | exact trivial | intro hq)))
    all_goals first | (exfalso; omega) | (refine ret ?_; try exact rfl)

end D
end Go.Proofs.YtpgbmohocfcjpaaGreatDoor
