/- The walk of the law that a blank or a small letter does as well. -/
import Derived.Test.YtdafjaimljhcaaaGreatDoorLTx
namespace Go.Proofs.YtdafjaimljhcaaaGreatDoor
set_option linter.unusedVariables false
set_option linter.unusedSimpArgs false
set_option maxRecDepth 100000
set_option maxHeartbeats 1000000
namespace D
open Go.RowKit
open Go.PlainAid (bt bt_nonneg bt_le bt_end)
attribute [local irreducible] Calls

theorem bt_app_left {a b : ByteArray} {i : Nat} (h : i < a.size) : bt (a ++ b) i = bt a i := by
  have e : (a ++ b).extract 0 a.size = a := ByteArray.extract_append_eq_left rfl
  have := bt_extract (s := a ++ b) (a := 0) (b := a.size) (i := i) (by rw [ByteArray.size_append]; omega) (by omega)
  rw [e, Nat.zero_add] at this
  exact this.symm

theorem bt_app_right {a b : ByteArray} {i : Nat} (h : i < b.size) : bt (a ++ b) (a.size + i) = bt b i := by
  have e : (a ++ b).extract a.size (a.size + b.size) = b := ByteArray.extract_append_eq_right rfl rfl
  have := bt_extract (s := a ++ b) (a := a.size) (b := a.size + b.size) (i := i) (by rw [ByteArray.size_append]; omega) (by omega)
  rw [e] at this
  exact this.symm

/-- Another byte between date and time. -/
theorem small_same {s : ByteArray} {c : Int} {u : ByteArray} (hu : u = strOfNums [c]) (hc : c = 116 ∨ c = 32) (h : (stR s (cutP s)).ok = true) :
    stR (s.extract 0 10 ++ u ++ s.extract 11 s.size) (cutP (s.extract 0 10 ++ u ++ s.extract 11 s.size)) = stR s (cutP s) ∧ (s.extract 0 10 ++ u ++ s.extract 11 s.size).size = s.size ∧ 11 ≤ s.size := by
  have hA := (stR_ok h).1
  have hA2 := (stAt_iff.1 hA).2.2.1
  have hsz : 11 ≤ s.size := by omega
  have z1 : (s.extract 0 10).size = 10 := size_ext (by omega)
  have z2 : u.size = 1 := by rw [hu, strOfNums_size]; rfl
  have z3 : (s.extract 11 s.size).size = s.size - 11 := size_ext (Nat.le_refl _)
  have hz : (s.extract 0 10 ++ u ++ s.extract 11 s.size).size = s.size := by
    simp only [ByteArray.size_append]
    omega
  have hu0 : bt u 0 = c := by
    rw [hu]
    exact (bt_strOf _ 0 (by intro x hx; simp only [List.mem_singleton] at hx; omega)).trans rfl
  have z12 : (s.extract 0 10 ++ u).size = 11 := by rw [ByteArray.size_append]; omega
  have h10 : bt (s.extract 0 10 ++ u ++ s.extract 11 s.size) 10 = c := by
    rw [bt_app_left (by omega)]
    have := bt_app_right (a := s.extract 0 10) (b := u) (i := 0) (by omega)
    rw [z1] at this
    exact this.trans hu0
  have hi : ∀ i, i ≠ 10 → bt (s.extract 0 10 ++ u ++ s.extract 11 s.size) i = bt s i := fun i hne => by
    by_cases h1 : i < 10
    · rw [bt_app_left (by omega), bt_app_left (by omega), bt_extract (by omega) (by omega), Nat.zero_add]
    · by_cases h2 : i < s.size
      · have := bt_app_right (a := s.extract 0 10 ++ u) (b := s.extract 11 s.size) (i := i - 11) (by omega)
        rw [z12, show 11 + (i - 11) = i by omega] at this
        rw [this, bt_extract (Nat.le_refl _) (by omega), show 11 + (i - 11) = i by omega]
      · rw [bt_end _ (by omega), bt_end _ (by omega)]
  refine ⟨stAt_same hz hi (by rw [h10]; omega) hA, hz, hsz⟩

theorem law_FnStampFromSmall (a : Option Addr) (n c : Nat) (w : World) (hc : n ≤ 1048576 → CodeAt w (.slice a n c)) (hb : D.Base w) (hg : Hdl w) :
    Calls Tryz.prog 3 #[.slice a n c] w fun e w' => e = .returned (.bool true) ∧ Below w.heap.size w w' := by
  by_cases hn : n ≤ 1048576
  · refine enter Tryz.func3 rfl Tryz.ntmps3 rfl (by assumption) ?_
    (repeat' (first | intro (b : Nat) | refine go ?_ | (refine br ?_ ?_ <;> first | exact trivial | intro hq)))
    (refine L.vcall (h := by intro W hW; exact d_StampFromS _ W ((hc hn).keep hW.low) hW.base) (k := ?_); intro v hR)
    obtain ⟨t, rfl, hz⟩ := hR
    have hA := a_StampFrom t (by omega)
    have hB := b_StampFrom t (by omega)
    cases hok : (stR t (cutP t)).ok with
    | false =>
      generalize stR t (cutP t) = S at *
      obtain ⟨y, m, d, h, i, s, k, o, ok⟩ := S
      simp only [srV] at hA hB
      simp only at hok
      subst hok
      (repeat' (first | intro (b : Nat) | refine go ?_ | (refine br ?_ ?_ <;> first | exact trivial | intro hq) | refine L.call (h := by intro W hW; first | apply hA W hW.base (hW.old hg) | apply hB W hW.base) (k := ?_) | refine gg ?_ | refine G.call (h := by intro W hW; first | apply hA W hW.base (hW.old hg) | apply hB W hW.base) (k := ?_) | (apply C.draww (id := 8) 11 [none, none, none, none, none, none, some _, none, none, none, some _]) | (apply C.draww (id := 9) 11 [none, none, none, none, none, none, some _, none, none, none, some _])))
      all_goals (refine ret ?_; try exact rfl)
      all_goals simp [tupleOf]
    | true =>
      obtain ⟨e1, z1, hsz⟩ := small_same (u := ⟨#[32]⟩) (c := 32) rfl (.inr rfl) hok
      obtain ⟨e2, z2, -⟩ := small_same (u := ⟨#[116]⟩) (c := 116) rfl (.inl rfl) hok
      have hC := a_StampFrom (t.extract 0 10 ++ ⟨#[32]⟩ ++ t.extract 11 t.size) (by omega)
      have hD := a_StampFrom (t.extract 0 10 ++ ⟨#[116]⟩ ++ t.extract 11 t.size) (by omega)
      rw [e1] at hC
      rw [e2] at hD
      clear e1 e2 z1 z2
      have y1 : (t.extract 0 (10 : Int).toNat).size ≤ 1000 := by rw [ByteArray.size_extract]; omega
      have y2 : (t.extract (11 : Int).toNat t.size).size ≤ 1000 := by rw [ByteArray.size_extract]; omega
      generalize stR t (cutP t) = S at *
      obtain ⟨y, m, d, h, i, s, k, o, ok⟩ := S
      simp only [srV] at hA hB hC hD
      simp only at hok
      subst hok
      (repeat' (first | intro (b : Nat) | refine go ?_ | (refine br ?_ ?_ <;> first | exact trivial | intro hq) | refine L.call (h := by intro W hW; first | apply hA W hW.base (hW.old hg) | apply hB W hW.base | apply hC W hW.base (hW.old hg) | apply hD W hW.base (hW.old hg)) (k := ?_) | refine gg ?_ | refine G.call (h := by intro W hW; first | apply hA W hW.base (hW.old hg) | apply hB W hW.base | apply hC W hW.base (hW.old hg) | apply hD W hW.base (hW.old hg)) (k := ?_) | (apply C.draww (id := 8) 11 [none, none, none, none, none, none, some _, none, none, none, some _]) | (apply C.draww (id := 9) 11 [none, none, none, none, none, none, some _, none, none, none, some _])))
      all_goals (refine ret ?_; try exact rfl)
      all_goals simp [tupleOf]
  · refine enter Tryz.func3 rfl Tryz.ntmps3 rfl (by assumption) ?_
    (repeat' (first | intro (b : Nat) | refine go ?_ | (refine br ?_ ?_ <;> first | exact trivial | intro hq)))
    (refine ret ?_; try exact rfl)

end D
end Go.Proofs.YtdafjaimljhcaaaGreatDoor
