/- The walk of the exact law on repeats. -/
import Derived.Test.YtpgbmohocfcjpaaGreatDoorRp3
import Derived.Test.YtpgbmohocfcjpaaGreatDoorRp4
namespace Go.Proofs.YtpgbmohocfcjpaaGreatDoor
set_option linter.unusedVariables false
set_option linter.unusedSimpArgs false
set_option maxRecDepth 100000
set_option maxHeartbeats 1000000
namespace D
open Go.RowKit
attribute [local irreducible] Calls

open Classical in
/-- The repeat of a text, as a value. -/
noncomputable def repR0 (s : ByteArray) : Value := if h : ∃ k, rOne s k then repAt s (Classical.choose h) else repNo
theorem repR0_yes {s : ByteArray} {k : Nat} (h : rOne s k) : repR0 s = repAt s k := by
  have hh : ∃ k, rOne s k := ⟨k, h⟩
  unfold repR0
  rw [dif_pos hh]
  rw [h.2 _ (Classical.choose_spec hh).1]
theorem repR0_no {s : ByteArray} (h : ∀ k, ¬ rOne s k) : repR0 s = repNo := by
  unfold repR0
  rw [dif_neg fun ⟨j, hj⟩ => h j hj]
theorem repP0_eq {s : ByteArray} {v : Value} (h : RepP s v) : v = repR0 s := by
  rcases h with ⟨k, hk, rfl⟩ | ⟨hk, rfl⟩
  · by_cases h1 : rOne s k
    · rw [repR0_yes h1]
    · have hno : ∀ i, ¬ rOne s i := fun i hi => h1 (by rw [hi.2 k hk]; exact hi)
      rw [repR0_no hno, repAt_two hk hno]
  · rw [repR0_no fun k h => hk k h.1]
theorem repRR0_eq {s : ByteArray} {v : Value} (h : RepR s v) : v = repR0 s := by
  rcases h with ⟨k, hk, rfl⟩ | ⟨hk, rfl⟩
  · rw [repR0_yes hk]
  · rw [repR0_no hk]
theorem repR0_form (s : ByteArray) : ∃ (S : SR) (p : P6) (n : Int) (ok : Bool), repR0 s = .tuple #[ra S p n, .bool ok] := by
  by_cases h : ∃ k, rOne s k
  · obtain ⟨k, hk⟩ := h
    rw [repR0_yes hk]
    unfold repAt repV
    split
    · exact ⟨SR.no, P6.zero, 0, false, rfl⟩
    · split
      · exact ⟨_, _, _, true, rfl⟩
      · exact ⟨SR.no, P6.zero, 0, false, rfl⟩
  · rw [repR0_no fun k hk => h ⟨k, hk⟩]
    exact ⟨SR.no, P6.zero, 0, false, rfl⟩

theorem law_FnExactRepeatFrom (s : ByteArray) (w : World) (hb : D.Base w) (hg : Hdl w) :
    Calls Tryz.prog 12 #[.string s] w fun e w' => e = .returned (.bool true) ∧ Below w.heap.size w w' := by
  by_cases hn : s.size ≤ 1048576
  · have hA : ∀ w, D.Base w → Hdl w → Calls Tryz.prog 39 #[.string s] w fun e w' => e = .returned (repR0 s) ∧ Below w.heap.size w w' := fun w hb hg =>
      Calls.mono (a_RepeatFrom s (by omega) w hb hg) fun e w' ⟨v, he, hR, hB⟩ => ⟨by rw [he, repP0_eq hR], hB⟩
    have hB : ∀ w, D.Base w → Calls Tryz.prog 38 #[.string s] w fun e w' => e = .returned (repR0 s) ∧ Below w.heap.size w w' := fun w hb =>
      Calls.mono (b_RepeatFrom s (by omega) w hb) fun e w' ⟨v, he, hR, hB⟩ => ⟨by rw [he, repRR0_eq hR], hB⟩
    obtain ⟨S, p, n, ok, e⟩ := repR0_form s
    rw [e] at hA hB
    have hE := l_eqRepeat S p n
    cases ok
    all_goals
      refine enter Tryz.func12 rfl Tryz.ntmps12 rfl (by assumption) ?_
      (repeat' (first | intro (b : Nat) | refine go ?_ | (refine br ?_ ?_ <;> first | exact trivial | intro hq) | refine L.call (h := by intro W hW; first | apply hA W hW.base (hW.old hg) | apply hB W hW.base | apply hE W hW.base) (k := ?_)))
      all_goals (refine ret ?_; try exact rfl)
  · refine enter Tryz.func12 rfl Tryz.ntmps12 rfl (by assumption) ?_
    (repeat' (first | intro (b : Nat) | refine go ?_ | (refine br ?_ ?_ <;> first | exact trivial | intro hq)))
    (refine ret ?_; try exact rfl)

end D
end Go.Proofs.YtpgbmohocfcjpaaGreatDoor
