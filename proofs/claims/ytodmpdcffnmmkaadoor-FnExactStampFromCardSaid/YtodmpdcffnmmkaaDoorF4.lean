/- Walks: stamps of texts and texts of stamps of the program. -/
import Derived.Test.YtodmpdcffnmmkaaDoorF3
import Derived.Test.YtodmpdcffnmmkaaDoorG4
namespace Go.Proofs.YtodmpdcffnmmkaaDoor
set_option linter.unusedVariables false
set_option linter.unusedSimpArgs false
set_option maxRecDepth 100000
set_option maxHeartbeats 1000000
namespace D
open Go.RowKit
open Go.PlainAid (bt bt_nonneg bt_le bt_end)
attribute [local irreducible] Calls

/-- The program's two ways to look for a time. -/
theorem a_ClockFrom (s : ByteArray) (hs : s.size ≤ 1000000000000) (w : World) (hb : D.Base w) (hg : Hdl w) : Calls Tryd.prog 13 #[.string s] w fun e w' => e = .returned (cfV s) ∧ Below w.heap.size w w' := by
  refine enter Tryd.func13 rfl Tryd.ntmps13 rfl (by assumption) ?_
  (repeat (first | intro (b : Nat) | refine go ?_))
  refine C.rounds 4 ?_
  (repeat (first | intro (b : Nat) | refine go ?_))
  revert b; intro r1
  (refine L.tcallR r1 (h := by intro W hW; exact a_clock1 _ _ r1 s hs W hW) (k := ?_); intro v H hR)
  simp only [ClkR, b2, if_true, Nat.mul_one, Nat.reduceAdd] at hR
  rcases hR with ⟨hk, rfl, q, rfl⟩ | ⟨hk, be, p, q, rfl, rfl⟩
  · rw [show cfV s = .tuple #[.agg #[.int .i64 (numL s 0 2), .int .i64 (numL s 3 2), .int .i64 (numL s 6 2), .int .i64 (frK s 8)], .bool true, .bool true] from if_pos hk]
    clear hk
    generalize numL s 0 2 = y4 at *
    generalize numL s 3 2 = y5 at *
    generalize numL s 6 2 = y6 at *
    generalize frK s 8 = y7 at *
    (repeat (first | intro (b : Nat) | refine go ?_))
    (refine L.call (h := by intro W hW; exact as_no _ W hW.base) (k := ?_))
    (repeat (first | intro (b : Nat) | refine go ?_))
    (refine ret ?_; try exact rfl)
  · (repeat (first | intro (b : Nat) | refine go ?_))
    revert b; intro bt1
    (refine L.tcallb bt1 (h := by intro W hW; exact as_yes _ _ be bt1 _ hg W hW) (k := ?_))
    (repeat (first | intro (b : Nat) | refine go ?_))
    revert b; intro r2
    (refine L.tcallR r2 (h := by intro W hW; exact a_clock0 _ _ r2 s hs W hW) (k := ?_); intro v H hR)
    simp only [ClkR, b2, Bool.false_eq_true, if_false, Nat.mul_zero, Nat.add_zero] at hR
    rcases hR with ⟨hk2, rfl, q2, rfl⟩ | ⟨hk2, be2, p2, q2, rfl, rfl⟩
    · rw [show cfV s = .tuple #[.agg #[.int .i64 (numL s 0 2), .int .i64 (numL s 2 2), .int .i64 (numL s 4 2), .int .i64 (frK s 6)], .bool false, .bool true] from (if_neg (by simp [hk])).trans (if_pos hk2)]
      clear hk hk2
      generalize numL s 0 2 = y4 at *
      generalize numL s 2 2 = y5 at *
      generalize numL s 4 2 = y6 at *
      generalize frK s 6 = y7 at *
      (repeat (first | intro (b : Nat) | refine go ?_))
      (refine L.call (h := by intro W hW; exact as_no _ W hW.base) (k := ?_))
      (repeat (first | intro (b : Nat) | refine go ?_))
      (refine ret ?_; try exact rfl)
    · rw [show cfV s = .tuple #[.agg #[.int .i64 0, .int .i64 0, .int .i64 0, .int .i64 0], .bool false, .bool false] from (if_neg (by simp [hk])).trans (if_neg (by simp [hk2]))]
      clear hk hk2
      (repeat (first | intro (b : Nat) | refine go ?_))
      revert b; intro bt2
      (refine L.tcallb bt2 (h := by intro W hW; exact as_yes _ _ be2 bt2 _ hg W hW) (k := ?_))
      (repeat (first | intro (b : Nat) | refine go ?_))
      (refine ret ?_; try exact rfl)

theorem srV_noA : srV SR.no = .tuple #[.agg #[.int .i64 0, .int .i64 0, .int .i64 0, .int .i64 0, .int .i64 0, .int .i64 0, .int .i64 0, .int .i64 0], .bool false] := rfl

theorem stR_notA {s : ByteArray} {a : Nat} (h : ¬ stAt s a = true) : stR s a = SR.no := if_neg h

theorem cfV_noA {c : ByteArray} (h : clkOk c true = false) : ∃ (a b d e : Int) (co ok : Bool), cfV c = .tuple #[.agg #[.int .i64 a, .int .i64 b, .int .i64 d, .int .i64 e], .bool co, .bool ok] ∧ (ok = false ∨ (ok = true ∧ co = false)) := by
  unfold cfV
  rw [if_neg (by simp [h])]
  split
  · exact ⟨_, _, _, _, _, _, rfl, .inr ⟨rfl, rfl⟩⟩
  · exact ⟨_, _, _, _, _, _, rfl, .inl rfl⟩

theorem ofV_someA (c : ByteArray) : ∃ (a : Int) (ok : Bool), ofV c = .tuple #[.int .i64 a, .bool ok] := by
  unfold ofV
  split
  · exact ⟨_, _, rfl⟩
  · exact ⟨_, _, rfl⟩

/-- What both looks give, as the program puts it together. -/
theorem stR_parts {s : ByteArray} {a : Nat} (hd : dOk s = true) (hsep : sepOk s = true) (ha : 11 ≤ a ∧ a ≤ s.size) :
    (∃ (c1 c2 c3 c4 o : Int) (co ok ok2 : Bool), cfV (s.extract 11 a) = .tuple #[.agg #[.int .i64 c1, .int .i64 c2, .int .i64 c3, .int .i64 c4], .bool co, .bool ok] ∧ ofV (s.extract a s.size) = .tuple #[.int .i64 o, .bool ok2] ∧
      ((ok = true ∧ co = true ∧ ok2 = true ∧ stR s a = ⟨numL s 0 4, numL s 5 2, numL s 8 2, c1, c2, c3, c4, o, true⟩) ∨ ((ok = false ∨ (ok = true ∧ co = false) ∨ (ok = true ∧ co = true ∧ ok2 = false)) ∧ stR s a = SR.no))) := by
  cases hc : clkOk (s.extract 11 a) true with
  | false =>
    obtain ⟨c1, c2, c3, c4, co, ok, ec, hor⟩ := cfV_noA hc
    obtain ⟨o, ok2, eo⟩ := ofV_someA (s.extract a s.size)
    refine ⟨c1, c2, c3, c4, o, co, ok, ok2, ec, eo, .inr ⟨?_, stR_notA fun h => by have := (stAt_iff.1 h).2.2.2.1; rw [hc] at this; cases this⟩⟩
    rcases hor with h | h
    · exact .inl h
    · exact .inr (.inl h)
  | true =>
    have ec : cfV (s.extract 11 a) = .tuple #[.agg #[.int .i64 (numL (s.extract 11 a) 0 2), .int .i64 (numL (s.extract 11 a) 3 2), .int .i64 (numL (s.extract 11 a) 6 2), .int .i64 (frK (s.extract 11 a) 8)], .bool true, .bool true] := if_pos hc
    cases ho : ofOk (s.extract a s.size) with
    | false =>
      have eo : ofV (s.extract a s.size) = .tuple #[.int .i64 0, .bool false] := if_neg (by simp [ho])
      exact ⟨_, _, _, _, _, _, _, _, ec, eo, .inr ⟨.inr (.inr ⟨rfl, rfl, rfl⟩), stR_notA fun h => by have := (stAt_iff.1 h).2.2.2.2; rw [ho] at this; cases this⟩⟩
    | true =>
      have eo : ofV (s.extract a s.size) = .tuple #[.int .i64 (ofN (s.extract a s.size)), .bool true] := if_pos ho
      exact ⟨_, _, _, _, _, _, _, _, ec, eo, .inl ⟨rfl, rfl, rfl, if_pos (stAt_iff.2 ⟨hd, hsep, ha, hc, ho⟩)⟩⟩

end D
end Go.Proofs.YtodmpdcffnmmkaaDoor
