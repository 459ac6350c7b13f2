/- Walks: repeats that are drawn. -/
import Derived.Test.YtpgbmohocfcjpaaGreatDoorDr7
import Derived.Test.YtpgbmohocfcjpaaGreatDoorRp5
namespace Go.Proofs.YtpgbmohocfcjpaaGreatDoor
set_option linter.unusedVariables false
set_option linter.unusedSimpArgs false
set_option maxRecDepth 100000
set_option maxHeartbeats 1000000
namespace D
open Go.RowKit
attribute [local irreducible] Calls

def SomeRepeat (v : Value) : Prop := ∃ (S : SR) (p : P6) (n : Int), v = ra S p n

theorem d_repeat (w0 : World) (F : SH) (s : Value) (r : Nat) (p : Int) (hc : CodeAt w0 s) (hp0 : 0 ≤ p) (hp : p ≤ 100000000) (w : World) (hst : St w0 ((r, rb s p) :: F) w) :
    Calls Tryz.prog 96 #[.pointer (some ⟨r, 0, none⟩)] w (LentV w0 r (rb s) p 100 F SomeRepeat) := by
  refine enterl Tryz.func96 rfl Tryz.ntmps96 rfl hst ?_
  (repeat (first | intro (b : Nat) | refine go ?_))
  (refine L.lcall (bs := rb s) (h := by intro W hW; exact d_sound _ _ _ _ _ hc (by omega) (by omega) W hW) (k := ?_); intro v p1 hR hp1 hp2)
  obtain ⟨y, mo, d, h, i, s', k, o, rfl, hv⟩ := hR
  (repeat (first | intro (b : Nat) | refine go ?_))
  (refine L.lcall (bs := rb s) (h := by intro W hW; exact d_period _ _ _ _ _ hc (by omega) (by omega) W hW) (k := ?_); intro v p1 hR hp1 hp2)
  obtain ⟨⟨qa, qb, qc, qd, qe, qf⟩, rfl⟩ := hR
  (repeat (first | intro (b : Nat) | refine go ?_))
  (refine L.lcall (bs := rb s) (h := by intro W hW; exact d_pick1 _ _ _ _ _ _ hc (by omega) (by omega) (by omega) W hW) (k := ?_); intro v p1 hR hp1 hp2; obtain ⟨m, rfl, hm0, hm1⟩ := hR)
  have hV := b_RepeatValid ⟨y, mo, d, h, i, s', k, o, true⟩ ⟨qa, qb, qc, qd, qe, qf⟩ m
  generalize repOk ⟨y, mo, d, h, i, s', k, o, true⟩ ⟨qa, qb, qc, qd, qe, qf⟩ m = bV at hV
  (repeat (first | intro (b : Nat) | refine go ?_))
  (refine L.call (h := by intro W hW; exact hV W hW.base) (k := ?_))
  cases bV
  all_goals (repeat' (first | intro (b : Nat) | refine go ?_ | (refine br ?_ ?_ <;> first | exact trivial | intro hq) | (refine L.lcall (bs := rb s) (h := by intro W hW; exact d_pick1 _ _ _ _ _ _ hc (by omega) (by omega) (by omega) W hW) (k := ?_); intro v p1 hR hp1 hp2; obtain ⟨m, rfl, hm0, hm1⟩ := hR) | (apply L.li (lo := -100000000) (hi := 100000000); exact rfl; exact rfl; exact rfl; (· (repeat (first | exact List.Mem.head _ | apply List.Mem.tail))); (· simp <;> omega); (· (repeat (first | exact AllI.nil | (apply AllI.cons; omega; omega)))); intro m hm0 hm1)))
  all_goals (refine retl ?_)
  all_goals exact ⟨⟨_, _, _, _, _, _, _, _, true⟩, ⟨_, _, _, _, _, _⟩, _, rfl⟩

theorem d_RepeatTextD (s0 : Value) (w : World) (hc0 : CodeAt w s0) (hb : D.Base w) : Calls Tryz.prog 41 #[s0] w (RetV w SomeRepeat) := by
  refine enter Tryz.func41 rfl Tryz.ntmps41 rfl (by assumption) ?_
  (repeat (first | intro (b : Nat) | refine go ?_))
  (refine L.ncall (h := by intro W hW; exact d_open w s0 hc0 W hW.base) (k := ?_); intro v H hR)
  obtain ⟨r, s, rfl, rfl, hc⟩ := hR
  simp only [List.cons_append, List.nil_append]
  (repeat (first | intro (b : Nat) | refine go ?_))
  (refine L.lcall (bs := rb s) (h := by intro W hW; exact d_repeat _ _ _ _ _ hc (by omega) (by omega) W hW) (k := ?_); intro v p1 hR hp1 hp2)
  obtain ⟨S, q, n, rfl⟩ := hR
  (repeat (first | intro (b : Nat) | refine go ?_))
  (refine retw ?_)
  exact ⟨_, _, _, rfl⟩

theorem repT_size (S : SR) (p : P6) (n : Int) : (repT S p n).size ≤ 100 := by
  unfold repT
  cases h : repOk S p n with
  | false =>
    rw [if_neg (by decide)]
    decide
  | true =>
    rw [if_pos rfl, rtx_size, rhead_size]
    obtain ⟨h1, h2, h3⟩ := repOk_iff h
    have zA : (txS S).size ≤ 40 := stL_size.2
    have zB := perL_size p h2
    have := (decL_len n).2
    omega

theorem d_RepeatFromD (s0 : Value) (w : World) (hc0 : CodeAt w s0) (hb : D.Base w) : Calls Tryz.prog 44 #[s0] w (RetV w (StrIn 1000)) := by
  refine enter Tryz.func44 rfl Tryz.ntmps44 rfl (by assumption) ?_
  (repeat (first | intro (b : Nat) | refine go ?_))
  (refine L.ncall (h := by intro W hW; exact d_open w s0 hc0 W hW.base) (k := ?_); intro v H hR)
  obtain ⟨r, s, rfl, rfl, hc⟩ := hR
  simp only [List.cons_append, List.nil_append]
  (repeat (first | intro (b : Nat) | refine go ?_))
  (refine L.lcall (bs := rb s) (h := by intro W hW; exact d_repeat _ _ _ _ _ hc (by omega) (by omega) W hW) (k := ?_); intro v p1 hR hp1 hp2)
  obtain ⟨S, q, n, rfl⟩ := hR
  have hz := repT_size S q n
  have hT := b_RepeatText S q n
  generalize repT S q n = t at *
  (repeat (first | intro (b : Nat) | refine go ?_))
  (refine L.call (h := by intro W hW; exact hT W hW.base) (k := ?_))
  (repeat (first | intro (b : Nat) | refine go ?_))
  (refine L.lcall (bs := rb s) (h := by intro W hW; exact d_pick1 _ _ _ _ _ _ hc (by omega) (by omega) (by omega) W hW) (k := ?_); intro v p1 hR hp1 hp2; obtain ⟨m, rfl, hm0, hm1⟩ := hR)
  (repeat' (first | intro (b : Nat) | refine go ?_ | (refine br ?_ ?_ <;> first | exact trivial | intro hq)))
  all_goals first
    | ((refine L.lcall (bs := rb s) (h := by intro W hW; exact d_of _ _ s r _ hc (by omega) (by omega) _ 4 10 _ rfl (by omega) (List.Mem.head _) (by repeat (first | exact AllS.nil | (refine AllS.cons (by decide) ?_))) W hW) (k := ?_); intro v p1 hR hp1 hp2)
       obtain ⟨v1, rfl, hv1⟩ := hR
       (repeat (first | intro (b : Nat) | refine go ?_))
       (refine retw ?_)
       exact ⟨_, rfl, by simp only [ByteArray.size_append, strOfNums_size, List.length_cons, List.length_nil, size_lit]; omega⟩)
    | ((refine L.lcall (bs := rb s) (h := by intro W hW; exact d_of _ _ s r _ hc (by omega) (by omega) _ 7 60 _ rfl (by omega) (List.Mem.head _) (by repeat (first | exact AllS.nil | (refine AllS.cons (by decide) ?_))) W hW) (k := ?_); intro v p1 hR hp1 hp2)
       obtain ⟨v1, rfl, hv1⟩ := hR
       (repeat (first | intro (b : Nat) | refine go ?_))
       (refine retw ?_)
       exact ⟨_, rfl, by omega⟩)
    | ((refine retw ?_)
       exact ⟨_, rfl, by omega⟩)

end D
end Go.Proofs.YtpgbmohocfcjpaaGreatDoor

namespace Go.Proofs.YtpgbmohocfcjpaaGreatDoor
set_option linter.unusedVariables false
set_option linter.unusedSimpArgs false
set_option maxRecDepth 100000
set_option maxHeartbeats 1000000
namespace D
open Go.RowKit
attribute [local irreducible] Calls

theorem law_FnRepeatText (a : Option Addr) (n c : Nat) (w : World) (hc : n ≤ 1048576 → CodeAt w (.slice a n c)) (hb : D.Base w) (hg : Hdl w) (hp : Pw w) :
    Calls Tryz.prog 13 #[.slice a n c] w fun e w' => e = .returned (.bool true) ∧ Below w.heap.size w w' := by
  by_cases hn : n ≤ 1048576
  · refine enter Tryz.func13 rfl Tryz.ntmps13 rfl (by assumption) ?_
    (repeat' (first | intro (b : Nat) | refine go ?_ | (refine br ?_ ?_ <;> first | exact trivial | intro hq)))
    (refine L.vcall (h := by intro W hW; exact d_RepeatTextD _ W ((hc hn).keep hW.low) hW.base) (k := ?_); intro v hR)
    obtain ⟨S, p, k, rfl⟩ := hR
    have hA := a_RepeatText S p k
    have hB := b_RepeatText S p k
    have hz := repT_size S p k
    cases hv : repOk S p k with
    | false =>
      rw [show repT S p k = ⟨#[]⟩ from if_neg (by simp [hv])] at hA hB
      (repeat' (first | intro (b : Nat) | refine go ?_ | (refine br ?_ ?_ <;> first | exact trivial | intro hq) | refine L.call (h := by intro W hW; first | apply hA W hW.base (hp.old hW) | apply hB W hW.base) (k := ?_)))
      all_goals (refine ret ?_; try exact rfl)
      all_goals simp [tupleOf]
    | true =>
      have hF := a_RepeatFromR (repT S p k) (by omega)
      have e : repT S p k = rtx k (txS S) (strOfNums (perL p)) := if_pos hv
      rw [show repR (repT S p k) = .tuple #[ra S p k, .bool true] by rw [e]; exact rtx_back hv] at hF
      have hne : ¬ repT S p k = ⟨#[]⟩ := fun h => by
        have h1 := rtx_size k (txS S) (strOfNums (perL p))
        rw [← e, h] at h1
        have h2 : (⟨#[]⟩ : ByteArray).size = 0 := rfl
        omega
      clear e
      generalize repT S p k = t at *
      (repeat' (first | intro (b : Nat) | refine go ?_ | (refine br ?_ ?_ <;> first | exact trivial | intro hq) | refine L.call (h := by intro W hW; first | apply hA W hW.base (hp.old hW) | apply hB W hW.base | apply hF W hW.base (hW.old hg)) (k := ?_)))
      all_goals (try (exfalso; contradiction))
      all_goals (refine ret ?_; try exact rfl)
      all_goals simp [tupleOf]
  · refine enter Tryz.func13 rfl Tryz.ntmps13 rfl (by assumption) ?_
    (repeat' (first | intro (b : Nat) | refine go ?_ | (refine br ?_ ?_ <;> first | exact trivial | intro hq)))
    (refine ret ?_; try exact rfl)

theorem law_FnRepeatFrom (a : Option Addr) (n c : Nat) (w : World) (hc : n ≤ 1048576 → CodeAt w (.slice a n c)) (hb : D.Base w) (hg : Hdl w) (hp : Pw w) :
    Calls Tryz.prog 14 #[.slice a n c] w fun e w' => e = .returned (.bool true) ∧ Below w.heap.size w w' := by
  by_cases hn : n ≤ 1048576
  · refine enter Tryz.func14 rfl Tryz.ntmps14 rfl (by assumption) ?_
    (repeat' (first | intro (b : Nat) | refine go ?_ | (refine br ?_ ?_ <;> first | exact trivial | intro hq)))
    (refine L.vcall (h := by intro W hW; exact d_RepeatFromD _ W ((hc hn).keep hW.low) hW.base) (k := ?_); intro v hR)
    obtain ⟨t, rfl, hz⟩ := hR
    have hA := a_RepeatFromR t (by omega)
    have hB := b_RepeatFromR t (by omega)
    obtain ⟨S, p, k, ok, e, hv⟩ := repR_form t
    rw [e] at hA hB
    cases ok with
    | false =>
      clear hv
      (repeat' (first | intro (b : Nat) | refine go ?_ | (refine br ?_ ?_ <;> first | exact trivial | intro hq) | refine L.call (h := by intro W hW; first | apply hA W hW.base (hW.old hg) | apply hB W hW.base) (k := ?_)))
      all_goals (refine ret ?_; try exact rfl)
      all_goals simp [tupleOf]
    | true =>
      have hok := hv rfl
      have hT := a_RepeatText S p k
      have hV := a_RepeatValid S p k
      have hz2 := repT_size S p k
      have hF := a_RepeatFromR (repT S p k) (by omega)
      rw [show repR (repT S p k) = .tuple #[ra S p k, .bool true] by rw [show repT S p k = rtx k (txS S) (strOfNums (perL p)) from if_pos hok]; exact rtx_back hok] at hF
      rw [hok] at hV
      generalize repT S p k = u at *
      clear e hv
      (repeat' (first | intro (b : Nat) | refine go ?_ | (refine br ?_ ?_ <;> first | exact trivial | intro hq) | refine L.call (h := by intro W hW; first | apply hA W hW.base (hW.old hg) | apply hB W hW.base | apply hT W hW.base (hp.old hW) | apply hF W hW.base (hW.old hg) | apply hV W hW.base) (k := ?_)))
      all_goals (refine ret ?_; try exact rfl)
      all_goals simp [tupleOf]
  · refine enter Tryz.func14 rfl Tryz.ntmps14 rfl (by assumption) ?_
    (repeat' (first | intro (b : Nat) | refine go ?_ | (refine br ?_ ?_ <;> first | exact trivial | intro hq)))
    (refine ret ?_; try exact rfl)

end D
end Go.Proofs.YtpgbmohocfcjpaaGreatDoor
