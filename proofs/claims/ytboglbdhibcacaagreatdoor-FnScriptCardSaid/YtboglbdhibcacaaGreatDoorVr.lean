/- Walks: scripts are drawn; what the laws do to scripts. -/
import Derived.Test.YtboglbdhibcacaaGreatDoorVo
import Derived.Test.YtboglbdhibcacaaGreatDoorVq
import Derived.Test.YtboglbdhibcacaaGreatDoorVRl
namespace Go.Proofs.YtboglbdhibcacaaGreatDoor
set_option linter.unusedVariables false
set_option linter.unusedSimpArgs false
set_option maxRecDepth 100000
set_option maxHeartbeats 2000000
namespace D
open Go.RowKit
open Go.PlainAid (bt bt_nonneg bt_le bt_end)
attribute [local irreducible] Calls

theorem d_line (w0 : World) (F : SH) (s : Value) (r : Nat) (p : Int) (hc : CodeAt w0 s) (hp0 : 0 ≤ p) (hp : p ≤ 1000000) (w : World) (hst : St w0 ((r, rb s p) :: F) w) :
    Calls Tryz.prog 19 #[.pointer (some ⟨r, 0, none⟩)] w (LentV w0 r (rb s) p 300 F (StrIn 700)) := by
  refine enterl Tryz.func19 rfl Tryz.ntmps19 rfl hst ?_
  (repeat (first | intro (b : Nat) | refine go ?_))
  (refine L.lcall (bs := rb s) (h := by intro W hW; exact d_pick1 _ _ _ _ _ _ hc (by omega) (by omega) (by omega) W hW) (k := ?_); intro v p1 hR hp1 hp2; obtain ⟨m, rfl, hm0, hm1⟩ := hR)
  (repeat' (first | intro (b : Nat) | refine go ?_ | (refine br ?_ ?_ <;> first | exact trivial | intro hq)))
  · (refine L.lcall (bs := rb s) (h := by intro W hW; exact d_DateTextT _ _ _ _ _ hc (by omega) (by omega) W hW) (k := ?_); intro v p1 hR hp1 hp2)
    obtain ⟨u, rfl, hu⟩ := hR
    (repeat (first | intro (b : Nat) | refine go ?_))
    (refine retl ?_)
    exact ⟨_, rfl, by simp only [ByteArray.size_append, size_lit, List.size_toArray, List.length_cons, List.length_nil]; omega⟩
  · (refine L.lcall (bs := rb s) (h := by intro W hW; exact d_StampTextT _ _ _ _ _ hc (by omega) (by omega) W hW) (k := ?_); intro v p1 hR hp1 hp2)
    obtain ⟨u, rfl, hu⟩ := hR
    (repeat (first | intro (b : Nat) | refine go ?_))
    (refine retl ?_)
    exact ⟨_, rfl, by simp only [ByteArray.size_append, size_lit, List.size_toArray, List.length_cons, List.length_nil]; omega⟩
  · (refine L.lcall (bs := rb s) (h := by intro W hW; exact d_of _ _ s r _ hc (by omega) (by omega) _ 5 60 _ rfl (by omega) (List.Mem.head _) (by repeat (first | exact AllS.nil | (refine AllS.cons (by decide) ?_))) W hW) (k := ?_); intro v p1 hR hp1 hp2)
    obtain ⟨u, rfl, hu⟩ := hR
    (repeat (first | intro (b : Nat) | refine go ?_))
    (refine retl ?_)
    exact ⟨_, rfl, by simp only [ByteArray.size_append, size_lit, List.size_toArray, List.length_cons, List.length_nil]; omega⟩
  · (refine L.lcall (bs := rb s) (h := by intro W hW; exact d_StampTextT _ _ _ _ _ hc (by omega) (by omega) W hW) (k := ?_); intro v p1 hR hp1 hp2)
    obtain ⟨u, rfl, hu⟩ := hR
    have hz : (⟨#[112, 108, 117, 115, 32]⟩ ++ u : ByteArray).size = 5 + u.size := ByteArray.size_append
    have hz2 : (⟨#[112, 108, 117, 115, 32]⟩ ++ u ++ ⟨#[32]⟩ : ByteArray).size = 5 + u.size + 1 := by rw [ByteArray.size_append, hz]; rfl
    (repeat (first | intro (b : Nat) | refine go ?_))
    (refine L.lcall (bs := rb s) (h := by intro W hW; exact d_PeriodTextT _ _ _ _ _ hc (by omega) (by omega) W hW) (k := ?_); intro v p1 hR hp1 hp2)
    obtain ⟨u2, rfl, hu2⟩ := hR
    (repeat (first | intro (b : Nat) | refine go ?_))
    (refine retl ?_)
    exact ⟨_, rfl, by rw [ByteArray.size_append]; omega⟩
  · (refine L.lcall (bs := rb s) (h := by intro W hW; exact d_StampTextT _ _ _ _ _ hc (by omega) (by omega) W hW) (k := ?_); intro v p1 hR hp1 hp2)
    obtain ⟨u, rfl, hu⟩ := hR
    have hz : (⟨#[109, 105, 110, 117, 115, 32]⟩ ++ u : ByteArray).size = 6 + u.size := ByteArray.size_append
    have hz2 : (⟨#[109, 105, 110, 117, 115, 32]⟩ ++ u ++ ⟨#[32]⟩ : ByteArray).size = 6 + u.size + 1 := by rw [ByteArray.size_append, hz]; rfl
    (repeat (first | intro (b : Nat) | refine go ?_))
    (refine L.lcall (bs := rb s) (h := by intro W hW; exact d_PeriodTextT _ _ _ _ _ hc (by omega) (by omega) W hW) (k := ?_); intro v p1 hR hp1 hp2)
    obtain ⟨u2, rfl, hu2⟩ := hR
    (repeat (first | intro (b : Nat) | refine go ?_))
    (refine retl ?_)
    exact ⟨_, rfl, by rw [ByteArray.size_append]; omega⟩
  · (refine L.lcall (bs := rb s) (h := by intro W hW; exact d_DateTextT _ _ _ _ _ hc (by omega) (by omega) W hW) (k := ?_); intro v p1 hR hp1 hp2)
    obtain ⟨u, rfl, hu⟩ := hR
    have hz : (⟨#[98, 101, 116, 119, 101, 101, 110, 32]⟩ ++ u : ByteArray).size = 8 + u.size := ByteArray.size_append
    have hz2 : (⟨#[98, 101, 116, 119, 101, 101, 110, 32]⟩ ++ u ++ ⟨#[32]⟩ : ByteArray).size = 8 + u.size + 1 := by rw [ByteArray.size_append, hz]; rfl
    (repeat (first | intro (b : Nat) | refine go ?_))
    (refine L.lcall (bs := rb s) (h := by intro W hW; exact d_DateTextT _ _ _ _ _ hc (by omega) (by omega) W hW) (k := ?_); intro v p1 hR hp1 hp2)
    obtain ⟨u2, rfl, hu2⟩ := hR
    (repeat (first | intro (b : Nat) | refine go ?_))
    (refine retl ?_)
    exact ⟨_, rfl, by rw [ByteArray.size_append]; omega⟩
  · (refine L.lcall (bs := rb s) (h := by intro W hW; exact d_StampTextT _ _ _ _ _ hc (by omega) (by omega) W hW) (k := ?_); intro v p1 hR hp1 hp2)
    obtain ⟨u, rfl, hu⟩ := hR
    have hz : (⟨#[115, 112, 97, 110, 32]⟩ ++ u : ByteArray).size = 5 + u.size := ByteArray.size_append
    have hz2 : (⟨#[115, 112, 97, 110, 32]⟩ ++ u ++ ⟨#[47]⟩ : ByteArray).size = 5 + u.size + 1 := by rw [ByteArray.size_append, hz]; rfl
    (repeat (first | intro (b : Nat) | refine go ?_))
    (refine L.lcall (bs := rb s) (h := by intro W hW; exact d_PeriodTextT _ _ _ _ _ hc (by omega) (by omega) W hW) (k := ?_); intro v p1 hR hp1 hp2)
    obtain ⟨u2, rfl, hu2⟩ := hR
    (repeat (first | intro (b : Nat) | refine go ?_))
    (refine retl ?_)
    exact ⟨_, rfl, by rw [ByteArray.size_append]; omega⟩
  · (refine L.lcall (bs := rb s) (h := by intro W hW; exact d_of _ _ s r _ hc (by omega) (by omega) _ 6 60 _ rfl (by omega) (List.Mem.head _) (by repeat (first | exact AllS.nil | (refine AllS.cons (by decide) ?_))) W hW) (k := ?_); intro v p1 hR hp1 hp2)
    obtain ⟨u, rfl, hu⟩ := hR
    (repeat (first | intro (b : Nat) | refine go ?_))
    (refine retl ?_)
    exact ⟨_, rfl, by omega⟩

theorem half_le {a b n : Nat} (h : 2 * n ≤ b) : (a + a) * n ≤ a * b := by
  rw [← Nat.two_mul, Nat.mul_comm 2 a, Nat.mul_assoc]
  exact Nat.mul_le_mul_left a h
theorem d_many (s : ByteArray) (n : Int) (hs : s.size ≤ 10) (hn : 0 ≤ n ∧ n ≤ 100) (w : World) (hb : D.Base w) : Calls Tryz.prog 20 #[.string s, .int .i64 n] w (RetV w (StrIn 1000)) := by
  obtain ⟨m, rfl⟩ : ∃ m : Nat, n = m := ⟨n.toNat, by omega⟩
  have h0 : (⟨#[]⟩ : ByteArray).size + s.size * m ≤ 1000 := by
    show 0 + s.size * m ≤ 1000
    have : s.size * m ≤ 10 * 100 := Nat.mul_le_mul hs (by omega)
    omega
  refine enter Tryz.func20 rfl Tryz.ntmps20 rfl (by assumption) ?_
  (repeat (first | intro (b : Nat) | refine go ?_))
  refine C.loopw (Y := ByteArray × Nat × ByteArray) (fun k => [(0, .string k.1), (1, .int .i64 (k.2.1 : Int)), (5, .string k.2.2)]) (fun k => []) (fun k => k.2.2.size + k.1.size * k.2.1 ≤ 1000 ∧ k.2.1 ≤ 100 ∧ k.1.size ≤ 2000) (fun k => k.2.1) (s, m, ⟨#[]⟩) ⟨h0, by show m ≤ 100; omega, by show s.size ≤ 2000; omega⟩ (fun k hy => ?_)
  generalize k.1 = t at *
  generalize k.2.1 = q at *
  generalize k.2.2 = o at *
  obtain ⟨g1, g2, g4⟩ := hy
  have g3 : 0 < q → t.size ≤ 1000 := fun hq => by
    have : t.size * 1 ≤ t.size * q := Nat.mul_le_mul_left _ hq
    omega
  have ea : (o ++ t).size = o.size + t.size := ByteArray.size_append
  have et : (t ++ t).size = t.size + t.size := ByteArray.size_append
  by_cases h0 : 0 < q
  · have h1 := g3 h0
    by_cases ho : q % 2 = 1
    · have hf := half_le (a := t.size) (n := q / 2) (b := q - 1) (by omega)
      have hm : t.size * q = t.size * (q - 1) + t.size := by
        rw [← Nat.mul_succ]; congr 1; omega
      (repeat' (first | intro (b : Nat) | refine go ?_ | (refine br ?_ ?_ <;> first | exact trivial | intro hq)))
      (refine X.roundw (t ++ t, q / 2, o ++ t) ⟨by show (o ++ t).size + (t ++ t).size * (q / 2) ≤ 1000; rw [ea, et]; omega, by show q / 2 ≤ 100; omega, by show (t ++ t).size ≤ 2000; omega⟩ (by show q / 2 < q; omega))
    · have hf := half_le (a := t.size) (n := q / 2) (b := q) (by omega)
      (repeat' (first | intro (b : Nat) | refine go ?_ | (refine br ?_ ?_ <;> first | exact trivial | intro hq)))
      (refine X.roundw (t ++ t, q / 2, o) ⟨by show o.size + (t ++ t).size * (q / 2) ≤ 1000; rw [et]; omega, by show q / 2 ≤ 100; omega, by show (t ++ t).size ≤ 2000; omega⟩ (by show q / 2 < q; omega))
  · (repeat' (first | intro (b : Nat) | refine go ?_ | (refine br ?_ ?_ <;> first | exact trivial | intro hq)))
    (refine retw ?_)
    exact ⟨_, rfl, by omega⟩

theorem d_Execute (s0 : Value) (w : World) (hc0 : CodeAt w s0) (hb : D.Base w) : Calls Tryz.prog 12 #[s0] w (RetV w (StrIn 10000)) := by
  refine enter Tryz.func12 rfl Tryz.ntmps12 rfl (by assumption) ?_
  (repeat (first | intro (b : Nat) | refine go ?_))
  (refine L.ncall (h := by intro W hW; exact d_open w s0 hc0 W hW.base) (k := ?_); intro v H hR)
  obtain ⟨r, s, rfl, rfl, hc⟩ := hR
  simp only [List.cons_append, List.nil_append]
  (repeat (first | intro (b : Nat) | refine go ?_))
  (refine L.lcall (bs := rb s) (h := by intro W hW; exact d_pick1 _ _ _ _ _ _ hc (by omega) (by omega) (by omega) W hW) (k := ?_); intro v q1 hR hq1 hq2; obtain ⟨N, rfl, hn0, hn1⟩ := hR)
  (repeat (first | intro (b : Nat) | refine go ?_))
  refine C.loopw (Y := Nat × ByteArray × Int) (fun k => [(2, .string ⟨#[]⟩), (3, .pointer (some ⟨r, 0, none⟩)), (4, .string k.2.1), (5, .int .i64 N), (6, .int .i64 (k.1 : Int))])
    (fun k => (r, rb s k.2.2) :: [])
    (fun k => k.1 ≤ 8 ∧ (k.1 : Int) ≤ N ∧ k.2.1.size ≤ 701 * k.1 ∧ 0 ≤ k.2.2 ∧ k.2.2 ≤ 10 + 1000 * (k.1 : Int)) (fun k => N.toNat - k.1) (0, ⟨#[]⟩, q1)
    ⟨Nat.zero_le _, by show ((0 : Nat) : Int) ≤ N; omega, Nat.le_refl _, by show 0 ≤ q1; omega, by show q1 ≤ 10 + 1000 * ((0 : Nat) : Int); omega⟩ (fun k hy => ?_)
  generalize k.2.2 = p at *
  generalize k.2.1 = o at *
  generalize k.1 = i at *
  obtain ⟨g1, g2, g3, g4, g5⟩ := hy
  by_cases hlt : (i : Int) < N
  · (repeat' (first | intro (b : Nat) | refine go ?_ | (refine br ?_ ?_ <;> first | exact trivial | intro hq)))
    (refine L.lcall (bs := rb s) (h := by intro W hW; exact d_line _ _ _ _ _ hc (by omega) (by omega) W hW) (k := ?_); intro v p1 hR hp1 hp2)
    obtain ⟨u, rfl, hu⟩ := hR
    have z1 : (o ++ u).size = o.size + u.size := ByteArray.size_append
    have z2 : (o ++ u ++ ⟨#[10]⟩).size = o.size + u.size + 1 := by rw [ByteArray.size_append, z1]; rfl
    (repeat (first | intro (b : Nat) | refine go ?_))
    (refine X.roundw (i + 1, o ++ u ++ ⟨#[10]⟩, p1) ⟨by show i + 1 ≤ 8; omega, by show ((i + 1 : Nat) : Int) ≤ N; omega, by show (o ++ u ++ ⟨#[10]⟩).size ≤ 701 * (i + 1); omega, by show 0 ≤ p1; omega, by show p1 ≤ 10 + 1000 * ((i + 1 : Nat) : Int); omega⟩ (by show N.toNat - (i + 1) < N.toNat - i; omega))
  · (repeat' (first | intro (b : Nat) | refine go ?_ | (refine br ?_ ?_ <;> first | exact trivial | intro hq)))
    (refine L.lcall (bs := rb s) (h := by intro W hW; exact d_pick1 _ _ _ _ _ _ hc (by omega) (by omega) (by omega) W hW) (k := ?_); intro v q2 hR hq3 hq4; obtain ⟨M, rfl, hm0, hm1⟩ := hR)
    (repeat' (first | intro (b : Nat) | refine go ?_ | (refine br ?_ ?_ <;> first | exact trivial | intro hq)))
    · (refine L.lcall (bs := rb s) (h := by intro W hW; exact d_pick1 _ _ _ _ _ _ hc (by omega) (by omega) (by omega) W hW) (k := ?_); intro v q3 hR hq5 hq6; obtain ⟨M2, rfl, hm2, hm3⟩ := hR)
      (repeat (first | intro (b : Nat) | refine go ?_))
      (refine L.vcall (h := by intro W hW; exact d_many _ (58 + M2) (by decide) (by omega) W hW.base) (k := ?_); intro v hR)
      obtain ⟨u, rfl, hu⟩ := hR
      (repeat (first | intro (b : Nat) | refine go ?_))
      (refine retw ?_)
      exact ⟨_, rfl, by rw [ByteArray.size_append]; omega⟩
    all_goals first
      | ((refine L.lcall (bs := rb s) (h := by intro W hW; exact d_line _ _ _ _ _ hc (by omega) (by omega) W hW) (k := ?_); intro v p1 hR hp1 hp2)
         obtain ⟨u, rfl, hu⟩ := hR
         (repeat (first | intro (b : Nat) | refine go ?_))
         (refine retw ?_)
         exact ⟨_, rfl, by rw [ByteArray.size_append]; omega⟩)
      | ((refine retw ?_)
         exact ⟨_, rfl, by omega⟩)

/-! ### What the laws do -/
theorem ext0 (s : ByteArray) : s.extract 0 0 = sNil := by
  apply ByteArray.ext
  simp
theorem l_complete (s : ByteArray) (hs : s.size ≤ 2000000) (w : World) (hb : D.Base w) : Calls Tryz.prog 15 #[.string s] w fun e w' => e = .returned (.string (cmpT s)) ∧ Below w.heap.size w w' := by
  unfold cmpT
  refine enter Tryz.func15 rfl Tryz.ntmps15 rfl (by assumption) ?_
  (repeat (first | intro (b : Nat) | refine go ?_))
  refine C.loopw (Y := Nat) (fun k => [(0, .string s), (3, .int .i64 (k : Int))]) (fun k => []) (fun k => k ≤ s.size ∧ cmpB s k = cmpB s s.size) (fun k => k) s.size ⟨Nat.le_refl _, rfl⟩ (fun k hy => ?_)
  obtain ⟨g1, g2⟩ := hy
  cases k with
  | zero =>
    (repeat' (first | intro (b : Nat) | refine go ?_ | (refine br ?_ ?_ <;> first | exact trivial | intro hq)))
    rw [← g2]
    (refine ret ?_; try exact rfl)
    exact congrArg Value.string (ext0 s).symm
  | succ k =>
    have e1 : (((k + 1 : Nat) : Int) - 1).toNat = k := by omega
    have e2 : ((k + 1 : Nat) : Int).toNat = k + 1 := by omega
    rw [show cmpB s (k + 1) = if bt s k = 10 then k + 1 else cmpB s k from rfl] at g2
    (repeat' (first | intro (b : Nat) | refine go ?_ | (refine br ?_ ?_ <;> first | exact trivial | intro hq)))
    · rw [e1] at hq
      rw [if_pos hq] at g2
      rw [← g2]
      (refine ret ?_; try exact rfl)
    · rw [e1] at hq
      rw [if_neg hq] at g2
      (refine X.roundw k ⟨by omega, g2⟩ (by omega) (h3 := .cons rfl rfl (.cons rfl (congrArg (Value.int IntKind.i64) (by omega)) .nil)))

theorem lstT_sz (s : ByteArray) : (lstT s).size ≤ s.size := by
  unfold lstT
  rw [size_ext (Nat.le_refl _)]
  omega
theorem l_last (s : ByteArray) (hs : s.size ≤ 2000000) (w : World) (hb : D.Base w) : Calls Tryz.prog 16 #[.string s] w fun e w' => e = .returned (.string (lstT s)) ∧ Below w.heap.size w w' := by
  unfold lstT lstN
  refine enter Tryz.func16 rfl Tryz.ntmps16 rfl (by assumption) ?_
  (repeat (first | intro (b : Nat) | refine go ?_))
  refine C.loopw (Y := Int) (fun k => [(0, .string s), (3, .int .i64 k)]) (fun k => []) (fun k => -2 ≤ k ∧ k ≤ (s.size : Int) - 2 ∧ cmpB s (k + 1).toNat = cmpB s (s.size - 1)) (fun k => (k + 2).toNat) ((s.size : Int) - 2) ⟨by omega, Int.le_refl _, by congr 1; omega⟩ (fun k hy => ?_)
  obtain ⟨g0, g1, g2⟩ := hy
  by_cases hk : 0 ≤ k
  · obtain ⟨j, rfl⟩ : ∃ j : Nat, k = j := ⟨k.toNat, by omega⟩
    rw [show ((j : Int) + 1).toNat = j + 1 by omega] at g2
    rw [show cmpB s (j + 1) = if bt s j = 10 then j + 1 else cmpB s j from rfl] at g2
    have e1 : (j : Int).toNat = j := by omega
    have e2 : ((j : Int) + 1).toNat = j + 1 := by omega
    (repeat' (first | intro (b : Nat) | refine go ?_ | (refine br ?_ ?_ <;> first | exact trivial | intro hq)))
    · rw [e1] at hq
      rw [if_pos hq] at g2
      rw [← g2]
      (refine ret ?_; try exact rfl)
    · rw [e1] at hq
      rw [if_neg hq] at g2
      (refine X.roundw ((j : Int) - 1) ⟨by omega, by omega, by rw [show ((j : Int) - 1 + 1).toNat = j by omega]; exact g2⟩ (by omega))
  · rw [show (k + 1).toNat = 0 by omega] at g2
    (repeat' (first | intro (b : Nat) | refine go ?_ | (refine br ?_ ?_ <;> first | exact trivial | intro hq)))
    rw [← g2]
    (refine ret ?_; try exact rfl)
    refine congrArg Value.string ?_
    show s = s.extract 0 s.size
    simp

end D
end Go.Proofs.YtboglbdhibcacaaGreatDoor

namespace Go.Proofs.YtboglbdhibcacaaGreatDoor
set_option linter.unusedVariables false
set_option linter.unusedSimpArgs false
set_option maxRecDepth 100000
set_option maxHeartbeats 2000000
namespace D
open Go.RowKit
open Go.PlainAid (bt bt_nonneg bt_le bt_end)
attribute [local irreducible] Calls

theorem law_FnExactExecute (s : ByteArray) (w : World) (hb : D.Base w) (he : Err w) (hg : Hdl w) (hp : Pw w) :
    Calls Tryz.prog 6 #[.string s] w fun e w' => e = .returned (.bool true) ∧ Below w.heap.size w w' := by
  by_cases hn : s.size ≤ 1048576
  · have hA := a_Execute s hn
    have hB := b_Execute s (by omega)
    generalize exeT s = t at *
    refine enter Tryz.func6 rfl Tryz.ntmps6 rfl (by assumption) ?_
    (repeat' (first | intro (b : Nat) | refine go ?_ | (refine br ?_ ?_ <;> first | exact trivial | intro hq) | refine L.call (h := by intro W hW; first | apply hB W hW.base | apply hA W hW.base (hW.err he) (hW.old hg) (hp.old hW)) (k := ?_)))
    all_goals (refine ret ?_; try exact rfl)
    all_goals simp [tupleOf]
  · refine enter Tryz.func6 rfl Tryz.ntmps6 rfl (by assumption) ?_
    (repeat' (first | intro (b : Nat) | refine go ?_ | (refine br ?_ ?_ <;> first | exact trivial | intro hq)))
    (refine ret ?_; try exact rfl)

theorem exe_long {s : ByteArray} (h : ¬ s.size ≤ 600) : exeT s = tLong := if_neg h

theorem law_FnScript (a : Option Addr) (n c : Nat) (w : World) (hc : n ≤ 1048576 → CodeAt w (.slice a n c)) (hb : D.Base w) (he : Err w) (hg : Hdl w) (hp : Pw w) :
    Calls Tryz.prog 7 #[.slice a n c] w fun e w' => e = .returned (.bool true) ∧ Below w.heap.size w w' := by
  by_cases hn : n ≤ 1048576
  · refine enter Tryz.func7 rfl Tryz.ntmps7 rfl (by assumption) ?_
    (repeat' (first | intro (b : Nat) | refine go ?_ | (refine br ?_ ?_ <;> first | exact trivial | intro hq)))
    (refine L.vcall (h := by intro W hW; exact d_Execute _ W ((hc hn).keep hW.low) hW.base) (k := ?_); intro v hR)
    obtain ⟨t, rfl, hz⟩ := hR
    have hA := a_Execute t (by omega)
    have hB := b_Execute t (by omega)
    by_cases h6 : t.size ≤ 600
    · have hu := exe_pos t
      have hE := a_Execute sNil (by decide)
      rw [exe_nil] at hE
      generalize exeT t = u at *
      (repeat' (first | intro (b : Nat) | refine go ?_ | (refine br ?_ ?_ <;> first | exact trivial | intro hq) | refine L.call (h := by intro W hW; first | apply hB W hW.base | apply hA W hW.base (hW.err he) (hW.old hg) (hp.old hW) | apply hE W hW.base (hW.err he) (hW.old hg) (hp.old hW)) (k := ?_)))
      all_goals (refine ret ?_; try exact rfl)
      all_goals simp [tupleOf, hu]
    · rw [exe_long h6] at hA hB
      (repeat' (first | intro (b : Nat) | refine go ?_ | (refine br ?_ ?_ <;> first | exact trivial | intro hq) | refine L.call (h := by intro W hW; first | apply hB W hW.base | apply hA W hW.base (hW.err he) (hW.old hg) (hp.old hW)) (k := ?_)))
      all_goals (refine ret ?_; try exact rfl)
      all_goals simp [tupleOf]
  · refine enter Tryz.func7 rfl Tryz.ntmps7 rfl (by assumption) ?_
    (repeat' (first | intro (b : Nat) | refine go ?_ | (refine br ?_ ?_ <;> first | exact trivial | intro hq)))
    (refine ret ?_; try exact rfl)

theorem law_FnScriptCut (a : Option Addr) (n c : Nat) (w : World) (hc : n ≤ 1048576 → CodeAt w (.slice a n c)) (hb : D.Base w) (he : Err w) (hg : Hdl w) (hp : Pw w) :
    Calls Tryz.prog 4 #[.slice a n c] w fun e w' => e = .returned (.bool true) ∧ Below w.heap.size w w' := by
  by_cases hn : n ≤ 1048576
  · refine enter Tryz.func4 rfl Tryz.ntmps4 rfl (by assumption) ?_
    (repeat' (first | intro (b : Nat) | refine go ?_ | (refine br ?_ ?_ <;> first | exact trivial | intro hq)))
    (refine L.vcall (h := by intro W hW; exact d_Execute _ W ((hc hn).keep hW.low) hW.base) (k := ?_); intro v hR)
    obtain ⟨t, rfl, hz⟩ := hR
    have hA := a_Execute t (by omega)
    have hB := b_Execute t (by omega)
    by_cases h6 : t.size ≤ 600
    · have hz2 := cmpT_sz t
      have hE := a_Execute (cmpT t) (by omega)
      have hM := l_complete t (by omega)
      rw [law_cut h6] at hE
      generalize exeT t = u at *
      (repeat' (first | intro (b : Nat) | refine go ?_ | (refine br ?_ ?_ <;> first | exact trivial | intro hq) | refine L.call (h := by intro W hW; first | apply hB W hW.base | apply hM W hW.base | apply hA W hW.base (hW.err he) (hW.old hg) (hp.old hW) | apply hE W hW.base (hW.err he) (hW.old hg) (hp.old hW)) (k := ?_)))
      all_goals (refine ret ?_; try exact rfl)
      all_goals simp [tupleOf]
    · generalize exeT t = u at *
      (repeat' (first | intro (b : Nat) | refine go ?_ | (refine br ?_ ?_ <;> first | exact trivial | intro hq) | refine L.call (h := by intro W hW; first | apply hB W hW.base | apply hA W hW.base (hW.err he) (hW.old hg) (hp.old hW)) (k := ?_)))
      all_goals (refine ret ?_; try exact rfl)
      all_goals simp [tupleOf]
  · refine enter Tryz.func4 rfl Tryz.ntmps4 rfl (by assumption) ?_
    (repeat' (first | intro (b : Nat) | refine go ?_ | (refine br ?_ ?_ <;> first | exact trivial | intro hq)))
    (refine ret ?_; try exact rfl)

theorem law_FnScriptTwice (a : Option Addr) (n c : Nat) (w : World) (hc : n ≤ 1048576 → CodeAt w (.slice a n c)) (hb : D.Base w) (he : Err w) (hg : Hdl w) (hp : Pw w) :
    Calls Tryz.prog 5 #[.slice a n c] w fun e w' => e = .returned (.bool true) ∧ Below w.heap.size w w' := by
  by_cases hn : n ≤ 1048576
  · refine enter Tryz.func5 rfl Tryz.ntmps5 rfl (by assumption) ?_
    (repeat' (first | intro (b : Nat) | refine go ?_ | (refine br ?_ ?_ <;> first | exact trivial | intro hq)))
    (refine L.vcall (h := by intro W hW; exact d_Execute _ W ((hc hn).keep hW.low) hW.base) (k := ?_); intro v hR)
    obtain ⟨t, rfl, hz⟩ := hR
    have hA := a_Execute t (by omega)
    have hB := b_Execute t (by omega)
    by_cases h6 : 2 * t.size ≤ 600
    · have hz2 := cmpT_sz t
      have hz3 := exe_sz (cmpT t)
      have hz4 := exe_sz (cmpT t ++ cmpT t)
      have hzz : (cmpT t ++ cmpT t).size = (cmpT t).size + (cmpT t).size := ByteArray.size_append
      have hE := a_Execute (cmpT t) (by omega)
      have hM := l_complete t (by omega)
      have hF := a_Execute (cmpT t ++ cmpT t) (by omega)
      obtain ⟨k1, k2, k3⟩ := law_twice h6
      have hL := l_last (exeT (cmpT t)) (by omega)
      have hL2 := l_last (exeT (cmpT t ++ cmpT t)) (by omega)
      have hl1 := lstT_sz (exeT (cmpT t))
      have hl2 := lstT_sz (exeT (cmpT t ++ cmpT t))
      have hd : hdT (exeT (cmpT t)) = (exeT (cmpT t)).extract 0 ((exeT (cmpT t)).size - (lstT (exeT (cmpT t))).size) := rfl
      have hdz : (hdT (exeT (cmpT t))).size = (exeT (cmpT t)).size - (lstT (exeT (cmpT t))).size := by rw [hd, size_ext (by omega)]; omega
      have hdd : (hdT (exeT (cmpT t)) ++ hdT (exeT (cmpT t))).size = (hdT (exeT (cmpT t))).size + (hdT (exeT (cmpT t))).size := ByteArray.size_append
      generalize exeT t = u at *
      generalize exeT (cmpT t) = y at *
      generalize exeT (cmpT t ++ cmpT t) = z at *
      generalize cmpT t = x at *
      generalize lstT y = ly at *
      generalize lstT z = lz at *
      generalize hdT y = h at *
      have hi : y.extract 0 ((y.size : Int) - (ly.size : Int)).toNat = h := by rw [hd, show ((y.size : Int) - (ly.size : Int)).toNat = y.size - ly.size by omega]
      have hj : z.extract 0 (2 * (h.size : Int)).toNat = h ++ h := by rw [← k2, show (2 * (h.size : Int)).toNat = 2 * h.size by omega]
      (repeat' (first | intro (b : Nat) | refine go ?_ | (refine br ?_ ?_ <;> first | exact trivial | intro hq)))
      (refine L.call (h := by intro W hW; exact hA W hW.base (hW.err he) (hW.old hg) (hp.old hW)) (k := ?_))
      (repeat' (first | intro (b : Nat) | refine go ?_ | (refine br ?_ ?_ <;> first | exact trivial | intro hq)))
      (refine L.call (h := by intro W hW; exact hB W hW.base) (k := ?_))
      (repeat' (first | intro (b : Nat) | refine go ?_ | (refine br ?_ ?_ <;> first | exact trivial | intro hq)))
      (refine L.call (h := by intro W hW; exact hM W hW.base) (k := ?_))
      (repeat' (first | intro (b : Nat) | refine go ?_ | (refine br ?_ ?_ <;> first | exact trivial | intro hq)))
      (refine L.call (h := by intro W hW; exact hE W hW.base (hW.err he) (hW.old hg) (hp.old hW)) (k := ?_))
      (repeat' (first | intro (b : Nat) | refine go ?_ | (refine br ?_ ?_ <;> first | exact trivial | intro hq)))
      (refine L.call (h := by intro W hW; exact hL W hW.base) (k := ?_))
      (repeat' (first | intro (b : Nat) | refine go ?_ | (refine br ?_ ?_ <;> first | exact trivial | intro hq)))
      rw [hi]
      (refine L.call (h := by intro W hW; exact hF W hW.base (hW.err he) (hW.old hg) (hp.old hW)) (k := ?_))
      (repeat' (first | intro (b : Nat) | refine go ?_ | (refine br ?_ ?_ <;> first | exact trivial | intro hq)))
      rw [hj]
      (repeat' (first | intro (b : Nat) | refine go ?_ | (refine br ?_ ?_ <;> first | exact trivial | intro hq)))
      (refine L.call (h := by intro W hW; exact hL2 W hW.base) (k := ?_))
      (repeat' (first | intro (b : Nat) | refine go ?_ | (refine br ?_ ?_ <;> first | exact trivial | intro hq)))
      all_goals (refine ret ?_; try exact rfl)
      all_goals simp [tupleOf]
      all_goals first | omega | exact hq hj
    · generalize exeT t = u at *
      (repeat' (first | intro (b : Nat) | refine go ?_ | (refine br ?_ ?_ <;> first | exact trivial | intro hq) | refine L.call (h := by intro W hW; first | apply hB W hW.base | apply hA W hW.base (hW.err he) (hW.old hg) (hp.old hW)) (k := ?_)))
      all_goals (refine ret ?_; try exact rfl)
      all_goals simp [tupleOf]
  · refine enter Tryz.func5 rfl Tryz.ntmps5 rfl (by assumption) ?_
    (repeat' (first | intro (b : Nat) | refine go ?_ | (refine br ?_ ?_ <;> first | exact trivial | intro hq)))
    (refine ret ?_; try exact rfl)

theorem law_FnScriptDate (a : Option Addr) (n c : Nat) (w : World) (hc : n ≤ 1048576 → CodeAt w (.slice a n c)) (hb : D.Base w) (he : Err w) (hg : Hdl w) (hp : Pw w) :
    Calls Tryz.prog 10 #[.slice a n c] w fun e w' => e = .returned (.bool true) ∧ Below w.heap.size w w' := by
  by_cases hn : n ≤ 1048576
  · refine enter Tryz.func10 rfl Tryz.ntmps10 rfl (by assumption) ?_
    (repeat' (first | intro (b : Nat) | refine go ?_ | (refine br ?_ ?_ <;> first | exact trivial | intro hq)))
    (refine L.vcall (h := by intro W hW; exact d_Execute _ W ((hc hn).keep hW.low) hW.base) (k := ?_); intro v hR)
    obtain ⟨t, rfl, hz⟩ := hR
    have hA := a_Execute t (by omega)
    have hB := b_Execute t (by omega)
    have hE := a_Execute ⟨#[100, 97, 116, 101, 32, 50, 48, 50, 49, 45, 48, 49, 45, 48, 51, 10, 100, 97, 116, 101, 32, 50, 48, 50, 48, 87, 53, 51, 55, 10, 100, 97, 116, 101, 32, 50, 48, 50, 49, 45, 48, 48, 51, 10, 100, 97, 116, 101, 32, 50, 48, 50, 49, 45, 51, 54, 54, 10]⟩ (of_decide_eq_true (by kernel_rfl))
    rw [e_date] at hE
    generalize exeT t = u at *
    (repeat' (first | intro (b : Nat) | refine go ?_ | (refine br ?_ ?_ <;> first | exact trivial | intro hq) | refine L.call (h := by intro W hW; first | apply hB W hW.base | apply hA W hW.base (hW.err he) (hW.old hg) (hp.old hW) | apply hE W hW.base (hW.err he) (hW.old hg) (hp.old hW)) (k := ?_)))
    all_goals (refine ret ?_; try exact rfl)
    all_goals simp [tupleOf]
  · refine enter Tryz.func10 rfl Tryz.ntmps10 rfl (by assumption) ?_
    (repeat' (first | intro (b : Nat) | refine go ?_ | (refine br ?_ ?_ <;> first | exact trivial | intro hq)))
    (refine ret ?_; try exact rfl)

theorem law_FnScriptTidy (a : Option Addr) (n c : Nat) (w : World) (hc : n ≤ 1048576 → CodeAt w (.slice a n c)) (hb : D.Base w) (he : Err w) (hg : Hdl w) (hp : Pw w) :
    Calls Tryz.prog 3 #[.slice a n c] w fun e w' => e = .returned (.bool true) ∧ Below w.heap.size w w' := by
  by_cases hn : n ≤ 1048576
  · refine enter Tryz.func3 rfl Tryz.ntmps3 rfl (by assumption) ?_
    (repeat' (first | intro (b : Nat) | refine go ?_ | (refine br ?_ ?_ <;> first | exact trivial | intro hq)))
    (refine L.vcall (h := by intro W hW; exact d_Execute _ W ((hc hn).keep hW.low) hW.base) (k := ?_); intro v hR)
    obtain ⟨t, rfl, hz⟩ := hR
    have hA := a_Execute t (by omega)
    have hB := b_Execute t (by omega)
    have hE := a_Execute ⟨#[116, 105, 100, 121, 32, 50, 48, 50, 48, 45, 48, 50, 45, 50, 57, 116, 49, 50, 58, 48, 48, 58, 48, 48, 46, 53, 48, 48, 122, 10, 116, 105, 100, 121, 32, 50, 48, 50, 48, 45, 48, 50, 45, 50, 57, 84, 49, 50, 58, 48, 48, 58, 48, 48, 43, 48, 48, 58, 48, 48, 10, 116, 105, 100, 121, 32, 50, 48, 50, 49, 45, 48, 50, 45, 50, 57, 84, 49, 50, 58, 48, 48, 58, 48, 48, 90, 10]⟩ (of_decide_eq_true (by kernel_rfl))
    rw [e_tidy] at hE
    generalize exeT t = u at *
    (repeat' (first | intro (b : Nat) | refine go ?_ | (refine br ?_ ?_ <;> first | exact trivial | intro hq) | refine L.call (h := by intro W hW; first | apply hB W hW.base | apply hA W hW.base (hW.err he) (hW.old hg) (hp.old hW) | apply hE W hW.base (hW.err he) (hW.old hg) (hp.old hW)) (k := ?_)))
    all_goals (refine ret ?_; try exact rfl)
    all_goals simp [tupleOf]
  · refine enter Tryz.func3 rfl Tryz.ntmps3 rfl (by assumption) ?_
    (repeat' (first | intro (b : Nat) | refine go ?_ | (refine br ?_ ?_ <;> first | exact trivial | intro hq)))
    (refine ret ?_; try exact rfl)

theorem law_FnScriptPlus (a : Option Addr) (n c : Nat) (w : World) (hc : n ≤ 1048576 → CodeAt w (.slice a n c)) (hb : D.Base w) (he : Err w) (hg : Hdl w) (hp : Pw w) :
    Calls Tryz.prog 11 #[.slice a n c] w fun e w' => e = .returned (.bool true) ∧ Below w.heap.size w w' := by
  by_cases hn : n ≤ 1048576
  · refine enter Tryz.func11 rfl Tryz.ntmps11 rfl (by assumption) ?_
    (repeat' (first | intro (b : Nat) | refine go ?_ | (refine br ?_ ?_ <;> first | exact trivial | intro hq)))
    (refine L.vcall (h := by intro W hW; exact d_Execute _ W ((hc hn).keep hW.low) hW.base) (k := ?_); intro v hR)
    obtain ⟨t, rfl, hz⟩ := hR
    have hA := a_Execute t (by omega)
    have hB := b_Execute t (by omega)
    have hE := a_Execute ⟨#[112, 108, 117, 115, 32, 50, 48, 50, 48, 45, 48, 49, 45, 51, 49, 84, 50, 50, 58, 48, 48, 58, 48, 48, 90, 32, 80, 49, 77, 84, 51, 72, 10, 109, 105, 110, 117, 115, 32, 50, 48, 50, 48, 45, 48, 51, 45, 51, 49, 84, 48, 49, 58, 48, 48, 58, 48, 48, 43, 48, 49, 58, 48, 48, 32, 80, 49, 77, 84, 50, 72, 10, 115, 112, 97, 110, 32, 50, 48, 50, 48, 45, 48, 49, 45, 48, 49, 84, 48, 48, 58, 48, 48, 58, 48, 48, 90, 47, 80, 49, 87, 10]⟩ (of_decide_eq_true (by kernel_rfl))
    rw [e_plus] at hE
    generalize exeT t = u at *
    (repeat' (first | intro (b : Nat) | refine go ?_ | (refine br ?_ ?_ <;> first | exact trivial | intro hq) | refine L.call (h := by intro W hW; first | apply hB W hW.base | apply hA W hW.base (hW.err he) (hW.old hg) (hp.old hW) | apply hE W hW.base (hW.err he) (hW.old hg) (hp.old hW)) (k := ?_)))
    all_goals (refine ret ?_; try exact rfl)
    all_goals simp [tupleOf]
  · refine enter Tryz.func11 rfl Tryz.ntmps11 rfl (by assumption) ?_
    (repeat' (first | intro (b : Nat) | refine go ?_ | (refine br ?_ ?_ <;> first | exact trivial | intro hq)))
    (refine ret ?_; try exact rfl)

theorem law_FnScriptBetween (a : Option Addr) (n c : Nat) (w : World) (hc : n ≤ 1048576 → CodeAt w (.slice a n c)) (hb : D.Base w) (he : Err w) (hg : Hdl w) (hp : Pw w) :
    Calls Tryz.prog 9 #[.slice a n c] w fun e w' => e = .returned (.bool true) ∧ Below w.heap.size w w' := by
  by_cases hn : n ≤ 1048576
  · refine enter Tryz.func9 rfl Tryz.ntmps9 rfl (by assumption) ?_
    (repeat' (first | intro (b : Nat) | refine go ?_ | (refine br ?_ ?_ <;> first | exact trivial | intro hq)))
    (refine L.vcall (h := by intro W hW; exact d_Execute _ W ((hc hn).keep hW.low) hW.base) (k := ?_); intro v hR)
    obtain ⟨t, rfl, hz⟩ := hR
    have hA := a_Execute t (by omega)
    have hB := b_Execute t (by omega)
    have hE := a_Execute ⟨#[98, 101, 116, 119, 101, 101, 110, 32, 50, 48, 50, 48, 45, 48, 50, 45, 50, 57, 32, 50, 48, 50, 49, 45, 48, 51, 45, 48, 49, 10, 98, 101, 116, 119, 101, 101, 110, 32, 50, 48, 50, 49, 45, 48, 51, 45, 48, 49, 32, 50, 48, 50, 48, 45, 48, 50, 45, 50, 57, 10, 101, 97, 115, 116, 101, 114, 32, 50, 48, 50, 52, 10, 101, 97, 115, 116, 101, 114, 32, 49, 53, 56, 50, 10]⟩ (of_decide_eq_true (by kernel_rfl))
    rw [e_betw] at hE
    generalize exeT t = u at *
    (repeat' (first | intro (b : Nat) | refine go ?_ | (refine br ?_ ?_ <;> first | exact trivial | intro hq) | refine L.call (h := by intro W hW; first | apply hB W hW.base | apply hA W hW.base (hW.err he) (hW.old hg) (hp.old hW) | apply hE W hW.base (hW.err he) (hW.old hg) (hp.old hW)) (k := ?_)))
    all_goals (refine ret ?_; try exact rfl)
    all_goals simp [tupleOf]
  · refine enter Tryz.func9 rfl Tryz.ntmps9 rfl (by assumption) ?_
    (repeat' (first | intro (b : Nat) | refine go ?_ | (refine br ?_ ?_ <;> first | exact trivial | intro hq)))
    (refine ret ?_; try exact rfl)

theorem law_FnScriptBad (a : Option Addr) (n c : Nat) (w : World) (hc : n ≤ 1048576 → CodeAt w (.slice a n c)) (hb : D.Base w) (he : Err w) (hg : Hdl w) (hp : Pw w) :
    Calls Tryz.prog 8 #[.slice a n c] w fun e w' => e = .returned (.bool true) ∧ Below w.heap.size w w' := by
  by_cases hn : n ≤ 1048576
  · refine enter Tryz.func8 rfl Tryz.ntmps8 rfl (by assumption) ?_
    (repeat' (first | intro (b : Nat) | refine go ?_ | (refine br ?_ ?_ <;> first | exact trivial | intro hq)))
    (refine L.vcall (h := by intro W hW; exact d_Execute _ W ((hc hn).keep hW.low) hW.base) (k := ?_); intro v hR)
    obtain ⟨t, rfl, hz⟩ := hR
    have hA := a_Execute t (by omega)
    have hB := b_Execute t (by omega)
    have hE := a_Execute ⟨#[100, 97, 116, 101, 10, 100, 97, 116, 101, 32, 50, 48, 50, 49, 45, 48, 49, 45, 48, 51, 32, 120, 10, 122, 105, 112, 32, 49, 10, 10, 112, 108, 117, 115, 32, 80, 49, 68, 10]⟩ (of_decide_eq_true (by kernel_rfl))
    rw [e_bad] at hE
    generalize exeT t = u at *
    (repeat' (first | intro (b : Nat) | refine go ?_ | (refine br ?_ ?_ <;> first | exact trivial | intro hq) | refine L.call (h := by intro W hW; first | apply hB W hW.base | apply hA W hW.base (hW.err he) (hW.old hg) (hp.old hW) | apply hE W hW.base (hW.err he) (hW.old hg) (hp.old hW)) (k := ?_)))
    all_goals (refine ret ?_; try exact rfl)
    all_goals simp [tupleOf]
  · refine enter Tryz.func8 rfl Tryz.ntmps8 rfl (by assumption) ?_
    (repeat' (first | intro (b : Nat) | refine go ?_ | (refine br ?_ ?_ <;> first | exact trivial | intro hq)))
    (refine ret ?_; try exact rfl)

end D
end Go.Proofs.YtboglbdhibcacaaGreatDoor
