/- Walks: periods that the reference reads. -/
import Derived.Test.YtboglbdhibcacaaGreatDoorVi
import Derived.Test.YtboglbdhibcacaaGreatDoorVh
namespace Go.Proofs.YtboglbdhibcacaaGreatDoor
set_option linter.unusedVariables false
set_option linter.unusedSimpArgs false
set_option maxRecDepth 100000
set_option maxHeartbeats 1000000
namespace D
open Go.RowKit
open Go.PlainAid (bt bt_nonneg bt_le bt_end)
attribute [local irreducible] Calls

theorem b_DigitsRun (s : ByteArray) (p : Nat) (hs : s.size ≤ 1000000000000) (hp : p ≤ s.size) (w : World) (hb : D.Base w) :
    Calls Tryz.prog 133 #[.string s, .int .i64 (p : Int)] w fun e w' => e = .returned (.int .i64 (runN s p)) ∧ Below w.heap.size w w' := by
  refine enter Tryz.func133 rfl Tryz.ntmps133 rfl (by assumption) ?_
  (repeat (first | intro (b : Nat) | refine go ?_))
  refine C.loopw (Y := Nat) (fun k => [(0, .string s), (1, .int .i64 (p : Int)), (5, .int .i64 (k : Int))]) (fun k => []) (fun k => p + k ≤ s.size ∧ ∀ i, i < k → isD s (p + i) = true) (fun k => s.size - p - k) 0 ⟨hp, fun i hi => (by omega)⟩ (fun k hy => ?_)
  have ec : (p : Int) + (k : Int) = ((p + k : Nat) : Int) := by omega
  cases hd : isD s (p + k)
  · (repeat' (first | intro (b : Nat) | refine go ?_ | (refine br ?_ ?_ <;> first | exact trivial | intro hq) | refine L.call (h := by intro W hW; apply rvb hd (ec ▸ b_Digit s (p + k) hs W hW.base)) (k := ?_)))
    (refine ret ?_; try exact rfl)
    rw [runN_eq hy.2 hd]; rfl
  · have := isD_lt hd
    (repeat' (first | intro (b : Nat) | refine go ?_ | (refine br ?_ ?_ <;> first | exact trivial | intro hq) | refine L.call (h := by intro W hW; apply rvb hd (ec ▸ b_Digit s (p + k) hs W hW.base)) (k := ?_)))
    refine X.roundw (k + 1) (⟨by omega, fun i hi => by
      by_cases e : i = k
      · subst e; exact hd
      · exact hy.2 i (by omega)⟩) (by omega)

theorem b_DigitsGet_bad (s : ByteArray) (p m : Nat) (hm : m = 0 ∨ 6 < m) (hb' : m ≤ 1000000000000) (w : World) (hb : D.Base w) :
    Calls Tryz.prog 76 #[.string s, .int .i64 (p : Int), .int .i64 (m : Int)] w fun e w' => e = .returned (.tuple #[.int .i64 0, .bool false]) ∧ Below w.heap.size w w' := by
  have hr : inR (m : Int) 1 6 = false := inR_false.2 (by omega)
  refine enter Tryz.func76 rfl Tryz.ntmps76 rfl (by assumption) ?_
  (repeat' (first | intro (b : Nat) | refine go ?_ | (refine br ?_ ?_ <;> first | exact trivial | intro hq) | refine L.call (h := by intro W hW; apply rvb hr (b_in _ _ _ W hW.base)) (k := ?_)))
  (refine ret ?_; try exact rfl)

theorem b_Letter (c : Int) (t : Bool) (w : World) (hb : D.Base w) : Calls Tryz.prog 134 #[.int .u8 c, .bool t] w fun e w' => e = .returned (.int .i64 (letN c t)) ∧ Below w.heap.size w w' := by
  cases t
  · have z : (strOfNums [89, 77, 68]).size = 3 := rfl
    have f0 : ∀ k : Nat, k < 3 → bt (strOfNums [89, 77, 68]) ((k : Int)).toNat = ltr (k + 0) := fun k h => by
      rcases (by omega : k = 0 ∨ k = 1 ∨ k = 2) with rfl | rfl | rfl <;> rfl
    refine enter Tryz.func134 rfl Tryz.ntmps134 rfl (by assumption) ?_
    (repeat (first | intro (b : Nat) | refine go ?_))
    refine C.loopw (Y := Nat) (fun k => [(0, .int .u8 c), (1, .bool false), (5, .string (strOfNums [89, 77, 68])), (6, .int .i64 (k : Int))]) (fun k => []) (fun k => k ≤ 3 ∧ ∀ i, i < k → ¬ ltr (i + 0) = c) (fun k => 3 - k) 0 ⟨by omega, fun i hi => (by omega)⟩ (fun k hy => ?_)
    by_cases hk : k < 3
    · have f := f0 k hk
      clear f0
      generalize strOfNums [89, 77, 68] = S at *
      (repeat' (first | intro (b : Nat) | refine go ?_ | (refine br ?_ ?_ <;> first | exact trivial | intro hq)))
      · (refine ret ?_; try exact rfl)
        refine congrArg (Value.int .i64) ?_
        rw [letN_of (j := k + 0) (by omega) (by rw [← f]; assumption) (by simp [tmd]; try omega)]
        omega
      · refine X.roundw (k + 1) (⟨by omega, fun i hi => by
          by_cases e : i = k
          · subst e; rw [← f]; assumption
          · exact hy.2 i (by omega)⟩) (by omega)
    · (repeat' (first | intro (b : Nat) | refine go ?_ | (refine br ?_ ?_ <;> first | exact trivial | intro hq)))
      (refine ret ?_; try exact rfl)
      refine congrArg (Value.int .i64) ?_
      have h1 := letN_ge c false
      have h2 := letN_lt (c := c) (t := false) (k0 := 0) fun i _ h6 h => by
        obtain ⟨ha, hb2⟩ := h
        have : i < 3 := by simp [tmd] at hb2; omega
        exact hy.2 i (by omega) ha
      omega
  · have z : (strOfNums [72, 77, 83]).size = 3 := rfl
    have f0 : ∀ k : Nat, k < 3 → bt (strOfNums [72, 77, 83]) ((k : Int)).toNat = ltr (k + 3) := fun k h => by
      rcases (by omega : k = 0 ∨ k = 1 ∨ k = 2) with rfl | rfl | rfl <;> rfl
    refine enter Tryz.func134 rfl Tryz.ntmps134 rfl (by assumption) ?_
    (repeat (first | intro (b : Nat) | refine go ?_))
    refine C.loopw (Y := Nat) (fun k => [(0, .int .u8 c), (1, .bool true), (5, .string (strOfNums [72, 77, 83])), (6, .int .i64 (k : Int))]) (fun k => []) (fun k => k ≤ 3 ∧ ∀ i, i < k → ¬ ltr (i + 3) = c) (fun k => 3 - k) 0 ⟨by omega, fun i hi => (by omega)⟩ (fun k hy => ?_)
    by_cases hk : k < 3
    · have f := f0 k hk
      clear f0
      generalize strOfNums [72, 77, 83] = S at *
      (repeat' (first | intro (b : Nat) | refine go ?_ | (refine br ?_ ?_ <;> first | exact trivial | intro hq)))
      · (refine ret ?_; try exact rfl)
        refine congrArg (Value.int .i64) ?_
        rw [letN_of (j := k + 3) (by omega) (by rw [← f]; assumption) (by simp [tmd]; try omega)]
        omega
      · refine X.roundw (k + 1) (⟨by omega, fun i hi => by
          by_cases e : i = k
          · subst e; rw [← f]; assumption
          · exact hy.2 i (by omega)⟩) (by omega)
    · (repeat' (first | intro (b : Nat) | refine go ?_ | (refine br ?_ ?_ <;> first | exact trivial | intro hq)))
      (refine ret ?_; try exact rfl)
      refine congrArg (Value.int .i64) ?_
      have h1 := letN_ge c true
      have h2 := letN_lt (c := c) (t := true) (k0 := 0) fun i _ h6 h => by
        obtain ⟨ha, hb2⟩ := h
        have : 3 ≤ i := by simpa [tmd] using hb2
        exact hy.2 (i - 3) (by omega) (by rw [show i - 3 + 3 = i by omega]; exact ha)
      omega

theorem b_Of (b : Nat) (v : P6) (w : World) (h0 : w.cell? ⟨b, 0 + Int.toNat 0 * 1, none⟩ = some (.int .i64 v.a)) (h1 : w.cell? ⟨b, 0 + Int.toNat 1 * 1, none⟩ = some (.int .i64 v.b)) (h2 : w.cell? ⟨b, 0 + Int.toNat 2 * 1, none⟩ = some (.int .i64 v.c)) (h3 : w.cell? ⟨b, 0 + Int.toNat 3 * 1, none⟩ = some (.int .i64 v.d)) (h4 : w.cell? ⟨b, 0 + Int.toNat 4 * 1, none⟩ = some (.int .i64 v.e)) (h5 : w.cell? ⟨b, 0 + Int.toNat 5 * 1, none⟩ = some (.int .i64 v.f)) (hb : D.Base w) :
    Calls Tryz.prog 135 #[.slice (some ⟨b, 0, none⟩) 6 6] w fun e w' => e = .returned (.agg (c6 v).toArray) ∧ Below w.heap.size w w' := by
  refine enter Tryz.func135 rfl Tryz.ntmps135 rfl (by assumption) ?_
  (repeat' (first | intro (b : Nat) | refine go ?_ | (refine br ?_ ?_ <;> first | exact trivial | intro hq) | refine gg ?_ | (apply C.draww (id := 1) 19 [none, none, some _, none, none, some _, none, none, some _, none, none, some _, none, none, some _, none, none, some _, none])))
  (refine ret ?_; try exact rfl)

end D
end Go.Proofs.YtboglbdhibcacaaGreatDoor

namespace Go.Proofs.YtboglbdhibcacaaGreatDoor
set_option linter.unusedVariables false
set_option linter.unusedSimpArgs false
set_option maxRecDepth 100000
set_option maxHeartbeats 1000000
namespace D
open Go.RowKit
open Go.PlainAid (bt bt_nonneg bt_le bt_end)
attribute [local irreducible] Calls

theorem pfR_stop {s : ByteArray} {p : Nat} {last : Int} {t : Bool} {v : P6} (g : Nat) (h : s.size ≤ p) : pfR s (g + 1) p last t v = some v := by
  rw [pfR, if_pos h]
theorem pfR_go {s : ByteArray} {p q : Nat} {last : Int} {t t' : Bool} {v : P6} (g : Nat) (hp : p < s.size) (h : (t = false ∧ isB s p 84 = true ∧ p + 1 < s.size ∧ q = p + 1 ∧ t' = true) ∨ (¬ (t = false ∧ isB s p 84 = true ∧ p + 1 < s.size) ∧ q = p ∧ t' = t)) :
    pfR s (g + 1) p last t v = if 1 ≤ runN s q ∧ runN s q ≤ 4 ∧ q + runN s q < s.size then (if letN (bt s (q + runN s q)) t' ≤ last then none else pfR s g (q + runN s q + 1) (letN (bt s (q + runN s q)) t') t' (v.set (letN (bt s (q + runN s q)) t') (numL s q (runN s q)))) else none := by
  rw [pfR, if_neg (by omega)]
  rcases h with ⟨rfl, h1, h2, rfl, rfl⟩ | ⟨h1, rfl, rfl⟩
  · simp only [h1, decide_eq_true h2, Bool.not_false, Bool.true_and, if_true, Bool.false_or]
  · have htt : (!t' && isB s q 84 && decide (q + 1 < s.size)) = false := bool_no fun h => by
      simp only [Bool.and_eq_true, Bool.not_eq_true', decide_eq_true_eq] at h
      exact h1 ⟨h.1.1, h.1.2, h.2⟩
    simp only [htt, Bool.false_eq_true, if_false, Bool.or_false]
theorem letN_87 (t : Bool) : letN 87 t = -1 := by cases t <;> rfl
theorem letN_le (c : Int) (t : Bool) : letN c t ≤ 5 := by
  unfold letN
  repeat' split
  all_goals omega
theorem c6_wrx {x : Int} (h : 0 ≤ x ∧ x < 6) (v : P6) (n : Int) : Wr (0 + x.toNat * 1) [.int .i64 n] (c6 v) (c6 (v.set x n)) := by
  obtain ⟨j, rfl⟩ := Int.eq_ofNat_of_zero_le h.1
  rw [show 0 + ((j : Nat) : Int).toNat * 1 = j by omega]
  exact c6_wr (by omega) v n

theorem b_GetRun (s : ByteArray) (p : Nat) (hs : s.size ≤ 1000000000000) (hp : p ≤ s.size) (hm : 1 ≤ runN s p ∧ runN s p ≤ 6) (w : World) (hb : D.Base w) :
    Calls Tryz.prog 76 #[.string s, .int .i64 (p : Int), .int .i64 (runN s p : Int)] w fun e w' => e = .returned (.tuple #[.int .i64 (numL s p (runN s p)), .bool true]) ∧ Below w.heap.size w w' := by
  have h := b_DigitsGet s p (runN s p) hs (by omega) hm w hb
  rw [runN_allD, if_pos rfl] at h
  exact h

theorem b_PeriodFrom_no (s : ByteArray) (hs : s.size ≤ 1000000000000) (h : s.size < 3 ∨ ¬ bt s 0 = 80) (w : World) (hb : D.Base w) : Calls Tryz.prog 80 #[.string s] w fun e w' => e = .returned (perT (perR s)) ∧ Below w.heap.size w w' := by
  have hr : perR s = none := by unfold perR; rw [if_pos h]
  rw [hr]
  have e0 : bt s (Int.toNat 0) = bt s 0 := rfl
  refine enter Tryz.func80 rfl Tryz.ntmps80 rfl (by assumption) ?_
  (repeat' (first | intro (b : Nat) | refine go ?_ | (refine br ?_ ?_ <;> first | exact trivial | intro hq)))
  all_goals first | ((refine ret ?_; try exact rfl); done) | (exfalso; omega)

theorem b_PeriodFrom_w (s : ByteArray) (hs : s.size ≤ 1000000000000) (hz : 3 ≤ s.size) (h0 : bt s 0 = 80) (hw : isWeeks s = true) (w : World) (hb : D.Base w) : Calls Tryz.prog 80 #[.string s] w fun e w' => e = .returned (perT (perR s)) ∧ Below w.heap.size w w' := by
  have hr : perR s = weeksOf s := by unfold perR; rw [if_neg (by omega), if_pos hw]
  rw [hr]
  have e0 : bt s (Int.toNat 0) = 80 := h0
  have hw' := hw
  simp only [isWeeks, Bool.and_eq_true, decide_eq_true_eq] at hw'
  obtain ⟨hm, hB⟩ := hw'
  have hB1 := (isB_iff.1 hB).1
  have e1 : ((1 : Int) + (runN s 1 : Int)).toNat = 1 + runN s 1 := by omega
  have h87 : bt s ((1 : Int) + (runN s 1 : Int)).toNat = 87 := by rw [e1]; exact (isB_iff.1 hB).2
  have hd := isD_iff.1 ((runN_spec s 1).1 0 (by omega))
  have hd1 : 48 ≤ bt s (Int.toNat 1) ∧ bt s (Int.toNat 1) ≤ 57 := hd
  have hn := numL_4 (s := s) (q := 1) rfl hm.2
  have hN : weeksOf s = if 1 + runN s 1 + 1 = s.size ∧ 7 * numL s 1 (runN s 1) ≤ 9999 then some { P6.zero with c := 7 * numL s 1 (runN s 1) } else none := rfl
  rw [hN]
  clear hN hr hw hd h0 hB
  have run := b_DigitsRun s 1 hs (by omega)
  have get := b_GetRun s 1 hs (by omega) (by omega)
  generalize numL s 1 (runN s 1) = N at *
  generalize runN s 1 = M at *
  refine enter Tryz.func80 rfl Tryz.ntmps80 rfl (by assumption) ?_
  (repeat' (first | intro (b : Nat) | refine go ?_ | (refine br ?_ ?_ <;> first | exact trivial | intro hq)))
  refine C.rounds 1 ?_
  (repeat' (first | intro (b : Nat) | refine go ?_ | (refine br ?_ ?_ <;> first | exact trivial | intro hq) | refine L.call (h := by intro W hW; first | apply run W hW.base | apply get W hW.base) (k := ?_)))
  all_goals (refine ret ?_; try exact rfl)
  all_goals first | (rw [if_pos (by omega)]; rfl) | (rw [if_neg (by omega)]; rfl)

/-- Where the reference's reader stands. -/
structure RSt where
  pos : Nat
  last : Int
  t : Bool
  v : P6

theorem b_PeriodFrom_p (s : ByteArray) (hs : s.size ≤ 1000000000000) (hz : 3 ≤ s.size) (h0 : bt s 0 = 80) (hw : isWeeks s = false) (w : World) (hb : D.Base w) : Calls Tryz.prog 80 #[.string s] w fun e w' => e = .returned (perT (perR s)) ∧ Below w.heap.size w w' := by
  have hr : perR s = pfR s s.size 1 (-1) false P6.zero := by unfold perR; rw [if_neg (by omega), if_neg (by simp [hw])]
  rw [hr]
  generalize hTg : pfR s s.size 1 (-1) false P6.zero = Tg
  have e0 : bt s (Int.toNat 0) = 80 := h0
  have hno : ∀ q : Nat, 1 ≤ runN s q → runN s q ≤ 4 → q + runN s q < s.size → bt s (q + runN s q) = 87 → ¬ q = 1 := by
    rintro q a1 a2 a3 a4 rfl
    have : isWeeks s = true := by
      simp only [isWeeks, Bool.and_eq_true, decide_eq_true_eq]
      exact ⟨⟨a1, a2⟩, isB_iff.2 ⟨a3, a4⟩⟩
    rw [hw] at this
    cases this
  refine enter Tryz.func80 rfl Tryz.ntmps80 rfl (by assumption) ?_
  (repeat' (first | intro (b : Nat) | refine go ?_ | (refine br ?_ ?_ <;> first | exact trivial | intro hq)))
  rename_i b1 hq1
  revert b
  intro bm
  refine C.loopw (Y := RSt) (fun k => [(0, .string s), (2, .pointer (some ⟨b1, 0, none⟩)), (3, .bool false), (4, .slice (some ⟨bm, 0, none⟩) 6 6), (5, .int .i64 k.last), (6, .bool k.t), (7, .int .i64 (k.pos : Int))]) (fun k => (bm, .cells 3 (c6 k.v)) :: (b1, perB P6.zero) :: []) (fun k => 1 ≤ k.pos ∧ k.pos ≤ s.size ∧ -1 ≤ k.last ∧ ∃ g, s.size < k.pos + g ∧ pfR s g k.pos k.last k.t k.v = Tg) (fun k => s.size - k.pos) ⟨1, -1, false, P6.zero⟩ ⟨Nat.le_refl _, by show 1 ≤ s.size; omega, Int.le_refl _, s.size, by show s.size < 1 + s.size; omega, hTg⟩ (fun k hy => ?_)
  generalize k.pos = pos at *
  generalize k.last = last at *
  generalize k.t = t at *
  generalize k.v = v at *
  obtain ⟨hp1, hp, hl1, g, hg, hpf⟩ := hy
  obtain ⟨g, rfl⟩ : ∃ g', g = g' + 1 := ⟨g - 1, by omega⟩
  by_cases hend : s.size ≤ pos
  · rw [pfR_stop g hend] at hpf
    subst hpf
    (repeat' (first | intro (b : Nat) | refine go ?_ | (refine br ?_ ?_ <;> first | exact trivial | intro hq) | refine L.call (h := by intro W hW; apply b_Of bm v W (hW.cell (List.Mem.head _) rfl) (hW.cell (List.Mem.head _) rfl) (hW.cell (List.Mem.head _) rfl) (hW.cell (List.Mem.head _) rfl) (hW.cell (List.Mem.head _) rfl) (hW.cell (List.Mem.head _) rfl) hW.base) (k := ?_)))
    (refine ret ?_; try exact rfl)
  · have hlt : pos < s.size := by omega
    have ep : ((pos : Int)).toNat = pos := by omega
    cases t
    case' true =>
      have ec : (pos : Int) = (((pos : Nat)) : Int) := by omega
      have hq : pos < s.size := by omega
      have hrl := runN_le (s := s) (p := pos) (by omega)
      rw [pfR_go (q := pos) (t' := true) g hlt (.inr ⟨by simp, rfl, rfl⟩)] at hpf
      have run : ∀ W, D.Base W → Calls Tryz.prog 133 #[.string s, .int .i64 ((pos : Int))] W fun e w' => e = .returned (.int .i64 (runN s (pos))) ∧ Below W.heap.size W w' := fun W hW => by rw [ec]; exact b_DigitsRun s (pos) hs (by omega) W hW
      by_cases hA : 1 ≤ runN s (pos) ∧ runN s (pos) ≤ 6
      · have get : ∀ W, D.Base W → Calls Tryz.prog 76 #[.string s, .int .i64 ((pos : Int)), .int .i64 (runN s (pos))] W fun e w' => e = .returned (.tuple #[.int .i64 (numL s (pos) (runN s (pos))), .bool true]) ∧ Below W.heap.size W w' := fun W hW => by rw [ec]; exact b_GetRun s (pos) hs (by omega) hA W hW
        by_cases hm : 1 ≤ runN s (pos) ∧ runN s (pos) ≤ 4 ∧ pos + runN s (pos) < s.size
        · rw [if_pos hm] at hpf
          have hno' := hno (pos) hm.1 hm.2.1 hm.2.2
          have e1 : ((pos : Int) + (runN s (pos) : Int)).toNat = pos + runN s (pos) := by omega
          rw [← e1] at hpf hno'
          generalize hcc : bt s ((pos : Int) + (runN s (pos) : Int)).toNat = c at hpf hno'
          rw [e1] at hpf
          by_cases h87 : c = 87
          · have hQ1 := hno' h87
            have hc87 : bt s ((pos : Int) + (runN s (pos) : Int)).toNat = 87 := by rw [hcc, h87]
            subst h87
            rw [letN_87, if_pos hl1] at hpf
            subst hpf
            clear hno hno' hcc
            (repeat' (first | intro (b : Nat) | refine go ?_ | (refine br ?_ ?_ <;> first | exact trivial | intro hq) | refine L.call (h := by intro W hW; first | apply run W hW.base | apply get W hW.base) (k := ?_)))
            all_goals (refine ret ?_; try exact rfl)
          · have hc87 : ¬ bt s ((pos : Int) + (runN s (pos) : Int)).toNat = 87 := by rw [hcc]; exact h87
            have let' : ∀ W, D.Base W → Calls Tryz.prog 134 #[.int .u8 (bt s ((pos : Int) + (runN s (pos) : Int)).toNat), .bool true] W fun e w' => e = .returned (.int .i64 (letN c true)) ∧ Below W.heap.size W w' := fun W hW => by rw [hcc]; exact b_Letter c true W hW
            have h5 := letN_le c true
            clear hno hno'
            by_cases hl : letN c true ≤ last
            · rw [if_pos hl] at hpf
              subst hpf
              clear hcc
              (repeat' (first | intro (b : Nat) | refine go ?_ | (refine br ?_ ?_ <;> first | exact trivial | intro hq) | refine L.call (h := by intro W hW; first | apply run W hW.base | apply get W hW.base | apply let' W hW.base) (k := ?_)))
              all_goals (refine ret ?_; try exact rfl)
            · rw [if_neg hl] at hpf
              clear hcc
              (repeat' (first | intro (b : Nat) | refine go ?_ | (refine br ?_ ?_ <;> first | exact trivial | intro hq) | refine L.call (h := by intro W hW; first | apply run W hW.base | apply get W hW.base | apply let' W hW.base) (k := ?_)))
              all_goals
                refine L.s rfl rfl (OS.store1 rfl rfl rfl (by (repeat (first | exact Upd.here | apply Upd.there))) (c6_wrx (by omega) v _)) ?_
                (repeat' (first | intro (b : Nat) | refine go ?_ | (refine br ?_ ?_ <;> first | exact trivial | intro hq)))
                refine X.roundw (⟨pos + runN s (pos) + 1, letN c true, true, v.set (letN c true) (numL s (pos) (runN s (pos)))⟩) (⟨by show 1 ≤ pos + runN s (pos) + 1; omega, by show pos + runN s (pos) + 1 ≤ s.size; omega, by show -1 ≤ letN c true; omega, g, by show s.size < pos + runN s (pos) + 1 + g; omega, hpf⟩) (by show s.size - (pos + runN s (pos) + 1) < s.size - pos; omega)
        · rw [if_neg hm] at hpf
          subst hpf
          clear hno
          (repeat' (first | intro (b : Nat) | refine go ?_ | (refine br ?_ ?_ <;> first | exact trivial | intro hq) | refine L.call (h := by intro W hW; first | apply run W hW.base | apply get W hW.base) (k := ?_)))
          all_goals (refine ret ?_; try exact rfl)
      · rw [if_neg (by omega)] at hpf
        subst hpf
        have get : ∀ W, D.Base W → Calls Tryz.prog 76 #[.string s, .int .i64 ((pos : Int)), .int .i64 (runN s (pos))] W fun e w' => e = .returned (.tuple #[.int .i64 0, .bool false]) ∧ Below W.heap.size W w' := fun W hW => by rw [ec]; exact b_DigitsGet_bad s (pos) (runN s (pos)) (by omega) (by omega) W hW
        clear hno
        (repeat' (first | intro (b : Nat) | refine go ?_ | (refine br ?_ ?_ <;> first | exact trivial | intro hq) | refine L.call (h := by intro W hW; first | apply run W hW.base | apply get W hW.base) (k := ?_)))
        all_goals (refine ret ?_; try exact rfl)
    case' false =>
      by_cases hTT : bt s pos = 84 ∧ pos + 1 < s.size
      · have hT84 : bt s ((pos : Int)).toNat = 84 := by rw [ep]; exact hTT.1
        have hT1 := hTT.2
        have ec : ((pos : Int) + 1) = (((pos + 1 : Nat)) : Int) := by omega
        have hq : pos + 1 < s.size := by omega
        have hrl := runN_le (s := s) (p := pos + 1) (by omega)
        rw [pfR_go (q := pos + 1) (t' := true) g hlt (.inl ⟨rfl, isB_iff.2 ⟨hlt, hTT.1⟩, hTT.2, rfl, rfl⟩)] at hpf
        have run : ∀ W, D.Base W → Calls Tryz.prog 133 #[.string s, .int .i64 (((pos : Int) + 1))] W fun e w' => e = .returned (.int .i64 (runN s (pos + 1))) ∧ Below W.heap.size W w' := fun W hW => by rw [ec]; exact b_DigitsRun s (pos + 1) hs (by omega) W hW
        by_cases hA : 1 ≤ runN s (pos + 1) ∧ runN s (pos + 1) ≤ 6
        · have get : ∀ W, D.Base W → Calls Tryz.prog 76 #[.string s, .int .i64 (((pos : Int) + 1)), .int .i64 (runN s (pos + 1))] W fun e w' => e = .returned (.tuple #[.int .i64 (numL s (pos + 1) (runN s (pos + 1))), .bool true]) ∧ Below W.heap.size W w' := fun W hW => by rw [ec]; exact b_GetRun s (pos + 1) hs (by omega) hA W hW
          by_cases hm : 1 ≤ runN s (pos + 1) ∧ runN s (pos + 1) ≤ 4 ∧ pos + 1 + runN s (pos + 1) < s.size
          · rw [if_pos hm] at hpf
            have hno' := hno (pos + 1) hm.1 hm.2.1 hm.2.2
            have e1 : (((pos : Int) + 1) + (runN s (pos + 1) : Int)).toNat = pos + 1 + runN s (pos + 1) := by omega
            rw [← e1] at hpf hno'
            generalize hcc : bt s (((pos : Int) + 1) + (runN s (pos + 1) : Int)).toNat = c at hpf hno'
            rw [e1] at hpf
            by_cases h87 : c = 87
            · have hQ1 := hno' h87
              have hc87 : bt s (((pos : Int) + 1) + (runN s (pos + 1) : Int)).toNat = 87 := by rw [hcc, h87]
              subst h87
              rw [letN_87, if_pos hl1] at hpf
              subst hpf
              clear hno hno' hcc
              (repeat' (first | intro (b : Nat) | refine go ?_ | (refine br ?_ ?_ <;> first | exact trivial | intro hq) | refine L.call (h := by intro W hW; first | apply run W hW.base | apply get W hW.base) (k := ?_)))
              all_goals (refine ret ?_; try exact rfl)
            · have hc87 : ¬ bt s (((pos : Int) + 1) + (runN s (pos + 1) : Int)).toNat = 87 := by rw [hcc]; exact h87
              have let' : ∀ W, D.Base W → Calls Tryz.prog 134 #[.int .u8 (bt s (((pos : Int) + 1) + (runN s (pos + 1) : Int)).toNat), .bool true] W fun e w' => e = .returned (.int .i64 (letN c true)) ∧ Below W.heap.size W w' := fun W hW => by rw [hcc]; exact b_Letter c true W hW
              have h5 := letN_le c true
              clear hno hno'
              by_cases hl : letN c true ≤ last
              · rw [if_pos hl] at hpf
                subst hpf
                clear hcc
                (repeat' (first | intro (b : Nat) | refine go ?_ | (refine br ?_ ?_ <;> first | exact trivial | intro hq) | refine L.call (h := by intro W hW; first | apply run W hW.base | apply get W hW.base | apply let' W hW.base) (k := ?_)))
                all_goals (refine ret ?_; try exact rfl)
              · rw [if_neg hl] at hpf
                clear hcc
                (repeat' (first | intro (b : Nat) | refine go ?_ | (refine br ?_ ?_ <;> first | exact trivial | intro hq) | refine L.call (h := by intro W hW; first | apply run W hW.base | apply get W hW.base | apply let' W hW.base) (k := ?_)))
                all_goals
                  refine L.s rfl rfl (OS.store1 rfl rfl rfl (by (repeat (first | exact Upd.here | apply Upd.there))) (c6_wrx (by omega) v _)) ?_
                  (repeat' (first | intro (b : Nat) | refine go ?_ | (refine br ?_ ?_ <;> first | exact trivial | intro hq)))
                  refine X.roundw (⟨pos + 1 + runN s (pos + 1) + 1, letN c true, true, v.set (letN c true) (numL s (pos + 1) (runN s (pos + 1)))⟩) (⟨by show 1 ≤ pos + 1 + runN s (pos + 1) + 1; omega, by show pos + 1 + runN s (pos + 1) + 1 ≤ s.size; omega, by show -1 ≤ letN c true; omega, g, by show s.size < pos + 1 + runN s (pos + 1) + 1 + g; omega, hpf⟩) (by show s.size - (pos + 1 + runN s (pos + 1) + 1) < s.size - pos; omega)
          · rw [if_neg hm] at hpf
            subst hpf
            clear hno
            (repeat' (first | intro (b : Nat) | refine go ?_ | (refine br ?_ ?_ <;> first | exact trivial | intro hq) | refine L.call (h := by intro W hW; first | apply run W hW.base | apply get W hW.base) (k := ?_)))
            all_goals (refine ret ?_; try exact rfl)
        · rw [if_neg (by omega)] at hpf
          subst hpf
          have get : ∀ W, D.Base W → Calls Tryz.prog 76 #[.string s, .int .i64 (((pos : Int) + 1)), .int .i64 (runN s (pos + 1))] W fun e w' => e = .returned (.tuple #[.int .i64 0, .bool false]) ∧ Below W.heap.size W w' := fun W hW => by rw [ec]; exact b_DigitsGet_bad s (pos + 1) (runN s (pos + 1)) (by omega) (by omega) W hW
          clear hno
          (repeat' (first | intro (b : Nat) | refine go ?_ | (refine br ?_ ?_ <;> first | exact trivial | intro hq) | refine L.call (h := by intro W hW; first | apply run W hW.base | apply get W hW.base) (k := ?_)))
          all_goals (refine ret ?_; try exact rfl)
      · have hT84 : ¬ (bt s ((pos : Int)).toNat = 84 ∧ pos + 1 < s.size) := by rw [ep]; exact hTT
        have ec : (pos : Int) = (((pos : Nat)) : Int) := by omega
        have hq : pos < s.size := by omega
        have hrl := runN_le (s := s) (p := pos) (by omega)
        rw [pfR_go (q := pos) (t' := false) g hlt (.inr ⟨fun h => hTT ⟨(isB_iff.1 h.2.1).2, h.2.2⟩, rfl, rfl⟩)] at hpf
        have run : ∀ W, D.Base W → Calls Tryz.prog 133 #[.string s, .int .i64 ((pos : Int))] W fun e w' => e = .returned (.int .i64 (runN s (pos))) ∧ Below W.heap.size W w' := fun W hW => by rw [ec]; exact b_DigitsRun s (pos) hs (by omega) W hW
        by_cases hA : 1 ≤ runN s (pos) ∧ runN s (pos) ≤ 6
        · have get : ∀ W, D.Base W → Calls Tryz.prog 76 #[.string s, .int .i64 ((pos : Int)), .int .i64 (runN s (pos))] W fun e w' => e = .returned (.tuple #[.int .i64 (numL s (pos) (runN s (pos))), .bool true]) ∧ Below W.heap.size W w' := fun W hW => by rw [ec]; exact b_GetRun s (pos) hs (by omega) hA W hW
          by_cases hm : 1 ≤ runN s (pos) ∧ runN s (pos) ≤ 4 ∧ pos + runN s (pos) < s.size
          · rw [if_pos hm] at hpf
            have hno' := hno (pos) hm.1 hm.2.1 hm.2.2
            have e1 : ((pos : Int) + (runN s (pos) : Int)).toNat = pos + runN s (pos) := by omega
            rw [← e1] at hpf hno'
            generalize hcc : bt s ((pos : Int) + (runN s (pos) : Int)).toNat = c at hpf hno'
            rw [e1] at hpf
            by_cases h87 : c = 87
            · have hQ1 := hno' h87
              have hc87 : bt s ((pos : Int) + (runN s (pos) : Int)).toNat = 87 := by rw [hcc, h87]
              subst h87
              rw [letN_87, if_pos hl1] at hpf
              subst hpf
              clear hno hno' hcc
              (repeat' (first | intro (b : Nat) | refine go ?_ | (refine br ?_ ?_ <;> first | exact trivial | intro hq) | refine L.call (h := by intro W hW; first | apply run W hW.base | apply get W hW.base) (k := ?_)))
              all_goals (refine ret ?_; try exact rfl)
            · have hc87 : ¬ bt s ((pos : Int) + (runN s (pos) : Int)).toNat = 87 := by rw [hcc]; exact h87
              have let' : ∀ W, D.Base W → Calls Tryz.prog 134 #[.int .u8 (bt s ((pos : Int) + (runN s (pos) : Int)).toNat), .bool false] W fun e w' => e = .returned (.int .i64 (letN c false)) ∧ Below W.heap.size W w' := fun W hW => by rw [hcc]; exact b_Letter c false W hW
              have h5 := letN_le c false
              clear hno hno'
              by_cases hl : letN c false ≤ last
              · rw [if_pos hl] at hpf
                subst hpf
                clear hcc
                (repeat' (first | intro (b : Nat) | refine go ?_ | (refine br ?_ ?_ <;> first | exact trivial | intro hq) | refine L.call (h := by intro W hW; first | apply run W hW.base | apply get W hW.base | apply let' W hW.base) (k := ?_)))
                all_goals (refine ret ?_; try exact rfl)
              · rw [if_neg hl] at hpf
                clear hcc
                (repeat' (first | intro (b : Nat) | refine go ?_ | (refine br ?_ ?_ <;> first | exact trivial | intro hq) | refine L.call (h := by intro W hW; first | apply run W hW.base | apply get W hW.base | apply let' W hW.base) (k := ?_)))
                all_goals
                  refine L.s rfl rfl (OS.store1 rfl rfl rfl (by (repeat (first | exact Upd.here | apply Upd.there))) (c6_wrx (by omega) v _)) ?_
                  (repeat' (first | intro (b : Nat) | refine go ?_ | (refine br ?_ ?_ <;> first | exact trivial | intro hq)))
                  refine X.roundw (⟨pos + runN s (pos) + 1, letN c false, false, v.set (letN c false) (numL s (pos) (runN s (pos)))⟩) (⟨by show 1 ≤ pos + runN s (pos) + 1; omega, by show pos + runN s (pos) + 1 ≤ s.size; omega, by show -1 ≤ letN c false; omega, g, by show s.size < pos + runN s (pos) + 1 + g; omega, hpf⟩) (by show s.size - (pos + runN s (pos) + 1) < s.size - pos; omega)
          · rw [if_neg hm] at hpf
            subst hpf
            clear hno
            (repeat' (first | intro (b : Nat) | refine go ?_ | (refine br ?_ ?_ <;> first | exact trivial | intro hq) | refine L.call (h := by intro W hW; first | apply run W hW.base | apply get W hW.base) (k := ?_)))
            all_goals (refine ret ?_; try exact rfl)
        · rw [if_neg (by omega)] at hpf
          subst hpf
          have get : ∀ W, D.Base W → Calls Tryz.prog 76 #[.string s, .int .i64 ((pos : Int)), .int .i64 (runN s (pos))] W fun e w' => e = .returned (.tuple #[.int .i64 0, .bool false]) ∧ Below W.heap.size W w' := fun W hW => by rw [ec]; exact b_DigitsGet_bad s (pos) (runN s (pos)) (by omega) (by omega) W hW
          clear hno
          (repeat' (first | intro (b : Nat) | refine go ?_ | (refine br ?_ ?_ <;> first | exact trivial | intro hq) | refine L.call (h := by intro W hW; first | apply run W hW.base | apply get W hW.base) (k := ?_)))
          all_goals (refine ret ?_; try exact rfl)

theorem b_PeriodFrom (s : ByteArray) (hs : s.size ≤ 1000000000000) (w : World) (hb : D.Base w) : Calls Tryz.prog 80 #[.string s] w fun e w' => e = .returned (perT (perR s)) ∧ Below w.heap.size w w' := by
  by_cases h : s.size < 3 ∨ ¬ bt s 0 = 80
  · exact b_PeriodFrom_no s hs h w hb
  · have h0 : bt s 0 = 80 := Classical.byContradiction fun k => h (.inr k)
    cases hw : isWeeks s with
    | true => exact b_PeriodFrom_w s hs (by omega) h0 hw w hb
    | false => exact b_PeriodFrom_p s hs (by omega) h0 hw w hb

end D
end Go.Proofs.YtboglbdhibcacaaGreatDoor
