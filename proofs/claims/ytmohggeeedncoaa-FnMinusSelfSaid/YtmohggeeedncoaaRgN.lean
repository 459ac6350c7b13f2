/- Walks of the laws on what is in the first ranges alone: nothing is left of itself; what is left; sums. -/
import Derived.Test.YtmohggeeedncoaaRgM
namespace Go.Proofs.Ytmohggeeedncoaa
set_option linter.unusedVariables false
set_option linter.unusedSimpArgs false
set_option maxRecDepth 100000
set_option maxHeartbeats 1000000
namespace D
open Go.RowKit
attribute [local irreducible] Calls

theorem law_FnMinusSelf (a : Option Addr) (n c : Nat) (w : World) (hc : n ≤ 1048576 → CodeAt w (.slice a n c)) (hb : D.Base w) :
    Calls Try.prog 5 #[.slice a n c] w fun e w' => e = .returned (.bool true) ∧ Below w.heap.size w w' := by
  by_cases hn : n ≤ 1048576
  · refine enter Try.func5 rfl Try.ntmps5 rfl (by assumption) ?_
    (repeat' (first | intro (b : Nat) | refine go ?_ | (refine br ?_ ?_ <;> first | exact trivial | intro hq)))
    (refine L.ncall (h := by intro W hW; exact d_DrawRangesMinus _ W ((hc hn).keep hW.low) hW.base) (k := ?_); intro v H hR)
    obtain ⟨M, N, bm, cm, bn, cn, pm, pn, rfl, rfl, hlM, hlN⟩ := hR
    simp only [List.cons_append, List.nil_append]
    (repeat' (first | intro (b : Nat) | refine go ?_ | (refine br ?_ ?_ <;> first | exact trivial | intro hq)))
    by_cases hv : rvB M = true ∧ rvB N = true
    · have hm := hv.1
      (refine L.ncall (h := by intro W hW; exact a_Minus_yes _ _ _ _ M N hv.1 hv.2 W (rat_own hW (by (repeat (first | exact List.Mem.head _ | apply List.Mem.tail)))) (rat_own hW (by (repeat (first | exact List.Mem.head _ | apply List.Mem.tail)))) hW.base) (k := ?_); intro v H hR)
      obtain ⟨bo, co, po, rfl, rfl, ho⟩ := hR
      simp only [List.cons_append, List.nil_append]
      (repeat' (first | intro (b : Nat) | refine go ?_ | (refine br ?_ ?_ <;> first | exact trivial | intro hq)))
      (refine L.ncall (h := by intro W hW; exact b_RangesMinus _ _ _ _ M N (by omega) (by omega) W (rat_own hW (by (repeat (first | exact List.Mem.head _ | apply List.Mem.tail)))) (rat_own hW (by (repeat (first | exact List.Mem.head _ | apply List.Mem.tail)))) hW.base) (k := ?_); intro v H hR)
      obtain ⟨bw, cw, pw, rfl, rfl, hw⟩ := hR
      simp only [List.cons_append, List.nil_append]
      have hl := minR_len M N
      generalize minR M N = R at *
      (repeat' (first | intro (b : Nat) | refine go ?_ | (refine br ?_ ?_ <;> first | exact trivial | intro hq)))
      (refine L.call (h := by intro W hW; exact l_same _ _ _ _ R (by omega) W (rat_own hW (by (repeat (first | exact List.Mem.head _ | apply List.Mem.tail)))) (rat_own hW (by (repeat (first | exact List.Mem.head _ | apply List.Mem.tail)))) hW.base) (k := ?_))
      (repeat' (first | intro (b : Nat) | refine go ?_ | (refine br ?_ ?_ <;> first | exact trivial | intro hq)))
      (refine L.ncall (h := by intro W hW; exact a_Minus_yes _ _ _ _ M M hm hm W (rat_own hW (by (repeat (first | exact List.Mem.head _ | apply List.Mem.tail)))) (rat_own hW (by (repeat (first | exact List.Mem.head _ | apply List.Mem.tail)))) hW.base) (k := ?_); intro v H hR)
      rw [min_self] at hR
      obtain ⟨b1, c1, p1, rfl, rfl, h1⟩ := hR
      simp only [List.cons_append, List.nil_append]
      (repeat' (first | intro (b : Nat) | refine go ?_ | (refine br ?_ ?_ <;> first | exact trivial | intro hq)))
      (refine L.call (h := by intro W hW; exact rvb hm (a_RangesValid _ _ M W (rat_own hW (by (repeat (first | exact List.Mem.head _ | apply List.Mem.tail)))) hW.base)) (k := ?_))
      (repeat' (first | intro (b : Nat) | refine go ?_ | (refine br ?_ ?_ <;> first | exact trivial | intro hq)))
      (refine L.ncall (h := by intro W hW; exact a_Minus_yes _ _ _ _ M [] hm rv_nil W (rat_own hW (by (repeat (first | exact List.Mem.head _ | apply List.Mem.tail)))) RAt.nil hW.base) (k := ?_); intro v H hR)
      rw [min_nil hm] at hR
      obtain ⟨b2, c2, p2, rfl, rfl, h2⟩ := hR
      simp only [List.cons_append, List.nil_append]
      (repeat' (first | intro (b : Nat) | refine go ?_ | (refine br ?_ ?_ <;> first | exact trivial | intro hq)))
      (refine L.call (h := by intro W hW; exact l_same _ _ _ _ M (by omega) W (rat_own hW (by (repeat (first | exact List.Mem.head _ | apply List.Mem.tail)))) (rat_own hW (by (repeat (first | exact List.Mem.head _ | apply List.Mem.tail)))) hW.base) (k := ?_))
      (repeat' (first | intro (b : Nat) | refine go ?_ | (refine br ?_ ?_ <;> first | exact trivial | intro hq)))
      (refine ret ?_; try exact rfl)
    · have e : minR M N = [] := if_neg hv
      (refine L.call (h := by intro W hW; exact a_Minus_no _ _ _ _ M N hv W (rat_own hW (by (repeat (first | exact List.Mem.head _ | apply List.Mem.tail)))) (rat_own hW (by (repeat (first | exact List.Mem.head _ | apply List.Mem.tail)))) hW.base) (k := ?_))
      (repeat' (first | intro (b : Nat) | refine go ?_ | (refine br ?_ ?_ <;> first | exact trivial | intro hq)))
      (refine L.ncall (h := by intro W hW; exact b_RangesMinus _ _ _ _ M N (by omega) (by omega) W (rat_own hW (by (repeat (first | exact List.Mem.head _ | apply List.Mem.tail)))) (rat_own hW (by (repeat (first | exact List.Mem.head _ | apply List.Mem.tail)))) hW.base) (k := ?_); intro v H hR)
      rw [e] at hR
      obtain ⟨bw, cw, pw, rfl, rfl, hw⟩ := hR
      simp only [List.cons_append, List.nil_append]
      (repeat' (first | intro (b : Nat) | refine go ?_ | (refine br ?_ ?_ <;> first | exact trivial | intro hq)))
      (refine L.call (h := by intro W hW; exact l_same none _ _ _ [] (by decide) W RAt.nil RAt.nil hW.base) (k := ?_))
      (repeat' (first | intro (b : Nat) | refine go ?_ | (refine br ?_ ?_ <;> first | exact trivial | intro hq)))
      cases hm : rvB M with
      | true =>
        (refine L.ncall (h := by intro W hW; exact a_Minus_yes _ _ _ _ M M hm hm W (rat_own hW (by (repeat (first | exact List.Mem.head _ | apply List.Mem.tail)))) (rat_own hW (by (repeat (first | exact List.Mem.head _ | apply List.Mem.tail)))) hW.base) (k := ?_); intro v H hR)
        rw [min_self] at hR
        obtain ⟨b1, c1, p1, rfl, rfl, h1⟩ := hR
        simp only [List.cons_append, List.nil_append]
        (repeat' (first | intro (b : Nat) | refine go ?_ | (refine br ?_ ?_ <;> first | exact trivial | intro hq)))
        (refine L.call (h := by intro W hW; exact rvb hm (a_RangesValid _ _ M W (rat_own hW (by (repeat (first | exact List.Mem.head _ | apply List.Mem.tail)))) hW.base)) (k := ?_))
        (repeat' (first | intro (b : Nat) | refine go ?_ | (refine br ?_ ?_ <;> first | exact trivial | intro hq)))
        (refine L.ncall (h := by intro W hW; exact a_Minus_yes _ _ _ _ M [] hm rv_nil W (rat_own hW (by (repeat (first | exact List.Mem.head _ | apply List.Mem.tail)))) RAt.nil hW.base) (k := ?_); intro v H hR)
        rw [min_nil hm] at hR
        obtain ⟨b2, c2, p2, rfl, rfl, h2⟩ := hR
        simp only [List.cons_append, List.nil_append]
        (repeat' (first | intro (b : Nat) | refine go ?_ | (refine br ?_ ?_ <;> first | exact trivial | intro hq)))
        (refine L.call (h := by intro W hW; exact l_same _ _ _ _ M (by omega) W (rat_own hW (by (repeat (first | exact List.Mem.head _ | apply List.Mem.tail)))) (rat_own hW (by (repeat (first | exact List.Mem.head _ | apply List.Mem.tail)))) hW.base) (k := ?_))
        (repeat' (first | intro (b : Nat) | refine go ?_ | (refine br ?_ ?_ <;> first | exact trivial | intro hq)))
        (refine ret ?_; try exact rfl)
      | false =>
        (refine L.call (h := by intro W hW; exact a_Minus_no _ _ _ _ M M (by simp [hm]) W (rat_own hW (by (repeat (first | exact List.Mem.head _ | apply List.Mem.tail)))) (rat_own hW (by (repeat (first | exact List.Mem.head _ | apply List.Mem.tail)))) hW.base) (k := ?_))
        (repeat' (first | intro (b : Nat) | refine go ?_ | (refine br ?_ ?_ <;> first | exact trivial | intro hq)))
        (refine L.call (h := by intro W hW; exact rvb hm (a_RangesValid _ _ M W (rat_own hW (by (repeat (first | exact List.Mem.head _ | apply List.Mem.tail)))) hW.base)) (k := ?_))
        (repeat' (first | intro (b : Nat) | refine go ?_ | (refine br ?_ ?_ <;> first | exact trivial | intro hq)))
        (refine ret ?_; try exact rfl)
  · refine enter Try.func5 rfl Try.ntmps5 rfl (by assumption) ?_
    (repeat' (first | intro (b : Nat) | refine go ?_ | (refine br ?_ ?_ <;> first | exact trivial | intro hq)))
    (refine ret ?_; try exact rfl)

theorem law_FnMinus (a : Option Addr) (n c : Nat) (w : World) (hc : n ≤ 1048576 → CodeAt w (.slice a n c)) (hb : D.Base w) :
    Calls Try.prog 6 #[.slice a n c] w fun e w' => e = .returned (.bool true) ∧ Below w.heap.size w w' := by
  by_cases hn : n ≤ 1048576
  · refine enter Try.func6 rfl Try.ntmps6 rfl (by assumption) ?_
    (repeat' (first | intro (b : Nat) | refine go ?_ | (refine br ?_ ?_ <;> first | exact trivial | intro hq)))
    (refine L.ncall (h := by intro W hW; exact d_DrawRangesMinus _ W ((hc hn).keep hW.low) hW.base) (k := ?_); intro v H hR)
    obtain ⟨M, N, bm, cm, bn, cn, pm, pn, rfl, rfl, hlM, hlN⟩ := hR
    simp only [List.cons_append, List.nil_append]
    (repeat' (first | intro (b : Nat) | refine go ?_ | (refine br ?_ ?_ <;> first | exact trivial | intro hq)))
    by_cases hv : rvB M = true ∧ rvB N = true
    · (refine L.ncall (h := by intro W hW; exact a_Minus_yes _ _ _ _ M N hv.1 hv.2 W (rat_own hW (by (repeat (first | exact List.Mem.head _ | apply List.Mem.tail)))) (rat_own hW (by (repeat (first | exact List.Mem.head _ | apply List.Mem.tail)))) hW.base) (k := ?_); intro v H hR)
      obtain ⟨bo, co, po, rfl, rfl, ho⟩ := hR
      simp only [List.cons_append, List.nil_append]
      (repeat' (first | intro (b : Nat) | refine go ?_ | (refine br ?_ ?_ <;> first | exact trivial | intro hq)))
      (refine L.ncall (h := by intro W hW; exact b_RangesMinus _ _ _ _ M N (by omega) (by omega) W (rat_own hW (by (repeat (first | exact List.Mem.head _ | apply List.Mem.tail)))) (rat_own hW (by (repeat (first | exact List.Mem.head _ | apply List.Mem.tail)))) hW.base) (k := ?_); intro v H hR)
      obtain ⟨bw, cw, pw, rfl, rfl, hw⟩ := hR
      simp only [List.cons_append, List.nil_append]
      have hl := minR_len M N
      have hin : ∀ p ∈ minR M N, (p.1 < p.2 ∧ hasV M p.1 = true ∧ hasV M (p.2 - 1) = true ∧ hasV N p.1 = false ∧ hasV N (p.2 - 1) = false) ∧ -86400000 ≤ p.1 ∧ p.2 ≤ 315537984000000 := fun p hp => by
        rw [show minR M N = _ from if_pos hv] at hp
        have h1 := min_has hv.1 hv.2 hp
        have h2 := min_in hv.1 hv.2 hp
        simp [hasV, hv.1, hv.2, h1, h2]
      generalize minR M N = R at *
      (repeat' (first | intro (b : Nat) | refine go ?_ | (refine br ?_ ?_ <;> first | exact trivial | intro hq)))
      (refine L.call (h := by intro W hW; exact l_same _ _ _ _ R (by omega) W (rat_own hW (by (repeat (first | exact List.Mem.head _ | apply List.Mem.tail)))) (rat_own hW (by (repeat (first | exact List.Mem.head _ | apply List.Mem.tail)))) hW.base) (k := ?_))
      (repeat' (first | intro (b : Nat) | refine go ?_ | (refine br ?_ ?_ <;> first | exact trivial | intro hq)))
      refine C.loopw (Y := Nat) (fun k => [(3, .slice (some ⟨bm, 0, none⟩) M.length cm), (4, .slice (some ⟨bn, 0, none⟩) N.length cn), (5, .slice (some ⟨bo, 0, none⟩) R.length co), (7, .int .i64 k)]) (fun k => [(bo, rblk R po), (bn, rblk N pn), (bm, rblk M pm)]) (fun k => True) (fun k => R.length - k) 0 trivial (fun k hy => ?_)
      by_cases hk : k < R.length
      · have e1 := own_at (M := R) (pad := po) (i := (k : Int)) (by omega) (by omega)
        simp only [Int.toNat_natCast] at e1
        have hx := hin _ (gR_mem hk)
        generalize gR R k = x at *
        obtain ⟨⟨hx1, hx2, hx3, hx4, hx5⟩, hx6, hx7⟩ := hx
        have hg : decide (x.2 ≤ x.1) = false := by simp; omega
        (repeat' (first | intro (b : Nat) | refine go ?_ | (refine br ?_ ?_ <;> first | exact trivial | intro hq)))
        (refine L.call (h := by intro W hW; exact rvb hx2 (a_RangesHas _ _ _ M W (rat_own hW (by (repeat (first | exact List.Mem.head _ | apply List.Mem.tail)))) hW.base)) (k := ?_))
        (repeat' (first | intro (b : Nat) | refine go ?_ | (refine br ?_ ?_ <;> first | exact trivial | intro hq)))
        (refine L.call (h := by intro W hW; exact rvb hx3 (a_RangesHas _ _ _ M W (rat_own hW (by (repeat (first | exact List.Mem.head _ | apply List.Mem.tail)))) hW.base)) (k := ?_))
        (repeat' (first | intro (b : Nat) | refine go ?_ | (refine br ?_ ?_ <;> first | exact trivial | intro hq)))
        (refine L.call (h := by intro W hW; exact rvb hx4 (a_RangesHas _ _ _ N W (rat_own hW (by (repeat (first | exact List.Mem.head _ | apply List.Mem.tail)))) hW.base)) (k := ?_))
        (repeat' (first | intro (b : Nat) | refine go ?_ | (refine br ?_ ?_ <;> first | exact trivial | intro hq)))
        (refine L.call (h := by intro W hW; exact rvb hx5 (a_RangesHas _ _ _ N W (rat_own hW (by (repeat (first | exact List.Mem.head _ | apply List.Mem.tail)))) hW.base)) (k := ?_))
        (repeat' (first | intro (b : Nat) | refine go ?_ | (refine br ?_ ?_ <;> first | exact trivial | intro hq)))
        refine X.roundw (k + 1) (trivial) ((by omega))
      · (repeat' (first | intro (b : Nat) | refine go ?_ | (refine br ?_ ?_ <;> first | exact trivial | intro hq)))
        (refine ret ?_; try exact rfl)
    · have e : minR M N = [] := if_neg hv
      (refine L.call (h := by intro W hW; exact a_Minus_no _ _ _ _ M N hv W (rat_own hW (by (repeat (first | exact List.Mem.head _ | apply List.Mem.tail)))) (rat_own hW (by (repeat (first | exact List.Mem.head _ | apply List.Mem.tail)))) hW.base) (k := ?_))
      (repeat' (first | intro (b : Nat) | refine go ?_ | (refine br ?_ ?_ <;> first | exact trivial | intro hq)))
      (refine L.ncall (h := by intro W hW; exact b_RangesMinus _ _ _ _ M N (by omega) (by omega) W (rat_own hW (by (repeat (first | exact List.Mem.head _ | apply List.Mem.tail)))) (rat_own hW (by (repeat (first | exact List.Mem.head _ | apply List.Mem.tail)))) hW.base) (k := ?_); intro v H hR)
      rw [e] at hR
      obtain ⟨bw, cw, pw, rfl, rfl, hw⟩ := hR
      simp only [List.cons_append, List.nil_append]
      (repeat' (first | intro (b : Nat) | refine go ?_ | (refine br ?_ ?_ <;> first | exact trivial | intro hq)))
      (refine L.call (h := by intro W hW; exact l_same none _ _ _ [] (by decide) W RAt.nil RAt.nil hW.base) (k := ?_))
      (repeat' (first | intro (b : Nat) | refine go ?_ | (refine br ?_ ?_ <;> first | exact trivial | intro hq)))
      refine C.rounds 1 ?_
      (repeat' (first | intro (b : Nat) | refine go ?_ | (refine br ?_ ?_ <;> first | exact trivial | intro hq)))
      (refine ret ?_; try exact rfl)
  · refine enter Try.func6 rfl Try.ntmps6 rfl (by assumption) ?_
    (repeat' (first | intro (b : Nat) | refine go ?_ | (refine br ?_ ?_ <;> first | exact trivial | intro hq)))
    (refine ret ?_; try exact rfl)

theorem law_FnMinusTotal (a : Option Addr) (n c : Nat) (w : World) (hc : n ≤ 1048576 → CodeAt w (.slice a n c)) (hb : D.Base w) :
    Calls Try.prog 7 #[.slice a n c] w fun e w' => e = .returned (.bool true) ∧ Below w.heap.size w w' := by
  by_cases hn : n ≤ 1048576
  · refine enter Try.func7 rfl Try.ntmps7 rfl (by assumption) ?_
    (repeat' (first | intro (b : Nat) | refine go ?_ | (refine br ?_ ?_ <;> first | exact trivial | intro hq)))
    (refine L.ncall (h := by intro W hW; exact d_DrawRangesMinus _ W ((hc hn).keep hW.low) hW.base) (k := ?_); intro v H hR)
    obtain ⟨M, N, bm, cm, bn, cn, pm, pn, rfl, rfl, hlM, hlN⟩ := hR
    simp only [List.cons_append, List.nil_append]
    (repeat' (first | intro (b : Nat) | refine go ?_ | (refine br ?_ ?_ <;> first | exact trivial | intro hq)))
    by_cases hv : rvB M = true ∧ rvB N = true
    · (refine L.ncall (h := by intro W hW; exact a_Minus_yes _ _ _ _ M N hv.1 hv.2 W (rat_own hW (by (repeat (first | exact List.Mem.head _ | apply List.Mem.tail)))) (rat_own hW (by (repeat (first | exact List.Mem.head _ | apply List.Mem.tail)))) hW.base) (k := ?_); intro v H hR)
      obtain ⟨bo, co, po, rfl, rfl, ho⟩ := hR
      simp only [List.cons_append, List.nil_append]
      (repeat' (first | intro (b : Nat) | refine go ?_ | (refine br ?_ ?_ <;> first | exact trivial | intro hq)))
      (refine L.ncall (h := by intro W hW; exact b_RangesMinus _ _ _ _ M N (by omega) (by omega) W (rat_own hW (by (repeat (first | exact List.Mem.head _ | apply List.Mem.tail)))) (rat_own hW (by (repeat (first | exact List.Mem.head _ | apply List.Mem.tail)))) hW.base) (k := ?_); intro v H hR)
      obtain ⟨bw, cw, pw, rfl, rfl, hw⟩ := hR
      simp only [List.cons_append, List.nil_append]
      have hl := minR_len M N
      have hT := total_eq hv.1 hv.2
      have eR : minR M N = M.flatMap (fun r => wo r N) := if_pos hv
      rw [← eR] at hT
      have hml := meetA_len hv.1 hv.2
      have hin : ∀ p ∈ minR M N, -86400000 ≤ p.1 ∧ p.1 < p.2 ∧ p.2 ≤ 315537984000000 := fun p hp => by
        rw [eR] at hp
        exact min_in2 hv.1 hv.2 hp
      have hin2 : ∀ p ∈ meetA M N, -86400000 ≤ p.1 ∧ p.1 < p.2 ∧ p.2 ≤ 315537984000000 := fun p hp => meet_in2 hv.1 hv.2 hp
      generalize minR M N = R at *
      (repeat' (first | intro (b : Nat) | refine go ?_ | (refine br ?_ ?_ <;> first | exact trivial | intro hq)))
      (refine L.call (h := by intro W hW; exact l_same _ _ _ _ R (by omega) W (rat_own hW (by (repeat (first | exact List.Mem.head _ | apply List.Mem.tail)))) (rat_own hW (by (repeat (first | exact List.Mem.head _ | apply List.Mem.tail)))) hW.base) (k := ?_))
      (repeat' (first | intro (b : Nat) | refine go ?_ | (refine br ?_ ?_ <;> first | exact trivial | intro hq)))
      (refine L.call (h := by intro W hW; exact rvb hv.1 (b_RangesValid _ _ M (by omega) W (rat_own hW (by (repeat (first | exact List.Mem.head _ | apply List.Mem.tail)))) hW.base)) (k := ?_))
      (repeat' (first | intro (b : Nat) | refine go ?_ | (refine br ?_ ?_ <;> first | exact trivial | intro hq)))
      (refine L.call (h := by intro W hW; exact rvb hv.2 (b_RangesValid _ _ N (by omega) W (rat_own hW (by (repeat (first | exact List.Mem.head _ | apply List.Mem.tail)))) hW.base)) (k := ?_))
      (repeat' (first | intro (b : Nat) | refine go ?_ | (refine br ?_ ?_ <;> first | exact trivial | intro hq)))
      have hok : ∀ r ∈ R, 0 ≤ r.2 - r.1 ∧ r.2 - r.1 ≤ 1000000000000000 := fun r hr => by have := hin r hr; omega
      have hok2 : ∀ r ∈ meetA M N, 0 ≤ r.2 - r.1 ∧ r.2 - r.1 ≤ 1000000000000000 := fun r hr => by have := hin2 r hr; omega
      have hsR := lenS_bd hok
      refine C.loopw (Y := Nat) (fun k => [(3, .slice (some ⟨bm, 0, none⟩) M.length cm), (4, .slice (some ⟨bn, 0, none⟩) N.length cn), (5, .slice (some ⟨bo, 0, none⟩) R.length co), (7, .int .i64 (lenS (R.take k))), (8, .int .i64 k)]) (fun k => [(bo, rblk R po), (bn, rblk N pn), (bm, rblk M pm)]) (fun k => k ≤ R.length) (fun k => R.length - k) 0 (Nat.zero_le _) (fun k hy => ?_)
      have hs := lenS_take hok (by omega) k
      by_cases hk : k < R.length
      · have e1 := own_f1 (M := R) (pad := po) (i := (k : Int)) (by omega) (by omega)
        have e2 := own_f2 (M := R) (pad := po) (i := (k : Int)) (by omega) (by omega)
        simp only [Int.toNat_natCast] at e1 e2
        have hx := hin _ (gR_mem hk)
        have e : lenS (R.take (k + 1)) = lenS (R.take k) + (gR R k).2 - (gR R k).1 := by rw [take_snoc (gR_some hk), lenS_snoc]; omega
        generalize gR R k = x at *
        (repeat' (first | intro (b : Nat) | refine go ?_ | (refine br ?_ ?_ <;> first | exact trivial | intro hq) | refine gg ?_ | (apply C.draww (id := 12) 13 [none, none, none, none, none, some _, none, none, none, none, none, some _, none]) | (apply C.draww (id := 17) 13 [none, none, none, none, none, some _, none, none, none, none, none, some _, none])))
        (refine X.roundw (k + 1) (by omega) (by omega) (h3 := by simp only [e]; (repeat (first | exact Sub.nil | (apply Sub.cons; exact rfl; (· first | with_reducible rfl | exact congrArg (Value.int IntKind.i64) (by omega) | rfl))))))
      · have hk : k = R.length := by omega
        rw [hk, List.take_length] at *
        (repeat' (first | intro (b : Nat) | refine go ?_ | (refine br ?_ ?_ <;> first | exact trivial | intro hq)))
        (refine L.ncall (h := by intro W hW; exact a_RangesMeet _ _ _ _ M N hv.1 hv.2 W (rat_own hW (by (repeat (first | exact List.Mem.head _ | apply List.Mem.tail)))) (rat_own hW (by (repeat (first | exact List.Mem.head _ | apply List.Mem.tail)))) hW.base) (k := ?_); intro v H hR)
        obtain ⟨bt, ct, pt, rfl, rfl, ht⟩ := hR
        simp only [List.cons_append, List.nil_append]
        generalize meetA M N = S at *
        (repeat' (first | intro (b : Nat) | refine go ?_ | (refine br ?_ ?_ <;> first | exact trivial | intro hq)))
        refine C.loopw (Y := Nat) (fun k => [(3, .slice (some ⟨bm, 0, none⟩) M.length cm), (9, .slice (some ⟨bt, 0, none⟩) S.length ct), (7, .int .i64 (lenS R + lenS (S.take k))), (10, .int .i64 k)]) (fun k => [(bt, rblk S pt), (bm, rblk M pm)]) (fun k => k ≤ S.length) (fun k => S.length - k) 0 (Nat.zero_le _) (h1 := by simp only [List.take_zero, lenS, Int.add_zero]; (repeat (first | exact Sub.nil | (apply Sub.cons; exact rfl; (· first | with_reducible rfl | exact congrArg (Value.int IntKind.i64) (by omega) | rfl))))) (fun k hy => ?_)
        have hs2 := lenS_take hok2 (by omega) k
        by_cases hk : k < S.length
        · have e1 := own_f1 (M := S) (pad := pt) (i := (k : Int)) (by omega) (by omega)
          have e2 := own_f2 (M := S) (pad := pt) (i := (k : Int)) (by omega) (by omega)
          simp only [Int.toNat_natCast] at e1 e2
          have hx := hin2 _ (gR_mem hk)
          have e : lenS R + lenS (S.take (k + 1)) = lenS R + lenS (S.take k) + (gR S k).2 - (gR S k).1 := by rw [take_snoc (gR_some hk), lenS_snoc]; omega
          generalize gR S k = x at *
          (repeat' (first | intro (b : Nat) | refine go ?_ | (refine br ?_ ?_ <;> first | exact trivial | intro hq) | refine gg ?_ | (apply C.draww (id := 12) 13 [none, none, none, none, none, some _, none, none, none, none, none, some _, none]) | (apply C.draww (id := 17) 13 [none, none, none, none, none, some _, none, none, none, none, none, some _, none])))
          (refine X.roundw (k + 1) (by omega) (by omega) (h3 := by simp only [e]; (repeat (first | exact Sub.nil | (apply Sub.cons; exact rfl; (· first | with_reducible rfl | exact congrArg (Value.int IntKind.i64) (by omega) | rfl))))))
        · have hk : k = S.length := by omega
          subst hk
          rw [List.take_length] at *
          (repeat' (first | intro (b : Nat) | refine go ?_ | (refine br ?_ ?_ <;> first | exact trivial | intro hq)))
          (refine L.call (h := by intro W hW; exact rvi (if_pos hv.1) (a_RangesTotal _ _ M W (rat_own hW (by (repeat (first | exact List.Mem.head _ | apply List.Mem.tail)))) hW.base)) (k := ?_))
          (repeat' (first | intro (b : Nat) | refine go ?_ | (refine br ?_ ?_ <;> first | exact trivial | intro hq)))
          (refine ret ?_; try exact rfl)
          simp [tupleOf, hT]
    · have e : minR M N = [] := if_neg hv
      (refine L.call (h := by intro W hW; exact a_Minus_no _ _ _ _ M N hv W (rat_own hW (by (repeat (first | exact List.Mem.head _ | apply List.Mem.tail)))) (rat_own hW (by (repeat (first | exact List.Mem.head _ | apply List.Mem.tail)))) hW.base) (k := ?_))
      (repeat' (first | intro (b : Nat) | refine go ?_ | (refine br ?_ ?_ <;> first | exact trivial | intro hq)))
      (refine L.ncall (h := by intro W hW; exact b_RangesMinus _ _ _ _ M N (by omega) (by omega) W (rat_own hW (by (repeat (first | exact List.Mem.head _ | apply List.Mem.tail)))) (rat_own hW (by (repeat (first | exact List.Mem.head _ | apply List.Mem.tail)))) hW.base) (k := ?_); intro v H hR)
      rw [e] at hR
      obtain ⟨bw, cw, pw, rfl, rfl, hw⟩ := hR
      simp only [List.cons_append, List.nil_append]
      (repeat' (first | intro (b : Nat) | refine go ?_ | (refine br ?_ ?_ <;> first | exact trivial | intro hq)))
      (refine L.call (h := by intro W hW; exact l_same none _ _ _ [] (by decide) W RAt.nil RAt.nil hW.base) (k := ?_))
      (repeat' (first | intro (b : Nat) | refine go ?_ | (refine br ?_ ?_ <;> first | exact trivial | intro hq)))
      cases hm : rvB M with
      | true =>
        have hnn : rvB N = false := by simpa [hm] using hv
        (refine L.call (h := by intro W hW; exact rvb hm (b_RangesValid _ _ M (by omega) W (rat_own hW (by (repeat (first | exact List.Mem.head _ | apply List.Mem.tail)))) hW.base)) (k := ?_))
        (repeat' (first | intro (b : Nat) | refine go ?_ | (refine br ?_ ?_ <;> first | exact trivial | intro hq)))
        (refine L.call (h := by intro W hW; exact rvb hnn (b_RangesValid _ _ N (by omega) W (rat_own hW (by (repeat (first | exact List.Mem.head _ | apply List.Mem.tail)))) hW.base)) (k := ?_))
        (repeat' (first | intro (b : Nat) | refine go ?_ | (refine br ?_ ?_ <;> first | exact trivial | intro hq)))
        (refine L.call (h := by intro W hW; exact l_same none _ _ _ [] (by decide) W RAt.nil RAt.nil hW.base) (k := ?_))
        (repeat' (first | intro (b : Nat) | refine go ?_ | (refine br ?_ ?_ <;> first | exact trivial | intro hq)))
        (refine ret ?_; try exact rfl)
      | false =>
        (refine L.call (h := by intro W hW; exact rvb hm (b_RangesValid _ _ M (by omega) W (rat_own hW (by (repeat (first | exact List.Mem.head _ | apply List.Mem.tail)))) hW.base)) (k := ?_))
        (repeat' (first | intro (b : Nat) | refine go ?_ | (refine br ?_ ?_ <;> first | exact trivial | intro hq)))
        (refine L.call (h := by intro W hW; exact l_same none _ _ _ [] (by decide) W RAt.nil RAt.nil hW.base) (k := ?_))
        (repeat' (first | intro (b : Nat) | refine go ?_ | (refine br ?_ ?_ <;> first | exact trivial | intro hq)))
        (refine ret ?_; try exact rfl)
  · refine enter Try.func7 rfl Try.ntmps7 rfl (by assumption) ?_
    (repeat' (first | intro (b : Nat) | refine go ?_ | (refine br ?_ ?_ <;> first | exact trivial | intro hq)))
    (refine ret ?_; try exact rfl)

end D
end Go.Proofs.Ytmohggeeedncoaa
