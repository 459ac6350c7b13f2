/- Walks of the laws on what is in the first ranges alone. -/
import Derived.Test.YtmohggeeedncoaaRg6
import Derived.Test.YtmohggeeedncoaaRg9
import Derived.Test.YtmohggeeedncoaaEq
namespace Go.Proofs.Ytmohggeeedncoaa
set_option linter.unusedVariables false
set_option linter.unusedSimpArgs false
set_option maxRecDepth 100000
set_option maxHeartbeats 1000000
namespace D
open Go.RowKit
attribute [local irreducible] Calls

theorem l_same (p q : Option Addr) (ca cb : Nat) (A : List Rg) (hl : A.length ≤ 1000000000) (w : World) (hA : RAt w p A) (hB : RAt w q A) (hb : D.Base w) : Calls Try.prog 16 #[.slice p A.length ca, .slice q A.length cb] w fun e w' => e = .returned (.bool true) ∧ Below w.heap.size w w' := by
  refine enter Try.func16 rfl Try.ntmps16 rfl (by assumption) ?_
  (repeat' (first | intro (b : Nat) | refine go ?_ | (refine br ?_ ?_ <;> first | exact trivial | intro hq) | refine gg ?_ | (apply C.draww (id := 6) 9 [none, none, none, some _, none, none, none, some _, none])))
  refine C.loopw (Y := Nat) (fun k => [(0, .slice p A.length ca), (1, .slice q A.length cb), (5, .int .i64 k)]) (fun k => []) (fun k => k ≤ A.length) (fun k => A.length - k) 0 (Nat.zero_le _) (fun k hy => ?_)
  by_cases hk : k < A.length
  · obtain ⟨b, o, rfl, h1, h2, h3⟩ := hA.at (i := k) (by omega) (by omega)
    obtain ⟨b', o', rfl, k1, k2, k3⟩ := hB.at (i := k) (by omega) (by omega)
    simp only [Int.toNat_natCast] at h1 h2 h3 k1 k2 k3
    generalize gR A k = r at *
    (repeat' (first | intro (b : Nat) | refine go ?_ | (refine br ?_ ?_ <;> first | exact trivial | intro hq) | refine gg ?_ | (apply C.draww (id := 6) 9 [none, none, none, some _, none, none, none, some _, none])))
    refine X.roundw (k + 1) ((by omega)) ((by omega))
  · (repeat' (first | intro (b : Nat) | refine go ?_ | (refine br ?_ ?_ <;> first | exact trivial | intro hq)))
    (refine ret ?_; try exact rfl)

theorem own_f1 {M : List Rg} {pad : List Value} {i : Int} (h0 : 0 ≤ i) (h1 : i < M.length) : (flat rc M ++ pad)[0 + i.toNat * 2 + 0]? = some (.int .i64 (gR M i.toNat).1) := by
  rw [Nat.zero_add]; exact flat_get rc_len M pad i.toNat _ (gR_some (by omega)) 0 _ rfl
theorem own_f2 {M : List Rg} {pad : List Value} {i : Int} (h0 : 0 ≤ i) (h1 : i < M.length) : (flat rc M ++ pad)[0 + i.toNat * 2 + 1]? = some (.int .i64 (gR M i.toNat).2) := by
  rw [Nat.zero_add]; exact flat_get rc_len M pad i.toNat _ (gR_some (by omega)) 1 _ rfl
theorem pw_at {M : List Rg} (h : M.Pairwise (fun r s => r.2 < s.1)) {i j : Nat} (hij : i < j) (hj : j < M.length) : (gR M i).2 < (gR M j).1 := by
  have := List.pairwise_iff_getElem.1 h i j (by omega) hj hij
  simpa [gR, List.getD, hj, (by omega : i < M.length)] using this

theorem law_FnMinusAscend (a : Option Addr) (n c : Nat) (w : World) (hc : n ≤ 1048576 → CodeAt w (.slice a n c)) (hb : D.Base w) :
    Calls Try.prog 4 #[.slice a n c] w fun e w' => e = .returned (.bool true) ∧ Below w.heap.size w w' := by
  by_cases hn : n ≤ 1048576
  · refine enter Try.func4 rfl Try.ntmps4 rfl (by assumption) ?_
    (repeat' (first | intro (b : Nat) | refine go ?_ | (refine br ?_ ?_ <;> first | exact trivial | intro hq)))
    (refine L.ncall (h := by intro W hW; exact d_DrawRangesMinus _ W ((hc hn).keep hW.low) hW.base) (k := ?_); intro v H hR)
    obtain ⟨M, N, bm, cm, bn, cn, pm, pn, rfl, rfl, hlM, hlN⟩ := hR
    simp only [List.cons_append, List.nil_append]
    (repeat' (first | intro (b : Nat) | refine go ?_ | (refine br ?_ ?_ <;> first | exact trivial | intro hq)))
    by_cases hv : rvB M = true ∧ rvB N = true
    · (refine L.ncall (h := by intro W hW; exact a_Minus_yes _ _ _ _ M N hv.1 hv.2 W (rat_own hW (by (repeat (first | exact List.Mem.head _ | apply List.Mem.tail)))) (rat_own hW (by (repeat (first | exact List.Mem.head _ | apply List.Mem.tail)))) hW.base) (k := ?_); intro v H hR)
      obtain ⟨bo, co, po, rfl, rfl, ho⟩ := hR
      simp only [List.cons_append, List.nil_append]
      (repeat' (first | intro (b : Nat) | refine go ?_ | (refine br ?_ ?_ <;> first | exact trivial | intro hq)))
      (refine L.ncall (h := by intro W hW; exact b_RangesMinus _ _ _ _ M N (by omega) (by omega) W (rat_own hW (by (repeat (first | exact List.Mem.head _ | apply List.Mem.tail)))) (rat_own hW (by (repeat (first | exact List.Mem.head _ | apply List.Mem.tail)))) hW.base) (k := ?_); intro v H hR)
      obtain ⟨bw, cw, pw, rfl, rfl, hw⟩ := hR
      simp only [List.cons_append, List.nil_append]
      have hl := minR_len M N
      have hpw : (minR M N).Pairwise (fun r s => r.2 < s.1) := by rw [show minR M N = _ from if_pos hv]; exact minR_pw hv.1 hv.2
      generalize minR M N = R at *
      (repeat' (first | intro (b : Nat) | refine go ?_ | (refine br ?_ ?_ <;> first | exact trivial | intro hq)))
      (refine L.call (h := by intro W hW; exact l_same _ _ _ _ R (by omega) W (rat_own hW (by (repeat (first | exact List.Mem.head _ | apply List.Mem.tail)))) (rat_own hW (by (repeat (first | exact List.Mem.head _ | apply List.Mem.tail)))) hW.base) (k := ?_))
      (repeat' (first | intro (b : Nat) | refine go ?_ | (refine br ?_ ?_ <;> first | exact trivial | intro hq)))
      refine C.loopw (Y := Nat) (fun k => [(5, .slice (some ⟨bo, 0, none⟩) R.length co), (7, .int .i64 (k + 1))]) (fun k => [(bo, rblk R po)]) (fun k => True) (fun k => R.length - k) 0 trivial (fun k hy => ?_)
      by_cases hk : k + 1 < R.length
      · have e1 := own_f2 (M := R) (pad := po) (i := (k : Int) + 1 - 1) (by omega) (by omega)
        have e2 := own_f1 (M := R) (pad := po) (i := (k : Int) + 1) (by omega) (by omega)
        have hlt := pw_at hpw (i := ((k : Int) + 1 - 1).toNat) (j := ((k : Int) + 1).toNat) (by omega) (by omega)
        generalize gR R ((k : Int) + 1 - 1).toNat = r at *
        generalize gR R ((k : Int) + 1).toNat = s at *
        (repeat' (first | intro (b : Nat) | refine go ?_ | (refine br ?_ ?_ <;> first | exact trivial | intro hq) | refine gg ?_ | (apply C.draww (id := 11) 12 [none, none, none, none, none, some _, none, none, none, none, some _, none])))
        refine X.roundw (k + 1) (trivial) ((by omega))
      · (repeat' (first | intro (b : Nat) | refine go ?_ | (refine br ?_ ?_ <;> first | exact trivial | intro hq)))
        (refine ret ?_; try exact rfl)
    · have e : minR M N = [] := if_neg hv
      (refine L.call (h := by intro W hW; exact a_Minus_no _ _ _ _ M N hv W (rat_own hW (by (repeat (first | exact List.Mem.head _ | apply List.Mem.tail)))) (rat_own hW (by (repeat (first | exact List.Mem.head _ | apply List.Mem.tail)))) hW.base) (k := ?_))
      (repeat' (first | intro (b : Nat) | refine go ?_ | (refine br ?_ ?_ <;> first | exact trivial | intro hq)))
      (refine L.ncall (h := by intro W hW; exact b_RangesMinus _ _ _ _ M N (by omega) (by omega) W (rat_own hW (by (repeat (first | exact List.Mem.head _ | apply List.Mem.tail)))) (rat_own hW (by (repeat (first | exact List.Mem.head _ | apply List.Mem.tail)))) hW.base) (k := ?_); intro v H hR)
      rw [e] at hR
      obtain ⟨bw, cw, pw, rfl, rfl, hw⟩ := hR
      simp only [List.cons_append, List.nil_append]
      (repeat' (first | intro (b : Nat) | refine go ?_ | (refine br ?_ ?_ <;> first | exact trivial | intro hq)))
      (refine L.call (h := by intro W hW; exact l_same none _ _ _ [] (by decide) W RAt.nil RAt.nil hW.base) (k := ?_))
      (repeat' (first | intro (b : Nat) | refine go ?_ | (refine br ?_ ?_ <;> first | exact trivial | intro hq)))
      refine C.rounds 1 ?_
      (repeat' (first | intro (b : Nat) | refine go ?_ | (refine br ?_ ?_ <;> first | exact trivial | intro hq)))
      (refine ret ?_; try exact rfl)
  · refine enter Try.func4 rfl Try.ntmps4 rfl (by assumption) ?_
    (repeat' (first | intro (b : Nat) | refine go ?_ | (refine br ?_ ?_ <;> first | exact trivial | intro hq)))
    (refine ret ?_; try exact rfl)

end D
end Go.Proofs.Ytmohggeeedncoaa
