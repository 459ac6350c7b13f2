/- Walks: what is in the first ranges alone, by the program. -/
import Derived.Test.YtmohggeeedncoaaRg4
namespace Go.Proofs.Ytmohggeeedncoaa
set_option linter.unusedVariables false
set_option linter.unusedSimpArgs false
set_option maxRecDepth 100000
set_option maxHeartbeats 1000000
namespace D
open Go.RowKit
attribute [local irreducible] Calls chH

/-- A slice of ranges, which may be nil. -/
def RN (M : List Rg) : Value → SH → Prop := fun v H => (v = .slice none 0 0 ∧ M = [] ∧ H = []) ∨ RS M v H

theorem own_at {M : List Rg} {pad : List Value} {i : Int} (h0 : 0 ≤ i) (h1 : i < M.length) : ∀ j u, (rc (gR M i.toNat))[j]? = some u → (flat rc M ++ pad)[0 + i.toNat * 2 + j]? = some u := fun j u hj => by
  rw [Nat.zero_add]
  exact flat_get rc_len M pad i.toNat _ (gR_some (by omega)) j u hj

theorem chH_nil (c : Nat) : chH c [] = [(c, chB (.pointer none) (.pointer none) 0)] := by unfold chH; rfl

theorem a_Minus_no (p q : Option Addr) (ca cb : Nat) (A B : List Rg) (hab : ¬ (rvB A = true ∧ rvB B = true)) (w : World) (hA : RAt w p A) (hB : RAt w q B) (hb : D.Base w) : Calls Try.prog 11 #[.slice p A.length ca, .slice q B.length cb] w fun e w' => e = .returned (.slice none 0 0) ∧ Below w.heap.size w w' := by
  cases ha : rvB A with
  | false =>
    refine enter Try.func11 rfl Try.ntmps11 rfl (by assumption) ?_
    (repeat' (first | intro (b : Nat) | refine go ?_ | (refine br ?_ ?_ <;> first | exact trivial | intro hq) | refine L.call (h := by intro W hW; apply rvb ha (a_RangesValid _ _ _ W (hA.keep hW.low) hW.base)) (k := ?_)))
    (refine ret ?_; try exact rfl)
  | true =>
    have hv : rvB B = false := by simpa [ha] using hab
    refine enter Try.func11 rfl Try.ntmps11 rfl (by assumption) ?_
    (repeat' (first | intro (b : Nat) | refine go ?_ | (refine br ?_ ?_ <;> first | exact trivial | intro hq) | refine L.call (h := by intro W hW; first | apply rvb ha (a_RangesValid _ _ _ W (hA.keep hW.low) hW.base) | apply rvb hv (a_RangesValid _ _ _ W (hB.keep hW.low) hW.base)) (k := ?_)))
    (refine ret ?_; try exact rfl)

theorem a_Minus_yes (p q : Option Addr) (ca cb : Nat) (A B : List Rg) (ha : rvB A = true) (hv : rvB B = true) (w : World) (hA : RAt w p A) (hB : RAt w q B) (hb : D.Base w) : Calls Try.prog 11 #[.slice p A.length ca, .slice q B.length cb] w (Ret w (RS (minR A B))) := by
  have e : minR A B = A.flatMap (fun r => wo r B) := if_pos ⟨ha, hv⟩
  have hla := rv_len ha
  have hlb := rv_len hv
  refine enter Try.func11 rfl Try.ntmps11 rfl (by assumption) ?_
  (repeat' (first | intro (b : Nat) | refine go ?_ | (refine br ?_ ?_ <;> first | exact trivial | intro hq) | refine L.call (h := by intro W hW; first | apply rvb ha (a_RangesValid _ _ _ W (hA.keep hW.low) hW.base) | apply rvb hv (a_RangesValid _ _ _ W (hB.keep hW.low) hW.base)) (k := ?_)))
  revert b
  intro ch
  refine C.loopw (Y := Nat × List Lk) (fun k => [(1, .slice q B.length cb), (5, pB ch), (18, .slice p A.length ca), (19, .int .i64 A.length), (20, .int .i64 k.1)]) (fun k => chH ch k.2)
    (fun k => k.1 ≤ A.length ∧ rgs k.2 = chainOf ((A.take k.1).flatMap (fun r => wo r B))) (fun k => A.length - k.1) (0, []) ⟨Nat.zero_le _, rfl⟩ (h2 := by simp only [chH_nil]; (repeat (first | exact SubH.nil | (apply SubH.cons; (· first | with_reducible rfl | (simp only [List.cons.injEq, Value.int.injEq, and_true, true_and] <;> omega) | rfl)) | apply SubH.skip | exact SubH.refl))) (fun k hy => ?_)
  (repeat' (first | intro (b : Nat) | refine go ?_ | (refine br ?_ ?_ <;> first | exact trivial | intro hq)))
  · have hk : k.1 < A.length := by omega
    obtain ⟨bb, o, rfl, h1, h2, h3⟩ := hA.at (i := k.1) (by omega) (by omega)
    simp only [Int.toNat_natCast] at h1 h2 h3
    have hwl := wo_len (gR A k.1) B
    have hpre := wo_flat_len B (A.take k.1)
    have e2 : (A.take (k.1 + 1)).flatMap (fun r => wo r B) = (A.take k.1).flatMap (fun r => wo r B) ++ wo (gR A k.1) B := by
      rw [take_snoc (gR_some hk), List.flatMap_append]; simp
    have hpre2 : ((A.take k.1).flatMap (fun r => wo r B)).length ≤ 72 := by
      have h5 : (A.take k.1).length ≤ 8 := by rw [List.length_take]; omega
      have h6 : (A.take k.1).length * (B.length + 1) ≤ 8 * 9 := Nat.mul_le_mul h5 (by omega)
      omega
    generalize gR A k.1 = r at *
    generalize hPre : (A.take k.1).flatMap (fun r => wo r B) = Pre at *
    (repeat' (first | intro (b : Nat) | refine go ?_ | (refine br ?_ ?_ <;> first | exact trivial | intro hq)))
    (refine L.ncall (h := by intro W hW; exact a_minus r q cb B W (hB.keep hW.low) (by omega) hW.base) (k := ?_); intro v H hR)
    obtain ⟨bm, cm, pad, rfl, rfl, hRf⟩ := hR
    simp only [List.cons_append, List.nil_append]
    generalize wo r B = M at *
    (repeat' (first | intro (b : Nat) | refine go ?_ | (refine br ?_ ?_ <;> first | exact trivial | intro hq)))
    refine C.loopw (Y := Nat × List Lk) (fun j => [(1, .slice q B.length cb), (5, pB ch), (18, .slice (some ⟨bb, o, none⟩) A.length ca), (19, .int .i64 A.length), (20, .int .i64 k.1), (26, .slice (some ⟨bm, 0, none⟩) M.length cm), (27, .int .i64 M.length), (28, .int .i64 j.1)]) (fun j => (bm, rblk M pad) :: chH ch j.2)
      (fun j => j.1 ≤ M.length ∧ rgs j.2 = chainOf (Pre ++ M.take j.1)) (fun j => M.length - j.1) (0, k.2) ⟨Nat.zero_le _, by simpa using hy.2⟩ (fun j hz => ?_)
    (repeat' (first | intro (b : Nat) | refine go ?_ | (refine br ?_ ?_ <;> first | exact trivial | intro hq)))
    · have hj : j.1 < M.length := by omega
      have hat := own_at (M := M) (pad := pad) (i := j.1) (by omega) (by omega)
      simp only [Int.toNat_natCast] at hat
      have hlen : j.2.length ≤ 1000 := by
        have h5 := chain_len (Pre ++ M.take j.1)
        have h6 := rgs_len j.2
        rw [hz.2] at h6
        rw [List.length_append, List.length_take] at h5
        omega
      have e3 : chainOf (Pre ++ M.take (j.1 + 1)) = cadd (rgs j.2) (gR M j.1) := by
        rw [take_snoc (gR_some hj), ← List.append_assoc, chain_snoc, hz.2]
      generalize gR M j.1 = s at *
      (repeat' (first | intro (b : Nat) | refine go ?_ | (refine br ?_ ?_ <;> first | exact trivial | intro hq)))
      (refine L.ccall (chH ch j.2) (R := fun _ Cs' => ∃ es', Cs' = chH ch es' ∧ rgs es' = cadd (rgs j.2) s) (h := by intro W hW; exact a_add ch j.2 s hlen w W _ hW) (k := ?_))
      rintro v Cs' ⟨es', rfl, hes⟩
      simp only [List.cons_append, List.nil_append]
      (repeat' (first | intro (b : Nat) | refine go ?_ | (refine br ?_ ?_ <;> first | exact trivial | intro hq)))
      (refine X.roundw (j.1 + 1, es') ⟨by simp only; omega, by simp only; rw [hes, e3]⟩ (by simp only; omega))
    · have hj : j.1 = M.length := by omega
      (refine X.roundw (k.1 + 1, j.2) ⟨by simp only; omega, by simp only; rw [e2, hz.2, hj, List.take_length]⟩ (by simp only; omega))
  · have hk : k.1 = A.length := by omega
    have hx : rgs k.2 = (A.flatMap (fun r => wo r B)).reverse := by
      rw [hy.2, hk, List.take_length, chain_pw (minR_pw ha hv)]
    have hln := wo_flat_len B A
    have h6 : A.length * (B.length + 1) ≤ 8 * 9 := Nat.mul_le_mul hla (by omega)
    (refine L.ncall (h := by intro W hW; exact a_allR ch k.2 _ hx (by omega) W (chAt_of hW (List.Sublist.refl _)) hW.base) (k := ?_); intro v H hR)
    obtain ⟨bm, cm, pad, rfl, rfl, hRf⟩ := hR
    simp only [List.cons_append, List.nil_append]
    (repeat' (first | intro (b : Nat) | refine go ?_ | (refine br ?_ ?_ <;> first | exact trivial | intro hq)))
    (apply X.retr [(bm, rblk _ pad)]; (· exact rfl); (· (repeat (first | exact RVs.nil | (apply RVs.cons; (· first | exact RV.tmp rfl | (apply RV.cellk; exact rfl; (· (repeat (first | exact List.Mem.head _ | apply List.Mem.tail))); (· (repeat (first | exact Rd.nil | apply Rd.take | apply Rd.skip)))) | (apply RV.cell1; exact rfl; (· (repeat (first | exact List.Mem.head _ | apply List.Mem.tail))); (· (repeat (first | exact Rd.nil | apply Rd.take | apply Rd.skip))))))))); (· (repeat (first | exact SubH.nil | (apply SubH.cons; (· first | with_reducible rfl | (simp only [List.cons.injEq, Value.int.injEq, and_true, true_and] <;> omega) | rfl)) | apply SubH.skip | exact SubH.refl))))
    exact ⟨bm, cm, pad, by rw [e]; rfl, by rw [e], by rw [e]; exact hRf⟩

theorem a_RangesMinus (p q : Option Addr) (ca cb : Nat) (A B : List Rg) (w : World) (hA : RAt w p A) (hB : RAt w q B) (hb : D.Base w) : Calls Try.prog 11 #[.slice p A.length ca, .slice q B.length cb] w (Ret w (RN (minR A B))) := by
  by_cases h : rvB A = true ∧ rvB B = true
  · exact (a_Minus_yes p q ca cb A B h.1 h.2 w hA hB hb).mono fun e w' ⟨v, H, he, hR, hn⟩ => ⟨v, H, he, .inr hR, hn⟩
  · have e : minR A B = [] := if_neg h
    exact (a_Minus_no p q ca cb A B h w hA hB hb).mono fun e' w' ⟨he, hn⟩ => ⟨_, [], he, .inl ⟨rfl, e, rfl⟩, .of_below hn⟩

end D
end Go.Proofs.Ytmohggeeedncoaa
