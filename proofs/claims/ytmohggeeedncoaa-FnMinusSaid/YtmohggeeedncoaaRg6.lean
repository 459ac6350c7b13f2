/- Walks: what is in both ranges; sums; instants; by the program. -/
import Derived.Test.YtmohggeeedncoaaRg5
namespace Go.Proofs.Ytmohggeeedncoaa
set_option linter.unusedVariables false
set_option linter.unusedSimpArgs false
set_option maxRecDepth 100000
set_option maxHeartbeats 1000000
namespace D
open Go.RowKit
attribute [local irreducible] Calls chH

theorem a_RangesMeet (p q : Option Addr) (ca cb : Nat) (A B : List Rg) (ha : rvB A = true) (hv : rvB B = true) (w : World) (hA : RAt w p A) (hB : RAt w q B) (hb : D.Base w) : Calls Try.prog 20 #[.slice p A.length ca, .slice q B.length cb] w (Ret w (RS (meetA A B))) := by
  have hla := rv_len ha
  have hlb := rv_len hv
  refine enter Try.func20 rfl Try.ntmps20 rfl (by assumption) ?_
  (repeat' (first | intro (b : Nat) | refine go ?_ | (refine br ?_ ?_ <;> first | exact trivial | intro hq) | refine L.call (h := by intro W hW; first | apply rvb ha (a_RangesValid _ _ _ W (hA.keep hW.low) hW.base) | apply rvb hv (a_RangesValid _ _ _ W (hB.keep hW.low) hW.base)) (k := ?_) | refine gg ?_ | refine G.call (h := by intro W hW; first | apply rvb ha (a_RangesValid _ _ _ W (hA.keep hW.low) hW.base) | apply rvb hv (a_RangesValid _ _ _ W (hB.keep hW.low) hW.base)) (k := ?_) | (apply C.draww (id := 10) 12 [none, some _, none, some _, none, none, some _, none, some _, none, none, none])))
  revert b
  intro ch
  refine C.loopw (Y := Nat × List Lk) (fun k => [(1, .slice q B.length cb), (5, pB ch), (20, .slice p A.length ca), (21, .int .i64 A.length), (22, .int .i64 k.1)]) (fun k => chH ch k.2)
    (fun k => k.1 ≤ A.length ∧ rgs k.2 = chainOf (meetA (A.take k.1) B)) (fun k => A.length - k.1) (0, []) ⟨Nat.zero_le _, rfl⟩ (h2 := by simp only [chH_nil]; (repeat (first | exact SubH.nil | (apply SubH.cons; (· first | with_reducible rfl | (simp only [List.cons.injEq, Value.int.injEq, and_true, true_and] <;> omega) | rfl)) | apply SubH.skip | exact SubH.refl))) (fun k hy => ?_)
  (repeat' (first | intro (b : Nat) | refine go ?_ | (refine br ?_ ?_ <;> first | exact trivial | intro hq)))
  · have hk : k.1 < A.length := by omega
    obtain ⟨bb, o, rfl, h1, h2, h3⟩ := hA.at (i := k.1) (by omega) (by omega)
    simp only [Int.toNat_natCast] at h1 h2 h3
    have hpre := meetA_flat_len B (A.take k.1)
    have e2 : meetA (A.take (k.1 + 1)) B = meetA (A.take k.1) B ++ meetR (gR A k.1) B := by
      rw [take_snoc (gR_some hk), meetA_snoc]
    have hpre2 : (meetA (A.take k.1) B).length ≤ 64 := by
      have h5 : (A.take k.1).length ≤ 8 := by rw [List.length_take]; omega
      have h6 : (A.take k.1).length * B.length ≤ 8 * 8 := Nat.mul_le_mul h5 (by omega)
      omega
    generalize gR A k.1 = r at *
    generalize hPre : meetA (A.take k.1) B = Pre at *
    (repeat' (first | intro (b : Nat) | refine go ?_ | (refine br ?_ ?_ <;> first | exact trivial | intro hq)))
    refine C.loopw (Y := Nat × List Lk) (fun j => [(1, .slice q B.length cb), (5, pB ch), (7, pB b), (20, .slice (some ⟨bb, o, none⟩) A.length ca), (21, .int .i64 A.length), (22, .int .i64 k.1), (26, .slice q B.length cb), (27, .int .i64 B.length), (28, .int .i64 j.1)]) (fun j => (b, .cells 34 (rc r)) :: chH ch j.2)
      (fun j => j.1 ≤ B.length ∧ rgs j.2 = chainOf (Pre ++ meetR r (B.take j.1))) (fun j => B.length - j.1) (0, k.2) ⟨Nat.zero_le _, by simpa [meetR] using hy.2⟩ (fun j hz => ?_)
    (repeat' (first | intro (b : Nat) | refine go ?_ | (refine br ?_ ?_ <;> first | exact trivial | intro hq)))
    · have hj : j.1 < B.length := by omega
      obtain ⟨bb', o', rfl, k1, k2, k3⟩ := hB.at (i := j.1) (by omega) (by omega)
      simp only [Int.toNat_natCast] at k1 k2 k3
      have hlen : j.2.length ≤ 1000 := by
        have h5 := chain_len (Pre ++ meetR r (B.take j.1))
        have h6 := rgs_len j.2
        have h7 := meetR_len r (B.take j.1)
        rw [hz.2] at h6
        rw [List.length_append] at h5
        rw [List.length_take] at h7
        omega
      have e3 : meetR r (B.take (j.1 + 1)) = meetR r (B.take j.1) ++ meet1 r (gR B j.1) := by
        rw [take_snoc (gR_some hj), meetR_snoc]
      generalize gR B j.1 = s at *
      (repeat' (first | intro (b : Nat) | refine go ?_ | (refine br ?_ ?_ <;> first | exact trivial | intro hq) | refine gg ?_ | (apply C.draww (id := 10) 12 [none, some _, none, some _, none, none, some _, none, some _, none, none, none])))
      · have e4 : meet1 r s = [(max r.1 s.1, min r.2 s.2)] := if_pos (by omega)
        (refine L.ccall (chH ch j.2) (R := fun _ Cs' => ∃ es', Cs' = chH ch es' ∧ rgs es' = cadd (rgs j.2) (max r.1 s.1, min r.2 s.2)) (h := by intro W hW; exact a_add ch j.2 (max r.1 s.1, min r.2 s.2) hlen w W _ hW) (k := ?_))
        rintro v Cs' ⟨es', rfl, hes⟩
        simp only [List.cons_append, List.nil_append]
        (repeat' (first | intro (b : Nat) | refine go ?_ | (refine br ?_ ?_ <;> first | exact trivial | intro hq)))
        (refine X.roundw (j.1 + 1, es') ⟨by simp only; omega, by simp only; rw [hes, e3, e4, ← List.append_assoc, chain_snoc, hz.2]⟩ (by simp only; omega))
      · have e4 : meet1 r s = [] := if_neg (by omega)
        (refine X.roundw (j.1 + 1, j.2) ⟨by simp only; omega, by simp only; rw [e3, e4, List.append_nil, hz.2]⟩ (by simp only; omega))
    · have hj : j.1 = B.length := by omega
      (refine X.roundw (k.1 + 1, j.2) ⟨by simp only; omega, by simp only; rw [e2, hz.2, hj, List.take_length]⟩ (by simp only; omega))
  · have hk : k.1 = A.length := by omega
    have hx : rgs k.2 = (meetA A B).reverse := by
      rw [hy.2, hk, List.take_length, chain_pw (meetA_pw ha hv)]
    have hln := meetA_len ha hv
    (refine L.ncall (h := by intro W hW; exact a_allR ch k.2 _ hx (by omega) W (chAt_of hW (List.Sublist.refl _)) hW.base) (k := ?_); intro v H hR)
    obtain ⟨bm, cm, pad, rfl, rfl, hRf⟩ := hR
    simp only [List.cons_append, List.nil_append]
    (repeat' (first | intro (b : Nat) | refine go ?_ | (refine br ?_ ?_ <;> first | exact trivial | intro hq)))
    (apply X.retr [(bm, rblk _ pad)]; (· exact rfl); (· (repeat (first | exact RVs.nil | (apply RVs.cons; (· first | exact RV.tmp rfl | (apply RV.cellk; exact rfl; (· (repeat (first | exact List.Mem.head _ | apply List.Mem.tail))); (· (repeat (first | exact Rd.nil | apply Rd.take | apply Rd.skip)))) | (apply RV.cell1; exact rfl; (· (repeat (first | exact List.Mem.head _ | apply List.Mem.tail))); (· (repeat (first | exact Rd.nil | apply Rd.take | apply Rd.skip))))))))); (· (repeat (first | exact SubH.nil | (apply SubH.cons; (· first | with_reducible rfl | (simp only [List.cons.injEq, Value.int.injEq, and_true, true_and] <;> omega) | rfl)) | apply SubH.skip | exact SubH.refl))))
    exact ⟨bm, cm, pad, rfl, rfl, hRf⟩

theorem len_ok {A : List Rg} (ha : rvB A = true) : ∀ r ∈ A, 0 ≤ r.2 - r.1 ∧ r.2 - r.1 ≤ 1000000000000000 := fun r hr => by
  have := rOk_iff.1 ((rv_pw ha).1 r hr)
  omega
theorem lenS_take {A : List Rg} (hA : ∀ r ∈ A, 0 ≤ r.2 - r.1 ∧ r.2 - r.1 ≤ 1000000000000000) (hl : A.length ≤ 1000) (k : Nat) : 0 ≤ lenS (A.take k) ∧ lenS (A.take k) ≤ 1000000000000000000 := by
  have h := lenS_bd (a := A.take k) (fun r hr => hA r (List.mem_of_mem_take hr))
  have h5 : ((A.take k).length : Int) ≤ 1000 := by rw [List.length_take]; omega
  omega

theorem a_RangesTotal (p : Option Addr) (ca : Nat) (A : List Rg) (w : World) (hA : RAt w p A) (hb : D.Base w) : Calls Try.prog 21 #[.slice p A.length ca] w fun e w' => e = .returned (.int .i64 (if rvB A = true then lenS A else -1)) ∧ Below w.heap.size w w' := by
  cases ha : rvB A with
  | false =>
    refine enter Try.func21 rfl Try.ntmps21 rfl (by assumption) ?_
    (repeat' (first | intro (b : Nat) | refine go ?_ | (refine br ?_ ?_ <;> first | exact trivial | intro hq) | refine L.call (h := by intro W hW; apply rvb ha (a_RangesValid _ _ _ W (hA.keep hW.low) hW.base)) (k := ?_)))
    (refine ret ?_; try exact rfl)
  | true =>
    have hla := rv_len ha
    rw [if_pos rfl]
    refine enter Try.func21 rfl Try.ntmps21 rfl (by assumption) ?_
    (repeat' (first | intro (b : Nat) | refine go ?_ | (refine br ?_ ?_ <;> first | exact trivial | intro hq) | refine L.call (h := by intro W hW; apply rvb ha (a_RangesValid _ _ _ W (hA.keep hW.low) hW.base)) (k := ?_)))
    refine C.loopw (Y := Nat) (fun k => [(3, .int .i64 (lenS (A.take k))), (9, .slice p A.length ca), (10, .int .i64 A.length), (11, .int .i64 k)]) (fun k => []) (fun k => k ≤ A.length) (fun k => A.length - k) 0 (Nat.zero_le _) (fun k hy => ?_)
    have hs := lenS_take (len_ok ha) (by omega) k
    (repeat' (first | intro (b : Nat) | refine go ?_ | (refine br ?_ ?_ <;> first | exact trivial | intro hq)))
    · have hk : k < A.length := by omega
      obtain ⟨bb, o, rfl, h1, h2, h3⟩ := hA.at (i := k) (by omega) (by omega)
      simp only [Int.toNat_natCast] at h1 h2 h3
      have hm := len_ok ha _ (gR_mem hk)
      have hr := rOk_iff.1 ((rv_pw ha).1 _ (gR_mem hk))
      have e : lenS (A.take (k + 1)) = lenS (A.take k) + ((gR A k).2 - (gR A k).1) := by rw [take_snoc (gR_some hk), lenS_snoc]
      generalize gR A k = r at *
      (repeat' (first | intro (b : Nat) | refine go ?_ | (refine br ?_ ?_ <;> first | exact trivial | intro hq)))
      (refine X.roundw (k + 1) (by omega) (by omega) (h3 := by simp only [e]; (repeat (first | exact Sub.nil | (apply Sub.cons; exact rfl; (· first | with_reducible rfl | exact congrArg (Value.int IntKind.i64) (by omega) | rfl))))))
    · (refine ret ?_; try exact rfl)
      have : k = A.length := by omega
      rw [this, List.take_length]
      rfl

theorem a_has1 (b : Nat) (n : Int) (r : Rg) (w : World) (hn : w.cell? ⟨b, 0, none⟩ = some (.int .i64 n)) (hb : D.Base w) : Calls Try.prog 32 #[.agg (rc r).toArray, pB b] w fun e w' => e = .returned (.bool (decide (r.1 ≤ n ∧ n < r.2))) ∧ Below w.heap.size w w' := by
  refine enter Try.func32 rfl Try.ntmps32 rfl (by assumption) ?_
  (repeat' (first | intro (b : Nat) | refine go ?_ | (refine br ?_ ?_ <;> first | exact trivial | intro hq)))
  all_goals (refine ret ?_; try exact rfl)
  all_goals (simp [tupleOf] <;> omega)

theorem a_IndexFunc (b : Nat) (n : Int) (p : Option Addr) (ca : Nat) (A : List Rg) (hl : A.length ≤ 1000) (w : World) (hA : RAt w p A) (hn : w.cell? ⟨b, 0, none⟩ = some (.int .i64 n)) (hb : D.Base w) :
    Calls Try.prog 43 #[.slice p A.length ca, .func (.func 32) #[] #[pB b]] w (RetV w fun v => ∃ m : Int, v = .int .i64 m ∧ hasR A n = decide (0 ≤ m)) := by
  refine enter Try.func43 rfl Try.ntmps43 rfl (by assumption) ?_
  (repeat' (first | intro (b : Nat) | refine go ?_ | (refine br ?_ ?_ <;> first | exact trivial | intro hq)))
  refine C.loopw (Y := Nat) (fun k => [(0, .slice p A.length ca), (1, .func (.func 32) #[] #[pB b]), (7, .int .i64 A.length), (8, .int .i64 k)]) (fun k => []) (fun k => k ≤ A.length ∧ hasR (A.take k) n = false) (fun k => A.length - k) 0 ⟨Nat.zero_le _, rfl⟩ (fun k hy => ?_)
  (repeat' (first | intro (b : Nat) | refine go ?_ | (refine br ?_ ?_ <;> first | exact trivial | intro hq)))
  · have hk : k < A.length := by omega
    obtain ⟨bb, o, rfl, h1, h2, h3⟩ := hA.at (i := k) (by omega) (by omega)
    simp only [Int.toNat_natCast] at h1 h2 h3
    have e : hasR (A.take (k + 1)) n = (hasR (A.take k) n || decide ((gR A k).1 ≤ n ∧ n < (gR A k).2)) := by rw [take_snoc (gR_some hk), hasR_snoc]
    have hmem := gR_mem hk
    generalize gR A k = r at *
    cases hc : decide (r.1 ≤ n ∧ n < r.2) with
    | true =>
      (repeat' (first | intro (b : Nat) | refine go ?_ | (refine br ?_ ?_ <;> first | exact trivial | intro hq) | refine L.call (h := by intro W hW; apply rvb hc (a_has1 b n r W (cell_keep hn hW.low) hW.base)) (k := ?_) | refine L.callx (h := by intro W hW; apply rvb hc (a_has1 b n r W (cell_keep hn hW.low) hW.base)) (k := ?_)))
      (refine retw ?_)
      refine ⟨k, rfl, ?_⟩
      have : hasR A n = true := hasR_true.2 ⟨r, hmem, of_decide_eq_true hc⟩
      rw [this]
      simp
    | false =>
      (repeat' (first | intro (b : Nat) | refine go ?_ | (refine br ?_ ?_ <;> first | exact trivial | intro hq) | refine L.call (h := by intro W hW; apply rvb hc (a_has1 b n r W (cell_keep hn hW.low) hW.base)) (k := ?_) | refine L.callx (h := by intro W hW; apply rvb hc (a_has1 b n r W (cell_keep hn hW.low) hW.base)) (k := ?_)))
      (refine X.roundw (k + 1) ⟨by omega, by rw [e, hy.2, hc]; rfl⟩ (by omega))
  · (refine retw ?_)
    have : k = A.length := by omega
    have h2 := hy.2
    rw [this, List.take_length] at h2
    exact ⟨-1, rfl, by rw [h2]; rfl⟩

theorem a_ContainsFunc (b : Nat) (n : Int) (p : Option Addr) (ca : Nat) (A : List Rg) (hl : A.length ≤ 1000) (w : World) (hA : RAt w p A) (hn : w.cell? ⟨b, 0, none⟩ = some (.int .i64 n)) (hb : D.Base w) :
    Calls Try.prog 31 #[.slice p A.length ca, .func (.func 32) #[] #[pB b]] w fun e w' => e = .returned (.bool (hasR A n)) ∧ Below w.heap.size w w' := by
  refine enter Try.func31 rfl Try.ntmps31 rfl (by assumption) ?_
  (repeat' (first | intro (b : Nat) | refine go ?_ | (refine br ?_ ?_ <;> first | exact trivial | intro hq)))
  (refine L.vcall (h := by intro W hW; exact a_IndexFunc b n p ca A hl W (hA.keep hW.low) (cell_keep hn hW.low) hW.base) (k := ?_); intro v hR)
  obtain ⟨m, rfl, hm⟩ := hR
  rw [hm]
  (repeat' (first | intro (b : Nat) | refine go ?_ | (refine br ?_ ?_ <;> first | exact trivial | intro hq)))
  (refine ret ?_; try exact rfl)

/-- Whether valid ranges have an instant. -/
def hasV (A : List Rg) (n : Int) : Bool := rvB A && hasR A n

theorem a_RangesHas (n : Int) (p : Option Addr) (ca : Nat) (A : List Rg) (w : World) (hA : RAt w p A) (hb : D.Base w) : Calls Try.prog 18 #[.slice p A.length ca, .int .i64 n] w fun e w' => e = .returned (.bool (hasV A n)) ∧ Below w.heap.size w w' := by
  cases ha : rvB A with
  | false =>
    refine enter Try.func18 rfl Try.ntmps18 rfl (by assumption) ?_
    (repeat' (first | intro (b : Nat) | refine go ?_ | (refine br ?_ ?_ <;> first | exact trivial | intro hq) | refine L.call (h := by intro W hW; apply rvb ha (a_RangesValid _ _ _ W (hA.keep hW.low) hW.base)) (k := ?_)))
    all_goals (refine ret ?_; try exact rfl)
    all_goals simp [tupleOf, hasV, ha]
  | true =>
    have hla := rv_len ha
    refine enter Try.func18 rfl Try.ntmps18 rfl (by assumption) ?_
    (repeat' (first | intro (b : Nat) | refine go ?_ | (refine br ?_ ?_ <;> first | exact trivial | intro hq) | refine L.call (h := by intro W hW; first | apply rvb ha (a_RangesValid _ _ _ W (hA.keep hW.low) hW.base) | apply a_ContainsFunc b n p ca A (by omega) W (hA.keep hW.low) (hW.cell (List.Mem.head _) rfl) hW.base) (k := ?_)))
    all_goals (refine ret ?_; try exact rfl)
    all_goals simp [tupleOf, hasV, ha]

end D
end Go.Proofs.Ytmohggeeedncoaa
