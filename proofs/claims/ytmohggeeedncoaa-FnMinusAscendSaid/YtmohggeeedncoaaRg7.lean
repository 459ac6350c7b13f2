/- Walks: ranges of the reference. -/
import Derived.Test.YtmohggeeedncoaaRg5
import Derived.Test.YtmohggeeedncoaaEz
namespace Go.Proofs.Ytmohggeeedncoaa
set_option linter.unusedVariables false
set_option linter.unusedSimpArgs false
set_option maxRecDepth 100000
set_option maxHeartbeats 1000000
namespace D
open Go.RowKit
attribute [local irreducible] Calls

theorem b_in (n lo hi : Int) (w : World) (hb : D.Base w) : Calls Try.prog 53 #[.int .i64 n, .int .i64 lo, .int .i64 hi] w fun e w' => e = .returned (.bool (inR n lo hi)) ∧ Below w.heap.size w w' := by
  refine enter Try.func53 rfl Try.ntmps53 rfl (by assumption) ?_
  (repeat' (first | intro (b : Nat) | refine go ?_ | (refine br ?_ ?_ <;> first | exact trivial | intro hq)))
  all_goals (refine ret ?_; try exact rfl)
  all_goals (simp [tupleOf, inR] <;> omega)

theorem b_l12Ok (n : Int) (w : World) (hb : D.Base w) : Calls Try.prog 50 #[.int .i64 n] w fun e w' => e = .returned (.bool (insV n)) ∧ Below w.heap.size w w' := by
  refine enter Try.func50 rfl Try.ntmps50 rfl (by assumption) ?_
  (repeat' (first | intro (b : Nat) | refine go ?_ | (refine br ?_ ?_ <;> first | exact trivial | intro hq) | refine L.call (h := by intro W hW; apply b_in _ _ _ W hW.base) (k := ?_)))
  (refine ret ?_; try exact rfl)

theorem b_l32Range (r : Rg) (w : World) (hb : D.Base w) : Calls Try.prog 44 #[.agg (rc r).toArray] w fun e w' => e = .returned (.bool (rOk r)) ∧ Below w.heap.size w w' := by
  refine enter Try.func44 rfl Try.ntmps44 rfl (by assumption) ?_
  (repeat' (first | intro (b : Nat) | refine go ?_ | (refine br ?_ ?_ <;> first | exact trivial | intro hq) | refine L.call (h := by intro W hW; apply b_l12Ok _ W hW.base) (k := ?_)))
  all_goals (refine ret ?_; try exact rfl)
  all_goals simp [tupleOf, rOk, *]

theorem b_Ascend (p : Option Addr) (c : Nat) (A : List Rg) (hl : A.length ≤ 1000000000) (w : World) (hA : RAt w p A) (hb : D.Base w) : Calls Try.prog 33 #[.slice p A.length c] w fun e w' => e = .returned (.bool (ascR A)) ∧ Below w.heap.size w w' := by
  refine enter Try.func33 rfl Try.ntmps33 rfl (by assumption) ?_
  (repeat' (first | intro (b : Nat) | refine go ?_ | (refine br ?_ ?_ <;> first | exact trivial | intro hq) | refine gg ?_ | (apply C.draww (id := 4) 24 [none, none, none, some _, some _, none, none, none, none, none, none, none, none, none, none, some _, none, none, none, none, some _, none, none, none])))
  refine C.loopw (Y := Nat) (fun k => [(0, .slice p A.length c), (3, .int .i64 k)]) (fun k => []) (fun k => k ≤ A.length ∧ AscTo A k) (fun k => A.length - k) 0 ⟨by omega, fun i hi => by omega⟩ (fun k hy => ?_)
  (repeat' (first | intro (b : Nat) | refine go ?_ | (refine br ?_ ?_ <;> first | exact trivial | intro hq)))
  · have hk : k < A.length := by omega
    obtain ⟨b, o, rfl, h1, h2, h3⟩ := hA.at (i := k) (by omega) (by omega)
    simp only [Int.toNat_natCast] at h1 h2 h3
    cases hr : rOk (gR A k) with
    | false =>
      (repeat' (first | intro (b : Nat) | refine go ?_ | (refine br ?_ ?_ <;> first | exact trivial | intro hq) | refine L.call (h := by intro W hW; apply rvb hr (b_l32Range _ W hW.base)) (k := ?_) | refine gg ?_ | refine G.call (h := by intro W hW; apply rvb hr (b_l32Range _ W hW.base)) (k := ?_) | (apply C.draww (id := 4) 24 [none, none, none, some _, some _, none, none, none, none, none, none, none, none, none, none, some _, none, none, none, none, some _, none, none, none])))
      all_goals (refine ret ?_; try exact rfl)
      all_goals (have h4 := asc_not hk (by simp [hr]); simp [tupleOf, h4])
    | true =>
      by_cases hk0 : k = 0
      · have hg : decide ((0 : Int) < (k : Int)) = false := by simp [hk0]
        (repeat' (first | intro (b : Nat) | refine go ?_ | (refine br ?_ ?_ <;> first | exact trivial | intro hq) | refine L.call (h := by intro W hW; apply rvb hr (b_l32Range _ W hW.base)) (k := ?_) | refine gg ?_ | refine G.call (h := by intro W hW; apply rvb hr (b_l32Range _ W hW.base)) (k := ?_) | (apply C.draww (id := 4) 24 [none, none, none, some _, some _, none, none, none, none, none, none, none, none, none, none, some _, none, none, none, none, some _, none, none, none])))
        refine X.roundw (k + 1) (⟨by omega, ascTo_succ hy.2 hr (by omega)⟩) (by omega)
      · have hg : decide ((0 : Int) < (k : Int)) = true := by simp; omega
        obtain ⟨b', o', hp', k1, k2, k3⟩ := hA.at (i := (k : Int) - 1) (by omega) (by omega)
        obtain ⟨rfl, rfl⟩ : b' = b ∧ o' = o := by simpa using hp'.symm
        (repeat' (first | intro (b : Nat) | refine go ?_ | (refine br ?_ ?_ <;> first | exact trivial | intro hq) | refine L.call (h := by intro W hW; apply rvb hr (b_l32Range _ W hW.base)) (k := ?_) | refine gg ?_ | refine G.call (h := by intro W hW; apply rvb hr (b_l32Range _ W hW.base)) (k := ?_) | (apply C.draww (id := 4) 24 [none, none, none, some _, some _, none, none, none, none, none, none, none, none, none, none, some _, none, none, none, none, some _, none, none, none])))
        · (refine ret ?_; try exact rfl)
          simp only [tupleOf]
          refine congrArg Value.bool ?_
          rw [asc_not hk (fun h => by have := h.2 (by omega); rw [show ((k : Int) - 1).toNat = k - 1 by omega] at *; omega)]
        · refine X.roundw (k + 1) (⟨by omega, ascTo_succ hy.2 hr (fun _ => by rw [show ((k : Int) - 1).toNat = k - 1 by omega] at *; omega)⟩) (by omega)
  · (refine ret ?_; try exact rfl)
    have e : k = A.length := by omega
    have : AscTo A A.length := e ▸ hy.2
    simp [tupleOf, ascR, this]

theorem b_RangesValid (p : Option Addr) (c : Nat) (A : List Rg) (hl : A.length ≤ 1000000000) (w : World) (hA : RAt w p A) (hb : D.Base w) : Calls Try.prog 19 #[.slice p A.length c] w fun e w' => e = .returned (.bool (rvB A)) ∧ Below w.heap.size w w' := by
  cases h : ascR A
  all_goals
    refine enter Try.func19 rfl Try.ntmps19 rfl (by assumption) ?_
    (repeat' (first | intro (b : Nat) | refine go ?_ | (refine br ?_ ?_ <;> first | exact trivial | intro hq) | refine L.call (h := by intro W hW; apply rvb h (b_Ascend _ _ _ hl W (hA.keep hW.low) hW.base)) (k := ?_)))
    all_goals (refine ret ?_; try exact rfl)
    all_goals (simp [tupleOf, rvB, h] <;> omega)

theorem b_Without (x : Rg) (p : Option Addr) (c : Nat) (B : List Rg) (w : World) (hB : RAt w p B) (hlen : B.length ≤ 1000000) (hb : D.Base w) : Calls Try.prog 22 #[.agg (rc x).toArray, .slice p B.length c] w (Ret w (RS (wo x B))) := by
  refine enter Try.func22 rfl Try.ntmps22 rfl (by assumption) ?_
  (repeat' (first | intro (b : Nat) | refine go ?_ | (refine br ?_ ?_ <;> first | exact trivial | intro hq)))
  rename_i bx
  refine C.rot ?_
  refine C.loopw (Y := Nat × Nat × Nat × List Value) (fun k => [(1, .slice p B.length c), (2, .pointer (some ⟨bx, 0, none⟩)), (5, .slice (some ⟨k.2.1, 0, none⟩) (woSt x B k.1).2.length k.2.2.1), (6, .int .i64 (woSt x B k.1).1), (7, .int .i64 k.1)]) (fun k => [(bx, .cells 34 [.int .i64 x.1, .int .i64 x.2]), (k.2.1, rblk (woSt x B k.1).2 k.2.2.2)]) (fun k => k.1 ≤ B.length ∧ RSf (woSt x B k.1).2 k.2.2.1 k.2.2.2) (fun k => B.length - k.1) (0, b, 0, []) ⟨by omega, RSf.nil⟩ (fun k hy => ?_)
  have hl := woSt_len x B k.1 hy.1
  (repeat' (first | intro (b : Nat) | refine go ?_ | (refine br ?_ ?_ <;> first | exact trivial | intro hq)))
  · have hk : k.1 < B.length := by omega
    obtain ⟨bb, o, rfl, h1, h2, h3⟩ := hB.at (i := k.1) (by omega) (by omega)
    have e := woSt_succ (x := x) hk
    have hR := hy.2
    generalize woSt x B k.1 = st at *
    obtain ⟨f, M⟩ := st
    simp only [Int.toNat_natCast] at *
    generalize gR B k.1 = s at *
    obtain ⟨s1, s2⟩ := s
    simp only [woStep] at *
    by_cases hg : f < s2
    · have hg' : decide (f < s2) = true := by simp [hg]
      (repeat' (first | intro (b : Nat) | refine go ?_ | (refine br ?_ ?_ <;> first | exact trivial | intro hq) | refine gg ?_ | (apply C.draww (id := 6) 17 [none, none, none, none, some _, none, none, none, none, none, none, none, some _, none, some _, none, none])))
      · rw [if_pos (by omega), if_pos (by omega)] at e
        (refine L.rapp (r := (f, s1)) hR (hb := by omega) (kk := ?_))
        intro b' c' pad' hR'
        simp only [List.cons_append, List.nil_append]
        (repeat' (first | intro (b : Nat) | refine go ?_ | (refine br ?_ ?_ <;> first | exact trivial | intro hq)))
        (refine X.roundw (k.1 + 1, b', c', pad') ⟨by simp only; omega, by simp only [e]; exact hR'⟩ (by simp only; omega) (h3 := by simp only [e, List.length_append, List.length_cons, List.length_nil]; (repeat (first | exact Sub.nil | (apply Sub.cons; exact rfl; (· first | with_reducible rfl | exact congrArg (Value.int IntKind.i64) (by omega) | rfl))))) (h4 := by simp only [e]; (repeat (first | exact SubH.nil | (apply SubH.cons; (· first | with_reducible rfl | (simp only [List.cons.injEq, Value.int.injEq, and_true, true_and] <;> omega) | rfl)) | apply SubH.skip | exact SubH.refl))))
      · rw [if_pos (by omega), if_neg (by omega)] at e
        (refine X.roundw (k.1 + 1, k.2) ⟨by simp only; omega, by simp only [e]; exact hR⟩ (by simp only; omega) (h3 := by simp only [e]; (repeat (first | exact Sub.nil | (apply Sub.cons; exact rfl; (· first | with_reducible rfl | exact congrArg (Value.int IntKind.i64) (by omega) | rfl))))) (h4 := by simp only [e]; (repeat (first | exact SubH.nil | (apply SubH.cons; (· first | with_reducible rfl | (simp only [List.cons.injEq, Value.int.injEq, and_true, true_and] <;> omega) | rfl)) | apply SubH.skip | exact SubH.refl))))
      · rw [if_neg (by omega)] at e
        (refine X.roundw (k.1 + 1, k.2) ⟨by simp only; omega, by simp only [e]; exact hR⟩ (by simp only; omega) (h3 := by simp only [e]; (repeat (first | exact Sub.nil | (apply Sub.cons; exact rfl; (· first | with_reducible rfl | exact congrArg (Value.int IntKind.i64) (by omega) | rfl))))) (h4 := by simp only [e]; (repeat (first | exact SubH.nil | (apply SubH.cons; (· first | with_reducible rfl | (simp only [List.cons.injEq, Value.int.injEq, and_true, true_and] <;> omega) | rfl)) | apply SubH.skip | exact SubH.refl))))
    · have hg' : decide (f < s2) = false := by simp [hg]
      rw [if_neg (by omega)] at e
      (repeat' (first | intro (b : Nat) | refine go ?_ | (refine br ?_ ?_ <;> first | exact trivial | intro hq) | refine gg ?_ | (apply C.draww (id := 6) 17 [none, none, none, none, some _, none, none, none, none, none, none, none, some _, none, some _, none, none])))
      (refine X.roundw (k.1 + 1, k.2) ⟨by simp only; omega, by simp only [e]; exact hR⟩ (by simp only; omega) (h3 := by simp only [e]; (repeat (first | exact Sub.nil | (apply Sub.cons; exact rfl; (· first | with_reducible rfl | exact congrArg (Value.int IntKind.i64) (by omega) | rfl))))) (h4 := by simp only [e]; (repeat (first | exact SubH.nil | (apply SubH.cons; (· first | with_reducible rfl | (simp only [List.cons.injEq, Value.int.injEq, and_true, true_and] <;> omega) | rfl)) | apply SubH.skip | exact SubH.refl))))
  · have hk : k.1 = B.length := by omega
    have e : wo x B = (woSt x B k.1).2 ++ [((woSt x B k.1).1, x.2)] := by
      rw [hk]; exact if_pos (by rw [← hk]; omega)
    have hR := hy.2
    generalize woSt x B k.1 = st at *
    (refine L.rapp (r := (st.1, x.2)) hR (hb := by omega) (kk := ?_))
    intro b' c' pad' hR'
    simp only [List.cons_append, List.nil_append]
    (repeat' (first | intro (b : Nat) | refine go ?_ | (refine br ?_ ?_ <;> first | exact trivial | intro hq)))
    (apply X.retr [(b', rblk (st.2 ++ [(st.1, x.2)]) pad')]; (· exact rfl); (· (repeat (first | exact RVs.nil | (apply RVs.cons; (· first | exact RV.tmp rfl | (apply RV.cellk; exact rfl; (· (repeat (first | exact List.Mem.head _ | apply List.Mem.tail))); (· (repeat (first | exact Rd.nil | apply Rd.take | apply Rd.skip)))) | (apply RV.cell1; exact rfl; (· (repeat (first | exact List.Mem.head _ | apply List.Mem.tail))); (· (repeat (first | exact Rd.nil | apply Rd.take | apply Rd.skip))))))))); (· (repeat (first | exact SubH.nil | (apply SubH.cons; (· first | with_reducible rfl | (simp only [List.cons.injEq, Value.int.injEq, and_true, true_and] <;> omega) | rfl)) | apply SubH.skip | exact SubH.refl))))
    exact ⟨b', c', pad', by rw [e]; simp [tupleOf], by rw [e], by rw [e]; exact hR'⟩
  · have hk : k.1 = B.length := by omega
    have e : wo x B = (woSt x B k.1).2 := by
      rw [hk]; exact if_neg (by rw [← hk]; omega)
    have hR := hy.2
    generalize woSt x B k.1 = st at *
    (apply X.retr [(k.2.1, rblk st.2 k.2.2.2)]; (· exact rfl); (· (repeat (first | exact RVs.nil | (apply RVs.cons; (· first | exact RV.tmp rfl | (apply RV.cellk; exact rfl; (· (repeat (first | exact List.Mem.head _ | apply List.Mem.tail))); (· (repeat (first | exact Rd.nil | apply Rd.take | apply Rd.skip)))) | (apply RV.cell1; exact rfl; (· (repeat (first | exact List.Mem.head _ | apply List.Mem.tail))); (· (repeat (first | exact Rd.nil | apply Rd.take | apply Rd.skip))))))))); (· (repeat (first | exact SubH.nil | (apply SubH.cons; (· first | with_reducible rfl | (simp only [List.cons.injEq, Value.int.injEq, and_true, true_and] <;> omega) | rfl)) | apply SubH.skip | exact SubH.refl))))
    exact ⟨k.2.1, k.2.2.1, k.2.2.2, by rw [e]; simp [tupleOf], by rw [e], by rw [e]; exact hR⟩

theorem b_RangesMinus (p q : Option Addr) (ca cb : Nat) (A B : List Rg) (hlA : A.length ≤ 1000000000) (hlB : B.length ≤ 1000000000) (w : World) (hA : RAt w p A) (hB : RAt w q B) (hb : D.Base w) : Calls Try.prog 9 #[.slice p A.length ca, .slice q B.length cb] w (Ret w (RS (minR A B))) := by
  cases ha : rvB A with
  | false =>
    have e : minR A B = [] := if_neg (by simp [ha])
    refine enter Try.func9 rfl Try.ntmps9 rfl (by assumption) ?_
    (repeat' (first | intro (b : Nat) | refine go ?_ | (refine br ?_ ?_ <;> first | exact trivial | intro hq) | refine L.call (h := by intro W hW; apply rvb ha (b_RangesValid _ _ _ hlA W (hA.keep hW.low) hW.base)) (k := ?_)))
    (apply X.retr [(b, rblk [] [])]; (· exact rfl); (· (repeat (first | exact RVs.nil | (apply RVs.cons; (· first | exact RV.tmp rfl | (apply RV.cellk; exact rfl; (· (repeat (first | exact List.Mem.head _ | apply List.Mem.tail))); (· (repeat (first | exact Rd.nil | apply Rd.take | apply Rd.skip)))) | (apply RV.cell1; exact rfl; (· (repeat (first | exact List.Mem.head _ | apply List.Mem.tail))); (· (repeat (first | exact Rd.nil | apply Rd.take | apply Rd.skip))))))))); (· (repeat (first | exact SubH.nil | (apply SubH.cons; (· first | with_reducible rfl | (simp only [List.cons.injEq, Value.int.injEq, and_true, true_and] <;> omega) | rfl)) | apply SubH.skip | exact SubH.refl))))
    exact ⟨b, 0, [], by rw [e]; rfl, by rw [e], by rw [e]; exact RSf.nil⟩
  | true =>
    cases hv : rvB B with
    | false =>
      have e : minR A B = [] := if_neg (by simp [hv])
      refine enter Try.func9 rfl Try.ntmps9 rfl (by assumption) ?_
      (repeat' (first | intro (b : Nat) | refine go ?_ | (refine br ?_ ?_ <;> first | exact trivial | intro hq) | refine L.call (h := by intro W hW; first | apply rvb ha (b_RangesValid _ _ _ hlA W (hA.keep hW.low) hW.base) | apply rvb hv (b_RangesValid _ _ _ hlB W (hB.keep hW.low) hW.base)) (k := ?_)))
      (apply X.retr [(b, rblk [] [])]; (· exact rfl); (· (repeat (first | exact RVs.nil | (apply RVs.cons; (· first | exact RV.tmp rfl | (apply RV.cellk; exact rfl; (· (repeat (first | exact List.Mem.head _ | apply List.Mem.tail))); (· (repeat (first | exact Rd.nil | apply Rd.take | apply Rd.skip)))) | (apply RV.cell1; exact rfl; (· (repeat (first | exact List.Mem.head _ | apply List.Mem.tail))); (· (repeat (first | exact Rd.nil | apply Rd.take | apply Rd.skip))))))))); (· (repeat (first | exact SubH.nil | (apply SubH.cons; (· first | with_reducible rfl | (simp only [List.cons.injEq, Value.int.injEq, and_true, true_and] <;> omega) | rfl)) | apply SubH.skip | exact SubH.refl))))
      exact ⟨b, 0, [], by rw [e]; rfl, by rw [e], by rw [e]; exact RSf.nil⟩
    | true =>
      have e : minR A B = A.flatMap (fun r => wo r B) := if_pos ⟨ha, hv⟩
      have hla := rv_len ha
      have hlb := rv_len hv
      refine enter Try.func9 rfl Try.ntmps9 rfl (by assumption) ?_
      (repeat' (first | intro (b : Nat) | refine go ?_ | (refine br ?_ ?_ <;> first | exact trivial | intro hq) | refine L.call (h := by intro W hW; first | apply rvb ha (b_RangesValid _ _ _ hlA W (hA.keep hW.low) hW.base) | apply rvb hv (b_RangesValid _ _ _ hlB W (hB.keep hW.low) hW.base)) (k := ?_)))
      refine C.loopw (Y := Nat × Nat × Nat × List Value) (fun k => [(0, .slice p A.length ca), (1, .slice q B.length cb), (5, .slice (some ⟨k.2.1, 0, none⟩) ((A.take k.1).flatMap (fun r => wo r B)).length k.2.2.1), (6, .int .i64 k.1)]) (fun k => [(k.2.1, rblk ((A.take k.1).flatMap (fun r => wo r B)) k.2.2.2)]) (fun k => k.1 ≤ A.length ∧ RSf ((A.take k.1).flatMap (fun r => wo r B)) k.2.2.1 k.2.2.2) (fun k => A.length - k.1) (0, b, 0, []) ⟨by omega, RSf.nil⟩ (fun k hy => ?_)
      have hR := hy.2
      (repeat' (first | intro (b : Nat) | refine go ?_ | (refine br ?_ ?_ <;> first | exact trivial | intro hq)))
      · have hk : k.1 < A.length := by omega
        obtain ⟨bb, o, rfl, h1, h2, h3⟩ := hA.at (i := k.1) (by omega) (by omega)
        simp only [Int.toNat_natCast] at h1 h2 h3
        have hwl := wo_len (gR A k.1) B
        have hpre := wo_flat_len B (A.take k.1)
        have e2 : (A.take (k.1 + 1)).flatMap (fun r => wo r B) = (A.take k.1).flatMap (fun r => wo r B) ++ wo (gR A k.1) B := by
          rw [take_snoc (gR_some hk), List.flatMap_append]; simp
        have hpre2 : ((A.take k.1).flatMap (fun r => wo r B)).length ≤ 72 := by
          have h5 : (A.take k.1).length ≤ 8 := by rw [List.length_take]; omega
          have h6 : (A.take k.1).length * (B.length + 1) ≤ 8 * 9 := Nat.mul_le_mul h5 (by omega)
          omega
        generalize gR A k.1 = r at *
        generalize hPre : (A.take k.1).flatMap (fun r => wo r B) = Pre at *
        (repeat' (first | intro (b : Nat) | refine go ?_ | (refine br ?_ ?_ <;> first | exact trivial | intro hq)))
        (refine L.ncall (h := by intro W hW; exact b_Without r q cb B W (hB.keep hW.low) (by omega) hW.base) (k := ?_); intro v H hR2)
        obtain ⟨bm, cm, pad, rfl, rfl, hRf⟩ := hR2
        simp only [List.cons_append, List.nil_append]
        generalize wo r B = M at *
        (refine L.rappL (M := Pre) (N := M) hR (hb := by omega) (kk := ?_))
        intro b' c' pad' hR'
        simp only [List.cons_append, List.nil_append]
        (repeat' (first | intro (b : Nat) | refine go ?_ | (refine br ?_ ?_ <;> first | exact trivial | intro hq)))
        (refine X.roundw (k.1 + 1, b', c', pad') ⟨by simp only; omega, by simp only [e2]; exact hR'⟩ (by simp only; omega) (h3 := by simp only [e2]; (repeat (first | exact Sub.nil | (apply Sub.cons; exact rfl; (· first | with_reducible rfl | exact congrArg (Value.int IntKind.i64) (by omega) | rfl))))) (h4 := by simp only [e2]; (repeat (first | exact SubH.nil | (apply SubH.cons; (· first | with_reducible rfl | (simp only [List.cons.injEq, Value.int.injEq, and_true, true_and] <;> omega) | rfl)) | apply SubH.skip | exact SubH.refl))))
      · have hk : k.1 = A.length := by omega
        (apply X.retr [(k.2.1, rblk ((A.take k.1).flatMap (fun r => wo r B)) k.2.2.2)]; (· exact rfl); (· (repeat (first | exact RVs.nil | (apply RVs.cons; (· first | exact RV.tmp rfl | (apply RV.cellk; exact rfl; (· (repeat (first | exact List.Mem.head _ | apply List.Mem.tail))); (· (repeat (first | exact Rd.nil | apply Rd.take | apply Rd.skip)))) | (apply RV.cell1; exact rfl; (· (repeat (first | exact List.Mem.head _ | apply List.Mem.tail))); (· (repeat (first | exact Rd.nil | apply Rd.take | apply Rd.skip))))))))); (· (repeat (first | exact SubH.nil | (apply SubH.cons; (· first | with_reducible rfl | (simp only [List.cons.injEq, Value.int.injEq, and_true, true_and] <;> omega) | rfl)) | apply SubH.skip | exact SubH.refl))))
        have e3 : minR A B = (A.take k.1).flatMap (fun r => wo r B) := by rw [e, hk, List.take_length]
        exact ⟨k.2.1, k.2.2.1, k.2.2.2, by rw [e3]; rfl, by rw [e3], by rw [e3]; exact hR⟩

end D
end Go.Proofs.Ytmohggeeedncoaa
