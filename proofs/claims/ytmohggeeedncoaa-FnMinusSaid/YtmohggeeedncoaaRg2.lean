/- Walks: what is left of a range, by the program. -/
import Derived.Test.YtmohggeeedncoaaRg1
namespace Go.Proofs.Ytmohggeeedncoaa
set_option linter.unusedVariables false
set_option linter.unusedSimpArgs false
set_option maxRecDepth 100000
set_option maxHeartbeats 1000000
namespace D
open Go.RowKit
attribute [local irreducible] Calls

theorem a_minus (x : Rg) (p : Option Addr) (c : Nat) (B : List Rg) (w : World) (hB : RAt w p B) (hlen : B.length ≤ 1000000) (hb : D.Base w) : Calls Try.prog 24 #[.agg (rc x).toArray, .slice p B.length c] w (Ret w (RS (wo x B))) := by
  refine enter Try.func24 rfl Try.ntmps24 rfl (by assumption) ?_
  (repeat' (first | intro (b : Nat) | refine go ?_ | (refine br ?_ ?_ <;> first | exact trivial | intro hq)))
  rename_i bx
  refine C.rot ?_
  refine C.loopw (Y := Nat × Nat × Nat × List Value) (fun k => [(1, .slice p B.length c), (2, .pointer (some ⟨bx, 0, none⟩)), (5, .slice (some ⟨k.2.1, 0, none⟩) (woSt x B k.1).2.length k.2.2.1), (9, .slice p B.length c), (10, .int .i64 B.length), (11, .int .i64 k.1)]) (fun k => [(bx, .cells 34 [.int .i64 (woSt x B k.1).1, .int .i64 x.2]), (k.2.1, rblk (woSt x B k.1).2 k.2.2.2)]) (fun k => k.1 ≤ B.length ∧ RSf (woSt x B k.1).2 k.2.2.1 k.2.2.2) (fun k => B.length - k.1) (0, b, 0, []) ⟨by omega, RSf.nil⟩ (fun k hy => ?_)
  have hl := woSt_len x B k.1 hy.1
  (repeat' (first | intro (b : Nat) | refine go ?_ | (refine br ?_ ?_ <;> first | exact trivial | intro hq)))
  · have hk : k.1 < B.length := by omega
    obtain ⟨bb, o, rfl, h1, h2, h3⟩ := hB.at (i := k.1) (by omega) (by omega)
    have e := woSt_succ (x := x) hk
    have hR := hy.2
    generalize woSt x B k.1 = st at *
    obtain ⟨f, M⟩ := st
    simp only [Int.toNat_natCast] at *
    generalize gR B k.1 = s at *
    obtain ⟨s1, s2⟩ := s
    simp only [woStep] at *
    (repeat' (first | intro (b : Nat) | refine go ?_ | (refine br ?_ ?_ <;> first | exact trivial | intro hq)))
    · rw [if_neg (by omega)] at e
      (refine X.roundw (k.1 + 1, k.2) ⟨by simp only; omega, by simp only [e]; exact hR⟩ (by simp only; omega) (h3 := by simp only [e]; (repeat (first | exact Sub.nil | (apply Sub.cons; exact rfl; (· first | with_reducible rfl | exact congrArg (Value.int IntKind.i64) (by omega) | rfl))))) (h4 := by simp only [e]; (repeat (first | exact SubH.nil | (apply SubH.cons; (· first | with_reducible rfl | (simp only [List.cons.injEq, Value.int.injEq, and_true, true_and] <;> omega) | rfl)) | apply SubH.skip | exact SubH.refl))))
    · rw [if_neg (by omega)] at e
      (refine X.roundw (k.1 + 1, k.2) ⟨by simp only; omega, by simp only [e]; exact hR⟩ (by simp only; omega) (h3 := by simp only [e]; (repeat (first | exact Sub.nil | (apply Sub.cons; exact rfl; (· first | with_reducible rfl | exact congrArg (Value.int IntKind.i64) (by omega) | rfl))))) (h4 := by simp only [e]; (repeat (first | exact SubH.nil | (apply SubH.cons; (· first | with_reducible rfl | (simp only [List.cons.injEq, Value.int.injEq, and_true, true_and] <;> omega) | rfl)) | apply SubH.skip | exact SubH.refl))))
    · rw [if_pos (by omega), if_pos (by omega)] at e
      (refine L.rapp (r := (f, s1)) hR (hb := by omega) (kk := ?_))
      intro b' c' pad' hR'
      simp only [List.cons_append, List.nil_append]
      (repeat' (first | intro (b : Nat) | refine go ?_ | (refine br ?_ ?_ <;> first | exact trivial | intro hq)))
      (refine X.roundw (k.1 + 1, b', c', pad') ⟨by simp only; omega, by simp only [e]; exact hR'⟩ (by simp only; omega) (h3 := by simp only [e, List.length_append, List.length_cons, List.length_nil]; (repeat (first | exact Sub.nil | (apply Sub.cons; exact rfl; (· first | with_reducible rfl | exact congrArg (Value.int IntKind.i64) (by omega) | rfl))))) (h4 := by simp only [e]; (repeat (first | exact SubH.nil | (apply SubH.cons; (· first | with_reducible rfl | (simp only [List.cons.injEq, Value.int.injEq, and_true, true_and] <;> omega) | rfl)) | apply SubH.skip | exact SubH.refl))))
    · rw [if_pos (by omega), if_neg (by omega)] at e
      (refine X.roundw (k.1 + 1, k.2) ⟨by simp only; omega, by simp only [e]; exact hR⟩ (by simp only; omega) (h3 := by simp only [e]; (repeat (first | exact Sub.nil | (apply Sub.cons; exact rfl; (· first | with_reducible rfl | exact congrArg (Value.int IntKind.i64) (by omega) | rfl))))) (h4 := by simp only [e]; (repeat (first | exact SubH.nil | (apply SubH.cons; (· first | with_reducible rfl | (simp only [List.cons.injEq, Value.int.injEq, and_true, true_and] <;> omega) | rfl)) | apply SubH.skip | exact SubH.refl))))
  · have hk : k.1 = B.length := by omega
    have e : wo x B = (woSt x B k.1).2 ++ [((woSt x B k.1).1, x.2)] := by
      rw [hk]; exact if_pos (by rw [← hk]; omega)
    have hR := hy.2
    generalize woSt x B k.1 = st at *
    (refine L.rapp (r := (st.1, x.2)) hR (hb := by omega) (kk := ?_))
    intro b' c' pad' hR'
    simp only [List.cons_append, List.nil_append]
    (repeat' (first | intro (b : Nat) | refine go ?_ | (refine br ?_ ?_ <;> first | exact trivial | intro hq)))
    (apply X.retr [(b', rblk (st.2 ++ [(st.1, x.2)]) pad')]; (· exact rfl); (· (repeat (first | exact RVs.nil | (apply RVs.cons; (· first | exact RV.tmp rfl | (apply RV.cellk; exact rfl; (· (repeat (first | exact List.Mem.head _ | apply List.Mem.tail))); (· (repeat (first | exact Rd.nil | apply Rd.take | apply Rd.skip)))) | (apply RV.cell1; exact rfl; (· (repeat (first | exact List.Mem.head _ | apply List.Mem.tail))); (· (repeat (first | exact Rd.nil | apply Rd.take | apply Rd.skip))))))))); (· (repeat (first | exact SubH.nil | (apply SubH.cons; (· first | with_reducible rfl | (simp only [List.cons.injEq, Value.int.injEq, and_true, true_and] <;> omega) | rfl)) | apply SubH.skip | exact SubH.refl))))
    exact ⟨b', c', pad', by rw [e]; simp [tupleOf], by rw [e], by rw [e]; exact hR'⟩
  · have hk : k.1 = B.length := by omega
    have e : wo x B = (woSt x B k.1).2 := by
      rw [hk]; exact if_neg (by rw [← hk]; omega)
    have hR := hy.2
    generalize woSt x B k.1 = st at *
    (apply X.retr [(k.2.1, rblk st.2 k.2.2.2)]; (· exact rfl); (· (repeat (first | exact RVs.nil | (apply RVs.cons; (· first | exact RV.tmp rfl | (apply RV.cellk; exact rfl; (· (repeat (first | exact List.Mem.head _ | apply List.Mem.tail))); (· (repeat (first | exact Rd.nil | apply Rd.take | apply Rd.skip)))) | (apply RV.cell1; exact rfl; (· (repeat (first | exact List.Mem.head _ | apply List.Mem.tail))); (· (repeat (first | exact Rd.nil | apply Rd.take | apply Rd.skip))))))))); (· (repeat (first | exact SubH.nil | (apply SubH.cons; (· first | with_reducible rfl | (simp only [List.cons.injEq, Value.int.injEq, and_true, true_and] <;> omega) | rfl)) | apply SubH.skip | exact SubH.refl))))
    exact ⟨k.2.1, k.2.2.1, k.2.2.2, by rw [e]; simp [tupleOf], by rw [e], by rw [e]; exact hR⟩

end D
end Go.Proofs.Ytmohggeeedncoaa
