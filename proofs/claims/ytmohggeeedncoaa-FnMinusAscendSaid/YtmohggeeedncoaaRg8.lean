/- Walks: ranges that are drawn. -/
import Derived.Test.YtmohggeeedncoaaRg7
import Derived.Test.YtmohggeeedncoaaDr
namespace Go.Proofs.Ytmohggeeedncoaa
set_option linter.unusedVariables false
set_option linter.unusedSimpArgs false
set_option maxRecDepth 100000
set_option maxHeartbeats 1000000
namespace D
open Go.RowKit
attribute [local irreducible] Calls

/-- Small ranges. -/
def BdR (n : Int) (M : List Rg) : Prop := ∀ r ∈ M, -n ≤ r.1 ∧ r.1 ≤ n ∧ -n ≤ r.2 ∧ r.2 ≤ n
theorem BdR.nil {n : Int} : BdR n [] := fun r h => by cases h
theorem BdR.snoc {n : Int} {M : List Rg} {r : Rg} (h : BdR n M) (hr : -n ≤ r.1 ∧ r.1 ≤ n ∧ -n ≤ r.2 ∧ r.2 ≤ n) : BdR n (M ++ [r]) := fun x hx => by
  rcases List.mem_append.1 hx with hx | hx
  · exact h x hx
  · obtain rfl : x = r := by simpa using hx
    exact hr
theorem BdR.zeros {n : Int} (hn : 0 ≤ n) {M : List Rg} (h : BdR n M) (k : Nat) : BdR n (M ++ List.replicate k (0, 0)) := fun x hx => by
  rcases List.mem_append.1 hx with hx | hx
  · exact h x hx
  · obtain ⟨_, rfl⟩ := List.mem_replicate.1 hx
    simp only; omega

/-- Some small range. -/
def SomeRg (v : Value) : Prop := ∃ r : Rg, v = .agg (rc r).toArray ∧ -1000 ≤ r.1 ∧ r.1 ≤ 1000 ∧ -1000 ≤ r.2 ∧ r.2 ≤ 1000

theorem d_range (w0 : World) (F : SH) (s : Value) (r : Nat) (p : Int) (hc : CodeAt w0 s) (hp0 : 0 ≤ p) (hp : p ≤ 100000000000) (w : World) (hst : St w0 ((r, rb s p) :: F) w) :
    Calls Try.prog 48 #[.pointer (some ⟨r, 0, none⟩)] w (LentV w0 r (rb s) p 3 F SomeRg) := by
  refine enterl Try.func48 rfl Try.ntmps48 rfl hst ?_
  (repeat' (first | intro (b : Nat) | refine go ?_ | (refine br ?_ ?_ <;> first | exact trivial | intro hq) | (refine L.lcall (bs := rb s) (h := by intro W hW; exact d_pick1 _ _ _ _ _ _ hc (by omega) (by omega) (by omega) W hW) (k := ?_); intro v p1 hR hp1 hp2; obtain ⟨m, rfl, hm0, hm1⟩ := hR) | (apply L.li (lo := -100000000) (hi := 100000000); exact rfl; exact rfl; exact rfl; (· (repeat (first | exact List.Mem.head _ | apply List.Mem.tail))); (· simp <;> omega); (· (repeat (first | exact AllI.nil | (apply AllI.cons; omega; omega)))); intro m hm0 hm1)))
  (refine retl ?_)
  exact ⟨(_, _), rfl, by simp only; omega, by simp only; omega, by simp only; omega, by simp only; omega⟩

/-- Some small ranges in a slice of their own. -/
def SomeRs (k : Nat) (v : Value) (H : SH) : Prop := ∃ M : List Rg, RS M v H ∧ BdR 1000 M ∧ M.length ≤ k

theorem d_ranges (w0 : World) (F : SH) (s : Value) (r : Nat) (p : Int) (hc : CodeAt w0 s) (hp0 : 0 ≤ p) (hp : p ≤ 1000000000) (w : World) (hst : St w0 ((r, rb s p) :: F) w) :
    Calls Try.prog 40 #[.pointer (some ⟨r, 0, none⟩)] w (Lent w0 r (rb s) p 40 F (SomeRs 9)) := by
  refine enterl Try.func40 rfl Try.ntmps40 rfl hst ?_
  (repeat (first | intro (b : Nat) | refine go ?_))
  (refine L.lcall (bs := rb s) (h := by intro W hW; exact d_pick1 _ _ _ _ _ _ hc (by omega) (by omega) (by omega) W hW) (k := ?_); intro v q1 hR hq1 hq2; obtain ⟨n, rfl, hn0, hn1⟩ := hR)
  (repeat (first | intro (b : Nat) | refine go ?_))
  refine C.perm (List.Perm.swap _ _ _) ?_
  refine C.loopw (Y := Nat × List Rg × Nat × Nat × List Value × Int) (fun k => [(0, .pointer (some ⟨r, 0, none⟩)), (3, .slice (some ⟨k.2.2.1, 0, none⟩) k.2.1.length k.2.2.2.1), (4, .int .i64 n), (5, .int .i64 k.1)]) (fun k => (k.2.2.1, rblk k.2.1 k.2.2.2.2.1) :: (r, rb s k.2.2.2.2.2) :: F)
    (fun k => k.1 ≤ n ∧ k.2.1.length = k.1 ∧ BdR 1000 k.2.1 ∧ RSf k.2.1 k.2.2.2.1 k.2.2.2.2.1 ∧ q1 ≤ k.2.2.2.2.2 ∧ k.2.2.2.2.2 ≤ q1 + 3 * k.1) (fun k => n.toNat - k.1) (0, [], b, 0, [], q1) ⟨by simp only; omega, rfl, BdR.nil, RSf.nil, Int.le_refl _, by simp only; omega⟩ (fun k hy => ?_)
  obtain ⟨y1, y2, y3, y4, y5, y6⟩ := hy
  (repeat' (first | intro (b : Nat) | refine go ?_ | (refine br ?_ ?_ <;> first | exact trivial | intro hq)))
  · (refine L.lcall (bs := rb s) (h := by intro W hW; exact d_range _ _ _ _ _ hc (by omega) (by omega) W hW) (k := ?_); intro v p1 hR hp1 hp2)
    obtain ⟨x, rfl, hx⟩ := hR
    (repeat (first | intro (b : Nat) | refine go ?_))
    (refine L.rappP (r := x) y4 (hb := by omega) (kk := ?_))
    intro b' c' pad' hR'
    (repeat' (first | intro (b : Nat) | refine go ?_ | (refine br ?_ ?_ <;> first | exact trivial | intro hq)))
    (refine X.roundw (k.1 + 1, k.2.1 ++ [x], b', c', pad', p1) ⟨by simp only; omega, by simp only [List.length_append, List.length_cons, List.length_nil]; omega, y3.snoc hx, hR', by simp only; omega, by simp only; omega⟩ (by simp only; omega) (h3 := by simp only [List.length_append, List.length_cons, List.length_nil]; (repeat (first | exact Sub.nil | (apply Sub.cons; exact rfl; (· first | with_reducible rfl | exact congrArg (Value.int IntKind.i64) (by omega) | rfl))))))
  · (refine L.lcall (bs := rb s) (h := by intro W hW; exact d_pick1 _ _ _ _ _ _ hc (by omega) (by omega) (by omega) W hW) (k := ?_); intro v p2 hR hp3 hp4; obtain ⟨n2, rfl, hn2, hn3⟩ := hR)
    (repeat' (first | intro (b : Nat) | refine go ?_ | (refine br ?_ ?_ <;> first | exact trivial | intro hq)))
    · (refine L.rappzP (by kernel_rfl) y4 (hk := by omega) (hb := by omega) (kk := ?_))
      intro b' c' pad' hR'
      (repeat' (first | intro (b : Nat) | refine go ?_ | (refine br ?_ ?_ <;> first | exact trivial | intro hq)))
      (apply X.retl (p' := p2) [(b', rblk _ pad')]; (· exact rfl); (· (repeat (first | exact RVs.nil | (apply RVs.cons; (· first | exact RV.tmp rfl | (apply RV.cellk; exact rfl; (· (repeat (first | exact List.Mem.head _ | apply List.Mem.tail))); (· (repeat (first | exact Rd.nil | apply Rd.take | apply Rd.skip)))) | (apply RV.cell1; exact rfl; (· (repeat (first | exact List.Mem.head _ | apply List.Mem.tail))); (· (repeat (first | exact Rd.nil | apply Rd.take | apply Rd.skip))))))))); (· omega); (· omega); (· exact .refl _); (· exact ⟨_, ⟨b', c', pad', rfl, rfl, hR'⟩, y3.zeros (by omega) _, by simp only [List.length_append, List.length_replicate]; omega⟩))
    · refine X.perm (List.Perm.swap _ _ _) ?_
      (apply X.retl (p' := p2) [(k.2.2.1, rblk k.2.1 k.2.2.2.2.1)]; (· exact rfl); (· (repeat (first | exact RVs.nil | (apply RVs.cons; (· first | exact RV.tmp rfl | (apply RV.cellk; exact rfl; (· (repeat (first | exact List.Mem.head _ | apply List.Mem.tail))); (· (repeat (first | exact Rd.nil | apply Rd.take | apply Rd.skip)))) | (apply RV.cell1; exact rfl; (· (repeat (first | exact List.Mem.head _ | apply List.Mem.tail))); (· (repeat (first | exact Rd.nil | apply Rd.take | apply Rd.skip))))))))); (· omega); (· omega); (· exact .refl _); (· exact ⟨_, ⟨_, _, _, rfl, rfl, y4⟩, y3, by omega⟩))

/-- What is joined: ranges in a slice of their own, and whether it succeeds. -/
def Joined (v : Value) (H : SH) : Prop := ∃ (M : List Rg) (b c : Nat) (pad : List Value) (ok : Bool), v = .tuple #[.slice (some ⟨b, 0, none⟩) M.length c, .bool ok] ∧ H = [(b, rblk M pad)] ∧ RSf M c pad ∧ BdR 1000 M ∧ M.length ≤ 8

theorem b_Put (x : Rg) (p : Option Addr) (c : Nat) (B : List Rg) (hx : -1000 ≤ x.1 ∧ x.1 ≤ 1000 ∧ -1000 ≤ x.2 ∧ x.2 ≤ 1000) (hbd : BdR 1000 B) (hlen : B.length ≤ 1000) (w : World) (hB : RAt w p B) (hb : D.Base w) :
    Calls Try.prog 47 #[.slice p B.length c, .agg (rc x).toArray] w (Ret w (SomeRs (B.length + 1))) := by
  refine enter Try.func47 rfl Try.ntmps47 rfl (by assumption) ?_
  (repeat (first | intro (b : Nat) | refine go ?_))
  rename_i bx
  refine C.loopw (Y := Nat × List Rg × Nat × Nat × List Value × Rg × Bool) (fun k => [(0, .slice p B.length c), (3, .pointer (some ⟨bx, 0, none⟩)), (5, .slice (some ⟨k.2.2.1, 0, none⟩) k.2.1.length k.2.2.2.1), (6, .bool k.2.2.2.2.2.2), (7, .int .i64 k.1)]) (fun k => [(k.2.2.1, rblk k.2.1 k.2.2.2.2.1), (bx, .cells 34 (rc k.2.2.2.2.2.1))])
    (fun k => k.1 ≤ B.length ∧ k.2.1.length ≤ k.1 + k.2.2.2.2.2.2.toNat ∧ BdR 1000 k.2.1 ∧ RSf k.2.1 k.2.2.2.1 k.2.2.2.2.1 ∧ (-1000 ≤ k.2.2.2.2.2.1.1 ∧ k.2.2.2.2.2.1.1 ≤ 1000 ∧ -1000 ≤ k.2.2.2.2.2.1.2 ∧ k.2.2.2.2.2.1.2 ≤ 1000)) (fun k => B.length - k.1) (0, [], b, 0, [], x, false) ⟨by simp only; omega, Nat.zero_le _, BdR.nil, RSf.nil, hx⟩ (fun k hy => ?_)
  obtain ⟨k, M, bo, co, pad, ⟨x1, x2⟩, dn⟩ := k
  simp only at hy
  obtain ⟨y1, y2, y3, y4, y5⟩ := hy
  have hlM : M.length ≤ 2000 := by have : dn.toNat ≤ 1 := by cases dn <;> decide
                                   omega
  by_cases hk : k < B.length
  · obtain ⟨bb, o, rfl, h1, h2, h3⟩ := hB.at (i := k) (by omega) (by omega)
    simp only [Int.toNat_natCast] at h1 h2 h3
    have hv := hbd _ (gR_mem hk)
    generalize gR B k = v at *
    obtain ⟨v1, v2⟩ := v
    simp only at hv
    cases dn
    · simp only [Bool.toNat_false] at y2
      (repeat' (first | intro (b : Nat) | refine go ?_ | (refine br ?_ ?_ <;> first | exact trivial | intro hq)))
      · (refine L.rappP (r := (v1, v2)) y4 (hb := by omega) (kk := ?_))
        intro b' c' pad' hR'
        (repeat' (first | intro (b : Nat) | refine go ?_ | (refine br ?_ ?_ <;> first | exact trivial | intro hq)))
        (refine X.roundw (k + 1, M ++ [(v1, v2)], b', c', pad', (x1, x2), false) ⟨by simp only; omega, by simp only [List.length_append, List.length_cons, List.length_nil, Bool.toNat_false]; omega, y3.snoc hv, hR', y5⟩ (by simp only; omega) (h3 := by simp only [List.length_append, List.length_cons, List.length_nil]; (repeat (first | exact Sub.nil | (apply Sub.cons; exact rfl; (· first | with_reducible rfl | exact congrArg (Value.int IntKind.i64) (by omega) | rfl))))))
      · (refine L.rappP (r := (x1, x2)) y4 (hb := by omega) (kk := ?_))
        intro b' c' pad' hR'
        (repeat' (first | intro (b : Nat) | refine go ?_ | (refine br ?_ ?_ <;> first | exact trivial | intro hq)))
        (refine L.rappP (M := M ++ [(x1, x2)]) (r := (v1, v2)) hR' (hv := by simp only [List.length_append, List.length_cons, List.length_nil]; exact rfl) (hb := by simp only [List.length_append, List.length_cons, List.length_nil]; omega) (kk := ?_))
        intro b2 c2 pad2 hR2
        (repeat' (first | intro (b : Nat) | refine go ?_ | (refine br ?_ ?_ <;> first | exact trivial | intro hq)))
        (refine X.roundw (k + 1, M ++ [(x1, x2)] ++ [(v1, v2)], b2, c2, pad2, (x1, x2), true) ⟨by simp only; omega, by simp only [List.length_append, List.length_cons, List.length_nil, Bool.toNat_true]; omega, (y3.snoc y5).snoc hv, hR2, y5⟩ (by simp only; omega) (h3 := by simp only [List.length_append, List.length_cons, List.length_nil]; (repeat (first | exact Sub.nil | (apply Sub.cons; exact rfl; (· first | with_reducible rfl | exact congrArg (Value.int IntKind.i64) (by omega) | rfl))))))
      · (refine X.roundw (k + 1, M, bo, co, pad, (min x1 v1, max x2 v2), false) ⟨by simp only; omega, by simp only [Bool.toNat_false]; omega, y3, y4, by simp only; omega⟩ (by simp only; omega))
    · simp only [Bool.toNat_true] at y2
      (repeat' (first | intro (b : Nat) | refine go ?_ | (refine br ?_ ?_ <;> first | exact trivial | intro hq)))
      · (refine L.rappP (r := (v1, v2)) y4 (hb := by omega) (kk := ?_))
        intro b' c' pad' hR'
        (repeat' (first | intro (b : Nat) | refine go ?_ | (refine br ?_ ?_ <;> first | exact trivial | intro hq)))
        (refine X.roundw (k + 1, M ++ [(v1, v2)], b', c', pad', (x1, x2), true) ⟨by simp only; omega, by simp only [List.length_append, List.length_cons, List.length_nil, Bool.toNat_true]; omega, y3.snoc hv, hR', y5⟩ (by simp only; omega) (h3 := by simp only [List.length_append, List.length_cons, List.length_nil]; (repeat (first | exact Sub.nil | (apply Sub.cons; exact rfl; (· first | with_reducible rfl | exact congrArg (Value.int IntKind.i64) (by omega) | rfl))))))
      · (refine L.rappP (r := (v1, v2)) y4 (hb := by omega) (kk := ?_))
        intro b' c' pad' hR'
        (repeat' (first | intro (b : Nat) | refine go ?_ | (refine br ?_ ?_ <;> first | exact trivial | intro hq)))
        (refine X.roundw (k + 1, M ++ [(v1, v2)], b', c', pad', (x1, x2), true) ⟨by simp only; omega, by simp only [List.length_append, List.length_cons, List.length_nil, Bool.toNat_true]; omega, y3.snoc hv, hR', y5⟩ (by simp only; omega) (h3 := by simp only [List.length_append, List.length_cons, List.length_nil]; (repeat (first | exact Sub.nil | (apply Sub.cons; exact rfl; (· first | with_reducible rfl | exact congrArg (Value.int IntKind.i64) (by omega) | rfl))))))
      · (refine X.roundw (k + 1, M, bo, co, pad, (min x1 v1, max x2 v2), true) ⟨by simp only; omega, by simp only [Bool.toNat_true]; omega, y3, y4, by simp only; omega⟩ (by simp only; omega))
  · cases dn
    · simp only [Bool.toNat_false] at y2
      (repeat' (first | intro (b : Nat) | refine go ?_ | (refine br ?_ ?_ <;> first | exact trivial | intro hq)))
      (refine L.rappP (r := (x1, x2)) y4 (hb := by omega) (kk := ?_))
      intro b' c' pad' hR'
      (repeat' (first | intro (b : Nat) | refine go ?_ | (refine br ?_ ?_ <;> first | exact trivial | intro hq)))
      (apply X.retr [(b', rblk (M ++ [(x1, x2)]) pad')]; (· exact rfl); (· (repeat (first | exact RVs.nil | (apply RVs.cons; (· first | exact RV.tmp rfl | (apply RV.cellk; exact rfl; (· (repeat (first | exact List.Mem.head _ | apply List.Mem.tail))); (· (repeat (first | exact Rd.nil | apply Rd.take | apply Rd.skip)))) | (apply RV.cell1; exact rfl; (· (repeat (first | exact List.Mem.head _ | apply List.Mem.tail))); (· (repeat (first | exact Rd.nil | apply Rd.take | apply Rd.skip))))))))); (· (repeat (first | exact SubH.nil | (apply SubH.cons; (· first | with_reducible rfl | (simp only [List.cons.injEq, Value.int.injEq, and_true, true_and] <;> omega) | rfl)) | apply SubH.skip | exact SubH.refl))))
      exact ⟨M ++ [(x1, x2)], ⟨b', c', pad', by simp [tupleOf], rfl, hR'⟩, y3.snoc y5, by simp only [List.length_append, List.length_cons, List.length_nil]; omega⟩
    · simp only [Bool.toNat_true] at y2
      (repeat' (first | intro (b : Nat) | refine go ?_ | (refine br ?_ ?_ <;> first | exact trivial | intro hq)))
      (apply X.retr [(bo, rblk M pad)]; (· exact rfl); (· (repeat (first | exact RVs.nil | (apply RVs.cons; (· first | exact RV.tmp rfl | (apply RV.cellk; exact rfl; (· (repeat (first | exact List.Mem.head _ | apply List.Mem.tail))); (· (repeat (first | exact Rd.nil | apply Rd.take | apply Rd.skip)))) | (apply RV.cell1; exact rfl; (· (repeat (first | exact List.Mem.head _ | apply List.Mem.tail))); (· (repeat (first | exact Rd.nil | apply Rd.take | apply Rd.skip))))))))); (· (repeat (first | exact SubH.nil | (apply SubH.cons; (· first | with_reducible rfl | (simp only [List.cons.injEq, Value.int.injEq, and_true, true_and] <;> omega) | rfl)) | apply SubH.skip | exact SubH.refl))))
      exact ⟨M, ⟨bo, co, pad, rfl, rfl, y4⟩, y3, by omega⟩

theorem b_Join (p : Option Addr) (c : Nat) (B : List Rg) (hbd : BdR 1000 B) (hlen : B.length ≤ 1000) (w : World) (hB : RAt w p B) (hb : D.Base w) :
    Calls Try.prog 39 #[.slice p B.length c] w (Ret w Joined) := by
  by_cases h8 : B.length ≤ 8
  · refine enter Try.func39 rfl Try.ntmps39 rfl (by assumption) ?_
    (repeat' (first | intro (b : Nat) | refine go ?_ | (refine br ?_ ?_ <;> first | exact trivial | intro hq)))
    refine C.loopw (Y := Nat × List Rg × Nat × Nat × List Value) (fun k => [(0, .slice p B.length c), (4, .slice (some ⟨k.2.2.1, 0, none⟩) k.2.1.length k.2.2.2.1), (5, .int .i64 k.1)]) (fun k => [(k.2.2.1, rblk k.2.1 k.2.2.2.2)])
      (fun k => k.1 ≤ B.length ∧ k.2.1.length ≤ k.1 ∧ BdR 1000 k.2.1 ∧ RSf k.2.1 k.2.2.2.1 k.2.2.2.2) (fun k => B.length - k.1) (0, [], b, 0, []) ⟨Nat.zero_le _, Nat.zero_le _, BdR.nil, RSf.nil⟩ (fun k hy => ?_)
    obtain ⟨k, M, bo, co, pad⟩ := k
    simp only at hy
    obtain ⟨y1, y2, y3, y4⟩ := hy
    by_cases hk : k < B.length
    · obtain ⟨bb, o, rfl, h1, h2, h3⟩ := hB.at (i := k) (by omega) (by omega)
      simp only [Int.toNat_natCast] at h1 h2 h3
      have hv := hbd _ (gR_mem hk)
      generalize gR B k = v at *
      cases hr : rOk v with
      | false =>
        (repeat' (first | intro (b : Nat) | refine go ?_ | (refine br ?_ ?_ <;> first | exact trivial | intro hq) | refine L.call (h := by intro W hW; apply rvb hr (b_l32Range _ W hW.base)) (k := ?_)))
        (apply X.retr [(b, rblk [] [])]; (· exact rfl); (· (repeat (first | exact RVs.nil | (apply RVs.cons; (· first | exact RV.tmp rfl | (apply RV.cellk; exact rfl; (· (repeat (first | exact List.Mem.head _ | apply List.Mem.tail))); (· (repeat (first | exact Rd.nil | apply Rd.take | apply Rd.skip)))) | (apply RV.cell1; exact rfl; (· (repeat (first | exact List.Mem.head _ | apply List.Mem.tail))); (· (repeat (first | exact Rd.nil | apply Rd.take | apply Rd.skip))))))))); (· (repeat (first | exact SubH.nil | (apply SubH.cons; (· first | with_reducible rfl | (simp only [List.cons.injEq, Value.int.injEq, and_true, true_and] <;> omega) | rfl)) | apply SubH.skip | exact SubH.refl))))
        exact ⟨[], b, 0, [], false, rfl, rfl, RSf.nil, BdR.nil, Nat.zero_le _⟩
      | true =>
        (repeat' (first | intro (b : Nat) | refine go ?_ | (refine br ?_ ?_ <;> first | exact trivial | intro hq) | refine L.call (h := by intro W hW; apply rvb hr (b_l32Range _ W hW.base)) (k := ?_)))
        (refine L.ncall (h := by intro W hW; exact b_Put v _ co M hv y3 (by omega) W (rat_own hW (List.Mem.head _)) hW.base) (k := ?_); intro u H hR)
        obtain ⟨N, ⟨b', c', pad', rfl, rfl, hR'⟩, hN, hNl⟩ := hR
        simp only [List.cons_append, List.nil_append]
        (repeat' (first | intro (b : Nat) | refine go ?_ | (refine br ?_ ?_ <;> first | exact trivial | intro hq)))
        (refine X.roundw (k + 1, N, b', c', pad') ⟨by simp only; omega, by simp only; omega, hN, hR'⟩ (by simp only; omega))
    · (repeat' (first | intro (b : Nat) | refine go ?_ | (refine br ?_ ?_ <;> first | exact trivial | intro hq)))
      (apply X.retr [(bo, rblk M pad)]; (· exact rfl); (· (repeat (first | exact RVs.nil | (apply RVs.cons; (· first | exact RV.tmp rfl | (apply RV.cellk; exact rfl; (· (repeat (first | exact List.Mem.head _ | apply List.Mem.tail))); (· (repeat (first | exact Rd.nil | apply Rd.take | apply Rd.skip)))) | (apply RV.cell1; exact rfl; (· (repeat (first | exact List.Mem.head _ | apply List.Mem.tail))); (· (repeat (first | exact Rd.nil | apply Rd.take | apply Rd.skip))))))))); (· (repeat (first | exact SubH.nil | (apply SubH.cons; (· first | with_reducible rfl | (simp only [List.cons.injEq, Value.int.injEq, and_true, true_and] <;> omega) | rfl)) | apply SubH.skip | exact SubH.refl))))
      exact ⟨M, bo, co, pad, true, rfl, rfl, y4, y3, by omega⟩
  · refine enter Try.func39 rfl Try.ntmps39 rfl (by assumption) ?_
    (repeat' (first | intro (b : Nat) | refine go ?_ | (refine br ?_ ?_ <;> first | exact trivial | intro hq)))
    (apply X.retr [(b, rblk [] [])]; (· exact rfl); (· (repeat (first | exact RVs.nil | (apply RVs.cons; (· first | exact RV.tmp rfl | (apply RV.cellk; exact rfl; (· (repeat (first | exact List.Mem.head _ | apply List.Mem.tail))); (· (repeat (first | exact Rd.nil | apply Rd.take | apply Rd.skip)))) | (apply RV.cell1; exact rfl; (· (repeat (first | exact List.Mem.head _ | apply List.Mem.tail))); (· (repeat (first | exact Rd.nil | apply Rd.take | apply Rd.skip))))))))); (· (repeat (first | exact SubH.nil | (apply SubH.cons; (· first | with_reducible rfl | (simp only [List.cons.injEq, Value.int.injEq, and_true, true_and] <;> omega) | rfl)) | apply SubH.skip | exact SubH.refl))))
    exact ⟨[], b, 0, [], false, rfl, rfl, RSf.nil, BdR.nil, Nat.zero_le _⟩

end D
end Go.Proofs.Ytmohggeeedncoaa
