/- Walks: two lists of ranges that are drawn. -/
import Derived.Test.YtmohggeeedncoaaRg8
namespace Go.Proofs.Ytmohggeeedncoaa
set_option linter.unusedVariables false
set_option linter.unusedSimpArgs false
set_option maxRecDepth 100000
set_option maxHeartbeats 1000000
namespace D
open Go.RowKit
attribute [local irreducible] Calls

/-- Ranges that ascend, more or less, in a slice of their own. -/
def SomeJ (v : Value) (H : SH) : Prop := ∃ M : List Rg, RS M v H ∧ BdR 2000 M ∧ M.length ≤ 8
theorem BdR.le {m n : Int} (h : m ≤ n) {M : List Rg} (hM : BdR m M) : BdR n M := fun r hr => by have := hM r hr; omega
theorem BdR.set {n : Int} {M : List Rg} (h : BdR n M) {r : Rg} (hr : -n ≤ r.1 ∧ r.1 ≤ n ∧ -n ≤ r.2 ∧ r.2 ≤ n) (k : Nat) : BdR n (M.set k r) := fun x hx => by
  rcases List.mem_or_eq_of_mem_set hx with hx | rfl
  · exact h x hx
  · exact hr

theorem d_joined (w0 : World) (F : SH) (s : Value) (r : Nat) (p : Int) (hc : CodeAt w0 s) (hp0 : 0 ≤ p) (hp : p ≤ 100000000) (w : World) (hst : St w0 ((r, rb s p) :: F) w) :
    Calls Try.prog 29 #[.pointer (some ⟨r, 0, none⟩)] w (Lent w0 r (rb s) p 50 F SomeJ) := by
  refine enterl Try.func29 rfl Try.ntmps29 rfl hst ?_
  (repeat (first | intro (b : Nat) | refine go ?_))
  (refine L.lHcall (bs := rb s) (h := by intro W hW; exact d_ranges _ _ _ _ _ hc (by omega) (by omega) W hW) (k := ?_); intro v H p1 hR hp1 hp2)
  obtain ⟨M, ⟨b, c, pad, rfl, rfl, hM⟩, hbd, hlen⟩ := hR
  simp only [List.cons_append, List.nil_append]
  (repeat (first | intro (b : Nat) | refine go ?_))
  (refine L.ncall (h := by intro W hW; exact b_Join _ c M (hbd) (by omega) W (rat_own hW (List.Mem.head _)) hW.base) (k := ?_); intro v H hR)
  obtain ⟨N, b1, c1, pad1, ok, rfl, rfl, hN, hbN, hlN⟩ := hR
  simp only [List.cons_append, List.nil_append]
  cases ok
  · (repeat' (first | intro (b : Nat) | refine go ?_ | (refine br ?_ ?_ <;> first | exact trivial | intro hq)))
    (apply X.retl (p' := p1) [(b, _)]; (· exact rfl); (· (repeat (first | exact RVs.nil | (apply RVs.cons; (· first | exact RV.tmp rfl | (apply RV.cellk; exact rfl; (· (repeat (first | exact List.Mem.head _ | apply List.Mem.tail))); (· (repeat (first | exact Rd.nil | apply Rd.take | apply Rd.skip)))) | (apply RV.cell1; exact rfl; (· (repeat (first | exact List.Mem.head _ | apply List.Mem.tail))); (· (repeat (first | exact Rd.nil | apply Rd.take | apply Rd.skip))))))))); (· omega); (· omega); (· exact .cons_cons _ (.cons _ (.cons _ (.refl _)))); skip)
    exact ⟨[(10, 25), (30, 60)], ⟨_, 2, [], rfl, rfl, ⟨by decide, by omega, rfl⟩⟩, fun x hx => by simp at hx; rcases hx with rfl | rfl <;> decide, by decide⟩
  · by_cases h0 : 0 < N.length
    · (repeat' (first | intro (b : Nat) | refine go ?_ | (refine br ?_ ?_ <;> first | exact trivial | intro hq)))
      (refine L.lcall (bs := rb s) (h := by intro W hW; exact d_pick1 _ _ _ _ _ _ hc (by omega) (by omega) (by omega) W hW) (k := ?_); intro v p2 hR hp3 hp4; obtain ⟨n2, rfl, hn2, hn3⟩ := hR)
      (repeat' (first | intro (b : Nat) | refine go ?_ | (refine br ?_ ?_ <;> first | exact trivial | intro hq)))
      · (refine L.lcall (bs := rb s) (h := by intro W hW; exact d_pick1 _ _ _ _ _ _ hc (by omega) (by omega) (by omega) W hW) (k := ?_); intro v p3 hR hp5 hp6; obtain ⟨n3, rfl, hn4, hn5⟩ := hR)
        have hat := flat_get rc_len N pad1 n3.toNat _ (gR_some (by omega)) 1 (.int .i64 (gR N n3.toNat).2) rfl
        have hbx := hbN _ (gR_mem (A := N) (i := n3.toNat) (by omega))
        have hat' : (flat rc N ++ pad1)[0 + n3.toNat * 2 + 1]? = some (.int .i64 (gR N n3.toNat).2) := by rw [Nat.zero_add]; exact hat
        (repeat (first | intro (b : Nat) | refine go ?_))
        have e : (flat rc N ++ pad1).set (0 + n3.toNat * 2 + 1) (.int .i64 ((gR N n3.toNat).2 + 30)) = flat rc (N.set n3.toNat ((gR N n3.toNat).1, (gR N n3.toNat).2 + 30)) ++ pad1 := by
          rw [Nat.zero_add]; exact flat_set2 N pad1 _ _ (by omega)
        (apply L.s; (· exact rfl); (· exact rfl); (· apply OS.store1 (vs' := flat rc (N.set n3.toNat ((gR N n3.toNat).1, (gR N n3.toNat).2 + 30)) ++ pad1); (· exact rfl); (· exact rfl); (· exact rfl); (· (repeat (first | exact Upd.here | apply Upd.there))); (· rw [← e]; exact wr_set _ _ _ (List.getElem?_eq_some_iff.1 hat').1)))
        (repeat (first | intro (b : Nat) | refine go ?_))
        refine X.perm (List.Perm.swap _ _ _) ?_
        (apply X.retl (p' := p3) [(b1, rblk (N.set n3.toNat ((gR N n3.toNat).1, (gR N n3.toNat).2 + 30)) pad1)]; (· exact rfl); (· (repeat (first | exact RVs.nil | (apply RVs.cons; (· first | exact RV.tmp rfl | (apply RV.cellk; exact rfl; (· (repeat (first | exact List.Mem.head _ | apply List.Mem.tail))); (· (repeat (first | exact Rd.nil | apply Rd.take | apply Rd.skip)))) | (apply RV.cell1; exact rfl; (· (repeat (first | exact List.Mem.head _ | apply List.Mem.tail))); (· (repeat (first | exact Rd.nil | apply Rd.take | apply Rd.skip))))))))); (· omega); (· omega); (· exact .cons_cons _ (.cons_cons _ (.cons _ (.refl _)))); skip)
        exact ⟨N.set n3.toNat ((gR N n3.toNat).1, (gR N n3.toNat).2 + 30), ⟨b1, c1, pad1, by simp [tupleOf], rfl, rsf_set hN _ _⟩, (hbN.le (by omega)).set (by simp only; omega) _, by simpa using hlN⟩
      · refine X.perm (List.Perm.swap _ _ _) ?_
        (apply X.retl (p' := p2) [(b1, rblk N pad1)]; (· exact rfl); (· (repeat (first | exact RVs.nil | (apply RVs.cons; (· first | exact RV.tmp rfl | (apply RV.cellk; exact rfl; (· (repeat (first | exact List.Mem.head _ | apply List.Mem.tail))); (· (repeat (first | exact Rd.nil | apply Rd.take | apply Rd.skip)))) | (apply RV.cell1; exact rfl; (· (repeat (first | exact List.Mem.head _ | apply List.Mem.tail))); (· (repeat (first | exact Rd.nil | apply Rd.take | apply Rd.skip))))))))); (· omega); (· omega); (· exact .cons_cons _ (.cons_cons _ (.cons _ (.refl _)))); skip)
        exact ⟨N, ⟨b1, c1, pad1, rfl, rfl, hN⟩, hbN.le (by omega), hlN⟩
    · (repeat' (first | intro (b : Nat) | refine go ?_ | (refine br ?_ ?_ <;> first | exact trivial | intro hq)))
      (apply X.retl (p' := p1) [(b1, rblk N pad1)]; (· exact rfl); (· (repeat (first | exact RVs.nil | (apply RVs.cons; (· first | exact RV.tmp rfl | (apply RV.cellk; exact rfl; (· (repeat (first | exact List.Mem.head _ | apply List.Mem.tail))); (· (repeat (first | exact Rd.nil | apply Rd.take | apply Rd.skip)))) | (apply RV.cell1; exact rfl; (· (repeat (first | exact List.Mem.head _ | apply List.Mem.tail))); (· (repeat (first | exact Rd.nil | apply Rd.take | apply Rd.skip))))))))); (· omega); (· omega); (· exact .cons_cons _ (.cons _ (.cons_cons _ (.refl _)))); skip)
      exact ⟨N, ⟨b1, c1, pad1, rfl, rfl, hN⟩, hbN.le (by omega), hlN⟩

/-- Two lists of ranges, each in a slice of its own. -/
def TwoRs (v : Value) (H : SH) : Prop := ∃ (M N : List Rg) (b c b1 c1 : Nat) (pad pad1 : List Value), v = .tuple #[.slice (some ⟨b, 0, none⟩) M.length c, .slice (some ⟨b1, 0, none⟩) N.length c1] ∧ H = [(b1, rblk N pad1), (b, rblk M pad)] ∧ M.length ≤ 8 ∧ N.length ≤ 8

theorem d_DrawRangesMinus (s0 : Value) (w : World) (hc0 : CodeAt w s0) (hb : D.Base w) : Calls Try.prog 15 #[s0] w (Ret w TwoRs) := by
  refine enter Try.func15 rfl Try.ntmps15 rfl (by assumption) ?_
  (repeat (first | intro (b : Nat) | refine go ?_))
  (refine L.ncall (h := by intro W hW; exact d_open w s0 hc0 W hW.base) (k := ?_); intro v H hR)
  obtain ⟨r, s, rfl, rfl, hc⟩ := hR
  simp only [List.cons_append, List.nil_append]
  (repeat (first | intro (b : Nat) | refine go ?_))
  (refine L.lHcall (bs := rb s) (h := by intro W hW; exact d_joined _ _ _ _ _ hc (by omega) (by omega) W hW) (k := ?_); intro v H p1 hR hp1 hp2)
  obtain ⟨M, ⟨b, c, pad, rfl, rfl, hM⟩, hbd, hlen⟩ := hR
  simp only [List.cons_append, List.nil_append]
  (repeat (first | intro (b : Nat) | refine go ?_))
  (refine L.lHcall (bs := rb s) (h := by intro W hW; exact d_joined _ _ _ _ _ hc (by omega) (by omega) W hW) (k := ?_); intro v H p2 hR hp3 hp4)
  obtain ⟨N, ⟨b1, c1, pad1, rfl, rfl, hN⟩, hbd1, hlen1⟩ := hR
  simp only [List.cons_append, List.nil_append]
  (repeat (first | intro (b : Nat) | refine go ?_))
  (apply X.retr [(b1, rblk N pad1), (b, rblk M pad)]; (· exact rfl); (· (repeat (first | exact RVs.nil | (apply RVs.cons; (· first | exact RV.tmp rfl | (apply RV.cellk; exact rfl; (· (repeat (first | exact List.Mem.head _ | apply List.Mem.tail))); (· (repeat (first | exact Rd.nil | apply Rd.take | apply Rd.skip)))) | (apply RV.cell1; exact rfl; (· (repeat (first | exact List.Mem.head _ | apply List.Mem.tail))); (· (repeat (first | exact Rd.nil | apply Rd.take | apply Rd.skip))))))))); (· (repeat (first | exact SubH.nil | (apply SubH.cons; (· first | with_reducible rfl | (simp only [List.cons.injEq, Value.int.injEq, and_true, true_and] <;> omega) | rfl)) | apply SubH.skip | exact SubH.refl))))
  exact ⟨M, N, b, c, b1, c1, pad, pad1, rfl, rfl, hlen, hlen1⟩

end D
end Go.Proofs.Ytmohggeeedncoaa
