/- Walks: the ranges of a chain; what is in the first ranges alone, in both; sums; instants. -/
import Derived.Test.YtmohggeeedncoaaRg3
namespace Go.Proofs.Ytmohggeeedncoaa
set_option linter.unusedVariables false
set_option linter.unusedSimpArgs false
set_option maxRecDepth 100000
set_option maxHeartbeats 1000000
namespace D
open Go.RowKit
attribute [local irreducible] Calls

/-- A chain that can be read. -/
structure ChAt (W : World) (c : Nat) (es : List Lk) : Prop where
  own : ∀ x ∈ chH c es, W.heap[x.1]? = some x.2.toObj
  dis : (chH c es).Pairwise (fun a b => a.1 ≠ b.1)
theorem chAt_of {w0 W : World} {hs : SH} (h : St w0 hs W) {c : Nat} {es : List Lk} (hs' : (chH c es).Sublist hs) : ChAt W c es :=
  ⟨fun x hx => (h.own x (hs'.subset hx)).2, h.dis.sublist hs'⟩
theorem ChAt.keep {W W' : World} {c : Nat} {es : List Lk} (h : ChAt W c es) (hb : Below W.heap.size W W') : ChAt W' c es :=
  ⟨fun x hx => (hb.block _ (lt_of_some (h.own x hx))).trans (h.own x hx), h.dis⟩
theorem cell_heap {W : World} {b o : Nat} {T : TypeId} {vs : List Value} {v : Value} (h : W.heap[b]? = some (Blk.toObj (.cells T vs))) (hv : vs[o]? = some v) : W.cell? ⟨b, o, none⟩ = some v := by
  have h' : W.heap[b]? = some (.cells vs.toArray T (0, 0)) := h
  simp [World.cell?, h', hv]
/-- The link at which m links are still to come. -/
def curV (es : List Lk) : Nat → Value
  | 0 => .pointer none
  | m + 1 => pB (es.getD m (0, .nilIface, (0, 0))).1
theorem chLink_mem (c : Nat) : ∀ (es : List Lk) (nx : Value) (i : Nat) (x : Lk), es[i]? = some x → (x.1, elB (match i with | 0 => nx | j + 1 => pB (es.getD j (0, .nilIface, (0, 0))).1) x.2.1 (pB c) (rV x.2.2)) ∈ chLink c nx es
  | [], nx, i, x, h => by simp at h
  | (b, p, r) :: t, nx, 0, x, h => by
    obtain rfl : (b, p, r) = x := by simpa using h
    exact List.Mem.head _
  | (b, p, r) :: t, nx, i + 1, x, h => by
    have := chLink_mem c t (pB b) i x (by simpa using h)
    have h2 : ∀ y, y ∈ chLink c (pB b) t → y ∈ chLink c nx ((b, p, r) :: t) := fun y hy => List.Mem.tail _ hy
    cases i with
    | zero => exact h2 _ this
    | succ j => exact h2 _ this
theorem lkFirst_eq : ∀ (b : Nat) (t : List Lk) (p : Value) (r : Rg), (((b, p, r) :: t).getD t.length (0, .nilIface, (0, 0))).1 = lkFirst b t
  | b, [], p, r => rfl
  | b, (b', p', r') :: t, p, r => lkFirst_eq b' t p' r'
theorem cur_first {b : Nat} {p : Value} {r : Rg} {t : List Lk} : pB (lkFirst b t) = curV ((b, p, r) :: t) (t.length + 1) := by
  simp only [curV, lkFirst_eq]

theorem a_NextC (c m : Nat) (es : List Lk) (hm : m < es.length) (w : World) (hC : ChAt w c es) (hb : D.Base w) : Calls Try.prog 38 #[curV es (m + 1)] w fun e w' => e = .returned (curV es m) ∧ Below w.heap.size w w' := by
  have hx : es[m]? = some (es.getD m (0, .nilIface, (0, 0))) := by simp [List.getD, hm]
  have h1 := hC.own _ (List.Mem.tail _ (chLink_mem c es (pB c) m _ hx))
  cases m with
  | zero => exact a_Next0 _ c w (cell_heap h1 rfl) (cell_heap h1 rfl) hb
  | succ m =>
    have hy : es[m]? = some (es.getD m (0, .nilIface, (0, 0))) := by
      have : m < es.length := by omega
      simp [List.getD, this]
    have hmem := chLink_mem c es (pB c) m _ hy
    have h2 := hC.own _ (List.Mem.tail _ hmem)
    have h3 := hC.own _ (List.Mem.head _)
    have hne := (List.pairwise_cons.1 hC.dis).1 _ hmem
    simp only at hne
    cases es with
    | nil => simp at hm
    | cons x t =>
      obtain ⟨b, p, r⟩ := x
      exact a_Next1 _ c _ w _ _ _ _ (cell_heap h1 rfl) (cell_heap h1 rfl) (fun h => hne h.symm) h2 h3 hb

theorem rep_two (n : Nat) : (rep n [.int .i64 0, .int .i64 0] : List Value).length = n * 2 := rep_length n _

theorem rgs_drop {es : List Lk} {m : Nat} (hm : m < es.length) : ((rgs es).drop m).reverse = ((rgs es).drop (m + 1)).reverse ++ [(es.getD m (0, .nilIface, (0, 0))).2.2] := by
  have h : m < (rgs es).length := by simpa [rgs] using hm
  rw [List.drop_eq_getElem_cons h, List.reverse_cons]
  congr 2
  simp [rgs, List.getD, hm]

theorem a_all (c : Nat) (es : List Lk) (hlen : es.length ≤ 1000) (w : World) (hC : ChAt w c es) (hb : D.Base w) : Calls Try.prog 26 #[pB c] w (Ret w (RS (rgs es).reverse)) := by
  have h0 := hC.own _ (List.Mem.head _)
  have hLen : w.cell? ⟨c, 0 + 4, none⟩ = some (.int .i64 es.length) := by
    cases es with
    | nil => exact cell_heap h0 rfl
    | cons x t => obtain ⟨b, p, r⟩ := x; exact cell_heap h0 (by simp)
  have hFr : ∀ W, Below w.heap.size w W → D.Base W → Calls Try.prog 37 #[pB c] W fun e w' => e = .returned (curV es es.length) ∧ Below W.heap.size W w' := by
    intro W hB hbW
    have h1 := (hC.keep hB).own _ (List.Mem.head _)
    cases es with
    | nil => exact a_Front0 c W (cell_heap h1 rfl) hbW
    | cons x t =>
      obtain ⟨b, p, r⟩ := x
      exact rv (v := pB (lkFirst b t)) (by rw [cur_first (p := p) (r := r)]; rfl) (a_Front1 c (t.length + 1) (pB (lkFirst b t)) (by omega) W (cell_heap h1 rfl) (cell_heap h1 rfl) hbW)
  refine enter Try.func26 rfl Try.ntmps26 rfl (by assumption) ?_
  (repeat' (first | intro (b : Nat) | refine go ?_ | (refine br ?_ ?_ <;> first | exact trivial | intro hq) | refine L.call (h := by intro W hW; first | apply a_Len c _ W (cell_keep hLen hW.low) hW.base | apply hFr W hW.low hW.base) (k := ?_)))
  have e0 : (rgs es).drop es.length = [] := by simp [rgs]
  refine C.loopw (Y := Nat × Nat × Nat × List Value) (fun k => [(3, .slice (some ⟨k.2.1, 0, none⟩) ((rgs es).drop k.1).reverse.length k.2.2.1), (4, curV es k.1)]) (fun k => [(k.2.1, rblk ((rgs es).drop k.1).reverse k.2.2.2)])
    (fun k => k.1 ≤ es.length ∧ RSf ((rgs es).drop k.1).reverse k.2.2.1 k.2.2.2) (fun k => k.1) (es.length, b, es.length, rep es.length [.int .i64 0, .int .i64 0]) ⟨Nat.le_refl _, by simp only [e0]; exact ⟨Nat.zero_le _, by omega, by simpa [flat] using rep_two es.length⟩⟩ (h1 := by simp only [e0]; (repeat (first | exact Sub.nil | (apply Sub.cons; exact rfl; (· first | with_reducible rfl | exact congrArg (Value.int IntKind.i64) (by omega) | rfl))))) (h2 := by simp only [e0]; (repeat (first | exact SubH.nil | (apply SubH.cons; (· first | with_reducible rfl | (simp only [List.cons.injEq, Value.int.injEq, and_true, true_and] <;> omega) | rfl)) | apply SubH.skip | exact SubH.refl))) (fun k hy => ?_)
  have hR := hy.2
  have hl : ((rgs es).drop k.1).reverse.length ≤ 1000 := by simp [rgs]; omega
  rcases hm : k.1 with _ | m
  · simp only [hm] at hy hR hl ⊢
    (repeat' (first | intro (b : Nat) | refine go ?_ | (refine br ?_ ?_ <;> first | exact trivial | intro hq)))
    (apply X.retr [(k.2.1, rblk ((rgs es).drop 0).reverse k.2.2.2)]; (· exact rfl); (· (repeat (first | exact RVs.nil | (apply RVs.cons; (· first | exact RV.tmp rfl | (apply RV.cellk; exact rfl; (· (repeat (first | exact List.Mem.head _ | apply List.Mem.tail))); (· (repeat (first | exact Rd.nil | apply Rd.take | apply Rd.skip)))) | (apply RV.cell1; exact rfl; (· (repeat (first | exact List.Mem.head _ | apply List.Mem.tail))); (· (repeat (first | exact Rd.nil | apply Rd.take | apply Rd.skip))))))))); (· (repeat (first | exact SubH.nil | (apply SubH.cons; (· first | with_reducible rfl | (simp only [List.cons.injEq, Value.int.injEq, and_true, true_and] <;> omega) | rfl)) | apply SubH.skip | exact SubH.refl))))
    exact ⟨k.2.1, k.2.2.1, k.2.2.2, rfl, rfl, hR⟩
  · simp only [hm] at hy hR hl ⊢
    have e := rgs_drop (es := es) (m := m) (by omega)
    have hx : es[m]? = some (es.getD m (0, .nilIface, (0, 0))) := by
      have : m < es.length := by omega
      simp [List.getD, this]
    have h1 := hC.own _ (List.Mem.tail _ (chLink_mem c es (pB c) m _ hx))
    have h3 : w.cell? ⟨(es.getD m (0, .nilIface, (0, 0))).1, 0 + 3, none⟩ = some (rV (es.getD m (0, .nilIface, (0, 0))).2.2) := cell_heap h1 rfl
    have hN : ∀ W, Below w.heap.size w W → D.Base W → Calls Try.prog 38 #[pB (es.getD m (0, .nilIface, (0, 0))).1] W fun e w' => e = .returned (curV es m) ∧ Below W.heap.size W w' := fun W hW hb => a_NextC c m es (by omega) W (hC.keep hW) hb
    have hcur : curV es (m + 1) = pB (es.getD m (0, .nilIface, (0, 0))).1 := rfl
    rw [hcur]
    generalize es.getD m (0, .nilIface, (0, 0)) = x at *
    generalize ((rgs es).drop (m + 1)).reverse = M at *
    (repeat' (first | intro (b : Nat) | refine go ?_ | (refine br ?_ ?_ <;> first | exact trivial | intro hq)))
    refine L.rapp (r := x.2.2) hR (hb := by omega) (kk := ?_)
    intro b' c' pad' hR'
    simp only [List.cons_append, List.nil_append]
    (repeat' (first | intro (b : Nat) | refine go ?_ | (refine br ?_ ?_ <;> first | exact trivial | intro hq) | refine L.call (h := by intro W hW; apply hN W hW.low hW.base) (k := ?_)))
    (refine X.roundw (m, b', c', pad') ⟨by simp only; omega, by simp only [e]; exact hR'⟩ (by simp only; omega) (h3 := by simp only [e, List.length_append, List.length_cons, List.length_nil]; (repeat (first | exact Sub.nil | (apply Sub.cons; exact rfl; (· first | with_reducible rfl | exact congrArg (Value.int IntKind.i64) (by omega) | rfl))))) (h4 := by simp only [e]; (repeat (first | exact SubH.nil | (apply SubH.cons; (· first | with_reducible rfl | (simp only [List.cons.injEq, Value.int.injEq, and_true, true_and] <;> omega) | rfl)) | apply SubH.skip | exact SubH.refl))))

theorem rgs_len (es : List Lk) : (rgs es).length = es.length := by simp [rgs]

/-- The chain's ranges, from the first on. -/
theorem a_allR (c : Nat) (es : List Lk) (xs : List Rg) (hx : rgs es = xs.reverse) (hlen : xs.length ≤ 1000) (w : World) (hC : ChAt w c es) (hb : D.Base w) : Calls Try.prog 26 #[pB c] w (Ret w (RS xs)) := by
  have := a_all c es (by have := rgs_len es; rw [hx] at this; simp at this; omega) w hC hb
  rwa [hx, List.reverse_reverse] at this

end D
end Go.Proofs.Ytmohggeeedncoaa
