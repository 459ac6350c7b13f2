/- The engine, part 11: a region whose order is drawn, walked in every order its edges allow (for small regions). -/
import Derived.Test.YtpodhahlbdlgeaaDoorEw
namespace Go.Proofs.YtpodhahlbdlgeaaDoor
set_option linter.unusedVariables false
set_option linter.unusedSimpArgs false
namespace D
open Go.RowKit

variable {P : Program} {n : Nat} {ds : List Deferred} {w0 : World} {ops : List Oper} {Q : Exit → Act → World → Prop} {e : Env} {hs : SH} {fuel : Nat} {bits : List Bool}

/-- The run from a set of operations that are done, in every order. -/
structure A (P : Program) (n : Nat) (ds : List Deferred) (w0 : World) (ops : List Oper) (Q : Exit → Act → World → Prop) (fuel : Nat) (bits : List Bool) (e : Env) (hs : SH) : Prop where
  ok : ∀ a w, At n ds e a → St w0 hs w → wpAny P .any ops.toArray Q fuel bits.toArray a w
theorem C.any {id : Nat} (hm : P.follows .mixedOrders = true := by kernel_rfl) (h : A P n ds w0 ops Q ops.length (List.replicate ops.length false) e hs) : C P n ds w0 Q (.region id ops.toArray true) e hs := .mk fun a w ha hst => by
  refine wp_region_any hm ?_
  have := h.ok a w.drew ha hst.drew
  simpa using this
/-- What may come next. -/
def okAt (ops : List Oper) (bits : List Bool) (i : Nat) : Bool :=
  match nthL ops i with
  | some o => !(bits.getD i true) && o.after.toList.all fun e => !Region.binds .any e || bits.getD e.on false
  | none => false
def rdy (ops : List Oper) (bits : List Bool) : List Nat := (List.range ops.length).filter (okAt ops bits)
theorem nthL_of {α : Type} : ∀ {l : List α} {i : Nat} {x : α}, l[i]? = some x → nthL l i = some x
  | [], _, _, h => by simp at h
  | a :: r, 0, x, h => by simpa [nthL] using h
  | a :: r, i + 1, x, h => by simpa [nthL] using nthL_of (l := r) (by simpa using h)
theorem mem_rdy {i : Nat} : i ∈ Region.ready .any ops.toArray bits.toArray ↔ i ∈ rdy ops bits := by
  rw [mem_ready, rdy, List.mem_filter, List.mem_range]
  constructor
  · rintro ⟨h1, o, ho, h2⟩
    have ho' : ops[i]? = some o := by simpa using ho
    refine ⟨(List.getElem?_eq_some_iff.1 ho').1, ?_⟩
    unfold okAt
    rw [nthL_of ho']
    simp only [Bool.and_eq_true, Bool.not_eq_true', List.all_eq_true, Bool.or_eq_true]
    refine ⟨by simpa using h1, fun e he => ?_⟩
    cases hb : Region.binds .any e with
    | false => exact .inl rfl
    | true => exact .inr (by simpa using h2 e (by simpa using he) hb)
  · rintro ⟨h1, h2⟩
    unfold okAt at h2
    split at h2
    · rename_i o ho
      have ho' := nthL_some ho
      simp only [Bool.and_eq_true, Bool.not_eq_true', List.all_eq_true, Bool.or_eq_true] at h2
      refine ⟨by simpa using h2.1, o, by simpa using ho', fun e he hb => ?_⟩
      rcases h2.2 e (by simpa using he) with h | h
      · rw [hb] at h; cases h
      · simpa using h
    · cases h2
theorem wpOp_of {K : Act → World → Prop} {i : Nat} {o : Oper} (ho : ops[i]? = some o) {a : Act} {w : World} (h : wpList P ops.toArray (Exit.then K Q) [o] a w) : wpOp P ops.toArray Q i K a w := by
  have ho' : ops.toArray[i]? = some o := by simpa using ho
  unfold wpOp
  simp only [ho']
  unfold wpList at h
  split
  · rename_i hw
    rw [if_pos hw] at h
    rcases h with h | h
    · left
      unfold Oper.wp at h ⊢
      generalize (execOp a.eval o).run P w = r at h ⊢
      cases r with
      | halt x w' => cases x <;> exact h
      | ok x w' => cases x <;> exact h
    · exact .inr h
  · rename_i hw
    rw [if_neg hw] at h
    exact h
theorem A.step {is : List Nat} (hr : rdy ops bits = is) (hne : is ≠ []) (h : ∀ i ∈ is, ∃ o, nthL ops i = some o ∧ L P n ds w0 ops (Exit.then (fun a w => wpAny P .any ops.toArray Q fuel (bits.set i true).toArray a w) Q) [o] e hs) : A P n ds w0 ops Q (fuel + 1) bits e hs := .mk fun a w ha hst => by
  refine ⟨fun h0 => ?_, fun i hi => ?_⟩
  · exfalso
    cases is with
    | nil => exact hne rfl
    | cons i r =>
      have : i ∈ Region.ready .any ops.toArray bits.toArray := mem_rdy.2 (by rw [hr]; exact List.Mem.head _)
      rw [h0] at this
      cases this
  · obtain ⟨o, ho, hl⟩ := h i (by rw [← hr]; exact mem_rdy.1 hi)
    have := wpOp_of (Q := Q) (nthL_some ho) (hl.ok a w ha hst)
    simpa using this
theorem A.r1 {i : Nat} {o : Oper} (hr : rdy ops bits = [i] := by exact rfl) (ho : nthL ops i = some o := by exact rfl) (h : L P n ds w0 ops (Exit.then (fun a w => wpAny P .any ops.toArray Q fuel (bits.set i true).toArray a w) Q) [o] e hs) : A P n ds w0 ops Q (fuel + 1) bits e hs :=
  A.step hr (by simp) fun k hk => by obtain rfl : k = i := by simpa using hk
                                     exact ⟨o, ho, h⟩
theorem A.r2 {i j : Nat} {o o' : Oper} (hr : rdy ops bits = [i, j] := by exact rfl) (ho : nthL ops i = some o := by exact rfl) (ho' : nthL ops j = some o' := by exact rfl) (h : L P n ds w0 ops (Exit.then (fun a w => wpAny P .any ops.toArray Q fuel (bits.set i true).toArray a w) Q) [o] e hs)
    (h' : L P n ds w0 ops (Exit.then (fun a w => wpAny P .any ops.toArray Q fuel (bits.set j true).toArray a w) Q) [o'] e hs) : A P n ds w0 ops Q (fuel + 1) bits e hs :=
  A.step hr (by simp) fun k hk => by
    rcases (by simpa using hk : k = i ∨ k = j) with rfl | rfl
    · exact ⟨o, ho, h⟩
    · exact ⟨o', ho', h'⟩
theorem A.r3 {i j l : Nat} {o o' o'' : Oper} (hr : rdy ops bits = [i, j, l] := by exact rfl) (ho : nthL ops i = some o := by exact rfl) (ho' : nthL ops j = some o' := by exact rfl) (ho'' : nthL ops l = some o'' := by exact rfl) (h : L P n ds w0 ops (Exit.then (fun a w => wpAny P .any ops.toArray Q fuel (bits.set i true).toArray a w) Q) [o] e hs)
    (h' : L P n ds w0 ops (Exit.then (fun a w => wpAny P .any ops.toArray Q fuel (bits.set j true).toArray a w) Q) [o'] e hs) (h'' : L P n ds w0 ops (Exit.then (fun a w => wpAny P .any ops.toArray Q fuel (bits.set l true).toArray a w) Q) [o''] e hs) : A P n ds w0 ops Q (fuel + 1) bits e hs :=
  A.step hr (by simp) fun k hk => by
    rcases (by simpa using hk : k = i ∨ k = j ∨ k = l) with rfl | rfl | rfl
    · exact ⟨o, ho, h⟩
    · exact ⟨o', ho', h'⟩
    · exact ⟨o'', ho'', h''⟩
theorem A.done (hr : rdy ops bits = [] := by exact rfl) (k : X n ds w0 Q .normal e hs) : A P n ds w0 ops Q fuel bits e hs := .mk fun a w ha hst => by
  have h0 : Region.ready .any ops.toArray bits.toArray = [] := by
    rw [List.eq_nil_iff_forall_not_mem]
    intro i hi
    have := mem_rdy.1 hi
    rw [hr] at this
    cases this
  cases fuel with
  | zero => exact ⟨h0, k.ok a w ha hst⟩
  | succ f => exact ⟨fun _ => k.ok a w ha hst, by rw [h0]; simp⟩
theorem X.then_any (h : A P n ds w0 ops Q fuel bits e hs) : X n ds w0 (Exit.then (fun a w => wpAny P .any ops.toArray Q fuel bits.toArray a w) Q) .normal e hs := .mk fun a w ha hst => h.ok a w ha hst

end D
end Go.Proofs.YtpodhahlbdlgeaaDoor
