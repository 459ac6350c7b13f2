/- The engine, part 11: a region whose order is drawn, walked in every order its edges allow (for small regions). -/
import Derived.Test.YtboglbdhibcacaaGreatDoorVb
import Derived.Laws.AppendOwn
import Derived.Laws.Strings
import Derived.Laws.Strings2
import Derived.Laws.Strings3
import Derived.Laws.Concat
import Derived.Laws.BytesString
import Derived.Laws.BytesArg
import Derived.PlainAid
import Derived.Laws.MakeOwn
import Derived.LoopN
import Derived.Recover
import Derived.MapKept
import Derived.Lib.UnsafeStr
namespace Go.Proofs.YtboglbdhibcacaaGreatDoor
set_option linter.unusedVariables false
set_option linter.unusedSimpArgs false
namespace D
open Go.RowKit

variable {P : Program} {n : Nat} {ds : List Deferred} {w0 : World} {ops : List Oper} {Q : Exit → Act → World → Prop} {e : Env} {hs : SH} {fuel : Nat} {bits : List Bool}

/-- The run from a set of operations that are done, in every order. -/
structure A (P : Program) (n : Nat) (ds : List Deferred) (w0 : World) (ops : List Oper) (Q : Exit → Act → World → Prop) (fuel : Nat) (bits : List Bool) (e : Env) (hs : SH) : Prop where
  ok : ∀ a w, At n ds e a → St w0 hs w → wpAny P .any ops.toArray Q fuel bits.toArray a w
theorem C.any {id : Nat} (hm : P.follows .mixedOrders = true := by kernel_rfl) (h : A P n ds w0 ops Q ops.length (List.replicate ops.length false) e hs) : C P n ds w0 Q (.region id ops.toArray true) e hs := .mk fun a w ha hst => by
  refine wp_region_any hm ?_
  have := h.ok a w.drew ha hst.drew
  simpa using this
/-- What may come next. -/
def okAt (ops : List Oper) (bits : List Bool) (i : Nat) : Bool :=
  match nthL ops i with
  | some o => !(bits.getD i true) && o.after.toList.all fun e => !Region.binds .any e || bits.getD e.on false
  | none => false
def rdy (ops : List Oper) (bits : List Bool) : List Nat := (List.range ops.length).filter (okAt ops bits)
theorem nthL_of {α : Type} : ∀ {l : List α} {i : Nat} {x : α}, l[i]? = some x → nthL l i = some x
  | [], _, _, h => by simp at h
  | a :: r, 0, x, h => by simpa [nthL] using h
  | a :: r, i + 1, x, h => by simpa [nthL] using nthL_of (l := r) (by simpa using h)
theorem mem_rdy {i : Nat} : i ∈ Region.ready .any ops.toArray bits.toArray ↔ i ∈ rdy ops bits := by
  rw [mem_ready, rdy, List.mem_filter, List.mem_range]
  constructor
  · rintro ⟨h1, o, ho, h2⟩
    have ho' : ops[i]? = some o := by simpa using ho
    refine ⟨(List.getElem?_eq_some_iff.1 ho').1, ?_⟩
    unfold okAt
    rw [nthL_of ho']
    simp only [Bool.and_eq_true, Bool.not_eq_true', List.all_eq_true, Bool.or_eq_true]
    refine ⟨by simpa using h1, fun e he => ?_⟩
    cases hb : Region.binds .any e with
    | false => exact .inl rfl
    | true => exact .inr (by simpa using h2 e (by simpa using he) hb)
  · rintro ⟨h1, h2⟩
    unfold okAt at h2
    split at h2
    · rename_i o ho
      have ho' := nthL_some ho
      simp only [Bool.and_eq_true, Bool.not_eq_true', List.all_eq_true, Bool.or_eq_true] at h2
      refine ⟨by simpa using h2.1, o, by simpa using ho', fun e he hb => ?_⟩
      rcases h2.2 e (by simpa using he) with h | h
      · rw [hb] at h; cases h
      · simpa using h
    · cases h2
theorem wpOp_of {K : Act → World → Prop} {i : Nat} {o : Oper} (ho : ops[i]? = some o) {a : Act} {w : World} (h : wpList P ops.toArray (Exit.then K Q) [o] a w) : wpOp P ops.toArray Q i K a w := by
  have ho' : ops.toArray[i]? = some o := by simpa using ho
  unfold wpOp
  simp only [ho']
  unfold wpList at h
  split
  · rename_i hw
    rw [if_pos hw] at h
    rcases h with h | h
    · left
      unfold Oper.wp at h ⊢
      generalize (execOp a.eval o).run P w = r at h ⊢
      cases r with
      | halt x w' => cases x <;> exact h
      | ok x w' => cases x <;> exact h
    · exact .inr h
  · rename_i hw
    rw [if_neg hw] at h
    exact h
theorem A.step {is : List Nat} (hr : rdy ops bits = is) (hne : is ≠ []) (h : ∀ i ∈ is, ∃ o, nthL ops i = some o ∧ L P n ds w0 ops (Exit.then (fun a w => wpAny P .any ops.toArray Q fuel (bits.set i true).toArray a w) Q) [o] e hs) : A P n ds w0 ops Q (fuel + 1) bits e hs := .mk fun a w ha hst => by
  refine ⟨fun h0 => ?_, fun i hi => ?_⟩
  · exfalso
    cases is with
    | nil => exact hne rfl
    | cons i r =>
      have : i ∈ Region.ready .any ops.toArray bits.toArray := mem_rdy.2 (by rw [hr]; exact List.Mem.head _)
      rw [h0] at this
      cases this
  · obtain ⟨o, ho, hl⟩ := h i (by rw [← hr]; exact mem_rdy.1 hi)
    have := wpOp_of (Q := Q) (nthL_some ho) (hl.ok a w ha hst)
    simpa using this
theorem A.r1 {i : Nat} {o : Oper} (hr : rdy ops bits = [i] := by exact rfl) (ho : nthL ops i = some o := by exact rfl) (h : L P n ds w0 ops (Exit.then (fun a w => wpAny P .any ops.toArray Q fuel (bits.set i true).toArray a w) Q) [o] e hs) : A P n ds w0 ops Q (fuel + 1) bits e hs :=
  A.step hr (by simp) fun k hk => by obtain rfl : k = i := by simpa using hk
                                     exact ⟨o, ho, h⟩
theorem A.r2 {i j : Nat} {o o' : Oper} (hr : rdy ops bits = [i, j] := by exact rfl) (ho : nthL ops i = some o := by exact rfl) (ho' : nthL ops j = some o' := by exact rfl) (h : L P n ds w0 ops (Exit.then (fun a w => wpAny P .any ops.toArray Q fuel (bits.set i true).toArray a w) Q) [o] e hs)
    (h' : L P n ds w0 ops (Exit.then (fun a w => wpAny P .any ops.toArray Q fuel (bits.set j true).toArray a w) Q) [o'] e hs) : A P n ds w0 ops Q (fuel + 1) bits e hs :=
  A.step hr (by simp) fun k hk => by
    rcases (by simpa using hk : k = i ∨ k = j) with rfl | rfl
    · exact ⟨o, ho, h⟩
    · exact ⟨o', ho', h'⟩
theorem A.r3 {i j l : Nat} {o o' o'' : Oper} (hr : rdy ops bits = [i, j, l] := by exact rfl) (ho : nthL ops i = some o := by exact rfl) (ho' : nthL ops j = some o' := by exact rfl) (ho'' : nthL ops l = some o'' := by exact rfl) (h : L P n ds w0 ops (Exit.then (fun a w => wpAny P .any ops.toArray Q fuel (bits.set i true).toArray a w) Q) [o] e hs)
    (h' : L P n ds w0 ops (Exit.then (fun a w => wpAny P .any ops.toArray Q fuel (bits.set j true).toArray a w) Q) [o'] e hs) (h'' : L P n ds w0 ops (Exit.then (fun a w => wpAny P .any ops.toArray Q fuel (bits.set l true).toArray a w) Q) [o''] e hs) : A P n ds w0 ops Q (fuel + 1) bits e hs :=
  A.step hr (by simp) fun k hk => by
    rcases (by simpa using hk : k = i ∨ k = j ∨ k = l) with rfl | rfl | rfl
    · exact ⟨o, ho, h⟩
    · exact ⟨o', ho', h'⟩
    · exact ⟨o'', ho'', h''⟩
theorem A.done (hr : rdy ops bits = [] := by exact rfl) (k : X n ds w0 Q .normal e hs) : A P n ds w0 ops Q fuel bits e hs := .mk fun a w ha hst => by
  have h0 : Region.ready .any ops.toArray bits.toArray = [] := by
    rw [List.eq_nil_iff_forall_not_mem]
    intro i hi
    have := mem_rdy.1 hi
    rw [hr] at this
    cases this
  cases fuel with
  | zero => exact ⟨h0, k.ok a w ha hst⟩
  | succ f => exact ⟨fun _ => k.ok a w ha hst, by rw [h0]; simp⟩
theorem X.then_any (h : A P n ds w0 ops Q fuel bits e hs) : X n ds w0 (Exit.then (fun a w => wpAny P .any ops.toArray Q fuel bits.toArray a w) Q) .normal e hs := .mk fun a w ha hst => h.ok a w ha hst

end D
end Go.Proofs.YtboglbdhibcacaaGreatDoor

namespace Go.Proofs.YtboglbdhibcacaaGreatDoor
set_option linter.unusedVariables false
set_option linter.unusedSimpArgs false
namespace D
open Go.RowKit

variable {P : Program} {e : Env} {w0 : World} {hs : SH} {d : Option Tmp} {ty : TypeId} {pos : String} {af : Array Edge} {g : Option (Nat × Bool)}

/-- A slice that the call owns: its cells, its value, and the block it lies in (none if it is nil). -/
def SlS (T : TypeId) (sz n : Nat) (xs : List Value) (v : Value) (H : SH) : Prop :=
  (v = .slice none 0 0 ∧ n = 0 ∧ xs = [] ∧ H = []) ∨
  ∃ (b cap : Nat) (pad : List Value), v = .slice (some ⟨b, 0, none⟩) n cap ∧ H = [(b, .cells T (xs ++ pad))] ∧ n ≤ cap ∧ cap ≤ 9223372036854775807 ∧ (xs ++ pad).length = cap * sz ∧ xs.length = n * sz
theorem SlS.nil {T : TypeId} {sz : Nat} : SlS T sz 0 [] (.slice none 0 0) [] := .inl ⟨rfl, rfl, rfl, rfl⟩
theorem SlS.len {T : TypeId} {sz n : Nat} {xs : List Value} {v : Value} {H : SH} (h : SlS T sz n xs v H) : xs.length = n * sz := by
  rcases h with ⟨_, rfl, rfl, _⟩ | ⟨b, cap, pad, _, _, _, _, _, h⟩
  · simp
  · exact h
/-- What a slice type's elements are. -/
class Ap (P : Program) (t : TypeId) (T sz bytes : outParam Nat) : Prop where
  ok : P.underlying t = some (.slice T)
  info : (P.info? T).map (fun i => (i.size, i.bytes, i.zero.map fun z => z.cells.size)) = some (sz, bytes, some sz)
  pos : 0 < sz
theorem Ap.get {t T sz bytes : Nat} (i : Ap P t T sz bytes) : ∃ (j : TypeInfo) (z : Value), P.info? T = some j ∧ j.zero = some z ∧ j.size = sz ∧ j.bytes = bytes ∧ z.cells.size = sz := by
  have h := i.info
  cases hq : P.info? T with
  | none => simp [hq] at h
  | some j =>
    cases hz : j.zero with
    | none => simp [hq, hz] at h
    | some z =>
      simp only [hq, Option.map_some, hz, Option.some.injEq, Prod.mk.injEq] at h
      exact ⟨j, z, rfl, hz, h.1, h.2.1, h.2.2⟩
theorem Upd.tail {b : Nat} {o n : Blk} : ∀ (F : SH), Upd b o n (F ++ [(b, o)]) (F ++ [(b, n)])
  | [] => .here
  | _ :: r => .there (Upd.tail r)
theorem toArr (xs : List Value) (a : Array Value) : (xs ++ a.toList).toArray = xs.toArray ++ a := by
  apply Array.ext'
  simp
/-- A new block behind a draw. -/
theorem St.drewAlloc {w : World} {F : SH} (h : St w0 F w) (T : TypeId) (cs : List Value) : St w0 (F ++ [(w.heap.size, .cells T cs)]) (w.drew.alloc (.cells cs.toArray T)) :=
  (h.drew.new (New.alloc w.drew (.cells T cs))).perm List.perm_append_comm
theorem run_app {t T sz bytes : Nat} [i : Ap P t T sz bytes] {w : World} {F H : SH} (hst : St w0 (F ++ H) w) {xs news : List Value} {n m b o c : Nat} {v : Value} (hS : SlS T sz n xs v H) (hl : news.length = m * sz)
    (hnews : ∀ j u, news[j]? = some u → w.cell? ⟨b, o + j, none⟩ = some u) (h1 : ∀ u ∈ news, u.oneCell' = true) (hb : (n + m) * bytes ≤ 140737488355328) (h63 : n + m ≤ 9223372036854775807) :
    ∃ v' H' w', (Builtin.append_ #[t, t] ty #[v, .slice (some ⟨b, o, none⟩) m c]).run P w = .ok v' w' ∧ SlS T sz (n + m) (xs ++ news) v' H' ∧ St w0 (F ++ H') w' := by
  obtain ⟨j, z, hj, hz, hsz, hby, hzs⟩ := i.get
  have hpos := i.pos
  subst hsz
  subst hby
  have hnews' : ∀ k u, news[k]? = some u → w.cell? ((⟨b, o, none⟩ : Addr).add k) = some u := fun k u hk => by rw [add_plain]; exact hnews k u hk
  have hm : maxLen = 9223372036854775807 := rfl
  rcases hS with ⟨rfl, rfl, rfl, rfl⟩ | ⟨g, cap, pad, rfl, rfl, h2, h3, h4, h5⟩
  · simp only [Nat.zero_add] at hb h63 ⊢
    by_cases hm0 : m = 0
    · subst hm0
      have hn : news = [] := List.eq_nil_of_length_eq_zero (by simpa using hl)
      subst hn
      refine ⟨.slice none 0 0, [], w, ?_, .inl ⟨rfl, rfl, rfl, rfl⟩, hst⟩
      simp [Builtin.append_, run_underlying i.ok, sizeOf, typeInfo, hj, Builtin.lenOf, Builtin.firstCells, loadCells, loadCellsFrom]
    · have hr := run_append_nil (P := P) w t ty T j z i.ok hj hz ⟨b, o, none⟩ m c news hl hnews' (by omega) (by omega) (by omega)
      have hge := grownCap_ge w m 0 T
      have hle := grownCap_le_maxLen w m 0 T (by omega)
      refine ⟨_, [(w.heap.size, .cells T (news ++ (Builtin.zeroCells z.cells (grownCap w m 0 T - m)).toList))], _, hr, .inr ⟨_, _, (Builtin.zeroCells z.cells (grownCap w m 0 T - m)).toList, rfl, rfl, hge, by omega, ?_, by simpa using hl⟩, ?_⟩
      · simp only [List.nil_append, List.length_append, Array.length_toList, size_zeroCells, hzs, hl, ← Nat.add_mul]
        congr 1; omega
      · have := (St.drewAlloc (F := F) (by simpa using hst) T (news ++ (Builtin.zeroCells z.cells (grownCap w m 0 T - m)).toList))
        rwa [toArr] at this
  · have hmem : (g, Blk.cells T (xs ++ pad)) ∈ F ++ [(g, Blk.cells T (xs ++ pad))] := List.mem_append_right _ (List.Mem.head _)
    have hheap := hst.heap hmem
    by_cases hroom : n + m ≤ cap
    · have hmul : (n + m) * j.size ≤ cap * j.size := Nat.mul_le_mul_right _ hroom
      rw [Nat.add_mul, ← hl, ← h5, ← h4] at hmul
      have hr := run_append_room (P := P) w t ty T j i.ok hj g n cap (xs ++ pad).toArray hheap ⟨b, o, none⟩ m c news hl hnews' h1 hroom (by rw [← h5]; simpa using hmul)
      refine ⟨_, [(g, .cells T (xs ++ news ++ pad.drop news.length))], _, hr, .inr ⟨_, _, _, rfl, rfl, hroom, h3, ?_, ?_⟩, ?_⟩
      · rw [← h4]
        simp only [List.length_append, List.length_drop] at hmul ⊢
        omega
      · rw [List.length_append, h5, hl, Nat.add_mul]
      · have hu := hst.setRow (vs' := xs ++ news ++ pad.drop news.length) (Upd.tail F)
        have e1 : (xs ++ pad).toArray.toList.take (n * j.size) ++ news ++ (xs ++ pad).toArray.toList.drop (n * j.size + news.length) = xs ++ news ++ pad.drop news.length := by
          rw [← h5]
          simp [List.drop_append]
        rw [e1]
        exact hu
    · have holds : ∀ k u, xs[k]? = some u → w.cell? ((⟨g, 0, none⟩ : Addr).add k) = some u := fun k u hk => by
        rw [add_plain, Nat.zero_add]
        exact hst.cell hmem (by rw [List.getElem?_append_left (List.getElem?_eq_some_iff.1 hk).1]; exact hk)
      have hr := run_append_grow (P := P) w t ty T j z i.ok hj hz ⟨g, 0, none⟩ n cap xs h5 holds ⟨b, o, none⟩ m c news hl hnews' (by omega) (by omega) (growslice_fits (by omega) hb)
      have hge := grownCap_ge w (n + m) cap T
      have hle := grownCap_le_maxLen w (n + m) cap T (by omega)
      refine ⟨_, [(w.heap.size, .cells T (xs ++ news ++ (Builtin.zeroCells z.cells (grownCap w (n + m) cap T - (n + m))).toList))], _, hr, .inr ⟨_, _, _, rfl, rfl, hge, by omega, ?_, ?_⟩, ?_⟩
      · simp only [List.length_append, Array.length_toList, size_zeroCells, hzs, hl, h5, ← Nat.add_mul]
        congr 1; omega
      · rw [List.length_append, h5, hl, Nat.add_mul]
      · have := (St.drewAlloc (F := F) (hst.sub (List.sublist_append_left _ _)) T (xs ++ news ++ (Builtin.zeroCells z.cells (grownCap w (n + m) cap T - (n + m))).toList))
        rw [toArr] at this
        simpa using this

/-- A list of blocks that ends with another one. -/
inductive Tail (H : SH) : SH → SH → Prop where
  | nil : Tail H [] H
  | cons {x : Nat × Blk} {F r : SH} (h : Tail H F r) : Tail H (x :: F) (x :: r)
theorem Tail.eq {H F r : SH} (h : Tail H F r) : r = F ++ H := by
  induction h with
  | nil => rfl
  | cons _ ih => rw [ih]; rfl

variable {n : Nat} {ds : List Deferred} {ops : List Oper} {Q : Exit → Act → World → Prop} {l : List Oper}
theorem run_builtin {b : Builtin} {xs : List Operand} {ts : Array TypeId} {vs : List Value} {v : Value} {w w' : World} {ρ : Operand → Value} (hf : Fits e ρ) (hv : evs e xs = some vs) (h : ∀ cs, (builtin b ts ty cs vs.toArray).run P w = .ok (.value v) w') :
    (execOp ρ ⟨d, .call ⟨.builtin b, xs.toArray, ts⟩, ty, pos, af, g⟩).run P w = .ok (.value v) w' := by
  have := evs_map hf hv
  simp [execOp, resolve, invoke, this, h]
/-- Append of the cells of a block to a slice that the call owns. -/
theorem L.app {t T sz bytes k m o c b : Nat} {F H : SH} {xs us : List Value} {v : Value} {as : List Operand} [i : Ap P t T sz bytes] (hS : SlS T sz k xs v H)
    (hw : wantE ops e ⟨d, .call ⟨.builtin .append, as.toArray, #[t, t]⟩, ty, pos, af, g⟩ = some true := by exact rfl) (hd : dstOk n d = true := by exact rfl) (hv : evs e as = some [v, .slice (some ⟨b, o, none⟩) m c] := by exact rfl)
    (ht : Tail H F hs := by (repeat (first | exact Tail.nil | apply Tail.cons)))
    (hnews : ∀ w, St w0 hs w → ∀ j u, us[j]? = some u → w.cell? ⟨b, o + j, none⟩ = some u) (hl : us.length = m * sz := by exact rfl) (h1 : ∀ u ∈ us, u.oneCell' = true) (hb : (k + m) * bytes ≤ 140737488355328) (h63 : k + m ≤ 9223372036854775807)
    (kk : ∀ v' H', SlS T sz (k + m) (xs ++ us) v' H' → L P n ds w0 ops Q l (consE d v' e) (F ++ H')) : L P n ds w0 ops Q (⟨d, .call ⟨.builtin .append, as.toArray, #[t, t]⟩, ty, pos, af, g⟩ :: l) e hs :=
  L.does (Y := Value × SH) (Φ := fun y => SlS T sz (k + m) (xs ++ us) y.1 y.2) (V := fun y => y.1) (H := fun y => F ++ y.2) hw hd (fun a w ha hst => by
    obtain ⟨v', H', w', hr, h2, h3⟩ := run_app (P := P) (ty := ty) (t := t) (c := c) (by rw [← ht.eq]; exact hst) hS hl (hnews w hst) h1 hb h63
    exact .of_value (w' := w') (run_builtin ha.fits hv fun cs => by simp [builtin, hr]) ⟨(v', H'), h2, rfl, h3⟩) fun y hy => kk y.1 y.2 hy
/-! ### Cells of blocks of any length -/
theorem OV.loadx {x : Operand} {b o k : Nat} {lt T : TypeId} {vs us : List Value} [Ag P lt k] (hx : ev e x = some (.pointer (some ⟨b, o, none⟩))) (hm : (b, Blk.cells T vs) ∈ hs) (hl : us.length = k) (hv : ∀ j u, us[j]? = some u → vs[o + j]? = some u) :
    OV P ⟨d, .load lt x, ty, pos, af, g⟩ e w0 hs (.agg us.toArray) := .loadW hx fun w hst => run_loadVar_ag hl fun j v hj => hst.cell hm (hv j v hj)
/-- The cells of a list of elements, each of which has as many. -/
def flat {α : Type} (f : α → List Value) (xs : List α) : List Value := (xs.map f).flatten
theorem flat_snoc {α : Type} (f : α → List Value) (xs : List α) (x : α) : flat f (xs ++ [x]) = flat f xs ++ f x := by simp [flat]
theorem flat_length {α : Type} {f : α → List Value} {sz : Nat} (hf : ∀ x, (f x).length = sz) : ∀ xs : List α, (flat f xs).length = xs.length * sz
  | [] => by simp [flat]
  | x :: r => by
    have := flat_length hf r
    simp only [flat, List.map_cons, List.flatten_cons, List.length_append, List.length_cons, Nat.succ_mul] at this ⊢
    rw [hf, this, Nat.add_comm]
theorem flat_get {α : Type} {f : α → List Value} {sz : Nat} (hf : ∀ x, (f x).length = sz) : ∀ (xs : List α) (pad : List Value) (i : Nat) (x : α), xs[i]? = some x → ∀ j u, (f x)[j]? = some u → (flat f xs ++ pad)[i * sz + j]? = some u
  | [], pad, i, x, h => by simp at h
  | y :: r, pad, 0, x, h => fun j u hj => by
    obtain rfl : y = x := by simpa using h
    have hlt := (List.getElem?_eq_some_iff.1 hj).1
    simp only [flat, List.map_cons, List.flatten_cons, Nat.zero_mul, Nat.zero_add, List.append_assoc]
    rw [List.getElem?_append_left hlt]
    exact hj
  | y :: r, pad, i + 1, x, h => fun j u hj => by
    have ih := flat_get hf r pad i x (by simpa using h) j u hj
    simp only [flat, List.map_cons, List.flatten_cons, List.append_assoc] at ih ⊢
    have e1 : (i + 1) * sz + j = (f y).length + (i * sz + j) := by rw [hf, Nat.succ_mul]; omega
    rw [e1, List.getElem?_append_right (by omega), Nat.add_sub_cancel_left]
    exact ih

end D
end Go.Proofs.YtboglbdhibcacaaGreatDoor

namespace Go.Proofs.YtboglbdhibcacaaGreatDoor
set_option linter.unusedVariables false
set_option linter.unusedSimpArgs false
namespace D
open Go.RowKit

variable {P : Program} {e : Env} {w0 : World} {hs : SH} {d : Option Tmp} {ty : TypeId} {pos : String} {af : Array Edge} {g : Option (Nat × Bool)}
variable {n : Nat} {ds : List Deferred} {ops : List Oper} {Q : Exit → Act → World → Prop} {l : List Oper}

/-- A call's end: its value, and the caller's blocks as it leaves them. -/
def Turns (w0 : World) (v : Value) (H : SH) : Ending → World → Prop := fun e w' => e = .returned v ∧ St w0 H w'
theorem L.tcall {f : FuncId} {r : Nat} {T : TypeId} {us : List Value} {B : Blk} {F : SH} {xs : List Operand} {ts : Array TypeId} {vs : List Value} {v : Value} [j : Ent P f]
    (hw : wantE ops e ⟨d, .call ⟨.value (.func f), xs.toArray, ts⟩, ty, pos, af, g⟩ = some true := by exact rfl) (hd : dstOk n d = true := by exact rfl) (hv : evs e xs = some (.pointer (some ⟨r, 0, none⟩) :: vs) := by exact rfl) (hp : Pull (r, .cells T us) hs F := by (repeat (first | exact Pull.here | apply Pull.there)))
    (h : ∀ w, St w0 ((r, .cells T us) :: F) w → Calls P f (.pointer (some ⟨r, 0, none⟩) :: vs).toArray w (Turns w0 v ((r, B) :: F))) (k : L P n ds w0 ops Q l (consE d v e) ((r, B) :: F)) : L P n ds w0 ops Q (⟨d, .call ⟨.value (.func f), xs.toArray, ts⟩, ty, pos, af, g⟩ :: l) e hs :=
  L.does (Y := Unit) (Φ := fun _ => True) (V := fun _ => v) (H := fun _ => (r, B) :: F) hw hd (fun a w ha hst => by
    unfold Does
    rw [run_call ha.fits rfl hv]
    simpa using Calls.mono (h w (hst.perm hp.perm)) fun e' w' ⟨he, hs'⟩ => ⟨v, he, rfl, hs'⟩) fun _ _ => k
theorem rett {fn : Func} {rs : List ResultVar} {vs : List Value} {v : Value} {H : SH} (hv : tupleOf vs = v) (hrs : fn.results = rs.toArray := by exact rfl) (h : RVs P n [] w0 e hs rs vs := by (repeat (first | exact RVs.nil | (apply RVs.cons; (· first | exact RV.tmp rfl | (apply RV.cellk; exact rfl; (· (repeat (first | exact List.Mem.head _ | apply List.Mem.tail))); (· (repeat (first | exact Rd.nil | apply Rd.take | apply Rd.skip)))) | (apply RV.cell1; exact rfl; (· (repeat (first | exact List.Mem.head _ | apply List.Mem.tail))); (· (repeat (first | exact Rd.nil | apply Rd.take | apply Rd.skip)))))))))
    (hs' : H.Sublist hs := by (repeat (first | exact List.Sublist.refl _ | apply List.Sublist.cons_cons | apply List.Sublist.cons))) : X n [] w0 (bodyPost P fn (Turns w0 v H)) .ret e hs :=
  X.body rfl hrs h fun w hst => ⟨by rw [hv], hst.sub hs'⟩

end D
end Go.Proofs.YtboglbdhibcacaaGreatDoor

namespace Go.Proofs.YtboglbdhibcacaaGreatDoor
set_option linter.unusedVariables false
set_option linter.unusedSimpArgs false
namespace D
open Go.RowKit
open Go.PlainAid (bt)

variable {P : Program} {e : Env} {w0 : World} {hs : SH} {d : Option Tmp} {ty : TypeId} {pos : String} {af : Array Edge} {g : Option (Nat × Bool)}

/-! ### Strings -/
theorem size_lit (l : List UInt8) : (⟨l.toArray⟩ : ByteArray).size = l.length := rfl
theorem PV.cat {x y : Operand} {a b : ByteArray} {xt yt : TypeId} (hx : ev e x = some (.string a)) (hy : ev e y = some (.string b)) (h : a.size + b.size ≤ 9223372036854775807) : PV P ⟨d, .binOp .add xt x y yt, ty, pos, af, g⟩ e (.string (a ++ b)) :=
  .bin hx hy (eqGuard_strings _ _ _ _ _ _) fun w => by rw [binOp_string_add, run_string_add_sum w a b h]
theorem bytes_dec (a b : ByteArray) : (a.toList == b.toList) = decide (a = b) := by
  rw [Bool.eq_iff_iff]
  simp only [beq_iff_eq, decide_eq_true_eq, ByteArray.toList_eq]
  exact ⟨fun h => WideShapes.bytes_inj h, fun h => by rw [h]⟩
theorem PV.eqlS {x y : Operand} {a b : ByteArray} {xt yt : TypeId} (hx : ev e x = some (.string a)) (hy : ev e y = some (.string b)) : PV P ⟨d, .binOp .eql xt x y yt, ty, pos, af, g⟩ e (.bool (decide (a = b))) :=
  .bin hx hy (eqGuard_strings _ _ _ _ _ _) fun w => by simp [Go.binOp, Op.stringOp, bytes_dec]
theorem PV.neqS {x y : Operand} {a b : ByteArray} {xt yt : TypeId} (hx : ev e x = some (.string a)) (hy : ev e y = some (.string b)) : PV P ⟨d, .binOp .neq xt x y yt, ty, pos, af, g⟩ e (.bool (!decide (a = b))) :=
  .bin hx hy (eqGuard_strings _ _ _ _ _ _) fun w => by simp [Go.binOp, Op.stringOp, bytes_dec, bne]
theorem PV.idxSt {t : TypeId} {s : ByteArray} {x y : Operand} {kk : IntKind} {k : Int} [i : StT P t] (hx : ev e x = some (.string s)) (hy : ev e y = some (.int kk k)) (h : 0 ≤ k ∧ k < s.size) : PV P ⟨d, .index t x y, ty, pos, af, g⟩ e (.int .u8 (bt s k.toNat)) := .mk fun ρ hf w => by
  have h2 : k.toNat < s.size := by omega
  simp only [execOp, hf x _ hx, hf y _ hy]
  rw [Sem.run_bind, run_index_string w t s kk k i.ok, dif_pos h]
  simp [bt, h2]
theorem PV.slSt {t : TypeId} {s : ByteArray} {x a b : Operand} {ka kb : IntKind} {p q : Int} [i : StT P t] (hx : ev e x = some (.string s)) (ha : ev e a = some (.int ka p)) (hb : ev e b = some (.int kb q)) (h0 : 0 ≤ p) (h1 : p ≤ q) (h2 : q ≤ s.size) :
    PV P ⟨d, .slice t x (some a) (some b) none, ty, pos, af, g⟩ e (.string (s.extract p.toNat q.toNat)) := .mk fun ρ hf w => by
  obtain ⟨p', rfl⟩ := Int.eq_ofNat_of_zero_le h0
  obtain ⟨q', rfl⟩ := Int.eq_ofNat_of_zero_le (show 0 ≤ q by omega)
  have h4 : p' ≤ q' := by omega
  have h5 : q' ≤ s.size := by omega
  simp [execOp, hf x _ hx, hf a _ ha, hf b _ hb, Instr.sliceAt, Instr.slice, run_underlying i.ok, Instr.sliceBounds, run_sliceBound, h4, h5]
theorem PV.slStTo {t : TypeId} {s : ByteArray} {x b : Operand} {kb : IntKind} {q : Int} [i : StT P t] (hx : ev e x = some (.string s)) (hb : ev e b = some (.int kb q)) (h0 : 0 ≤ q) (h2 : q ≤ s.size) :
    PV P ⟨d, .slice t x none (some b) none, ty, pos, af, g⟩ e (.string (s.extract 0 q.toNat)) := .mk fun ρ hf w => by
  simp [execOp, hf x _ hx, hf b _ hb, Instr.sliceAt, Instr.slice, run_underlying i.ok, Instr.sliceBounds, run_sliceBound, h0, h2]
theorem PV.slStFrom {t : TypeId} {s : ByteArray} {x a : Operand} {ka : IntKind} {p : Int} [i : StT P t] (hx : ev e x = some (.string s)) (ha : ev e a = some (.int ka p)) (h0 : 0 ≤ p) (h1 : p ≤ s.size) :
    PV P ⟨d, .slice t x (some a) none none, ty, pos, af, g⟩ e (.string (s.extract p.toNat s.size)) := .mk fun ρ hf w => by
  simp [execOp, hf x _ hx, hf a _ ha, Instr.sliceAt, Instr.slice, run_underlying i.ok, Instr.sliceBounds, run_sliceBound, h0, h1]

/-! ### Bytes -/
class U8 (P : Program) (t : TypeId) : Prop where
  ok : P.underlying t = some (.int .u8)
theorem u8_in {n : Int} (h0 : 0 ≤ n) (h1 : n ≤ 255) : IntKind.u8.wrap n = n := by simp [IntKind.wrap, IntKind.bits, IntKind.signed]; omega
theorem PV.convU8 {x : Operand} {k : IntKind} {m : Int} {st dt : TypeId} [j : Sc P st] [i : U8 P dt] (hx : ev e x = some (.int k m)) (h1 : 0 ≤ m) (h2 : m ≤ 255) : PV P ⟨d, .convert st dt x, ty, pos, af, g⟩ e (.int .u8 m) := .mk fun ρ hf w => by
  obtain ⟨sd, hs, _⟩ := j.ok
  simp [execOp, hf x _ hx, convert, run_underlying hs, run_underlying i.ok, Conv.intToInt, u8_in h1 h2]
theorem PV.subU8 {x y : Operand} {m k : Int} {xt yt : TypeId} (hx : ev e x = some (.int .u8 m)) (hy : ev e y = some (.int .u8 k)) (h1 : 0 ≤ m - k) (h2 : m - k ≤ 255) : PV P ⟨d, .binOp .sub xt x y yt, ty, pos, af, g⟩ e (.int .u8 (m - k)) := by
  have := PV.subw (P := P) (d := d) (ty := ty) (pos := pos) (af := af) (g := g) (xt := xt) (yt := yt) hx hy
  rwa [u8_in h1 h2] at this
theorem PV.addU8 {x y : Operand} {m k : Int} {xt yt : TypeId} (hx : ev e x = some (.int .u8 m)) (hy : ev e y = some (.int .u8 k)) (h1 : 0 ≤ m + k) (h2 : m + k ≤ 255) : PV P ⟨d, .binOp .add xt x y yt, ty, pos, af, g⟩ e (.int .u8 (m + k)) := by
  have := PV.addw (P := P) (d := d) (ty := ty) (pos := pos) (af := af) (g := g) (xt := xt) (yt := yt) hx hy
  rwa [u8_in h1 h2] at this
/-- Bytes of a row of the call's own, as a string. -/
inductive Nums : List Value → List Int → Prop where
  | nil : Nums [] []
  | cons {m : Int} {r : List Value} {ns : List Int} (h : Nums r ns) : Nums (.int .u8 m :: r) (m :: ns)
theorem Nums.eq {vs : List Value} {ns : List Int} (h : Nums vs ns) : vs = ns.map (Value.int .u8) := by
  induction h with
  | nil => rfl
  | cons _ ih => rw [ih]; rfl
theorem OV.strOf {x : Operand} {b o len cap : Nat} {st dt el T : TypeId} {es : Nat} {vs us : List Value} {ns : List Int} [i : SlT P st el es] [k : U8 P el] [j : StT P dt] (hx : ev e x = some (.slice (some ⟨b, o, none⟩) len cap)) (hm : (b, Blk.cells T vs) ∈ hs) (hv : Rd o len vs us) (hn : Nums us ns) :
    OV P ⟨d, .convert st dt x, ty, pos, af, g⟩ e w0 hs (.string (strOfNums ns)) := .mk fun ρ w hf hst => by
  have hl : us.length = len := hv.length
  have hus := hn.eq
  have hlen : ns.length = len := by rw [← hl, hus]; simp
  refine .of_value (w' := w) ?_ ⟨rfl, .refl _⟩
  have := run_convert_bytes_arg (P := P) w st el i.ok k.ok b o len cap ns hlen (fun q hq => by
    refine hst.cell hm (hv.at q _ ?_)
    rw [hus]
    have : q < ns.length := by omega
    simp [List.getD, this]) dt j.ok
  simp [execOp, hf x _ hx, this]

/-! ### Interfaces -/
class Ci (P : Program) (t : TypeId) : Prop where
  ok : ∃ dsc, P.underlying t = some dsc ∧ (match dsc with | .interface _ => true | _ => false) = false
theorem PV.mkIface {x : Operand} {v : Value} {xt : TypeId} [i : Ci P xt] (hx : ev e x = some v) : PV P ⟨d, .makeInterface xt x, ty, pos, af, g⟩ e (.iface xt v) := .mk fun ρ hf w => by
  obtain ⟨dsc, hu, hd⟩ := i.ok
  simp only [execOp, hf x _ hx, Instr.makeInterface]
  cases dsc <;> simp_all [run_underlying hu]
theorem PV.assertT {x : Operand} {t xt : TypeId} {v : Value} [i : Ci P t] (hx : ev e x = some (.iface t v)) : PV P ⟨d, .typeAssert x xt t true, ty, pos, af, g⟩ e (.tuple #[v, .bool true]) := .mk fun ρ hf w => by
  obtain ⟨dsc, hu, hd⟩ := i.ok
  simp only [execOp, hf x _ hx, Instr.typeAssert]
  cases dsc <;> simp_all [run_underlying hu]
theorem PV.assert1 {x : Operand} {t xt : TypeId} {v : Value} [i : Ci P t] (hx : ev e x = some (.iface t v)) : PV P ⟨d, .typeAssert x xt t false, ty, pos, af, g⟩ e v := .mk fun ρ hf w => by
  obtain ⟨dsc, hu, hd⟩ := i.ok
  simp only [execOp, hf x _ hx, Instr.typeAssert]
  cases dsc <;> simp_all [run_underlying hu]
class Zv (P : Program) (t : TypeId) (z : outParam Value) : Prop where
  ok : (P.info? t).bind (·.zero) = some z
theorem PV.assertF {x : Operand} {t t' xt : TypeId} {v z : Value} [i : Ci P t] [k : Zv P t z] (hx : ev e x = some (.iface t' v)) (hne : Nat.beq t' t = false) : PV P ⟨d, .typeAssert x xt t true, ty, pos, af, g⟩ e (.tuple #[z, .bool false]) := .mk fun ρ hf w => by
  obtain ⟨dsc, hu, hd⟩ := i.ok
  have hn := Nat.ne_of_beq_eq_false hne
  have hz : (zeroValue t).run P w = .ok z w := by
    have h := k.ok
    cases hq : P.info? t with
    | none => simp [hq] at h
    | some j => simp [hq] at h; simp [zeroValue, typeInfo, hq, h]
  simp only [execOp, hf x _ hx, Instr.typeAssert]
  cases dsc <;> simp_all [run_underlying hu]
/-- Which function a method of a type is. -/
class Mth (P : Program) (t : TypeId) (v : Value) (name : String) (f : outParam FuncId) (r : outParam Value) : Prop where
  ok : ∀ w, (method (P.types.size + Made.depth) t v name).run P w = .ok (f, r) w
variable {n : Nat} {ds : List Deferred} {ops : List Oper} {Q : Exit → Act → World → Prop} {l : List Oper}
theorem run_inv {f : FuncId} {x : Operand} {xs : List Operand} {ts : Array TypeId} {t : TypeId} {name : String} {v r : Value} {vs : List Value} [i : Ent P f] (m : Mth P t v name f r) {ρ : Operand → Value} (hf : Fits e ρ) (hx : ev e x = some (.iface t v)) (hv : evs e xs = some vs) (w : World) :
    (execOp ρ ⟨d, .call ⟨.invoke x name, xs.toArray, ts⟩, ty, pos, af, g⟩).run P w = .ok (.enter f (r :: vs).toArray) w := by
  have := evs_map hf hv
  simp [execOp, resolve, invoke, callMethod, hf x _ hx, this, m.ok, i.ok]
/-- A method of an interface's value that turns a block of the caller's. -/
theorem L.tinv (b : Nat) {f : FuncId} {x : Operand} {xs : List Operand} {ts : Array TypeId} {t : TypeId} {name : String} {u r : Value} {vs : List Value} {v : Value} {T : TypeId} {us : List Value} {B : Blk} {F : SH} (hw : wantE ops e ⟨d, .call ⟨.invoke x name, xs.toArray, ts⟩, ty, pos, af, g⟩ = some true := by exact rfl) (hd : dstOk n d = true := by exact rfl)
    (hx : ev e x = some (.iface t u) := by exact rfl) (hv : evs e xs = some vs := by exact rfl) (m : Mth P t u name f r := by infer_instance) (j : Ent P f := by infer_instance) (hp : Pull (b, .cells T us) hs F := by (repeat (first | exact Pull.here | apply Pull.there)))
    (h : ∀ w, St w0 ((b, .cells T us) :: F) w → Calls P f (r :: vs).toArray w (Turns w0 v ((b, B) :: F))) (k : L P n ds w0 ops Q l (consE d v e) ((b, B) :: F)) : L P n ds w0 ops Q (⟨d, .call ⟨.invoke x name, xs.toArray, ts⟩, ty, pos, af, g⟩ :: l) e hs :=
  L.does (Y := Unit) (Φ := fun _ => True) (V := fun _ => v) (H := fun _ => (b, B) :: F) hw hd (fun a w ha hst => by
    unfold Does
    rw [run_inv m ha.fits hx hv]
    simpa using Calls.mono (h w (hst.perm hp.perm)) fun e' w' ⟨he, hs'⟩ => ⟨v, he, rfl, hs'⟩) fun _ _ => k
/-- A call that turns a block of the caller's, wherever its pointer stands. -/
theorem L.tcallb (b : Nat) {f : FuncId} {xs : List Operand} {ts : Array TypeId} {vs : List Value} {v : Value} {T : TypeId} {us : List Value} {B : Blk} {F : SH} [j : Ent P f] (hw : wantE ops e ⟨d, .call ⟨.value (.func f), xs.toArray, ts⟩, ty, pos, af, g⟩ = some true := by exact rfl) (hd : dstOk n d = true := by exact rfl)
    (hv : evs e xs = some vs := by exact rfl) (hp : Pull (b, .cells T us) hs F := by (repeat (first | exact Pull.here | apply Pull.there)))
    (h : ∀ w, St w0 ((b, .cells T us) :: F) w → Calls P f vs.toArray w (Turns w0 v ((b, B) :: F))) (k : L P n ds w0 ops Q l (consE d v e) ((b, B) :: F)) : L P n ds w0 ops Q (⟨d, .call ⟨.value (.func f), xs.toArray, ts⟩, ty, pos, af, g⟩ :: l) e hs :=
  L.does (Y := Unit) (Φ := fun _ => True) (V := fun _ => v) (H := fun _ => (b, B) :: F) hw hd (fun a w ha hst => by
    unfold Does
    rw [run_call ha.fits rfl hv]
    simpa using Calls.mono (h w (hst.perm hp.perm)) fun e' w' ⟨he, hs'⟩ => ⟨v, he, rfl, hs'⟩) fun _ _ => k

/-! ### Loops that are unrolled -/
theorem C.rounds {c : Code} (N : Nat) (h : C P n ds w0 (Exit.then (Code.rounds P c Q N) Q) c e hs) : C P n ds w0 Q (.loop c) e hs := .mk fun a w ha hst => wp_loop_rounds (N + 1) (h.ok a w ha hst)
theorem X.then_rounds {c : Code} {N : Nat} (h : C P n ds w0 (Exit.then (Code.rounds P c Q N) Q) c e hs) : X n ds w0 (Exit.then (Code.rounds P c Q (N + 1)) Q) .normal e hs := .mk fun a w ha hst => h.ok a w ha hst

/-! ### Rows that are made -/
theorem madeCells_rep (c : Nat) {z : Array Value} {zs : List Value} (h : z = zs.toArray) : madeCells z (c * zs.length) = (rep c zs).toArray := by
  subst h
  unfold madeCells
  exact rep_range c zs
theorem ON.mkSl {t T sz bytes : Nat} {zs : List Value} {x y : Operand} {kl kc : IntKind} {lo c : Int} [i : Ap P t T sz bytes] [k : BS P t T zs] (hx : ev e x = some (.int kl lo)) (hy : ev e y = some (.int kc c)) (h0 : 0 ≤ lo) (h1 : lo ≤ c) (h2 : (bytes : Int) * c ≤ 281474976710656) (h3 : c ≤ 9223372036854775807) :
    ON P ⟨d, .makeSlice t x y, ty, pos, af, g⟩ e w0 hs (NewSl lo.toNat c.toNat (.cells T (rep c.toNat zs))) := .mk fun ρ w hf hst => by
  obtain ⟨j, z, hj, hz, hsz, hby, hzs⟩ := i.get
  have hk := k.zr
  simp only [hj, Option.bind_some, hz, Option.map_some, Option.some.injEq] at hk
  have hlen : zs.length = j.size := by rw [hsz, ← hzs, hk]; simp
  have hr := run_make (P := P) w t T j z i.ok hj hz kl kc lo c h0 h1 (by rw [hby]; exact h2) h3
  rw [← hlen, madeCells_rep c.toNat hk] at hr
  refine .of_value (w' := w.alloc (.cells (rep c.toNat zs).toArray T)) (v := .slice (some ⟨w.heap.size, 0, none⟩) lo.toNat c.toNat) ?_ ⟨_, ⟨w.heap.size, rfl, rfl⟩, New.alloc w (.cells T (rep c.toNat zs))⟩
  simp [execOp, hf x _ hx, hf y _ hy, hr]

end D
end Go.Proofs.YtboglbdhibcacaaGreatDoor

namespace Go.Proofs.YtboglbdhibcacaaGreatDoor
set_option linter.unusedVariables false
set_option linter.unusedSimpArgs false
namespace D
open Go.RowKit

/-- A method of an interface's value that returns a new row. -/
theorem L.invsl {P : Program} {e : Env} {w0 : World} {hs : SH} {d : Option Tmp} {ty : TypeId} {pos : String} {af : Array Edge} {g : Option (Nat × Bool)} {n : Nat} {ds : List Deferred} {ops : List Oper} {Q : Exit → Act → World → Prop} {l : List Oper}
    {f : FuncId} {x : Operand} {xs : List Operand} {ts : Array TypeId} {t : TypeId} {name : String} {u r : Value} {vs : List Value} {len c : Nat} {B : Blk} (hw : wantE ops e ⟨d, .call ⟨.invoke x name, xs.toArray, ts⟩, ty, pos, af, g⟩ = some true := by exact rfl) (hd : dstOk n d = true := by exact rfl)
    (hx : ev e x = some (.iface t u) := by exact rfl) (hv : evs e xs = some vs := by exact rfl) (m : Mth P t u name f r := by infer_instance) (j : Ent P f := by infer_instance)
    (h : ∀ w, St w0 hs w → Calls P f (r :: vs).toArray w (Ret w (NewSl len c B))) (k : ∀ b : Nat, L P n ds w0 ops Q l (consE d (.slice (some ⟨b, 0, none⟩) len c) e) ((b, B) :: hs)) : L P n ds w0 ops Q (⟨d, .call ⟨.invoke x name, xs.toArray, ts⟩, ty, pos, af, g⟩ :: l) e hs :=
  L.nsl hw hd (.mk fun ρ w hf hst => by
    unfold Does
    rw [run_inv m hf hx hv]
    simpa using Calls.mono (h w hst) fun e' w' ⟨v, H, he, hR, hn⟩ => ⟨v, he, H, hR, hn⟩) k

section
variable {P : Program} {e : Env} {w0 : World} {hs : SH} {d : Option Tmp} {ty : TypeId} {pos : String} {af : Array Edge} {g : Option (Nat × Bool)}
variable {n : Nat} {ops : List Oper} {l : List Oper} {Rs : List Sp} {K : Env → SH → Prop} {i : Nat} {acc : List (Nat × SH)} {own : SH} {Z : Lend}
theorem G.slcall {f : FuncId} {xs : List Operand} {ts : Array TypeId} {vs : List Value} {len c : Nat} {B : Blk} [j : Ent P f] (hw : wantE ops e ⟨d, .call ⟨.value (.func f), xs.toArray, ts⟩, ty, pos, af, g⟩ = some true := by exact rfl) (hd : dstOk n d = true := by exact rfl) (hv : evs e xs = some vs := by exact rfl)
    (h : ∀ w, St w0 hs w → Calls P f vs.toArray w (Ret w (NewSl len c B))) (k : ∀ b : Nat, G P n w0 Z ops hs K (i + 1) l Rs (consE d (.slice (some ⟨b, 0, none⟩) len c) e) ((i, [(b, B)]) :: acc) ((b, B) :: own)) :
    G P n w0 Z ops hs K i (⟨d, .call ⟨.value (.func f), xs.toArray, ts⟩, ty, pos, af, g⟩ :: l) (some (NewSl len c B) :: Rs) e acc own :=
  G.nsl hw hd (ON.call hv h) k
/-- A call that looks at memory that the region itself has made. -/
theorem G.calld (X : SH) {f : FuncId} {xs : List Operand} {ts : Array TypeId} {vs : List Value} {v : Value} [j : Ent P f] (hX : sel ops i acc = X := by kernel_rfl) (hw : wantE ops e ⟨d, .call ⟨.value (.func f), xs.toArray, ts⟩, ty, pos, af, g⟩ = some true := by exact rfl) (hd : dstOk n d = true := by exact rfl) (hv : evs e xs = some vs := by exact rfl)
    (h : ∀ w, St w0 (X ++ hs) w → Calls P f vs.toArray w fun e w' => e = .returned v ∧ Below w.heap.size w w') (k : G P n w0 Z ops hs K (i + 1) l Rs (consE d v e) acc own) :
    G P n w0 Z ops hs K i (⟨d, .call ⟨.value (.func f), xs.toArray, ts⟩, ty, pos, af, g⟩ :: l) (some (Eqv v) :: Rs) e acc own :=
  G.vd hX hw hd (OV.call hv h) k
end

end D
end Go.Proofs.YtboglbdhibcacaaGreatDoor

namespace Go.Proofs.YtboglbdhibcacaaGreatDoor
set_option linter.unusedVariables false
set_option linter.unusedSimpArgs false
namespace D
open Go.RowKit

variable {P : Program} {e : Env} {w0 : World} {hs : SH} {d : Option Tmp} {ty : TypeId} {pos : String} {af : Array Edge} {g : Option (Nat × Bool)}
variable {n : Nat} {ds : List Deferred} {ops : List Oper} {Q : Exit → Act → World → Prop} {l : List Oper}

/-- A call's end: what is told of its value and of the blocks that it leaves. -/
def TurnsR (w0 : World) (R : Value → SH → Prop) : Ending → World → Prop := fun e w' => ∃ v H, e = .returned v ∧ R v H ∧ St w0 H w'
theorem L.tcallR (b : Nat) {f : FuncId} {xs : List Operand} {ts : Array TypeId} {vs : List Value} {T : TypeId} {us : List Value} {F : SH} {R : Value → SH → Prop} [j : Ent P f] (hw : wantE ops e ⟨d, .call ⟨.value (.func f), xs.toArray, ts⟩, ty, pos, af, g⟩ = some true := by exact rfl) (hd : dstOk n d = true := by exact rfl)
    (hv : evs e xs = some vs := by exact rfl) (hp : Pull (b, .cells T us) hs F := by (repeat (first | exact Pull.here | apply Pull.there)))
    (h : ∀ w, St w0 ((b, .cells T us) :: F) w → Calls P f vs.toArray w (TurnsR w0 R)) (k : ∀ v H, R v H → L P n ds w0 ops Q l (consE d v e) H) : L P n ds w0 ops Q (⟨d, .call ⟨.value (.func f), xs.toArray, ts⟩, ty, pos, af, g⟩ :: l) e hs :=
  L.does (Y := Value × SH) (Φ := fun y => R y.1 y.2) (V := fun y => y.1) (H := fun y => y.2) hw hd (fun a w ha hst => by
    unfold Does
    rw [run_call ha.fits rfl hv]
    simpa using Calls.mono (h w (hst.perm hp.perm)) fun e' w' ⟨v, H, he, hR, hs'⟩ => ⟨v, he, v, H, hR, rfl, hs'⟩) fun y hy => k y.1 y.2 hy
theorem rettR {fn : Func} {rs : List ResultVar} {vs : List Value} {R : Value → SH → Prop} (H : SH) (hR : R (tupleOf vs) H) (hrs : fn.results = rs.toArray := by exact rfl) (h : RVs P n [] w0 e hs rs vs := by (repeat (first | exact RVs.nil | (apply RVs.cons; (· first | exact RV.tmp rfl | (apply RV.cellk; exact rfl; (· (repeat (first | exact List.Mem.head _ | apply List.Mem.tail))); (· (repeat (first | exact Rd.nil | apply Rd.take | apply Rd.skip)))) | (apply RV.cell1; exact rfl; (· (repeat (first | exact List.Mem.head _ | apply List.Mem.tail))); (· (repeat (first | exact Rd.nil | apply Rd.take | apply Rd.skip)))))))))
    (hs' : H.Sublist hs := by (repeat (first | exact List.Sublist.refl _ | apply List.Sublist.cons_cons | apply List.Sublist.cons))) : X n [] w0 (bodyPost P fn (TurnsR w0 R)) .ret e hs :=
  X.body rfl hrs h fun w hst => ⟨_, _, rfl, hR, hst.sub hs'⟩

end D
end Go.Proofs.YtboglbdhibcacaaGreatDoor

namespace Go.Proofs.YtboglbdhibcacaaGreatDoor
set_option linter.unusedVariables false
set_option linter.unusedSimpArgs false
set_option maxRecDepth 100000
namespace D
open Go.RowKit

section
variable {P : Program} {n : Nat} {ds : List Deferred} {w0 : World} {hs hs' : SH} {e : Env} {ops : List Oper} {Q : Exit → Act → World → Prop} {l : List Oper} {o : Oper}
/-- A function that defers is entered. -/
theorem enterD {f : FuncId} {fn : Func} {c : Code} {vs : List Value} {R : Ending → World → Prop} (hf : P.funcs[f]? = some fn) (hb : fn.body = some c) (hn : fn.ntmps = n) (hl : Nat.ble vs.length n = true) (hbase : Base w0)
    (h : C P n [] w0 (bodyPostD P fn R) c (args0 vs 0) []) : Calls P f vs.toArray w0 R := by
  refine calls_of_wp_defers hf hb (h.ok _ _ ⟨?_, rfl, fun t v ht => ?_⟩ (.start hbase))
  · have := Nat.le_of_ble_eq_true hl
    simp [hn]; omega
  · obtain ⟨_, h2⟩ := get_args0 vs 0 t v ht
    simp only [Nat.sub_zero] at h2
    have hlt : t < vs.length := (List.getElem?_eq_some_iff.1 h2).1
    simp [Array.getElem?_append, hlt]
    exact (List.getElem?_eq_some_iff.1 h2).2
theorem L.defers {d0 : Deferred} (hw : wantE ops e o = some true) (hd : dstOk n o.dst = true) (h : ∀ ρ w, Fits e ρ → St w0 hs w → (execOp ρ o).run P w = .ok (.defer d0) w)
    (k : L P n (d0 :: ds) w0 ops Q l (consE o.dst undef e) hs) : L P n ds w0 ops Q (o :: l) e hs := .mk fun a w ha hst => by
  have ha' : At n (d0 :: ds) e { a with defers := d0 :: a.defers } := ⟨ha.size, by simp [ha.defers], ha.val⟩
  have hk := k.ok _ w (ha'.put undef hd) hst
  show wpList P ops.toArray Q (o :: l) a w
  unfold wpList
  rw [if_pos (wantE.eq ha hw)]
  refine .inl ?_
  unfold Oper.wp
  rw [h _ w ha.fits hst, Oper.upon_defer]
  exact hk
theorem L.panics {v : Value} (hw : wantE ops e o = some true) (h : ∀ ρ w, Fits e ρ → St w0 hs w → (execOp ρ o).run P w = .halt (.panic v) w)
    (k : X n ds w0 Q (.panic [{ v := v, recovered := false }]) e hs) : L P n ds w0 ops Q (o :: l) e hs := .mk fun a w ha hst => by
  have hk := k.ok a w ha hst
  show wpList P ops.toArray Q (o :: l) a w
  unfold wpList
  rw [if_pos (wantE.eq ha hw)]
  refine .inl ?_
  unfold Oper.wp
  rw [h _ w ha.fits hst, Oper.upon_panic]
  exact hk
theorem X.then_panic {K : Act → World → Prop} {ch : List PanicEntry} (h : X n ds w0 Q (.panic ch) e hs) : X n ds w0 (Exit.then K Q) (.panic ch) e hs := .mk fun a w ha hst => h.ok a w ha hst
theorem X.block_panic {id : Nat} {ch : List PanicEntry} (h : X n ds w0 Q (.panic ch) e hs) : X n ds w0 (Exit.inBlock id Q) (.panic ch) e hs := .mk fun a w ha hst => h.ok a w ha hst
/-- The one deferred call is made, nothing has panicked. -/
theorem X.leave_ret {fn : Func} {rs : List ResultVar} {vs : List Value} {R : Ending → World → Prop} {fv : Fn} {cap dargs : Array Value} {f : FuncId} {args : Array Value} {ev : Value}
    (hi : ∀ w, (invoke (.fn fv cap) dargs).run P w = .ok (.enter f args) w) (hc : ∀ w, St w0 hs w → CallsD P f args .returning w fun e' u' w' => e' = .returned ev ∧ u' = .returning ∧ St w0 hs' w')
    (hrs : fn.results = rs.toArray) (hrv : RVs P n [{ target := .fn fv cap, args := dargs }] w0 e hs' rs vs) (hR : ∀ w, St w0 hs' w → R (.returned (tupleOf vs)) w) :
    X n [{ target := .fn fv cap, args := dargs }] w0 (bodyPostD P fn R) .ret e hs := .mk fun a w ha hst => by
  show Leaves P fn a.tmps R a.defers .returning w
  rw [ha.defers]
  refine leaves_cons (by simp) (hi w) ((hc w hst).mono ?_)
  rintro e' u' w' ⟨rfl, rfl, hst'⟩
  show Leaves P fn a.tmps R [] (settle .returning) w'
  exact ⟨_, run_results hrs hrv ha hst', hR w' hst'⟩
/-- The one deferred call is made and recovers. -/
theorem X.leave_panic {fn : Func} {rs : List ResultVar} {vs : List Value} {R : Ending → World → Prop} {fv : Fn} {cap dargs : Array Value} {f : FuncId} {args : Array Value} {v ev : Value}
    (hi : ∀ w, (invoke (.fn fv cap) dargs).run P w = .ok (.enter f args) w)
    (hc : ∀ w, St w0 hs w → CallsD P f args (.panicking [{ v := v, recovered := false }]) w fun e' u' w' => e' = .returned ev ∧ u' = .panicking [{ v := v, recovered := true }] ∧ St w0 hs' w')
    (hrs : fn.results = rs.toArray) (hrv : RVs P n [{ target := .fn fv cap, args := dargs }] w0 e hs' rs vs) (hR : ∀ w, St w0 hs' w → R (.returned (tupleOf vs)) w) :
    X n [{ target := .fn fv cap, args := dargs }] w0 (bodyPostD P fn R) (.panic [{ v := v, recovered := false }]) e hs := .mk fun a w ha hst => by
  show Leaves P fn a.tmps R a.defers (.panicking [{ v := v, recovered := false }]) w
  rw [ha.defers]
  refine leaves_cons (by simp) (hi w) ((hc w hst).mono ?_)
  rintro e' u' w' ⟨rfl, rfl, hst'⟩
  show Leaves P fn a.tmps R [] (settle (.panicking [{ v := v, recovered := true }])) w'
  exact ⟨_, run_results hrs hrv ha hst', hR w' hst'⟩

/-! ### The deferred closure's own walk: it recovers first, then goes on as any other -/
/-- What recover hands to a closure that a frame of mode u has deferred, and the mode that it leaves. -/
def recM : FrameMode → Value × FrameMode
  | .panicking ({ v, recovered := false, goexit := false } :: older) => (v, .panicking ({ v, recovered := true } :: older))
  | u => (.nilIface, u)
theorem recoverD_mode {c₀ : Frame} {cs : List Frame} {u : FrameMode} (hu : c₀.mode = u) : (match recoverD (c₀ :: cs) with | some (v, cs') => (v, cs') | none => (.nilIface, c₀ :: cs)) = ((recM u).1, { c₀ with mode := (recM u).2 } :: cs) := by
  subst hu
  unfold recoverD recM
  cases hm : c₀.mode with
  | panicking l =>
    cases l with
    | nil => simp only [hm]; rw [← hm]
    | cons p r =>
      obtain ⟨v, rec, ge⟩ := p
      cases rec <;> cases ge <;> simp only [hm] <;> rw [← hm]
  | _ => simp only [hm]; rw [← hm]
theorem closD {f : FuncId} {fn : Func} {c : Code} {id : Nat} {t : Tmp} {ty : TypeId} {pos : String} {vs : List Value} {u : FrameMode} {R : Ending → World → Prop} (hf : P.funcs[f]? = some fn)
    (hb : fn.body = some (.seq (.region id #[⟨some t, .call ⟨.builtin .recover, #[], #[]⟩, ty, pos, #[], none⟩] false) c)) (hn : fn.ntmps = n) (hl : Nat.ble vs.length n = true) (ht : dstOk n (some t) = true)
    (h : C P n [] w0 (bodyPost P fn R) c (consE (some t) (recM u).1 (args0 vs 0)) hs) {w : World} (hst : St w0 hs w) : CallsD P f vs.toArray u w fun e' u' w' => u' = (recM u).2 ∧ R e' w' := by
  refine callsD_of_wpS hf hb fun c₀ cs hu => ?_
  have ha : At n [] (args0 vs 0) { tmps := vs.toArray ++ Array.replicate (fn.ntmps - vs.toArray.size) undef, defers := [] } := by
    refine ⟨?_, rfl, fun t v ht => ?_⟩
    · have := Nat.le_of_ble_eq_true hl
      simp [hn]; omega
    · obtain ⟨_, h2⟩ := get_args0 vs 0 t v ht
      simp only [Nat.sub_zero] at h2
      have hlt : t < vs.length := (List.getElem?_eq_some_iff.1 h2).1
      simp [Array.getElem?_append, hlt]
      exact (List.getElem?_eq_some_iff.1 h2).2
  generalize ({ tmps := vs.toArray ++ Array.replicate (fn.ntmps - vs.toArray.size) undef, defers := [] } : Act) = a at ha
  have hrest := h.ok (a.put (some t) (recM u).1) w (ha.put (recM u).1 ht) hst
  have hS : c.wpS P (bodyPostS P fn c₀ cs fun e' u' w' => u' = (recM u).2 ∧ R e' w') (a.put (some t) (recM u).1) ({ c₀ with mode := (recM u).2 } :: cs) w := by
    refine wpS_of_wp (Code.wp_mono (fun e a w q => ?_) hrest)
    cases e with
    | normal => obtain ⟨hd, v, hr, hR⟩ := q; exact ⟨hd, _, rfl, v, hr, rfl, hR⟩
    | ret => obtain ⟨hd, v, hr, hR⟩ := q; exact ⟨hd, _, rfl, v, hr, rfl, hR⟩
    | panic ch => obtain ⟨hd, hR⟩ := q; exact ⟨hd, _, rfl, rfl, hR⟩
    | outgrown => exact ⟨_, rfl, q⟩
    | exit id => exact q.elim
    | goto l => exact q.elim
  refine wpS_seq (wpS_region ?_)
  have hm := recoverD_mode (cs := cs) hu
  show wpOpsS P _ _ [0] a (c₀ :: cs) w
  have hop : (execOp a.eval ⟨some t, .call ⟨.builtin .recover, #[], #[]⟩, ty, pos, #[], none⟩).run P w = .ok .recover w := by
    simp [execOp, resolve]
    try rfl
  have hwn : Region.wanted (⟨some t, .call ⟨.builtin .recover, #[], #[]⟩, ty, pos, #[], none⟩ : Oper) (yielded #[⟨some t, .call ⟨.builtin .recover, #[], #[]⟩, ty, pos, #[], none⟩] a.tmps) = true := by
    simp [Region.wanted]
  cases hr : recoverD (c₀ :: cs) with
  | none =>
    rw [hr] at hm
    simp only [Prod.mk.injEq] at hm
    simp only [wpOpsS, List.getElem?_toArray, hwn, if_true, hop, hr, List.getElem?_cons_zero]
    rw [hm.1, hm.2]
    exact hS
  | some p =>
    obtain ⟨v, cs'⟩ := p
    rw [hr] at hm
    simp only [Prod.mk.injEq] at hm
    simp only [wpOpsS, List.getElem?_toArray, hwn, if_true, hop, hr, hm.1, hm.2, List.getElem?_cons_zero]
    exact hS
end

end D
end Go.Proofs.YtboglbdhibcacaaGreatDoor

namespace Go.Proofs.YtboglbdhibcacaaGreatDoor
set_option linter.unusedVariables false
set_option linter.unusedSimpArgs false
set_option maxRecDepth 100000
namespace D
open Go.RowKit
open Go.MapKept (run_checkKey run_findKey run_setObj_map heap_set IsKey)

section
variable {P : Program} {n : Nat} {ds : List Deferred} {w0 : World} {hs hs' : SH} {e : Env} {ops : List Oper} {Q : Exit → Act → World → Prop} {l : List Oper} {o : Oper}
variable {d : Option Tmp} {ty : TypeId} {pos : String} {af : Array Edge} {g : Option (Nat × Bool)}
abbrev mapB (es : List MapEntry) (k : Nat) : Blk := .obj (.map es.toArray k)
/-- A map's type: its keys are texts. -/
class MpT (P : Program) (t : TypeId) (k el : outParam TypeId) (z : outParam Value) : Prop where
  ok : P.underlying t = some (.map k el)
  key : P.underlying k = some .string
  zero : ∀ w, (zeroValue el).run P w = .ok z w
theorem ON.mkMap {t : TypeId} : ON P ⟨d, .makeMap t none, ty, pos, af, g⟩ e w0 hs (fun v H => ∃ b, v = .map (some b) ∧ H = [(b, mapB [] 0)]) := .mk fun ρ w hf hst => by
  refine .of_value (w' := w.alloc (.map #[] 0)) (v := .map (some w.heap.size)) ?_ ⟨_, ⟨w.heap.size, rfl, rfl⟩, New.alloc w (.obj (.map #[] 0))⟩
  simp [execOp, Instr.makeMap]
theorem run_getObj_map {w : World} {b : Nat} {es : Array MapEntry} {k : Nat} (h : w.heap[b]? = some (.map es k)) : (getObj b).run P w = .ok (.map es k) w := by
  simp [getObj, Sem.run, h]
theorem OS.insert {t kk el : TypeId} {z : Value} [i : MpT P t kk el z] {m k x : Operand} {b c : Nat} {s : ByteArray} {v : Value} {es : List MapEntry} (hm : ev e m = some (.map (some b))) (hk : ev e k = some (.string s)) (hx : ev e x = some v)
    (hf : Instr.findNow .string (.string s) es 0 = some none) (u : Upd b (mapB es c) (mapB (es ++ [⟨.string s, v, c⟩]) (c + 1)) hs hs') : OS P ⟨d, .insert t m k x, ty, pos, af, g⟩ e w0 hs hs' := .mk fun ρ w hf' hst => by
  have hh : w.heap[b]? = some (.map es.toArray c) := (hst.own _ u.mem).2
  have hck : (Instr.checkKey false 10000 kk (.string s)).run P w = .ok () w := run_checkKey (P := P) (w := w) (k := .string s) i.key trivial false 9999
  have hfk := run_findKey (P := P) (w := w) (k := .string s) i.key hf
  have hset := run_setObj_map (P := P) (w := w) (Obj.map (es ++ [(⟨.string s, v, c⟩ : MapEntry)]).toArray (c + 1)) hh
  refine .of_skip (w' := { w with heap := w.heap.setIfInBounds b (Obj.map (es ++ [(⟨.string s, v, c⟩ : MapEntry)]).toArray (c + 1)) }) ?_ ⟨rfl, hst.upd u ?_ (fun j hj => (heap_set hh).2 j hj) (by simp) rfl rfl rfl⟩
  · simp [execOp, Instr.mapUpdate, hf' m _ hm, hf' k _ hk, hf' x _ hx, run_underlying i.ok, run_getObj_map hh, hck, hfk, hset]
  · rw [(heap_set hh).1]
    simp [Blk.toObj]
theorem OV.look {t kk el : TypeId} {z : Value} [i : MpT P t kk el z] {m k : Operand} {b c : Nat} {s : ByteArray} {es : List MapEntry} {r : Option (Nat × Value)} (hm : ev e m = some (.map (some b))) (hk : ev e k = some (.string s)) (hb : (b, mapB es c) ∈ hs)
    (hf : Instr.findNow .string (.string s) es 0 = some r) : OV P ⟨d, .lookup t m k true, ty, pos, af, g⟩ e w0 hs (.tuple #[(r.map (·.2)).getD z, .bool r.isSome]) := .mk fun ρ w hf' hst => by
  have hh : w.heap[b]? = some (.map es.toArray c) := (hst.own _ hb).2
  have hck : ∀ em, (Instr.checkKey em 10000 kk (.string s)).run P w = .ok () w := fun em => run_checkKey (P := P) (w := w) (k := .string s) i.key trivial em 9999
  have hfk := run_findKey (P := P) (w := w) (k := .string s) i.key hf
  refine .of_value (w' := w) ?_ ⟨rfl, .refl _⟩
  cases r with
  | none => simp [execOp, Instr.lookup, hf' m _ hm, hf' k _ hk, run_underlying i.ok, run_getObj_map hh, hck, hfk, i.zero]
  | some p => simp [execOp, Instr.lookup, hf' m _ hm, hf' k _ hk, run_underlying i.ok, run_getObj_map hh, hck, hfk]
end

end D
end Go.Proofs.YtboglbdhibcacaaGreatDoor

namespace Go.Proofs.YtboglbdhibcacaaGreatDoor
set_option linter.unusedVariables false
set_option linter.unusedSimpArgs false
set_option maxRecDepth 100000
namespace D
open Go.RowKit
open Go.Lib (strCells strCells_length strCells_oneCell run_append_room_string run_append_grow_string run_unsafeString_row run_unsafeString_none run_unsafeSliceData_row run_unsafeSliceData_nil below_freeze)

section
variable {P : Program} {e : Env} {w0 : World} {hs : SH} {d : Option Tmp} {ty : TypeId} {pos : String} {af : Array Edge} {g : Option (Nat × Bool)}
variable {n : Nat} {ds : List Deferred} {ops : List Oper} {Q : Exit → Act → World → Prop} {l : List Oper}
theorem strCells_arr (s : ByteArray) : (s.data.map fun b : UInt8 => Value.int .u8 b.toNat) = (strCells s).toArray := by
  apply Array.ext'
  simp [strCells]
theorem run_appStr {t u T : Nat} [i : Ap P t T 1 1] [k : StT P u] {w : World} {F H : SH} (hst : St w0 (F ++ H) w) {xs : List Value} {n : Nat} {v : Value} {s : ByteArray} (hS : SlS T 1 n xs v H) (hb : n + s.size ≤ 140737488355328) :
    ∃ v' H' w', (Builtin.append_ #[t, u] ty #[v, .string s]).run P w = .ok v' w' ∧ SlS T 1 (n + s.size) (xs ++ strCells s) v' H' ∧ St w0 (F ++ H') w' := by
  obtain ⟨j, z, hj, hz, hsz, hby, hzs⟩ := i.get
  have hm : maxLen = 9223372036854775807 := rfl
  have hcl := strCells_length s
  rcases hS with ⟨rfl, rfl, rfl, rfl⟩ | ⟨g, cap, pad, rfl, rfl, h2, h3, h4, h5⟩
  · simp only [Nat.zero_add] at hb ⊢
    by_cases hm0 : s.size = 0
    · have hn : strCells s = [] := List.eq_nil_of_length_eq_zero (by omega)
      refine ⟨.slice none 0 0, [], w, ?_, .inl ⟨rfl, hm0, by simp [hn], rfl⟩, hst⟩
      have hf := Go.Lib.run_firstCells_string (P := P) w 1 s
      rw [hm0] at hf
      simp [Builtin.append_, run_underlying i.ok, run_underlying k.ok, sizeOf, typeInfo, hj, hsz, Builtin.lenOf, hm0, hf]
    · have hr := run_append_nil_string (P := P) w t u ty T j z i.ok k.ok hj hz s (by omega) (by omega) (by rw [hby]; omega)
      rw [strCells_arr] at hr
      have hge := grownCap_ge w s.size 0 T
      have hle := grownCap_le_maxLen w s.size 0 T (by omega)
      refine ⟨_, [(w.heap.size, .cells T (strCells s ++ (Builtin.zeroCells z.cells (grownCap w s.size 0 T - s.size)).toList))], _, hr, .inr ⟨_, _, (Builtin.zeroCells z.cells (grownCap w s.size 0 T - s.size)).toList, rfl, rfl, hge, by omega, ?_, by simpa using hcl⟩, ?_⟩
      · simp only [List.nil_append, List.length_append, Array.length_toList, size_zeroCells, hzs, hcl]
        omega
      · have := (St.drewAlloc (F := F) (by simpa using hst) T (strCells s ++ (Builtin.zeroCells z.cells (grownCap w s.size 0 T - s.size)).toList))
        rwa [toArr] at this
  · have hmem : (g, Blk.cells T (xs ++ pad)) ∈ F ++ [(g, Blk.cells T (xs ++ pad))] := List.mem_append_right _ (List.Mem.head _)
    have hheap := hst.heap hmem
    rw [Nat.mul_one] at h4 h5
    by_cases hroom : n + s.size ≤ cap
    · have hr := run_append_room_string (P := P) w t u ty T j i.ok k.ok hj hsz g n cap (xs ++ pad).toArray hheap s hroom (by rw [List.size_toArray, h4]; exact hroom)
      refine ⟨_, [(g, .cells T (xs ++ strCells s ++ pad.drop (strCells s).length))], _, hr, .inr ⟨_, _, _, rfl, rfl, hroom, h3, ?_, ?_⟩, ?_⟩
      · rw [Nat.mul_one, ← h4]
        simp only [List.length_append, List.length_drop] at h4 ⊢
        omega
      · rw [List.length_append, h5, hcl, Nat.mul_one]
      · have hu := hst.setRow (vs' := xs ++ strCells s ++ pad.drop (strCells s).length) (Upd.tail F)
        have e1 : (xs ++ pad).toArray.toList.take n ++ strCells s ++ (xs ++ pad).toArray.toList.drop (n + s.size) = xs ++ strCells s ++ pad.drop (strCells s).length := by
          rw [← h5, hcl]
          simp [List.drop_append]
        rw [e1]
        exact hu
    · have holds : ∀ k u, xs[k]? = some u → w.cell? ((⟨g, 0, none⟩ : Addr).add k) = some u := fun k u hk => by
        rw [add_plain, Nat.zero_add]
        exact hst.cell hmem (by rw [List.getElem?_append_left (List.getElem?_eq_some_iff.1 hk).1]; exact hk)
      have hr := run_append_grow_string (P := P) w t u ty T j z i.ok k.ok hj hz ⟨g, 0, none⟩ n cap xs (by rw [hsz, Nat.mul_one]; exact h5) holds s (by omega) (by omega) (by rw [hby]; exact growslice_fits (by omega) (by omega))
      have hge := grownCap_ge w (n + s.size) cap T
      have hle := grownCap_le_maxLen w (n + s.size) cap T (by omega)
      refine ⟨_, [(w.heap.size, .cells T (xs ++ strCells s ++ (Builtin.zeroCells z.cells (grownCap w (n + s.size) cap T - (n + s.size))).toList))], _, hr, .inr ⟨_, _, _, rfl, rfl, hge, by omega, ?_, ?_⟩, ?_⟩
      · simp only [List.length_append, Array.length_toList, size_zeroCells, hzs, hcl, h5]
        omega
      · rw [List.length_append, h5, hcl, Nat.mul_one]
      · have := (St.drewAlloc (F := F) (hst.sub (List.sublist_append_left _ _)) T (xs ++ strCells s ++ (Builtin.zeroCells z.cells (grownCap w (n + s.size) cap T - (n + s.size))).toList))
        rw [toArr] at this
        simpa using this
/-- Append of a text to a row of bytes that the call owns. -/
theorem L.appStr {t u T k : Nat} {F H : SH} {xs : List Value} {v : Value} {s : ByteArray} {as : List Operand} [i : Ap P t T 1 1] [j : StT P u] (hS : SlS T 1 k xs v H)
    (hw : wantE ops e ⟨d, .call ⟨.builtin .append, as.toArray, #[t, u]⟩, ty, pos, af, g⟩ = some true := by exact rfl) (hd : dstOk n d = true := by exact rfl) (hv : evs e as = some [v, .string s] := by exact rfl)
    (hq : hs.Perm (F ++ H)) (hb : k + s.size ≤ 140737488355328)
    (kk : ∀ v' H', SlS T 1 (k + s.size) (xs ++ strCells s) v' H' → L P n ds w0 ops Q l (consE d v' e) (F ++ H')) : L P n ds w0 ops Q (⟨d, .call ⟨.builtin .append, as.toArray, #[t, u]⟩, ty, pos, af, g⟩ :: l) e hs :=
  L.does (Y := Value × SH) (Φ := fun y => SlS T 1 (k + s.size) (xs ++ strCells s) y.1 y.2) (V := fun y => y.1) (H := fun y => F ++ y.2) hw hd (fun a w ha hst => by
    obtain ⟨v', H', w', hr, h2, h3⟩ := run_appStr (P := P) (ty := ty) (t := t) (u := u) (hst.perm hq) hS hb
    refine .of_value (run_builtin ha.fits hv (w' := w') fun cs => ?_) ⟨(v', H'), h2, rfl, h3⟩
    simp [builtin, hr]) fun y hy => kk y.1 y.2 hy
end

end D
end Go.Proofs.YtboglbdhibcacaaGreatDoor
