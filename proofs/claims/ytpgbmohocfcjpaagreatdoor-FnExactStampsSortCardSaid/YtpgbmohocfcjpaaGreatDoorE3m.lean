/- The engine, part 11: a region whose order is drawn, walked in every order its edges allow (for small regions). -/
import Derived.Test.YtpgbmohocfcjpaaGreatDoorE2
import Derived.Laws.AppendOwn
import Derived.Laws.Strings
import Derived.Laws.Strings2
import Derived.Laws.Strings3
import Derived.Laws.Concat
import Derived.Laws.BytesString
import Derived.Laws.BytesArg
import Derived.PlainAid
import Derived.Laws.MakeOwn
import Derived.LoopN
namespace Go.Proofs.YtpgbmohocfcjpaaGreatDoor
set_option linter.unusedVariables false
set_option linter.unusedSimpArgs false
namespace D
open Go.RowKit

variable {P : Program} {n : Nat} {ds : List Deferred} {w0 : World} {ops : List Oper} {Q : Exit → Act → World → Prop} {e : Env} {hs : SH} {fuel : Nat} {bits : List Bool}

/-- The run from a set of operations that are done, in every order. -/
structure A (P : Program) (n : Nat) (ds : List Deferred) (w0 : World) (ops : List Oper) (Q : Exit → Act → World → Prop) (fuel : Nat) (bits : List Bool) (e : Env) (hs : SH) : Prop where
  ok : ∀ a w, At n ds e a → St w0 hs w → wpAny P .any ops.toArray Q fuel bits.toArray a w
theorem C.any {id : Nat} (hm : P.follows .mixedOrders = true := by kernel_rfl) (h : A P n ds w0 ops Q ops.length (List.replicate ops.length false) e hs) : C P n ds w0 Q (.region id ops.toArray true) e hs := .mk fun a w ha hst => by
  refine wp_region_any hm ?_
  have := h.ok a w.drew ha hst.drew
  simpa using this
/-- What may come next. -/
def okAt (ops : List Oper) (bits : List Bool) (i : Nat) : Bool :=
  match nthL ops i with
  | some o => !(bits.getD i true) && o.after.toList.all fun e => !Region.binds .any e || bits.getD e.on false
  | none => false
def rdy (ops : List Oper) (bits : List Bool) : List Nat := (List.range ops.length).filter (okAt ops bits)
theorem nthL_of {α : Type} : ∀ {l : List α} {i : Nat} {x : α}, l[i]? = some x → nthL l i = some x
  | [], _, _, h => by simp at h
  | a :: r, 0, x, h => by simpa [nthL] using h
  | a :: r, i + 1, x, h => by simpa [nthL] using nthL_of (l := r) (by simpa using h)
theorem mem_rdy {i : Nat} : i ∈ Region.ready .any ops.toArray bits.toArray ↔ i ∈ rdy ops bits := by
  rw [mem_ready, rdy, List.mem_filter, List.mem_range]
  constructor
  · rintro ⟨h1, o, ho, h2⟩
    have ho' : ops[i]? = some o := by simpa using ho
    refine ⟨(List.getElem?_eq_some_iff.1 ho').1, ?_⟩
    unfold okAt
    rw [nthL_of ho']
    simp only [Bool.and_eq_true, Bool.not_eq_true', List.all_eq_true, Bool.or_eq_true]
    refine ⟨by simpa using h1, fun e he => ?_⟩
    cases hb : Region.binds .any e with
    | false => exact .inl rfl
    | true => exact .inr (by simpa using h2 e (by simpa using he) hb)
  · rintro ⟨h1, h2⟩
    unfold okAt at h2
    split at h2
    · rename_i o ho
      have ho' := nthL_some ho
      simp only [Bool.and_eq_true, Bool.not_eq_true', List.all_eq_true, Bool.or_eq_true] at h2
      refine ⟨by simpa using h2.1, o, by simpa using ho', fun e he hb => ?_⟩
      rcases h2.2 e (by simpa using he) with h | h
      · rw [hb] at h; cases h
      · simpa using h
    · cases h2
theorem wpOp_of {K : Act → World → Prop} {i : Nat} {o : Oper} (ho : ops[i]? = some o) {a : Act} {w : World} (h : wpList P ops.toArray (Exit.then K Q) [o] a w) : wpOp P ops.toArray Q i K a w := by
  have ho' : ops.toArray[i]? = some o := by simpa using ho
  unfold wpOp
  simp only [ho']
  unfold wpList at h
  split
  · rename_i hw
    rw [if_pos hw] at h
    rcases h with h | h
    · left
      unfold Oper.wp at h ⊢
      generalize (execOp a.eval o).run P w = r at h ⊢
      cases r with
      | halt x w' => cases x <;> exact h
      | ok x w' => cases x <;> exact h
    · exact .inr h
  · rename_i hw
    rw [if_neg hw] at h
    exact h
theorem A.step {is : List Nat} (hr : rdy ops bits = is) (hne : is ≠ []) (h : ∀ i ∈ is, ∃ o, nthL ops i = some o ∧ L P n ds w0 ops (Exit.then (fun a w => wpAny P .any ops.toArray Q fuel (bits.set i true).toArray a w) Q) [o] e hs) : A P n ds w0 ops Q (fuel + 1) bits e hs := .mk fun a w ha hst => by
  refine ⟨fun h0 => ?_, fun i hi => ?_⟩
  · exfalso
    cases is with
    | nil => exact hne rfl
    | cons i r =>
      have : i ∈ Region.ready .any ops.toArray bits.toArray := mem_rdy.2 (by rw [hr]; exact List.Mem.head _)
      rw [h0] at this
      cases this
  · obtain ⟨o, ho, hl⟩ := h i (by rw [← hr]; exact mem_rdy.1 hi)
    have := wpOp_of (Q := Q) (nthL_some ho) (hl.ok a w ha hst)
    simpa using this
theorem A.r1 {i : Nat} {o : Oper} (hr : rdy ops bits = [i] := by exact rfl) (ho : nthL ops i = some o := by exact rfl) (h : L P n ds w0 ops (Exit.then (fun a w => wpAny P .any ops.toArray Q fuel (bits.set i true).toArray a w) Q) [o] e hs) : A P n ds w0 ops Q (fuel + 1) bits e hs :=
  A.step hr (by simp) fun k hk => by obtain rfl : k = i := by simpa using hk
                                     exact ⟨o, ho, h⟩
theorem A.r2 {i j : Nat} {o o' : Oper} (hr : rdy ops bits = [i, j] := by exact rfl) (ho : nthL ops i = some o := by exact rfl) (ho' : nthL ops j = some o' := by exact rfl) (h : L P n ds w0 ops (Exit.then (fun a w => wpAny P .any ops.toArray Q fuel (bits.set i true).toArray a w) Q) [o] e hs)
    (h' : L P n ds w0 ops (Exit.then (fun a w => wpAny P .any ops.toArray Q fuel (bits.set j true).toArray a w) Q) [o'] e hs) : A P n ds w0 ops Q (fuel + 1) bits e hs :=
  A.step hr (by simp) fun k hk => by
    rcases (by simpa using hk : k = i ∨ k = j) with rfl | rfl
    · exact ⟨o, ho, h⟩
    · exact ⟨o', ho', h'⟩
theorem A.r3 {i j l : Nat} {o o' o'' : Oper} (hr : rdy ops bits = [i, j, l] := by exact rfl) (ho : nthL ops i = some o := by exact rfl) (ho' : nthL ops j = some o' := by exact rfl) (ho'' : nthL ops l = some o'' := by exact rfl) (h : L P n ds w0 ops (Exit.then (fun a w => wpAny P .any ops.toArray Q fuel (bits.set i true).toArray a w) Q) [o] e hs)
    (h' : L P n ds w0 ops (Exit.then (fun a w => wpAny P .any ops.toArray Q fuel (bits.set j true).toArray a w) Q) [o'] e hs) (h'' : L P n ds w0 ops (Exit.then (fun a w => wpAny P .any ops.toArray Q fuel (bits.set l true).toArray a w) Q) [o''] e hs) : A P n ds w0 ops Q (fuel + 1) bits e hs :=
  A.step hr (by simp) fun k hk => by
    rcases (by simpa using hk : k = i ∨ k = j ∨ k = l) with rfl | rfl | rfl
    · exact ⟨o, ho, h⟩
    · exact ⟨o', ho', h'⟩
    · exact ⟨o'', ho'', h''⟩
theorem A.done (hr : rdy ops bits = [] := by exact rfl) (k : X n ds w0 Q .normal e hs) : A P n ds w0 ops Q fuel bits e hs := .mk fun a w ha hst => by
  have h0 : Region.ready .any ops.toArray bits.toArray = [] := by
    rw [List.eq_nil_iff_forall_not_mem]
    intro i hi
    have := mem_rdy.1 hi
    rw [hr] at this
    cases this
  cases fuel with
  | zero => exact ⟨h0, k.ok a w ha hst⟩
  | succ f => exact ⟨fun _ => k.ok a w ha hst, by rw [h0]; simp⟩
theorem X.then_any (h : A P n ds w0 ops Q fuel bits e hs) : X n ds w0 (Exit.then (fun a w => wpAny P .any ops.toArray Q fuel bits.toArray a w) Q) .normal e hs := .mk fun a w ha hst => h.ok a w ha hst

end D
end Go.Proofs.YtpgbmohocfcjpaaGreatDoor

namespace Go.Proofs.YtpgbmohocfcjpaaGreatDoor
set_option linter.unusedVariables false
set_option linter.unusedSimpArgs false
namespace D
open Go.RowKit

variable {P : Program} {e : Env} {w0 : World} {hs : SH} {d : Option Tmp} {ty : TypeId} {pos : String} {af : Array Edge} {g : Option (Nat × Bool)}

/-- A slice that the call owns: its cells, its value, and the block it lies in (none if it is nil). -/
def SlS (T : TypeId) (sz n : Nat) (xs : List Value) (v : Value) (H : SH) : Prop :=
  (v = .slice none 0 0 ∧ n = 0 ∧ xs = [] ∧ H = []) ∨
  ∃ (b cap : Nat) (pad : List Value), v = .slice (some ⟨b, 0, none⟩) n cap ∧ H = [(b, .cells T (xs ++ pad))] ∧ n ≤ cap ∧ cap ≤ 9223372036854775807 ∧ (xs ++ pad).length = cap * sz ∧ xs.length = n * sz
theorem SlS.nil {T : TypeId} {sz : Nat} : SlS T sz 0 [] (.slice none 0 0) [] := .inl ⟨rfl, rfl, rfl, rfl⟩
theorem SlS.len {T : TypeId} {sz n : Nat} {xs : List Value} {v : Value} {H : SH} (h : SlS T sz n xs v H) : xs.length = n * sz := by
  rcases h with ⟨_, rfl, rfl, _⟩ | ⟨b, cap, pad, _, _, _, _, _, h⟩
  · simp
  · exact h
/-- What a slice type's elements are. -/
class Ap (P : Program) (t : TypeId) (T sz bytes : outParam Nat) : Prop where
  ok : P.underlying t = some (.slice T)
  info : (P.info? T).map (fun i => (i.size, i.bytes, i.zero.map fun z => z.cells.size)) = some (sz, bytes, some sz)
  pos : 0 < sz
theorem Ap.get {t T sz bytes : Nat} (i : Ap P t T sz bytes) : ∃ (j : TypeInfo) (z : Value), P.info? T = some j ∧ j.zero = some z ∧ j.size = sz ∧ j.bytes = bytes ∧ z.cells.size = sz := by
  have h := i.info
  cases hq : P.info? T with
  | none => simp [hq] at h
  | some j =>
    cases hz : j.zero with
    | none => simp [hq, hz] at h
    | some z =>
      simp only [hq, Option.map_some, hz, Option.some.injEq, Prod.mk.injEq] at h
      exact ⟨j, z, rfl, hz, h.1, h.2.1, h.2.2⟩
theorem Upd.tail {b : Nat} {o n : Blk} : ∀ (F : SH), Upd b o n (F ++ [(b, o)]) (F ++ [(b, n)])
  | [] => .here
  | _ :: r => .there (Upd.tail r)
theorem toArr (xs : List Value) (a : Array Value) : (xs ++ a.toList).toArray = xs.toArray ++ a := by
  apply Array.ext'
  simp
/-- A new block behind a draw. -/
theorem St.drewAlloc {w : World} {F : SH} (h : St w0 F w) (T : TypeId) (cs : List Value) : St w0 (F ++ [(w.heap.size, .cells T cs)]) (w.drew.alloc (.cells cs.toArray T)) :=
  (h.drew.new (New.alloc w.drew (.cells T cs))).perm List.perm_append_comm
theorem run_app {t T sz bytes : Nat} [i : Ap P t T sz bytes] {w : World} {F H : SH} (hst : St w0 (F ++ H) w) {xs news : List Value} {n m b o c : Nat} {v : Value} (hS : SlS T sz n xs v H) (hl : news.length = m * sz)
    (hnews : ∀ j u, news[j]? = some u → w.cell? ⟨b, o + j, none⟩ = some u) (h1 : ∀ u ∈ news, u.oneCell' = true) (hb : (n + m) * bytes ≤ 140737488355328) (h63 : n + m ≤ 9223372036854775807) :
    ∃ v' H' w', (Builtin.append_ #[t, t] ty #[v, .slice (some ⟨b, o, none⟩) m c]).run P w = .ok v' w' ∧ SlS T sz (n + m) (xs ++ news) v' H' ∧ St w0 (F ++ H') w' := by
  obtain ⟨j, z, hj, hz, hsz, hby, hzs⟩ := i.get
  have hpos := i.pos
  subst hsz
  subst hby
  have hnews' : ∀ k u, news[k]? = some u → w.cell? ((⟨b, o, none⟩ : Addr).add k) = some u := fun k u hk => by rw [add_plain]; exact hnews k u hk
  have hm : maxLen = 9223372036854775807 := rfl
  rcases hS with ⟨rfl, rfl, rfl, rfl⟩ | ⟨g, cap, pad, rfl, rfl, h2, h3, h4, h5⟩
  · simp only [Nat.zero_add] at hb h63 ⊢
    by_cases hm0 : m = 0
    · subst hm0
      have hn : news = [] := List.eq_nil_of_length_eq_zero (by simpa using hl)
      subst hn
      refine ⟨.slice none 0 0, [], w, ?_, .inl ⟨rfl, rfl, rfl, rfl⟩, hst⟩
      simp [Builtin.append_, run_underlying i.ok, sizeOf, typeInfo, hj, Builtin.lenOf, Builtin.firstCells, loadCells, loadCellsFrom]
    · have hr := run_append_nil (P := P) w t ty T j z i.ok hj hz ⟨b, o, none⟩ m c news hl hnews' (by omega) (by omega) (by omega)
      have hge := grownCap_ge w m 0 T
      have hle := grownCap_le_maxLen w m 0 T (by omega)
      refine ⟨_, [(w.heap.size, .cells T (news ++ (Builtin.zeroCells z.cells (grownCap w m 0 T - m)).toList))], _, hr, .inr ⟨_, _, (Builtin.zeroCells z.cells (grownCap w m 0 T - m)).toList, rfl, rfl, hge, by omega, ?_, by simpa using hl⟩, ?_⟩
      · simp only [List.nil_append, List.length_append, Array.length_toList, size_zeroCells, hzs, hl, ← Nat.add_mul]
        congr 1; omega
      · have := (St.drewAlloc (F := F) (by simpa using hst) T (news ++ (Builtin.zeroCells z.cells (grownCap w m 0 T - m)).toList))
        rwa [toArr] at this
  · have hmem : (g, Blk.cells T (xs ++ pad)) ∈ F ++ [(g, Blk.cells T (xs ++ pad))] := List.mem_append_right _ (List.Mem.head _)
    have hheap := hst.heap hmem
    by_cases hroom : n + m ≤ cap
    · have hmul : (n + m) * j.size ≤ cap * j.size := Nat.mul_le_mul_right _ hroom
      rw [Nat.add_mul, ← hl, ← h5, ← h4] at hmul
      have hr := run_append_room (P := P) w t ty T j i.ok hj g n cap (xs ++ pad).toArray hheap ⟨b, o, none⟩ m c news hl hnews' h1 hroom (by rw [← h5]; simpa using hmul)
      refine ⟨_, [(g, .cells T (xs ++ news ++ pad.drop news.length))], _, hr, .inr ⟨_, _, _, rfl, rfl, hroom, h3, ?_, ?_⟩, ?_⟩
      · rw [← h4]
        simp only [List.length_append, List.length_drop] at hmul ⊢
        omega
      · rw [List.length_append, h5, hl, Nat.add_mul]
      · have hu := hst.setRow (vs' := xs ++ news ++ pad.drop news.length) (Upd.tail F)
        have e1 : (xs ++ pad).toArray.toList.take (n * j.size) ++ news ++ (xs ++ pad).toArray.toList.drop (n * j.size + news.length) = xs ++ news ++ pad.drop news.length := by
          rw [← h5]
          simp [List.drop_append]
        rw [e1]
        exact hu
    · have holds : ∀ k u, xs[k]? = some u → w.cell? ((⟨g, 0, none⟩ : Addr).add k) = some u := fun k u hk => by
        rw [add_plain, Nat.zero_add]
        exact hst.cell hmem (by rw [List.getElem?_append_left (List.getElem?_eq_some_iff.1 hk).1]; exact hk)
      have hr := run_append_grow (P := P) w t ty T j z i.ok hj hz ⟨g, 0, none⟩ n cap xs h5 holds ⟨b, o, none⟩ m c news hl hnews' (by omega) (by omega) (growslice_fits (by omega) hb)
      have hge := grownCap_ge w (n + m) cap T
      have hle := grownCap_le_maxLen w (n + m) cap T (by omega)
      refine ⟨_, [(w.heap.size, .cells T (xs ++ news ++ (Builtin.zeroCells z.cells (grownCap w (n + m) cap T - (n + m))).toList))], _, hr, .inr ⟨_, _, _, rfl, rfl, hge, by omega, ?_, ?_⟩, ?_⟩
      · simp only [List.length_append, Array.length_toList, size_zeroCells, hzs, hl, h5, ← Nat.add_mul]
        congr 1; omega
      · rw [List.length_append, h5, hl, Nat.add_mul]
      · have := (St.drewAlloc (F := F) (hst.sub (List.sublist_append_left _ _)) T (xs ++ news ++ (Builtin.zeroCells z.cells (grownCap w (n + m) cap T - (n + m))).toList))
        rw [toArr] at this
        simpa using this

/-- A list of blocks that ends with another one. -/
inductive Tail (H : SH) : SH → SH → Prop where
  | nil : Tail H [] H
  | cons {x : Nat × Blk} {F r : SH} (h : Tail H F r) : Tail H (x :: F) (x :: r)
theorem Tail.eq {H F r : SH} (h : Tail H F r) : r = F ++ H := by
  induction h with
  | nil => rfl
  | cons _ ih => rw [ih]; rfl

variable {n : Nat} {ds : List Deferred} {ops : List Oper} {Q : Exit → Act → World → Prop} {l : List Oper}
theorem run_builtin {b : Builtin} {xs : List Operand} {ts : Array TypeId} {vs : List Value} {v : Value} {w w' : World} {ρ : Operand → Value} (hf : Fits e ρ) (hv : evs e xs = some vs) (h : ∀ cs, (builtin b ts ty cs vs.toArray).run P w = .ok (.value v) w') :
    (execOp ρ ⟨d, .call ⟨.builtin b, xs.toArray, ts⟩, ty, pos, af, g⟩).run P w = .ok (.value v) w' := by
  have := evs_map hf hv
  simp [execOp, resolve, invoke, this, h]
/-- Append of the cells of a block to a slice that the call owns. -/
theorem L.app {t T sz bytes k m o c b : Nat} {F H : SH} {xs us : List Value} {v : Value} {as : List Operand} [i : Ap P t T sz bytes] (hS : SlS T sz k xs v H)
    (hw : wantE ops e ⟨d, .call ⟨.builtin .append, as.toArray, #[t, t]⟩, ty, pos, af, g⟩ = some true := by exact rfl) (hd : dstOk n d = true := by exact rfl) (hv : evs e as = some [v, .slice (some ⟨b, o, none⟩) m c] := by exact rfl)
    (ht : Tail H F hs := by (repeat (first | exact Tail.nil | apply Tail.cons)))
    (hnews : ∀ w, St w0 hs w → ∀ j u, us[j]? = some u → w.cell? ⟨b, o + j, none⟩ = some u) (hl : us.length = m * sz := by exact rfl) (h1 : ∀ u ∈ us, u.oneCell' = true) (hb : (k + m) * bytes ≤ 140737488355328) (h63 : k + m ≤ 9223372036854775807)
    (kk : ∀ v' H', SlS T sz (k + m) (xs ++ us) v' H' → L P n ds w0 ops Q l (consE d v' e) (F ++ H')) : L P n ds w0 ops Q (⟨d, .call ⟨.builtin .append, as.toArray, #[t, t]⟩, ty, pos, af, g⟩ :: l) e hs :=
  L.does (Y := Value × SH) (Φ := fun y => SlS T sz (k + m) (xs ++ us) y.1 y.2) (V := fun y => y.1) (H := fun y => F ++ y.2) hw hd (fun a w ha hst => by
    obtain ⟨v', H', w', hr, h2, h3⟩ := run_app (P := P) (ty := ty) (t := t) (c := c) (by rw [← ht.eq]; exact hst) hS hl (hnews w hst) h1 hb h63
    exact .of_value (w' := w') (run_builtin ha.fits hv fun cs => by simp [builtin, hr]) ⟨(v', H'), h2, rfl, h3⟩) fun y hy => kk y.1 y.2 hy
/-- The same, for one element that lies in a block of its own. -/
theorem L.app1 {t T T' sz bytes k c b : Nat} {F H : SH} {xs us : List Value} {v : Value} {as : List Operand} [i : Ap P t T sz bytes] (hS : SlS T sz k xs v H)
    (hw : wantE ops e ⟨d, .call ⟨.builtin .append, as.toArray, #[t, t]⟩, ty, pos, af, g⟩ = some true := by exact rfl) (hd : dstOk n d = true := by exact rfl) (hv : evs e as = some [v, .slice (some ⟨b, 0, none⟩) 1 c] := by exact rfl)
    (ht : Tail H F hs := by (repeat (first | exact Tail.nil | apply Tail.cons))) (hm : (b, Blk.cells T' us) ∈ hs := by (repeat (first | exact List.Mem.head _ | apply List.Mem.tail))) (hl : us.length = 1 * sz := by exact rfl) (h1 : us.all Value.oneCell' = true := by exact rfl)
    (hb : (k + 1) * bytes ≤ 140737488355328) (h63 : k + 1 ≤ 9223372036854775807)
    (kk : ∀ v' H', SlS T sz (k + 1) (xs ++ us) v' H' → L P n ds w0 ops Q l (consE d v' e) (F ++ H')) : L P n ds w0 ops Q (⟨d, .call ⟨.builtin .append, as.toArray, #[t, t]⟩, ty, pos, af, g⟩ :: l) e hs :=
  L.app hS hw hd hv ht (fun w hst j u hj => by rw [Nat.zero_add]; exact hst.cell hm hj) hl (fun u hu => List.all_eq_true.1 h1 u hu) hb h63 kk

/-! ### Cells of blocks of any length -/
theorem OV.loadx {x : Operand} {b o k : Nat} {lt T : TypeId} {vs us : List Value} [Ag P lt k] (hx : ev e x = some (.pointer (some ⟨b, o, none⟩))) (hm : (b, Blk.cells T vs) ∈ hs) (hl : us.length = k) (hv : ∀ j u, us[j]? = some u → vs[o + j]? = some u) :
    OV P ⟨d, .load lt x, ty, pos, af, g⟩ e w0 hs (.agg us.toArray) := .loadW hx fun w hst => run_loadVar_ag hl fun j v hj => hst.cell hm (hv j v hj)
/-- The cells of a list of elements, each of which has as many. -/
def flat {α : Type} (f : α → List Value) (xs : List α) : List Value := (xs.map f).flatten
theorem flat_nil {α : Type} (f : α → List Value) : flat f [] = [] := rfl
theorem flat_snoc {α : Type} (f : α → List Value) (xs : List α) (x : α) : flat f (xs ++ [x]) = flat f xs ++ f x := by simp [flat]
theorem flat_append {α : Type} (f : α → List Value) (xs ys : List α) : flat f (xs ++ ys) = flat f xs ++ flat f ys := by simp [flat]
theorem flat_length {α : Type} {f : α → List Value} {sz : Nat} (hf : ∀ x, (f x).length = sz) : ∀ xs : List α, (flat f xs).length = xs.length * sz
  | [] => by simp [flat]
  | x :: r => by
    have := flat_length hf r
    simp only [flat, List.map_cons, List.flatten_cons, List.length_append, List.length_cons, Nat.succ_mul] at this ⊢
    rw [hf, this, Nat.add_comm]
theorem flat_get {α : Type} {f : α → List Value} {sz : Nat} (hf : ∀ x, (f x).length = sz) : ∀ (xs : List α) (pad : List Value) (i : Nat) (x : α), xs[i]? = some x → ∀ j u, (f x)[j]? = some u → (flat f xs ++ pad)[i * sz + j]? = some u
  | [], pad, i, x, h => by simp at h
  | y :: r, pad, 0, x, h => fun j u hj => by
    obtain rfl : y = x := by simpa using h
    have hlt := (List.getElem?_eq_some_iff.1 hj).1
    simp only [flat, List.map_cons, List.flatten_cons, Nat.zero_mul, Nat.zero_add, List.append_assoc]
    rw [List.getElem?_append_left hlt]
    exact hj
  | y :: r, pad, i + 1, x, h => fun j u hj => by
    have ih := flat_get hf r pad i x (by simpa using h) j u hj
    simp only [flat, List.map_cons, List.flatten_cons, List.append_assoc] at ih ⊢
    have e1 : (i + 1) * sz + j = (f y).length + (i * sz + j) := by rw [hf, Nat.succ_mul]; omega
    rw [e1, List.getElem?_append_right (by omega), Nat.add_sub_cancel_left]
    exact ih

end D
end Go.Proofs.YtpgbmohocfcjpaaGreatDoor

namespace Go.Proofs.YtpgbmohocfcjpaaGreatDoor
set_option linter.unusedVariables false
set_option linter.unusedSimpArgs false
namespace D
open Go.RowKit

variable {P : Program} {e : Env} {w0 : World} {hs : SH} {d : Option Tmp} {ty : TypeId} {pos : String} {af : Array Edge} {g : Option (Nat × Bool)}
variable {n : Nat} {ds : List Deferred} {ops : List Oper} {Q : Exit → Act → World → Prop} {l : List Oper}

/-- A call's end: its value, and the caller's blocks as it leaves them. -/
def Turns (w0 : World) (v : Value) (H : SH) : Ending → World → Prop := fun e w' => e = .returned v ∧ St w0 H w'
theorem L.tcall {f : FuncId} {r : Nat} {T : TypeId} {us : List Value} {B : Blk} {F : SH} {xs : List Operand} {ts : Array TypeId} {vs : List Value} {v : Value} [j : Ent P f]
    (hw : wantE ops e ⟨d, .call ⟨.value (.func f), xs.toArray, ts⟩, ty, pos, af, g⟩ = some true := by exact rfl) (hd : dstOk n d = true := by exact rfl) (hv : evs e xs = some (.pointer (some ⟨r, 0, none⟩) :: vs) := by exact rfl) (hp : Pull (r, .cells T us) hs F := by (repeat (first | exact Pull.here | apply Pull.there)))
    (h : ∀ w, St w0 ((r, .cells T us) :: F) w → Calls P f (.pointer (some ⟨r, 0, none⟩) :: vs).toArray w (Turns w0 v ((r, B) :: F))) (k : L P n ds w0 ops Q l (consE d v e) ((r, B) :: F)) : L P n ds w0 ops Q (⟨d, .call ⟨.value (.func f), xs.toArray, ts⟩, ty, pos, af, g⟩ :: l) e hs :=
  L.does (Y := Unit) (Φ := fun _ => True) (V := fun _ => v) (H := fun _ => (r, B) :: F) hw hd (fun a w ha hst => by
    unfold Does
    rw [run_call ha.fits rfl hv]
    simpa using Calls.mono (h w (hst.perm hp.perm)) fun e' w' ⟨he, hs'⟩ => ⟨v, he, rfl, hs'⟩) fun _ _ => k
theorem rett {fn : Func} {rs : List ResultVar} {vs : List Value} {v : Value} {H : SH} (hv : tupleOf vs = v) (hrs : fn.results = rs.toArray := by exact rfl) (h : RVs P n [] w0 e hs rs vs := by (repeat (first | exact RVs.nil | (apply RVs.cons; (· first | exact RV.tmp rfl | (apply RV.cellk; exact rfl; (· (repeat (first | exact List.Mem.head _ | apply List.Mem.tail))); (· (repeat (first | exact Rd.nil | apply Rd.take | apply Rd.skip)))) | (apply RV.cell1; exact rfl; (· (repeat (first | exact List.Mem.head _ | apply List.Mem.tail))); (· (repeat (first | exact Rd.nil | apply Rd.take | apply Rd.skip)))))))))
    (hs' : H.Sublist hs := by (repeat (first | exact List.Sublist.refl _ | apply List.Sublist.cons_cons | apply List.Sublist.cons))) : X n [] w0 (bodyPost P fn (Turns w0 v H)) .ret e hs :=
  X.body rfl hrs h fun w hst => ⟨by rw [hv], hst.sub hs'⟩

end D
end Go.Proofs.YtpgbmohocfcjpaaGreatDoor

namespace Go.Proofs.YtpgbmohocfcjpaaGreatDoor
set_option linter.unusedVariables false
set_option linter.unusedSimpArgs false
namespace D
open Go.RowKit
open Go.PlainAid (bt)

variable {P : Program} {e : Env} {w0 : World} {hs : SH} {d : Option Tmp} {ty : TypeId} {pos : String} {af : Array Edge} {g : Option (Nat × Bool)}

/-! ### Strings -/
theorem size_lit (l : List UInt8) : (⟨l.toArray⟩ : ByteArray).size = l.length := rfl
theorem PV.cat {x y : Operand} {a b : ByteArray} {xt yt : TypeId} (hx : ev e x = some (.string a)) (hy : ev e y = some (.string b)) (h : a.size + b.size ≤ 9223372036854775807) : PV P ⟨d, .binOp .add xt x y yt, ty, pos, af, g⟩ e (.string (a ++ b)) :=
  .bin hx hy (eqGuard_strings _ _ _ _ _ _) fun w => by rw [binOp_string_add, run_string_add_sum w a b h]
theorem bytes_dec (a b : ByteArray) : (a.toList == b.toList) = decide (a = b) := by
  rw [Bool.eq_iff_iff]
  simp only [beq_iff_eq, decide_eq_true_eq, ByteArray.toList_eq]
  exact ⟨fun h => WideShapes.bytes_inj h, fun h => by rw [h]⟩
theorem PV.eqlS {x y : Operand} {a b : ByteArray} {xt yt : TypeId} (hx : ev e x = some (.string a)) (hy : ev e y = some (.string b)) : PV P ⟨d, .binOp .eql xt x y yt, ty, pos, af, g⟩ e (.bool (decide (a = b))) :=
  .bin hx hy (eqGuard_strings _ _ _ _ _ _) fun w => by simp [Go.binOp, Op.stringOp, bytes_dec]
theorem PV.neqS {x y : Operand} {a b : ByteArray} {xt yt : TypeId} (hx : ev e x = some (.string a)) (hy : ev e y = some (.string b)) : PV P ⟨d, .binOp .neq xt x y yt, ty, pos, af, g⟩ e (.bool (!decide (a = b))) :=
  .bin hx hy (eqGuard_strings _ _ _ _ _ _) fun w => by simp [Go.binOp, Op.stringOp, bytes_dec, bne]
theorem PV.idxSt {t : TypeId} {s : ByteArray} {x y : Operand} {kk : IntKind} {k : Int} [i : StT P t] (hx : ev e x = some (.string s)) (hy : ev e y = some (.int kk k)) (h : 0 ≤ k ∧ k < s.size) : PV P ⟨d, .index t x y, ty, pos, af, g⟩ e (.int .u8 (bt s k.toNat)) := .mk fun ρ hf w => by
  have h2 : k.toNat < s.size := by omega
  simp only [execOp, hf x _ hx, hf y _ hy]
  rw [Sem.run_bind, run_index_string w t s kk k i.ok, dif_pos h]
  simp [bt, h2]
theorem PV.slSt {t : TypeId} {s : ByteArray} {x a b : Operand} {ka kb : IntKind} {p q : Int} [i : StT P t] (hx : ev e x = some (.string s)) (ha : ev e a = some (.int ka p)) (hb : ev e b = some (.int kb q)) (h0 : 0 ≤ p) (h1 : p ≤ q) (h2 : q ≤ s.size) :
    PV P ⟨d, .slice t x (some a) (some b) none, ty, pos, af, g⟩ e (.string (s.extract p.toNat q.toNat)) := .mk fun ρ hf w => by
  obtain ⟨p', rfl⟩ := Int.eq_ofNat_of_zero_le h0
  obtain ⟨q', rfl⟩ := Int.eq_ofNat_of_zero_le (show 0 ≤ q by omega)
  have h4 : p' ≤ q' := by omega
  have h5 : q' ≤ s.size := by omega
  simp [execOp, hf x _ hx, hf a _ ha, hf b _ hb, Instr.sliceAt, Instr.slice, run_underlying i.ok, Instr.sliceBounds, run_sliceBound, h4, h5]
theorem PV.slStTo {t : TypeId} {s : ByteArray} {x b : Operand} {kb : IntKind} {q : Int} [i : StT P t] (hx : ev e x = some (.string s)) (hb : ev e b = some (.int kb q)) (h0 : 0 ≤ q) (h2 : q ≤ s.size) :
    PV P ⟨d, .slice t x none (some b) none, ty, pos, af, g⟩ e (.string (s.extract 0 q.toNat)) := .mk fun ρ hf w => by
  simp [execOp, hf x _ hx, hf b _ hb, Instr.sliceAt, Instr.slice, run_underlying i.ok, Instr.sliceBounds, run_sliceBound, h0, h2]
theorem PV.slStFrom {t : TypeId} {s : ByteArray} {x a : Operand} {ka : IntKind} {p : Int} [i : StT P t] (hx : ev e x = some (.string s)) (ha : ev e a = some (.int ka p)) (h0 : 0 ≤ p) (h1 : p ≤ s.size) :
    PV P ⟨d, .slice t x (some a) none none, ty, pos, af, g⟩ e (.string (s.extract p.toNat s.size)) := .mk fun ρ hf w => by
  simp [execOp, hf x _ hx, hf a _ ha, Instr.sliceAt, Instr.slice, run_underlying i.ok, Instr.sliceBounds, run_sliceBound, h0, h1]

/-! ### Bytes -/
class U8 (P : Program) (t : TypeId) : Prop where
  ok : P.underlying t = some (.int .u8)
theorem u8_in {n : Int} (h0 : 0 ≤ n) (h1 : n ≤ 255) : IntKind.u8.wrap n = n := by simp [IntKind.wrap, IntKind.bits, IntKind.signed]; omega
theorem PV.convU8 {x : Operand} {k : IntKind} {m : Int} {st dt : TypeId} [j : Sc P st] [i : U8 P dt] (hx : ev e x = some (.int k m)) (h1 : 0 ≤ m) (h2 : m ≤ 255) : PV P ⟨d, .convert st dt x, ty, pos, af, g⟩ e (.int .u8 m) := .mk fun ρ hf w => by
  obtain ⟨sd, hs, _⟩ := j.ok
  simp [execOp, hf x _ hx, convert, run_underlying hs, run_underlying i.ok, Conv.intToInt, u8_in h1 h2]
theorem PV.subU8 {x y : Operand} {m k : Int} {xt yt : TypeId} (hx : ev e x = some (.int .u8 m)) (hy : ev e y = some (.int .u8 k)) (h1 : 0 ≤ m - k) (h2 : m - k ≤ 255) : PV P ⟨d, .binOp .sub xt x y yt, ty, pos, af, g⟩ e (.int .u8 (m - k)) := by
  have := PV.subw (P := P) (d := d) (ty := ty) (pos := pos) (af := af) (g := g) (xt := xt) (yt := yt) hx hy
  rwa [u8_in h1 h2] at this
theorem PV.addU8 {x y : Operand} {m k : Int} {xt yt : TypeId} (hx : ev e x = some (.int .u8 m)) (hy : ev e y = some (.int .u8 k)) (h1 : 0 ≤ m + k) (h2 : m + k ≤ 255) : PV P ⟨d, .binOp .add xt x y yt, ty, pos, af, g⟩ e (.int .u8 (m + k)) := by
  have := PV.addw (P := P) (d := d) (ty := ty) (pos := pos) (af := af) (g := g) (xt := xt) (yt := yt) hx hy
  rwa [u8_in h1 h2] at this
/-- Bytes of a row of the call's own, as a string. -/
inductive Nums : List Value → List Int → Prop where
  | nil : Nums [] []
  | cons {m : Int} {r : List Value} {ns : List Int} (h : Nums r ns) : Nums (.int .u8 m :: r) (m :: ns)
theorem Nums.eq {vs : List Value} {ns : List Int} (h : Nums vs ns) : vs = ns.map (Value.int .u8) := by
  induction h with
  | nil => rfl
  | cons _ ih => rw [ih]; rfl
theorem OV.strOf {x : Operand} {b o len cap : Nat} {st dt el T : TypeId} {es : Nat} {vs us : List Value} {ns : List Int} [i : SlT P st el es] [k : U8 P el] [j : StT P dt] (hx : ev e x = some (.slice (some ⟨b, o, none⟩) len cap)) (hm : (b, Blk.cells T vs) ∈ hs) (hv : Rd o len vs us) (hn : Nums us ns) :
    OV P ⟨d, .convert st dt x, ty, pos, af, g⟩ e w0 hs (.string (strOfNums ns)) := .mk fun ρ w hf hst => by
  have hl : us.length = len := hv.length
  have hus := hn.eq
  have hlen : ns.length = len := by rw [← hl, hus]; simp
  refine .of_value (w' := w) ?_ ⟨rfl, .refl _⟩
  have := run_convert_bytes_arg (P := P) w st el i.ok k.ok b o len cap ns hlen (fun q hq => by
    refine hst.cell hm (hv.at q _ ?_)
    rw [hus]
    have : q < ns.length := by omega
    simp [List.getD, this]) dt j.ok
  simp [execOp, hf x _ hx, this]

/-! ### Interfaces -/
class Ci (P : Program) (t : TypeId) : Prop where
  ok : ∃ dsc, P.underlying t = some dsc ∧ (match dsc with | .interface _ => true | _ => false) = false
theorem PV.mkIface {x : Operand} {v : Value} {xt : TypeId} [i : Ci P xt] (hx : ev e x = some v) : PV P ⟨d, .makeInterface xt x, ty, pos, af, g⟩ e (.iface xt v) := .mk fun ρ hf w => by
  obtain ⟨dsc, hu, hd⟩ := i.ok
  simp only [execOp, hf x _ hx, Instr.makeInterface]
  cases dsc <;> simp_all [run_underlying hu]
theorem PV.assertT {x : Operand} {t xt : TypeId} {v : Value} [i : Ci P t] (hx : ev e x = some (.iface t v)) : PV P ⟨d, .typeAssert x xt t true, ty, pos, af, g⟩ e (.tuple #[v, .bool true]) := .mk fun ρ hf w => by
  obtain ⟨dsc, hu, hd⟩ := i.ok
  simp only [execOp, hf x _ hx, Instr.typeAssert]
  cases dsc <;> simp_all [run_underlying hu]
theorem PV.assert1 {x : Operand} {t xt : TypeId} {v : Value} [i : Ci P t] (hx : ev e x = some (.iface t v)) : PV P ⟨d, .typeAssert x xt t false, ty, pos, af, g⟩ e v := .mk fun ρ hf w => by
  obtain ⟨dsc, hu, hd⟩ := i.ok
  simp only [execOp, hf x _ hx, Instr.typeAssert]
  cases dsc <;> simp_all [run_underlying hu]
class Zv (P : Program) (t : TypeId) (z : outParam Value) : Prop where
  ok : (P.info? t).bind (·.zero) = some z
theorem PV.assertF {x : Operand} {t t' xt : TypeId} {v z : Value} [i : Ci P t] [k : Zv P t z] (hx : ev e x = some (.iface t' v)) (hne : Nat.beq t' t = false) : PV P ⟨d, .typeAssert x xt t true, ty, pos, af, g⟩ e (.tuple #[z, .bool false]) := .mk fun ρ hf w => by
  obtain ⟨dsc, hu, hd⟩ := i.ok
  have hn := Nat.ne_of_beq_eq_false hne
  have hz : (zeroValue t).run P w = .ok z w := by
    have h := k.ok
    cases hq : P.info? t with
    | none => simp [hq] at h
    | some j => simp [hq] at h; simp [zeroValue, typeInfo, hq, h]
  simp only [execOp, hf x _ hx, Instr.typeAssert]
  cases dsc <;> simp_all [run_underlying hu]
/-- Which function a method of a type is. -/
class Mth (P : Program) (t : TypeId) (v : Value) (name : String) (f : outParam FuncId) (r : outParam Value) : Prop where
  ok : ∀ w, (method (P.types.size + Made.depth) t v name).run P w = .ok (f, r) w
variable {n : Nat} {ds : List Deferred} {ops : List Oper} {Q : Exit → Act → World → Prop} {l : List Oper}
theorem run_inv {f : FuncId} {x : Operand} {xs : List Operand} {ts : Array TypeId} {t : TypeId} {name : String} {v r : Value} {vs : List Value} [i : Ent P f] (m : Mth P t v name f r) {ρ : Operand → Value} (hf : Fits e ρ) (hx : ev e x = some (.iface t v)) (hv : evs e xs = some vs) (w : World) :
    (execOp ρ ⟨d, .call ⟨.invoke x name, xs.toArray, ts⟩, ty, pos, af, g⟩).run P w = .ok (.enter f (r :: vs).toArray) w := by
  have := evs_map hf hv
  simp [execOp, resolve, invoke, callMethod, hf x _ hx, this, m.ok, i.ok]
theorem L.inv {f : FuncId} {x : Operand} {xs : List Operand} {ts : Array TypeId} {t : TypeId} {name : String} {u r : Value} {vs : List Value} {v : Value} (hw : wantE ops e ⟨d, .call ⟨.invoke x name, xs.toArray, ts⟩, ty, pos, af, g⟩ = some true := by exact rfl) (hd : dstOk n d = true := by exact rfl)
    (hx : ev e x = some (.iface t u) := by exact rfl) (hv : evs e xs = some vs := by exact rfl) (m : Mth P t u name f r := by infer_instance) (j : Ent P f := by infer_instance)
    (h : ∀ w, St w0 hs w → Calls P f (r :: vs).toArray w fun e w' => e = .returned v ∧ Below w.heap.size w w') (k : L P n ds w0 ops Q l (consE d v e) hs) : L P n ds w0 ops Q (⟨d, .call ⟨.invoke x name, xs.toArray, ts⟩, ty, pos, af, g⟩ :: l) e hs :=
  L.v hw hd (.mk fun ρ w hf hst => by
    unfold Does
    rw [run_inv m hf hx hv]
    simpa using Calls.mono (h w hst) fun e' w' ⟨he, hb⟩ => ⟨v, he, rfl, .of_below hb⟩) k

/-- A method of an interface's value that turns a block of the caller's. -/
theorem L.tinv (b : Nat) {f : FuncId} {x : Operand} {xs : List Operand} {ts : Array TypeId} {t : TypeId} {name : String} {u r : Value} {vs : List Value} {v : Value} {T : TypeId} {us : List Value} {B : Blk} {F : SH} (hw : wantE ops e ⟨d, .call ⟨.invoke x name, xs.toArray, ts⟩, ty, pos, af, g⟩ = some true := by exact rfl) (hd : dstOk n d = true := by exact rfl)
    (hx : ev e x = some (.iface t u) := by exact rfl) (hv : evs e xs = some vs := by exact rfl) (m : Mth P t u name f r := by infer_instance) (j : Ent P f := by infer_instance) (hp : Pull (b, .cells T us) hs F := by (repeat (first | exact Pull.here | apply Pull.there)))
    (h : ∀ w, St w0 ((b, .cells T us) :: F) w → Calls P f (r :: vs).toArray w (Turns w0 v ((b, B) :: F))) (k : L P n ds w0 ops Q l (consE d v e) ((b, B) :: F)) : L P n ds w0 ops Q (⟨d, .call ⟨.invoke x name, xs.toArray, ts⟩, ty, pos, af, g⟩ :: l) e hs :=
  L.does (Y := Unit) (Φ := fun _ => True) (V := fun _ => v) (H := fun _ => (b, B) :: F) hw hd (fun a w ha hst => by
    unfold Does
    rw [run_inv m ha.fits hx hv]
    simpa using Calls.mono (h w (hst.perm hp.perm)) fun e' w' ⟨he, hs'⟩ => ⟨v, he, rfl, hs'⟩) fun _ _ => k
/-- A call that turns a block of the caller's, wherever its pointer stands. -/
theorem L.tcallb (b : Nat) {f : FuncId} {xs : List Operand} {ts : Array TypeId} {vs : List Value} {v : Value} {T : TypeId} {us : List Value} {B : Blk} {F : SH} [j : Ent P f] (hw : wantE ops e ⟨d, .call ⟨.value (.func f), xs.toArray, ts⟩, ty, pos, af, g⟩ = some true := by exact rfl) (hd : dstOk n d = true := by exact rfl)
    (hv : evs e xs = some vs := by exact rfl) (hp : Pull (b, .cells T us) hs F := by (repeat (first | exact Pull.here | apply Pull.there)))
    (h : ∀ w, St w0 ((b, .cells T us) :: F) w → Calls P f vs.toArray w (Turns w0 v ((b, B) :: F))) (k : L P n ds w0 ops Q l (consE d v e) ((b, B) :: F)) : L P n ds w0 ops Q (⟨d, .call ⟨.value (.func f), xs.toArray, ts⟩, ty, pos, af, g⟩ :: l) e hs :=
  L.does (Y := Unit) (Φ := fun _ => True) (V := fun _ => v) (H := fun _ => (b, B) :: F) hw hd (fun a w ha hst => by
    unfold Does
    rw [run_call ha.fits rfl hv]
    simpa using Calls.mono (h w (hst.perm hp.perm)) fun e' w' ⟨he, hs'⟩ => ⟨v, he, rfl, hs'⟩) fun _ _ => k

/-! ### Loops that are unrolled -/
theorem C.rounds {c : Code} (N : Nat) (h : C P n ds w0 (Exit.then (Code.rounds P c Q N) Q) c e hs) : C P n ds w0 Q (.loop c) e hs := .mk fun a w ha hst => wp_loop_rounds (N + 1) (h.ok a w ha hst)
theorem X.then_rounds {c : Code} {N : Nat} (h : C P n ds w0 (Exit.then (Code.rounds P c Q N) Q) c e hs) : X n ds w0 (Exit.then (Code.rounds P c Q (N + 1)) Q) .normal e hs := .mk fun a w ha hst => h.ok a w ha hst

/-! ### Rows that are made -/
theorem madeCells_rep (c : Nat) {z : Array Value} {zs : List Value} (h : z = zs.toArray) : madeCells z (c * zs.length) = (rep c zs).toArray := by
  subst h
  unfold madeCells
  exact rep_range c zs
theorem ON.mkSl {t T sz bytes : Nat} {zs : List Value} {x y : Operand} {kl kc : IntKind} {lo c : Int} [i : Ap P t T sz bytes] [k : BS P t T zs] (hx : ev e x = some (.int kl lo)) (hy : ev e y = some (.int kc c)) (h0 : 0 ≤ lo) (h1 : lo ≤ c) (h2 : (bytes : Int) * c ≤ 281474976710656) (h3 : c ≤ 9223372036854775807) :
    ON P ⟨d, .makeSlice t x y, ty, pos, af, g⟩ e w0 hs (NewSl lo.toNat c.toNat (.cells T (rep c.toNat zs))) := .mk fun ρ w hf hst => by
  obtain ⟨j, z, hj, hz, hsz, hby, hzs⟩ := i.get
  have hk := k.zr
  simp only [hj, Option.bind_some, hz, Option.map_some, Option.some.injEq] at hk
  have hlen : zs.length = j.size := by rw [hsz, ← hzs, hk]; simp
  have hr := run_make (P := P) w t T j z i.ok hj hz kl kc lo c h0 h1 (by rw [hby]; exact h2) h3
  rw [← hlen, madeCells_rep c.toNat hk] at hr
  refine .of_value (w' := w.alloc (.cells (rep c.toNat zs).toArray T)) (v := .slice (some ⟨w.heap.size, 0, none⟩) lo.toNat c.toNat) ?_ ⟨_, ⟨w.heap.size, rfl, rfl⟩, New.alloc w (.cells T (rep c.toNat zs))⟩
  simp [execOp, hf x _ hx, hf y _ hy, hr]

end D
end Go.Proofs.YtpgbmohocfcjpaaGreatDoor

namespace Go.Proofs.YtpgbmohocfcjpaaGreatDoor
set_option linter.unusedVariables false
set_option linter.unusedSimpArgs false
namespace D
open Go.RowKit

/-- A method of an interface's value that returns a new row. -/
theorem L.invsl {P : Program} {e : Env} {w0 : World} {hs : SH} {d : Option Tmp} {ty : TypeId} {pos : String} {af : Array Edge} {g : Option (Nat × Bool)} {n : Nat} {ds : List Deferred} {ops : List Oper} {Q : Exit → Act → World → Prop} {l : List Oper}
    {f : FuncId} {x : Operand} {xs : List Operand} {ts : Array TypeId} {t : TypeId} {name : String} {u r : Value} {vs : List Value} {len c : Nat} {B : Blk} (hw : wantE ops e ⟨d, .call ⟨.invoke x name, xs.toArray, ts⟩, ty, pos, af, g⟩ = some true := by exact rfl) (hd : dstOk n d = true := by exact rfl)
    (hx : ev e x = some (.iface t u) := by exact rfl) (hv : evs e xs = some vs := by exact rfl) (m : Mth P t u name f r := by infer_instance) (j : Ent P f := by infer_instance)
    (h : ∀ w, St w0 hs w → Calls P f (r :: vs).toArray w (Ret w (NewSl len c B))) (k : ∀ b : Nat, L P n ds w0 ops Q l (consE d (.slice (some ⟨b, 0, none⟩) len c) e) ((b, B) :: hs)) : L P n ds w0 ops Q (⟨d, .call ⟨.invoke x name, xs.toArray, ts⟩, ty, pos, af, g⟩ :: l) e hs :=
  L.nsl hw hd (.mk fun ρ w hf hst => by
    unfold Does
    rw [run_inv m hf hx hv]
    simpa using Calls.mono (h w hst) fun e' w' ⟨v, H, he, hR, hn⟩ => ⟨v, he, H, hR, hn⟩) k

section
variable {P : Program} {e : Env} {w0 : World} {hs : SH} {d : Option Tmp} {ty : TypeId} {pos : String} {af : Array Edge} {g : Option (Nat × Bool)}
variable {n : Nat} {ops : List Oper} {l : List Oper} {Rs : List Sp} {K : Env → SH → Prop} {i : Nat} {acc : List (Nat × SH)} {own : SH} {Z : Lend}
theorem G.slcall {f : FuncId} {xs : List Operand} {ts : Array TypeId} {vs : List Value} {len c : Nat} {B : Blk} [j : Ent P f] (hw : wantE ops e ⟨d, .call ⟨.value (.func f), xs.toArray, ts⟩, ty, pos, af, g⟩ = some true := by exact rfl) (hd : dstOk n d = true := by exact rfl) (hv : evs e xs = some vs := by exact rfl)
    (h : ∀ w, St w0 hs w → Calls P f vs.toArray w (Ret w (NewSl len c B))) (k : ∀ b : Nat, G P n w0 Z ops hs K (i + 1) l Rs (consE d (.slice (some ⟨b, 0, none⟩) len c) e) ((i, [(b, B)]) :: acc) ((b, B) :: own)) :
    G P n w0 Z ops hs K i (⟨d, .call ⟨.value (.func f), xs.toArray, ts⟩, ty, pos, af, g⟩ :: l) (some (NewSl len c B) :: Rs) e acc own :=
  G.nsl hw hd (ON.call hv h) k
/-- A call that looks at memory that the region itself has made. -/
theorem G.calld (X : SH) {f : FuncId} {xs : List Operand} {ts : Array TypeId} {vs : List Value} {v : Value} [j : Ent P f] (hX : sel ops i acc = X := by kernel_rfl) (hw : wantE ops e ⟨d, .call ⟨.value (.func f), xs.toArray, ts⟩, ty, pos, af, g⟩ = some true := by exact rfl) (hd : dstOk n d = true := by exact rfl) (hv : evs e xs = some vs := by exact rfl)
    (h : ∀ w, St w0 (X ++ hs) w → Calls P f vs.toArray w fun e w' => e = .returned v ∧ Below w.heap.size w w') (k : G P n w0 Z ops hs K (i + 1) l Rs (consE d v e) acc own) :
    G P n w0 Z ops hs K i (⟨d, .call ⟨.value (.func f), xs.toArray, ts⟩, ty, pos, af, g⟩ :: l) (some (Eqv v) :: Rs) e acc own :=
  G.vd hX hw hd (OV.call hv h) k
end

end D
end Go.Proofs.YtpgbmohocfcjpaaGreatDoor

namespace Go.Proofs.YtpgbmohocfcjpaaGreatDoor
set_option linter.unusedVariables false
set_option linter.unusedSimpArgs false
namespace D
open Go.RowKit

variable {P : Program} {e : Env} {w0 : World} {hs : SH} {d : Option Tmp} {ty : TypeId} {pos : String} {af : Array Edge} {g : Option (Nat × Bool)}
variable {n : Nat} {ds : List Deferred} {ops : List Oper} {Q : Exit → Act → World → Prop} {l : List Oper}

/-- A call's end: what is told of its value and of the blocks that it leaves. -/
def TurnsR (w0 : World) (R : Value → SH → Prop) : Ending → World → Prop := fun e w' => ∃ v H, e = .returned v ∧ R v H ∧ St w0 H w'
theorem L.tcallR (b : Nat) {f : FuncId} {xs : List Operand} {ts : Array TypeId} {vs : List Value} {T : TypeId} {us : List Value} {F : SH} {R : Value → SH → Prop} [j : Ent P f] (hw : wantE ops e ⟨d, .call ⟨.value (.func f), xs.toArray, ts⟩, ty, pos, af, g⟩ = some true := by exact rfl) (hd : dstOk n d = true := by exact rfl)
    (hv : evs e xs = some vs := by exact rfl) (hp : Pull (b, .cells T us) hs F := by (repeat (first | exact Pull.here | apply Pull.there)))
    (h : ∀ w, St w0 ((b, .cells T us) :: F) w → Calls P f vs.toArray w (TurnsR w0 R)) (k : ∀ v H, R v H → L P n ds w0 ops Q l (consE d v e) H) : L P n ds w0 ops Q (⟨d, .call ⟨.value (.func f), xs.toArray, ts⟩, ty, pos, af, g⟩ :: l) e hs :=
  L.does (Y := Value × SH) (Φ := fun y => R y.1 y.2) (V := fun y => y.1) (H := fun y => y.2) hw hd (fun a w ha hst => by
    unfold Does
    rw [run_call ha.fits rfl hv]
    simpa using Calls.mono (h w (hst.perm hp.perm)) fun e' w' ⟨v, H, he, hR, hs'⟩ => ⟨v, he, v, H, hR, rfl, hs'⟩) fun y hy => k y.1 y.2 hy
theorem rettR {fn : Func} {rs : List ResultVar} {vs : List Value} {R : Value → SH → Prop} (H : SH) (hR : R (tupleOf vs) H) (hrs : fn.results = rs.toArray := by exact rfl) (h : RVs P n [] w0 e hs rs vs := by (repeat (first | exact RVs.nil | (apply RVs.cons; (· first | exact RV.tmp rfl | (apply RV.cellk; exact rfl; (· (repeat (first | exact List.Mem.head _ | apply List.Mem.tail))); (· (repeat (first | exact Rd.nil | apply Rd.take | apply Rd.skip)))) | (apply RV.cell1; exact rfl; (· (repeat (first | exact List.Mem.head _ | apply List.Mem.tail))); (· (repeat (first | exact Rd.nil | apply Rd.take | apply Rd.skip)))))))))
    (hs' : H.Sublist hs := by (repeat (first | exact List.Sublist.refl _ | apply List.Sublist.cons_cons | apply List.Sublist.cons))) : X n [] w0 (bodyPost P fn (TurnsR w0 R)) .ret e hs :=
  X.body rfl hrs h fun w hst => ⟨_, _, rfl, hR, hst.sub hs'⟩

end D
end Go.Proofs.YtpgbmohocfcjpaaGreatDoor
