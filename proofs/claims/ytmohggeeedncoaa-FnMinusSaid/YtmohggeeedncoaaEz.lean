/- The engine: a list, and zeros, behind a list of ranges in a block of the call's own. -/
import Derived.Test.YtmohggeeedncoaaEp
import Derived.Lib.AppendZerosOnto
namespace Go.Proofs.Ytmohggeeedncoaa
set_option linter.unusedVariables false
set_option linter.unusedSimpArgs false
set_option maxRecDepth 100000
namespace D
open Go.RowKit

variable {P : Program} {e : Env} {w0 : World} {hs : SH} {d : Option Tmp} {ty : TypeId} {pos : String} {af : Array Edge} {g : Option (Nat × Bool)}
variable {n : Nat} {ds : List Deferred} {ops : List Oper} {Q : Exit → Act → World → Prop} {l : List Oper}

theorem one_flat (M : List Rg) : ∀ u ∈ flat rc M, u.oneCell' = true := fun u hu => by
  simp only [flat, List.mem_flatten, List.mem_map] at hu
  obtain ⟨l, ⟨r, _, rfl⟩, hu⟩ := hu
  simp only [rc, List.mem_cons, List.not_mem_nil, or_false] at hu
  rcases hu with rfl | rfl <;> rfl
theorem rs_of_sls {M : List Rg} {v : Value} {H : SH} (h : SlS 34 2 M.length (flat rc M) v H) : (v = .slice none 0 0 ∧ M = [] ∧ H = []) ∨ RS M v H := by
  rcases h with ⟨rfl, h, _, rfl⟩ | ⟨b, c, pad, rfl, rfl, h1, h2, h3, _⟩
  · exact .inl ⟨rfl, List.eq_nil_of_length_eq_zero h, rfl⟩
  · exact .inr ⟨b, c, pad, rfl, rfl, h1, h2, h3⟩
/-- A list is appended: the slice was made, so it stays one. -/
theorem run_appL [i : Ap P 24 34 2 16] {w : World} {M N : List Rg} {b c b1 c1 : Nat} {F : SH} {pad : List Value} (hS : RSf M c pad) (hst : St w0 (F ++ [(b, rblk M pad)]) w)
    (hN : ∀ j u, (flat rc N)[j]? = some u → w.cell? ⟨b1, 0 + j, none⟩ = some u) (hb : M.length + N.length ≤ 1000000000) :
    ∃ v H w', (Builtin.append_ #[24, 24] ty #[.slice (some ⟨b, 0, none⟩) M.length c, .slice (some ⟨b1, 0, none⟩) N.length c1]).run P w = .ok v w' ∧ RS (M ++ N) v H ∧ St w0 (F ++ H) w' := by
  by_cases hN0 : N = []
  · subst hN0
    refine ⟨.slice (some ⟨b, 0, none⟩) M.length c, [(b, rblk M pad)], w, ?_, ⟨b, c, pad, by simp, by simp, by simpa using hS⟩, hst⟩
    obtain ⟨j, z, hj, hz, hsz, hby, hzs⟩ := i.get
    have hle := hS.le
    simp [Builtin.append_, run_underlying i.ok, sizeOf, typeInfo, hj, Builtin.lenOf, hle, Builtin.firstCells, loadCells, loadCellsFrom, storeCells]
  · obtain ⟨v, H, w', h1, h2, h3⟩ := run_app (P := P) (ty := ty) (t := 24) (c := c1) hst hS.sls (flat_length rc_len N) hN (one_flat N) (by omega) (by omega)
    rw [← flat_append, ← List.length_append] at h2
    exact ⟨v, H, w', h1, sls_rs (by simp [hN0]) h2, h3⟩
theorem L.rappL [i : Ap P 24 34 2 16] {M N : List Rg} {b c b1 c1 : Nat} {F : SH} {pad pad1 : List Value} {xa : List Operand} (hS : RSf M c pad)
    (ht : Tail [(b, rblk M pad)] F hs := by (repeat (first | exact Tail.nil | apply Tail.cons)))
    (hw : wantE ops e ⟨d, .call ⟨.builtin .append, xa.toArray, #[24, 24]⟩, ty, pos, af, g⟩ = some true := by exact rfl) (hd : dstOk n d = true := by exact rfl) (hv : evs e xa = some [.slice (some ⟨b, 0, none⟩) M.length c, .slice (some ⟨b1, 0, none⟩) N.length c1] := by exact rfl)
    (hm : (b1, rblk N pad1) ∈ hs := by (repeat (first | exact List.Mem.head _ | apply List.Mem.tail))) (hb : M.length + N.length ≤ 1000000000)
    (kk : ∀ (b' c' : Nat) (pad' : List Value), RSf (M ++ N) c' pad' → L P n ds w0 ops Q l (consE d (.slice (some ⟨b', 0, none⟩) (M ++ N).length c') e) (F ++ [(b', rblk (M ++ N) pad')])) : L P n ds w0 ops Q (⟨d, .call ⟨.builtin .append, xa.toArray, #[24, 24]⟩, ty, pos, af, g⟩ :: l) e hs :=
  L.does (Y := Value × SH) (Φ := fun y => RS (M ++ N) y.1 y.2) (V := fun y => y.1) (H := fun y => F ++ y.2) hw hd (fun a w ha hst => by
    obtain ⟨v', H', w', hr, h2, h3⟩ := run_appL (P := P) (ty := ty) (b1 := b1) (c1 := c1) hS (by rw [← ht.eq]; exact hst) (fun j u hj => by
      rw [Nat.zero_add]
      exact hst.cell hm (by rw [List.getElem?_append_left (List.getElem?_eq_some_iff.1 hj).1]; exact hj)) hb
    exact .of_value (w' := w') (run_builtin ha.fits hv fun cs => by simp [builtin, hr]) ⟨(v', H'), h2, rfl, h3⟩) fun y hy => by
      obtain ⟨v, H⟩ := y
      obtain ⟨b', c', pad', rfl, rfl, hR⟩ := hy
      exact kk b' c' pad' hR

theorem zeros_rg (k : Nat) : Builtin.zeroCells (Value.agg #[.int .i64 0, .int .i64 0]).cells k = (flat rc (List.replicate k (0, 0))).toArray := by
  have h := rep_range k [.int .i64 0, .int .i64 0]
  have e : rep k [.int .i64 0, .int .i64 0] = flat rc (List.replicate k (0, 0)) := by
    clear h
    induction k with
    | zero => rfl
    | succ k ih => rw [rep, ih, List.replicate_succ]; rfl
  rw [← e, ← h]
  rfl
/-- Zeros are appended. -/
theorem run_appz [i : Ap P 24 34 2 16] [ki : I64 P 3] (hz0 : (P.info? 34).bind (·.zero) = some (.agg #[.int .i64 0, .int .i64 0])) {w : World} {M : List Rg} {b c k : Nat} {F : SH} {pad : List Value} (hS : RSf M c pad) (hst : St w0 (F ++ [(b, rblk M pad)]) w)
    (hk : 0 < k) (hb : M.length + k ≤ 1000000) :
    ∃ v H w', (Builtin.append_ #[24, 3] ty #[.slice (some ⟨b, 0, none⟩) M.length c, .int .i64 k]).run P w = .ok v w' ∧ RS (M ++ List.replicate k (0, 0)) v H ∧ St w0 (F ++ H) w' := by
  obtain ⟨j, z, hj, hz, hsz, hby, hzs⟩ := i.get
  obtain rfl : z = .agg #[.int .i64 0, .int .i64 0] := by simpa [hj, hz] using hz0
  have hlen := hS.len
  have hfl := flat_length rc_len M
  have hfr := flat_length rc_len (List.replicate k ((0 : Int), (0 : Int)))
  rw [List.length_replicate] at hfr
  have hmem : (b, rblk M pad) ∈ F ++ [(b, rblk M pad)] := List.mem_append_right _ (List.Mem.head _)
  have hheap := hst.heap hmem
  by_cases hroom : M.length + k ≤ c
  · rw [List.length_append, hfl] at hlen
    have hw : IntKind.i64.wrap (k : Int) = k := IntWalk.i64_in _ (by omega)
    have hneg : ¬ ((k : Int) < 0) := by omega
    have hk0 : ¬ k = 0 := by omega
    have h48 : ¬ (281474976710656 < (k : Int) * 16) := by omega
    have hst1 := run_storeCells_at P b (M.length * 2) 34 (flat rc (List.replicate k (0, 0))) 0 (flat rc M ++ pad).toArray w hheap (by simp only [List.size_toArray, List.length_append, hfl, hfr]; omega) (one_flat _)
    simp only [Nat.add_zero] at hst1
    have hu := hst.setRow (vs' := flat rc (M ++ List.replicate k (0, 0)) ++ pad.drop (k * 2)) (Upd.tail F)
    have e1 : (flat rc M ++ pad).take (M.length * 2) ++ flat rc (List.replicate k (0, 0)) ++ (flat rc M ++ pad).drop (M.length * 2 + k * 2) = flat rc (M ++ List.replicate k (0, 0)) ++ pad.drop (k * 2) := by
      rw [← hfl, flat_append]
      simp [List.drop_append]
    rw [hfr] at hst1
    simp only [e1, List.toList_toArray] at hst1
    refine ⟨.slice (some ⟨b, 0, none⟩) (M.length + k) c, [(b, rblk (M ++ List.replicate k (0, 0)) (pad.drop (k * 2)))], _, ?_, ⟨b, c, pad.drop (k * 2), by simp, rfl, by simpa using hroom, hS.lt, ?_⟩, hu⟩
    · simp [Builtin.append_, run_underlying i.ok, run_underlying ki.ok, sizeOf, typeInfo, zeroValue, hj, hz, asInt, asIntOf, hw, hneg, hk0, hsz, hby, h48, hroom, Addr.add_lit, zeros_rg, hst1]
      intro h; omega
    · rw [flat_append, List.length_append, List.length_append, hfl, hfr, List.length_drop]
      omega
  · have hr := Lib.run_append_grow_zeros (P := P) w 24 3 ty 34 j _ .i64 .i64 i.ok ki.ok hj hz (some ⟨b, 0, none⟩) M.length c (flat rc M)
      (run_firstCells_some (P := P) w.drew j.size M.length ⟨b, 0, none⟩ M.length c (flat rc M) (by rw [hsz]; exact hfl) (fun q u hq => by
        rw [add_plain, Nat.zero_add]
        have := hst.cell hmem (v := u) (o := q) (by rw [List.getElem?_append_left (List.getElem?_eq_some_iff.1 hq).1]; exact hq)
        simpa using this)) k hk (by omega) (by omega) (by omega) (by rw [hby]; omega) (by rw [hby]; exact growslice_fits (by omega) (by omega))
    have hge := grownCap_ge w (M.length + k) c 34
    have hle := grownCap_le_maxLen w (M.length + k) c 34 (by have : maxLen = 9223372036854775807 := rfl; omega)
    have hmx : maxLen = 9223372036854775807 := rfl
    refine ⟨_, [(w.heap.size, .cells 34 (flat rc (M ++ List.replicate k (0, 0)) ++ (flat rc (List.replicate (grownCap w (M.length + k) c 34 - (M.length + k)) (0, 0)))))], _, hr, ⟨_, grownCap w (M.length + k) c 34, _, by simp, rfl, by simpa using hge, by omega, ?_⟩, ?_⟩
    · have h3 := flat_length rc_len (List.replicate (grownCap w (M.length + k) c 34 - (M.length + k)) ((0 : Int), (0 : Int)))
      rw [List.length_replicate] at h3
      rw [flat_append, List.length_append, List.length_append, hfl, hfr, h3]
      omega
    · have := (St.drewAlloc (F := F) (hst.sub (List.sublist_append_left _ _)) 34 (flat rc (M ++ List.replicate k (0, 0)) ++ (flat rc (List.replicate (grownCap w (M.length + k) c 34 - (M.length + k)) (0, 0)))))
      have e : ((flat rc M).toArray ++ Builtin.zeroCells (Value.agg #[.int .i64 0, .int .i64 0]).cells k ++ Builtin.zeroCells (Value.agg #[.int .i64 0, .int .i64 0]).cells (grownCap w (M.length + k) c 34 - (M.length + k))) = (flat rc (M ++ List.replicate k (0, 0)) ++ (flat rc (List.replicate (grownCap w (M.length + k) c 34 - (M.length + k)) (0, 0)))).toArray := by
        rw [zeros_rg, zeros_rg, flat_append]
        simp
      rw [e]
      exact this
theorem L.rappz [i : Ap P 24 34 2 16] [ki : I64 P 3] (hz0 : (P.info? 34).bind (·.zero) = some (.agg #[.int .i64 0, .int .i64 0])) {M : List Rg} {b c : Nat} {k : Int} {F : SH} {pad : List Value} {xa : List Operand} (hS : RSf M c pad)
    (ht : Tail [(b, rblk M pad)] F hs := by (repeat (first | exact Tail.nil | apply Tail.cons)))
    (hw : wantE ops e ⟨d, .call ⟨.builtin .append, xa.toArray, #[24, 3]⟩, ty, pos, af, g⟩ = some true := by exact rfl) (hd : dstOk n d = true := by exact rfl) (hv : evs e xa = some [.slice (some ⟨b, 0, none⟩) M.length c, .int .i64 k] := by exact rfl)
    (hk : 0 < k) (hb : M.length + k ≤ 1000000)
    (kk : ∀ (b' c' : Nat) (pad' : List Value), RSf (M ++ List.replicate k.toNat (0, 0)) c' pad' → L P n ds w0 ops Q l (consE d (.slice (some ⟨b', 0, none⟩) (M ++ List.replicate k.toNat (0, 0)).length c') e) (F ++ [(b', rblk (M ++ List.replicate k.toNat (0, 0)) pad')])) : L P n ds w0 ops Q (⟨d, .call ⟨.builtin .append, xa.toArray, #[24, 3]⟩, ty, pos, af, g⟩ :: l) e hs :=
  L.does (Y := Value × SH) (Φ := fun y => RS (M ++ List.replicate k.toNat (0, 0)) y.1 y.2) (V := fun y => y.1) (H := fun y => F ++ y.2) hw hd (fun a w ha hst => by
    obtain ⟨v', H', w', hr, h2, h3⟩ := run_appz (P := P) (ty := ty) (k := k.toNat) hz0 hS (by rw [← ht.eq]; exact hst) (by omega) (by omega)
    rw [Int.toNat_of_nonneg (by omega)] at hr
    exact .of_value (w' := w') (run_builtin ha.fits hv fun cs => by simp [builtin, hr]) ⟨(v', H'), h2, rfl, h3⟩) fun y hy => by
      obtain ⟨v, H⟩ := y
      obtain ⟨b', c', pad', rfl, rfl, hR⟩ := hy
      exact kk b' c' pad' hR

/-! ### The blocks in another order -/
theorem L.perm {hs' : SH} (hp : hs.Perm hs') (h : L P n ds w0 ops Q l e hs') : L P n ds w0 ops Q l e hs := .mk fun a w ha hst => h.ok a w ha (hst.perm hp)
theorem X.perm {x : Exit} {hs' : SH} (hp : hs.Perm hs') (h : X n ds w0 Q x e hs') : X n ds w0 Q x e hs := .mk fun a w ha hst => h.ok a w ha (hst.perm hp)
theorem C.perm {c : Code} {hs' : SH} (hp : hs.Perm hs') (h : C P n ds w0 Q c e hs') : C P n ds w0 Q c e hs := .mk fun a w ha hst => h.ok a w ha (hst.perm hp)
theorem Tail.of {H : SH} : ∀ F : SH, Tail H F (F ++ H)
  | [] => .nil
  | _ :: r => .cons (Tail.of r)
theorem L.rappP [i : Ap P 24 34 2 16] {M : List Rg} {r : Rg} {b c b1 c1 : Nat} {T' : TypeId} {F : SH} {pad : List Value} {xa : List Operand} (hS : RSf M c pad)
    (hp : Pull (b, rblk M pad) hs F := by (repeat (first | exact Pull.here | apply Pull.there)))
    (hw : wantE ops e ⟨d, .call ⟨.builtin .append, xa.toArray, #[24, 24]⟩, ty, pos, af, g⟩ = some true := by exact rfl) (hd : dstOk n d = true := by exact rfl) (hv : evs e xa = some [.slice (some ⟨b, 0, none⟩) M.length c, .slice (some ⟨b1, 0, none⟩) 1 c1] := by exact rfl)
    (hm : (b1, Blk.cells T' (rc r)) ∈ hs := by (repeat (first | exact List.Mem.head _ | apply List.Mem.tail))) (hb : M.length ≤ 1000000000)
    (kk : ∀ (b' c' : Nat) (pad' : List Value), RSf (M ++ [r]) c' pad' → L P n ds w0 ops Q l (consE d (.slice (some ⟨b', 0, none⟩) (M.length + 1) c') e) ((b', rblk (M ++ [r]) pad') :: F)) : L P n ds w0 ops Q (⟨d, .call ⟨.builtin .append, xa.toArray, #[24, 24]⟩, ty, pos, af, g⟩ :: l) e hs :=
  have hq : hs.Perm (F ++ [(b, rblk M pad)]) := hp.perm.trans (List.perm_append_singleton _ _).symm
  L.perm hq (L.rapp (r := r) hS (.of F) hw hd hv (hq.mem_iff.1 hm) hb fun b' c' pad' h => L.perm (List.perm_append_singleton _ _) (kk b' c' pad' h))
theorem L.rappzP [i : Ap P 24 34 2 16] [ki : I64 P 3] (hz0 : (P.info? 34).bind (·.zero) = some (.agg #[.int .i64 0, .int .i64 0])) {M : List Rg} {b c : Nat} {k : Int} {F : SH} {pad : List Value} {xa : List Operand} (hS : RSf M c pad)
    (hp : Pull (b, rblk M pad) hs F := by (repeat (first | exact Pull.here | apply Pull.there)))
    (hw : wantE ops e ⟨d, .call ⟨.builtin .append, xa.toArray, #[24, 3]⟩, ty, pos, af, g⟩ = some true := by exact rfl) (hd : dstOk n d = true := by exact rfl) (hv : evs e xa = some [.slice (some ⟨b, 0, none⟩) M.length c, .int .i64 k] := by exact rfl)
    (hk : 0 < k) (hb : M.length + k ≤ 1000000)
    (kk : ∀ (b' c' : Nat) (pad' : List Value), RSf (M ++ List.replicate k.toNat (0, 0)) c' pad' → L P n ds w0 ops Q l (consE d (.slice (some ⟨b', 0, none⟩) (M ++ List.replicate k.toNat (0, 0)).length c') e) ((b', rblk (M ++ List.replicate k.toNat (0, 0)) pad') :: F)) : L P n ds w0 ops Q (⟨d, .call ⟨.builtin .append, xa.toArray, #[24, 3]⟩, ty, pos, af, g⟩ :: l) e hs :=
  L.perm (hp.perm.trans (List.perm_append_singleton _ _).symm) (L.rappz hz0 hS (.of F) hw hd hv hk hb fun b' c' pad' h => L.perm (List.perm_append_singleton _ _) (kk b' c' pad' h))
/-- A call that makes memory and turns what is lent. -/
theorem L.lHcall {r : Nat} {bs : Int → Blk} {c : Nat} {p : Int} {F : SH} {f : FuncId} {xs : List Operand} {ts : Array TypeId} {vs : List Value} {R : Value → SH → Prop} [j : Ent P f]
    (hw : wantE ops e ⟨d, .call ⟨.value (.func f), xs.toArray, ts⟩, ty, pos, af, g⟩ = some true := by exact rfl) (hd : dstOk n d = true := by exact rfl) (hv : evs e xs = some vs := by exact rfl) (hp : Pull (r, bs p) hs F := by (repeat (first | exact Pull.here | apply Pull.there)))
    (h : ∀ w, St w0 ((r, bs p) :: F) w → Calls P f vs.toArray w (Lent w0 r bs p c F R))
    (k : ∀ v H p', R v H → p ≤ p' → p' ≤ p + c → L P n ds w0 ops Q l (consE d v e) (H ++ (r, bs p') :: F)) :
    L P n ds w0 ops Q (⟨d, .call ⟨.value (.func f), xs.toArray, ts⟩, ty, pos, af, g⟩ :: l) e hs := L.l (id := []) hw hd hv hp h k
/-- A store at a place of a list. -/
theorem wr_set : ∀ (vs : List Value) (o : Nat) (v : Value), o < vs.length → Wr o [v] vs (vs.set o v)
  | [], o, v, h => by simp at h
  | x :: r, 0, v, h => .put .nil
  | x :: r, o + 1, v, h => .skip (wr_set r o v (by simpa using h))
theorem OS.storei {x y : Operand} {b o : Nat} {st T : TypeId} {vs : List Value} {v : Value} {hs' : SH} [z : Sz P st 1] (hx : ev e x = some (.pointer (some ⟨b, o, none⟩))) (hy : ev e y = some v) (h1 : v.oneCell' = true) (ho : o < vs.length)
    (u : Upd b (.cells T vs) (.cells T (vs.set o v)) hs hs') : OS P ⟨d, .store st x y, ty, pos, af, g⟩ e w0 hs hs' := .store1 hx hy h1 u (wr_set vs o v ho)
theorem flat_set1 : ∀ (M : List Rg) (pad : List Value) (k : Nat) (n : Int), k < M.length → (flat rc M ++ pad).set (k * 2) (.int .i64 n) = flat rc (M.set k (n, (gR M k).2)) ++ pad
  | [], pad, k, n, h => by simp at h
  | r :: t, pad, 0, n, h => rfl
  | r :: t, pad, k + 1, n, h => by
    have := flat_set1 t pad k n (by simpa using h)
    have e : (k + 1) * 2 = k * 2 + 2 := by omega
    rw [e]
    simp only [flat, List.map_cons, List.flatten_cons, rc, List.cons_append, List.nil_append, List.set_cons_succ, gR, List.getD_cons_succ] at this ⊢
    rw [this]
theorem flat_set2 : ∀ (M : List Rg) (pad : List Value) (k : Nat) (n : Int), k < M.length → (flat rc M ++ pad).set (k * 2 + 1) (.int .i64 n) = flat rc (M.set k ((gR M k).1, n)) ++ pad
  | [], pad, k, n, h => by simp at h
  | r :: t, pad, 0, n, h => rfl
  | r :: t, pad, k + 1, n, h => by
    have := flat_set2 t pad k n (by simpa using h)
    have e : (k + 1) * 2 + 1 = k * 2 + 1 + 2 := by omega
    rw [e]
    simp only [flat, List.map_cons, List.flatten_cons, rc, List.cons_append, List.nil_append, List.set_cons_succ, gR, List.getD_cons_succ] at this ⊢
    rw [this]
theorem rsf_set {M : List Rg} {c : Nat} {pad : List Value} (h : RSf M c pad) (k : Nat) (r : Rg) : RSf (M.set k r) c pad := by
  refine ⟨by simpa using h.le, h.lt, ?_⟩
  have h1 := h.len
  have h2 := flat_length rc_len M
  have h3 := flat_length rc_len (M.set k r)
  rw [List.length_set] at h3
  rw [List.length_append] at h1 ⊢
  omega

end D
end Go.Proofs.Ytmohggeeedncoaa
