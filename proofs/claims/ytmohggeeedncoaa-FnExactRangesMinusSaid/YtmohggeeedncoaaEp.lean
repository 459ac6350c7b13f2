/- The engine: pointers compared; lists of ranges in blocks of the call's own. -/
import Derived.Test.YtmohggeeedncoaaEI
import Derived.Test.YtmohggeeedncoaaE3m
import Derived.Test.YtmohggeeedncoaaPR
import Derived.LaidEqlPtr
namespace Go.Proofs.Ytmohggeeedncoaa
set_option linter.unusedVariables false
set_option linter.unusedSimpArgs false
set_option maxRecDepth 100000
namespace D
open Go.RowKit

variable {P : Program} {e : Env} {w0 : World} {hs : SH} {d : Option Tmp} {ty : TypeId} {pos : String} {af : Array Edge} {g : Option (Nat × Bool)}
variable {n : Nat} {ds : List Deferred} {ops : List Oper} {Q : Exit → Act → World → Prop} {l : List Oper}

theorem cell_keep {w w' : World} {b o : Nat} {v : Value} (h : w.cell? ⟨b, o, none⟩ = some v) (hb : Below w.heap.size w w') : w'.cell? ⟨b, o, none⟩ = some v := (hb.cell (World.block_lt_of_cell? _ _ h)).trans h

/-! ### Pointers -/
class PtT (P : Program) (t : TypeId) : Prop where
  ok : ∃ te j, P.underlying t = some (.pointer te) ∧ P.info? te = some j ∧ j.size ≠ 0
theorem PtT.of {t te k : Nat} (hu : P.underlying t = some (.pointer te)) (hi : (P.info? te).map (·.size) = some k) (hk : k ≠ 0) : PtT P t := by
  cases hq : P.info? te with
  | none => simp [hq] at hi
  | some j =>
    refine ⟨te, j, hu, hq, ?_⟩
    simp only [hq, Option.map_some, Option.some.injEq] at hi
    omega
theorem eqGuard_ptrs (op : BinOp) (t : TypeId) (x y : Operand) (a b : Option Addr) (w : World) : (eqGuard op t x y (.pointer a) (.pointer b)).run P w = .ok () w := by
  cases op <;> simp [eqGuard]
theorem run_eqP0 {t : TypeId} [i : PtT P t] (a : Option Addr) (w : World) : (Op.equal t (.pointer a) (.pointer none)).run P w = .ok a.isNone w := by
  obtain ⟨te, j, hu, _, _⟩ := i.ok
  have h : ∀ k : Nat, (Op.equalIn (k + 1) t (.pointer a) (.pointer none)).run P w = .ok a.isNone w := fun k => by
    cases a <;> simp [Op.equalIn, run_underlying hu]
  simp [Op.equal, Op.maxDepth, h 9999]
theorem PV.eqlP0 {x y : Operand} {a : Option Addr} {xt yt : TypeId} [i : PtT P xt] (hx : ev e x = some (.pointer a)) (hy : ev e y = some (.pointer none)) : PV P ⟨d, .binOp .eql xt x y yt, ty, pos, af, g⟩ e (.bool a.isNone) :=
  .bin hx hy (eqGuard_ptrs _ _ _ _ _ _) fun w => by simp [binOp, run_eqP0]
theorem PV.neqP0 {x y : Operand} {a : Option Addr} {xt yt : TypeId} [i : PtT P xt] (hx : ev e x = some (.pointer a)) (hy : ev e y = some (.pointer none)) : PV P ⟨d, .binOp .neq xt x y yt, ty, pos, af, g⟩ e (.bool (!a.isNone)) :=
  .bin hx hy (eqGuard_ptrs _ _ _ _ _ _) fun w => by simp [binOp, run_eqP0]
theorem eql_neq {t : TypeId} {a b : Option Addr} {c : Bool} {w : World} (h : (binOp .eql t (.pointer a) (.pointer b)).run P w = .ok (.bool c) w) : (binOp .neq t (.pointer a) (.pointer b)).run P w = .ok (.bool (!c)) w := by
  simp only [binOp, Sem.run_bind] at h ⊢
  generalize (Op.equal t (.pointer a) (.pointer b)).run P w = r at h ⊢
  cases r with
  | ok v w' =>
    simp only [Result.andThen_ok] at h ⊢
    have h1 : (pure (Value.bool v) : Sem Value).run P w' = .ok (.bool v) w' := rfl
    rw [h1] at h
    simp only [Result.ok.injEq, Value.bool.injEq] at h
    obtain ⟨rfl, rfl⟩ := h
    rfl
  | halt x w' => simp [Result.andThen] at h
theorem PV.neqPs {x y : Operand} {a : Addr} {xt yt : TypeId} [i : PtT P xt] (hx : ev e x = some (.pointer (some a))) (hy : ev e y = some (.pointer (some a))) : PV P ⟨d, .binOp .neq xt x y yt, ty, pos, af, g⟩ e (.bool false) := by
  obtain ⟨te, j, hu, hj, _⟩ := i.ok
  exact .bin hx hy (eqGuard_ptrs _ _ _ _ _ _) fun w => eql_neq (run_eql_ptr_same w a hu hj)
/-- Pointers to two blocks of the caller's. -/
theorem OV.neqPo {x y : Operand} {a b o q : Nat} {xt yt Ta Tb : TypeId} {us vs : List Value} [i : PtT P xt] (hx : ev e x = some (.pointer (some ⟨a, o, none⟩))) (hy : ev e y = some (.pointer (some ⟨b, q, none⟩))) (hne : a ≠ b)
    (ha : ∀ w, St w0 hs w → w.heap[a]? = some (.cells us.toArray Ta (0, 0))) (hb : ∀ w, St w0 hs w → w.heap[b]? = some (.cells vs.toArray Tb (0, 0))) : OV P ⟨d, .binOp .neq xt x y yt, ty, pos, af, g⟩ e w0 hs (.bool true) := .mk fun ρ w hf hst => by
  obtain ⟨te, j, hu, hj, hz⟩ := i.ok
  refine .of_value (w' := w) ?_ ⟨rfl, .refl _⟩
  have h1 : (⟨a, o, none⟩ : Addr) ≠ ⟨b, q, none⟩ := fun h => hne (by injection h)
  have := eql_neq (run_eql_ptr_other w hu hj hz h1 (ha w hst) (hb w hst))
  simp [execOp, hf x _ hx, hf y _ hy, eqGuard_ptrs, this]

/-- The newest block goes to the end. -/
theorem C.rot {c : Code} {x : Nat × Blk} (h : C P n ds w0 Q c e (hs ++ [x])) : C P n ds w0 Q c e (x :: hs) := .mk fun a w ha hst => h.ok a w ha (hst.perm (List.perm_append_singleton x hs).symm)
theorem L.rot {x : Nat × Blk} (h : L P n ds w0 ops Q l e (hs ++ [x])) : L P n ds w0 ops Q l e (x :: hs) := .mk fun a w ha hst => h.ok a w ha (hst.perm (List.perm_append_singleton x hs).symm)

theorem rettn {fn : Func} {rs : List ResultVar} {vs : List Value} {v : Value} {H : SH} (hv : tupleOf vs = v) (hrs : fn.results = rs.toArray := by exact rfl) (h : RVs P n [] w0 e hs rs vs := by (repeat (first | exact RVs.nil | (apply RVs.cons; (· first | exact RV.tmp rfl | (apply RV.cellk; exact rfl; (· (repeat (first | exact List.Mem.head _ | apply List.Mem.tail))); (· (repeat (first | exact Rd.nil | apply Rd.take | apply Rd.skip)))) | (apply RV.cell1; exact rfl; (· (repeat (first | exact List.Mem.head _ | apply List.Mem.tail))); (· (repeat (first | exact Rd.nil | apply Rd.take | apply Rd.skip)))))))))
    (hs' : H.Sublist hs := by (repeat (first | exact List.Sublist.refl _ | apply List.Sublist.cons_cons | apply List.Sublist.cons))) : X n [] w0 (bodyPost P fn (Turns w0 v H)) .normal e hs :=
  X.bodyN rfl hrs h fun w hst => ⟨by rw [hv], hst.sub hs'⟩
theorem rettRn {fn : Func} {rs : List ResultVar} {vs : List Value} {R : Value → SH → Prop} (H : SH) (hR : R (tupleOf vs) H) (hrs : fn.results = rs.toArray := by exact rfl) (h : RVs P n [] w0 e hs rs vs := by (repeat (first | exact RVs.nil | (apply RVs.cons; (· first | exact RV.tmp rfl | (apply RV.cellk; exact rfl; (· (repeat (first | exact List.Mem.head _ | apply List.Mem.tail))); (· (repeat (first | exact Rd.nil | apply Rd.take | apply Rd.skip)))) | (apply RV.cell1; exact rfl; (· (repeat (first | exact List.Mem.head _ | apply List.Mem.tail))); (· (repeat (first | exact Rd.nil | apply Rd.take | apply Rd.skip)))))))))
    (hs' : H.Sublist hs := by (repeat (first | exact List.Sublist.refl _ | apply List.Sublist.cons_cons | apply List.Sublist.cons))) : X n [] w0 (bodyPost P fn (TurnsR w0 R)) .normal e hs :=
  X.bodyN rfl hrs h fun w hst => ⟨_, _, rfl, hR, hst.sub hs'⟩
/-- The blocks in another order. -/
theorem TurnsR.perm {R R' : Value → SH → Prop} (hR : ∀ v H, R v H → ∃ H', R' v H' ∧ H.Perm H') {e : Ending} {w : World} (h : TurnsR w0 R e w) : TurnsR w0 R' e w := by
  obtain ⟨v, H, he, h1, hst⟩ := h
  obtain ⟨H', h2, hp⟩ := hR v H h1
  exact ⟨v, H', he, h2, hst.perm hp⟩
/-- Two blocks are taken out. -/
theorem L.tcallR2 (b1 b2 : Nat) {f : FuncId} {xs : List Operand} {ts : Array TypeId} {vs : List Value} {T1 T2 : TypeId} {us1 us2 : List Value} {F1 F : SH} {R : Value → SH → Prop} [j : Ent P f] (hw : wantE ops e ⟨d, .call ⟨.value (.func f), xs.toArray, ts⟩, ty, pos, af, g⟩ = some true := by exact rfl) (hd : dstOk n d = true := by exact rfl)
    (hv : evs e xs = some vs := by exact rfl) (hp1 : Pull (b1, .cells T1 us1) hs F1 := by (repeat (first | exact Pull.here | apply Pull.there))) (hp2 : Pull (b2, .cells T2 us2) F1 F := by (repeat (first | exact Pull.here | apply Pull.there)))
    (h : ∀ w, St w0 ((b1, .cells T1 us1) :: (b2, .cells T2 us2) :: F) w → Calls P f vs.toArray w (TurnsR w0 R)) (k : ∀ v H, R v H → L P n ds w0 ops Q l (consE d v e) H) : L P n ds w0 ops Q (⟨d, .call ⟨.value (.func f), xs.toArray, ts⟩, ty, pos, af, g⟩ :: l) e hs :=
  L.does (Y := Value × SH) (Φ := fun y => R y.1 y.2) (V := fun y => y.1) (H := fun y => y.2) hw hd (fun a w ha hst => by
    unfold Does
    rw [run_call ha.fits rfl hv]
    simpa using Calls.mono (h w (hst.perm (hp1.perm.trans (hp2.perm.cons _)))) fun e' w' ⟨v, H, he, hR, hs'⟩ => ⟨v, he, v, H, hR, rfl, hs'⟩) fun y hy => k y.1 y.2 hy
/-- A call that turns the blocks C, which stand at the end of the list. -/
theorem L.ccall (Cs : SH) {f : FuncId} {xs : List Operand} {ts : Array TypeId} {vs : List Value} {F : SH} {R : Value → SH → Prop} [j : Ent P f] (hw : wantE ops e ⟨d, .call ⟨.value (.func f), xs.toArray, ts⟩, ty, pos, af, g⟩ = some true := by exact rfl) (hd : dstOk n d = true := by exact rfl)
    (hv : evs e xs = some vs := by exact rfl) (ht : Tail Cs F hs := by (repeat (first | exact Tail.nil | apply Tail.cons)))
    (h : ∀ w, St w0 (Cs ++ F) w → Calls P f vs.toArray w (TurnsR w0 fun v H => ∃ Cs', H = Cs' ++ F ∧ R v Cs')) (k : ∀ v Cs', R v Cs' → L P n ds w0 ops Q l (consE d v e) (F ++ Cs')) : L P n ds w0 ops Q (⟨d, .call ⟨.value (.func f), xs.toArray, ts⟩, ty, pos, af, g⟩ :: l) e hs :=
  L.does (Y := Value × SH) (Φ := fun y => R y.1 y.2) (V := fun y => y.1) (H := fun y => F ++ y.2) hw hd (fun a w ha hst => by
    unfold Does
    rw [run_call ha.fits rfl hv]
    simpa using Calls.mono (h w (hst.perm (by rw [ht.eq]; exact List.perm_append_comm))) fun e' w' ⟨v, H, he, ⟨C', hH, hR⟩, hs'⟩ => ⟨v, he, v, C', hR, rfl, (hH ▸ hs').perm List.perm_append_comm⟩) fun y hy => k y.1 y.2 hy

/-! ### Lists of ranges -/
abbrev rc (r : Rg) : List Value := [.int .i64 r.1, .int .i64 r.2]
theorem rc_len (r : Rg) : (rc r).length = 2 := rfl
/-- A list of ranges that can be read. -/
def RAt (w : World) (p : Option Addr) (A : List Rg) : Prop := ∀ i r, A[i]? = some r → ∃ b o, p = some ⟨b, o, none⟩ ∧ w.cell? ⟨b, o + i * 2, none⟩ = some (.int .i64 r.1) ∧ w.cell? ⟨b, o + i * 2 + 1, none⟩ = some (.int .i64 r.2)
theorem RAt.keep {w w' : World} {p : Option Addr} {A : List Rg} (h : RAt w p A) (hb : Below w.heap.size w w') : RAt w' p A := fun i r hi => by
  obtain ⟨b, o, hp, h1, h2⟩ := h i r hi
  exact ⟨b, o, hp, (hb.cell (World.block_lt_of_cell? _ _ h1)).trans h1, (hb.cell (World.block_lt_of_cell? _ _ h2)).trans h2⟩
theorem RAt.nil {w : World} {p : Option Addr} : RAt w p [] := fun i r h => by simp at h
theorem rat_own {w : World} {hs : SH} {b : Nat} {T : TypeId} {A : List Rg} {pad : List Value} (hst : St w0 hs w) (hm : (b, Blk.cells T (flat rc A ++ pad)) ∈ hs) : RAt w (some ⟨b, 0, none⟩) A := fun i r hi => by
  have h := flat_get rc_len A pad i r hi
  refine ⟨b, 0, rfl, ?_, ?_⟩
  · have := hst.cell hm (h 0 _ rfl)
    simpa using this
  · have := hst.cell hm (h 1 _ rfl)
    simpa using this
/-- Two cells that lie beside each other, as a range. -/
theorem two_at {w : World} {b q : Nat} {r : Rg} (h1 : w.cell? ⟨b, q, none⟩ = some (.int .i64 r.1)) (h2 : w.cell? ⟨b, q + 1, none⟩ = some (.int .i64 r.2)) : ∀ j v, (rc r)[j]? = some v → w.cell? ⟨b, q + j, none⟩ = some v := fun j v hj => by
  rcases j with _ | _ | j
  · simpa using hj ▸ h1
  · simpa using hj ▸ h2
  · simp at hj
theorem RAt.at {w : World} {p : Option Addr} {A : List Rg} (h : RAt w p A) {i : Int} (h0 : 0 ≤ i) (h1 : i < A.length) : ∃ b o, p = some ⟨b, o, none⟩ ∧ w.cell? ⟨b, o + i.toNat * 2, none⟩ = some (.int .i64 (gR A i.toNat).1) ∧ w.cell? ⟨b, o + i.toNat * 2 + 1, none⟩ = some (.int .i64 (gR A i.toNat).2) ∧
    (∀ j v, (rc (gR A i.toNat))[j]? = some v → w.cell? ⟨b, o + i.toNat * 2 + j, none⟩ = some v) := by
  obtain ⟨b, o, hp, h2, h3⟩ := h i.toNat _ (gR_some (by omega))
  exact ⟨b, o, hp, h2, h3, two_at h2 h3⟩
/-- What is to hold of a made slice's room. -/
structure RSf (M : List Rg) (c : Nat) (pad : List Value) : Prop where
  le : M.length ≤ c
  lt : c ≤ 9223372036854775807
  len : (flat rc M ++ pad).length = c * 2
abbrev rblk (M : List Rg) (pad : List Value) : Blk := .cells 34 (flat rc M ++ pad)
/-- A made slice of ranges. -/
def RS (M : List Rg) : Value → SH → Prop := fun v H => ∃ (b c : Nat) (pad : List Value), v = .slice (some ⟨b, 0, none⟩) M.length c ∧ H = [(b, rblk M pad)] ∧ RSf M c pad
theorem RSf.nil : RSf [] 0 [] := ⟨Nat.le_refl _, by omega, rfl⟩
theorem RSf.sls {M : List Rg} {b c : Nat} {pad : List Value} (h : RSf M c pad) : SlS 34 2 M.length (flat rc M) (.slice (some ⟨b, 0, none⟩) M.length c) [(b, rblk M pad)] :=
  .inr ⟨b, c, pad, rfl, rfl, h.le, h.lt, h.len, flat_length rc_len M⟩
theorem sls_rs {M : List Rg} {v : Value} {H : SH} (hL : M ≠ []) (h : SlS 34 2 M.length (flat rc M) v H) : RS M v H := by
  rcases h with ⟨_, h, _, _⟩ | ⟨b, c, pad, rfl, rfl, h1, h2, h3, _⟩
  · exact (hL (List.eq_nil_of_length_eq_zero h)).elim
  · exact ⟨b, c, pad, rfl, rfl, h1, h2, h3⟩
/-- One range more, which lies in a block of its own. -/
theorem L.rapp [i : Ap P 24 34 2 16] {M : List Rg} {r : Rg} {b c b1 c1 : Nat} {T' : TypeId} {F : SH} {pad : List Value} {xa : List Operand} (hS : RSf M c pad)
    (ht : Tail [(b, rblk M pad)] F hs := by (repeat (first | exact Tail.nil | apply Tail.cons)))
    (hw : wantE ops e ⟨d, .call ⟨.builtin .append, xa.toArray, #[24, 24]⟩, ty, pos, af, g⟩ = some true := by exact rfl) (hd : dstOk n d = true := by exact rfl) (hv : evs e xa = some [.slice (some ⟨b, 0, none⟩) M.length c, .slice (some ⟨b1, 0, none⟩) 1 c1] := by exact rfl)
    (hm : (b1, Blk.cells T' (rc r)) ∈ hs := by (repeat (first | exact List.Mem.head _ | apply List.Mem.tail))) (hb : M.length ≤ 1000000000)
    (kk : ∀ (b' c' : Nat) (pad' : List Value), RSf (M ++ [r]) c' pad' → L P n ds w0 ops Q l (consE d (.slice (some ⟨b', 0, none⟩) (M.length + 1) c') e) (F ++ [(b', rblk (M ++ [r]) pad')])) : L P n ds w0 ops Q (⟨d, .call ⟨.builtin .append, xa.toArray, #[24, 24]⟩, ty, pos, af, g⟩ :: l) e hs := by
  refine L.app1 (T' := T') (us := rc r) (k := M.length) (xs := flat rc M) (H := [(b, rblk M pad)]) (F := F) (c := c1) (b := b1) hS.sls hw hd hv ht hm rfl rfl (by omega) (by omega) fun v' H' hS' => ?_
  rw [show flat rc M ++ rc r = flat rc (M ++ [r]) from (flat_snoc rc M r).symm] at hS'
  have e1 : M.length + 1 = (M ++ [r]).length := by simp
  rw [e1] at hS'
  obtain ⟨b', c', pad', rfl, rfl, hR⟩ := sls_rs (by simp) hS'
  have := kk b' c' pad' hR
  rwa [e1] at this

end D
end Go.Proofs.Ytmohggeeedncoaa
