/- The engine: methods of pointers through an interface, which may look at what the pointer points to. -/
import Derived.Test.YtboglbdhibcacaaGreatDoorVEI
import Derived.Test.YtboglbdhibcacaaGreatDoorVc
import Derived.Test.YtboglbdhibcacaaGreatDoorVi
import Derived.Test.YtboglbdhibcacaaGreatDoorVe
namespace Go.Proofs.YtboglbdhibcacaaGreatDoor
set_option linter.unusedVariables false
set_option linter.unusedSimpArgs false
set_option maxRecDepth 100000
namespace D
open Go.RowKit

variable {P : Program} {e : Env} {w0 : World} {hs : SH} {d : Option Tmp} {ty : TypeId} {pos : String} {af : Array Edge} {g : Option (Nat × Bool)}
variable {n : Nat} {ds : List Deferred} {ops : List Oper} {Q : Exit → Act → World → Prop} {l : List Oper}

/-- A pointer's method whose receiver is what the pointer points to. -/
class MthV (P : Program) (t : TypeId) (name : String) (f : outParam FuncId) (el : outParam TypeId) : Prop where
  ok : ∀ (a : Addr) w, (method (P.types.size + Made.depth) t (.pointer (some a)) name).run P w = (do let v ← loadVar el a; pure (f, v) : Sem (FuncId × Value)).run P w
theorem MthV.get {t el : TypeId} {name : String} {f : FuncId} (m : MthV P t name f el) {a : Addr} {w : World} {v : Value} (h : (loadVar el a).run P w = .ok v w) : (method (P.types.size + Made.depth) t (.pointer (some a)) name).run P w = .ok (f, v) w := by
  rw [m.ok]
  simp [h]
/-- A method that is called through an interface: how it ends. -/
def InvM (P : Program) (t : TypeId) (u : Value) (name : String) (vs : List Value) (w : World) (R : Ending → World → Prop) : Prop :=
  ∃ f r, Ent P f ∧ (method (P.types.size + Made.depth) t u name).run P w = .ok (f, r) w ∧ Calls P f (r :: vs).toArray w R
theorem InvM.mono {t : TypeId} {u : Value} {name : String} {vs : List Value} {w : World} {R R' : Ending → World → Prop} (h : InvM P t u name vs w R) (k : ∀ e w', R e w' → R' e w') : InvM P t u name vs w R' := by
  obtain ⟨f, r, h1, h2, h3⟩ := h
  exact ⟨f, r, h1, h2, h3.mono k⟩
/-! ### Regions that draw: what touches no memory may come first -/
theorem A.take (i : Nat) {fuel : Nat} {bits : List Bool} {o : Oper} {v : Value} (hr : okAt ops bits i = true := by exact rfl) (ho : nthL ops i = some o := by exact rfl)
    (hw : wantE ops e o = some true := by exact rfl) (hd : dstOk n o.dst = true := by exact rfl) (h : PV P o e v := by (first | exact PV.move rfl | exact PV.assign rfl | exact PV.pickT rfl rfl | exact PV.pickF rfl rfl | exact PV.extract rfl rfl | exact PV.fieldAddr rfl | (apply PV.field1; exact rfl; (· (repeat (first | exact Rd.nil | apply Rd.take | apply Rd.skip)))) | (apply PV.fieldk; exact rfl; (· (repeat (first | exact Rd.nil | apply Rd.take | apply Rd.skip)))) | exact PV.not rfl | exact PV.lss rfl rfl | exact PV.leq rfl rfl | exact PV.gtr rfl rfl | exact PV.geq rfl rfl | exact PV.eql rfl rfl | exact PV.neq rfl rfl | (apply PV.add; exact rfl; exact rfl; omega) | (apply PV.sub; exact rfl; exact rfl; omega) | (apply PV.mul; exact rfl; exact rfl; omega) | (apply PV.quo; exact rfl; exact rfl; omega; omega; omega) | (apply PV.rem; exact rfl; exact rfl; omega; omega) | (apply PV.neg; exact rfl; omega; omega) | (apply PV.build; (· (repeat (first | exact Fl.nil | (apply Fl.cons; exact rfl; exact rfl; exact rfl; (· (repeat (first | exact Wr.nil | apply Wr.put | apply Wr.skip)))))))) | (apply PV.idxArr; exact rfl; exact rfl; omega) | (apply PV.idxSl; exact rfl; exact rfl; omega) | exact PV.min rfl | exact PV.max rfl | exact PV.lenSl rfl | exact PV.nilCheck rfl | (apply PV.conv; exact rfl; omega; omega) | exact PV.lenSt rfl | exact PV.eqlB rfl rfl | exact PV.neqB rfl rfl | (apply PV.addU8; exact rfl; exact rfl; omega; omega) | (apply PV.subU8; exact rfl; exact rfl; omega; omega) | exact PV.addw rfl rfl | exact PV.subw rfl rfl | exact PV.mulw rfl rfl | (apply PV.remt; exact rfl; exact rfl; omega) | (apply PV.quot; exact rfl; exact rfl; omega) | exact PV.makeFunc rfl rfl | (apply PV.eqlA; exact rfl; exact rfl; (· infer_instance)) | (apply PV.neqA; exact rfl; exact rfl; (· infer_instance)) | (apply PV.cat; exact rfl; exact rfl; (· first | (simp only [ByteArray.size_append, strOfNums_size, List.length_cons, List.length_nil, size_lit] <;> omega) | omega)) | exact PV.eqlS rfl rfl | exact PV.neqS rfl rfl | (apply PV.idxSt; exact rfl; exact rfl; omega) | (apply PV.slSt; exact rfl; exact rfl; exact rfl; omega; omega; omega) | (apply PV.slStTo; exact rfl; exact rfl; omega; omega) | (apply PV.slStFrom; exact rfl; exact rfl; omega; omega) | (apply PV.convU8; exact rfl; omega; omega) | exact PV.eqlP0 rfl rfl | exact PV.neqP0 rfl rfl | exact PV.neqPs rfl rfl | exact PV.mkIface rfl | exact PV.assertT rfl | exact PV.assert1 rfl | exact PV.assertF rfl rfl | (apply PV.and 0; exact rfl; exact rfl; (· decide +kernel)) | (apply PV.and 1; exact rfl; exact rfl; (· decide +kernel)) | (apply PV.and 2; exact rfl; exact rfl; (· decide +kernel))))
    (hs' : Region.noSelect ops.toArray = true := by kernel_rfl) (hf : Region.free .any ops.toArray bits.toArray i = true := by decide +kernel)
    (hQ : ∀ c a a' w, a'.defers = a.defers → Q (.panic c) a w → Q (.panic c) a' w := by exact fun _ _ _ _ he h => ⟨he.trans h.1, h.2⟩)
    (k : A P n ds w0 ops Q fuel (bits.set i true) (consE o.dst v e) hs) : A P n ds w0 ops Q (fuel + 1) bits e hs := .mk fun a w ha hst => by
  have hk := k.ok (a.put o.dst v) w (ha.put v hd) hst
  have ho' := nthL_some ho
  refine wpAny_take (i := i) (oi := o) (v := v) (by simpa using ho') hs' hf ?_ (fun c a w hh => hQ c _ a w (put_defers a o.dst v).symm hh) (.inl ⟨wantE.eq ha hw, fun w => h.ok _ ha.fits w⟩) (by simpa using hk)
  have : i ∈ Region.ready .any ops.toArray bits.toArray := mem_rdy.2 (by
    rw [rdy, List.mem_filter, List.mem_range]
    exact ⟨(List.getElem?_eq_some_iff.1 ho').1, hr⟩)
  simpa using this
/-! ### Integers of other kinds -/
class IKd (P : Program) (t : TypeId) (k : outParam IntKind) : Prop where
  ok : P.underlying t = some (.int k)
theorem u32_in {n : Int} (h0 : 0 ≤ n) (h1 : n ≤ 4294967295) : IntKind.u32.wrap n = n := by simp [IntKind.wrap, IntKind.bits, IntKind.signed]; omega
theorem u64_in {n : Int} (h0 : 0 ≤ n) (h1 : n ≤ 18446744073709551615) : IntKind.u64.wrap n = n := by simp [IntKind.wrap, IntKind.bits, IntKind.signed]; omega
theorem PV.convK {x : Operand} {k k' : IntKind} {m : Int} {st dt : TypeId} [j : Sc P st] [i : IKd P dt k'] (hx : ev e x = some (.int k m)) (hw : k'.wrap m = m) : PV P ⟨d, .convert st dt x, ty, pos, af, g⟩ e (.int k' m) := .mk fun ρ hf w => by
  obtain ⟨sd, hs, _⟩ := j.ok
  simp [execOp, hf x _ hx, convert, run_underlying hs, run_underlying i.ok, Conv.intToInt, hw]
theorem PV.quoK {x y : Operand} {k : IntKind} {m q : Int} {xt yt : TypeId} (hx : ev e x = some (.int k m)) (hy : ev e y = some (.int k q)) (h0 : 0 ≤ m) (h1 : 0 < q) (hw : k.wrap (m / q) = m / q) :
    PV P ⟨d, .binOp .quo xt x y yt, ty, pos, af, g⟩ e (.int k (m / q)) :=
  .bin hx hy (eqGuard_ints _ _ _ _ _ _) fun w => by
    have hn : ¬ q = 0 := by omega
    simp [binOp, Op.intDiv, hn, Int.tdiv_eq_ediv_of_nonneg h0]
    exact hw
theorem PV.remK {x y : Operand} {k : IntKind} {m q : Int} {xt yt : TypeId} (hx : ev e x = some (.int k m)) (hy : ev e y = some (.int k q)) (h0 : 0 ≤ m) (h1 : 0 < q) :
    PV P ⟨d, .binOp .rem xt x y yt, ty, pos, af, g⟩ e (.int k (m % q)) :=
  .bin hx hy (eqGuard_ints _ _ _ _ _ _) fun w => by
    have hn : ¬ q = 0 := by omega
    simp [binOp, Op.intDiv, hn, Int.tmod_eq_emod_of_nonneg h0]
theorem PV.mulK {x y : Operand} {k : IntKind} {m q : Int} {xt yt : TypeId} (hx : ev e x = some (.int k m)) (hy : ev e y = some (.int k q)) (hw : k.wrap (m * q) = m * q) :
    PV P ⟨d, .binOp .mul xt x y yt, ty, pos, af, g⟩ e (.int k (m * q)) := by
  have := PV.mulw (P := P) (d := d) (ty := ty) (pos := pos) (af := af) (g := g) (xt := xt) (yt := yt) hx hy
  rwa [hw] at this
theorem PV.shrK {x y : Operand} {k k2 : IntKind} {m q : Int} (r : Int) {xt yt : TypeId} (hx : ev e x = some (.int k m)) (hy : ev e y = some (.int k2 q)) (h0 : 0 ≤ q) (h : m.fdiv (2 ^ (Min.min q.toNat k.bits)) = r) :
    PV P ⟨d, .binOp .shr xt x y yt, ty, pos, af, g⟩ e (.int k r) :=
  .bin hx hy (eqGuard_ints _ _ _ _ _ _) fun w => by
    have hn : ¬ q < 0 := by omega
    simp [binOp, Op.shift, hn, h]
theorem PV.i2s {x : Operand} {k : IntKind} {m : Int} {t : ByteArray} {st dt : TypeId} [j : IKd P st k] [i : StT P dt] (hx : ev e x = some (.int k m)) (h : Utf8.encode m = t) : PV P ⟨d, .convert st dt x, ty, pos, af, g⟩ e (.string t) := .mk fun ρ hf w => by
  simp [execOp, hf x _ hx, convert, run_underlying j.ok, run_underlying i.ok, Conv.intToString, h]
theorem PV.slArr {t len es b o : Nat} {x y z : Operand} {k1 k2 : IntKind} {p q : Int} [i : ArT P t len es] (hx : ev e x = some (.pointer (some ⟨b, o, none⟩))) (hy : ev e y = some (.int k1 p)) (hz : ev e z = some (.int k2 q)) (h0 : 0 ≤ p) (h1 : p ≤ q) (h2 : q ≤ len) (h3 : p < len) :
    PV P ⟨d, .slice t x (some y) (some z) none, ty, pos, af, g⟩ e (.slice (some ⟨b, o + p.toNat * es, none⟩) (q.toNat - p.toNat) (len - p.toNat)) := .mk fun ρ hf w => by
  obtain ⟨el, hu, hs⟩ := i.ok
  have h4 : 0 ≤ q := by omega
  have h5 : p ≤ (q.toNat : Int) := by omega
  have h6 : ¬ len = p.toNat := by omega
  have hB1 : ∀ W, (Instr.sliceBound (.int k1 p) q.toNat BoundsCode.sliceB).run P W = .ok p.toNat W := fun W => run_sliceBound W k1 p q.toNat _ h0 h5
  simp [hB1, execOp, hf x _ hx, hf y _ hy, hf z _ hz, Instr.sliceAt, run_underlying hu, Instr.sureAddr, Instr.sliceBounds, run_sliceBound, h0, h1, h2, h4, h5, h6, run_sizeOf hs, add_plain]
theorem rettN {fn : Func} {rs : List ResultVar} {vs : List Value} {v : Value} {H : SH} (hv : tupleOf vs = v) (hrs : fn.results = rs.toArray := by exact rfl) (h : RVs P n [] w0 e hs rs vs := by (repeat (first | exact RVs.nil | (apply RVs.cons; (· first | exact RV.tmp rfl | (apply RV.cellk; exact rfl; (· (repeat (first | exact List.Mem.head _ | apply List.Mem.tail))); (· (repeat (first | exact Rd.nil | apply Rd.take | apply Rd.skip)))) | (apply RV.cell1; exact rfl; (· (repeat (first | exact List.Mem.head _ | apply List.Mem.tail))); (· (repeat (first | exact Rd.nil | apply Rd.take | apply Rd.skip)))))))))
    (hs' : H.Sublist hs := by (repeat (first | exact List.Sublist.refl _ | apply List.Sublist.cons_cons | apply List.Sublist.cons))) : X n [] w0 (bodyPost P fn (Turns w0 v H)) .normal e hs :=
  X.bodyN rfl hrs h fun w hst => ⟨by rw [hv], hst.sub hs'⟩
end D
end Go.Proofs.YtboglbdhibcacaaGreatDoor

namespace Go.Proofs.YtboglbdhibcacaaGreatDoor
set_option linter.unusedVariables false
set_option linter.unusedSimpArgs false
set_option maxRecDepth 100000
set_option maxHeartbeats 1000000
namespace D
open Go.RowKit
open Go.PlainAid (bt bt_nonneg bt_le bt_end)
attribute [local irreducible] Calls

theorem b_dec2 (n : Int) (h : 10 ≤ n ∧ n ≤ 99) (w : World) (hb : D.Base w) : Calls Tryz.prog 27 #[.int .i64 n] w fun e w' => e = .returned (.string (strOfNums (digL n 2))) ∧ Below w.heap.size w w' := by
  have h1 := b_dec1 (n / 10) (by omega)
  refine enter Tryz.func27 rfl Tryz.ntmps27 rfl (by assumption) ?_
  (repeat' (first | intro (b : Nat) | refine go ?_ | (refine br ?_ ?_ <;> first | exact trivial | intro hq) | refine L.call (h := by intro W hW; apply h1 W hW.base) (k := ?_) | refine gg ?_ | refine G.call (h := by intro W hW; apply h1 W hW.base) (k := ?_) | (apply C.draww (id := 7) 11 [none, none, some _, none, none, none, none, some _, some _, none, none])))
  (apply G.vd (X := [(b, .cells 5 [.int .u8 (48 + n % 10)])]); (· kernel_rfl); (· exact rfl); (· exact rfl); (· apply OV.strOf; (· exact rfl); (· exact List.Mem.head _); (· exact Rd.take Rd.nil); (· exact Nums.cons Nums.nil)))
  (repeat (first | intro (b : Nat) | refine gg ?_))
  (repeat (first | intro (b : Nat) | refine go ?_))
  (refine ret ?_)
  refine congrArg Value.string ?_
  simp only [strOfNums_append]
  refine congrArg strOfNums ?_
  simp only [digL, List.nil_append, List.cons_append, List.cons.injEq, and_true, true_and]
  omega

theorem b_dec3 (n : Int) (h : 100 ≤ n ∧ n ≤ 999) (w : World) (hb : D.Base w) : Calls Tryz.prog 27 #[.int .i64 n] w fun e w' => e = .returned (.string (strOfNums (digL n 3))) ∧ Below w.heap.size w w' := by
  have h1 := b_dec2 (n / 10) (by omega)
  have hz : (strOfNums (digL (n / 10) 2)).size ≤ 9 := by rw [strOfNums_size, digL_length]; omega
  generalize et : strOfNums (digL (n / 10) 2) = t at *
  refine enter Tryz.func27 rfl Tryz.ntmps27 rfl (by assumption) ?_
  (repeat' (first | intro (b : Nat) | refine go ?_ | (refine br ?_ ?_ <;> first | exact trivial | intro hq) | refine L.call (h := by intro W hW; apply h1 W hW.base) (k := ?_) | refine gg ?_ | refine G.call (h := by intro W hW; apply h1 W hW.base) (k := ?_) | (apply C.draww (id := 7) 11 [none, none, some _, none, none, none, none, some _, some _, none, none])))
  (apply G.vd (X := [(b, .cells 5 [.int .u8 (48 + n % 10)])]); (· kernel_rfl); (· exact rfl); (· exact rfl); (· apply OV.strOf; (· exact rfl); (· exact List.Mem.head _); (· exact Rd.take Rd.nil); (· exact Nums.cons Nums.nil)))
  (repeat (first | intro (b : Nat) | refine gg ?_))
  (repeat (first | intro (b : Nat) | refine go ?_))
  (refine ret ?_)
  refine congrArg Value.string ?_
  rw [← et]
  simp only [strOfNums_append]
  refine congrArg strOfNums ?_
  simp only [digL, List.nil_append, List.cons_append, List.cons.injEq, and_true, true_and]

theorem b_dec4 (n : Int) (h : 1000 ≤ n ∧ n ≤ 9999) (w : World) (hb : D.Base w) : Calls Tryz.prog 27 #[.int .i64 n] w fun e w' => e = .returned (.string (strOfNums (digL n 4))) ∧ Below w.heap.size w w' := by
  have h1 := b_dec3 (n / 10) (by omega)
  have hz : (strOfNums (digL (n / 10) 3)).size ≤ 9 := by rw [strOfNums_size, digL_length]; omega
  generalize et : strOfNums (digL (n / 10) 3) = t at *
  refine enter Tryz.func27 rfl Tryz.ntmps27 rfl (by assumption) ?_
  (repeat' (first | intro (b : Nat) | refine go ?_ | (refine br ?_ ?_ <;> first | exact trivial | intro hq) | refine L.call (h := by intro W hW; apply h1 W hW.base) (k := ?_) | refine gg ?_ | refine G.call (h := by intro W hW; apply h1 W hW.base) (k := ?_) | (apply C.draww (id := 7) 11 [none, none, some _, none, none, none, none, some _, some _, none, none])))
  (apply G.vd (X := [(b, .cells 5 [.int .u8 (48 + n % 10)])]); (· kernel_rfl); (· exact rfl); (· exact rfl); (· apply OV.strOf; (· exact rfl); (· exact List.Mem.head _); (· exact Rd.take Rd.nil); (· exact Nums.cons Nums.nil)))
  (repeat (first | intro (b : Nat) | refine gg ?_))
  (repeat (first | intro (b : Nat) | refine go ?_))
  (refine ret ?_)
  refine congrArg Value.string ?_
  rw [← et]
  simp only [strOfNums_append]
  refine congrArg strOfNums ?_
  simp only [digL, List.nil_append, List.cons_append, List.cons.injEq, and_true, true_and]

theorem b_dec (n : Int) (h : 0 ≤ n ∧ n ≤ 9999) (w : World) (hb : D.Base w) : Calls Tryz.prog 27 #[.int .i64 n] w fun e w' => e = .returned (.string (strOfNums (decL n))) ∧ Below w.heap.size w w' := by
  unfold decL
  split
  · rw [dig1, show (48 : Int) + n % 10 = 48 + n by omega]
    exact b_dec1 n (by omega) w hb
  split
  · exact b_dec2 n (by omega) w hb
  split
  · exact b_dec3 n (by omega) w hb
  · exact b_dec4 n (by omega) w hb

end D
end Go.Proofs.YtboglbdhibcacaaGreatDoor

namespace Go.Proofs.YtboglbdhibcacaaGreatDoor
set_option linter.unusedVariables false
set_option linter.unusedSimpArgs false
set_option maxRecDepth 100000
set_option maxHeartbeats 1000000
namespace D
open Go.RowKit
open Go.PlainAid (bt bt_nonneg bt_le bt_end)
attribute [local irreducible] Calls

instance : IKd Tryz.prog 148 .u64 := ⟨Tryz.underlying148⟩

instance : IKd Tryz.prog 190 .u32 := ⟨Tryz.underlying190⟩

instance : IKd Tryz.prog 21 .i32 := ⟨Tryz.underlying21⟩

def len8S : ByteArray := ⟨#[0, 1, 2, 2, 3, 3, 3, 3, 4, 4, 4, 4, 4, 4, 4, 4, 5, 5, 5, 5, 5, 5, 5, 5, 5, 5, 5, 5, 5, 5, 5, 5, 6, 6, 6, 6, 6, 6, 6, 6, 6, 6, 6, 6, 6, 6, 6, 6, 6, 6, 6, 6, 6, 6, 6, 6, 6, 6, 6, 6, 6, 6, 6, 6, 7, 7, 7, 7, 7, 7, 7, 7, 7, 7, 7, 7, 7, 7, 7, 7, 7, 7, 7, 7, 7, 7, 7, 7, 7, 7, 7, 7, 7, 7, 7, 7, 7, 7, 7, 7, 7, 7, 7, 7, 7, 7, 7, 7, 7, 7, 7, 7, 7, 7, 7, 7, 7, 7, 7, 7, 7, 7, 7, 7, 7, 7, 7, 7, 8, 8, 8, 8, 8, 8, 8, 8, 8, 8, 8, 8, 8, 8, 8, 8, 8, 8, 8, 8, 8, 8, 8, 8, 8, 8, 8, 8, 8, 8, 8, 8, 8, 8, 8, 8, 8, 8, 8, 8, 8, 8, 8, 8, 8, 8, 8, 8, 8, 8, 8, 8, 8, 8, 8, 8, 8, 8, 8, 8, 8, 8, 8, 8, 8, 8, 8, 8, 8, 8, 8, 8, 8, 8, 8, 8, 8, 8, 8, 8, 8, 8, 8, 8, 8, 8, 8, 8, 8, 8, 8, 8, 8, 8, 8, 8, 8, 8, 8, 8, 8, 8, 8, 8, 8, 8, 8, 8, 8, 8, 8, 8, 8, 8, 8, 8, 8, 8, 8, 8, 8, 8, 8, 8, 8, 8, 8, 8]⟩
def tabS : ByteArray := ⟨#[48, 48, 48, 49, 48, 50, 48, 51, 48, 52, 48, 53, 48, 54, 48, 55, 48, 56, 48, 57, 49, 48, 49, 49, 49, 50, 49, 51, 49, 52, 49, 53, 49, 54, 49, 55, 49, 56, 49, 57, 50, 48, 50, 49, 50, 50, 50, 51, 50, 52, 50, 53, 50, 54, 50, 55, 50, 56, 50, 57, 51, 48, 51, 49, 51, 50, 51, 51, 51, 52, 51, 53, 51, 54, 51, 55, 51, 56, 51, 57, 52, 48, 52, 49, 52, 50, 52, 51, 52, 52, 52, 53, 52, 54, 52, 55, 52, 56, 52, 57, 53, 48, 53, 49, 53, 50, 53, 51, 53, 52, 53, 53, 53, 54, 53, 55, 53, 56, 53, 57, 54, 48, 54, 49, 54, 50, 54, 51, 54, 52, 54, 53, 54, 54, 54, 55, 54, 56, 54, 57, 55, 48, 55, 49, 55, 50, 55, 51, 55, 52, 55, 53, 55, 54, 55, 55, 55, 56, 55, 57, 56, 48, 56, 49, 56, 50, 56, 51, 56, 52, 56, 53, 56, 54, 56, 55, 56, 56, 56, 57, 57, 48, 57, 49, 57, 50, 57, 51, 57, 52, 57, 53, 57, 54, 57, 55, 57, 56, 57, 57]⟩
def digS : ByteArray := ⟨#[48, 49, 50, 51, 52, 53, 54, 55, 56, 57, 97, 98, 99, 100, 101, 102, 103, 104, 105, 106, 107, 108, 109, 110, 111, 112, 113, 114, 115, 116, 117, 118, 119, 120, 121, 122]⟩

theorem len8_bt : ∀ k : Nat, k < 256 → bt len8S k = if k < 1 then 0 else if k < 2 then 1 else if k < 4 then 2 else if k < 8 then 3 else if k < 16 then 4 else if k < 32 then 5 else if k < 64 then 6 else if k < 128 then 7 else 8 := by decide +kernel

theorem tab_bt : ∀ k : Nat, k < 100 → bt tabS (2 * k) = 48 + (k / 10 : Nat) ∧ bt tabS (2 * k + 1) = 48 + (k % 10 : Nat) := by decide +kernel

theorem dig_ext : ∀ k : Nat, k < 10 → digS.extract k (k + 1) = strOfNums (decL k) := by decide +kernel

theorem tab_ext0 : ∀ k : Nat, k < 90 → tabS.extract ((k + 10) * 2) ((k + 10) * 2 + 2) = strOfNums (decL ((k + 10 : Nat) : Int)) := by decide +kernel
theorem tab_ext (k : Nat) (h1 : 10 ≤ k) (h2 : k < 100) : tabS.extract (k * 2) (k * 2 + 2) = strOfNums (decL k) := by
  have := tab_ext0 (k - 10) (by omega)
  rwa [show k - 10 + 10 = k by omega] at this

theorem a_small (n : Int) (h : 0 ≤ n ∧ n ≤ 99) (w : World) (hb : D.Base w) : Calls Tryz.prog 120 #[.int .i64 n] w fun e w' => e = .returned (.string (strOfNums (decL n))) ∧ Below w.heap.size w w' := by
  obtain ⟨k, rfl⟩ := Int.eq_ofNat_of_zero_le h.1
  by_cases h10 : (k : Int) < 10
  · have e1 := dig_ext k (by omega)
    have e2 : ((k : Int)).toNat = k := by omega
    have e3 : ((k : Int) + 1).toNat = k + 1 := by omega
    have hz : digS.size = 36 := rfl
    rw [← e1]
    refine enter Tryz.func120 rfl Tryz.ntmps120 rfl (by assumption) ?_
    (repeat' (first | intro (b : Nat) | refine go ?_ | (refine br ?_ ?_ <;> first | exact trivial | intro hq)))
    refine L.p rfl rfl (PV.slSt (s := digS) rfl rfl rfl (by omega) (by omega) (by omega)) ?_
    rw [e2, e3]
    (repeat (first | intro (b : Nat) | refine go ?_))
    (refine ret ?_; try exact rfl)
  · have e1 := tab_ext k (by omega) (by omega)
    have e2 : ((k : Int) * 2).toNat = k * 2 := by omega
    have e3 : ((k : Int) * 2 + 2).toNat = k * 2 + 2 := by omega
    have hz : tabS.size = 200 := rfl
    rw [← e1]
    refine enter Tryz.func120 rfl Tryz.ntmps120 rfl (by assumption) ?_
    (repeat' (first | intro (b : Nat) | refine go ?_ | (refine br ?_ ?_ <;> first | exact trivial | intro hq)))
    refine L.p rfl rfl (PV.slSt (s := tabS) rfl rfl rfl (by omega) (by omega) (by omega)) ?_
    rw [e2, e3]
    (repeat (first | intro (b : Nat) | refine go ?_))
    (refine ret ?_; try exact rfl)

def lenN (n : Int) : Int := if n < 128 then 7 else if n < 256 then 8 else if n < 512 then 9 else if n < 1024 then 10 else if n < 2048 then 11 else if n < 4096 then 12 else if n < 8192 then 13 else 14

theorem len8_lo {n : Int} (h : 100 ≤ n ∧ n ≤ 255) : 0 + bt len8S n.toNat = lenN n := by
  rw [len8_bt _ (by omega)]
  unfold lenN
  repeat' split
  all_goals omega

theorem len8_hi {n : Int} (h : 256 ≤ n ∧ n ≤ 9999) : 0 + 8 + bt len8S (n / 256).toNat = lenN n := by
  rw [len8_bt _ (by omega)]
  unfold lenN
  repeat' split
  all_goals omega

theorem a_Len64 (n : Int) (h : 100 ≤ n ∧ n ≤ 9999) (w : World) (hb : D.Base w) : Calls Tryz.prog 182 #[.int .u64 n] w fun e w' => e = .returned (.int .i64 (lenN n)) ∧ Below w.heap.size w w' := by
  have hz : len8S.size = 256 := rfl
  by_cases h8 : n < 256
  · have e1 := len8_lo (n := n) (by omega)
    have g1 := bt_nonneg len8S n.toNat
    have g2 := bt_le len8S n.toNat
    refine enter Tryz.func182 rfl Tryz.ntmps182 rfl (by assumption) ?_
    (repeat' (first | intro (b : Nat) | refine go ?_ | (refine br ?_ ?_ <;> first | exact trivial | intro hq)))
    refine L.p rfl rfl (PV.idxSt (s := len8S) rfl rfl (by omega)) ?_
    generalize bt len8S n.toNat = v at *
    (repeat (first | intro (b : Nat) | refine go ?_))
    (refine ret ?_; try exact rfl)
    simp only [tupleOf, e1]
  · have e1 := len8_hi (n := n) (by omega)
    have g1 := bt_nonneg len8S (n / 256).toNat
    have g2 := bt_le len8S (n / 256).toNat
    refine enter Tryz.func182 rfl Tryz.ntmps182 rfl (by assumption) ?_
    (repeat' (first | intro (b : Nat) | refine go ?_ | (refine br ?_ ?_ <;> first | exact trivial | intro hq)))
    refine L.p rfl rfl (PV.shrK (n / 256) rfl rfl (by omega) (Int.fdiv_eq_ediv_of_nonneg n (by decide))) ?_
    (repeat' (first | intro (b : Nat) | refine go ?_ | (refine br ?_ ?_ <;> first | exact trivial | intro hq)))
    refine L.p rfl rfl (PV.idxSt (s := len8S) rfl rfl (by omega)) ?_
    generalize bt len8S (n / 256).toNat = v at *
    (repeat (first | intro (b : Nat) | refine go ?_))
    (refine ret ?_; try exact rfl)
    simp only [tupleOf, e1]

theorem a_log10 (x t : Int) (h : 0 ≤ x ∧ x ≤ 64) (ht : x * 78913 / 262144 = t) (w : World) (hb : D.Base w) : Calls Tryz.prog 181 #[.int .i64 x] w fun e w' => e = .returned (.int .i64 t) ∧ Below w.heap.size w w' := by
  refine enter Tryz.func181 rfl Tryz.ntmps181 rfl (by assumption) ?_
  (repeat (first | intro (b : Nat) | refine go ?_))
  refine L.p rfl rfl (PV.shrK t rfl rfl (by omega) ((Int.fdiv_eq_ediv_of_nonneg (x * 78913) (by decide)).trans ht)) ?_
  (repeat (first | intro (b : Nat) | refine go ?_))
  (refine ret ?_; try exact rfl)

theorem a_bool2 (b : Bool) (w : World) (hb : D.Base w) : Calls Tryz.prog 183 #[.bool b] w fun e w' => e = .returned (.int .i64 (if b = true then 1 else 0)) ∧ Below w.heap.size w w' := by
  cases b
  all_goals
    refine enter Tryz.func183 rfl Tryz.ntmps183 rfl (by assumption) ?_
    (repeat' (first | intro (b : Nat) | refine go ?_ | (refine br ?_ ?_ <;> first | exact trivial | intro hq)))
    (refine ret ?_; try exact rfl)

/-- The library's powers of ten, as far as they are read. -/
def Pw (w : World) : Prop := w.cell? ⟨2, 2, none⟩ = some (.int .u64 100) ∧ w.cell? ⟨2, 3, none⟩ = some (.int .u64 1000) ∧ w.cell? ⟨2, 4, none⟩ = some (.int .u64 10000)
theorem Pw.old {w0 w : World} {hs : SH} (h : Pw w0) (hst : St w0 hs w) : Pw w := ⟨hst.old h.1, hst.old h.2.1, hst.old h.2.2⟩

def ndN (n : Int) : Int := if n < 1000 then 3 else 4

theorem a_numDigits (n : Int) (h : 100 ≤ n ∧ n ≤ 9999) (w : World) (hb : D.Base w) (hp : Pw w) : Calls Tryz.prog 121 #[.int .u64 n] w fun e w' => e = .returned (.int .i64 (ndN n)) ∧ Below w.heap.size w w' := by
  have hl := a_Len64 n h
  obtain ⟨p2, p3, p4⟩ := hp
  have hb0 : lenN n * 78913 / 262144 = if n < 512 then 2 else if n < 8192 then 3 else 4 := by
    unfold lenN
    repeat' split
    all_goals omega
  have hl1 : 0 ≤ lenN n ∧ lenN n ≤ 64 := by
    unfold lenN
    repeat' split
    all_goals omega
  rcases (by omega : n < 512 ∨ (512 ≤ n ∧ n < 8192) ∨ 8192 ≤ n) with h1 | h1 | h1
  · rw [if_pos h1] at hb0
    have hg := a_log10 (lenN n) 2 hl1 hb0
    have hbo := a_bool2 (decide (100 ≤ n))
    generalize lenN n = L0 at *
    refine enter Tryz.func121 rfl Tryz.ntmps121 rfl (by assumption) ?_
    (repeat' (first | intro (b : Nat) | refine go ?_ | (refine br ?_ ?_ <;> first | exact trivial | intro hq) | refine L.call (h := by intro W hW; first | apply hl W hW.base | apply hg W hW.base | apply hbo W hW.base) (k := ?_)))
    (refine ret ?_; try exact rfl)
    unfold ndN
    rw [if_pos (by omega : n < 1000)]
    simp [tupleOf, h.1]
  · rw [if_neg (by omega), if_pos h1.2] at hb0
    have hg := a_log10 (lenN n) 3 hl1 hb0
    have hbo := a_bool2 (decide (1000 ≤ n))
    generalize lenN n = L0 at *
    refine enter Tryz.func121 rfl Tryz.ntmps121 rfl (by assumption) ?_
    (repeat' (first | intro (b : Nat) | refine go ?_ | (refine br ?_ ?_ <;> first | exact trivial | intro hq) | refine L.call (h := by intro W hW; first | apply hl W hW.base | apply hg W hW.base | apply hbo W hW.base) (k := ?_)))
    (refine ret ?_; try exact rfl)
    unfold ndN
    by_cases h3 : n < 1000
    · rw [if_pos h3]; simp [tupleOf]; omega
    · rw [if_neg h3]; simp [tupleOf]; omega
  · rw [if_neg (by omega), if_neg (by omega)] at hb0
    have hg := a_log10 (lenN n) 4 hl1 hb0
    have hbo := a_bool2 (decide (10000 ≤ n))
    generalize lenN n = L0 at *
    refine enter Tryz.func121 rfl Tryz.ntmps121 rfl (by assumption) ?_
    (repeat' (first | intro (b : Nat) | refine go ?_ | (refine br ?_ ?_ <;> first | exact trivial | intro hq) | refine L.call (h := by intro W hW; first | apply hl W hW.base | apply hg W hW.base | apply hbo W hW.base) (k := ?_)))
    (refine ret ?_; try exact rfl)
    unfold ndN
    rw [if_neg (by omega : ¬ n < 1000)]
    simp [tupleOf]
    omega

theorem a_fmt3 (w0 : World) (F : SH) (b c : Nat) (n : Int) (h : 100 ≤ n ∧ n ≤ 999) (w : World) (hst : St w0 ((b, .cells 147 [.int .u8 0, .int .u8 0, .int .u8 0, .int .u8 0, .int .u8 0, .int .u8 0, .int .u8 0, .int .u8 0, .int .u8 0, .int .u8 0, .int .u8 0, .int .u8 0, .int .u8 0, .int .u8 0, .int .u8 0, .int .u8 0, .int .u8 0, .int .u8 0, .int .u8 0, .int .u8 0, .int .u8 0, .int .u8 0, .int .u8 0, .int .u8 0]) :: F) w) :
    Calls Tryz.prog 122 #[.slice (some ⟨b, 1, none⟩) 3 c, .int .u64 n] w (Turns w0 (.tuple #[]) ((b, .cells 147 [.int .u8 0, .int .u8 (48 + n / 100), .int .u8 (bt tabS (n % 100 * 2).toNat), .int .u8 (bt tabS (n % 100 * 2 + 1).toNat), .int .u8 0, .int .u8 0, .int .u8 0, .int .u8 0, .int .u8 0, .int .u8 0, .int .u8 0, .int .u8 0, .int .u8 0, .int .u8 0, .int .u8 0, .int .u8 0, .int .u8 0, .int .u8 0, .int .u8 0, .int .u8 0, .int .u8 0, .int .u8 0, .int .u8 0, .int .u8 0]) :: F)) := by
  have hz : tabS.size = 200 := rfl
  have ew23 : IntKind.u32.wrap (n % 100 * 2 + 1) = n % 100 * 2 + 1 := u32_in (by omega) (by omega)
  have ew2 : IntKind.u32.wrap (48 + n / 100) = 48 + n / 100 := u32_in (by omega) (by omega)
  refine enterl Tryz.func122 rfl Tryz.ntmps122 rfl hst ?_
  (repeat (first | intro (b : Nat) | refine go ?_))
  refine C.rounds 1 ?_
  (repeat' (first | intro (b : Nat) | refine go ?_ | (refine br ?_ ?_ <;> first | exact trivial | intro hq)))
  refine L.p rfl rfl (PV.convK rfl (u32_in (by omega) (by omega))) ?_
  (repeat' (first | intro (b : Nat) | refine go ?_ | (refine br ?_ ?_ <;> first | exact trivial | intro hq)))
  refine L.p rfl rfl (PV.remK rfl rfl (by omega) (by omega)) ?_
  refine L.p rfl rfl (PV.mulK rfl rfl (u32_in (by omega) (by omega))) ?_
  (repeat' (first | intro (b : Nat) | refine go ?_ | (refine br ?_ ?_ <;> first | exact trivial | intro hq)))
  refine L.p rfl rfl (PV.quoK rfl rfl (by omega) (by omega) (u32_in (by omega) (by omega))) ?_
  (repeat (first | intro (b : Nat) | refine go ?_))
  ((repeat (refine C.seq ?_)); apply C.drawsw 12 b (.cells 147 [.int .u8 0, .int .u8 0, .int .u8 0, .int .u8 0, .int .u8 0, .int .u8 0, .int .u8 0, .int .u8 0, .int .u8 0, .int .u8 0, .int .u8 0, .int .u8 0, .int .u8 0, .int .u8 0, .int .u8 0, .int .u8 0, .int .u8 0, .int .u8 0, .int .u8 0, .int .u8 0, .int .u8 0, .int .u8 0, .int .u8 0, .int .u8 0]) 13 [none, none, none, none, none, none, none, none, none, none, none, none, some _])
  (repeat (first | intro (b : Nat) | refine gg ?_))
  rw [ew23]
  refine G.p rfl rfl (PV.idxSt (s := tabS) rfl rfl (by omega)) ?_
  (repeat (first | intro (b : Nat) | refine gg ?_))
  refine G.p rfl rfl (PV.idxSt (s := tabS) rfl rfl (by omega)) ?_
  (repeat (first | intro (b : Nat) | refine gg ?_))
  (first | (apply G.stk; exact rfl; exact rfl; exact rfl; exact rfl; exact rfl; exact rfl; exact rfl; (· (repeat (first | exact Wr.nil | apply Wr.put | apply Wr.skip)))) | (apply G.st1; exact rfl; exact rfl; exact rfl; exact rfl; exact rfl; exact rfl; (· (repeat (first | exact Wr.nil | apply Wr.put | apply Wr.skip)))))
  (repeat (first | intro (b : Nat) | refine gg ?_))
  (repeat' (first | intro (b : Nat) | refine go ?_ | (refine br ?_ ?_ <;> first | exact trivial | intro hq)))
  rw [ew2]
  (repeat' (first | intro (b : Nat) | refine go ?_ | (refine br ?_ ?_ <;> first | exact trivial | intro hq)))
  exact rettN rfl

theorem a_fmt4 (w0 : World) (F : SH) (b c : Nat) (n : Int) (h : 1000 ≤ n ∧ n ≤ 9999) (w : World) (hst : St w0 ((b, .cells 147 [.int .u8 0, .int .u8 0, .int .u8 0, .int .u8 0, .int .u8 0, .int .u8 0, .int .u8 0, .int .u8 0, .int .u8 0, .int .u8 0, .int .u8 0, .int .u8 0, .int .u8 0, .int .u8 0, .int .u8 0, .int .u8 0, .int .u8 0, .int .u8 0, .int .u8 0, .int .u8 0, .int .u8 0, .int .u8 0, .int .u8 0, .int .u8 0]) :: F) w) :
    Calls Tryz.prog 122 #[.slice (some ⟨b, 1, none⟩) 4 c, .int .u64 n] w (Turns w0 (.tuple #[]) ((b, .cells 147 [.int .u8 0, .int .u8 (bt tabS (n % 10000 / 100 * 2).toNat), .int .u8 (bt tabS (n % 10000 / 100 * 2 + 1).toNat), .int .u8 (bt tabS (n % 10000 % 100 * 2).toNat), .int .u8 (bt tabS (n % 10000 % 100 * 2 + 1).toNat), .int .u8 0, .int .u8 0, .int .u8 0, .int .u8 0, .int .u8 0, .int .u8 0, .int .u8 0, .int .u8 0, .int .u8 0, .int .u8 0, .int .u8 0, .int .u8 0, .int .u8 0, .int .u8 0, .int .u8 0, .int .u8 0, .int .u8 0, .int .u8 0, .int .u8 0,]) :: F)) := by
  have hz : tabS.size = 200 := rfl
  have ew17 : IntKind.u32.wrap (n % 10000 % 100 * 2 + 1) = n % 10000 % 100 * 2 + 1 := u32_in (by omega) (by omega)
  have ew18 : IntKind.u32.wrap (n % 10000 / 100 * 2 + 1) = n % 10000 / 100 * 2 + 1 := u32_in (by omega) (by omega)
  refine enterl Tryz.func122 rfl Tryz.ntmps122 rfl hst ?_
  (repeat (first | intro (b : Nat) | refine go ?_))
  refine C.rounds 1 ?_
  (repeat' (first | intro (b : Nat) | refine go ?_ | (refine br ?_ ?_ <;> first | exact trivial | intro hq)))
  refine L.p rfl rfl (PV.convK rfl (u32_in (by omega) (by omega))) ?_
  (repeat' (first | intro (b : Nat) | refine go ?_ | (refine br ?_ ?_ <;> first | exact trivial | intro hq)))
  refine L.p rfl rfl (PV.remK rfl rfl (by omega) (by omega)) ?_
  (repeat' (first | intro (b : Nat) | refine go ?_ | (refine br ?_ ?_ <;> first | exact trivial | intro hq)))
  refine L.p rfl rfl (PV.quoK rfl rfl (by omega) (by omega) (u32_in (by omega) (by omega))) ?_
  (repeat' (first | intro (b : Nat) | refine go ?_ | (refine br ?_ ?_ <;> first | exact trivial | intro hq)))
  refine L.p rfl rfl (PV.quoK rfl rfl (by omega) (by omega) (u32_in (by omega) (by omega))) ?_
  refine L.p rfl rfl (PV.mulK rfl rfl (u32_in (by omega) (by omega))) ?_
  (repeat (first | intro (b : Nat) | refine go ?_))
  refine L.p rfl rfl (PV.remK rfl rfl (by omega) (by omega)) ?_
  refine L.p rfl rfl (PV.mulK rfl rfl (u32_in (by omega) (by omega))) ?_
  (repeat (first | intro (b : Nat) | refine go ?_))
  ((repeat (refine C.seq ?_)); apply C.drawsw 12 b (.cells 147 [.int .u8 0, .int .u8 0, .int .u8 0, .int .u8 0, .int .u8 0, .int .u8 0, .int .u8 0, .int .u8 0, .int .u8 0, .int .u8 0, .int .u8 0, .int .u8 0, .int .u8 0, .int .u8 0, .int .u8 0, .int .u8 0, .int .u8 0, .int .u8 0, .int .u8 0, .int .u8 0, .int .u8 0, .int .u8 0, .int .u8 0, .int .u8 0]) 13 [none, none, none, none, none, none, none, none, none, none, none, none, some _])
  (repeat (first | intro (b : Nat) | refine gg ?_))
  rw [ew17]
  refine G.p rfl rfl (PV.idxSt (s := tabS) rfl rfl (by omega)) ?_
  (repeat (first | intro (b : Nat) | refine gg ?_))
  refine G.p rfl rfl (PV.idxSt (s := tabS) rfl rfl (by omega)) ?_
  (repeat (first | intro (b : Nat) | refine gg ?_))
  (first | (apply G.stk; exact rfl; exact rfl; exact rfl; exact rfl; exact rfl; exact rfl; exact rfl; (· (repeat (first | exact Wr.nil | apply Wr.put | apply Wr.skip)))) | (apply G.st1; exact rfl; exact rfl; exact rfl; exact rfl; exact rfl; exact rfl; (· (repeat (first | exact Wr.nil | apply Wr.put | apply Wr.skip)))))
  (repeat (first | intro (b : Nat) | refine gg ?_))
  (repeat (first | intro (b : Nat) | refine go ?_))
  ((repeat (refine C.seq ?_)); apply C.drawsw 12 b (.cells 147 [.int .u8 0, .int .u8 0, .int .u8 0, .int .u8 (bt tabS (n % 10000 % 100 * 2).toNat), .int .u8 (bt tabS (n % 10000 % 100 * 2 + 1).toNat), .int .u8 0, .int .u8 0, .int .u8 0, .int .u8 0, .int .u8 0, .int .u8 0, .int .u8 0, .int .u8 0, .int .u8 0, .int .u8 0, .int .u8 0, .int .u8 0, .int .u8 0, .int .u8 0, .int .u8 0, .int .u8 0, .int .u8 0, .int .u8 0, .int .u8 0,]) 13 [none, none, none, none, none, none, none, none, none, none, none, none, some _])
  (repeat (first | intro (b : Nat) | refine gg ?_))
  rw [ew18]
  refine G.p rfl rfl (PV.idxSt (s := tabS) rfl rfl (by omega)) ?_
  (repeat (first | intro (b : Nat) | refine gg ?_))
  refine G.p rfl rfl (PV.idxSt (s := tabS) rfl rfl (by omega)) ?_
  (repeat (first | intro (b : Nat) | refine gg ?_))
  (first | (apply G.stk; exact rfl; exact rfl; exact rfl; exact rfl; exact rfl; exact rfl; exact rfl; (· (repeat (first | exact Wr.nil | apply Wr.put | apply Wr.skip)))) | (apply G.st1; exact rfl; exact rfl; exact rfl; exact rfl; exact rfl; exact rfl; (· (repeat (first | exact Wr.nil | apply Wr.put | apply Wr.skip)))))
  (repeat (first | intro (b : Nat) | refine gg ?_))
  (repeat' (first | intro (b : Nat) | refine go ?_ | (refine br ?_ ?_ <;> first | exact trivial | intro hq)))
  exact rettN rfl

theorem dec3_tab {n : Int} (h : 100 ≤ n ∧ n ≤ 999) : [48 + n / 100, bt tabS (n % 100 * 2).toNat, bt tabS (n % 100 * 2 + 1).toNat] = decL n := by
  obtain ⟨h1, h2⟩ := tab_bt (n % 100).toNat (by omega)
  rw [show (n % 100 * 2).toNat = 2 * (n % 100).toNat by omega, show (n % 100 * 2 + 1).toNat = 2 * (n % 100).toNat + 1 by omega, h1, h2]
  unfold decL
  rw [if_neg (by omega), if_neg (by omega), if_pos (by omega), dig3]
  simp only [List.cons.injEq, and_true]
  omega

theorem dec4_tab {n : Int} (h : 1000 ≤ n ∧ n ≤ 9999) : [bt tabS (n % 10000 / 100 * 2).toNat, bt tabS (n % 10000 / 100 * 2 + 1).toNat, bt tabS (n % 10000 % 100 * 2).toNat, bt tabS (n % 10000 % 100 * 2 + 1).toNat] = decL n := by
  obtain ⟨h1, h2⟩ := tab_bt (n % 10000 / 100).toNat (by omega)
  obtain ⟨h3, h4⟩ := tab_bt (n % 10000 % 100).toNat (by omega)
  rw [show (n % 10000 / 100 * 2).toNat = 2 * (n % 10000 / 100).toNat by omega, show (n % 10000 / 100 * 2 + 1).toNat = 2 * (n % 10000 / 100).toNat + 1 by omega, show (n % 10000 % 100 * 2).toNat = 2 * (n % 10000 % 100).toNat by omega, show (n % 10000 % 100 * 2 + 1).toNat = 2 * (n % 10000 % 100).toNat + 1 by omega, h1, h2, h3, h4]
  unfold decL
  rw [if_neg (by omega), if_neg (by omega), if_neg (by omega), dig4]
  simp only [List.cons.injEq, and_true]
  omega

theorem a_FormatInt (n : Int) (h : 0 ≤ n ∧ n ≤ 9999) (w : World) (hb : D.Base w) (hp : Pw w) : Calls Tryz.prog 73 #[.int .i64 n, .int .i64 10] w fun e w' => e = .returned (.string (strOfNums (decL n))) ∧ Below w.heap.size w w' := by
  by_cases h1 : n < 100
  · have hS := a_small n (by omega)
    refine enter Tryz.func73 rfl Tryz.ntmps73 rfl (by assumption) ?_
    (repeat' (first | intro (b : Nat) | refine go ?_ | (refine br ?_ ?_ <;> first | exact trivial | intro hq) | refine L.call (h := by intro W hW; apply hS W hW.base) (k := ?_)))
    (refine ret ?_; try exact rfl)
  · have hN := a_numDigits n (by omega)
    by_cases h2 : n < 1000
    · rw [show ndN n = 3 from if_pos h2] at hN
      refine enter Tryz.func73 rfl Tryz.ntmps73 rfl (by assumption) ?_
      (repeat' (first | intro (b : Nat) | refine go ?_ | (refine br ?_ ?_ <;> first | exact trivial | intro hq) | refine L.call (h := by intro W hW; apply hN W hW.base (hp.old hW)) (k := ?_)))
      refine L.p rfl rfl (PV.convK rfl (u64_in (by omega) (by omega))) ?_
      (repeat' (first | intro (b : Nat) | refine go ?_ | (refine br ?_ ?_ <;> first | exact trivial | intro hq) | refine L.call (h := by intro W hW; apply hN W hW.base (hp.old hW)) (k := ?_)))
      refine L.p rfl rfl (PV.slArr rfl rfl rfl (by decide) (by decide) (by decide) (by decide)) ?_
      (repeat (first | intro (b : Nat) | refine go ?_))
      revert b; intro ba
      refine L.tcallb ba (h := by intro W hW; exact a_fmt3 _ _ ba _ n (by omega) W hW) (k := ?_)
      (repeat' (first | intro (b : Nat) | refine go ?_ | (refine br ?_ ?_ <;> first | exact trivial | intro hq)))
      refine L.p rfl rfl (PV.slArr rfl rfl rfl (by decide) (by decide) (by decide) (by decide)) ?_
      (repeat (first | intro (b : Nat) | refine go ?_))
      (refine ret ?_; try exact rfl)
      rw [← dec3_tab (n := n) (by omega)]
      rfl
    · rw [show ndN n = 4 from if_neg h2] at hN
      refine enter Tryz.func73 rfl Tryz.ntmps73 rfl (by assumption) ?_
      (repeat' (first | intro (b : Nat) | refine go ?_ | (refine br ?_ ?_ <;> first | exact trivial | intro hq) | refine L.call (h := by intro W hW; apply hN W hW.base (hp.old hW)) (k := ?_)))
      refine L.p rfl rfl (PV.convK rfl (u64_in (by omega) (by omega))) ?_
      (repeat' (first | intro (b : Nat) | refine go ?_ | (refine br ?_ ?_ <;> first | exact trivial | intro hq) | refine L.call (h := by intro W hW; apply hN W hW.base (hp.old hW)) (k := ?_)))
      refine L.p rfl rfl (PV.slArr rfl rfl rfl (by decide) (by decide) (by decide) (by decide)) ?_
      (repeat (first | intro (b : Nat) | refine go ?_))
      revert b; intro ba
      refine L.tcallb ba (h := by intro W hW; exact a_fmt4 _ _ ba _ n (by omega) W hW) (k := ?_)
      (repeat' (first | intro (b : Nat) | refine go ?_ | (refine br ?_ ?_ <;> first | exact trivial | intro hq)))
      refine L.p rfl rfl (PV.slArr rfl rfl rfl (by decide) (by decide) (by decide) (by decide)) ?_
      (repeat (first | intro (b : Nat) | refine go ?_))
      (refine ret ?_; try exact rfl)
      rw [← dec4_tab (n := n) (by omega)]
      rfl

theorem a_Itoa0 (n : Int) (h : 0 ≤ n ∧ n ≤ 9999) (w : World) (hb : D.Base w) (hp : Pw w) : Calls Tryz.prog 42 #[.int .i64 n] w fun e w' => e = .returned (.string (strOfNums (decL n))) ∧ Below w.heap.size w w' := by
  have hF := a_FormatInt n h
  refine enter Tryz.func42 rfl Tryz.ntmps42 rfl (by assumption) ?_
  (repeat' (first | intro (b : Nat) | refine go ?_ | (refine br ?_ ?_ <;> first | exact trivial | intro hq) | refine L.call (h := by intro W hW; apply hF W hW.base (hp.old hW)) (k := ?_)))
  (refine ret ?_; try exact rfl)

theorem a_Itoa (n : Int) (h : 0 ≤ n ∧ n ≤ 9999) (w : World) (hb : D.Base w) (hp : Pw w) : Calls Tryz.prog 24 #[.int .i64 n] w fun e w' => e = .returned (.string (strOfNums (decL n))) ∧ Below w.heap.size w w' := by
  have hF := a_Itoa0 n h
  refine enter Tryz.func24 rfl Tryz.ntmps24 rfl (by assumption) ?_
  (repeat' (first | intro (b : Nat) | refine go ?_ | (refine br ?_ ?_ <;> first | exact trivial | intro hq) | refine L.call (h := by intro W hW; apply hF W hW.base (hp.old hW)) (k := ?_)))
  (refine ret ?_; try exact rfl)

end D
end Go.Proofs.YtboglbdhibcacaaGreatDoor
