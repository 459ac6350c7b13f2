/- Equality of values of the program's own types. -/
import Derived.Test.YtboglbdhibcacaaGreatDoorVEI
import Derived.LaidEql
import Derived.Stop.Asserts
import Derived.RowKitTokens
import Derived.Test.YtboglbdhibcacaaGreatDoorVc
import Derived.WalkKit
namespace Go.Proofs.YtboglbdhibcacaaGreatDoor
set_option linter.unusedVariables false
set_option linter.unusedSimpArgs false
set_option maxRecDepth 100000
namespace D
open Go.RowKit

class EqA (P : Program) (t : TypeId) : Prop where
  ok : P.eqGuardType P.depth t = false

theorem eqGuard_aggs {P : Program} {t : TypeId} [i : EqA P t] (op : BinOp) (x y : Operand) (a b : Array Value) (w : World) : (eqGuard op t x y (.agg a) (.agg b)).run P w = .ok () w := by
  cases op <;> simp [eqGuard, i.ok]

/-- Two composites, and whether they are equal. -/
class EqV (P : Program) (t : TypeId) (xs ys : List Value) (b : outParam Bool) : Prop where
  ok : ∀ w, (Op.equal t (.agg xs.toArray) (.agg ys.toArray)).run P w = .ok b w

theorem PV.eqlA {P : Program} {e : Env} {d : Option Tmp} {ty : TypeId} {pos : String} {af : Array Edge} {g : Option (Nat × Bool)} {x y : Operand} {xs ys : List Value} {b : Bool} {xt yt : TypeId} [i : EqA P xt] (hx : ev e x = some (.agg xs.toArray)) (hy : ev e y = some (.agg ys.toArray))
    (h : EqV P xt xs ys b) : PV P ⟨d, .binOp .eql xt x y yt, ty, pos, af, g⟩ e (.bool b) :=
  .bin hx hy (eqGuard_aggs _ _ _ _ _) fun w => by simp only [Go.binOp, Sem.run_bind, h.ok, Result.andThen_ok]; rfl

theorem PV.neqA {P : Program} {e : Env} {d : Option Tmp} {ty : TypeId} {pos : String} {af : Array Edge} {g : Option (Nat × Bool)} {x y : Operand} {xs ys : List Value} {b : Bool} {xt yt : TypeId} [i : EqA P xt] (hx : ev e x = some (.agg xs.toArray)) (hy : ev e y = some (.agg ys.toArray))
    (h : EqV P xt xs ys b) : PV P ⟨d, .binOp .neq xt x y yt, ty, pos, af, g⟩ e (.bool (!b)) :=
  .bin hx hy (eqGuard_aggs _ _ _ _ _) fun w => by simp only [Go.binOp, Sem.run_bind, h.ok, Result.andThen_ok]; rfl

theorem fieldsOf_eq {P : Program} {t : TypeId} {fs : Array Field} (h : P.underlying t = some (.struct fs)) : P.fieldsOf t = fs := by simp [Program.fieldsOf, h]

theorem eq_clock (a0 a1 a2 a3 b0 b1 b2 b3 : Int) (w : World) : (Op.equal 67 (.agg #[.int .i64 a0, .int .i64 a1, .int .i64 a2, .int .i64 a3]) (.agg #[.int .i64 b0, .int .i64 b1, .int .i64 b2, .int .i64 b3])).run Tryz.prog w = .ok (decide (a0 = b0 ∧ a1 = b1 ∧ a2 = b2 ∧ a3 = b3)) w := by
  show (Op.equalIn (9999 + 1) 67 _ _).run Tryz.prog w = _
  rw [run_equalIn_struct w 9999 67 _ _ (by rw [fieldsOf_eq Tryz.underlying67]; exact Tryz.underlying67) (by kernel_rfl), fieldsOf_eq Tryz.underlying67]
  have h3 : ∀ a b w, (Op.equalIn 9999 3 (.int .i64 a) (.int .i64 b)).run Tryz.prog w = .ok (a == b) w := fun a b w => run_equalIn_int w 9998 3 .i64 .i64 a b Tryz.underlying3
  have hs : ∀ w, (isAgg 3).run Tryz.prog w = .ok false w := fun w => run_isAgg_sc w
  simp [Op.eqFields, part, hs, h3]
  repeat' split
  all_goals simp_all

instance (a0 a1 a2 a3 b0 b1 b2 b3 : Int) : EqV Tryz.prog 67 [.int .i64 a0, .int .i64 a1, .int .i64 a2, .int .i64 a3] [.int .i64 b0, .int .i64 b1, .int .i64 b2, .int .i64 b3] (decide (a0 = b0 ∧ a1 = b1 ∧ a2 = b2 ∧ a3 = b3)) := ⟨eq_clock a0 a1 a2 a3 b0 b1 b2 b3⟩

instance : EqA Tryz.prog 67 := ⟨by kernel_rfl⟩

theorem eq_period (a0 a1 a2 a3 a4 a5 b0 b1 b2 b3 b4 b5 : Int) (w : World) : (Op.equal 73 (.agg #[.int .i64 a0, .int .i64 a1, .int .i64 a2, .int .i64 a3, .int .i64 a4, .int .i64 a5]) (.agg #[.int .i64 b0, .int .i64 b1, .int .i64 b2, .int .i64 b3, .int .i64 b4, .int .i64 b5])).run Tryz.prog w = .ok (decide (a0 = b0 ∧ a1 = b1 ∧ a2 = b2 ∧ a3 = b3 ∧ a4 = b4 ∧ a5 = b5)) w := by
  show (Op.equalIn (9999 + 1) 73 _ _).run Tryz.prog w = _
  rw [run_equalIn_struct w 9999 73 _ _ (by rw [fieldsOf_eq Tryz.underlying73]; exact Tryz.underlying73) (by kernel_rfl), fieldsOf_eq Tryz.underlying73]
  have h3 : ∀ a b w, (Op.equalIn 9999 3 (.int .i64 a) (.int .i64 b)).run Tryz.prog w = .ok (a == b) w := fun a b w => run_equalIn_int w 9998 3 .i64 .i64 a b Tryz.underlying3
  have hs : ∀ w, (isAgg 3).run Tryz.prog w = .ok false w := fun w => run_isAgg_sc w
  simp [Op.eqFields, part, hs, h3]
  repeat' split
  all_goals simp_all

instance (a0 a1 a2 a3 a4 a5 b0 b1 b2 b3 b4 b5 : Int) : EqV Tryz.prog 73 [.int .i64 a0, .int .i64 a1, .int .i64 a2, .int .i64 a3, .int .i64 a4, .int .i64 a5] [.int .i64 b0, .int .i64 b1, .int .i64 b2, .int .i64 b3, .int .i64 b4, .int .i64 b5] (decide (a0 = b0 ∧ a1 = b1 ∧ a2 = b2 ∧ a3 = b3 ∧ a4 = b4 ∧ a5 = b5)) := ⟨eq_period a0 a1 a2 a3 a4 a5 b0 b1 b2 b3 b4 b5⟩

instance : EqA Tryz.prog 73 := ⟨by kernel_rfl⟩

end D
end Go.Proofs.YtboglbdhibcacaaGreatDoor

namespace Go.Proofs.YtboglbdhibcacaaGreatDoor
set_option linter.unusedVariables false
set_option linter.unusedSimpArgs false
set_option maxRecDepth 100000
open Go.RowKit Go.Extern.Stop Go.Stop Go.Extern

theorem Tryz.isTypeOf (v : Value) (w : World) : (Extern.ReflectliteType.typeOf #[.iface 261 v]).run Tryz.prog w = .ok (.iface 226 (.agg #[.pointer (some ⟨9, 261, none⟩)])) w := by kernel_rfl
theorem Tryz.isComparable (w : World) : ((Extern.ReflectliteType.method fun t => do Rtype.noPackHeld "Comparable" t; (fun a => Value.bool a.comparable) <$> typeInfo t) #[.agg #[.pointer (some ⟨9, 261, none⟩)]]).run Tryz.prog w = .ok (.bool true) w := by kernel_rfl
theorem Tryz.isComp : (Tryz.prog.info? 261).map (·.comparable) = some true := by kernel_rfl
theorem Tryz.isSize : (Tryz.prog.info? 280).map (·.size) = some 1 := by kernel_rfl

set_option maxHeartbeats 400000 in
theorem is_same (a : Addr) (w : World) : Calls Tryz.prog 115 #[.iface 261 (.pointer (some a)), .iface 261 (.pointer (some a))] w fun e w' => e = .returned (.bool true) ∧ w = w' := by
  obtain ⟨i, hi, hcmp⟩ := Option.map_eq_some_iff.1 Tryz.isComp
  obtain ⟨j, hj, hjs⟩ := Option.map_eq_some_iff.1 Tryz.isSize
  have h8 := @run_callFunc_extern Tryz.prog 179 _ Extern.ReflectliteType.typeOf Tryz.func179 (by kernel_rfl) (by kernel_rfl) (by kernel_rfl) (by kernel_rfl)
  have h32 := @run_callFunc_extern Tryz.prog 276 _ (Extern.ReflectliteType.method fun t => do Rtype.noPackHeld "Comparable" t; pure (.bool (← typeInfo t).comparable)) Tryz.func276 (by kernel_rfl) (by kernel_rfl) (by kernel_rfl) (by kernel_rfl)
  have tT := Tryz.isTypeOf
  have hmt : ∀ w : World, (method 392 226 (.agg #[.pointer (some ⟨9, 261, none⟩)]) "Comparable").run Tryz.prog w = .ok (276, .agg #[.pointer (some ⟨9, 261, none⟩)]) w := fun w => by kernel_rfl
  have cT := Tryz.isComparable
  have heq := run_eql_iface_ptr_same (P := Tryz.prog) w a Tryz.underlying38 Tryz.underlying261 hi hcmp hj
  go_enter Tryz.func115, Tryz.ntmps115
  go_wp2
  refine wp_loop_rounds 1 ?_
  rw [rounds_succ]
  go_wp2
  go_ret
  exact ⟨rfl, rfl⟩

set_option maxHeartbeats 400000 in
theorem is_nil (b : Addr) (w : World) : Calls Tryz.prog 115 #[.nilIface, .iface 261 (.pointer (some b))] w fun e w' => e = .returned (.bool false) ∧ w = w' := by
  have hn := run_eql_iface_nil_left (P := Tryz.prog) w 261 (.pointer (some b)) Tryz.underlying38
  go_enter Tryz.func115, Tryz.ntmps115
  go_wp2
  go_ret
  exact ⟨rfl, rfl⟩

namespace D
theorem a_is_same (a : Addr) (w : World) : Calls Tryz.prog 115 #[.iface 261 (.pointer (some a)), .iface 261 (.pointer (some a))] w fun e w' => e = .returned (.bool true) ∧ Below w.heap.size w w' :=
  (is_same a w).mono fun _ _ ⟨h1, h2⟩ => ⟨h1, h2 ▸ Below.refl _ _⟩
theorem a_is_nil (a : Addr) (w : World) : Calls Tryz.prog 115 #[.nilIface, .iface 261 (.pointer (some a))] w fun e w' => e = .returned (.bool false) ∧ Below w.heap.size w w' :=
  (is_nil a w).mono fun _ _ ⟨h1, h2⟩ => ⟨h1, h2 ▸ Below.refl _ _⟩
end D

end Go.Proofs.YtboglbdhibcacaaGreatDoor

namespace Go.Proofs.YtboglbdhibcacaaGreatDoor
set_option linter.unusedVariables false
set_option linter.unusedSimpArgs false
set_option maxRecDepth 100000
open Go.RowKit Go.Extern.Stop Go.Stop Go.Extern

theorem as_nil (t : Value) (w : World) : Calls Tryz.prog 201 #[.nilIface, t] w fun e w' => e = .returned (.bool false) ∧ w' = w := by
  go_enter Tryz.func201, Tryz.ntmps201
  go_wp2
  go_ret
  exact ⟨rfl, rfl⟩

theorem Tryz.valueOfPP (t : Addr) (w : World) : (ReflectliteValue.unpack (.iface 211 (.pointer (some t)))).run Tryz.prog w
    = .ok (.agg #[.pointer (some ⟨9, 211, none⟩), .pointer (some ⟨w.heap.size, 0, none⟩), .int .u64 150]) (w.alloc (.cells #[.pointer (some t)] 211)) := by kernel_rfl

theorem Tryz.typePP (a : Addr) (w : World) : (ReflectliteValue.methodAny (ReflectliteValue.valueError "reflectlite.Value.Type" 0) (fun t _ _ _ => ReflectliteType.toType t) #[.agg #[.pointer (some ⟨9, 211, none⟩), .pointer (some a), .int .u64 150]]).run Tryz.prog w
    = .ok (.iface 226 (.agg #[.pointer (some ⟨9, 211, none⟩)])) w := by kernel_rfl

theorem Tryz.methodKind (h : Value) (w : World) : (Go.method 392 226 (.agg #[h]) "Kind").run Tryz.prog w = .ok (257, h) w := by kernel_rfl

theorem Tryz.kindPP (w : World) : ((ReflectliteType.abiMethod fun t => (fun a : Nat => Value.int IntKind.u8 (a : Int)) <$> Rtype.kind t) #[.pointer (some ⟨9, 211, none⟩)]).run Tryz.prog w = .ok (.int .u8 22) w := by kernel_rfl

theorem Tryz.kindP (w : World) : ((ReflectliteType.abiMethod fun t => (fun a : Nat => Value.int IntKind.u8 (a : Int)) <$> Rtype.kind t) #[.pointer (some ⟨9, 209, none⟩)]).run Tryz.prog w = .ok (.int .u8 22) w := by kernel_rfl

theorem rlm (z : Sem Value) (f : TypeId → Addr → Nat → Nat → Sem Value) (v : Value) :
    ReflectliteValue.method z f #[v] = (do match ← ReflectliteValue.parts v with | none => z | some (t, a, fl) => f t a fl (fl % 32)) := rfl

theorem Tryz.partsPP (a : Addr) (w : World) : (ReflectliteValue.parts (.agg #[.pointer (some ⟨9, 211, none⟩), .pointer (some a), .int .u64 150])).run Tryz.prog w = .ok (some (211, a, 150)) w := by kernel_rfl

theorem Tryz.isNilPP (a p : Addr) (W : World) (ha : W.cell? a = some (.pointer (some p))) :
    (ReflectliteValue.method (ReflectliteValue.valueError "reflectlite.Value.IsNil" 0) ReflectliteValue.isNil #[.agg #[.pointer (some ⟨9, 211, none⟩), .pointer (some a), .int .u64 150]]).run Tryz.prog W = .ok (.bool false) W := by
  rw [rlm]
  simp only [Sem.run_bind, Tryz.partsPP, Result.andThen]
  simp [ReflectliteValue.isNil, loadVar, isAgg, underlying, Tryz.underlying211, ha, Result.andThen]

theorem Tryz.methodElem (h : Value) (w : World) : (Go.method 392 226 (.agg #[h]) "Elem").run Tryz.prog w = .ok (277, .agg #[h]) w := by kernel_rfl

theorem Tryz.methodImplements (h : Value) (w : World) : (Go.method 392 226 (.agg #[h]) "Implements").run Tryz.prog w = .ok (278, .agg #[h]) w := by kernel_rfl

theorem Tryz.methodAssignableTo (h : Value) (w : World) : (Go.method 392 226 (.agg #[h]) "AssignableTo").run Tryz.prog w = .ok (275, .agg #[h]) w := by kernel_rfl

theorem Tryz.elemPP (w : World) : (ReflectliteType.method ReflectliteType.elem #[.agg #[.pointer (some ⟨9, 211, none⟩)]]).run Tryz.prog w = .ok (.iface 226 (.agg #[.pointer (some ⟨9, 209, none⟩)])) w := by kernel_rfl

theorem Tryz.implementsP (w : World) : (ReflectliteType.relation "Implements" ReflectliteType.implements_ #[.agg #[.pointer (some ⟨9, 209, none⟩)], .iface 226 (.agg #[.pointer (some ⟨9, 38, none⟩)])]).run Tryz.prog w = .ok (.bool true) w := by kernel_rfl

theorem Tryz.typeOfP (v : Value) (w : World) : (ReflectliteType.typeOf #[.iface 209 v]).run Tryz.prog w = .ok (.iface 226 (.agg #[.pointer (some ⟨9, 209, none⟩)])) w := by kernel_rfl

theorem Tryz.assignableP (w : World) : (ReflectliteType.relation "AssignableTo" ReflectliteType.assignableTo #[.agg #[.pointer (some ⟨9, 209, none⟩)], .iface 226 (.agg #[.pointer (some ⟨9, 209, none⟩)])]).run Tryz.prog w = .ok (.bool true) w := by kernel_rfl

theorem Tryz.valueOfP (e : Addr) (w : World) : (ReflectliteValue.unpack (.iface 209 (.pointer (some e)))).run Tryz.prog w
    = .ok (.agg #[.pointer (some ⟨9, 209, none⟩), .pointer (some ⟨w.heap.size, 0, none⟩), .int .u64 150]) (w.alloc (.cells #[.pointer (some e)] 209)) := by kernel_rfl

theorem Tryz.elemOfPP (w : World) : (Rtype.elem? 211).run Tryz.prog w = .ok (some 209) w := by kernel_rfl

theorem Tryz.mkP (p : Addr) (w : World) : (ReflectliteValue.mk 209 p ReflectliteValue.flagAddr).run Tryz.prog w = .ok (.agg #[.pointer (some ⟨9, 209, none⟩), .pointer (some p), .int .u64 406]) w := by kernel_rfl

theorem Tryz.elemVPP (a p : Addr) (W : World) (ha : W.cell? a = some (.pointer (some p))) :
    (ReflectliteValue.method (ReflectliteValue.valueError "reflectlite.Value.Elem" 0) ReflectliteValue.elem #[.agg #[.pointer (some ⟨9, 211, none⟩), .pointer (some a), .int .u64 150]]).run Tryz.prog W
      = .ok (.agg #[.pointer (some ⟨9, 209, none⟩), .pointer (some p), .int .u64 406]) W := by
  rw [rlm]
  simp only [Sem.run_bind, Tryz.partsPP, Result.andThen]
  simp [ReflectliteValue.elem, loadVar, isAgg, underlying, Tryz.underlying211, ha, Result.andThen, Tryz.elemOfPP, Tryz.mkP]

theorem rls (v x : Value) : ReflectliteValue.set #[v, x] = (do
    let (some (dst, a, fl), some (src, b, _)) := (← ReflectliteValue.parts v, ← ReflectliteValue.parts x)
      | unsupported (.noEntry "extern/(internal/reflectlite.Value).Set.zeroValue")
    if fl / ReflectliteValue.flagAddr % 2 == 0 then unsupported (.noEntry "extern/(internal/reflectlite.Value).Set.unaddressable")
    let val ← loadVar src b
    if ← Rtype.directlyAssignable dst src then storeVar dst a val
    else if ← Rtype.implements dst src then
      if (← Rtype.kind src) == 20 then
        match val with
        | .nilIface => unsupported (.noEntry "extern/reflectlite: a nil value of one interface type handed on as a value of another")
        | _ => storeVar dst a val
      else storeVar dst a (.iface src val)
    else panicString ("reflectlite.Set: value of type " ++ (← Rtype.spelt src) ++ " is not assignable to type " ++ (← Rtype.spelt dst))
    pure (.tuple #[])) := rfl

theorem Tryz.partsPa (a : Addr) (w : World) : (ReflectliteValue.parts (.agg #[.pointer (some ⟨9, 209, none⟩), .pointer (some a), .int .u64 406])).run Tryz.prog w = .ok (some (209, a, 406)) w := by kernel_rfl

theorem Tryz.partsP (a : Addr) (w : World) : (ReflectliteValue.parts (.agg #[.pointer (some ⟨9, 209, none⟩), .pointer (some a), .int .u64 150])).run Tryz.prog w = .ok (some (209, a, 150)) w := by kernel_rfl

theorem Tryz.directP (w : World) : (Rtype.directlyAssignable 209 209).run Tryz.prog w = .ok true w := by kernel_rfl

theorem Tryz.setP (ta b e : Addr) (old : Value) (W : World) (hb : W.cell? b = some (.pointer (some e))) (ht : W.cell? ta = some old) (hf : W.frozen? ta = false) :
    (ReflectliteValue.set #[.agg #[.pointer (some ⟨9, 209, none⟩), .pointer (some ta), .int .u64 406], .agg #[.pointer (some ⟨9, 209, none⟩), .pointer (some b), .int .u64 150]]).run Tryz.prog W
      = .ok (.tuple #[]) (W.setCell ta (.pointer (some e))) := by
  rw [rls]
  simp only [Sem.run_bind, Tryz.partsPa, Tryz.partsP, Result.andThen]
  simp [ReflectliteValue.flagAddr, loadVar, isAgg, underlying, Tryz.underlying209, hb, Result.andThen, Tryz.directP, storeVar, Value.cells, storeCells, Addr.add]
  rw [run_store Tryz.prog W ta _ _ (by rfl)]
  simp [ht, hf]

set_option maxHeartbeats 4000000 in
theorem as_hit (e t : Addr) (old : Value) (w : World) (hg : w.cell? ⟨6, 0, none⟩ = some (.iface 226 (.agg #[.pointer (some ⟨9, 38, none⟩)]))) (ht0 : w.cell? t = some old) (hf0 : w.frozen? t = false) :
    Calls Tryz.prog 201 #[.iface 209 (.pointer (some e)), .iface 211 (.pointer (some t))] w fun ev w' => ev = .returned (.bool true) ∧ w' = ((((w.alloc (.cells #[.pointer (some t)] 211)).alloc (.cells #[.pointer (some ⟨9, 211, none⟩), .pointer (some ⟨w.heap.size, 0, none⟩), .int .u64 150] 243)).alloc (.cells #[.pointer (some ⟨9, 211, none⟩), .pointer (some ⟨w.heap.size, 0, none⟩), .int .u64 150] 243)).alloc (.cells #[.pointer (some e)] 209)).setCell t (.pointer (some e)) := by
  have h6 := @run_callFunc_extern Tryz.prog 226 _ (fun args => ReflectliteValue.unpack (args.getD 0 (.tuple #[]))) Tryz.func226 (by kernel_rfl) (by kernel_rfl) (by kernel_rfl) (by kernel_rfl)
  have h7 := @run_callFunc_extern Tryz.prog 227 _ (ReflectliteValue.methodAny (ReflectliteValue.valueError "reflectlite.Value.Type" 0) (fun t _ _ _ => ReflectliteType.toType t)) Tryz.func227 (by kernel_rfl) (by kernel_rfl) (by kernel_rfl) (by kernel_rfl)
  have h8 := @run_callFunc_extern Tryz.prog 228 _ (ReflectliteValue.method (ReflectliteValue.valueError "reflectlite.Value.IsNil" 0) ReflectliteValue.isNil) Tryz.func228 (by kernel_rfl) (by kernel_rfl) (by kernel_rfl) (by kernel_rfl)
  have h27 := @run_callFunc_extern Tryz.prog 257 _ (ReflectliteType.abiMethod fun t => do pure (.int .u8 (← Rtype.kind t))) Tryz.func257 (by kernel_rfl) (by kernel_rfl) (by kernel_rfl) (by kernel_rfl)
  have h37 := @run_callFunc_extern Tryz.prog 277 _ (ReflectliteType.method ReflectliteType.elem) Tryz.func277 (by kernel_rfl) (by kernel_rfl) (by kernel_rfl) (by kernel_rfl)
  have h38 := @run_callFunc_extern Tryz.prog 278 _ (ReflectliteType.relation "Implements" ReflectliteType.implements_) Tryz.func278 (by kernel_rfl) (by kernel_rfl) (by kernel_rfl) (by kernel_rfl)
  have h10 := @run_callFunc_extern Tryz.prog 179 _ ReflectliteType.typeOf Tryz.func179 (by kernel_rfl) (by kernel_rfl) (by kernel_rfl) (by kernel_rfl)
  have h35 := @run_callFunc_extern Tryz.prog 275 _ (ReflectliteType.relation "AssignableTo" ReflectliteType.assignableTo) Tryz.func275 (by kernel_rfl) (by kernel_rfl) (by kernel_rfl) (by kernel_rfl)
  have h11 := @run_callFunc_extern Tryz.prog 236 _ (ReflectliteValue.method (ReflectliteValue.valueError "reflectlite.Value.Elem" 0) ReflectliteValue.elem) Tryz.func236 (by kernel_rfl) (by kernel_rfl) (by kernel_rfl) (by kernel_rfl)
  have h12 := @run_callFunc_extern Tryz.prog 237 _ ReflectliteValue.set Tryz.func237 (by kernel_rfl) (by kernel_rfl) (by kernel_rfl) (by kernel_rfl)
  have tO := Tryz.typeOfP
  have mA := Tryz.methodAssignableTo
  have a25 := Tryz.assignableP
  have v25 := Tryz.valueOfP
  have f6 := Tryz.valueOfPP
  have f7 := Tryz.typePP
  have mK := Tryz.methodKind
  have mE := Tryz.methodElem
  have mI := Tryz.methodImplements
  have k27 := Tryz.kindPP
  have k25 := Tryz.kindP
  have e27 := Tryz.elemPP
  have i25 := Tryz.implementsP
  have n8 := Tryz.isNilPP ⟨w.heap.size, 0, none⟩ t ((w.alloc (.cells #[.pointer (some t)] 211)).alloc (.cells #[.pointer (some ⟨9, 211, none⟩), .pointer (some ⟨w.heap.size, 0, none⟩), .int .u64 150] 243)) (by simp)
  have hlt : 6 < w.heap.size := World.block_lt_of_cell? _ _ hg
  have hg2 : ((w.alloc (.cells #[.pointer (some t)] 211)).alloc (.cells #[.pointer (some ⟨9, 211, none⟩), .pointer (some ⟨w.heap.size, 0, none⟩), .int .u64 150] 243)).cell? ⟨6, 0, none⟩ = some (.iface 226 (.agg #[.pointer (some ⟨9, 38, none⟩)])) := by
    rw [World.cell?_alloc_lt _ _ ⟨6, 0, none⟩ (by simp <;> omega), World.cell?_alloc_lt _ _ ⟨6, 0, none⟩ hlt]; exact hg
  have htl : t.block < w.heap.size := World.block_lt_of_cell? _ _ ht0
  have el := Tryz.elemVPP ⟨w.heap.size, 0, none⟩ t (((w.alloc (.cells #[.pointer (some t)] 211)).alloc (.cells #[.pointer (some ⟨9, 211, none⟩), .pointer (some ⟨w.heap.size, 0, none⟩), .int .u64 150] 243)).alloc (.cells #[.pointer (some ⟨9, 211, none⟩), .pointer (some ⟨w.heap.size, 0, none⟩), .int .u64 150] 243)) (by rw [World.cell?_alloc_lt _ _ ⟨w.heap.size, 0, none⟩ (by simp; omega)]; simp)
  have st := Tryz.setP t ⟨w.heap.size + 1 + 1 + 1, 0, none⟩ e old ((((w.alloc (.cells #[.pointer (some t)] 211)).alloc (.cells #[.pointer (some ⟨9, 211, none⟩), .pointer (some ⟨w.heap.size, 0, none⟩), .int .u64 150] 243)).alloc (.cells #[.pointer (some ⟨9, 211, none⟩), .pointer (some ⟨w.heap.size, 0, none⟩), .int .u64 150] 243)).alloc (.cells #[.pointer (some e)] 209))
    (by rw [World.cell?_alloc_at _ _ _ _ (by simp)]; rfl)
    (by rw [World.cell?_alloc_lt _ _ t (by simp; omega), World.cell?_alloc_lt _ _ t (by simp; omega), World.cell?_alloc_lt _ _ t (by simp; omega), World.cell?_alloc_lt _ _ t htl]; exact ht0)
    (by rw [World.frozen?_alloc_old _ _ t (by simp; omega), World.frozen?_alloc_old _ _ t (by simp; omega), World.frozen?_alloc_old _ _ t (by simp; omega), World.frozen?_alloc_old _ _ t (Nat.ne_of_lt htl)]; exact hf0)
  go_enter Tryz.func201, Tryz.ntmps201
  go_wp2
  refine wp_loop_rounds 1 ?_
  rw [rounds_succ]
  go_wp2
  go_ret
  exact ⟨rfl, rfl⟩

namespace D

/-- The variable that errors.As looks at. -/
def Hdl (w : World) : Prop := w.cell? ⟨6, 0, none⟩ = some (.iface 226 (.agg #[.pointer (some ⟨9, 38, none⟩)]))

theorem as_no (t : Value) (w : World) (hb : D.Base w) : Calls Tryz.prog 201 #[.nilIface, t] w fun e w' => e = .returned (.bool false) ∧ Below w.heap.size w w' :=
  (as_nil t w).mono fun e w' ⟨h1, h2⟩ => ⟨h1, h2 ▸ Below.refl _ _⟩

theorem as_yes (w0 : World) (F : SH) (b bt : Nat) (old : Value) (hg : Hdl w0) (w : World) (hst : St w0 ((bt, .cells 209 [old]) :: F) w) :
    Calls Tryz.prog 201 #[.iface 209 (.pointer (some ⟨b, 0, none⟩)), .iface 211 (.pointer (some ⟨bt, 0, none⟩))] w (Turns w0 (.bool true) ((bt, .cells 209 [.pointer (some ⟨b, 0, none⟩)]) :: F)) := by
  have hm := hst.heap (List.Mem.head _)
  refine (as_hit ⟨b, 0, none⟩ ⟨bt, 0, none⟩ old w (hst.old hg) (hst.cell (List.Mem.head _) rfl) (by simp [World.frozen?, hm])).mono fun e w' ⟨h1, h2⟩ => ⟨h1, ?_⟩
  subst h2
  have h1 := hst.new (New.alloc w (.cells 211 [.pointer (some ⟨bt, 0, none⟩)]))
  have h2 := h1.new (New.alloc _ (.cells 243 [.pointer (some ⟨9, 211, none⟩), .pointer (some ⟨w.heap.size, 0, none⟩), .int .u64 150]))
  have h3 := h2.new (New.alloc _ (.cells 243 [.pointer (some ⟨9, 211, none⟩), .pointer (some ⟨w.heap.size, 0, none⟩), .int .u64 150]))
  have h4 := h3.new (New.alloc _ (.cells 209 [.pointer (some ⟨b, 0, none⟩)]))
  have h5 := h4.sub (hs' := (bt, .cells 209 [old]) :: F) (by
    simp only [List.cons_append, List.nil_append]
    exact .cons _ (.cons _ (.cons _ (.cons _ (List.Sublist.refl _)))))
  have hm5 := h5.heap (List.Mem.head _)
  refine h5.upd (n := .cells 209 [.pointer (some ⟨b, 0, none⟩)]) Upd.here ?_ ?_ ?_ rfl rfl rfl
  · show (Array.modify _ _ _)[bt]? = _
    rw [Array.getElem?_modify]
    simp only [if_true]
    erw [hm5]
    rfl
  · intro k hk
    show (Array.modify _ _ _)[k]? = _
    rw [Array.getElem?_modify, if_neg (Ne.symm hk)]
    rfl
  · show (Array.modify _ _ _).size = _
    rw [Array.size_modify]
    rfl

end D
end Go.Proofs.YtboglbdhibcacaaGreatDoor
