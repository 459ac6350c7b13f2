/- errors.As at the error of a text that is no time (lines of the kit's worked toy 'toyas', turned to this program). -/
import Derived.Test.YtpgbmohocfcjpaaGreatDoorE3m
import Derived.Test.YtpgbmohocfcjpaaGreatDoorEI
import Derived.WalkKit
import Derived.LaidEql
import Derived.Stop.Asserts
import Derived.RowKitTokens
namespace Go.Proofs.YtpgbmohocfcjpaaGreatDoor
set_option linter.unusedVariables false
set_option linter.unusedSimpArgs false
set_option maxRecDepth 100000
open Go.RowKit Go.Extern.Stop Go.Stop Go.Extern

theorem as_nil (t : Value) (w : World) : Calls Tryz.prog 119 #[.nilIface, t] w fun e w' => e = .returned (.bool false) ∧ w' = w := by
  go_enter Tryz.func119, Tryz.ntmps119
  go_wp2
  go_ret
  exact ⟨rfl, rfl⟩

theorem Tryz.valueOfPP (t : Addr) (w : World) : (ReflectliteValue.unpack (.iface 156 (.pointer (some t)))).run Tryz.prog w
    = .ok (.agg #[.pointer (some ⟨8, 156, none⟩), .pointer (some ⟨w.heap.size, 0, none⟩), .int .u64 150]) (w.alloc (.cells #[.pointer (some t)] 156)) := by kernel_rfl

theorem Tryz.typePP (a : Addr) (w : World) : (ReflectliteValue.methodAny (ReflectliteValue.valueError "reflectlite.Value.Type" 0) (fun t _ _ _ => ReflectliteType.toType t) #[.agg #[.pointer (some ⟨8, 156, none⟩), .pointer (some a), .int .u64 150]]).run Tryz.prog w
    = .ok (.iface 223 (.agg #[.pointer (some ⟨8, 156, none⟩)])) w := by kernel_rfl

theorem Tryz.methodKind (h : Value) (w : World) : (Go.method 393 223 (.agg #[h]) "Kind").run Tryz.prog w = .ok (242, h) w := by kernel_rfl

theorem Tryz.kindPP (w : World) : ((ReflectliteType.abiMethod fun t => (fun a : Nat => Value.int IntKind.u8 (a : Int)) <$> Rtype.kind t) #[.pointer (some ⟨8, 156, none⟩)]).run Tryz.prog w = .ok (.int .u8 22) w := by kernel_rfl

theorem Tryz.kindP (w : World) : ((ReflectliteType.abiMethod fun t => (fun a : Nat => Value.int IntKind.u8 (a : Int)) <$> Rtype.kind t) #[.pointer (some ⟨8, 154, none⟩)]).run Tryz.prog w = .ok (.int .u8 22) w := by kernel_rfl

theorem rlm (z : Sem Value) (f : TypeId → Addr → Nat → Nat → Sem Value) (v : Value) :
    ReflectliteValue.method z f #[v] = (do match ← ReflectliteValue.parts v with | none => z | some (t, a, fl) => f t a fl (fl % 32)) := rfl

theorem Tryz.partsPP (a : Addr) (w : World) : (ReflectliteValue.parts (.agg #[.pointer (some ⟨8, 156, none⟩), .pointer (some a), .int .u64 150])).run Tryz.prog w = .ok (some (156, a, 150)) w := by kernel_rfl

theorem Tryz.isNilPP (a p : Addr) (W : World) (ha : W.cell? a = some (.pointer (some p))) :
    (ReflectliteValue.method (ReflectliteValue.valueError "reflectlite.Value.IsNil" 0) ReflectliteValue.isNil #[.agg #[.pointer (some ⟨8, 156, none⟩), .pointer (some a), .int .u64 150]]).run Tryz.prog W = .ok (.bool false) W := by
  rw [rlm]
  simp only [Sem.run_bind, Tryz.partsPP, Result.andThen]
  simp [ReflectliteValue.isNil, loadVar, isAgg, underlying, Tryz.underlying156, ha, Result.andThen]

theorem Tryz.methodElem (h : Value) (w : World) : (Go.method 393 223 (.agg #[h]) "Elem").run Tryz.prog w = .ok (261, .agg #[h]) w := by kernel_rfl

theorem Tryz.methodImplements (h : Value) (w : World) : (Go.method 393 223 (.agg #[h]) "Implements").run Tryz.prog w = .ok (262, .agg #[h]) w := by kernel_rfl

theorem Tryz.methodAssignableTo (h : Value) (w : World) : (Go.method 393 223 (.agg #[h]) "AssignableTo").run Tryz.prog w = .ok (259, .agg #[h]) w := by kernel_rfl

theorem Tryz.elemPP (w : World) : (ReflectliteType.method ReflectliteType.elem #[.agg #[.pointer (some ⟨8, 156, none⟩)]]).run Tryz.prog w = .ok (.iface 223 (.agg #[.pointer (some ⟨8, 154, none⟩)])) w := by kernel_rfl

theorem Tryz.implementsP (w : World) : (ReflectliteType.relation "Implements" ReflectliteType.implements_ #[.agg #[.pointer (some ⟨8, 154, none⟩)], .iface 223 (.agg #[.pointer (some ⟨8, 151, none⟩)])]).run Tryz.prog w = .ok (.bool true) w := by kernel_rfl

theorem Tryz.typeOfP (v : Value) (w : World) : (ReflectliteType.typeOf #[.iface 154 v]).run Tryz.prog w = .ok (.iface 223 (.agg #[.pointer (some ⟨8, 154, none⟩)])) w := by kernel_rfl

theorem Tryz.assignableP (w : World) : (ReflectliteType.relation "AssignableTo" ReflectliteType.assignableTo #[.agg #[.pointer (some ⟨8, 154, none⟩)], .iface 223 (.agg #[.pointer (some ⟨8, 154, none⟩)])]).run Tryz.prog w = .ok (.bool true) w := by kernel_rfl

theorem Tryz.valueOfP (e : Addr) (w : World) : (ReflectliteValue.unpack (.iface 154 (.pointer (some e)))).run Tryz.prog w
    = .ok (.agg #[.pointer (some ⟨8, 154, none⟩), .pointer (some ⟨w.heap.size, 0, none⟩), .int .u64 150]) (w.alloc (.cells #[.pointer (some e)] 154)) := by kernel_rfl

theorem Tryz.elemOfPP (w : World) : (Rtype.elem? 156).run Tryz.prog w = .ok (some 154) w := by kernel_rfl

theorem Tryz.mkP (p : Addr) (w : World) : (ReflectliteValue.mk 154 p ReflectliteValue.flagAddr).run Tryz.prog w = .ok (.agg #[.pointer (some ⟨8, 154, none⟩), .pointer (some p), .int .u64 406]) w := by kernel_rfl

theorem Tryz.elemVPP (a p : Addr) (W : World) (ha : W.cell? a = some (.pointer (some p))) :
    (ReflectliteValue.method (ReflectliteValue.valueError "reflectlite.Value.Elem" 0) ReflectliteValue.elem #[.agg #[.pointer (some ⟨8, 156, none⟩), .pointer (some a), .int .u64 150]]).run Tryz.prog W
      = .ok (.agg #[.pointer (some ⟨8, 154, none⟩), .pointer (some p), .int .u64 406]) W := by
  rw [rlm]
  simp only [Sem.run_bind, Tryz.partsPP, Result.andThen]
  simp [ReflectliteValue.elem, loadVar, isAgg, underlying, Tryz.underlying156, ha, Result.andThen, Tryz.elemOfPP, Tryz.mkP]

theorem rls (v x : Value) : ReflectliteValue.set #[v, x] = (do
    let (some (dst, a, fl), some (src, b, _)) := (← ReflectliteValue.parts v, ← ReflectliteValue.parts x)
      | unsupported (.noEntry "extern/(internal/reflectlite.Value).Set.zeroValue")
    if fl / ReflectliteValue.flagAddr % 2 == 0 then unsupported (.noEntry "extern/(internal/reflectlite.Value).Set.unaddressable")
    let val ← loadVar src b
    if ← Rtype.directlyAssignable dst src then storeVar dst a val
    else if ← Rtype.implements dst src then
      if (← Rtype.kind src) == 20 then
        match val with
        | .nilIface => unsupported (.noEntry "extern/reflectlite: a nil value of one interface type handed on as a value of another")
        | _ => storeVar dst a val
      else storeVar dst a (.iface src val)
    else panicString ("reflectlite.Set: value of type " ++ (← Rtype.spelt src) ++ " is not assignable to type " ++ (← Rtype.spelt dst))
    pure (.tuple #[])) := rfl

theorem Tryz.partsPa (a : Addr) (w : World) : (ReflectliteValue.parts (.agg #[.pointer (some ⟨8, 154, none⟩), .pointer (some a), .int .u64 406])).run Tryz.prog w = .ok (some (154, a, 406)) w := by kernel_rfl

theorem Tryz.partsP (a : Addr) (w : World) : (ReflectliteValue.parts (.agg #[.pointer (some ⟨8, 154, none⟩), .pointer (some a), .int .u64 150])).run Tryz.prog w = .ok (some (154, a, 150)) w := by kernel_rfl

theorem Tryz.directP (w : World) : (Rtype.directlyAssignable 154 154).run Tryz.prog w = .ok true w := by kernel_rfl

theorem Tryz.sizeP (w : World) : (sizeOf 154).run Tryz.prog w = .ok 1 w := by kernel_rfl

theorem Tryz.setP (ta b e : Addr) (old : Value) (W : World) (hb : W.cell? b = some (.pointer (some e))) (ht : W.cell? ta = some old) (hf : W.frozen? ta = false) :
    (ReflectliteValue.set #[.agg #[.pointer (some ⟨8, 154, none⟩), .pointer (some ta), .int .u64 406], .agg #[.pointer (some ⟨8, 154, none⟩), .pointer (some b), .int .u64 150]]).run Tryz.prog W
      = .ok (.tuple #[]) (W.setCell ta (.pointer (some e))) := by
  rw [rls]
  simp only [Sem.run_bind, Tryz.partsPa, Tryz.partsP, Result.andThen]
  simp [ReflectliteValue.flagAddr, loadVar, isAgg, underlying, Tryz.underlying154, hb, Result.andThen, Tryz.directP, storeVar, Value.cells, storeCells, Addr.add]
  rw [run_store Tryz.prog W ta _ _ (by rfl)]
  simp [ht, hf]

set_option maxHeartbeats 4000000 in
theorem as_hit (e t : Addr) (old : Value) (w : World) (hg : w.cell? ⟨0, 0, none⟩ = some (.iface 223 (.agg #[.pointer (some ⟨8, 151, none⟩)]))) (ht0 : w.cell? t = some old) (hf0 : w.frozen? t = false) :
    Calls Tryz.prog 119 #[.iface 154 (.pointer (some e)), .iface 156 (.pointer (some t))] w fun ev w' => ev = .returned (.bool true) ∧ w' = ((((w.alloc (.cells #[.pointer (some t)] 156)).alloc (.cells #[.pointer (some ⟨8, 156, none⟩), .pointer (some ⟨w.heap.size, 0, none⟩), .int .u64 150] 196)).alloc (.cells #[.pointer (some ⟨8, 156, none⟩), .pointer (some ⟨w.heap.size, 0, none⟩), .int .u64 150] 196)).alloc (.cells #[.pointer (some e)] 154)).setCell t (.pointer (some e)) := by
  have h6 := @run_callFunc_extern Tryz.prog 167 _ (fun args => ReflectliteValue.unpack (args.getD 0 (.tuple #[]))) Tryz.func167 (by kernel_rfl) (by kernel_rfl) (by kernel_rfl) (by kernel_rfl)
  have h7 := @run_callFunc_extern Tryz.prog 168 _ (ReflectliteValue.methodAny (ReflectliteValue.valueError "reflectlite.Value.Type" 0) (fun t _ _ _ => ReflectliteType.toType t)) Tryz.func168 (by kernel_rfl) (by kernel_rfl) (by kernel_rfl) (by kernel_rfl)
  have h8 := @run_callFunc_extern Tryz.prog 169 _ (ReflectliteValue.method (ReflectliteValue.valueError "reflectlite.Value.IsNil" 0) ReflectliteValue.isNil) Tryz.func169 (by kernel_rfl) (by kernel_rfl) (by kernel_rfl) (by kernel_rfl)
  have h27 := @run_callFunc_extern Tryz.prog 242 _ (ReflectliteType.abiMethod fun t => do pure (.int .u8 (← Rtype.kind t))) Tryz.func242 (by kernel_rfl) (by kernel_rfl) (by kernel_rfl) (by kernel_rfl)
  have h37 := @run_callFunc_extern Tryz.prog 261 _ (ReflectliteType.method ReflectliteType.elem) Tryz.func261 (by kernel_rfl) (by kernel_rfl) (by kernel_rfl) (by kernel_rfl)
  have h38 := @run_callFunc_extern Tryz.prog 262 _ (ReflectliteType.relation "Implements" ReflectliteType.implements_) Tryz.func262 (by kernel_rfl) (by kernel_rfl) (by kernel_rfl) (by kernel_rfl)
  have h10 := @run_callFunc_extern Tryz.prog 194 _ ReflectliteType.typeOf Tryz.func194 (by kernel_rfl) (by kernel_rfl) (by kernel_rfl) (by kernel_rfl)
  have h35 := @run_callFunc_extern Tryz.prog 259 _ (ReflectliteType.relation "AssignableTo" ReflectliteType.assignableTo) Tryz.func259 (by kernel_rfl) (by kernel_rfl) (by kernel_rfl) (by kernel_rfl)
  have h11 := @run_callFunc_extern Tryz.prog 195 _ (ReflectliteValue.method (ReflectliteValue.valueError "reflectlite.Value.Elem" 0) ReflectliteValue.elem) Tryz.func195 (by kernel_rfl) (by kernel_rfl) (by kernel_rfl) (by kernel_rfl)
  have h12 := @run_callFunc_extern Tryz.prog 196 _ ReflectliteValue.set Tryz.func196 (by kernel_rfl) (by kernel_rfl) (by kernel_rfl) (by kernel_rfl)
  have tO := Tryz.typeOfP
  have mA := Tryz.methodAssignableTo
  have a25 := Tryz.assignableP
  have v25 := Tryz.valueOfP
  have f6 := Tryz.valueOfPP
  have f7 := Tryz.typePP
  have mK := Tryz.methodKind
  have mE := Tryz.methodElem
  have mI := Tryz.methodImplements
  have k27 := Tryz.kindPP
  have k25 := Tryz.kindP
  have e27 := Tryz.elemPP
  have i25 := Tryz.implementsP
  have n8 := Tryz.isNilPP ⟨w.heap.size, 0, none⟩ t ((w.alloc (.cells #[.pointer (some t)] 156)).alloc (.cells #[.pointer (some ⟨8, 156, none⟩), .pointer (some ⟨w.heap.size, 0, none⟩), .int .u64 150] 196)) (by simp)
  have hlt : 0 < w.heap.size := World.block_lt_of_cell? _ _ hg
  have hg2 : ((w.alloc (.cells #[.pointer (some t)] 156)).alloc (.cells #[.pointer (some ⟨8, 156, none⟩), .pointer (some ⟨w.heap.size, 0, none⟩), .int .u64 150] 196)).cell? ⟨0, 0, none⟩ = some (.iface 223 (.agg #[.pointer (some ⟨8, 151, none⟩)])) := by
    rw [World.cell?_alloc_lt _ _ ⟨0, 0, none⟩ (by simp <;> omega), World.cell?_alloc_lt _ _ ⟨0, 0, none⟩ hlt]; exact hg
  have htl : t.block < w.heap.size := World.block_lt_of_cell? _ _ ht0
  have el := Tryz.elemVPP ⟨w.heap.size, 0, none⟩ t (((w.alloc (.cells #[.pointer (some t)] 156)).alloc (.cells #[.pointer (some ⟨8, 156, none⟩), .pointer (some ⟨w.heap.size, 0, none⟩), .int .u64 150] 196)).alloc (.cells #[.pointer (some ⟨8, 156, none⟩), .pointer (some ⟨w.heap.size, 0, none⟩), .int .u64 150] 196)) (by rw [World.cell?_alloc_lt _ _ ⟨w.heap.size, 0, none⟩ (by simp; omega)]; simp)
  have st := Tryz.setP t ⟨w.heap.size + 1 + 1 + 1, 0, none⟩ e old ((((w.alloc (.cells #[.pointer (some t)] 156)).alloc (.cells #[.pointer (some ⟨8, 156, none⟩), .pointer (some ⟨w.heap.size, 0, none⟩), .int .u64 150] 196)).alloc (.cells #[.pointer (some ⟨8, 156, none⟩), .pointer (some ⟨w.heap.size, 0, none⟩), .int .u64 150] 196)).alloc (.cells #[.pointer (some e)] 154))
    (by rw [World.cell?_alloc_at _ _ _ _ (by simp)]; rfl)
    (by rw [World.cell?_alloc_lt _ _ t (by simp; omega), World.cell?_alloc_lt _ _ t (by simp; omega), World.cell?_alloc_lt _ _ t (by simp; omega), World.cell?_alloc_lt _ _ t htl]; exact ht0)
    (by rw [World.frozen?_alloc_old _ _ t (by simp; omega), World.frozen?_alloc_old _ _ t (by simp; omega), World.frozen?_alloc_old _ _ t (by simp; omega), World.frozen?_alloc_old _ _ t (Nat.ne_of_lt htl)]; exact hf0)
  go_enter Tryz.func119, Tryz.ntmps119
  go_wp2
  refine wp_loop_rounds 1 ?_
  rw [rounds_succ]
  go_wp2
  go_ret
  exact ⟨rfl, rfl⟩

namespace D

/-- The variable that errors.As looks at. -/
def Hdl (w : World) : Prop := w.cell? ⟨0, 0, none⟩ = some (.iface 223 (.agg #[.pointer (some ⟨8, 151, none⟩)]))

theorem as_no (t : Value) (w : World) (hb : D.Base w) : Calls Tryz.prog 119 #[.nilIface, t] w fun e w' => e = .returned (.bool false) ∧ Below w.heap.size w w' :=
  (as_nil t w).mono fun e w' ⟨h1, h2⟩ => ⟨h1, h2 ▸ Below.refl _ _⟩

theorem as_yes (w0 : World) (F : SH) (b bt : Nat) (old : Value) (hg : Hdl w0) (w : World) (hst : St w0 ((bt, .cells 154 [old]) :: F) w) :
    Calls Tryz.prog 119 #[.iface 154 (.pointer (some ⟨b, 0, none⟩)), .iface 156 (.pointer (some ⟨bt, 0, none⟩))] w (Turns w0 (.bool true) ((bt, .cells 154 [.pointer (some ⟨b, 0, none⟩)]) :: F)) := by
  have hm := hst.heap (List.Mem.head _)
  refine (as_hit ⟨b, 0, none⟩ ⟨bt, 0, none⟩ old w (hst.old hg) (hst.cell (List.Mem.head _) rfl) (by simp [World.frozen?, hm])).mono fun e w' ⟨h1, h2⟩ => ⟨h1, ?_⟩
  subst h2
  have h1 := hst.new (New.alloc w (.cells 156 [.pointer (some ⟨bt, 0, none⟩)]))
  have h2 := h1.new (New.alloc _ (.cells 196 [.pointer (some ⟨8, 156, none⟩), .pointer (some ⟨w.heap.size, 0, none⟩), .int .u64 150]))
  have h3 := h2.new (New.alloc _ (.cells 196 [.pointer (some ⟨8, 156, none⟩), .pointer (some ⟨w.heap.size, 0, none⟩), .int .u64 150]))
  have h4 := h3.new (New.alloc _ (.cells 154 [.pointer (some ⟨b, 0, none⟩)]))
  have h5 := h4.sub (hs' := (bt, .cells 154 [old]) :: F) (by
    simp only [List.cons_append, List.nil_append]
    exact .cons _ (.cons _ (.cons _ (.cons _ (List.Sublist.refl _)))))
  have hm5 := h5.heap (List.Mem.head _)
  refine h5.upd (n := .cells 154 [.pointer (some ⟨b, 0, none⟩)]) Upd.here ?_ ?_ ?_ rfl rfl rfl
  · show (Array.modify _ _ _)[bt]? = _
    rw [Array.getElem?_modify]
    simp only [if_true]
    erw [hm5]
    rfl
  · intro k hk
    show (Array.modify _ _ _)[k]? = _
    rw [Array.getElem?_modify, if_neg (Ne.symm hk)]
    rfl
  · show (Array.modify _ _ _).size = _
    rw [Array.size_modify]
    rfl

end D
end Go.Proofs.YtpgbmohocfcjpaaGreatDoor
