/- errors.Is over a sentinel. -/
import Derived.Test.YtpodhahlbdlgeaaDoorEi
import Derived.LaidEql
import Derived.Stop.Asserts
import Derived.RowKitTokens
namespace Go.Proofs.YtpodhahlbdlgeaaDoor
set_option linter.unusedVariables false
set_option linter.unusedSimpArgs false
set_option maxRecDepth 100000
open Go.RowKit Go.Extern.Stop Go.Stop Go.Extern

theorem Tryd.isTypeOf (v : Value) (w : World) : (Extern.ReflectliteType.typeOf #[.iface 105 v]).run Tryd.prog w = .ok (.iface 92 (.agg #[.pointer (some ⟨2, 105, none⟩)])) w := by kernel_rfl
theorem Tryd.isComparable (w : World) : ((Extern.ReflectliteType.method fun t => do Rtype.noPackHeld "Comparable" t; (fun a => Value.bool a.comparable) <$> typeInfo t) #[.agg #[.pointer (some ⟨2, 105, none⟩)]]).run Tryd.prog w = .ok (.bool true) w := by kernel_rfl
theorem Tryd.isComp : (Tryd.prog.info? 105).map (·.comparable) = some true := by kernel_rfl
theorem Tryd.isSize : (Tryd.prog.info? 130).map (·.size) = some 1 := by kernel_rfl

set_option maxHeartbeats 400000 in
theorem is_same (a : Addr) (w : World) : Calls Tryd.prog 15 #[.iface 105 (.pointer (some a)), .iface 105 (.pointer (some a))] w fun e w' => e = .returned (.bool true) ∧ w = w' := by
  obtain ⟨i, hi, hcmp⟩ := Option.map_eq_some_iff.1 Tryd.isComp
  obtain ⟨j, hj, hjs⟩ := Option.map_eq_some_iff.1 Tryd.isSize
  have h8 := @run_callFunc_extern Tryd.prog 35 _ Extern.ReflectliteType.typeOf Tryd.func35 (by kernel_rfl) (by kernel_rfl) (by kernel_rfl) (by kernel_rfl)
  have h32 := @run_callFunc_extern Tryd.prog 93 _ (Extern.ReflectliteType.method fun t => do Rtype.noPackHeld "Comparable" t; pure (.bool (← typeInfo t).comparable)) Tryd.func93 (by kernel_rfl) (by kernel_rfl) (by kernel_rfl) (by kernel_rfl)
  have tT := Tryd.isTypeOf
  have hmt : ∀ w : World, (method 242 92 (.agg #[.pointer (some ⟨2, 105, none⟩)]) "Comparable").run Tryd.prog w = .ok (93, .agg #[.pointer (some ⟨2, 105, none⟩)]) w := fun w => by kernel_rfl
  have cT := Tryd.isComparable
  have heq := run_eql_iface_ptr_same (P := Tryd.prog) w a Tryd.underlying46 Tryd.underlying105 hi hcmp hj
  go_enter Tryd.func15, Tryd.ntmps15
  go_wp2
  refine wp_loop_rounds 1 ?_
  rw [rounds_succ]
  go_wp2
  go_ret
  exact ⟨rfl, rfl⟩

set_option maxHeartbeats 400000 in
theorem is_nil (b : Addr) (w : World) : Calls Tryd.prog 15 #[.nilIface, .iface 105 (.pointer (some b))] w fun e w' => e = .returned (.bool false) ∧ w = w' := by
  have hn := run_eql_iface_nil_left (P := Tryd.prog) w 105 (.pointer (some b)) Tryd.underlying46
  go_enter Tryd.func15, Tryd.ntmps15
  go_wp2
  go_ret
  exact ⟨rfl, rfl⟩

namespace D
theorem a_is_same (a : Addr) (w : World) : Calls Tryd.prog 15 #[.iface 105 (.pointer (some a)), .iface 105 (.pointer (some a))] w fun e w' => e = .returned (.bool true) ∧ Below w.heap.size w w' :=
  (is_same a w).mono fun _ _ ⟨h1, h2⟩ => ⟨h1, h2 ▸ Below.refl _ _⟩
theorem a_is_nil (a : Addr) (w : World) : Calls Tryd.prog 15 #[.nilIface, .iface 105 (.pointer (some a))] w fun e w' => e = .returned (.bool false) ∧ Below w.heap.size w w' :=
  (is_nil a w).mono fun _ _ ⟨h1, h2⟩ => ⟨h1, h2 ▸ Below.refl _ _⟩
end D

end Go.Proofs.YtpodhahlbdlgeaaDoor
