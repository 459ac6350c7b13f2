/- Equality of values of the program's own types. -/
import Derived.Test.YtmohggeeedncoaaEI
namespace Go.Proofs.Ytmohggeeedncoaa
set_option linter.unusedVariables false
set_option linter.unusedSimpArgs false
set_option maxRecDepth 100000
namespace D
open Go.RowKit

class EqA (P : Program) (t : TypeId) : Prop where
  ok : P.eqGuardType P.depth t = false

theorem eqGuard_aggs {P : Program} {t : TypeId} [i : EqA P t] (op : BinOp) (x y : Operand) (a b : Array Value) (w : World) : (eqGuard op t x y (.agg a) (.agg b)).run P w = .ok () w := by
  cases op <;> simp [eqGuard, i.ok]

/-- Two composites, and whether they are equal. -/
class EqV (P : Program) (t : TypeId) (xs ys : List Value) (b : outParam Bool) : Prop where
  ok : ∀ w, (Op.equal t (.agg xs.toArray) (.agg ys.toArray)).run P w = .ok b w

theorem PV.eqlA {P : Program} {e : Env} {d : Option Tmp} {ty : TypeId} {pos : String} {af : Array Edge} {g : Option (Nat × Bool)} {x y : Operand} {xs ys : List Value} {b : Bool} {xt yt : TypeId} [i : EqA P xt] (hx : ev e x = some (.agg xs.toArray)) (hy : ev e y = some (.agg ys.toArray))
    (h : EqV P xt xs ys b) : PV P ⟨d, .binOp .eql xt x y yt, ty, pos, af, g⟩ e (.bool b) :=
  .bin hx hy (eqGuard_aggs _ _ _ _ _) fun w => by simp only [Go.binOp, Sem.run_bind, h.ok, Result.andThen_ok]; rfl

theorem PV.neqA {P : Program} {e : Env} {d : Option Tmp} {ty : TypeId} {pos : String} {af : Array Edge} {g : Option (Nat × Bool)} {x y : Operand} {xs ys : List Value} {b : Bool} {xt yt : TypeId} [i : EqA P xt] (hx : ev e x = some (.agg xs.toArray)) (hy : ev e y = some (.agg ys.toArray))
    (h : EqV P xt xs ys b) : PV P ⟨d, .binOp .neq xt x y yt, ty, pos, af, g⟩ e (.bool (!b)) :=
  .bin hx hy (eqGuard_aggs _ _ _ _ _) fun w => by simp only [Go.binOp, Sem.run_bind, h.ok, Result.andThen_ok]; rfl

theorem fieldsOf_eq {P : Program} {t : TypeId} {fs : Array Field} (h : P.underlying t = some (.struct fs)) : P.fieldsOf t = fs := by simp [Program.fieldsOf, h]

theorem eq_range (a0 a1 b0 b1 : Int) (w : World) : (Op.equal 34 (.agg #[.int .i64 a0, .int .i64 a1]) (.agg #[.int .i64 b0, .int .i64 b1])).run Try.prog w = .ok (decide (a0 = b0 ∧ a1 = b1)) w := by
  show (Op.equalIn (9999 + 1) 34 _ _).run Try.prog w = _
  rw [run_equalIn_struct w 9999 34 _ _ (by rw [fieldsOf_eq Try.underlying34]; exact Try.underlying34) (by kernel_rfl), fieldsOf_eq Try.underlying34]
  have h3 : ∀ a b w, (Op.equalIn 9999 3 (.int .i64 a) (.int .i64 b)).run Try.prog w = .ok (a == b) w := fun a b w => run_equalIn_int w 9998 3 .i64 .i64 a b Try.underlying3
  have hs : ∀ w, (isAgg 3).run Try.prog w = .ok false w := fun w => run_isAgg_sc w
  simp [Op.eqFields, part, hs, h3]
  repeat' split
  all_goals simp_all

instance (a0 a1 b0 b1 : Int) : EqV Try.prog 34 [.int .i64 a0, .int .i64 a1] [.int .i64 b0, .int .i64 b1] (decide (a0 = b0 ∧ a1 = b1)) := ⟨eq_range a0 a1 b0 b1⟩

instance : EqA Try.prog 34 := ⟨by kernel_rfl⟩

end D
end Go.Proofs.Ytmohggeeedncoaa
