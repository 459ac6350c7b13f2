/- Equality of values of the program's own types. -/
import Derived.Test.YtpgbmohocfcjpaaGreatDoorEI
import Derived.LaidEql
import Derived.Stop.Asserts
import Derived.RowKitTokens
namespace Go.Proofs.YtpgbmohocfcjpaaGreatDoor
set_option linter.unusedVariables false
set_option linter.unusedSimpArgs false
set_option maxRecDepth 100000
namespace D
open Go.RowKit

class EqA (P : Program) (t : TypeId) : Prop where
  ok : P.eqGuardType P.depth t = false

theorem eqGuard_aggs {P : Program} {t : TypeId} [i : EqA P t] (op : BinOp) (x y : Operand) (a b : Array Value) (w : World) : (eqGuard op t x y (.agg a) (.agg b)).run P w = .ok () w := by
  cases op <;> simp [eqGuard, i.ok]

/-- Two composites, and whether they are equal. -/
class EqV (P : Program) (t : TypeId) (xs ys : List Value) (b : outParam Bool) : Prop where
  ok : ∀ w, (Op.equal t (.agg xs.toArray) (.agg ys.toArray)).run P w = .ok b w

theorem PV.eqlA {P : Program} {e : Env} {d : Option Tmp} {ty : TypeId} {pos : String} {af : Array Edge} {g : Option (Nat × Bool)} {x y : Operand} {xs ys : List Value} {b : Bool} {xt yt : TypeId} [i : EqA P xt] (hx : ev e x = some (.agg xs.toArray)) (hy : ev e y = some (.agg ys.toArray))
    (h : EqV P xt xs ys b) : PV P ⟨d, .binOp .eql xt x y yt, ty, pos, af, g⟩ e (.bool b) :=
  .bin hx hy (eqGuard_aggs _ _ _ _ _) fun w => by simp only [Go.binOp, Sem.run_bind, h.ok, Result.andThen_ok]; rfl

theorem PV.neqA {P : Program} {e : Env} {d : Option Tmp} {ty : TypeId} {pos : String} {af : Array Edge} {g : Option (Nat × Bool)} {x y : Operand} {xs ys : List Value} {b : Bool} {xt yt : TypeId} [i : EqA P xt] (hx : ev e x = some (.agg xs.toArray)) (hy : ev e y = some (.agg ys.toArray))
    (h : EqV P xt xs ys b) : PV P ⟨d, .binOp .neq xt x y yt, ty, pos, af, g⟩ e (.bool (!b)) :=
  .bin hx hy (eqGuard_aggs _ _ _ _ _) fun w => by simp only [Go.binOp, Sem.run_bind, h.ok, Result.andThen_ok]; rfl

theorem fieldsOf_eq {P : Program} {t : TypeId} {fs : Array Field} (h : P.underlying t = some (.struct fs)) : P.fieldsOf t = fs := by simp [Program.fieldsOf, h]

theorem eq_clock (a0 a1 a2 a3 b0 b1 b2 b3 : Int) (w : World) : (Op.equal 35 (.agg #[.int .i64 a0, .int .i64 a1, .int .i64 a2, .int .i64 a3]) (.agg #[.int .i64 b0, .int .i64 b1, .int .i64 b2, .int .i64 b3])).run Tryz.prog w = .ok (decide (a0 = b0 ∧ a1 = b1 ∧ a2 = b2 ∧ a3 = b3)) w := by
  show (Op.equalIn (9999 + 1) 35 _ _).run Tryz.prog w = _
  rw [run_equalIn_struct w 9999 35 _ _ (by rw [fieldsOf_eq Tryz.underlying35]; exact Tryz.underlying35) (by kernel_rfl), fieldsOf_eq Tryz.underlying35]
  have h3 : ∀ a b w, (Op.equalIn 9999 3 (.int .i64 a) (.int .i64 b)).run Tryz.prog w = .ok (a == b) w := fun a b w => run_equalIn_int w 9998 3 .i64 .i64 a b Tryz.underlying3
  have hs : ∀ w, (isAgg 3).run Tryz.prog w = .ok false w := fun w => run_isAgg_sc w
  simp [Op.eqFields, part, hs, h3]
  repeat' split
  all_goals simp_all

instance (a0 a1 a2 a3 b0 b1 b2 b3 : Int) : EqV Tryz.prog 35 [.int .i64 a0, .int .i64 a1, .int .i64 a2, .int .i64 a3] [.int .i64 b0, .int .i64 b1, .int .i64 b2, .int .i64 b3] (decide (a0 = b0 ∧ a1 = b1 ∧ a2 = b2 ∧ a3 = b3)) := ⟨eq_clock a0 a1 a2 a3 b0 b1 b2 b3⟩

theorem eqn_clock (a0 a1 a2 a3 b0 b1 b2 b3 : Int) (w : World) : (Op.equalIn 9999 35 (.agg #[.int .i64 a0, .int .i64 a1, .int .i64 a2, .int .i64 a3]) (.agg #[.int .i64 b0, .int .i64 b1, .int .i64 b2, .int .i64 b3])).run Tryz.prog w = .ok (decide (a0 = b0 ∧ a1 = b1 ∧ a2 = b2 ∧ a3 = b3)) w := by
  show (Op.equalIn (9998 + 1) 35 _ _).run Tryz.prog w = _
  rw [run_equalIn_struct w 9998 35 _ _ (by rw [fieldsOf_eq Tryz.underlying35]; exact Tryz.underlying35) (by kernel_rfl), fieldsOf_eq Tryz.underlying35]
  have h3 : ∀ a b w, (Op.equalIn 9998 3 (.int .i64 a) (.int .i64 b)).run Tryz.prog w = .ok (a == b) w := fun a b w => run_equalIn_int w 9997 3 .i64 .i64 a b Tryz.underlying3
  have hs : ∀ w, (isAgg 3).run Tryz.prog w = .ok false w := fun w => run_isAgg_sc w
  simp [Op.eqFields, part, hs, h3]
  repeat' split
  all_goals simp_all

instance : EqA Tryz.prog 35 := ⟨by kernel_rfl⟩

theorem eq_date (a0 a1 a2 b0 b1 b2 : Int) (w : World) : (Op.equal 33 (.agg #[.int .i64 a0, .int .i64 a1, .int .i64 a2]) (.agg #[.int .i64 b0, .int .i64 b1, .int .i64 b2])).run Tryz.prog w = .ok (decide (a0 = b0 ∧ a1 = b1 ∧ a2 = b2)) w := by
  show (Op.equalIn (9999 + 1) 33 _ _).run Tryz.prog w = _
  rw [run_equalIn_struct w 9999 33 _ _ (by rw [fieldsOf_eq Tryz.underlying33]; exact Tryz.underlying33) (by kernel_rfl), fieldsOf_eq Tryz.underlying33]
  have h3 : ∀ a b w, (Op.equalIn 9999 3 (.int .i64 a) (.int .i64 b)).run Tryz.prog w = .ok (a == b) w := fun a b w => run_equalIn_int w 9998 3 .i64 .i64 a b Tryz.underlying3
  have hs : ∀ w, (isAgg 3).run Tryz.prog w = .ok false w := fun w => run_isAgg_sc w
  simp [Op.eqFields, part, hs, h3]
  repeat' split
  all_goals simp_all

instance (a0 a1 a2 b0 b1 b2 : Int) : EqV Tryz.prog 33 [.int .i64 a0, .int .i64 a1, .int .i64 a2] [.int .i64 b0, .int .i64 b1, .int .i64 b2] (decide (a0 = b0 ∧ a1 = b1 ∧ a2 = b2)) := ⟨eq_date a0 a1 a2 b0 b1 b2⟩

theorem eqn_date (a0 a1 a2 b0 b1 b2 : Int) (w : World) : (Op.equalIn 9999 33 (.agg #[.int .i64 a0, .int .i64 a1, .int .i64 a2]) (.agg #[.int .i64 b0, .int .i64 b1, .int .i64 b2])).run Tryz.prog w = .ok (decide (a0 = b0 ∧ a1 = b1 ∧ a2 = b2)) w := by
  show (Op.equalIn (9998 + 1) 33 _ _).run Tryz.prog w = _
  rw [run_equalIn_struct w 9998 33 _ _ (by rw [fieldsOf_eq Tryz.underlying33]; exact Tryz.underlying33) (by kernel_rfl), fieldsOf_eq Tryz.underlying33]
  have h3 : ∀ a b w, (Op.equalIn 9998 3 (.int .i64 a) (.int .i64 b)).run Tryz.prog w = .ok (a == b) w := fun a b w => run_equalIn_int w 9997 3 .i64 .i64 a b Tryz.underlying3
  have hs : ∀ w, (isAgg 3).run Tryz.prog w = .ok false w := fun w => run_isAgg_sc w
  simp [Op.eqFields, part, hs, h3]
  repeat' split
  all_goals simp_all

instance : EqA Tryz.prog 33 := ⟨by kernel_rfl⟩

theorem eq_period (a0 a1 a2 a3 a4 a5 b0 b1 b2 b3 b4 b5 : Int) (w : World) : (Op.equal 50 (.agg #[.int .i64 a0, .int .i64 a1, .int .i64 a2, .int .i64 a3, .int .i64 a4, .int .i64 a5]) (.agg #[.int .i64 b0, .int .i64 b1, .int .i64 b2, .int .i64 b3, .int .i64 b4, .int .i64 b5])).run Tryz.prog w = .ok (decide (a0 = b0 ∧ a1 = b1 ∧ a2 = b2 ∧ a3 = b3 ∧ a4 = b4 ∧ a5 = b5)) w := by
  show (Op.equalIn (9999 + 1) 50 _ _).run Tryz.prog w = _
  rw [run_equalIn_struct w 9999 50 _ _ (by rw [fieldsOf_eq Tryz.underlying50]; exact Tryz.underlying50) (by kernel_rfl), fieldsOf_eq Tryz.underlying50]
  have h3 : ∀ a b w, (Op.equalIn 9999 3 (.int .i64 a) (.int .i64 b)).run Tryz.prog w = .ok (a == b) w := fun a b w => run_equalIn_int w 9998 3 .i64 .i64 a b Tryz.underlying3
  have hs : ∀ w, (isAgg 3).run Tryz.prog w = .ok false w := fun w => run_isAgg_sc w
  simp [Op.eqFields, part, hs, h3]
  repeat' split
  all_goals simp_all

instance (a0 a1 a2 a3 a4 a5 b0 b1 b2 b3 b4 b5 : Int) : EqV Tryz.prog 50 [.int .i64 a0, .int .i64 a1, .int .i64 a2, .int .i64 a3, .int .i64 a4, .int .i64 a5] [.int .i64 b0, .int .i64 b1, .int .i64 b2, .int .i64 b3, .int .i64 b4, .int .i64 b5] (decide (a0 = b0 ∧ a1 = b1 ∧ a2 = b2 ∧ a3 = b3 ∧ a4 = b4 ∧ a5 = b5)) := ⟨eq_period a0 a1 a2 a3 a4 a5 b0 b1 b2 b3 b4 b5⟩

theorem eqn_period (a0 a1 a2 a3 a4 a5 b0 b1 b2 b3 b4 b5 : Int) (w : World) : (Op.equalIn 9999 50 (.agg #[.int .i64 a0, .int .i64 a1, .int .i64 a2, .int .i64 a3, .int .i64 a4, .int .i64 a5]) (.agg #[.int .i64 b0, .int .i64 b1, .int .i64 b2, .int .i64 b3, .int .i64 b4, .int .i64 b5])).run Tryz.prog w = .ok (decide (a0 = b0 ∧ a1 = b1 ∧ a2 = b2 ∧ a3 = b3 ∧ a4 = b4 ∧ a5 = b5)) w := by
  show (Op.equalIn (9998 + 1) 50 _ _).run Tryz.prog w = _
  rw [run_equalIn_struct w 9998 50 _ _ (by rw [fieldsOf_eq Tryz.underlying50]; exact Tryz.underlying50) (by kernel_rfl), fieldsOf_eq Tryz.underlying50]
  have h3 : ∀ a b w, (Op.equalIn 9998 3 (.int .i64 a) (.int .i64 b)).run Tryz.prog w = .ok (a == b) w := fun a b w => run_equalIn_int w 9997 3 .i64 .i64 a b Tryz.underlying3
  have hs : ∀ w, (isAgg 3).run Tryz.prog w = .ok false w := fun w => run_isAgg_sc w
  simp [Op.eqFields, part, hs, h3]
  repeat' split
  all_goals simp_all

instance : EqA Tryz.prog 50 := ⟨by kernel_rfl⟩

theorem eq_stamp (a0 a1 a2 a3 a4 a5 a6 a7 b0 b1 b2 b3 b4 b5 b6 b7 : Int) (w : World) : (Op.equal 37 (.agg #[.int .i64 a0, .int .i64 a1, .int .i64 a2, .int .i64 a3, .int .i64 a4, .int .i64 a5, .int .i64 a6, .int .i64 a7]) (.agg #[.int .i64 b0, .int .i64 b1, .int .i64 b2, .int .i64 b3, .int .i64 b4, .int .i64 b5, .int .i64 b6, .int .i64 b7])).run Tryz.prog w = .ok (decide ((a0 = b0 ∧ a1 = b1 ∧ a2 = b2) ∧ (a3 = b3 ∧ a4 = b4 ∧ a5 = b5 ∧ a6 = b6) ∧ a7 = b7)) w := by
  show (Op.equalIn (9999 + 1) 37 _ _).run Tryz.prog w = _
  rw [run_equalIn_struct w 9999 37 _ _ (by rw [fieldsOf_eq Tryz.underlying37]; exact Tryz.underlying37) (by kernel_rfl), fieldsOf_eq Tryz.underlying37]
  have h3 : ∀ a b w, (Op.equalIn 9999 3 (.int .i64 a) (.int .i64 b)).run Tryz.prog w = .ok (a == b) w := fun a b w => run_equalIn_int w 9998 3 .i64 .i64 a b Tryz.underlying3
  have hs : ∀ w, (isAgg 3).run Tryz.prog w = .ok false w := fun w => run_isAgg_sc w
  have hd : ∀ w, (isAgg 33).run Tryz.prog w = .ok true w := fun w => run_isAgg_ag w
  have hc : ∀ w, (isAgg 35).run Tryz.prog w = .ok true w := fun w => run_isAgg_ag w
  have zd : ∀ w, (sizeOf 33).run Tryz.prog w = .ok 3 w := fun w => run_sizeOf (Ag.sz (P := Tryz.prog)) w
  have zc : ∀ w, (sizeOf 35).run Tryz.prog w = .ok 4 w := fun w => run_sizeOf (Ag.sz (P := Tryz.prog)) w
  have e1 := fun w => eqn_date a0 a1 a2 b0 b1 b2 w
  have e2 := fun w => eqn_clock a3 a4 a5 a6 b3 b4 b5 b6 w
  simp [Op.eqFields, part, hs, hd, hc, zd, zc, h3, e1, e2]
  repeat' split
  all_goals simp_all

instance (a0 a1 a2 a3 a4 a5 a6 a7 b0 b1 b2 b3 b4 b5 b6 b7 : Int) : EqV Tryz.prog 37 [.int .i64 a0, .int .i64 a1, .int .i64 a2, .int .i64 a3, .int .i64 a4, .int .i64 a5, .int .i64 a6, .int .i64 a7] [.int .i64 b0, .int .i64 b1, .int .i64 b2, .int .i64 b3, .int .i64 b4, .int .i64 b5, .int .i64 b6, .int .i64 b7] (decide ((a0 = b0 ∧ a1 = b1 ∧ a2 = b2) ∧ (a3 = b3 ∧ a4 = b4 ∧ a5 = b5 ∧ a6 = b6) ∧ a7 = b7)) := ⟨eq_stamp a0 a1 a2 a3 a4 a5 a6 a7 b0 b1 b2 b3 b4 b5 b6 b7⟩

instance : EqA Tryz.prog 37 := ⟨by kernel_rfl⟩

end D
end Go.Proofs.YtpgbmohocfcjpaaGreatDoor

namespace Go.Proofs.YtpgbmohocfcjpaaGreatDoor
set_option linter.unusedVariables false
set_option linter.unusedSimpArgs false
set_option maxRecDepth 100000
open Go.RowKit Go.Extern.Stop Go.Stop Go.Extern

end Go.Proofs.YtpgbmohocfcjpaaGreatDoor
