/- The engine, part 2: single operations: what each leaves, over opaque worlds. -/
import Derived.Test.YtpodhahlbdlgeaaDoorEa
import Derived.IntWalk
namespace Go.Proofs.YtpodhahlbdlgeaaDoor
set_option linter.unusedVariables false
set_option linter.unusedSimpArgs false
namespace D
open Go.RowKit

/-- What one operation does: it goes on with a value and a world of which 'Post' holds. -/
def Does (P : Program) (s : Sem Next) (w : World) (Post : Value → World → Prop) : Prop :=
  match s.run P w with
  | .ok (.value v) w' => Post v w'
  | .ok .skip w' => Post undef w'
  | .ok (.enter f args) w' => Calls P f args w' fun e w'' => ∃ v, e = .returned v ∧ Post v w''
  | .ok (.row r args) w' => Rows P r args w' Post
  | _ => False

theorem Does.upon {P : Program} {s : Sem Next} {w : World} {Post : Value → World → Prop} (h : Does P s w Post) {o : Oper} {a : Act} {K : Act → World → Prop} {Q : Exit → Act → World → Prop}
    (k : ∀ v w', Post v w' → K (a.put o.dst v) w') : o.upon P a K Q (s.run P w) := by
  unfold Does at h
  generalize s.run P w = r at h
  cases r with
  | halt x w' => exact h.elim
  | ok n w' =>
    cases n <;> first
      | exact h.elim
      | exact k _ _ h
      | exact Calls.mono h fun e w'' ⟨v, he, hp⟩ => by subst he; exact k _ _ hp
      | exact Rows.mono h fun v w'' hp => k _ _ hp
theorem Does.mono {P : Program} {s : Sem Next} {w : World} {Post Post' : Value → World → Prop} (h : Does P s w Post) (k : ∀ v w', Post v w' → Post' v w') : Does P s w Post' := by
  unfold Does at *
  generalize s.run P w = r at *
  cases r with
  | halt x w' => exact h
  | ok n w' =>
    cases n <;> first
      | exact h.elim
      | exact k _ _ h
      | exact Calls.mono h fun e w'' ⟨v, he, hp⟩ => ⟨v, he, k _ _ hp⟩
      | exact Rows.mono h fun v w'' hp => k _ _ hp
theorem Calls.some {P : Program} {f : FuncId} {args : Array Value} {w : World} {R : Ending → World → Prop} (h : Calls P f args w R) : ∃ e w', R e w' := by
  obtain ⟨e, w', _, hr, _⟩ := h []
  exact ⟨e, w', hr⟩
theorem Does.some {P : Program} {s : Sem Next} {w : World} {Post : Value → World → Prop} (h : Does P s w Post) : ∃ v w', Post v w' := by
  unfold Does at h
  generalize s.run P w = r at h
  cases r with
  | halt x w' => exact h.elim
  | ok n w' =>
    cases n <;> first
      | exact h.elim
      | exact ⟨_, _, h⟩
      | exact (Calls.some h).elim fun e h => h.elim fun w' ⟨v, _, hp⟩ => ⟨v, w', hp⟩
      | exact (h default []).elim fun v h => h.elim fun w' ⟨hp, _⟩ => ⟨v, w', hp⟩
theorem Does.of_value {P : Program} {s : Sem Next} {w w' : World} {v : Value} {Post : Value → World → Prop} (h : s.run P w = .ok (.value v) w') (k : Post v w') : Does P s w Post := by
  unfold Does; rw [h]; exact k
theorem Does.of_skip {P : Program} {s : Sem Next} {w w' : World} {Post : Value → World → Prop} (h : s.run P w = .ok .skip w') (k : Post undef w') : Does P s w Post := by
  unfold Does; rw [h]; exact k

/-- Touches no memory. -/
structure PV (P : Program) (o : Oper) (e : Env) (v : Value) : Prop where
  ok : ∀ ρ, Fits e ρ → ∀ w, (execOp ρ o).run P w = .ok (.value v) w
/-- Yields v; at most it makes memory of which nothing is told. -/
structure OV (P : Program) (o : Oper) (e : Env) (w0 : World) (hs : SH) (v : Value) : Prop where
  ok : ∀ ρ w, Fits e ρ → St w0 hs w → Does P (execOp ρ o) w fun v' w' => v' = v ∧ New [] w w'
/-- Makes memory. -/
structure ON (P : Program) (o : Oper) (e : Env) (w0 : World) (hs : SH) (R : Value → SH → Prop) : Prop where
  ok : ∀ ρ w, Fits e ρ → St w0 hs w → Does P (execOp ρ o) w fun v w' => ∃ H, R v H ∧ New H w w'
/-- Turns the call's own memory. -/
structure OS (P : Program) (o : Oper) (e : Env) (w0 : World) (hs hs' : SH) : Prop where
  ok : ∀ ρ w, Fits e ρ → St w0 hs w → Does P (execOp ρ o) w fun v w' => v = undef ∧ St w0 hs' w'

variable {P : Program} {e : Env} {w0 : World} {hs hs' : SH} {d : Option Tmp} {ty : TypeId} {pos : String} {af : Array Edge} {g : Option (Nat × Bool)}

theorem PV.ov {o : Oper} {v : Value} (h : PV P o e v) : OV P o e w0 hs v := .mk fun ρ w hf hst => .of_value (h.ok ρ hf w) ⟨rfl, .refl _⟩

/-! ### Types -/
class Sc (P : Program) (t : TypeId) : Prop where
  ok : ∃ d, P.underlying t = some d ∧ (match d with | .struct _ | .array _ _ => true | _ => false) = false
class Sz (P : Program) (t : TypeId) (k : outParam Nat) : Prop where
  ok : (P.info? t).map (·.size) = some k
class Ag (P : Program) (t : TypeId) (k : outParam Nat) : Prop where
  ok : ∃ d, P.underlying t = some d ∧ (match d with | .struct _ | .array _ _ => true | _ => false) = true
  sz : (P.info? t).map (·.size) = some k
theorem run_isAgg_sc [h : Sc P ty] (w : World) : (isAgg ty).run P w = .ok false w := by
  obtain ⟨d, hu, hd⟩ := h.ok
  unfold isAgg
  rw [Sem.run_bind, run_underlying hu w]
  cases d <;> simp_all
theorem run_isAgg_ag {k : Nat} [h : Ag P ty k] (w : World) : (isAgg ty).run P w = .ok true w := by
  obtain ⟨d, hu, hd⟩ := h.ok
  unfold isAgg
  rw [Sem.run_bind, run_underlying hu w]
  cases d <;> simp_all
theorem run_sizeOf {k : Nat} (h : (P.info? ty).map (·.size) = some k) (w : World) : (sizeOf ty).run P w = .ok k w := by
  cases hq : P.info? ty with
  | none => simp [hq] at h
  | some i => simp [hq] at h; simp [sizeOf, typeInfo, hq, h]
theorem add_plain (b o j : Nat) : (⟨b, o, none⟩ : Addr).add j = ⟨b, o + j, none⟩ := by unfold Addr.add; split <;> simp_all
theorem run_loadVar_sc [Sc P ty] {w : World} {a : Addr} {v : Value} (h : w.cell? a = some v) : (loadVar ty a).run P w = .ok v w := by
  simp [loadVar, run_isAgg_sc, h]
theorem run_loadVar_ag {k : Nat} [i : Ag P ty k] {w : World} {b o : Nat} {us : List Value} (hl : us.length = k) (h : ∀ j v, us[j]? = some v → w.cell? ⟨b, o + j, none⟩ = some v) :
    (loadVar ty ⟨b, o, none⟩).run P w = .ok (.agg us.toArray) w := by
  have := run_loadCells_list (P := P) w ⟨b, o, none⟩ us (fun j v hj => by rw [add_plain]; exact h j v hj)
  rw [hl] at this
  simp [loadVar, run_isAgg_ag, run_sizeOf i.sz, this]
theorem St.cell {w : World} (h : St w0 hs w) {b o : Nat} {T : TypeId} {vs : List Value} {v : Value} (hm : (b, Blk.cells T vs) ∈ hs) (hv : vs[o]? = some v) : w.cell? ⟨b, o, none⟩ = some v := by
  simp [World.cell?, h.heap hm, hv]
theorem St.old {w : World} (h : St w0 hs w) {b o : Nat} {v : Value} (hv : w0.cell? ⟨b, o, none⟩ = some v) : w.cell? ⟨b, o, none⟩ = some v :=
  (h.low.cell (World.block_lt_of_cell? _ _ hv)).trans hv


theorem St.err {w : World} (h : St w0 hs w) (he : Err w0) : Err w := he.elim fun a ha => ⟨a, h.old ha⟩

/-! ### Copies and the like -/
theorem PV.move {x : Operand} {v : Value} (h : ev e x = some v) : PV P ⟨d, .move x, ty, pos, af, g⟩ e v := .mk fun ρ hf w => by simp [execOp, hf x v h]
theorem PV.assign {x : Operand} {v : Value} (h : ev e x = some v) : PV P ⟨d, .assign x, ty, pos, af, g⟩ e v := .mk fun ρ hf w => by simp [execOp, hf x v h]
theorem PV.pick {c a b : Operand} {t : Bool} {v : Value} (hc : ev e c = some (.bool t)) (h : (if t then ev e a else ev e b) = some v) : PV P ⟨d, .pick c a b, ty, pos, af, g⟩ e v := .mk fun ρ hf w => by
  cases t <;> simp [execOp, asBool, hf c _ hc, hf _ v h]
theorem PV.pickT {c a b : Operand} {v : Value} (hc : ev e c = some (.bool true)) (h : ev e a = some v) : PV P ⟨d, .pick c a b, ty, pos, af, g⟩ e v := PV.pick hc h
theorem PV.pickF {c a b : Operand} {v : Value} (hc : ev e c = some (.bool false)) (h : ev e b = some v) : PV P ⟨d, .pick c a b, ty, pos, af, g⟩ e v := PV.pick hc h
theorem PV.extract {x : Operand} {i : Nat} {vs : List Value} {v : Value} (h : ev e x = some (.tuple vs.toArray)) (hv : nthL vs i = some v) : PV P ⟨d, .extract x i, ty, pos, af, g⟩ e v := .mk fun ρ hf w => by
  have : vs[i]? = some v := by
    clear h
    induction vs generalizing i with
    | nil => cases hv
    | cons a r ih => cases i with
      | zero => simpa [nthL] using hv
      | succ i => simpa using ih (by simpa [nthL] using hv)
  simp [execOp, Instr.extract, hf x _ h, this]
theorem PV.not {x : Operand} {b : Bool} {xt : TypeId} (h : ev e x = some (.bool b)) : PV P ⟨d, .unOp .not xt x, ty, pos, af, g⟩ e (.bool (!b)) := .mk fun ρ hf w => by simp [execOp, Op.unary, hf x _ h]
theorem PV.neg {x : Operand} {n : Int} {xt : TypeId} (h : ev e x = some (.int .i64 n)) (hr : -9223372036854775808 < n) (hr2 : n ≤ 9223372036854775807) : PV P ⟨d, .unOp .neg xt x, ty, pos, af, g⟩ e (.int .i64 (-n)) := .mk fun ρ hf w => by
  have : IntKind.i64.wrap (-n) = -n := IntWalk.i64_in (-n) (by omega)
  simp [execOp, Op.unary, hf x _ h, Op.intArith, this]

/-! ### Arithmetic -/
theorem eqGuard_ints (op : BinOp) (t : TypeId) (x y : Operand) {k k' : IntKind} (m n : Int) (w : World) : (eqGuard op t x y (.int k m) (.int k' n)).run P w = .ok () w := by
  cases op <;> simp [eqGuard]
theorem PV.bin {op : BinOp} {x y : Operand} {a b v : Value} {xt yt : TypeId} (hx : ev e x = some a) (hy : ev e y = some b) (hg : ∀ w, (eqGuard op xt x y a b).run P w = .ok () w) (hv : ∀ w, (binOp op xt a b).run P w = .ok v w) :
    PV P ⟨d, .binOp op xt x y yt, ty, pos, af, g⟩ e v := .mk fun ρ hf w => by
  simp [execOp, hf x _ hx, hf y _ hy, hg, hv]
theorem PV.addw {x y : Operand} {k : IntKind} {m n : Int} {xt yt : TypeId} (hx : ev e x = some (.int k m)) (hy : ev e y = some (.int k n)) : PV P ⟨d, .binOp .add xt x y yt, ty, pos, af, g⟩ e (.int k (k.wrap (m + n))) :=
  .bin hx hy (eqGuard_ints _ _ _ _ _ _) fun w => by simp [binOp, Op.intArith]
theorem PV.subw {x y : Operand} {k : IntKind} {m n : Int} {xt yt : TypeId} (hx : ev e x = some (.int k m)) (hy : ev e y = some (.int k n)) : PV P ⟨d, .binOp .sub xt x y yt, ty, pos, af, g⟩ e (.int k (k.wrap (m - n))) :=
  .bin hx hy (eqGuard_ints _ _ _ _ _ _) fun w => by simp [binOp, Op.intArith]
theorem PV.mulw {x y : Operand} {k : IntKind} {m n : Int} {xt yt : TypeId} (hx : ev e x = some (.int k m)) (hy : ev e y = some (.int k n)) : PV P ⟨d, .binOp .mul xt x y yt, ty, pos, af, g⟩ e (.int k (k.wrap (m * n))) :=
  .bin hx hy (eqGuard_ints _ _ _ _ _ _) fun w => by simp [binOp, Op.intArith]
theorem PV.add {x y : Operand} {m n : Int} {xt yt : TypeId} (hx : ev e x = some (.int .i64 m)) (hy : ev e y = some (.int .i64 n)) (hr : -9223372036854775808 ≤ m + n ∧ m + n ≤ 9223372036854775807) :
    PV P ⟨d, .binOp .add xt x y yt, ty, pos, af, g⟩ e (.int .i64 (m + n)) := by have := PV.addw (P := P) (d := d) (ty := ty) (pos := pos) (af := af) (g := g) (xt := xt) (yt := yt) hx hy; rwa [IntWalk.i64_in _ (by omega)] at this
theorem PV.sub {x y : Operand} {m n : Int} {xt yt : TypeId} (hx : ev e x = some (.int .i64 m)) (hy : ev e y = some (.int .i64 n)) (hr : -9223372036854775808 ≤ m - n ∧ m - n ≤ 9223372036854775807) :
    PV P ⟨d, .binOp .sub xt x y yt, ty, pos, af, g⟩ e (.int .i64 (m - n)) := by have := PV.subw (P := P) (d := d) (ty := ty) (pos := pos) (af := af) (g := g) (xt := xt) (yt := yt) hx hy; rwa [IntWalk.i64_in _ (by omega)] at this
theorem PV.mul {x y : Operand} {m n : Int} {xt yt : TypeId} (hx : ev e x = some (.int .i64 m)) (hy : ev e y = some (.int .i64 n)) (hr : -9223372036854775808 ≤ m * n ∧ m * n ≤ 9223372036854775807) :
    PV P ⟨d, .binOp .mul xt x y yt, ty, pos, af, g⟩ e (.int .i64 (m * n)) := by have := PV.mulw (P := P) (d := d) (ty := ty) (pos := pos) (af := af) (g := g) (xt := xt) (yt := yt) hx hy; rwa [IntWalk.i64_in _ (by omega)] at this
theorem PV.quo {x y : Operand} {m n : Int} {xt yt : TypeId} (hx : ev e x = some (.int .i64 m)) (hy : ev e y = some (.int .i64 n)) (h0 : 0 ≤ m) (h1 : 0 < n) (hr : m ≤ 9223372036854775807) :
    PV P ⟨d, .binOp .quo xt x y yt, ty, pos, af, g⟩ e (.int .i64 (m / n)) :=
  .bin hx hy (eqGuard_ints _ _ _ _ _ _) fun w => by
    have hn : ¬ n = 0 := by omega
    have hq : 0 ≤ m / n ∧ m / n ≤ m := ⟨Int.ediv_nonneg h0 (by omega), Int.ediv_le_self _ h0⟩
    simp [binOp, Op.intDiv, hn, Int.tdiv_eq_ediv_of_nonneg h0]
    exact IntWalk.i64_in _ (by omega)
theorem PV.rem {x y : Operand} {m n : Int} {xt yt : TypeId} (hx : ev e x = some (.int .i64 m)) (hy : ev e y = some (.int .i64 n)) (h0 : 0 ≤ m) (h1 : 0 < n) :
    PV P ⟨d, .binOp .rem xt x y yt, ty, pos, af, g⟩ e (.int .i64 (m % n)) :=
  .bin hx hy (eqGuard_ints _ _ _ _ _ _) fun w => by
    have hn : ¬ n = 0 := by omega
    simp [binOp, Op.intDiv, hn, Int.tmod_eq_emod_of_nonneg h0]
theorem PV.remt {x y : Operand} {m n : Int} {xt yt : TypeId} (hx : ev e x = some (.int .i64 m)) (hy : ev e y = some (.int .i64 n)) (h1 : n ≠ 0) :
    PV P ⟨d, .binOp .rem xt x y yt, ty, pos, af, g⟩ e (.int .i64 (m.tmod n)) :=
  .bin hx hy (eqGuard_ints _ _ _ _ _ _) fun w => by simp [binOp, Op.intDiv, h1]
theorem PV.quot {x y : Operand} {m n : Int} {xt yt : TypeId} (hx : ev e x = some (.int .i64 m)) (hy : ev e y = some (.int .i64 n)) (h1 : n ≠ 0) :
    PV P ⟨d, .binOp .quo xt x y yt, ty, pos, af, g⟩ e (.int .i64 (IntKind.i64.wrap (m.tdiv n))) :=
  .bin hx hy (eqGuard_ints _ _ _ _ _ _) fun w => by simp [binOp, Op.intDiv, h1]
theorem PV.lss {x y : Operand} {k : IntKind} {m n : Int} {xt yt : TypeId} (hx : ev e x = some (.int k m)) (hy : ev e y = some (.int k n)) : PV P ⟨d, .binOp .lss xt x y yt, ty, pos, af, g⟩ e (.bool (decide (m < n))) :=
  .bin hx hy (eqGuard_ints _ _ _ _ _ _) fun w => by simp [binOp, Op.intCmp]
theorem PV.leq {x y : Operand} {k : IntKind} {m n : Int} {xt yt : TypeId} (hx : ev e x = some (.int k m)) (hy : ev e y = some (.int k n)) : PV P ⟨d, .binOp .leq xt x y yt, ty, pos, af, g⟩ e (.bool (decide (m ≤ n))) :=
  .bin hx hy (eqGuard_ints _ _ _ _ _ _) fun w => by simp [binOp, Op.intCmp]
theorem PV.gtr {x y : Operand} {k : IntKind} {m n : Int} {xt yt : TypeId} (hx : ev e x = some (.int k m)) (hy : ev e y = some (.int k n)) : PV P ⟨d, .binOp .gtr xt x y yt, ty, pos, af, g⟩ e (.bool (decide (n < m))) :=
  .bin hx hy (eqGuard_ints _ _ _ _ _ _) fun w => by simp [binOp, Op.intCmp]
theorem PV.geq {x y : Operand} {k : IntKind} {m n : Int} {xt yt : TypeId} (hx : ev e x = some (.int k m)) (hy : ev e y = some (.int k n)) : PV P ⟨d, .binOp .geq xt x y yt, ty, pos, af, g⟩ e (.bool (decide (n ≤ m))) :=
  .bin hx hy (eqGuard_ints _ _ _ _ _ _) fun w => by simp [binOp, Op.intCmp]
theorem PV.eql {x y : Operand} {k : IntKind} {m n : Int} {xt yt : TypeId} (hx : ev e x = some (.int k m)) (hy : ev e y = some (.int k n)) : PV P ⟨d, .binOp .eql xt x y yt, ty, pos, af, g⟩ e (.bool (decide (m = n))) :=
  .bin hx hy (eqGuard_ints _ _ _ _ _ _) fun w => by simp [binOp, Op.intCmp]; rw [Bool.eq_iff_iff]; simp
theorem PV.neq {x y : Operand} {k : IntKind} {m n : Int} {xt yt : TypeId} (hx : ev e x = some (.int k m)) (hy : ev e y = some (.int k n)) : PV P ⟨d, .binOp .neq xt x y yt, ty, pos, af, g⟩ e (.bool (!decide (m = n))) :=
  .bin hx hy (eqGuard_ints _ _ _ _ _ _) fun w => by simp [binOp, Op.intCmp, bne]; rw [Bool.eq_iff_iff]; simp

/-! ### Memory -/
theorem run_loadAt {a : Addr} (w : World) : (Instr.loadAt ty (.pointer (some a))).run P w = (loadVar ty a).run P w := by simp [Instr.loadAt, Instr.sureAddr]
theorem OV.loadW {x : Operand} {a : Addr} {lt : TypeId} {v : Value} (hx : ev e x = some (.pointer (some a))) (h : ∀ w, St w0 hs w → (loadVar lt a).run P w = .ok v w) : OV P ⟨d, .load lt x, ty, pos, af, g⟩ e w0 hs v := .mk fun ρ w hf hst =>
  .of_value (w' := w) (by simp [execOp, hf x _ hx, run_loadAt, h w hst]) ⟨rfl, .refl _⟩
theorem OV.load1 {x : Operand} {b o : Nat} {lt T : TypeId} {vs : List Value} {v : Value} [Sc P lt] (hx : ev e x = some (.pointer (some ⟨b, o, none⟩))) (hm : (b, Blk.cells T vs) ∈ hs) (hv : Rd o 1 vs [v]) :
    OV P ⟨d, .load lt x, ty, pos, af, g⟩ e w0 hs v := .loadW hx fun w hst => run_loadVar_sc (hst.cell hm (by simpa using hv.at 0 v rfl))
theorem OV.loadk {x : Operand} {b o k : Nat} {lt T : TypeId} {vs us : List Value} [Ag P lt k] (hx : ev e x = some (.pointer (some ⟨b, o, none⟩))) (hm : (b, Blk.cells T vs) ∈ hs) (hv : Rd o k vs us) :
    OV P ⟨d, .load lt x, ty, pos, af, g⟩ e w0 hs (.agg us.toArray) := .loadW hx fun w hst => run_loadVar_ag hv.length fun j v hj => hst.cell hm (hv.at j v hj)
theorem OV.loadi {x : Operand} {b o : Nat} {lt T : TypeId} {vs : List Value} {v : Value} [Sc P lt] (hx : ev e x = some (.pointer (some ⟨b, o, none⟩))) (hm : (b, Blk.cells T vs) ∈ hs) (hv : vs[o]? = some v) :
    OV P ⟨d, .load lt x, ty, pos, af, g⟩ e w0 hs v := .loadW hx fun w hst => run_loadVar_sc (hst.cell hm hv)
theorem OV.load0 {x : Operand} {b o : Nat} {lt : TypeId} {v : Value} [Sc P lt] (hx : ev e x = some (.pointer (some ⟨b, o, none⟩))) (hv : w0.cell? ⟨b, o, none⟩ = some v) :
    OV P ⟨d, .load lt x, ty, pos, af, g⟩ e w0 hs v := .loadW hx fun w hst => run_loadVar_sc (hst.old hv)
theorem OV.load0k {x : Operand} {b o k : Nat} {lt : TypeId} {us : List Value} [Ag P lt k] (hx : ev e x = some (.pointer (some ⟨b, o, none⟩))) (hl : us.length = k) (hv : ∀ j v, us[j]? = some v → w0.cell? ⟨b, o + j, none⟩ = some v) :
    OV P ⟨d, .load lt x, ty, pos, af, g⟩ e w0 hs (.agg us.toArray) := .loadW hx fun w hst => run_loadVar_ag hl fun j v hj => hst.old (hv j v hj)
/-- A new block. -/
def NewAt (k : Blk) : Value → SH → Prop := fun v H => ∃ b : Nat, v = .pointer (some ⟨b, 0, none⟩) ∧ H = [(b, k)]
theorem ON.newRow {o : Oper} {T : TypeId} {cs : List Value} (h : ∀ ρ, Fits e ρ → ∀ w, (execOp ρ o).run P w = .ok (.value (.pointer (some ⟨w.heap.size, 0, none⟩))) (w.alloc (.cells cs.toArray T))) : ON P o e w0 hs (NewAt (.cells T cs)) := .mk fun ρ w hf hst =>
  .of_value (h ρ hf w) ⟨_, ⟨w.heap.size, rfl, rfl⟩, New.alloc w (.cells T cs)⟩
class Zr (P : Program) (t : TypeId) (zs : outParam (List Value)) : Prop where
  ok : (P.info? t).bind (·.zero.map (·.cells.toList)) = some zs
theorem run_newVar {T : TypeId} {v : Value} (w : World) : (newVar T v).run P w = .ok ⟨w.heap.size, 0, none⟩ (w.alloc (.cells v.cells T)) := by
  rfl
theorem ON.alloc {T : TypeId} {zs : List Value} [z : Zr P T zs] : ON P ⟨d, .alloc T, ty, pos, af, g⟩ e w0 hs (NewAt (.cells T zs)) := .newRow fun ρ hf w => by
  have h := z.ok
  cases hq : P.info? T with
  | none => simp [hq] at h
  | some i =>
    cases hz : i.zero with
    | none => simp [hq, hz] at h
    | some v =>
      simp only [hq, Option.bind_some, hz, Option.map_some, Option.some.injEq] at h
      simp [execOp, Instr.alloc, zeroValue, typeInfo, hq, hz, run_newVar, ← h]
theorem ON.box {T : TypeId} {x : Operand} {us : List Value} (hx : ev e x = some (.agg us.toArray)) : ON P ⟨d, .box T x, ty, pos, af, g⟩ e w0 hs (NewAt (.cells T us)) := .newRow fun ρ hf w => by
  simp [execOp, Instr.box, hf x _ hx, run_newVar, Value.cells]
def Value.isAgg : Value → Bool
  | .agg _ => true
  | _ => false
theorem cells_sc {v : Value} (h : Value.isAgg v = false) : v.cells = #[v] := by cases v <;> first | rfl | cases h
theorem ON.box1 {T : TypeId} {x : Operand} {v : Value} (hx : ev e x = some v) (h1 : Value.isAgg v = false) : ON P ⟨d, .box T x, ty, pos, af, g⟩ e w0 hs (NewAt (.cells T [v])) := .newRow fun ρ hf w => by
  simp [execOp, Instr.box, hf x _ hx, run_newVar, cells_sc h1]

theorem setRow_size (w : World) (b : Nat) (cs : Array Value) : (w.setRow b cs).heap.size = w.heap.size := by simp [World.setRow]
theorem setRow_ne (w : World) (b k : Nat) (cs : Array Value) (h : k ≠ b) : (w.setRow b cs).heap[k]? = w.heap[k]? := by
  simp only [World.setRow, Array.getElem?_modify]
  rw [if_neg (fun e => h e.symm)]
theorem St.setRow {w : World} (h : St w0 hs w) {b : Nat} {T : TypeId} {vs vs' : List Value} (u : Upd b (.cells T vs) (.cells T vs') hs hs') : St w0 hs' (w.setRow b vs'.toArray) :=
  h.upd u (setRow_heap w b _ _ _ _ (h.heap u.mem)) (fun k hk => setRow_ne w b k _ hk) (setRow_size _ _ _) rfl rfl rfl
theorem OS.storeW {x y : Operand} {b o : Nat} {st T : TypeId} {vs us vs' : List Value} {v : Value} (hx : ev e x = some (.pointer (some ⟨b, o, none⟩))) (hy : ev e y = some v) (hv : v.cells = us.toArray) (hz : (P.info? st).map (·.size) = some us.length)
    (h1 : ∀ u ∈ us, u.oneCell' = true) (u : Upd b (.cells T vs) (.cells T vs') hs hs') (hl : vs' = vs.take o ++ us ++ vs.drop (o + us.length)) (hle : o + us.length ≤ vs.length) :
    OS P ⟨d, .store st x y, ty, pos, af, g⟩ e w0 hs hs' := .mk fun ρ w hf hst => by
  have hr := run_storeCells_at P b o T us 0 vs.toArray w (hst.heap u.mem) (by simpa using hle) h1
  refine .of_skip (w' := w.setRow b vs'.toArray) ?_ ⟨rfl, hst.setRow u⟩
  simp only [Nat.add_zero] at hr
  simp [execOp, hf x _ hx, hf y _ hy, Instr.storeAt, Instr.sureAddr, storeVar, run_sizeOf hz, hv, hr, hl]
theorem OS.store1 {x y : Operand} {b o : Nat} {st T : TypeId} {vs vs' : List Value} {v : Value} [z : Sz P st 1] (hx : ev e x = some (.pointer (some ⟨b, o, none⟩))) (hy : ev e y = some v) (h1 : v.oneCell' = true)
    (u : Upd b (.cells T vs) (.cells T vs') hs hs') (hw : Wr o [v] vs vs') : OS P ⟨d, .store st x y, ty, pos, af, g⟩ e w0 hs hs' :=
  .storeW hx hy (cells_sc (by cases v <;> first | rfl | cases h1)) z.ok (by simpa using h1) u hw.eq.1 hw.eq.2
theorem OS.storek {x y : Operand} {b o k : Nat} {st T : TypeId} {vs vs' us : List Value} [z : Ag P st k] (hx : ev e x = some (.pointer (some ⟨b, o, none⟩))) (hy : ev e y = some (.agg us.toArray)) (hl : us.length = k) (h1 : us.all Value.oneCell' = true)
    (u : Upd b (.cells T vs) (.cells T vs') hs hs') (hw : Wr o us vs vs') : OS P ⟨d, .store st x y, ty, pos, af, g⟩ e w0 hs hs' :=
  .storeW hx hy rfl (by rw [hl]; exact z.sz) (fun v hv => List.all_eq_true.1 h1 v hv) u hw.eq.1 hw.eq.2

/-! ### Addresses and parts -/
class FO (P : Program) (s : TypeId) (f : Nat) (off : outParam Nat) : Prop where
  ok : ∀ b o w, (Instr.fieldAt s (.pointer (some ⟨b, o, none⟩)) f).run P w = .ok (.pointer (some ⟨b, o + off, none⟩)) w
theorem PV.fieldAddr {s : TypeId} {f off b o : Nat} {x : Operand} [i : FO P s f off] (hx : ev e x = some (.pointer (some ⟨b, o, none⟩))) : PV P ⟨d, .fieldAddr s x f, ty, pos, af, g⟩ e (.pointer (some ⟨b, o + off, none⟩)) := .mk fun ρ hf w => by
  simp [execOp, hf x _ hx, i.ok]
class FV (P : Program) (s : TypeId) (f : Nat) (off k : outParam Nat) (ag : outParam Bool) : Prop where
  ok : ∀ (us : List Value) w, (Instr.field s (.agg us.toArray) f).run P w = (if ag then .ok (.agg (us.toArray.extract off (off + k))) w else match us[off]? with | some v => .ok v w | none => .halt (.stuck "part: no such cell") w)
theorem Rd.extract {o k : Nat} {vs us : List Value} (h : Rd o k vs us) : vs.toArray.extract o (o + k) = us.toArray := by
  have h2 := h.length
  apply Array.ext'
  simp
  induction h with
  | nil => simp
  | take h ih =>
    rename_i k x r us
    have := ih (by simpa using h2)
    have e : 0 + (k + 1) - 0 = k + 1 := by omega
    have e2 : 0 + k - 0 = k := by omega
    simp only [e2, List.drop_zero] at this
    simp [this]
  | skip h ih =>
    rename_i o k x r us
    have := ih (by simpa using h2)
    have e : o + 1 + k - (o + 1) = o + k - o := by omega
    simp only [List.drop_succ_cons, e, this]
theorem PV.field1 {s : TypeId} {f off k : Nat} {x : Operand} {us : List Value} {v : Value} [i : FV P s f off k false] (hx : ev e x = some (.agg us.toArray)) (hv : Rd off 1 us [v]) : PV P ⟨d, .field s x f, ty, pos, af, g⟩ e v := .mk fun ρ hf w => by
  have := hv.at 0 v rfl
  simp only [Nat.add_zero] at this
  simp [execOp, hf x _ hx, i.ok, this]
theorem PV.fieldk {s : TypeId} {f off k : Nat} {x : Operand} {us vs : List Value} [i : FV P s f off k true] (hx : ev e x = some (.agg us.toArray)) (hv : Rd off k us vs) : PV P ⟨d, .field s x f, ty, pos, af, g⟩ e (.agg vs.toArray) := .mk fun ρ hf w => by
  simp only [execOp, hf x _ hx, i.ok, if_true, hv.extract, Sem.run_bind, Result.andThen_ok]
  rfl

/-! ### Calls -/
class Ent (P : Program) (f : FuncId) : Prop where
  ok : ∀ args w, (callFunc f args).run P w = .ok (.enter f args) w
theorem Ent.of {f : FuncId} {fn : Func} (hf : P.funcs[f]? = some fn) (hn : (fn.name == "runtime.NumGoroutine") = false) (hb : fn.body.isNone = false) : Ent P f :=
  ⟨fun args w => by
    have h1 : ¬ fn.name = "runtime.NumGoroutine" := by simpa using hn
    have h2 : ¬ fn.body = none := by intro h; rw [h] at hb; cases hb
    simp [callFunc, hf, h1, h2]⟩
theorem evs_map {xs : List Operand} {vs : List Value} {ρ : Operand → Value} (hf : Fits e ρ) (h : evs e xs = some vs) : xs.map ρ = vs := by
  induction xs generalizing vs with
  | nil => simpa [evs] using h
  | cons x r ih =>
    simp only [evs] at h
    split at h
    · rename_i v hv
      split at h
      · rename_i us hu
        obtain rfl : v :: us = vs := by simpa using h
        simp [hf x v hv, ih hu]
      · cases h
    · cases h
theorem run_call {f : FuncId} {x : Operand} {xs : List Operand} {ts : Array TypeId} {fi ca : Array Value} {vs : List Value} [i : Ent P f] {ρ : Operand → Value} (hf : Fits e ρ) (hx : ev e x = some (.func (.func f) fi ca)) (hv : evs e xs = some vs) (w : World) :
    (execOp ρ ⟨d, .call ⟨.value x, xs.toArray, ts⟩, ty, pos, af, g⟩).run P w = .ok (.enter f (fi ++ vs.toArray ++ ca)) w := by
  have := evs_map hf hv
  simp [execOp, resolve, Deferred.ofValue, invoke, hf x _ hx, this, i.ok]
theorem OV.call {f : FuncId} {xs : List Operand} {ts : Array TypeId} {vs : List Value} {v : Value} [i : Ent P f] (hv : evs e xs = some vs)
    (h : ∀ w, St w0 hs w → Calls P f vs.toArray w fun e w' => e = .returned v ∧ Below w.heap.size w w') : OV P ⟨d, .call ⟨.value (.func f), xs.toArray, ts⟩, ty, pos, af, g⟩ e w0 hs v := .mk fun ρ w hf hst => by
  unfold Does
  rw [run_call hf rfl hv]
  simpa using Calls.mono (h w hst) fun e' w' ⟨he, hb⟩ => ⟨v, he, rfl, .of_below hb⟩
/-- A call of a function value. -/
theorem OV.callx {f : FuncId} {x : Operand} {xs : List Operand} {ts : Array TypeId} {fi ca vs : List Value} {v : Value} (hx : ev e x = some (.func (.func f) fi.toArray ca.toArray)) (hv : evs e xs = some vs) (i : Ent P f)
    (h : ∀ w, St w0 hs w → Calls P f (fi ++ vs ++ ca).toArray w fun e w' => e = .returned v ∧ Below w.heap.size w w') : OV P ⟨d, .call ⟨.value x, xs.toArray, ts⟩, ty, pos, af, g⟩ e w0 hs v := .mk fun ρ w hf hst => by
  unfold Does
  rw [run_call hf hx hv]
  simpa using Calls.mono (h w hst) fun e' w' ⟨he, hb⟩ => ⟨v, he, rfl, .of_below hb⟩
/-- What a contract says of a call that hands memory back. -/
def Ret (w : World) (R : Value → SH → Prop) : Ending → World → Prop := fun e w' => ∃ v H, e = .returned v ∧ R v H ∧ New H w w'
theorem ON.call {f : FuncId} {xs : List Operand} {ts : Array TypeId} {vs : List Value} {R : Value → SH → Prop} [i : Ent P f] (hv : evs e xs = some vs)
    (h : ∀ w, St w0 hs w → Calls P f vs.toArray w (Ret w R)) : ON P ⟨d, .call ⟨.value (.func f), xs.toArray, ts⟩, ty, pos, af, g⟩ e w0 hs R := .mk fun ρ w hf hst => by
  unfold Does
  rw [run_call hf rfl hv]
  simpa using Calls.mono (h w hst) fun e' w' ⟨v, H, he, hR, hn⟩ => ⟨v, he, H, hR, hn⟩
theorem ON.callx {f : FuncId} {x : Operand} {xs : List Operand} {ts : Array TypeId} {fi ca vs : List Value} {R : Value → SH → Prop} (hx : ev e x = some (.func (.func f) fi.toArray ca.toArray)) (hv : evs e xs = some vs) (i : Ent P f)
    (h : ∀ w, St w0 hs w → Calls P f (fi ++ vs ++ ca).toArray w (Ret w R)) : ON P ⟨d, .call ⟨.value x, xs.toArray, ts⟩, ty, pos, af, g⟩ e w0 hs R := .mk fun ρ w hf hst => by
  unfold Does
  rw [run_call hf hx hv]
  simpa using Calls.mono (h w hst) fun e' w' ⟨v, H, he, hR, hn⟩ => ⟨v, he, H, hR, hn⟩

end D
end Go.Proofs.YtpodhahlbdlgeaaDoor
