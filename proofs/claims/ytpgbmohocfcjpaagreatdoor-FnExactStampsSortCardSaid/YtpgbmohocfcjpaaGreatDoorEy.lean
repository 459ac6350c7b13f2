/- The engine: calls of functions without a body; a slice's end. -/
import Derived.Test.YtpgbmohocfcjpaaGreatDoorEI
import Derived.Test.YtpgbmohocfcjpaaGreatDoorE3m
import Derived.Laws.Externs
namespace Go.Proofs.YtpgbmohocfcjpaaGreatDoor
set_option linter.unusedVariables false
set_option linter.unusedSimpArgs false
set_option maxRecDepth 100000
namespace D
open Go.RowKit

variable {P : Program} {e : Env} {w0 : World} {hs : SH} {d : Option Tmp} {ty : TypeId} {pos : String} {af : Array Edge} {g : Option (Nat × Bool)}
variable {n : Nat} {ds : List Deferred} {ops : List Oper} {Q : Exit → Act → World → Prop} {l : List Oper}

theorem OV.ext {f : FuncId} {xs : List Operand} {ts : Array TypeId} {vs : List Value} {v : Value} (hv : evs e xs = some vs) (h : ∀ w, (callFunc f vs.toArray).run P w = .ok (.value v) w) : OV P ⟨d, .call ⟨.value (.func f), xs.toArray, ts⟩, ty, pos, af, g⟩ e w0 hs v := .mk fun ρ w hf hst => by
  have := evs_map hf hv
  refine .of_value (w' := w) ?_ ⟨rfl, .refl _⟩
  have hfn : ρ (.func f) = .func (.func f) #[] #[] := hf _ _ rfl
  simp [execOp, resolve, Deferred.ofValue, invoke, hfn, this, h]
theorem L.ext {f : FuncId} {xs : List Operand} {ts : Array TypeId} {vs : List Value} {v : Value} (hw : wantE ops e ⟨d, .call ⟨.value (.func f), xs.toArray, ts⟩, ty, pos, af, g⟩ = some true := by exact rfl) (hd : dstOk n d = true := by exact rfl) (hv : evs e xs = some vs := by exact rfl)
    (h : ∀ w, (callFunc f vs.toArray).run P w = .ok (.value v) w) (k : L P n ds w0 ops Q l (consE d v e) hs) : L P n ds w0 ops Q (⟨d, .call ⟨.value (.func f), xs.toArray, ts⟩, ty, pos, af, g⟩ :: l) e hs := L.v hw hd (.ext hv h) k

theorem C.permy {c : Code} {hs' : SH} (hp : hs.Perm hs') (h : C P n ds w0 Q c e hs') : C P n ds w0 Q c e hs := .mk fun a w ha hst => h.ok a w ha (hst.perm hp)

theorem wr_sety : ∀ (vs : List Value) (o : Nat) (v : Value), o < vs.length → Wr o [v] vs (vs.set o v)
  | [], o, v, h => by simp at h
  | x :: r, 0, v, h => .put .nil
  | x :: r, o + 1, v, h => .skip (wr_sety r o v (by simpa using h))

theorem PV.sll {t el es b o n c : Nat} {x y : Operand} {k : IntKind} {q : Int} [i : SlT P t el es] (hx : ev e x = some (.slice (some ⟨b, o, none⟩) n c)) (hy : ev e y = some (.int k q)) (h0 : 0 ≤ q) (h1 : q ≤ n) (h2 : n ≤ c) :
    PV P ⟨d, .slice t x (some y) none none, ty, pos, af, g⟩ e (.slice (some ⟨b, if c = q.toNat then o else o + q.toNat * es, none⟩) (n - q.toNat) (c - q.toNat)) := .mk fun ρ hf w => by
  have h3 : q ≤ (c : Int) := by omega
  by_cases hc : c = q.toNat
  · simp [execOp, hf x _ hx, hf y _ hy, Instr.sliceAt, Instr.slice, run_underlying i.ok, run_sizeOf i.sz, Instr.sliceBounds, run_sliceBound, h0, h1, h2, h3, add_plain, hc]
  · simp [execOp, hf x _ hx, hf y _ hy, Instr.sliceAt, Instr.slice, run_underlying i.ok, run_sizeOf i.sz, Instr.sliceBounds, run_sliceBound, h0, h1, h2, h3, add_plain, hc]

end D
end Go.Proofs.YtpgbmohocfcjpaaGreatDoor
