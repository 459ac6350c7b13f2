/- The end of every law's row: it returns true, and nothing that stood has turned. -/
import Derived.Test.YtpgbmohocfcjpaaGreatDoorProg
import Derived.WalkKit
import Derived.ProofKit
import Derived.OpenShut
import Derived.OpenVars
import Derived.Test.YtpgbmohocfcjpaaGreatDoorCards
import Derived.Test.YtpgbmohocfcjpaaGreatDoorTie
import Derived.Test.YtpgbmohocfcjpaaGreatDoorPlain
import Derived.Deep.DeepHandedRow
import Derived.Lib.LaidTab
import Derived.Lib.SmallJoins
import Derived.Stop.Joined
import Derived.Stop.LaidErr
namespace Go.Proofs.YtpgbmohocfcjpaaGreatDoor
set_option linter.unusedVariables false
set_option linter.unusedSimpArgs false
open Go.ChangeShapes Go.WideShapes Go.ChangeAt Go.RowKit

theorem trodAll_low {H : Type} {enc : TypeId × Value → H} {P : Program} (hl : laidOutB P = true) {W W' : World} (hb : Below W.heap.size W W') :
    ∀ (ts : List TypeId) {vs : List Value} {ds : List (DataW H)} {ps : List MemPlace}, (ts.all fun t => P.readableRec t && decide (t < P.types.size)) = true → DataW.TrodAll enc P W 0 (fun _ => true) true ts vs ds ps →
      (∀ x ∈ ps, x.block < W.heap.size) → DataW.TrodAll enc P W' 0 (fun b => decide (b < W.heap.size)) true ts vs ds ps
  | [], vs, ds, ps, _, h, _ => by
    obtain ⟨rfl, rfl, rfl⟩ := trodAll_nil h
    exact trodAll_mk0
  | t :: ts, vs, ds, ps, ha, h, hlt => by
    simp only [List.all_cons, Bool.and_eq_true, decide_eq_true_eq] at ha
    obtain ⟨v0, vs0, d0, ds0, p0, q0, rfl, rfl, rfl, h0, r0⟩ := trodAll_cons h
    exact trodAll_cons_mk (Below.trod hl ha.1.1 ha.1.2 h0 hb (fun x hx => hlt x (by simp [hx]))) (trodAll_low hl hb ts (by simpa using ha.2) r0 (fun x hx => hlt x (by simp [hx])))

theorem law_close {H : Type} {enc : TypeId × Value → H} {f : Func} {s : ChangeSpec} {W W' : World} {args : Array Value} {ds gs : List (DataW H)} {before : List MemPlace} (hb : Below W.heap.size W W')
    (hW : DataW.Whole enc Tryz.prog f.params.toList s.vars false W args.toList ds gs before) (hl : laidOutB Tryz.prog = true)
    (hr : f.resultTypes = #[4]) (hp : (f.params.toList.all fun t => Tryz.prog.readableRec t && decide (t < Tryz.prog.types.size)) = true) (hv : varsRowed Tryz.prog s.vars = true)
    (hf1 : (s.fn H (ds ++ gs)).results = [.lit (.bool true)]) (hf2 : (s.fn H (ds ++ gs)).args = ds) (hf3 : (s.fn H (ds ++ gs)).vars = gs) :
    s.post enc Tryz.prog f false true false false W args (.bool true) W' := by
  have hW' := hW
  have hlt := hW.lt
  obtain ⟨p, q, hA, hV, rfl, hfz, hnd⟩ := hW
  refine ⟨ds, gs, p ++ q, [], p, q, hW', ?_, ?_, ?_, hb.frame _, fun h => by cases h⟩
  · rw [hf1, hr]
    exact trodAll_mk1 (shut_bool Tryz.underlying4 true)
  · rw [hf2]
    exact trodAll_low hl hb _ hp hA (fun x hx => hlt x (by simp [hx]))
  · rw [hf3]
    exact Below.trodVars hl hb hv hV

end Go.Proofs.YtpgbmohocfcjpaaGreatDoor

namespace Go.Proofs.YtpgbmohocfcjpaaGreatDoor
set_option linter.unusedVariables false
set_option linter.unusedSimpArgs false
open Go.ChangeShapes Go.WideShapes Go.ChangeAt Go.RowKit Go.Joins


theorem Tryz.own : ownKnob Tryz.prog.godebug = none := by kernel_rfl

theorem Tryz.laidOut : laidOutB Tryz.prog = true := by kernel_rfl

theorem Tryz.gM : Tryz.prog.globalNamed "loop.example/datenotation/impl.monthDays" = some 1 := by kernel_rfl

theorem Tryz.gMType : (Tryz.prog.globals[1]?).map (·.type) = some 209 := by kernel_rfl

theorem Tryz.cellsM : Tryz.prog.cellsOf 209 = 12 := by kernel_rfl

theorem Tryz.cellsI : Tryz.prog.cellsOf 3 = 1 := by kernel_rfl

theorem Tryz.cellsT : Tryz.prog.cellsOf 9 = 1 := by kernel_rfl

theorem Tryz.star : "*" ++ "errors.errorString" = "*errors.errorString" := by decide

end Go.Proofs.YtpgbmohocfcjpaaGreatDoor
