/-
  No cell of these rows narrows 'for every input' (looked for: loops, veiled, ifaces, maps, wideKeys, modest, calm, conditions, laid).
  DERIVED. THE GIVEN ROWS OF THIS SEAT. 5 by the template 'for every input the law returns true; each argument reads behind the call as it read before'; 0 by the template 'total and deterministic' (their statements: YtmohggeeedncoaaTotals.lean).
  GIVEN WITH THE SEED: the statements are not yours to turn. If you find one false, say at which input.
  Laid BY PROGRAM, IN A SANDBOX (cutbox-rows.mjs): the forced cells as the released guide's own fill.sh prints them over the translation 12856a4b66e4919c… (all of the seat's roots in one cut). By AI agents, Wed Nov 11 2026. No macro, syntax, notation, axiom, sorry.
-/
import Derived.Test.YtmohggeeedncoaaChecked
import GoSem.Claim
import GoSem.ClaimJoined
import GoSem.ClaimMapViews
import Derived.JoinedTies
import Derived.KernelRfl
namespace Go.Proofs.Ytmohggeeedncoaa
/- THE CELL 'sum', in the pinned program and in every row, IS THE sha256 OF THE DUMP (.gsa) THAT YtmohggeeedncoaaProg.lean LOADS. Nothing in Lean hashes anything: it is a label: what it is worth is what the hold of that sum in a sandbox is worth. -/
noncomputable def Try.pinned : Pinned := { name := "ytmohggeeedncoaa", sum := "12856a4b66e4919cb4979cf06cd2ef840dd2a615628ca6d0a0864c6e5b04e5e1", checked := Try.checked }
namespace Rows
def none {H : Type} : Left H := { results := [], args := [] }

/-- 'laws.FnExactRangesMinus': WHATEVER THE INPUT: true; the input reads as it did. -/
def fnExactRangesMinusSpec : ChangeSpec := { name := "fnExactRangesMinus", fn := fun _ => fun
  | [d1, d2] => { results := [.lit (.bool true)], args := [d1, d2] }
  | _ => none }
def fnExactRangesMinusRow : OpenClaim := { program := "ytmohggeeedncoaa", sum := "12856a4b66e4919cb4979cf06cd2ef840dd2a615628ca6d0a0864c6e5b04e5e1", func := "loop.example/datenotation/laws.FnExactRangesMinus", spec := "fnExactRangesMinus", apart := false }
def FnExactRangesMinusSaid : Prop := fnExactRangesMinusRow.holds Try.pinned (OpenSpec.ofChange fnExactRangesMinusSpec)

/-- ITS FALSE NEIGHBOUR: 'it returns false'. Refute it at one input. -/
def fnExactRangesMinusWrong : ChangeSpec := { name := "fnExactRangesMinus", fn := fun _ => fun
  | [d1, d2] => { results := [.lit (.bool false)], args := [d1, d2] }
  | _ => none }
def FnExactRangesMinusWrongFalsely : Prop := fnExactRangesMinusRow.holds Try.pinned (OpenSpec.ofChange fnExactRangesMinusWrong)

/-- 'laws.FnMinusAscend': WHATEVER THE INPUT: true; the input reads as it did. -/
def fnMinusAscendSpec : ChangeSpec := { name := "fnMinusAscend", fn := fun _ => fun
  | [d] => { results := [.lit (.bool true)], args := [d] }
  | _ => none }
def fnMinusAscendRow : OpenClaim := { program := "ytmohggeeedncoaa", sum := "12856a4b66e4919cb4979cf06cd2ef840dd2a615628ca6d0a0864c6e5b04e5e1", func := "loop.example/datenotation/laws.FnMinusAscend", spec := "fnMinusAscend", apart := false }
def FnMinusAscendSaid : Prop := fnMinusAscendRow.holds Try.pinned (OpenSpec.ofChange fnMinusAscendSpec)

/-- ITS FALSE NEIGHBOUR: 'it returns false'. Refute it at one input. -/
def fnMinusAscendWrong : ChangeSpec := { name := "fnMinusAscend", fn := fun _ => fun
  | [d] => { results := [.lit (.bool false)], args := [d] }
  | _ => none }
def FnMinusAscendWrongFalsely : Prop := fnMinusAscendRow.holds Try.pinned (OpenSpec.ofChange fnMinusAscendWrong)

/-- 'laws.FnMinusSelf': WHATEVER THE INPUT: true; the input reads as it did. -/
def fnMinusSelfSpec : ChangeSpec := { name := "fnMinusSelf", fn := fun _ => fun
  | [d] => { results := [.lit (.bool true)], args := [d] }
  | _ => none }
def fnMinusSelfRow : OpenClaim := { program := "ytmohggeeedncoaa", sum := "12856a4b66e4919cb4979cf06cd2ef840dd2a615628ca6d0a0864c6e5b04e5e1", func := "loop.example/datenotation/laws.FnMinusSelf", spec := "fnMinusSelf", apart := false }
def FnMinusSelfSaid : Prop := fnMinusSelfRow.holds Try.pinned (OpenSpec.ofChange fnMinusSelfSpec)

/-- ITS FALSE NEIGHBOUR: 'it returns false'. Refute it at one input. -/
def fnMinusSelfWrong : ChangeSpec := { name := "fnMinusSelf", fn := fun _ => fun
  | [d] => { results := [.lit (.bool false)], args := [d] }
  | _ => none }
def FnMinusSelfWrongFalsely : Prop := fnMinusSelfRow.holds Try.pinned (OpenSpec.ofChange fnMinusSelfWrong)

/-- 'laws.FnMinus': WHATEVER THE INPUT: true; the input reads as it did. -/
def fnMinusSpec : ChangeSpec := { name := "fnMinus", fn := fun _ => fun
  | [d] => { results := [.lit (.bool true)], args := [d] }
  | _ => none }
def fnMinusRow : OpenClaim := { program := "ytmohggeeedncoaa", sum := "12856a4b66e4919cb4979cf06cd2ef840dd2a615628ca6d0a0864c6e5b04e5e1", func := "loop.example/datenotation/laws.FnMinus", spec := "fnMinus", unfollowed := true, recurses := true, apart := false }
def FnMinusSaid : Prop := fnMinusRow.holds Try.pinned (OpenSpec.ofChange fnMinusSpec)

/-- ITS FALSE NEIGHBOUR: 'it returns false'. Refute it at one input. -/
def fnMinusWrong : ChangeSpec := { name := "fnMinus", fn := fun _ => fun
  | [d] => { results := [.lit (.bool false)], args := [d] }
  | _ => none }
def FnMinusWrongFalsely : Prop := fnMinusRow.holds Try.pinned (OpenSpec.ofChange fnMinusWrong)

/-- 'laws.FnMinusTotal': WHATEVER THE INPUT: true; the input reads as it did. -/
def fnMinusTotalSpec : ChangeSpec := { name := "fnMinusTotal", fn := fun _ => fun
  | [d] => { results := [.lit (.bool true)], args := [d] }
  | _ => none }
def fnMinusTotalRow : OpenClaim := { program := "ytmohggeeedncoaa", sum := "12856a4b66e4919cb4979cf06cd2ef840dd2a615628ca6d0a0864c6e5b04e5e1", func := "loop.example/datenotation/laws.FnMinusTotal", spec := "fnMinusTotal", apart := false }
def FnMinusTotalSaid : Prop := fnMinusTotalRow.holds Try.pinned (OpenSpec.ofChange fnMinusTotalSpec)

/-- ITS FALSE NEIGHBOUR: 'it returns false'. Refute it at one input. -/
def fnMinusTotalWrong : ChangeSpec := { name := "fnMinusTotal", fn := fun _ => fun
  | [d] => { results := [.lit (.bool false)], args := [d] }
  | _ => none }
def FnMinusTotalWrongFalsely : Prop := fnMinusTotalRow.holds Try.pinned (OpenSpec.ofChange fnMinusTotalWrong)

/- THE SECOND FORM. 'bulk': how many values and letters a reading holds, each counted each time it is reached (what is shared counts as often as it is met; a slice's spare places count too). A statement '..UptoSaid' is the law's where the arguments, and the package variables that the reading takes, are together of bulk at most 1048576: NARROWER than '..Said'. Prove '..Said' where nothing that the law and all that it calls make is longer than what came in: it says more and counts as full. Else prove '..UptoSaid'. A law counts once. -/
mutual
def uptoBulk {H : Type} : DataW H → Nat
  | .lit (.string bytes) => bytes.length + 1
  | .lit _ => 1
  | .nil => 1
  | .ptr d => uptoBulk d + 1
  | .slice elems spare => uptoBulkAll elems + uptoBulkAll spare + 1
  | .agg parts => uptoBulkAll parts + 1
  | .iface _ d => uptoBulk d + 1
  | .map entries => uptoBulkEntries entries + 1
  | .held _ => 1
def uptoBulkAll {H : Type} : List (DataW H) → Nat
  | [] => 0
  | d :: r => uptoBulk d + uptoBulkAll r
def uptoBulkEntries {H : Type} : List (Lit × DataW H) → Nat
  | [] => 0
  | x :: r => uptoBulkEntry x + uptoBulkEntries r
def uptoBulkEntry {H : Type} : Lit × DataW H → Nat
  | (.string bytes, d) => bytes.length + uptoBulk d + 1
  | (_, d) => uptoBulk d + 1
 end
def uptoSmall : (H : Type) → List (DataW H) → Bool := fun _ ds => decide (uptoBulkAll ds ≤ 1048576)
def OpenSpec.upto (s : _root_.Go.ChangeSpec) : _root_.Go.OpenSpec := { _root_.Go.OpenSpec.ofChange s with cond := some uptoSmall }

/-- 'laws.FnExactRangesMinus', WHERE WHAT IT READS IS OF BULK AT MOST 1048576: true; the input reads as it did. -/
def fnExactRangesMinusUptoRow : OpenClaim := { program := "ytmohggeeedncoaa", sum := "12856a4b66e4919cb4979cf06cd2ef840dd2a615628ca6d0a0864c6e5b04e5e1", func := "loop.example/datenotation/laws.FnExactRangesMinus", spec := "fnExactRangesMinus", apart := false, narrowed := true }
def FnExactRangesMinusUptoSaid : Prop := fnExactRangesMinusUptoRow.holds Try.pinned (OpenSpec.upto fnExactRangesMinusSpec)

/-- 'laws.FnMinusAscend', WHERE WHAT IT READS IS OF BULK AT MOST 1048576: true; the input reads as it did. -/
def fnMinusAscendUptoRow : OpenClaim := { program := "ytmohggeeedncoaa", sum := "12856a4b66e4919cb4979cf06cd2ef840dd2a615628ca6d0a0864c6e5b04e5e1", func := "loop.example/datenotation/laws.FnMinusAscend", spec := "fnMinusAscend", apart := false, narrowed := true }
def FnMinusAscendUptoSaid : Prop := fnMinusAscendUptoRow.holds Try.pinned (OpenSpec.upto fnMinusAscendSpec)

/-- 'laws.FnMinusSelf', WHERE WHAT IT READS IS OF BULK AT MOST 1048576: true; the input reads as it did. -/
def fnMinusSelfUptoRow : OpenClaim := { program := "ytmohggeeedncoaa", sum := "12856a4b66e4919cb4979cf06cd2ef840dd2a615628ca6d0a0864c6e5b04e5e1", func := "loop.example/datenotation/laws.FnMinusSelf", spec := "fnMinusSelf", apart := false, narrowed := true }
def FnMinusSelfUptoSaid : Prop := fnMinusSelfUptoRow.holds Try.pinned (OpenSpec.upto fnMinusSelfSpec)

/-- 'laws.FnMinus', WHERE WHAT IT READS IS OF BULK AT MOST 1048576: true; the input reads as it did. -/
def fnMinusUptoRow : OpenClaim := { program := "ytmohggeeedncoaa", sum := "12856a4b66e4919cb4979cf06cd2ef840dd2a615628ca6d0a0864c6e5b04e5e1", func := "loop.example/datenotation/laws.FnMinus", spec := "fnMinus", unfollowed := true, recurses := true, apart := false, narrowed := true }
def FnMinusUptoSaid : Prop := fnMinusUptoRow.holds Try.pinned (OpenSpec.upto fnMinusSpec)

/-- 'laws.FnMinusTotal', WHERE WHAT IT READS IS OF BULK AT MOST 1048576: true; the input reads as it did. -/
def fnMinusTotalUptoRow : OpenClaim := { program := "ytmohggeeedncoaa", sum := "12856a4b66e4919cb4979cf06cd2ef840dd2a615628ca6d0a0864c6e5b04e5e1", func := "loop.example/datenotation/laws.FnMinusTotal", spec := "fnMinusTotal", apart := false, narrowed := true }
def FnMinusTotalUptoSaid : Prop := fnMinusTotalUptoRow.holds Try.pinned (OpenSpec.upto fnMinusTotalSpec)

end Rows
end Go.Proofs.Ytmohggeeedncoaa
