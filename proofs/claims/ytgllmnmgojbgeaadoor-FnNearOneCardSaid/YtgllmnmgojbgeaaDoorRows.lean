/-
  NARROWER THAN 'FOR EVERY INPUT', by the rows' own cells (each row's printed sentence says how): FnBetweenMost: ifaces, laid · FnBetweenWhen: ifaces, laid · FnDown: laid · FnBetweenSmall: ifaces, laid · FnUpDown: laid · FnUp: laid · FnAge: ifaces, laid · FnNearOne: laid · FnNear: laid · FnAgeNext: ifaces, laid · FnBetween: ifaces, laid.
  DERIVED. THE GIVEN ROWS OF THIS SEAT. 11 by the template 'for every input the law returns true; each argument reads behind the call as it read before'; 0 by the template 'total and deterministic' (their statements: YtgllmnmgojbgeaaDoorTotals.lean).
  GIVEN WITH THE SEED: the statements are not yours to turn. If you find one false, say at which input.
  Laid BY PROGRAM, IN A SANDBOX (cutbox-rows.mjs): the forced cells as the released guide's own fill.sh prints them over the translation 845df3d351b9260b… (all of the seat's roots in one cut). By AI agents, Wed Nov 11 2026. No macro, syntax, notation, axiom, sorry.
-/
import Derived.Test.YtgllmnmgojbgeaaDoorChecked
import GoSem.Claim
import GoSem.ClaimJoined
import GoSem.ClaimMapViews
import Derived.JoinedTies
import Derived.KernelRfl
namespace Go.Proofs.YtgllmnmgojbgeaaDoor
/- THE CELL 'sum', in the pinned program and in every row, IS THE sha256 OF THE DUMP (.gsa) THAT YtgllmnmgojbgeaaDoorProg.lean LOADS. Nothing in Lean hashes anything: it is a label: what it is worth is what the hold of that sum in a sandbox is worth. -/
noncomputable def Tryd.pinned : Pinned := { name := "ytgllmnmgojbgeaadoor", sum := "845df3d351b9260b8dec9ecab22d7f09bc04ee5f63c0831da9059e417a68bb2f", checked := Tryd.checked }
namespace Rows
def none {H : Type} : Left H := { results := [], args := [] }

/- WHAT THE LISTED PACKAGE-LEVEL VARIABLES READ AS WHEN THE CALL BEGINS. Each datum BY PROGRAM (the guide's laid-datum.mjs) off the statement by which the dump's own 'gosem.cut.vars' lays the variable. In a bare row this is a premise. The card (YtgllmnmgojbgeaaDoorCards.lean) ties it to the program's text. -/
def laid_loop_example_datenotation_impl_monthDays {H : Type} : DataW H := .agg [.lit (.int .i64 31), .lit (.int .i64 28), .lit (.int .i64 31), .lit (.int .i64 30), .lit (.int .i64 31), .lit (.int .i64 30), .lit (.int .i64 31), .lit (.int .i64 31), .lit (.int .i64 30), .lit (.int .i64 31), .lit (.int .i64 30), .lit (.int .i64 31)]
def laid_loop_example_datenotation_impl_errBackwards {H : Type} : DataW H := .iface "*errors.errorString" (.ptr (.agg [.lit (.string [98, 97, 99, 107, 119, 97, 114, 100, 115])]))

/-- 'laws.FnBetweenMost': WHATEVER THE INPUT: true; the input reads as it did. -/
def fnBetweenMostSpec : ChangeSpec := { name := "fnBetweenMost", vars := ["loop.example/datenotation/impl.errBackwards", "loop.example/datenotation/impl.monthDays"], fn := fun _ => fun
  | [d, g1, g2] => { results := [.lit (.bool true)], args := [d], vars := [g1, g2] }
  | _ => none }
def fnBetweenMostRow : OpenClaim := { program := "ytgllmnmgojbgeaadoor", sum := "845df3d351b9260b8dec9ecab22d7f09bc04ee5f63c0831da9059e417a68bb2f", func := "loop.example/datenotation/laws.FnBetweenMost", spec := "fnBetweenMost", inPlace := ["internal/reflectlite.TypeOf"], unfollowed := true, recurses := true, named := ["loop.example/datenotation/impl.errBackwards", "loop.example/datenotation/impl.monthDays"], ifaces := true, apart := false, laid := [("loop.example/datenotation/impl.monthDays", laid_loop_example_datenotation_impl_monthDays), ("loop.example/datenotation/impl.errBackwards", laid_loop_example_datenotation_impl_errBackwards)] }
def FnBetweenMostSaid : Prop := fnBetweenMostRow.holds Tryd.pinned (OpenSpec.ofChange fnBetweenMostSpec)

/-- ITS FALSE NEIGHBOUR: 'it returns false'. Refute it at one input. -/
def fnBetweenMostWrong : ChangeSpec := { name := "fnBetweenMost", vars := ["loop.example/datenotation/impl.errBackwards", "loop.example/datenotation/impl.monthDays"], fn := fun _ => fun
  | [d, g1, g2] => { results := [.lit (.bool false)], args := [d], vars := [g1, g2] }
  | _ => none }
def FnBetweenMostWrongFalsely : Prop := fnBetweenMostRow.holds Tryd.pinned (OpenSpec.ofChange fnBetweenMostWrong)

/-- 'laws.FnBetweenWhen': WHATEVER THE INPUT: true; the input reads as it did. -/
def fnBetweenWhenSpec : ChangeSpec := { name := "fnBetweenWhen", vars := ["loop.example/datenotation/impl.errBackwards", "loop.example/datenotation/impl.monthDays"], fn := fun _ => fun
  | [d, g1, g2] => { results := [.lit (.bool true)], args := [d], vars := [g1, g2] }
  | _ => none }
def fnBetweenWhenRow : OpenClaim := { program := "ytgllmnmgojbgeaadoor", sum := "845df3d351b9260b8dec9ecab22d7f09bc04ee5f63c0831da9059e417a68bb2f", func := "loop.example/datenotation/laws.FnBetweenWhen", spec := "fnBetweenWhen", inPlace := ["internal/reflectlite.TypeOf"], unfollowed := true, recurses := true, named := ["loop.example/datenotation/impl.errBackwards", "loop.example/datenotation/impl.monthDays"], ifaces := true, apart := false, laid := [("loop.example/datenotation/impl.monthDays", laid_loop_example_datenotation_impl_monthDays), ("loop.example/datenotation/impl.errBackwards", laid_loop_example_datenotation_impl_errBackwards)] }
def FnBetweenWhenSaid : Prop := fnBetweenWhenRow.holds Tryd.pinned (OpenSpec.ofChange fnBetweenWhenSpec)

/-- ITS FALSE NEIGHBOUR: 'it returns false'. Refute it at one input. -/
def fnBetweenWhenWrong : ChangeSpec := { name := "fnBetweenWhen", vars := ["loop.example/datenotation/impl.errBackwards", "loop.example/datenotation/impl.monthDays"], fn := fun _ => fun
  | [d, g1, g2] => { results := [.lit (.bool false)], args := [d], vars := [g1, g2] }
  | _ => none }
def FnBetweenWhenWrongFalsely : Prop := fnBetweenWhenRow.holds Tryd.pinned (OpenSpec.ofChange fnBetweenWhenWrong)

/-- 'laws.FnDown': WHATEVER THE INPUT: true; the input reads as it did. -/
def fnDownSpec : ChangeSpec := { name := "fnDown", vars := ["loop.example/datenotation/impl.monthDays"], fn := fun _ => fun
  | [d, g1] => { results := [.lit (.bool true)], args := [d], vars := [g1] }
  | _ => none }
def fnDownRow : OpenClaim := { program := "ytgllmnmgojbgeaadoor", sum := "845df3d351b9260b8dec9ecab22d7f09bc04ee5f63c0831da9059e417a68bb2f", func := "loop.example/datenotation/laws.FnDown", spec := "fnDown", unfollowed := true, recurses := true, named := ["loop.example/datenotation/impl.monthDays"], apart := false, laid := [("loop.example/datenotation/impl.monthDays", laid_loop_example_datenotation_impl_monthDays)] }
def FnDownSaid : Prop := fnDownRow.holds Tryd.pinned (OpenSpec.ofChange fnDownSpec)

/-- ITS FALSE NEIGHBOUR: 'it returns false'. Refute it at one input. -/
def fnDownWrong : ChangeSpec := { name := "fnDown", vars := ["loop.example/datenotation/impl.monthDays"], fn := fun _ => fun
  | [d, g1] => { results := [.lit (.bool false)], args := [d], vars := [g1] }
  | _ => none }
def FnDownWrongFalsely : Prop := fnDownRow.holds Tryd.pinned (OpenSpec.ofChange fnDownWrong)

/-- 'laws.FnBetweenSmall': WHATEVER THE INPUT: true; the input reads as it did. -/
def fnBetweenSmallSpec : ChangeSpec := { name := "fnBetweenSmall", vars := ["loop.example/datenotation/impl.errBackwards", "loop.example/datenotation/impl.monthDays"], fn := fun _ => fun
  | [d, g1, g2] => { results := [.lit (.bool true)], args := [d], vars := [g1, g2] }
  | _ => none }
def fnBetweenSmallRow : OpenClaim := { program := "ytgllmnmgojbgeaadoor", sum := "845df3d351b9260b8dec9ecab22d7f09bc04ee5f63c0831da9059e417a68bb2f", func := "loop.example/datenotation/laws.FnBetweenSmall", spec := "fnBetweenSmall", inPlace := ["internal/reflectlite.TypeOf"], unfollowed := true, recurses := true, named := ["loop.example/datenotation/impl.errBackwards", "loop.example/datenotation/impl.monthDays"], ifaces := true, apart := false, laid := [("loop.example/datenotation/impl.monthDays", laid_loop_example_datenotation_impl_monthDays), ("loop.example/datenotation/impl.errBackwards", laid_loop_example_datenotation_impl_errBackwards)] }
def FnBetweenSmallSaid : Prop := fnBetweenSmallRow.holds Tryd.pinned (OpenSpec.ofChange fnBetweenSmallSpec)

/-- ITS FALSE NEIGHBOUR: 'it returns false'. Refute it at one input. -/
def fnBetweenSmallWrong : ChangeSpec := { name := "fnBetweenSmall", vars := ["loop.example/datenotation/impl.errBackwards", "loop.example/datenotation/impl.monthDays"], fn := fun _ => fun
  | [d, g1, g2] => { results := [.lit (.bool false)], args := [d], vars := [g1, g2] }
  | _ => none }
def FnBetweenSmallWrongFalsely : Prop := fnBetweenSmallRow.holds Tryd.pinned (OpenSpec.ofChange fnBetweenSmallWrong)

/-- 'laws.FnUpDown': WHATEVER THE INPUT: true; the input reads as it did. -/
def fnUpDownSpec : ChangeSpec := { name := "fnUpDown", vars := ["loop.example/datenotation/impl.monthDays"], fn := fun _ => fun
  | [d, g1] => { results := [.lit (.bool true)], args := [d], vars := [g1] }
  | _ => none }
def fnUpDownRow : OpenClaim := { program := "ytgllmnmgojbgeaadoor", sum := "845df3d351b9260b8dec9ecab22d7f09bc04ee5f63c0831da9059e417a68bb2f", func := "loop.example/datenotation/laws.FnUpDown", spec := "fnUpDown", unfollowed := true, recurses := true, named := ["loop.example/datenotation/impl.monthDays"], apart := false, laid := [("loop.example/datenotation/impl.monthDays", laid_loop_example_datenotation_impl_monthDays)] }
def FnUpDownSaid : Prop := fnUpDownRow.holds Tryd.pinned (OpenSpec.ofChange fnUpDownSpec)

/-- ITS FALSE NEIGHBOUR: 'it returns false'. Refute it at one input. -/
def fnUpDownWrong : ChangeSpec := { name := "fnUpDown", vars := ["loop.example/datenotation/impl.monthDays"], fn := fun _ => fun
  | [d, g1] => { results := [.lit (.bool false)], args := [d], vars := [g1] }
  | _ => none }
def FnUpDownWrongFalsely : Prop := fnUpDownRow.holds Tryd.pinned (OpenSpec.ofChange fnUpDownWrong)

/-- 'laws.FnUp': WHATEVER THE INPUT: true; the input reads as it did. -/
def fnUpSpec : ChangeSpec := { name := "fnUp", vars := ["loop.example/datenotation/impl.monthDays"], fn := fun _ => fun
  | [d, g1] => { results := [.lit (.bool true)], args := [d], vars := [g1] }
  | _ => none }
def fnUpRow : OpenClaim := { program := "ytgllmnmgojbgeaadoor", sum := "845df3d351b9260b8dec9ecab22d7f09bc04ee5f63c0831da9059e417a68bb2f", func := "loop.example/datenotation/laws.FnUp", spec := "fnUp", unfollowed := true, recurses := true, named := ["loop.example/datenotation/impl.monthDays"], apart := false, laid := [("loop.example/datenotation/impl.monthDays", laid_loop_example_datenotation_impl_monthDays)] }
def FnUpSaid : Prop := fnUpRow.holds Tryd.pinned (OpenSpec.ofChange fnUpSpec)

/-- ITS FALSE NEIGHBOUR: 'it returns false'. Refute it at one input. -/
def fnUpWrong : ChangeSpec := { name := "fnUp", vars := ["loop.example/datenotation/impl.monthDays"], fn := fun _ => fun
  | [d, g1] => { results := [.lit (.bool false)], args := [d], vars := [g1] }
  | _ => none }
def FnUpWrongFalsely : Prop := fnUpRow.holds Tryd.pinned (OpenSpec.ofChange fnUpWrong)

/-- 'laws.FnAge': WHATEVER THE INPUT: true; the input reads as it did. -/
def fnAgeSpec : ChangeSpec := { name := "fnAge", vars := ["loop.example/datenotation/impl.errBackwards", "loop.example/datenotation/impl.monthDays"], fn := fun _ => fun
  | [d, g1, g2] => { results := [.lit (.bool true)], args := [d], vars := [g1, g2] }
  | _ => none }
def fnAgeRow : OpenClaim := { program := "ytgllmnmgojbgeaadoor", sum := "845df3d351b9260b8dec9ecab22d7f09bc04ee5f63c0831da9059e417a68bb2f", func := "loop.example/datenotation/laws.FnAge", spec := "fnAge", inPlace := ["internal/reflectlite.TypeOf"], unfollowed := true, recurses := true, named := ["loop.example/datenotation/impl.errBackwards", "loop.example/datenotation/impl.monthDays"], ifaces := true, apart := false, laid := [("loop.example/datenotation/impl.monthDays", laid_loop_example_datenotation_impl_monthDays), ("loop.example/datenotation/impl.errBackwards", laid_loop_example_datenotation_impl_errBackwards)] }
def FnAgeSaid : Prop := fnAgeRow.holds Tryd.pinned (OpenSpec.ofChange fnAgeSpec)

/-- ITS FALSE NEIGHBOUR: 'it returns false'. Refute it at one input. -/
def fnAgeWrong : ChangeSpec := { name := "fnAge", vars := ["loop.example/datenotation/impl.errBackwards", "loop.example/datenotation/impl.monthDays"], fn := fun _ => fun
  | [d, g1, g2] => { results := [.lit (.bool false)], args := [d], vars := [g1, g2] }
  | _ => none }
def FnAgeWrongFalsely : Prop := fnAgeRow.holds Tryd.pinned (OpenSpec.ofChange fnAgeWrong)

/-- 'laws.FnNearOne': WHATEVER THE INPUT: true; the input reads as it did. -/
def fnNearOneSpec : ChangeSpec := { name := "fnNearOne", vars := ["loop.example/datenotation/impl.monthDays"], fn := fun _ => fun
  | [d, g1] => { results := [.lit (.bool true)], args := [d], vars := [g1] }
  | _ => none }
def fnNearOneRow : OpenClaim := { program := "ytgllmnmgojbgeaadoor", sum := "845df3d351b9260b8dec9ecab22d7f09bc04ee5f63c0831da9059e417a68bb2f", func := "loop.example/datenotation/laws.FnNearOne", spec := "fnNearOne", unfollowed := true, recurses := true, named := ["loop.example/datenotation/impl.monthDays"], apart := false, laid := [("loop.example/datenotation/impl.monthDays", laid_loop_example_datenotation_impl_monthDays)] }
def FnNearOneSaid : Prop := fnNearOneRow.holds Tryd.pinned (OpenSpec.ofChange fnNearOneSpec)

/-- ITS FALSE NEIGHBOUR: 'it returns false'. Refute it at one input. -/
def fnNearOneWrong : ChangeSpec := { name := "fnNearOne", vars := ["loop.example/datenotation/impl.monthDays"], fn := fun _ => fun
  | [d, g1] => { results := [.lit (.bool false)], args := [d], vars := [g1] }
  | _ => none }
def FnNearOneWrongFalsely : Prop := fnNearOneRow.holds Tryd.pinned (OpenSpec.ofChange fnNearOneWrong)

/-- 'laws.FnNear': WHATEVER THE INPUT: true; the input reads as it did. -/
def fnNearSpec : ChangeSpec := { name := "fnNear", vars := ["loop.example/datenotation/impl.monthDays"], fn := fun _ => fun
  | [d, g1] => { results := [.lit (.bool true)], args := [d], vars := [g1] }
  | _ => none }
def fnNearRow : OpenClaim := { program := "ytgllmnmgojbgeaadoor", sum := "845df3d351b9260b8dec9ecab22d7f09bc04ee5f63c0831da9059e417a68bb2f", func := "loop.example/datenotation/laws.FnNear", spec := "fnNear", unfollowed := true, recurses := true, named := ["loop.example/datenotation/impl.monthDays"], apart := false, laid := [("loop.example/datenotation/impl.monthDays", laid_loop_example_datenotation_impl_monthDays)] }
def FnNearSaid : Prop := fnNearRow.holds Tryd.pinned (OpenSpec.ofChange fnNearSpec)

/-- ITS FALSE NEIGHBOUR: 'it returns false'. Refute it at one input. -/
def fnNearWrong : ChangeSpec := { name := "fnNear", vars := ["loop.example/datenotation/impl.monthDays"], fn := fun _ => fun
  | [d, g1] => { results := [.lit (.bool false)], args := [d], vars := [g1] }
  | _ => none }
def FnNearWrongFalsely : Prop := fnNearRow.holds Tryd.pinned (OpenSpec.ofChange fnNearWrong)

/-- 'laws.FnAgeNext': WHATEVER THE INPUT: true; the input reads as it did. -/
def fnAgeNextSpec : ChangeSpec := { name := "fnAgeNext", vars := ["loop.example/datenotation/impl.errBackwards", "loop.example/datenotation/impl.monthDays"], fn := fun _ => fun
  | [d, g1, g2] => { results := [.lit (.bool true)], args := [d], vars := [g1, g2] }
  | _ => none }
def fnAgeNextRow : OpenClaim := { program := "ytgllmnmgojbgeaadoor", sum := "845df3d351b9260b8dec9ecab22d7f09bc04ee5f63c0831da9059e417a68bb2f", func := "loop.example/datenotation/laws.FnAgeNext", spec := "fnAgeNext", inPlace := ["internal/reflectlite.TypeOf"], unfollowed := true, recurses := true, named := ["loop.example/datenotation/impl.errBackwards", "loop.example/datenotation/impl.monthDays"], ifaces := true, apart := false, laid := [("loop.example/datenotation/impl.monthDays", laid_loop_example_datenotation_impl_monthDays), ("loop.example/datenotation/impl.errBackwards", laid_loop_example_datenotation_impl_errBackwards)] }
def FnAgeNextSaid : Prop := fnAgeNextRow.holds Tryd.pinned (OpenSpec.ofChange fnAgeNextSpec)

/-- ITS FALSE NEIGHBOUR: 'it returns false'. Refute it at one input. -/
def fnAgeNextWrong : ChangeSpec := { name := "fnAgeNext", vars := ["loop.example/datenotation/impl.errBackwards", "loop.example/datenotation/impl.monthDays"], fn := fun _ => fun
  | [d, g1, g2] => { results := [.lit (.bool false)], args := [d], vars := [g1, g2] }
  | _ => none }
def FnAgeNextWrongFalsely : Prop := fnAgeNextRow.holds Tryd.pinned (OpenSpec.ofChange fnAgeNextWrong)

/-- 'laws.FnBetween': WHATEVER THE INPUT: true; the input reads as it did. -/
def fnBetweenSpec : ChangeSpec := { name := "fnBetween", vars := ["loop.example/datenotation/impl.errBackwards", "loop.example/datenotation/impl.monthDays"], fn := fun _ => fun
  | [d, g1, g2] => { results := [.lit (.bool true)], args := [d], vars := [g1, g2] }
  | _ => none }
def fnBetweenRow : OpenClaim := { program := "ytgllmnmgojbgeaadoor", sum := "845df3d351b9260b8dec9ecab22d7f09bc04ee5f63c0831da9059e417a68bb2f", func := "loop.example/datenotation/laws.FnBetween", spec := "fnBetween", inPlace := ["internal/reflectlite.TypeOf"], unfollowed := true, recurses := true, named := ["loop.example/datenotation/impl.errBackwards", "loop.example/datenotation/impl.monthDays"], ifaces := true, apart := false, laid := [("loop.example/datenotation/impl.monthDays", laid_loop_example_datenotation_impl_monthDays), ("loop.example/datenotation/impl.errBackwards", laid_loop_example_datenotation_impl_errBackwards)] }
def FnBetweenSaid : Prop := fnBetweenRow.holds Tryd.pinned (OpenSpec.ofChange fnBetweenSpec)

/-- ITS FALSE NEIGHBOUR: 'it returns false'. Refute it at one input. -/
def fnBetweenWrong : ChangeSpec := { name := "fnBetween", vars := ["loop.example/datenotation/impl.errBackwards", "loop.example/datenotation/impl.monthDays"], fn := fun _ => fun
  | [d, g1, g2] => { results := [.lit (.bool false)], args := [d], vars := [g1, g2] }
  | _ => none }
def FnBetweenWrongFalsely : Prop := fnBetweenRow.holds Tryd.pinned (OpenSpec.ofChange fnBetweenWrong)

/- THE SECOND FORM. 'bulk': how many values and letters a reading holds, each counted each time it is reached (what is shared counts as often as it is met; a slice's spare places count too). A statement '..UptoSaid' is the law's where the arguments, and the package variables that the reading takes, are together of bulk at most 1048576: NARROWER than '..Said'. Prove '..Said' where nothing that the law and all that it calls make is longer than what came in: it says more and counts as full. Else prove '..UptoSaid'. A law counts once. -/
mutual
def uptoBulk {H : Type} : DataW H → Nat
  | .lit (.string bytes) => bytes.length + 1
  | .lit _ => 1
  | .nil => 1
  | .ptr d => uptoBulk d + 1
  | .slice elems spare => uptoBulkAll elems + uptoBulkAll spare + 1
  | .agg parts => uptoBulkAll parts + 1
  | .iface _ d => uptoBulk d + 1
  | .map entries => uptoBulkEntries entries + 1
  | .held _ => 1
def uptoBulkAll {H : Type} : List (DataW H) → Nat
  | [] => 0
  | d :: r => uptoBulk d + uptoBulkAll r
def uptoBulkEntries {H : Type} : List (Lit × DataW H) → Nat
  | [] => 0
  | x :: r => uptoBulkEntry x + uptoBulkEntries r
def uptoBulkEntry {H : Type} : Lit × DataW H → Nat
  | (.string bytes, d) => bytes.length + uptoBulk d + 1
  | (_, d) => uptoBulk d + 1
 end
def uptoSmall : (H : Type) → List (DataW H) → Bool := fun _ ds => decide (uptoBulkAll ds ≤ 1048576)
def OpenSpec.upto (s : _root_.Go.ChangeSpec) : _root_.Go.OpenSpec := { _root_.Go.OpenSpec.ofChange s with cond := some uptoSmall }

/-- 'laws.FnBetweenMost', WHERE WHAT IT READS IS OF BULK AT MOST 1048576: true; the input reads as it did. -/
def fnBetweenMostUptoRow : OpenClaim := { program := "ytgllmnmgojbgeaadoor", sum := "845df3d351b9260b8dec9ecab22d7f09bc04ee5f63c0831da9059e417a68bb2f", func := "loop.example/datenotation/laws.FnBetweenMost", spec := "fnBetweenMost", inPlace := ["internal/reflectlite.TypeOf"], unfollowed := true, recurses := true, named := ["loop.example/datenotation/impl.errBackwards", "loop.example/datenotation/impl.monthDays"], ifaces := true, apart := false, laid := [("loop.example/datenotation/impl.monthDays", laid_loop_example_datenotation_impl_monthDays), ("loop.example/datenotation/impl.errBackwards", laid_loop_example_datenotation_impl_errBackwards)], narrowed := true }
def FnBetweenMostUptoSaid : Prop := fnBetweenMostUptoRow.holds Tryd.pinned (OpenSpec.upto fnBetweenMostSpec)

/-- 'laws.FnBetweenWhen', WHERE WHAT IT READS IS OF BULK AT MOST 1048576: true; the input reads as it did. -/
def fnBetweenWhenUptoRow : OpenClaim := { program := "ytgllmnmgojbgeaadoor", sum := "845df3d351b9260b8dec9ecab22d7f09bc04ee5f63c0831da9059e417a68bb2f", func := "loop.example/datenotation/laws.FnBetweenWhen", spec := "fnBetweenWhen", inPlace := ["internal/reflectlite.TypeOf"], unfollowed := true, recurses := true, named := ["loop.example/datenotation/impl.errBackwards", "loop.example/datenotation/impl.monthDays"], ifaces := true, apart := false, laid := [("loop.example/datenotation/impl.monthDays", laid_loop_example_datenotation_impl_monthDays), ("loop.example/datenotation/impl.errBackwards", laid_loop_example_datenotation_impl_errBackwards)], narrowed := true }
def FnBetweenWhenUptoSaid : Prop := fnBetweenWhenUptoRow.holds Tryd.pinned (OpenSpec.upto fnBetweenWhenSpec)

/-- 'laws.FnDown', WHERE WHAT IT READS IS OF BULK AT MOST 1048576: true; the input reads as it did. -/
def fnDownUptoRow : OpenClaim := { program := "ytgllmnmgojbgeaadoor", sum := "845df3d351b9260b8dec9ecab22d7f09bc04ee5f63c0831da9059e417a68bb2f", func := "loop.example/datenotation/laws.FnDown", spec := "fnDown", unfollowed := true, recurses := true, named := ["loop.example/datenotation/impl.monthDays"], apart := false, laid := [("loop.example/datenotation/impl.monthDays", laid_loop_example_datenotation_impl_monthDays)], narrowed := true }
def FnDownUptoSaid : Prop := fnDownUptoRow.holds Tryd.pinned (OpenSpec.upto fnDownSpec)

/-- 'laws.FnBetweenSmall', WHERE WHAT IT READS IS OF BULK AT MOST 1048576: true; the input reads as it did. -/
def fnBetweenSmallUptoRow : OpenClaim := { program := "ytgllmnmgojbgeaadoor", sum := "845df3d351b9260b8dec9ecab22d7f09bc04ee5f63c0831da9059e417a68bb2f", func := "loop.example/datenotation/laws.FnBetweenSmall", spec := "fnBetweenSmall", inPlace := ["internal/reflectlite.TypeOf"], unfollowed := true, recurses := true, named := ["loop.example/datenotation/impl.errBackwards", "loop.example/datenotation/impl.monthDays"], ifaces := true, apart := false, laid := [("loop.example/datenotation/impl.monthDays", laid_loop_example_datenotation_impl_monthDays), ("loop.example/datenotation/impl.errBackwards", laid_loop_example_datenotation_impl_errBackwards)], narrowed := true }
def FnBetweenSmallUptoSaid : Prop := fnBetweenSmallUptoRow.holds Tryd.pinned (OpenSpec.upto fnBetweenSmallSpec)

/-- 'laws.FnUpDown', WHERE WHAT IT READS IS OF BULK AT MOST 1048576: true; the input reads as it did. -/
def fnUpDownUptoRow : OpenClaim := { program := "ytgllmnmgojbgeaadoor", sum := "845df3d351b9260b8dec9ecab22d7f09bc04ee5f63c0831da9059e417a68bb2f", func := "loop.example/datenotation/laws.FnUpDown", spec := "fnUpDown", unfollowed := true, recurses := true, named := ["loop.example/datenotation/impl.monthDays"], apart := false, laid := [("loop.example/datenotation/impl.monthDays", laid_loop_example_datenotation_impl_monthDays)], narrowed := true }
def FnUpDownUptoSaid : Prop := fnUpDownUptoRow.holds Tryd.pinned (OpenSpec.upto fnUpDownSpec)

/-- 'laws.FnUp', WHERE WHAT IT READS IS OF BULK AT MOST 1048576: true; the input reads as it did. -/
def fnUpUptoRow : OpenClaim := { program := "ytgllmnmgojbgeaadoor", sum := "845df3d351b9260b8dec9ecab22d7f09bc04ee5f63c0831da9059e417a68bb2f", func := "loop.example/datenotation/laws.FnUp", spec := "fnUp", unfollowed := true, recurses := true, named := ["loop.example/datenotation/impl.monthDays"], apart := false, laid := [("loop.example/datenotation/impl.monthDays", laid_loop_example_datenotation_impl_monthDays)], narrowed := true }
def FnUpUptoSaid : Prop := fnUpUptoRow.holds Tryd.pinned (OpenSpec.upto fnUpSpec)

/-- 'laws.FnAge', WHERE WHAT IT READS IS OF BULK AT MOST 1048576: true; the input reads as it did. -/
def fnAgeUptoRow : OpenClaim := { program := "ytgllmnmgojbgeaadoor", sum := "845df3d351b9260b8dec9ecab22d7f09bc04ee5f63c0831da9059e417a68bb2f", func := "loop.example/datenotation/laws.FnAge", spec := "fnAge", inPlace := ["internal/reflectlite.TypeOf"], unfollowed := true, recurses := true, named := ["loop.example/datenotation/impl.errBackwards", "loop.example/datenotation/impl.monthDays"], ifaces := true, apart := false, laid := [("loop.example/datenotation/impl.monthDays", laid_loop_example_datenotation_impl_monthDays), ("loop.example/datenotation/impl.errBackwards", laid_loop_example_datenotation_impl_errBackwards)], narrowed := true }
def FnAgeUptoSaid : Prop := fnAgeUptoRow.holds Tryd.pinned (OpenSpec.upto fnAgeSpec)

/-- 'laws.FnNearOne', WHERE WHAT IT READS IS OF BULK AT MOST 1048576: true; the input reads as it did. -/
def fnNearOneUptoRow : OpenClaim := { program := "ytgllmnmgojbgeaadoor", sum := "845df3d351b9260b8dec9ecab22d7f09bc04ee5f63c0831da9059e417a68bb2f", func := "loop.example/datenotation/laws.FnNearOne", spec := "fnNearOne", unfollowed := true, recurses := true, named := ["loop.example/datenotation/impl.monthDays"], apart := false, laid := [("loop.example/datenotation/impl.monthDays", laid_loop_example_datenotation_impl_monthDays)], narrowed := true }
def FnNearOneUptoSaid : Prop := fnNearOneUptoRow.holds Tryd.pinned (OpenSpec.upto fnNearOneSpec)

/-- 'laws.FnNear', WHERE WHAT IT READS IS OF BULK AT MOST 1048576: true; the input reads as it did. -/
def fnNearUptoRow : OpenClaim := { program := "ytgllmnmgojbgeaadoor", sum := "845df3d351b9260b8dec9ecab22d7f09bc04ee5f63c0831da9059e417a68bb2f", func := "loop.example/datenotation/laws.FnNear", spec := "fnNear", unfollowed := true, recurses := true, named := ["loop.example/datenotation/impl.monthDays"], apart := false, laid := [("loop.example/datenotation/impl.monthDays", laid_loop_example_datenotation_impl_monthDays)], narrowed := true }
def FnNearUptoSaid : Prop := fnNearUptoRow.holds Tryd.pinned (OpenSpec.upto fnNearSpec)

/-- 'laws.FnAgeNext', WHERE WHAT IT READS IS OF BULK AT MOST 1048576: true; the input reads as it did. -/
def fnAgeNextUptoRow : OpenClaim := { program := "ytgllmnmgojbgeaadoor", sum := "845df3d351b9260b8dec9ecab22d7f09bc04ee5f63c0831da9059e417a68bb2f", func := "loop.example/datenotation/laws.FnAgeNext", spec := "fnAgeNext", inPlace := ["internal/reflectlite.TypeOf"], unfollowed := true, recurses := true, named := ["loop.example/datenotation/impl.errBackwards", "loop.example/datenotation/impl.monthDays"], ifaces := true, apart := false, laid := [("loop.example/datenotation/impl.monthDays", laid_loop_example_datenotation_impl_monthDays), ("loop.example/datenotation/impl.errBackwards", laid_loop_example_datenotation_impl_errBackwards)], narrowed := true }
def FnAgeNextUptoSaid : Prop := fnAgeNextUptoRow.holds Tryd.pinned (OpenSpec.upto fnAgeNextSpec)

/-- 'laws.FnBetween', WHERE WHAT IT READS IS OF BULK AT MOST 1048576: true; the input reads as it did. -/
def fnBetweenUptoRow : OpenClaim := { program := "ytgllmnmgojbgeaadoor", sum := "845df3d351b9260b8dec9ecab22d7f09bc04ee5f63c0831da9059e417a68bb2f", func := "loop.example/datenotation/laws.FnBetween", spec := "fnBetween", inPlace := ["internal/reflectlite.TypeOf"], unfollowed := true, recurses := true, named := ["loop.example/datenotation/impl.errBackwards", "loop.example/datenotation/impl.monthDays"], ifaces := true, apart := false, laid := [("loop.example/datenotation/impl.monthDays", laid_loop_example_datenotation_impl_monthDays), ("loop.example/datenotation/impl.errBackwards", laid_loop_example_datenotation_impl_errBackwards)], narrowed := true }
def FnBetweenUptoSaid : Prop := fnBetweenUptoRow.holds Tryd.pinned (OpenSpec.upto fnBetweenSpec)

end Rows
end Go.Proofs.YtgllmnmgojbgeaaDoor
