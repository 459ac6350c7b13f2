/-
  NARROWER THAN 'FOR EVERY INPUT', by the rows' own cells (each row's printed sentence says how): FnStampFromSmall: laid · FnStampText: laid · FnExactStampTidy: laid · FnStampFrom: laid · FnTidy: laid · FnExactStampsSort: laid · FnSortTwice: laid · FnSortAll: laid · FnSort: laid.
  DERIVED. THE GIVEN ROWS OF THIS SEAT. 9 by the template 'for every input the law returns true; each argument reads behind the call as it read before'; 0 by the template 'total and deterministic' (their statements: YtdafjaimljhcaaaGreatDoorTotals.lean).
  GIVEN WITH THE SEED: the statements are not yours to turn. If you find one false, say at which input.
  Laid BY PROGRAM, IN A SANDBOX (cutbox-rows.mjs): the forced cells as the released guide's own fill.sh prints them over the translation 55fcf7a14db07075… (all of the seat's roots in one cut). By AI agents, Wed Nov 11 2026. No macro, syntax, notation, axiom, sorry.
-/
import Derived.Test.YtdafjaimljhcaaaGreatDoorChecked
import GoSem.PinnedTables
import GoSem.Claim
import GoSem.ClaimJoined
import GoSem.ClaimMapViews
import Derived.JoinedTies
import Derived.KernelRfl
namespace Go.Proofs.YtdafjaimljhcaaaGreatDoor
/- THE CELL 'sum', in the pinned program and in every row, IS THE sha256 OF THE DUMP (.gsa) THAT YtdafjaimljhcaaaGreatDoorProg.lean LOADS. Nothing in Lean hashes anything: it is a label: what it is worth is what the hold of that sum in a sandbox is worth. -/
noncomputable def Tryz.pinned : Pinned := { name := "ytdafjaimljhcaaagreatdoor", sum := "55fcf7a14db0707575c2e8d2a33cb1942988e78408b4afc2aaa9b5dc4b10fa13", checked := Tryz.checked }
namespace Rows
def none {H : Type} : Left H := { results := [], args := [] }

/- WHAT THE LISTED PACKAGE-LEVEL VARIABLES READ AS WHEN THE CALL BEGINS. Each datum BY PROGRAM (the guide's laid-datum.mjs) off the statement by which the dump's own 'gosem.cut.vars' lays the variable. In a bare row this is a premise. The card (YtdafjaimljhcaaaGreatDoorCards.lean) ties it to the program's text. -/
def laid_errors_errorType {H : Type} : DataW H := .iface "internal/reflectlite.rtype" (.agg [.ptr (.lit (.string [101, 114, 114, 111, 114]))])
def laid_loop_example_datenotation_impl_monthDays {H : Type} : DataW H := .agg [.lit (.int .i64 31), .lit (.int .i64 28), .lit (.int .i64 31), .lit (.int .i64 30), .lit (.int .i64 31), .lit (.int .i64 30), .lit (.int .i64 31), .lit (.int .i64 31), .lit (.int .i64 30), .lit (.int .i64 31), .lit (.int .i64 30), .lit (.int .i64 31)]
def laid_unicode_utf8_acceptRanges {H : Type} : DataW H := .agg [.agg [.lit (.int .u8 128), .lit (.int .u8 191)], .agg [.lit (.int .u8 160), .lit (.int .u8 191)], .agg [.lit (.int .u8 128), .lit (.int .u8 159)], .agg [.lit (.int .u8 144), .lit (.int .u8 191)], .agg [.lit (.int .u8 128), .lit (.int .u8 143)], .agg [.lit (.int .u8 0), .lit (.int .u8 0)], .agg [.lit (.int .u8 0), .lit (.int .u8 0)], .agg [.lit (.int .u8 0), .lit (.int .u8 0)], .agg [.lit (.int .u8 0), .lit (.int .u8 0)], .agg [.lit (.int .u8 0), .lit (.int .u8 0)], .agg [.lit (.int .u8 0), .lit (.int .u8 0)], .agg [.lit (.int .u8 0), .lit (.int .u8 0)], .agg [.lit (.int .u8 0), .lit (.int .u8 0)], .agg [.lit (.int .u8 0), .lit (.int .u8 0)], .agg [.lit (.int .u8 0), .lit (.int .u8 0)], .agg [.lit (.int .u8 0), .lit (.int .u8 0)]]
/-- One of Go's own tables, pinned by name: the form's constant. -/
def laid_unicode_utf8_first : DataW Unit := Go.Pinned.utf8First

/-- 'laws.FnStampFromSmall': WHATEVER THE INPUT: true; the input reads as it did. -/
def fnStampFromSmallSpec : ChangeSpec := { name := "fnStampFromSmall", vars := ["loop.example/datenotation/impl.monthDays"], fn := fun _ => fun
  | [d, g1] => { results := [.lit (.bool true)], args := [d], vars := [g1] }
  | _ => none }
def fnStampFromSmallRow : OpenClaim := { program := "ytdafjaimljhcaaagreatdoor", sum := "55fcf7a14db0707575c2e8d2a33cb1942988e78408b4afc2aaa9b5dc4b10fa13", func := "loop.example/datenotation/laws.FnStampFromSmall", spec := "fnStampFromSmall", inPlace := ["internal/reflectlite.ValueOf", "(internal/reflectlite.Value).Type", "(internal/reflectlite.Value).IsNil", "internal/reflectlite.TypeOf", "(internal/reflectlite.Value).Elem", "(internal/reflectlite.Value).Set"], unfollowed := true, recurses := true, named := ["loop.example/datenotation/impl.monthDays", "errors.errorType"], apart := false, laid := [("errors.errorType", laid_errors_errorType), ("loop.example/datenotation/impl.monthDays", laid_loop_example_datenotation_impl_monthDays)] }
def FnStampFromSmallSaid : Prop := fnStampFromSmallRow.holds Tryz.pinned (OpenSpec.ofChange fnStampFromSmallSpec)

/-- ITS FALSE NEIGHBOUR: 'it returns false'. Refute it at one input. -/
def fnStampFromSmallWrong : ChangeSpec := { name := "fnStampFromSmall", vars := ["loop.example/datenotation/impl.monthDays"], fn := fun _ => fun
  | [d, g1] => { results := [.lit (.bool false)], args := [d], vars := [g1] }
  | _ => none }
def FnStampFromSmallWrongFalsely : Prop := fnStampFromSmallRow.holds Tryz.pinned (OpenSpec.ofChange fnStampFromSmallWrong)

/-- 'laws.FnStampText': WHATEVER THE INPUT: true; the input reads as it did. -/
def fnStampTextSpec : ChangeSpec := { name := "fnStampText", vars := ["loop.example/datenotation/impl.monthDays"], fn := fun _ => fun
  | [d, g1] => { results := [.lit (.bool true)], args := [d], vars := [g1] }
  | _ => none }
def fnStampTextRow : OpenClaim := { program := "ytdafjaimljhcaaagreatdoor", sum := "55fcf7a14db0707575c2e8d2a33cb1942988e78408b4afc2aaa9b5dc4b10fa13", func := "loop.example/datenotation/laws.FnStampText", spec := "fnStampText", inPlace := ["internal/bytealg.IndexByteString", "internal/bytealg.IndexString", "internal/reflectlite.ValueOf", "(internal/reflectlite.Value).Type", "(internal/reflectlite.Value).IsNil", "internal/reflectlite.TypeOf", "(internal/reflectlite.Value).Elem", "(internal/reflectlite.Value).Set"], unfollowed := true, recurses := true, named := ["loop.example/datenotation/impl.monthDays", "unicode/utf8.first", "unicode/utf8.acceptRanges", "errors.errorType", "internal/bytealg.MaxLen"], apart := false, laid := [("unicode/utf8.acceptRanges", laid_unicode_utf8_acceptRanges), ("errors.errorType", laid_errors_errorType), ("loop.example/datenotation/impl.monthDays", laid_loop_example_datenotation_impl_monthDays), ("unicode/utf8.first", laid_unicode_utf8_first)] }
def FnStampTextSaid : Prop := fnStampTextRow.holds Tryz.pinned (OpenSpec.ofChange fnStampTextSpec)

/-- ITS FALSE NEIGHBOUR: 'it returns false'. Refute it at one input. -/
def fnStampTextWrong : ChangeSpec := { name := "fnStampText", vars := ["loop.example/datenotation/impl.monthDays"], fn := fun _ => fun
  | [d, g1] => { results := [.lit (.bool false)], args := [d], vars := [g1] }
  | _ => none }
def FnStampTextWrongFalsely : Prop := fnStampTextRow.holds Tryz.pinned (OpenSpec.ofChange fnStampTextWrong)

/-- 'laws.FnExactStampTidy': WHATEVER THE INPUT: true; the input reads as it did. -/
def fnExactStampTidySpec : ChangeSpec := { name := "fnExactStampTidy", vars := ["loop.example/datenotation/impl.monthDays"], fn := fun _ => fun
  | [d, g1] => { results := [.lit (.bool true)], args := [d], vars := [g1] }
  | _ => none }
def fnExactStampTidyRow : OpenClaim := { program := "ytdafjaimljhcaaagreatdoor", sum := "55fcf7a14db0707575c2e8d2a33cb1942988e78408b4afc2aaa9b5dc4b10fa13", func := "loop.example/datenotation/laws.FnExactStampTidy", spec := "fnExactStampTidy", inPlace := ["internal/reflectlite.ValueOf", "(internal/reflectlite.Value).Type", "(internal/reflectlite.Value).IsNil", "internal/reflectlite.TypeOf", "(internal/reflectlite.Value).Elem", "(internal/reflectlite.Value).Set", "internal/bytealg.IndexByteString", "internal/bytealg.IndexString"], unfollowed := true, recurses := true, named := ["loop.example/datenotation/impl.monthDays", "errors.errorType", "unicode/utf8.first", "unicode/utf8.acceptRanges", "internal/bytealg.MaxLen"], apart := false, laid := [("unicode/utf8.acceptRanges", laid_unicode_utf8_acceptRanges), ("errors.errorType", laid_errors_errorType), ("loop.example/datenotation/impl.monthDays", laid_loop_example_datenotation_impl_monthDays), ("unicode/utf8.first", laid_unicode_utf8_first)] }
def FnExactStampTidySaid : Prop := fnExactStampTidyRow.holds Tryz.pinned (OpenSpec.ofChange fnExactStampTidySpec)

/-- ITS FALSE NEIGHBOUR: 'it returns false'. Refute it at one input. -/
def fnExactStampTidyWrong : ChangeSpec := { name := "fnExactStampTidy", vars := ["loop.example/datenotation/impl.monthDays"], fn := fun _ => fun
  | [d, g1] => { results := [.lit (.bool false)], args := [d], vars := [g1] }
  | _ => none }
def FnExactStampTidyWrongFalsely : Prop := fnExactStampTidyRow.holds Tryz.pinned (OpenSpec.ofChange fnExactStampTidyWrong)

/-- 'laws.FnStampFrom': WHATEVER THE INPUT: true; the input reads as it did. -/
def fnStampFromSpec : ChangeSpec := { name := "fnStampFrom", vars := ["loop.example/datenotation/impl.monthDays"], fn := fun _ => fun
  | [d, g1] => { results := [.lit (.bool true)], args := [d], vars := [g1] }
  | _ => none }
def fnStampFromRow : OpenClaim := { program := "ytdafjaimljhcaaagreatdoor", sum := "55fcf7a14db0707575c2e8d2a33cb1942988e78408b4afc2aaa9b5dc4b10fa13", func := "loop.example/datenotation/laws.FnStampFrom", spec := "fnStampFrom", inPlace := ["internal/reflectlite.ValueOf", "(internal/reflectlite.Value).Type", "(internal/reflectlite.Value).IsNil", "internal/reflectlite.TypeOf", "(internal/reflectlite.Value).Elem", "(internal/reflectlite.Value).Set", "internal/bytealg.IndexByteString", "internal/bytealg.IndexString"], unfollowed := true, recurses := true, named := ["loop.example/datenotation/impl.monthDays", "errors.errorType", "unicode/utf8.first", "unicode/utf8.acceptRanges", "internal/bytealg.MaxLen"], apart := false, laid := [("unicode/utf8.acceptRanges", laid_unicode_utf8_acceptRanges), ("errors.errorType", laid_errors_errorType), ("loop.example/datenotation/impl.monthDays", laid_loop_example_datenotation_impl_monthDays), ("unicode/utf8.first", laid_unicode_utf8_first)] }
def FnStampFromSaid : Prop := fnStampFromRow.holds Tryz.pinned (OpenSpec.ofChange fnStampFromSpec)

/-- ITS FALSE NEIGHBOUR: 'it returns false'. Refute it at one input. -/
def fnStampFromWrong : ChangeSpec := { name := "fnStampFrom", vars := ["loop.example/datenotation/impl.monthDays"], fn := fun _ => fun
  | [d, g1] => { results := [.lit (.bool false)], args := [d], vars := [g1] }
  | _ => none }
def FnStampFromWrongFalsely : Prop := fnStampFromRow.holds Tryz.pinned (OpenSpec.ofChange fnStampFromWrong)

/-- 'laws.FnTidy': WHATEVER THE INPUT: true; the input reads as it did. -/
def fnTidySpec : ChangeSpec := { name := "fnTidy", vars := ["loop.example/datenotation/impl.monthDays"], fn := fun _ => fun
  | [d, g1] => { results := [.lit (.bool true)], args := [d], vars := [g1] }
  | _ => none }
def fnTidyRow : OpenClaim := { program := "ytdafjaimljhcaaagreatdoor", sum := "55fcf7a14db0707575c2e8d2a33cb1942988e78408b4afc2aaa9b5dc4b10fa13", func := "loop.example/datenotation/laws.FnTidy", spec := "fnTidy", inPlace := ["internal/reflectlite.ValueOf", "(internal/reflectlite.Value).Type", "(internal/reflectlite.Value).IsNil", "internal/reflectlite.TypeOf", "(internal/reflectlite.Value).Elem", "(internal/reflectlite.Value).Set", "internal/bytealg.IndexByteString", "internal/bytealg.IndexString"], unfollowed := true, recurses := true, named := ["loop.example/datenotation/impl.monthDays", "errors.errorType", "unicode/utf8.first", "unicode/utf8.acceptRanges", "internal/bytealg.MaxLen"], apart := false, laid := [("unicode/utf8.acceptRanges", laid_unicode_utf8_acceptRanges), ("errors.errorType", laid_errors_errorType), ("loop.example/datenotation/impl.monthDays", laid_loop_example_datenotation_impl_monthDays), ("unicode/utf8.first", laid_unicode_utf8_first)] }
def FnTidySaid : Prop := fnTidyRow.holds Tryz.pinned (OpenSpec.ofChange fnTidySpec)

/-- ITS FALSE NEIGHBOUR: 'it returns false'. Refute it at one input. -/
def fnTidyWrong : ChangeSpec := { name := "fnTidy", vars := ["loop.example/datenotation/impl.monthDays"], fn := fun _ => fun
  | [d, g1] => { results := [.lit (.bool false)], args := [d], vars := [g1] }
  | _ => none }
def FnTidyWrongFalsely : Prop := fnTidyRow.holds Tryz.pinned (OpenSpec.ofChange fnTidyWrong)

/-- 'laws.FnExactStampsSort': WHATEVER THE INPUT: true; the input reads as it did. -/
def fnExactStampsSortSpec : ChangeSpec := { name := "fnExactStampsSort", vars := ["loop.example/datenotation/impl.monthDays"], fn := fun _ => fun
  | [d, g1] => { results := [.lit (.bool true)], args := [d], vars := [g1] }
  | _ => none }
def fnExactStampsSortRow : OpenClaim := { program := "ytdafjaimljhcaaagreatdoor", sum := "55fcf7a14db0707575c2e8d2a33cb1942988e78408b4afc2aaa9b5dc4b10fa13", func := "loop.example/datenotation/laws.FnExactStampsSort", spec := "fnExactStampsSort", inPlace := ["internal/reflectlite.ValueOf", "(internal/reflectlite.Value).Type", "(internal/reflectlite.Value).IsNil", "internal/reflectlite.TypeOf", "(internal/reflectlite.Value).Elem", "(internal/reflectlite.Value).Set", "internal/bytealg.IndexByteString", "internal/bytealg.IndexString"], unfollowed := true, recurses := true, named := ["loop.example/datenotation/impl.monthDays", "errors.errorType", "unicode/utf8.first", "unicode/utf8.acceptRanges", "internal/bytealg.MaxLen"], apart := false, laid := [("unicode/utf8.acceptRanges", laid_unicode_utf8_acceptRanges), ("errors.errorType", laid_errors_errorType), ("loop.example/datenotation/impl.monthDays", laid_loop_example_datenotation_impl_monthDays), ("unicode/utf8.first", laid_unicode_utf8_first)] }
def FnExactStampsSortSaid : Prop := fnExactStampsSortRow.holds Tryz.pinned (OpenSpec.ofChange fnExactStampsSortSpec)

/-- ITS FALSE NEIGHBOUR: 'it returns false'. Refute it at one input. -/
def fnExactStampsSortWrong : ChangeSpec := { name := "fnExactStampsSort", vars := ["loop.example/datenotation/impl.monthDays"], fn := fun _ => fun
  | [d, g1] => { results := [.lit (.bool false)], args := [d], vars := [g1] }
  | _ => none }
def FnExactStampsSortWrongFalsely : Prop := fnExactStampsSortRow.holds Tryz.pinned (OpenSpec.ofChange fnExactStampsSortWrong)

/-- 'laws.FnSortTwice': WHATEVER THE INPUT: true; the input reads as it did. -/
def fnSortTwiceSpec : ChangeSpec := { name := "fnSortTwice", vars := ["loop.example/datenotation/impl.monthDays"], fn := fun _ => fun
  | [d, g1] => { results := [.lit (.bool true)], args := [d], vars := [g1] }
  | _ => none }
def fnSortTwiceRow : OpenClaim := { program := "ytdafjaimljhcaaagreatdoor", sum := "55fcf7a14db0707575c2e8d2a33cb1942988e78408b4afc2aaa9b5dc4b10fa13", func := "loop.example/datenotation/laws.FnSortTwice", spec := "fnSortTwice", inPlace := ["internal/reflectlite.ValueOf", "(internal/reflectlite.Value).Type", "(internal/reflectlite.Value).IsNil", "internal/reflectlite.TypeOf", "(internal/reflectlite.Value).Elem", "(internal/reflectlite.Value).Set", "internal/bytealg.IndexByteString", "internal/bytealg.IndexString"], unfollowed := true, recurses := true, named := ["loop.example/datenotation/impl.monthDays", "errors.errorType", "unicode/utf8.first", "unicode/utf8.acceptRanges", "internal/bytealg.MaxLen"], apart := false, laid := [("unicode/utf8.acceptRanges", laid_unicode_utf8_acceptRanges), ("errors.errorType", laid_errors_errorType), ("loop.example/datenotation/impl.monthDays", laid_loop_example_datenotation_impl_monthDays), ("unicode/utf8.first", laid_unicode_utf8_first)] }
def FnSortTwiceSaid : Prop := fnSortTwiceRow.holds Tryz.pinned (OpenSpec.ofChange fnSortTwiceSpec)

/-- ITS FALSE NEIGHBOUR: 'it returns false'. Refute it at one input. -/
def fnSortTwiceWrong : ChangeSpec := { name := "fnSortTwice", vars := ["loop.example/datenotation/impl.monthDays"], fn := fun _ => fun
  | [d, g1] => { results := [.lit (.bool false)], args := [d], vars := [g1] }
  | _ => none }
def FnSortTwiceWrongFalsely : Prop := fnSortTwiceRow.holds Tryz.pinned (OpenSpec.ofChange fnSortTwiceWrong)

/-- 'laws.FnSortAll': WHATEVER THE INPUT: true; the input reads as it did. -/
def fnSortAllSpec : ChangeSpec := { name := "fnSortAll", vars := ["loop.example/datenotation/impl.monthDays"], fn := fun _ => fun
  | [d, g1] => { results := [.lit (.bool true)], args := [d], vars := [g1] }
  | _ => none }
def fnSortAllRow : OpenClaim := { program := "ytdafjaimljhcaaagreatdoor", sum := "55fcf7a14db0707575c2e8d2a33cb1942988e78408b4afc2aaa9b5dc4b10fa13", func := "loop.example/datenotation/laws.FnSortAll", spec := "fnSortAll", inPlace := ["internal/reflectlite.ValueOf", "(internal/reflectlite.Value).Type", "(internal/reflectlite.Value).IsNil", "internal/reflectlite.TypeOf", "(internal/reflectlite.Value).Elem", "(internal/reflectlite.Value).Set", "internal/bytealg.IndexByteString", "internal/bytealg.IndexString"], unfollowed := true, recurses := true, named := ["loop.example/datenotation/impl.monthDays", "errors.errorType", "unicode/utf8.first", "unicode/utf8.acceptRanges", "internal/bytealg.MaxLen"], apart := false, laid := [("unicode/utf8.acceptRanges", laid_unicode_utf8_acceptRanges), ("errors.errorType", laid_errors_errorType), ("loop.example/datenotation/impl.monthDays", laid_loop_example_datenotation_impl_monthDays), ("unicode/utf8.first", laid_unicode_utf8_first)] }
def FnSortAllSaid : Prop := fnSortAllRow.holds Tryz.pinned (OpenSpec.ofChange fnSortAllSpec)

/-- ITS FALSE NEIGHBOUR: 'it returns false'. Refute it at one input. -/
def fnSortAllWrong : ChangeSpec := { name := "fnSortAll", vars := ["loop.example/datenotation/impl.monthDays"], fn := fun _ => fun
  | [d, g1] => { results := [.lit (.bool false)], args := [d], vars := [g1] }
  | _ => none }
def FnSortAllWrongFalsely : Prop := fnSortAllRow.holds Tryz.pinned (OpenSpec.ofChange fnSortAllWrong)

/-- 'laws.FnSort': WHATEVER THE INPUT: true; the input reads as it did. -/
def fnSortSpec : ChangeSpec := { name := "fnSort", vars := ["loop.example/datenotation/impl.monthDays"], fn := fun _ => fun
  | [d, g1] => { results := [.lit (.bool true)], args := [d], vars := [g1] }
  | _ => none }
def fnSortRow : OpenClaim := { program := "ytdafjaimljhcaaagreatdoor", sum := "55fcf7a14db0707575c2e8d2a33cb1942988e78408b4afc2aaa9b5dc4b10fa13", func := "loop.example/datenotation/laws.FnSort", spec := "fnSort", inPlace := ["internal/reflectlite.ValueOf", "(internal/reflectlite.Value).Type", "(internal/reflectlite.Value).IsNil", "internal/reflectlite.TypeOf", "(internal/reflectlite.Value).Elem", "(internal/reflectlite.Value).Set", "internal/bytealg.IndexByteString", "internal/bytealg.IndexString"], unfollowed := true, recurses := true, named := ["loop.example/datenotation/impl.monthDays", "errors.errorType", "unicode/utf8.first", "unicode/utf8.acceptRanges", "internal/bytealg.MaxLen"], apart := false, laid := [("unicode/utf8.acceptRanges", laid_unicode_utf8_acceptRanges), ("errors.errorType", laid_errors_errorType), ("loop.example/datenotation/impl.monthDays", laid_loop_example_datenotation_impl_monthDays), ("unicode/utf8.first", laid_unicode_utf8_first)] }
def FnSortSaid : Prop := fnSortRow.holds Tryz.pinned (OpenSpec.ofChange fnSortSpec)

/-- ITS FALSE NEIGHBOUR: 'it returns false'. Refute it at one input. -/
def fnSortWrong : ChangeSpec := { name := "fnSort", vars := ["loop.example/datenotation/impl.monthDays"], fn := fun _ => fun
  | [d, g1] => { results := [.lit (.bool false)], args := [d], vars := [g1] }
  | _ => none }
def FnSortWrongFalsely : Prop := fnSortRow.holds Tryz.pinned (OpenSpec.ofChange fnSortWrong)

/- THE SECOND FORM. 'bulk': how many values and letters a reading holds, each counted each time it is reached (what is shared counts as often as it is met; a slice's spare places count too). A statement '..UptoSaid' is the law's where the arguments, and the package variables that the reading takes, are together of bulk at most 1048576: NARROWER than '..Said'. Prove '..Said' where nothing that the law and all that it calls make is longer than what came in: it says more and counts as full. Else prove '..UptoSaid'. A law counts once. -/
mutual
def uptoBulk {H : Type} : DataW H → Nat
  | .lit (.string bytes) => bytes.length + 1
  | .lit _ => 1
  | .nil => 1
  | .ptr d => uptoBulk d + 1
  | .slice elems spare => uptoBulkAll elems + uptoBulkAll spare + 1
  | .agg parts => uptoBulkAll parts + 1
  | .iface _ d => uptoBulk d + 1
  | .map entries => uptoBulkEntries entries + 1
  | .held _ => 1
def uptoBulkAll {H : Type} : List (DataW H) → Nat
  | [] => 0
  | d :: r => uptoBulk d + uptoBulkAll r
def uptoBulkEntries {H : Type} : List (Lit × DataW H) → Nat
  | [] => 0
  | x :: r => uptoBulkEntry x + uptoBulkEntries r
def uptoBulkEntry {H : Type} : Lit × DataW H → Nat
  | (.string bytes, d) => bytes.length + uptoBulk d + 1
  | (_, d) => uptoBulk d + 1
 end
def uptoSmall : (H : Type) → List (DataW H) → Bool := fun _ ds => decide (uptoBulkAll ds ≤ 1048576)
def OpenSpec.upto (s : _root_.Go.ChangeSpec) : _root_.Go.OpenSpec := { _root_.Go.OpenSpec.ofChange s with cond := some uptoSmall }

/-- 'laws.FnStampFromSmall', WHERE WHAT IT READS IS OF BULK AT MOST 1048576: true; the input reads as it did. -/
def fnStampFromSmallUptoRow : OpenClaim := { program := "ytdafjaimljhcaaagreatdoor", sum := "55fcf7a14db0707575c2e8d2a33cb1942988e78408b4afc2aaa9b5dc4b10fa13", func := "loop.example/datenotation/laws.FnStampFromSmall", spec := "fnStampFromSmall", inPlace := ["internal/reflectlite.ValueOf", "(internal/reflectlite.Value).Type", "(internal/reflectlite.Value).IsNil", "internal/reflectlite.TypeOf", "(internal/reflectlite.Value).Elem", "(internal/reflectlite.Value).Set"], unfollowed := true, recurses := true, named := ["loop.example/datenotation/impl.monthDays", "errors.errorType"], apart := false, laid := [("errors.errorType", laid_errors_errorType), ("loop.example/datenotation/impl.monthDays", laid_loop_example_datenotation_impl_monthDays)], narrowed := true }
def FnStampFromSmallUptoSaid : Prop := fnStampFromSmallUptoRow.holds Tryz.pinned (OpenSpec.upto fnStampFromSmallSpec)

/-- 'laws.FnStampText', WHERE WHAT IT READS IS OF BULK AT MOST 1048576: true; the input reads as it did. -/
def fnStampTextUptoRow : OpenClaim := { program := "ytdafjaimljhcaaagreatdoor", sum := "55fcf7a14db0707575c2e8d2a33cb1942988e78408b4afc2aaa9b5dc4b10fa13", func := "loop.example/datenotation/laws.FnStampText", spec := "fnStampText", inPlace := ["internal/bytealg.IndexByteString", "internal/bytealg.IndexString", "internal/reflectlite.ValueOf", "(internal/reflectlite.Value).Type", "(internal/reflectlite.Value).IsNil", "internal/reflectlite.TypeOf", "(internal/reflectlite.Value).Elem", "(internal/reflectlite.Value).Set"], unfollowed := true, recurses := true, named := ["loop.example/datenotation/impl.monthDays", "unicode/utf8.first", "unicode/utf8.acceptRanges", "errors.errorType", "internal/bytealg.MaxLen"], apart := false, laid := [("unicode/utf8.acceptRanges", laid_unicode_utf8_acceptRanges), ("errors.errorType", laid_errors_errorType), ("loop.example/datenotation/impl.monthDays", laid_loop_example_datenotation_impl_monthDays), ("unicode/utf8.first", laid_unicode_utf8_first)], narrowed := true }
def FnStampTextUptoSaid : Prop := fnStampTextUptoRow.holds Tryz.pinned (OpenSpec.upto fnStampTextSpec)

/-- 'laws.FnExactStampTidy', WHERE WHAT IT READS IS OF BULK AT MOST 1048576: true; the input reads as it did. -/
def fnExactStampTidyUptoRow : OpenClaim := { program := "ytdafjaimljhcaaagreatdoor", sum := "55fcf7a14db0707575c2e8d2a33cb1942988e78408b4afc2aaa9b5dc4b10fa13", func := "loop.example/datenotation/laws.FnExactStampTidy", spec := "fnExactStampTidy", inPlace := ["internal/reflectlite.ValueOf", "(internal/reflectlite.Value).Type", "(internal/reflectlite.Value).IsNil", "internal/reflectlite.TypeOf", "(internal/reflectlite.Value).Elem", "(internal/reflectlite.Value).Set", "internal/bytealg.IndexByteString", "internal/bytealg.IndexString"], unfollowed := true, recurses := true, named := ["loop.example/datenotation/impl.monthDays", "errors.errorType", "unicode/utf8.first", "unicode/utf8.acceptRanges", "internal/bytealg.MaxLen"], apart := false, laid := [("unicode/utf8.acceptRanges", laid_unicode_utf8_acceptRanges), ("errors.errorType", laid_errors_errorType), ("loop.example/datenotation/impl.monthDays", laid_loop_example_datenotation_impl_monthDays), ("unicode/utf8.first", laid_unicode_utf8_first)], narrowed := true }
def FnExactStampTidyUptoSaid : Prop := fnExactStampTidyUptoRow.holds Tryz.pinned (OpenSpec.upto fnExactStampTidySpec)

/-- 'laws.FnStampFrom', WHERE WHAT IT READS IS OF BULK AT MOST 1048576: true; the input reads as it did. -/
def fnStampFromUptoRow : OpenClaim := { program := "ytdafjaimljhcaaagreatdoor", sum := "55fcf7a14db0707575c2e8d2a33cb1942988e78408b4afc2aaa9b5dc4b10fa13", func := "loop.example/datenotation/laws.FnStampFrom", spec := "fnStampFrom", inPlace := ["internal/reflectlite.ValueOf", "(internal/reflectlite.Value).Type", "(internal/reflectlite.Value).IsNil", "internal/reflectlite.TypeOf", "(internal/reflectlite.Value).Elem", "(internal/reflectlite.Value).Set", "internal/bytealg.IndexByteString", "internal/bytealg.IndexString"], unfollowed := true, recurses := true, named := ["loop.example/datenotation/impl.monthDays", "errors.errorType", "unicode/utf8.first", "unicode/utf8.acceptRanges", "internal/bytealg.MaxLen"], apart := false, laid := [("unicode/utf8.acceptRanges", laid_unicode_utf8_acceptRanges), ("errors.errorType", laid_errors_errorType), ("loop.example/datenotation/impl.monthDays", laid_loop_example_datenotation_impl_monthDays), ("unicode/utf8.first", laid_unicode_utf8_first)], narrowed := true }
def FnStampFromUptoSaid : Prop := fnStampFromUptoRow.holds Tryz.pinned (OpenSpec.upto fnStampFromSpec)

/-- 'laws.FnTidy', WHERE WHAT IT READS IS OF BULK AT MOST 1048576: true; the input reads as it did. -/
def fnTidyUptoRow : OpenClaim := { program := "ytdafjaimljhcaaagreatdoor", sum := "55fcf7a14db0707575c2e8d2a33cb1942988e78408b4afc2aaa9b5dc4b10fa13", func := "loop.example/datenotation/laws.FnTidy", spec := "fnTidy", inPlace := ["internal/reflectlite.ValueOf", "(internal/reflectlite.Value).Type", "(internal/reflectlite.Value).IsNil", "internal/reflectlite.TypeOf", "(internal/reflectlite.Value).Elem", "(internal/reflectlite.Value).Set", "internal/bytealg.IndexByteString", "internal/bytealg.IndexString"], unfollowed := true, recurses := true, named := ["loop.example/datenotation/impl.monthDays", "errors.errorType", "unicode/utf8.first", "unicode/utf8.acceptRanges", "internal/bytealg.MaxLen"], apart := false, laid := [("unicode/utf8.acceptRanges", laid_unicode_utf8_acceptRanges), ("errors.errorType", laid_errors_errorType), ("loop.example/datenotation/impl.monthDays", laid_loop_example_datenotation_impl_monthDays), ("unicode/utf8.first", laid_unicode_utf8_first)], narrowed := true }
def FnTidyUptoSaid : Prop := fnTidyUptoRow.holds Tryz.pinned (OpenSpec.upto fnTidySpec)

/-- 'laws.FnExactStampsSort', WHERE WHAT IT READS IS OF BULK AT MOST 1048576: true; the input reads as it did. -/
def fnExactStampsSortUptoRow : OpenClaim := { program := "ytdafjaimljhcaaagreatdoor", sum := "55fcf7a14db0707575c2e8d2a33cb1942988e78408b4afc2aaa9b5dc4b10fa13", func := "loop.example/datenotation/laws.FnExactStampsSort", spec := "fnExactStampsSort", inPlace := ["internal/reflectlite.ValueOf", "(internal/reflectlite.Value).Type", "(internal/reflectlite.Value).IsNil", "internal/reflectlite.TypeOf", "(internal/reflectlite.Value).Elem", "(internal/reflectlite.Value).Set", "internal/bytealg.IndexByteString", "internal/bytealg.IndexString"], unfollowed := true, recurses := true, named := ["loop.example/datenotation/impl.monthDays", "errors.errorType", "unicode/utf8.first", "unicode/utf8.acceptRanges", "internal/bytealg.MaxLen"], apart := false, laid := [("unicode/utf8.acceptRanges", laid_unicode_utf8_acceptRanges), ("errors.errorType", laid_errors_errorType), ("loop.example/datenotation/impl.monthDays", laid_loop_example_datenotation_impl_monthDays), ("unicode/utf8.first", laid_unicode_utf8_first)], narrowed := true }
def FnExactStampsSortUptoSaid : Prop := fnExactStampsSortUptoRow.holds Tryz.pinned (OpenSpec.upto fnExactStampsSortSpec)

/-- 'laws.FnSortTwice', WHERE WHAT IT READS IS OF BULK AT MOST 1048576: true; the input reads as it did. -/
def fnSortTwiceUptoRow : OpenClaim := { program := "ytdafjaimljhcaaagreatdoor", sum := "55fcf7a14db0707575c2e8d2a33cb1942988e78408b4afc2aaa9b5dc4b10fa13", func := "loop.example/datenotation/laws.FnSortTwice", spec := "fnSortTwice", inPlace := ["internal/reflectlite.ValueOf", "(internal/reflectlite.Value).Type", "(internal/reflectlite.Value).IsNil", "internal/reflectlite.TypeOf", "(internal/reflectlite.Value).Elem", "(internal/reflectlite.Value).Set", "internal/bytealg.IndexByteString", "internal/bytealg.IndexString"], unfollowed := true, recurses := true, named := ["loop.example/datenotation/impl.monthDays", "errors.errorType", "unicode/utf8.first", "unicode/utf8.acceptRanges", "internal/bytealg.MaxLen"], apart := false, laid := [("unicode/utf8.acceptRanges", laid_unicode_utf8_acceptRanges), ("errors.errorType", laid_errors_errorType), ("loop.example/datenotation/impl.monthDays", laid_loop_example_datenotation_impl_monthDays), ("unicode/utf8.first", laid_unicode_utf8_first)], narrowed := true }
def FnSortTwiceUptoSaid : Prop := fnSortTwiceUptoRow.holds Tryz.pinned (OpenSpec.upto fnSortTwiceSpec)

/-- 'laws.FnSortAll', WHERE WHAT IT READS IS OF BULK AT MOST 1048576: true; the input reads as it did. -/
def fnSortAllUptoRow : OpenClaim := { program := "ytdafjaimljhcaaagreatdoor", sum := "55fcf7a14db0707575c2e8d2a33cb1942988e78408b4afc2aaa9b5dc4b10fa13", func := "loop.example/datenotation/laws.FnSortAll", spec := "fnSortAll", inPlace := ["internal/reflectlite.ValueOf", "(internal/reflectlite.Value).Type", "(internal/reflectlite.Value).IsNil", "internal/reflectlite.TypeOf", "(internal/reflectlite.Value).Elem", "(internal/reflectlite.Value).Set", "internal/bytealg.IndexByteString", "internal/bytealg.IndexString"], unfollowed := true, recurses := true, named := ["loop.example/datenotation/impl.monthDays", "errors.errorType", "unicode/utf8.first", "unicode/utf8.acceptRanges", "internal/bytealg.MaxLen"], apart := false, laid := [("unicode/utf8.acceptRanges", laid_unicode_utf8_acceptRanges), ("errors.errorType", laid_errors_errorType), ("loop.example/datenotation/impl.monthDays", laid_loop_example_datenotation_impl_monthDays), ("unicode/utf8.first", laid_unicode_utf8_first)], narrowed := true }
def FnSortAllUptoSaid : Prop := fnSortAllUptoRow.holds Tryz.pinned (OpenSpec.upto fnSortAllSpec)

/-- 'laws.FnSort', WHERE WHAT IT READS IS OF BULK AT MOST 1048576: true; the input reads as it did. -/
def fnSortUptoRow : OpenClaim := { program := "ytdafjaimljhcaaagreatdoor", sum := "55fcf7a14db0707575c2e8d2a33cb1942988e78408b4afc2aaa9b5dc4b10fa13", func := "loop.example/datenotation/laws.FnSort", spec := "fnSort", inPlace := ["internal/reflectlite.ValueOf", "(internal/reflectlite.Value).Type", "(internal/reflectlite.Value).IsNil", "internal/reflectlite.TypeOf", "(internal/reflectlite.Value).Elem", "(internal/reflectlite.Value).Set", "internal/bytealg.IndexByteString", "internal/bytealg.IndexString"], unfollowed := true, recurses := true, named := ["loop.example/datenotation/impl.monthDays", "errors.errorType", "unicode/utf8.first", "unicode/utf8.acceptRanges", "internal/bytealg.MaxLen"], apart := false, laid := [("unicode/utf8.acceptRanges", laid_unicode_utf8_acceptRanges), ("errors.errorType", laid_errors_errorType), ("loop.example/datenotation/impl.monthDays", laid_loop_example_datenotation_impl_monthDays), ("unicode/utf8.first", laid_unicode_utf8_first)], narrowed := true }
def FnSortUptoSaid : Prop := fnSortUptoRow.holds Tryz.pinned (OpenSpec.upto fnSortSpec)

end Rows
end Go.Proofs.YtdafjaimljhcaaaGreatDoor
