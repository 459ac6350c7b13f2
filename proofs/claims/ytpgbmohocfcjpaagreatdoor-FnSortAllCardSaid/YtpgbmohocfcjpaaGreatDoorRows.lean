/-
  NARROWER THAN 'FOR EVERY INPUT', by the rows' own cells (each row's printed sentence says how): FnExactStampsSort: laid · FnSortTwice: laid · FnSortAll: laid · FnSort: laid · FnExactSpanFrom: laid · FnSpanText: laid · FnSpanFrom: laid · FnSpanPeriod: laid · FnSpanPeriodBack: laid · FnExactRepeatFrom: laid · FnRepeatText: laid · FnRepeatFrom: laid.
  DERIVED. THE GIVEN ROWS OF THIS SEAT. 12 by the template 'for every input the law returns true; each argument reads behind the call as it read before'; 0 by the template 'total and deterministic' (their statements: YtpgbmohocfcjpaaGreatDoorTotals.lean).
  GIVEN WITH THE SEED: the statements are not yours to turn. If you find one false, say at which input.
  Laid BY PROGRAM, IN A SANDBOX (cutbox-rows.mjs): the forced cells as the released guide's own fill.sh prints them over the translation b77d772dbf615492… (all of the seat's roots in one cut). By AI agents, Wed Nov 11 2026. No macro, syntax, notation, axiom, sorry.
-/
import Derived.Test.YtpgbmohocfcjpaaGreatDoorChecked
import GoSem.PinnedTables
import GoSem.Claim
import GoSem.ClaimJoined
import GoSem.ClaimMapViews
import Derived.JoinedTies
import Derived.KernelRfl
namespace Go.Proofs.YtpgbmohocfcjpaaGreatDoor
/- THE CELL 'sum', in the pinned program and in every row, IS THE sha256 OF THE DUMP (.gsa) THAT YtpgbmohocfcjpaaGreatDoorProg.lean LOADS. Nothing in Lean hashes anything: it is a label: what it is worth is what the hold of that sum in a sandbox is worth. -/
noncomputable def Tryz.pinned : Pinned := { name := "ytpgbmohocfcjpaagreatdoor", sum := "b77d772dbf615492b0cbe31c2acfda32abee99a82051e2103386aa4dd2ff95a7", checked := Tryz.checked }
namespace Rows
def none {H : Type} : Left H := { results := [], args := [] }

/- WHAT THE LISTED PACKAGE-LEVEL VARIABLES READ AS WHEN THE CALL BEGINS. Each datum BY PROGRAM (the guide's laid-datum.mjs) off the statement by which the dump's own 'gosem.cut.vars' lays the variable. In a bare row this is a premise. The card (YtpgbmohocfcjpaaGreatDoorCards.lean) ties it to the program's text. -/
def laid_unicode_utf8_acceptRanges {H : Type} : DataW H := .agg [.agg [.lit (.int .u8 128), .lit (.int .u8 191)], .agg [.lit (.int .u8 160), .lit (.int .u8 191)], .agg [.lit (.int .u8 128), .lit (.int .u8 159)], .agg [.lit (.int .u8 144), .lit (.int .u8 191)], .agg [.lit (.int .u8 128), .lit (.int .u8 143)], .agg [.lit (.int .u8 0), .lit (.int .u8 0)], .agg [.lit (.int .u8 0), .lit (.int .u8 0)], .agg [.lit (.int .u8 0), .lit (.int .u8 0)], .agg [.lit (.int .u8 0), .lit (.int .u8 0)], .agg [.lit (.int .u8 0), .lit (.int .u8 0)], .agg [.lit (.int .u8 0), .lit (.int .u8 0)], .agg [.lit (.int .u8 0), .lit (.int .u8 0)], .agg [.lit (.int .u8 0), .lit (.int .u8 0)], .agg [.lit (.int .u8 0), .lit (.int .u8 0)], .agg [.lit (.int .u8 0), .lit (.int .u8 0)], .agg [.lit (.int .u8 0), .lit (.int .u8 0)]]
def laid_errors_errorType {H : Type} : DataW H := .iface "internal/reflectlite.rtype" (.agg [.ptr (.lit (.string [101, 114, 114, 111, 114]))])
def laid_loop_example_datenotation_impl_monthDays {H : Type} : DataW H := .agg [.lit (.int .i64 31), .lit (.int .i64 28), .lit (.int .i64 31), .lit (.int .i64 30), .lit (.int .i64 31), .lit (.int .i64 30), .lit (.int .i64 31), .lit (.int .i64 31), .lit (.int .i64 30), .lit (.int .i64 31), .lit (.int .i64 30), .lit (.int .i64 31)]
/-- One of Go's own tables, pinned by name: the form's constant. -/
def laid_unicode_utf8_first : DataW Unit := Go.Pinned.utf8First
def laid_math_bits_deBruijn32tab {H : Type} : DataW H := .agg [.lit (.int .u8 0), .lit (.int .u8 1), .lit (.int .u8 28), .lit (.int .u8 2), .lit (.int .u8 29), .lit (.int .u8 14), .lit (.int .u8 24), .lit (.int .u8 3), .lit (.int .u8 30), .lit (.int .u8 22), .lit (.int .u8 20), .lit (.int .u8 15), .lit (.int .u8 25), .lit (.int .u8 17), .lit (.int .u8 4), .lit (.int .u8 8), .lit (.int .u8 31), .lit (.int .u8 27), .lit (.int .u8 13), .lit (.int .u8 23), .lit (.int .u8 21), .lit (.int .u8 19), .lit (.int .u8 16), .lit (.int .u8 7), .lit (.int .u8 26), .lit (.int .u8 12), .lit (.int .u8 18), .lit (.int .u8 6), .lit (.int .u8 11), .lit (.int .u8 5), .lit (.int .u8 10), .lit (.int .u8 9)]
def laid_math_bits_deBruijn64tab {H : Type} : DataW H := .agg [.lit (.int .u8 0), .lit (.int .u8 1), .lit (.int .u8 56), .lit (.int .u8 2), .lit (.int .u8 57), .lit (.int .u8 49), .lit (.int .u8 28), .lit (.int .u8 3), .lit (.int .u8 61), .lit (.int .u8 58), .lit (.int .u8 42), .lit (.int .u8 50), .lit (.int .u8 38), .lit (.int .u8 29), .lit (.int .u8 17), .lit (.int .u8 4), .lit (.int .u8 62), .lit (.int .u8 47), .lit (.int .u8 59), .lit (.int .u8 36), .lit (.int .u8 45), .lit (.int .u8 43), .lit (.int .u8 51), .lit (.int .u8 22), .lit (.int .u8 53), .lit (.int .u8 39), .lit (.int .u8 33), .lit (.int .u8 30), .lit (.int .u8 24), .lit (.int .u8 18), .lit (.int .u8 12), .lit (.int .u8 5), .lit (.int .u8 63), .lit (.int .u8 55), .lit (.int .u8 48), .lit (.int .u8 27), .lit (.int .u8 60), .lit (.int .u8 41), .lit (.int .u8 37), .lit (.int .u8 16), .lit (.int .u8 46), .lit (.int .u8 35), .lit (.int .u8 44), .lit (.int .u8 21), .lit (.int .u8 52), .lit (.int .u8 32), .lit (.int .u8 23), .lit (.int .u8 11), .lit (.int .u8 54), .lit (.int .u8 26), .lit (.int .u8 40), .lit (.int .u8 15), .lit (.int .u8 34), .lit (.int .u8 20), .lit (.int .u8 31), .lit (.int .u8 10), .lit (.int .u8 25), .lit (.int .u8 14), .lit (.int .u8 19), .lit (.int .u8 9), .lit (.int .u8 13), .lit (.int .u8 8), .lit (.int .u8 7), .lit (.int .u8 6)]
def laid_internal_strconv_uint64pow10 {H : Type} : DataW H := .agg [.lit (.int .u64 1), .lit (.int .u64 10), .lit (.int .u64 100), .lit (.int .u64 1000), .lit (.int .u64 10000), .lit (.int .u64 100000), .lit (.int .u64 1000000), .lit (.int .u64 10000000), .lit (.int .u64 100000000), .lit (.int .u64 1000000000), .lit (.int .u64 10000000000), .lit (.int .u64 100000000000), .lit (.int .u64 1000000000000), .lit (.int .u64 10000000000000), .lit (.int .u64 100000000000000), .lit (.int .u64 1000000000000000), .lit (.int .u64 10000000000000000), .lit (.int .u64 100000000000000000), .lit (.int .u64 1000000000000000000), .lit (.int .u64 10000000000000000000)]

/-- 'laws.FnExactStampsSort': WHATEVER THE INPUT: true; the input reads as it did. -/
def fnExactStampsSortSpec : ChangeSpec := { name := "fnExactStampsSort", vars := ["loop.example/datenotation/impl.monthDays"], fn := fun _ => fun
  | [d, g1] => { results := [.lit (.bool true)], args := [d], vars := [g1] }
  | _ => none }
def fnExactStampsSortRow : OpenClaim := { program := "ytpgbmohocfcjpaagreatdoor", sum := "b77d772dbf615492b0cbe31c2acfda32abee99a82051e2103386aa4dd2ff95a7", func := "loop.example/datenotation/laws.FnExactStampsSort", spec := "fnExactStampsSort", inPlace := ["internal/reflectlite.ValueOf", "(internal/reflectlite.Value).Type", "(internal/reflectlite.Value).IsNil", "internal/reflectlite.TypeOf", "(internal/reflectlite.Value).Elem", "(internal/reflectlite.Value).Set", "internal/bytealg.IndexByteString", "internal/bytealg.IndexString"], unfollowed := true, recurses := true, named := ["loop.example/datenotation/impl.monthDays", "errors.errorType", "unicode/utf8.first", "unicode/utf8.acceptRanges", "internal/bytealg.MaxLen"], apart := false, laid := [("unicode/utf8.acceptRanges", laid_unicode_utf8_acceptRanges), ("errors.errorType", laid_errors_errorType), ("loop.example/datenotation/impl.monthDays", laid_loop_example_datenotation_impl_monthDays), ("unicode/utf8.first", laid_unicode_utf8_first)] }
def FnExactStampsSortSaid : Prop := fnExactStampsSortRow.holds Tryz.pinned (OpenSpec.ofChange fnExactStampsSortSpec)

/-- ITS FALSE NEIGHBOUR: 'it returns false'. Refute it at one input. -/
def fnExactStampsSortWrong : ChangeSpec := { name := "fnExactStampsSort", vars := ["loop.example/datenotation/impl.monthDays"], fn := fun _ => fun
  | [d, g1] => { results := [.lit (.bool false)], args := [d], vars := [g1] }
  | _ => none }
def FnExactStampsSortWrongFalsely : Prop := fnExactStampsSortRow.holds Tryz.pinned (OpenSpec.ofChange fnExactStampsSortWrong)

/-- 'laws.FnSortTwice': WHATEVER THE INPUT: true; the input reads as it did. -/
def fnSortTwiceSpec : ChangeSpec := { name := "fnSortTwice", vars := ["loop.example/datenotation/impl.monthDays"], fn := fun _ => fun
  | [d, g1] => { results := [.lit (.bool true)], args := [d], vars := [g1] }
  | _ => none }
def fnSortTwiceRow : OpenClaim := { program := "ytpgbmohocfcjpaagreatdoor", sum := "b77d772dbf615492b0cbe31c2acfda32abee99a82051e2103386aa4dd2ff95a7", func := "loop.example/datenotation/laws.FnSortTwice", spec := "fnSortTwice", inPlace := ["internal/reflectlite.ValueOf", "(internal/reflectlite.Value).Type", "(internal/reflectlite.Value).IsNil", "internal/reflectlite.TypeOf", "(internal/reflectlite.Value).Elem", "(internal/reflectlite.Value).Set", "internal/bytealg.IndexByteString", "internal/bytealg.IndexString"], unfollowed := true, recurses := true, named := ["loop.example/datenotation/impl.monthDays", "errors.errorType", "unicode/utf8.first", "unicode/utf8.acceptRanges", "internal/bytealg.MaxLen"], apart := false, laid := [("unicode/utf8.acceptRanges", laid_unicode_utf8_acceptRanges), ("errors.errorType", laid_errors_errorType), ("loop.example/datenotation/impl.monthDays", laid_loop_example_datenotation_impl_monthDays), ("unicode/utf8.first", laid_unicode_utf8_first)] }
def FnSortTwiceSaid : Prop := fnSortTwiceRow.holds Tryz.pinned (OpenSpec.ofChange fnSortTwiceSpec)

/-- ITS FALSE NEIGHBOUR: 'it returns false'. Refute it at one input. -/
def fnSortTwiceWrong : ChangeSpec := { name := "fnSortTwice", vars := ["loop.example/datenotation/impl.monthDays"], fn := fun _ => fun
  | [d, g1] => { results := [.lit (.bool false)], args := [d], vars := [g1] }
  | _ => none }
def FnSortTwiceWrongFalsely : Prop := fnSortTwiceRow.holds Tryz.pinned (OpenSpec.ofChange fnSortTwiceWrong)

/-- 'laws.FnSortAll': WHATEVER THE INPUT: true; the input reads as it did. -/
def fnSortAllSpec : ChangeSpec := { name := "fnSortAll", vars := ["loop.example/datenotation/impl.monthDays"], fn := fun _ => fun
  | [d, g1] => { results := [.lit (.bool true)], args := [d], vars := [g1] }
  | _ => none }
def fnSortAllRow : OpenClaim := { program := "ytpgbmohocfcjpaagreatdoor", sum := "b77d772dbf615492b0cbe31c2acfda32abee99a82051e2103386aa4dd2ff95a7", func := "loop.example/datenotation/laws.FnSortAll", spec := "fnSortAll", inPlace := ["internal/reflectlite.ValueOf", "(internal/reflectlite.Value).Type", "(internal/reflectlite.Value).IsNil", "internal/reflectlite.TypeOf", "(internal/reflectlite.Value).Elem", "(internal/reflectlite.Value).Set", "internal/bytealg.IndexByteString", "internal/bytealg.IndexString"], unfollowed := true, recurses := true, named := ["loop.example/datenotation/impl.monthDays", "errors.errorType", "unicode/utf8.first", "unicode/utf8.acceptRanges", "internal/bytealg.MaxLen"], apart := false, laid := [("unicode/utf8.acceptRanges", laid_unicode_utf8_acceptRanges), ("errors.errorType", laid_errors_errorType), ("loop.example/datenotation/impl.monthDays", laid_loop_example_datenotation_impl_monthDays), ("unicode/utf8.first", laid_unicode_utf8_first)] }
def FnSortAllSaid : Prop := fnSortAllRow.holds Tryz.pinned (OpenSpec.ofChange fnSortAllSpec)

/-- ITS FALSE NEIGHBOUR: 'it returns false'. Refute it at one input. -/
def fnSortAllWrong : ChangeSpec := { name := "fnSortAll", vars := ["loop.example/datenotation/impl.monthDays"], fn := fun _ => fun
  | [d, g1] => { results := [.lit (.bool false)], args := [d], vars := [g1] }
  | _ => none }
def FnSortAllWrongFalsely : Prop := fnSortAllRow.holds Tryz.pinned (OpenSpec.ofChange fnSortAllWrong)

/-- 'laws.FnSort': WHATEVER THE INPUT: true; the input reads as it did. -/
def fnSortSpec : ChangeSpec := { name := "fnSort", vars := ["loop.example/datenotation/impl.monthDays"], fn := fun _ => fun
  | [d, g1] => { results := [.lit (.bool true)], args := [d], vars := [g1] }
  | _ => none }
def fnSortRow : OpenClaim := { program := "ytpgbmohocfcjpaagreatdoor", sum := "b77d772dbf615492b0cbe31c2acfda32abee99a82051e2103386aa4dd2ff95a7", func := "loop.example/datenotation/laws.FnSort", spec := "fnSort", inPlace := ["internal/reflectlite.ValueOf", "(internal/reflectlite.Value).Type", "(internal/reflectlite.Value).IsNil", "internal/reflectlite.TypeOf", "(internal/reflectlite.Value).Elem", "(internal/reflectlite.Value).Set", "internal/bytealg.IndexByteString", "internal/bytealg.IndexString"], unfollowed := true, recurses := true, named := ["loop.example/datenotation/impl.monthDays", "errors.errorType", "unicode/utf8.first", "unicode/utf8.acceptRanges", "internal/bytealg.MaxLen"], apart := false, laid := [("unicode/utf8.acceptRanges", laid_unicode_utf8_acceptRanges), ("errors.errorType", laid_errors_errorType), ("loop.example/datenotation/impl.monthDays", laid_loop_example_datenotation_impl_monthDays), ("unicode/utf8.first", laid_unicode_utf8_first)] }
def FnSortSaid : Prop := fnSortRow.holds Tryz.pinned (OpenSpec.ofChange fnSortSpec)

/-- ITS FALSE NEIGHBOUR: 'it returns false'. Refute it at one input. -/
def fnSortWrong : ChangeSpec := { name := "fnSort", vars := ["loop.example/datenotation/impl.monthDays"], fn := fun _ => fun
  | [d, g1] => { results := [.lit (.bool false)], args := [d], vars := [g1] }
  | _ => none }
def FnSortWrongFalsely : Prop := fnSortRow.holds Tryz.pinned (OpenSpec.ofChange fnSortWrong)

/-- 'laws.FnExactSpanFrom': WHATEVER THE INPUT: true; the input reads as it did. -/
def fnExactSpanFromSpec : ChangeSpec := { name := "fnExactSpanFrom", vars := ["loop.example/datenotation/impl.monthDays"], fn := fun _ => fun
  | [d, g1] => { results := [.lit (.bool true)], args := [d], vars := [g1] }
  | _ => none }
def fnExactSpanFromRow : OpenClaim := { program := "ytpgbmohocfcjpaagreatdoor", sum := "b77d772dbf615492b0cbe31c2acfda32abee99a82051e2103386aa4dd2ff95a7", func := "loop.example/datenotation/laws.FnExactSpanFrom", spec := "fnExactSpanFrom", inPlace := ["internal/bytealg.IndexByteString", "internal/bytealg.IndexString", "internal/reflectlite.ValueOf", "(internal/reflectlite.Value).Type", "(internal/reflectlite.Value).IsNil", "internal/reflectlite.TypeOf", "(internal/reflectlite.Value).Elem", "(internal/reflectlite.Value).Set"], unfollowed := true, recurses := true, named := ["internal/bytealg.MaxLen", "loop.example/datenotation/impl.monthDays", "errors.errorType"], apart := false, laid := [("errors.errorType", laid_errors_errorType), ("loop.example/datenotation/impl.monthDays", laid_loop_example_datenotation_impl_monthDays)] }
def FnExactSpanFromSaid : Prop := fnExactSpanFromRow.holds Tryz.pinned (OpenSpec.ofChange fnExactSpanFromSpec)

/-- ITS FALSE NEIGHBOUR: 'it returns false'. Refute it at one input. -/
def fnExactSpanFromWrong : ChangeSpec := { name := "fnExactSpanFrom", vars := ["loop.example/datenotation/impl.monthDays"], fn := fun _ => fun
  | [d, g1] => { results := [.lit (.bool false)], args := [d], vars := [g1] }
  | _ => none }
def FnExactSpanFromWrongFalsely : Prop := fnExactSpanFromRow.holds Tryz.pinned (OpenSpec.ofChange fnExactSpanFromWrong)

/-- 'laws.FnSpanText': WHATEVER THE INPUT: true; the input reads as it did. -/
def fnSpanTextSpec : ChangeSpec := { name := "fnSpanText", vars := ["loop.example/datenotation/impl.monthDays"], fn := fun _ => fun
  | [d, g1] => { results := [.lit (.bool true)], args := [d], vars := [g1] }
  | _ => none }
def fnSpanTextRow : OpenClaim := { program := "ytpgbmohocfcjpaagreatdoor", sum := "b77d772dbf615492b0cbe31c2acfda32abee99a82051e2103386aa4dd2ff95a7", func := "loop.example/datenotation/laws.FnSpanText", spec := "fnSpanText", inPlace := ["internal/bytealg.IndexByteString", "internal/bytealg.IndexString", "internal/reflectlite.ValueOf", "(internal/reflectlite.Value).Type", "(internal/reflectlite.Value).IsNil", "internal/reflectlite.TypeOf", "(internal/reflectlite.Value).Elem", "(internal/reflectlite.Value).Set"], unfollowed := true, recurses := true, named := ["loop.example/datenotation/impl.monthDays", "unicode/utf8.first", "unicode/utf8.acceptRanges", "internal/bytealg.MaxLen", "errors.errorType"], apart := false, laid := [("unicode/utf8.acceptRanges", laid_unicode_utf8_acceptRanges), ("errors.errorType", laid_errors_errorType), ("loop.example/datenotation/impl.monthDays", laid_loop_example_datenotation_impl_monthDays), ("unicode/utf8.first", laid_unicode_utf8_first)] }
def FnSpanTextSaid : Prop := fnSpanTextRow.holds Tryz.pinned (OpenSpec.ofChange fnSpanTextSpec)

/-- ITS FALSE NEIGHBOUR: 'it returns false'. Refute it at one input. -/
def fnSpanTextWrong : ChangeSpec := { name := "fnSpanText", vars := ["loop.example/datenotation/impl.monthDays"], fn := fun _ => fun
  | [d, g1] => { results := [.lit (.bool false)], args := [d], vars := [g1] }
  | _ => none }
def FnSpanTextWrongFalsely : Prop := fnSpanTextRow.holds Tryz.pinned (OpenSpec.ofChange fnSpanTextWrong)

/-- 'laws.FnSpanFrom': WHATEVER THE INPUT: true; the input reads as it did. -/
def fnSpanFromSpec : ChangeSpec := { name := "fnSpanFrom", vars := ["loop.example/datenotation/impl.monthDays"], fn := fun _ => fun
  | [d, g1] => { results := [.lit (.bool true)], args := [d], vars := [g1] }
  | _ => none }
def fnSpanFromRow : OpenClaim := { program := "ytpgbmohocfcjpaagreatdoor", sum := "b77d772dbf615492b0cbe31c2acfda32abee99a82051e2103386aa4dd2ff95a7", func := "loop.example/datenotation/laws.FnSpanFrom", spec := "fnSpanFrom", inPlace := ["internal/bytealg.IndexByteString", "internal/bytealg.IndexString", "internal/reflectlite.ValueOf", "(internal/reflectlite.Value).Type", "(internal/reflectlite.Value).IsNil", "internal/reflectlite.TypeOf", "(internal/reflectlite.Value).Elem", "(internal/reflectlite.Value).Set"], unfollowed := true, recurses := true, named := ["internal/bytealg.MaxLen", "loop.example/datenotation/impl.monthDays", "errors.errorType"], apart := false, laid := [("errors.errorType", laid_errors_errorType), ("loop.example/datenotation/impl.monthDays", laid_loop_example_datenotation_impl_monthDays)] }
def FnSpanFromSaid : Prop := fnSpanFromRow.holds Tryz.pinned (OpenSpec.ofChange fnSpanFromSpec)

/-- ITS FALSE NEIGHBOUR: 'it returns false'. Refute it at one input. -/
def fnSpanFromWrong : ChangeSpec := { name := "fnSpanFrom", vars := ["loop.example/datenotation/impl.monthDays"], fn := fun _ => fun
  | [d, g1] => { results := [.lit (.bool false)], args := [d], vars := [g1] }
  | _ => none }
def FnSpanFromWrongFalsely : Prop := fnSpanFromRow.holds Tryz.pinned (OpenSpec.ofChange fnSpanFromWrong)

/-- 'laws.FnSpanPeriod': WHATEVER THE INPUT: true; the input reads as it did. -/
def fnSpanPeriodSpec : ChangeSpec := { name := "fnSpanPeriod", vars := ["loop.example/datenotation/impl.monthDays"], fn := fun _ => fun
  | [d1, d2, g1] => { results := [.lit (.bool true)], args := [d1, d2], vars := [g1] }
  | _ => none }
def fnSpanPeriodRow : OpenClaim := { program := "ytpgbmohocfcjpaagreatdoor", sum := "b77d772dbf615492b0cbe31c2acfda32abee99a82051e2103386aa4dd2ff95a7", func := "loop.example/datenotation/laws.FnSpanPeriod", spec := "fnSpanPeriod", inPlace := ["internal/bytealg.IndexByteString", "internal/bytealg.IndexString", "internal/reflectlite.ValueOf", "(internal/reflectlite.Value).Type", "(internal/reflectlite.Value).IsNil", "internal/reflectlite.TypeOf", "(internal/reflectlite.Value).Elem", "(internal/reflectlite.Value).Set"], unfollowed := true, recurses := true, named := ["internal/bytealg.MaxLen", "loop.example/datenotation/impl.monthDays", "errors.errorType", "unicode/utf8.first", "unicode/utf8.acceptRanges", "internal/strconv.uint64pow10", "math/bits.deBruijn32tab", "math/bits.deBruijn64tab"], apart := false, laid := [("math/bits.deBruijn32tab", laid_math_bits_deBruijn32tab), ("math/bits.deBruijn64tab", laid_math_bits_deBruijn64tab), ("internal/strconv.uint64pow10", laid_internal_strconv_uint64pow10), ("unicode/utf8.acceptRanges", laid_unicode_utf8_acceptRanges), ("errors.errorType", laid_errors_errorType), ("loop.example/datenotation/impl.monthDays", laid_loop_example_datenotation_impl_monthDays), ("unicode/utf8.first", laid_unicode_utf8_first)] }
def FnSpanPeriodSaid : Prop := fnSpanPeriodRow.holds Tryz.pinned (OpenSpec.ofChange fnSpanPeriodSpec)

/-- ITS FALSE NEIGHBOUR: 'it returns false'. Refute it at one input. -/
def fnSpanPeriodWrong : ChangeSpec := { name := "fnSpanPeriod", vars := ["loop.example/datenotation/impl.monthDays"], fn := fun _ => fun
  | [d1, d2, g1] => { results := [.lit (.bool false)], args := [d1, d2], vars := [g1] }
  | _ => none }
def FnSpanPeriodWrongFalsely : Prop := fnSpanPeriodRow.holds Tryz.pinned (OpenSpec.ofChange fnSpanPeriodWrong)

/-- 'laws.FnSpanPeriodBack': WHATEVER THE INPUT: true; the input reads as it did. -/
def fnSpanPeriodBackSpec : ChangeSpec := { name := "fnSpanPeriodBack", vars := ["loop.example/datenotation/impl.monthDays"], fn := fun _ => fun
  | [d1, d2, g1] => { results := [.lit (.bool true)], args := [d1, d2], vars := [g1] }
  | _ => none }
def fnSpanPeriodBackRow : OpenClaim := { program := "ytpgbmohocfcjpaagreatdoor", sum := "b77d772dbf615492b0cbe31c2acfda32abee99a82051e2103386aa4dd2ff95a7", func := "loop.example/datenotation/laws.FnSpanPeriodBack", spec := "fnSpanPeriodBack", inPlace := ["internal/bytealg.IndexByteString", "internal/bytealg.IndexString", "internal/reflectlite.ValueOf", "(internal/reflectlite.Value).Type", "(internal/reflectlite.Value).IsNil", "internal/reflectlite.TypeOf", "(internal/reflectlite.Value).Elem", "(internal/reflectlite.Value).Set"], unfollowed := true, recurses := true, named := ["internal/bytealg.MaxLen", "loop.example/datenotation/impl.monthDays", "errors.errorType", "internal/strconv.uint64pow10", "math/bits.deBruijn32tab", "math/bits.deBruijn64tab", "unicode/utf8.first", "unicode/utf8.acceptRanges"], apart := false, laid := [("math/bits.deBruijn32tab", laid_math_bits_deBruijn32tab), ("math/bits.deBruijn64tab", laid_math_bits_deBruijn64tab), ("internal/strconv.uint64pow10", laid_internal_strconv_uint64pow10), ("unicode/utf8.acceptRanges", laid_unicode_utf8_acceptRanges), ("errors.errorType", laid_errors_errorType), ("loop.example/datenotation/impl.monthDays", laid_loop_example_datenotation_impl_monthDays), ("unicode/utf8.first", laid_unicode_utf8_first)] }
def FnSpanPeriodBackSaid : Prop := fnSpanPeriodBackRow.holds Tryz.pinned (OpenSpec.ofChange fnSpanPeriodBackSpec)

/-- ITS FALSE NEIGHBOUR: 'it returns false'. Refute it at one input. -/
def fnSpanPeriodBackWrong : ChangeSpec := { name := "fnSpanPeriodBack", vars := ["loop.example/datenotation/impl.monthDays"], fn := fun _ => fun
  | [d1, d2, g1] => { results := [.lit (.bool false)], args := [d1, d2], vars := [g1] }
  | _ => none }
def FnSpanPeriodBackWrongFalsely : Prop := fnSpanPeriodBackRow.holds Tryz.pinned (OpenSpec.ofChange fnSpanPeriodBackWrong)

/-- 'laws.FnExactRepeatFrom': WHATEVER THE INPUT: true; the input reads as it did. -/
def fnExactRepeatFromSpec : ChangeSpec := { name := "fnExactRepeatFrom", vars := ["loop.example/datenotation/impl.monthDays"], fn := fun _ => fun
  | [d, g1] => { results := [.lit (.bool true)], args := [d], vars := [g1] }
  | _ => none }
def fnExactRepeatFromRow : OpenClaim := { program := "ytpgbmohocfcjpaagreatdoor", sum := "b77d772dbf615492b0cbe31c2acfda32abee99a82051e2103386aa4dd2ff95a7", func := "loop.example/datenotation/laws.FnExactRepeatFrom", spec := "fnExactRepeatFrom", inPlace := ["internal/reflectlite.ValueOf", "(internal/reflectlite.Value).Type", "(internal/reflectlite.Value).IsNil", "internal/reflectlite.TypeOf", "(internal/reflectlite.Value).Elem", "(internal/reflectlite.Value).Set"], unfollowed := true, recurses := true, named := ["loop.example/datenotation/impl.monthDays", "errors.errorType"], apart := false, laid := [("errors.errorType", laid_errors_errorType), ("loop.example/datenotation/impl.monthDays", laid_loop_example_datenotation_impl_monthDays)] }
def FnExactRepeatFromSaid : Prop := fnExactRepeatFromRow.holds Tryz.pinned (OpenSpec.ofChange fnExactRepeatFromSpec)

/-- ITS FALSE NEIGHBOUR: 'it returns false'. Refute it at one input. -/
def fnExactRepeatFromWrong : ChangeSpec := { name := "fnExactRepeatFrom", vars := ["loop.example/datenotation/impl.monthDays"], fn := fun _ => fun
  | [d, g1] => { results := [.lit (.bool false)], args := [d], vars := [g1] }
  | _ => none }
def FnExactRepeatFromWrongFalsely : Prop := fnExactRepeatFromRow.holds Tryz.pinned (OpenSpec.ofChange fnExactRepeatFromWrong)

/-- 'laws.FnRepeatText': WHATEVER THE INPUT: true; the input reads as it did. -/
def fnRepeatTextSpec : ChangeSpec := { name := "fnRepeatText", vars := ["loop.example/datenotation/impl.monthDays"], fn := fun _ => fun
  | [d, g1] => { results := [.lit (.bool true)], args := [d], vars := [g1] }
  | _ => none }
def fnRepeatTextRow : OpenClaim := { program := "ytpgbmohocfcjpaagreatdoor", sum := "b77d772dbf615492b0cbe31c2acfda32abee99a82051e2103386aa4dd2ff95a7", func := "loop.example/datenotation/laws.FnRepeatText", spec := "fnRepeatText", inPlace := ["internal/bytealg.IndexByteString", "internal/bytealg.IndexString", "internal/reflectlite.ValueOf", "(internal/reflectlite.Value).Type", "(internal/reflectlite.Value).IsNil", "internal/reflectlite.TypeOf", "(internal/reflectlite.Value).Elem", "(internal/reflectlite.Value).Set"], unfollowed := true, recurses := true, named := ["loop.example/datenotation/impl.monthDays", "internal/strconv.uint64pow10", "math/bits.deBruijn32tab", "math/bits.deBruijn64tab", "unicode/utf8.first", "unicode/utf8.acceptRanges", "errors.errorType", "internal/bytealg.MaxLen"], apart := false, laid := [("math/bits.deBruijn32tab", laid_math_bits_deBruijn32tab), ("math/bits.deBruijn64tab", laid_math_bits_deBruijn64tab), ("internal/strconv.uint64pow10", laid_internal_strconv_uint64pow10), ("unicode/utf8.acceptRanges", laid_unicode_utf8_acceptRanges), ("errors.errorType", laid_errors_errorType), ("loop.example/datenotation/impl.monthDays", laid_loop_example_datenotation_impl_monthDays), ("unicode/utf8.first", laid_unicode_utf8_first)] }
def FnRepeatTextSaid : Prop := fnRepeatTextRow.holds Tryz.pinned (OpenSpec.ofChange fnRepeatTextSpec)

/-- ITS FALSE NEIGHBOUR: 'it returns false'. Refute it at one input. -/
def fnRepeatTextWrong : ChangeSpec := { name := "fnRepeatText", vars := ["loop.example/datenotation/impl.monthDays"], fn := fun _ => fun
  | [d, g1] => { results := [.lit (.bool false)], args := [d], vars := [g1] }
  | _ => none }
def FnRepeatTextWrongFalsely : Prop := fnRepeatTextRow.holds Tryz.pinned (OpenSpec.ofChange fnRepeatTextWrong)

/-- 'laws.FnRepeatFrom': WHATEVER THE INPUT: true; the input reads as it did. -/
def fnRepeatFromSpec : ChangeSpec := { name := "fnRepeatFrom", vars := ["loop.example/datenotation/impl.monthDays"], fn := fun _ => fun
  | [d, g1] => { results := [.lit (.bool true)], args := [d], vars := [g1] }
  | _ => none }
def fnRepeatFromRow : OpenClaim := { program := "ytpgbmohocfcjpaagreatdoor", sum := "b77d772dbf615492b0cbe31c2acfda32abee99a82051e2103386aa4dd2ff95a7", func := "loop.example/datenotation/laws.FnRepeatFrom", spec := "fnRepeatFrom", inPlace := ["internal/reflectlite.ValueOf", "(internal/reflectlite.Value).Type", "(internal/reflectlite.Value).IsNil", "internal/reflectlite.TypeOf", "(internal/reflectlite.Value).Elem", "(internal/reflectlite.Value).Set", "internal/bytealg.IndexByteString", "internal/bytealg.IndexString"], unfollowed := true, recurses := true, named := ["loop.example/datenotation/impl.monthDays", "errors.errorType", "internal/strconv.uint64pow10", "math/bits.deBruijn32tab", "math/bits.deBruijn64tab", "unicode/utf8.first", "unicode/utf8.acceptRanges", "internal/bytealg.MaxLen"], apart := false, laid := [("math/bits.deBruijn32tab", laid_math_bits_deBruijn32tab), ("math/bits.deBruijn64tab", laid_math_bits_deBruijn64tab), ("internal/strconv.uint64pow10", laid_internal_strconv_uint64pow10), ("unicode/utf8.acceptRanges", laid_unicode_utf8_acceptRanges), ("errors.errorType", laid_errors_errorType), ("loop.example/datenotation/impl.monthDays", laid_loop_example_datenotation_impl_monthDays), ("unicode/utf8.first", laid_unicode_utf8_first)] }
def FnRepeatFromSaid : Prop := fnRepeatFromRow.holds Tryz.pinned (OpenSpec.ofChange fnRepeatFromSpec)

/-- ITS FALSE NEIGHBOUR: 'it returns false'. Refute it at one input. -/
def fnRepeatFromWrong : ChangeSpec := { name := "fnRepeatFrom", vars := ["loop.example/datenotation/impl.monthDays"], fn := fun _ => fun
  | [d, g1] => { results := [.lit (.bool false)], args := [d], vars := [g1] }
  | _ => none }
def FnRepeatFromWrongFalsely : Prop := fnRepeatFromRow.holds Tryz.pinned (OpenSpec.ofChange fnRepeatFromWrong)

/- THE SECOND FORM. 'bulk': how many values and letters a reading holds, each counted each time it is reached (what is shared counts as often as it is met; a slice's spare places count too). A statement '..UptoSaid' is the law's where the arguments, and the package variables that the reading takes, are together of bulk at most 1048576: NARROWER than '..Said'. Prove '..Said' where nothing that the law and all that it calls make is longer than what came in: it says more and counts as full. Else prove '..UptoSaid'. A law counts once. -/
mutual
def uptoBulk {H : Type} : DataW H → Nat
  | .lit (.string bytes) => bytes.length + 1
  | .lit _ => 1
  | .nil => 1
  | .ptr d => uptoBulk d + 1
  | .slice elems spare => uptoBulkAll elems + uptoBulkAll spare + 1
  | .agg parts => uptoBulkAll parts + 1
  | .iface _ d => uptoBulk d + 1
  | .map entries => uptoBulkEntries entries + 1
  | .held _ => 1
def uptoBulkAll {H : Type} : List (DataW H) → Nat
  | [] => 0
  | d :: r => uptoBulk d + uptoBulkAll r
def uptoBulkEntries {H : Type} : List (Lit × DataW H) → Nat
  | [] => 0
  | x :: r => uptoBulkEntry x + uptoBulkEntries r
def uptoBulkEntry {H : Type} : Lit × DataW H → Nat
  | (.string bytes, d) => bytes.length + uptoBulk d + 1
  | (_, d) => uptoBulk d + 1
 end
def uptoSmall : (H : Type) → List (DataW H) → Bool := fun _ ds => decide (uptoBulkAll ds ≤ 1048576)
def OpenSpec.upto (s : _root_.Go.ChangeSpec) : _root_.Go.OpenSpec := { _root_.Go.OpenSpec.ofChange s with cond := some uptoSmall }

/-- 'laws.FnExactStampsSort', WHERE WHAT IT READS IS OF BULK AT MOST 1048576: true; the input reads as it did. -/
def fnExactStampsSortUptoRow : OpenClaim := { program := "ytpgbmohocfcjpaagreatdoor", sum := "b77d772dbf615492b0cbe31c2acfda32abee99a82051e2103386aa4dd2ff95a7", func := "loop.example/datenotation/laws.FnExactStampsSort", spec := "fnExactStampsSort", inPlace := ["internal/reflectlite.ValueOf", "(internal/reflectlite.Value).Type", "(internal/reflectlite.Value).IsNil", "internal/reflectlite.TypeOf", "(internal/reflectlite.Value).Elem", "(internal/reflectlite.Value).Set", "internal/bytealg.IndexByteString", "internal/bytealg.IndexString"], unfollowed := true, recurses := true, named := ["loop.example/datenotation/impl.monthDays", "errors.errorType", "unicode/utf8.first", "unicode/utf8.acceptRanges", "internal/bytealg.MaxLen"], apart := false, laid := [("unicode/utf8.acceptRanges", laid_unicode_utf8_acceptRanges), ("errors.errorType", laid_errors_errorType), ("loop.example/datenotation/impl.monthDays", laid_loop_example_datenotation_impl_monthDays), ("unicode/utf8.first", laid_unicode_utf8_first)], narrowed := true }
def FnExactStampsSortUptoSaid : Prop := fnExactStampsSortUptoRow.holds Tryz.pinned (OpenSpec.upto fnExactStampsSortSpec)

/-- 'laws.FnSortTwice', WHERE WHAT IT READS IS OF BULK AT MOST 1048576: true; the input reads as it did. -/
def fnSortTwiceUptoRow : OpenClaim := { program := "ytpgbmohocfcjpaagreatdoor", sum := "b77d772dbf615492b0cbe31c2acfda32abee99a82051e2103386aa4dd2ff95a7", func := "loop.example/datenotation/laws.FnSortTwice", spec := "fnSortTwice", inPlace := ["internal/reflectlite.ValueOf", "(internal/reflectlite.Value).Type", "(internal/reflectlite.Value).IsNil", "internal/reflectlite.TypeOf", "(internal/reflectlite.Value).Elem", "(internal/reflectlite.Value).Set", "internal/bytealg.IndexByteString", "internal/bytealg.IndexString"], unfollowed := true, recurses := true, named := ["loop.example/datenotation/impl.monthDays", "errors.errorType", "unicode/utf8.first", "unicode/utf8.acceptRanges", "internal/bytealg.MaxLen"], apart := false, laid := [("unicode/utf8.acceptRanges", laid_unicode_utf8_acceptRanges), ("errors.errorType", laid_errors_errorType), ("loop.example/datenotation/impl.monthDays", laid_loop_example_datenotation_impl_monthDays), ("unicode/utf8.first", laid_unicode_utf8_first)], narrowed := true }
def FnSortTwiceUptoSaid : Prop := fnSortTwiceUptoRow.holds Tryz.pinned (OpenSpec.upto fnSortTwiceSpec)

/-- 'laws.FnSortAll', WHERE WHAT IT READS IS OF BULK AT MOST 1048576: true; the input reads as it did. -/
def fnSortAllUptoRow : OpenClaim := { program := "ytpgbmohocfcjpaagreatdoor", sum := "b77d772dbf615492b0cbe31c2acfda32abee99a82051e2103386aa4dd2ff95a7", func := "loop.example/datenotation/laws.FnSortAll", spec := "fnSortAll", inPlace := ["internal/reflectlite.ValueOf", "(internal/reflectlite.Value).Type", "(internal/reflectlite.Value).IsNil", "internal/reflectlite.TypeOf", "(internal/reflectlite.Value).Elem", "(internal/reflectlite.Value).Set", "internal/bytealg.IndexByteString", "internal/bytealg.IndexString"], unfollowed := true, recurses := true, named := ["loop.example/datenotation/impl.monthDays", "errors.errorType", "unicode/utf8.first", "unicode/utf8.acceptRanges", "internal/bytealg.MaxLen"], apart := false, laid := [("unicode/utf8.acceptRanges", laid_unicode_utf8_acceptRanges), ("errors.errorType", laid_errors_errorType), ("loop.example/datenotation/impl.monthDays", laid_loop_example_datenotation_impl_monthDays), ("unicode/utf8.first", laid_unicode_utf8_first)], narrowed := true }
def FnSortAllUptoSaid : Prop := fnSortAllUptoRow.holds Tryz.pinned (OpenSpec.upto fnSortAllSpec)

/-- 'laws.FnSort', WHERE WHAT IT READS IS OF BULK AT MOST 1048576: true; the input reads as it did. -/
def fnSortUptoRow : OpenClaim := { program := "ytpgbmohocfcjpaagreatdoor", sum := "b77d772dbf615492b0cbe31c2acfda32abee99a82051e2103386aa4dd2ff95a7", func := "loop.example/datenotation/laws.FnSort", spec := "fnSort", inPlace := ["internal/reflectlite.ValueOf", "(internal/reflectlite.Value).Type", "(internal/reflectlite.Value).IsNil", "internal/reflectlite.TypeOf", "(internal/reflectlite.Value).Elem", "(internal/reflectlite.Value).Set", "internal/bytealg.IndexByteString", "internal/bytealg.IndexString"], unfollowed := true, recurses := true, named := ["loop.example/datenotation/impl.monthDays", "errors.errorType", "unicode/utf8.first", "unicode/utf8.acceptRanges", "internal/bytealg.MaxLen"], apart := false, laid := [("unicode/utf8.acceptRanges", laid_unicode_utf8_acceptRanges), ("errors.errorType", laid_errors_errorType), ("loop.example/datenotation/impl.monthDays", laid_loop_example_datenotation_impl_monthDays), ("unicode/utf8.first", laid_unicode_utf8_first)], narrowed := true }
def FnSortUptoSaid : Prop := fnSortUptoRow.holds Tryz.pinned (OpenSpec.upto fnSortSpec)

/-- 'laws.FnExactSpanFrom', WHERE WHAT IT READS IS OF BULK AT MOST 1048576: true; the input reads as it did. -/
def fnExactSpanFromUptoRow : OpenClaim := { program := "ytpgbmohocfcjpaagreatdoor", sum := "b77d772dbf615492b0cbe31c2acfda32abee99a82051e2103386aa4dd2ff95a7", func := "loop.example/datenotation/laws.FnExactSpanFrom", spec := "fnExactSpanFrom", inPlace := ["internal/bytealg.IndexByteString", "internal/bytealg.IndexString", "internal/reflectlite.ValueOf", "(internal/reflectlite.Value).Type", "(internal/reflectlite.Value).IsNil", "internal/reflectlite.TypeOf", "(internal/reflectlite.Value).Elem", "(internal/reflectlite.Value).Set"], unfollowed := true, recurses := true, named := ["internal/bytealg.MaxLen", "loop.example/datenotation/impl.monthDays", "errors.errorType"], apart := false, laid := [("errors.errorType", laid_errors_errorType), ("loop.example/datenotation/impl.monthDays", laid_loop_example_datenotation_impl_monthDays)], narrowed := true }
def FnExactSpanFromUptoSaid : Prop := fnExactSpanFromUptoRow.holds Tryz.pinned (OpenSpec.upto fnExactSpanFromSpec)

/-- 'laws.FnSpanText', WHERE WHAT IT READS IS OF BULK AT MOST 1048576: true; the input reads as it did. -/
def fnSpanTextUptoRow : OpenClaim := { program := "ytpgbmohocfcjpaagreatdoor", sum := "b77d772dbf615492b0cbe31c2acfda32abee99a82051e2103386aa4dd2ff95a7", func := "loop.example/datenotation/laws.FnSpanText", spec := "fnSpanText", inPlace := ["internal/bytealg.IndexByteString", "internal/bytealg.IndexString", "internal/reflectlite.ValueOf", "(internal/reflectlite.Value).Type", "(internal/reflectlite.Value).IsNil", "internal/reflectlite.TypeOf", "(internal/reflectlite.Value).Elem", "(internal/reflectlite.Value).Set"], unfollowed := true, recurses := true, named := ["loop.example/datenotation/impl.monthDays", "unicode/utf8.first", "unicode/utf8.acceptRanges", "internal/bytealg.MaxLen", "errors.errorType"], apart := false, laid := [("unicode/utf8.acceptRanges", laid_unicode_utf8_acceptRanges), ("errors.errorType", laid_errors_errorType), ("loop.example/datenotation/impl.monthDays", laid_loop_example_datenotation_impl_monthDays), ("unicode/utf8.first", laid_unicode_utf8_first)], narrowed := true }
def FnSpanTextUptoSaid : Prop := fnSpanTextUptoRow.holds Tryz.pinned (OpenSpec.upto fnSpanTextSpec)

/-- 'laws.FnSpanFrom', WHERE WHAT IT READS IS OF BULK AT MOST 1048576: true; the input reads as it did. -/
def fnSpanFromUptoRow : OpenClaim := { program := "ytpgbmohocfcjpaagreatdoor", sum := "b77d772dbf615492b0cbe31c2acfda32abee99a82051e2103386aa4dd2ff95a7", func := "loop.example/datenotation/laws.FnSpanFrom", spec := "fnSpanFrom", inPlace := ["internal/bytealg.IndexByteString", "internal/bytealg.IndexString", "internal/reflectlite.ValueOf", "(internal/reflectlite.Value).Type", "(internal/reflectlite.Value).IsNil", "internal/reflectlite.TypeOf", "(internal/reflectlite.Value).Elem", "(internal/reflectlite.Value).Set"], unfollowed := true, recurses := true, named := ["internal/bytealg.MaxLen", "loop.example/datenotation/impl.monthDays", "errors.errorType"], apart := false, laid := [("errors.errorType", laid_errors_errorType), ("loop.example/datenotation/impl.monthDays", laid_loop_example_datenotation_impl_monthDays)], narrowed := true }
def FnSpanFromUptoSaid : Prop := fnSpanFromUptoRow.holds Tryz.pinned (OpenSpec.upto fnSpanFromSpec)

/-- 'laws.FnSpanPeriod', WHERE WHAT IT READS IS OF BULK AT MOST 1048576: true; the input reads as it did. -/
def fnSpanPeriodUptoRow : OpenClaim := { program := "ytpgbmohocfcjpaagreatdoor", sum := "b77d772dbf615492b0cbe31c2acfda32abee99a82051e2103386aa4dd2ff95a7", func := "loop.example/datenotation/laws.FnSpanPeriod", spec := "fnSpanPeriod", inPlace := ["internal/bytealg.IndexByteString", "internal/bytealg.IndexString", "internal/reflectlite.ValueOf", "(internal/reflectlite.Value).Type", "(internal/reflectlite.Value).IsNil", "internal/reflectlite.TypeOf", "(internal/reflectlite.Value).Elem", "(internal/reflectlite.Value).Set"], unfollowed := true, recurses := true, named := ["internal/bytealg.MaxLen", "loop.example/datenotation/impl.monthDays", "errors.errorType", "unicode/utf8.first", "unicode/utf8.acceptRanges", "internal/strconv.uint64pow10", "math/bits.deBruijn32tab", "math/bits.deBruijn64tab"], apart := false, laid := [("math/bits.deBruijn32tab", laid_math_bits_deBruijn32tab), ("math/bits.deBruijn64tab", laid_math_bits_deBruijn64tab), ("internal/strconv.uint64pow10", laid_internal_strconv_uint64pow10), ("unicode/utf8.acceptRanges", laid_unicode_utf8_acceptRanges), ("errors.errorType", laid_errors_errorType), ("loop.example/datenotation/impl.monthDays", laid_loop_example_datenotation_impl_monthDays), ("unicode/utf8.first", laid_unicode_utf8_first)], narrowed := true }
def FnSpanPeriodUptoSaid : Prop := fnSpanPeriodUptoRow.holds Tryz.pinned (OpenSpec.upto fnSpanPeriodSpec)

/-- 'laws.FnSpanPeriodBack', WHERE WHAT IT READS IS OF BULK AT MOST 1048576: true; the input reads as it did. -/
def fnSpanPeriodBackUptoRow : OpenClaim := { program := "ytpgbmohocfcjpaagreatdoor", sum := "b77d772dbf615492b0cbe31c2acfda32abee99a82051e2103386aa4dd2ff95a7", func := "loop.example/datenotation/laws.FnSpanPeriodBack", spec := "fnSpanPeriodBack", inPlace := ["internal/bytealg.IndexByteString", "internal/bytealg.IndexString", "internal/reflectlite.ValueOf", "(internal/reflectlite.Value).Type", "(internal/reflectlite.Value).IsNil", "internal/reflectlite.TypeOf", "(internal/reflectlite.Value).Elem", "(internal/reflectlite.Value).Set"], unfollowed := true, recurses := true, named := ["internal/bytealg.MaxLen", "loop.example/datenotation/impl.monthDays", "errors.errorType", "internal/strconv.uint64pow10", "math/bits.deBruijn32tab", "math/bits.deBruijn64tab", "unicode/utf8.first", "unicode/utf8.acceptRanges"], apart := false, laid := [("math/bits.deBruijn32tab", laid_math_bits_deBruijn32tab), ("math/bits.deBruijn64tab", laid_math_bits_deBruijn64tab), ("internal/strconv.uint64pow10", laid_internal_strconv_uint64pow10), ("unicode/utf8.acceptRanges", laid_unicode_utf8_acceptRanges), ("errors.errorType", laid_errors_errorType), ("loop.example/datenotation/impl.monthDays", laid_loop_example_datenotation_impl_monthDays), ("unicode/utf8.first", laid_unicode_utf8_first)], narrowed := true }
def FnSpanPeriodBackUptoSaid : Prop := fnSpanPeriodBackUptoRow.holds Tryz.pinned (OpenSpec.upto fnSpanPeriodBackSpec)

/-- 'laws.FnExactRepeatFrom', WHERE WHAT IT READS IS OF BULK AT MOST 1048576: true; the input reads as it did. -/
def fnExactRepeatFromUptoRow : OpenClaim := { program := "ytpgbmohocfcjpaagreatdoor", sum := "b77d772dbf615492b0cbe31c2acfda32abee99a82051e2103386aa4dd2ff95a7", func := "loop.example/datenotation/laws.FnExactRepeatFrom", spec := "fnExactRepeatFrom", inPlace := ["internal/reflectlite.ValueOf", "(internal/reflectlite.Value).Type", "(internal/reflectlite.Value).IsNil", "internal/reflectlite.TypeOf", "(internal/reflectlite.Value).Elem", "(internal/reflectlite.Value).Set"], unfollowed := true, recurses := true, named := ["loop.example/datenotation/impl.monthDays", "errors.errorType"], apart := false, laid := [("errors.errorType", laid_errors_errorType), ("loop.example/datenotation/impl.monthDays", laid_loop_example_datenotation_impl_monthDays)], narrowed := true }
def FnExactRepeatFromUptoSaid : Prop := fnExactRepeatFromUptoRow.holds Tryz.pinned (OpenSpec.upto fnExactRepeatFromSpec)

/-- 'laws.FnRepeatText', WHERE WHAT IT READS IS OF BULK AT MOST 1048576: true; the input reads as it did. -/
def fnRepeatTextUptoRow : OpenClaim := { program := "ytpgbmohocfcjpaagreatdoor", sum := "b77d772dbf615492b0cbe31c2acfda32abee99a82051e2103386aa4dd2ff95a7", func := "loop.example/datenotation/laws.FnRepeatText", spec := "fnRepeatText", inPlace := ["internal/bytealg.IndexByteString", "internal/bytealg.IndexString", "internal/reflectlite.ValueOf", "(internal/reflectlite.Value).Type", "(internal/reflectlite.Value).IsNil", "internal/reflectlite.TypeOf", "(internal/reflectlite.Value).Elem", "(internal/reflectlite.Value).Set"], unfollowed := true, recurses := true, named := ["loop.example/datenotation/impl.monthDays", "internal/strconv.uint64pow10", "math/bits.deBruijn32tab", "math/bits.deBruijn64tab", "unicode/utf8.first", "unicode/utf8.acceptRanges", "errors.errorType", "internal/bytealg.MaxLen"], apart := false, laid := [("math/bits.deBruijn32tab", laid_math_bits_deBruijn32tab), ("math/bits.deBruijn64tab", laid_math_bits_deBruijn64tab), ("internal/strconv.uint64pow10", laid_internal_strconv_uint64pow10), ("unicode/utf8.acceptRanges", laid_unicode_utf8_acceptRanges), ("errors.errorType", laid_errors_errorType), ("loop.example/datenotation/impl.monthDays", laid_loop_example_datenotation_impl_monthDays), ("unicode/utf8.first", laid_unicode_utf8_first)], narrowed := true }
def FnRepeatTextUptoSaid : Prop := fnRepeatTextUptoRow.holds Tryz.pinned (OpenSpec.upto fnRepeatTextSpec)

/-- 'laws.FnRepeatFrom', WHERE WHAT IT READS IS OF BULK AT MOST 1048576: true; the input reads as it did. -/
def fnRepeatFromUptoRow : OpenClaim := { program := "ytpgbmohocfcjpaagreatdoor", sum := "b77d772dbf615492b0cbe31c2acfda32abee99a82051e2103386aa4dd2ff95a7", func := "loop.example/datenotation/laws.FnRepeatFrom", spec := "fnRepeatFrom", inPlace := ["internal/reflectlite.ValueOf", "(internal/reflectlite.Value).Type", "(internal/reflectlite.Value).IsNil", "internal/reflectlite.TypeOf", "(internal/reflectlite.Value).Elem", "(internal/reflectlite.Value).Set", "internal/bytealg.IndexByteString", "internal/bytealg.IndexString"], unfollowed := true, recurses := true, named := ["loop.example/datenotation/impl.monthDays", "errors.errorType", "internal/strconv.uint64pow10", "math/bits.deBruijn32tab", "math/bits.deBruijn64tab", "unicode/utf8.first", "unicode/utf8.acceptRanges", "internal/bytealg.MaxLen"], apart := false, laid := [("math/bits.deBruijn32tab", laid_math_bits_deBruijn32tab), ("math/bits.deBruijn64tab", laid_math_bits_deBruijn64tab), ("internal/strconv.uint64pow10", laid_internal_strconv_uint64pow10), ("unicode/utf8.acceptRanges", laid_unicode_utf8_acceptRanges), ("errors.errorType", laid_errors_errorType), ("loop.example/datenotation/impl.monthDays", laid_loop_example_datenotation_impl_monthDays), ("unicode/utf8.first", laid_unicode_utf8_first)], narrowed := true }
def FnRepeatFromUptoSaid : Prop := fnRepeatFromUptoRow.holds Tryz.pinned (OpenSpec.upto fnRepeatFromSpec)

end Rows
end Go.Proofs.YtpgbmohocfcjpaaGreatDoor
