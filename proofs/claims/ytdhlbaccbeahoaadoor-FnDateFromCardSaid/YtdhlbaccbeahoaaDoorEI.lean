/- The engine, part 7: what the program's types and functions are (closed facts). -/
import Derived.Test.YtdhlbaccbeahoaaDoorE2
import Derived.Test.YtdhlbaccbeahoaaDoorProg
import Derived.Test.YtdhlbaccbeahoaaDoorE3
namespace Go.Proofs.YtdhlbaccbeahoaaDoor
set_option linter.unusedVariables false
set_option linter.unusedSimpArgs false
namespace D
open Go.RowKit

variable {P : Program}
theorem fieldPlace_run {fd : Field} {k : Nat} (hz : (P.info? fd.type).map (·.size) = some k) (hk : k ≠ 0) (b o : Nat) (w : World) : (fieldPlace ⟨b, o, none⟩ fd).run P w = .ok ⟨b, o + fd.offset, none⟩ w := by
  simp [fieldPlace, run_sizeOf hz, hk, add_plain]
theorem FO.of {s f off ft : Nat} {fs : Array Field} {fd : Field} {k : Nat} (hu : P.underlying s = some (.struct fs)) (hf : fs[f]? = some fd) (ho : fd.offset = off) (ht : fd.type = ft) (hz : (P.info? ft).map (·.size) = some k) (hk : k ≠ 0) : FO P s f off := by
  subst ho; subst ht
  exact ⟨fun b o w => by simp [Instr.fieldAt, run_underlying hu, hf, Instr.sureAddr, fieldPlace_run hz hk]⟩
theorem FV.of1 {s f off ft : Nat} {fs : Array Field} {fd : Field} (hu : P.underlying s = some (.struct fs)) (hf : fs[f]? = some fd) (ho : fd.offset = off) (ht : fd.type = ft) (i : Sc P ft) : FV P s f off 1 false := by
  subst ho; subst ht
  exact ⟨fun us w => by
    simp only [Instr.field, Sem.run_bind, run_underlying hu, Result.andThen_ok, hf, part, asAgg, run_isAgg_sc, Sem.run_pure]
    simp
    cases us[fd.offset]? <;> rfl⟩
theorem FV.ofk {s f off ft : Nat} {fs : Array Field} {fd : Field} {k : Nat} (hu : P.underlying s = some (.struct fs)) (hf : fs[f]? = some fd) (ho : fd.offset = off) (ht : fd.type = ft) (i : Ag P ft k) : FV P s f off k true := by
  subst ho; subst ht
  exact ⟨fun us w => by
    simp only [Instr.field, Sem.run_bind, run_underlying hu, Result.andThen_ok, hf, part, asAgg, run_isAgg_ag, Sem.run_pure, run_sizeOf i.sz]
    simp [run_sizeOf i.sz]⟩

instance : Sc Tryd.prog 1 := ⟨_, Tryd.underlying1, rfl⟩
instance : Sz Tryd.prog 1 1 := ⟨by kernel_rfl⟩
instance : Zr Tryd.prog 1 [.nilFunc] := ⟨by kernel_rfl⟩
instance : Sc Tryd.prog 2 := ⟨_, Tryd.underlying2, rfl⟩
instance : Sz Tryd.prog 2 1 := ⟨by kernel_rfl⟩
instance : Zr Tryd.prog 2 [.int .i64 0] := ⟨by kernel_rfl⟩
instance : I64 Tryd.prog 2 := ⟨Tryd.underlying2⟩
instance : Sc Tryd.prog 3 := ⟨_, Tryd.underlying3, rfl⟩
instance : Sz Tryd.prog 3 1 := ⟨by kernel_rfl⟩
instance : Zr Tryd.prog 3 [.int .i64 0] := ⟨by kernel_rfl⟩
instance : I64 Tryd.prog 3 := ⟨Tryd.underlying3⟩
instance : Sc Tryd.prog 4 := ⟨_, Tryd.underlying4, rfl⟩
instance : Sz Tryd.prog 4 1 := ⟨by kernel_rfl⟩
instance : Zr Tryd.prog 4 [.bool false] := ⟨by kernel_rfl⟩
instance : BoT Tryd.prog 4 := ⟨Tryd.underlying4⟩
instance : Sc Tryd.prog 5 := ⟨_, Tryd.underlying5, rfl⟩
instance : Sz Tryd.prog 5 1 := ⟨by kernel_rfl⟩
instance : Zr Tryd.prog 5 [.int .u8 0] := ⟨by kernel_rfl⟩
instance : Sc Tryd.prog 6 := ⟨_, Tryd.underlying6, rfl⟩
instance : Sz Tryd.prog 6 1 := ⟨by kernel_rfl⟩
instance : Zr Tryd.prog 6 [.int .u8 0] := ⟨by kernel_rfl⟩
instance : Ag Tryd.prog 7 4 := ⟨⟨_, Tryd.underlying7, rfl⟩, by kernel_rfl⟩
instance : Sz Tryd.prog 7 4 := ⟨by kernel_rfl⟩
instance : Zr Tryd.prog 7 [.int .i64 0, .int .i64 0, .bool false, .int .u8 0] := ⟨by kernel_rfl⟩
instance : Ag Tryd.prog 8 4 := ⟨⟨_, Tryd.underlying8, rfl⟩, by kernel_rfl⟩
instance : Sz Tryd.prog 8 4 := ⟨by kernel_rfl⟩
instance : Zr Tryd.prog 8 [.int .i64 0, .int .i64 0, .bool false, .int .u8 0] := ⟨by kernel_rfl⟩
instance : Sc Tryd.prog 9 := ⟨_, Tryd.underlying9, rfl⟩
instance : Sz Tryd.prog 9 1 := ⟨by kernel_rfl⟩
instance : Zr Tryd.prog 9 [.string ByteArray.empty] := ⟨by kernel_rfl⟩
instance : StT Tryd.prog 9 := ⟨Tryd.underlying9⟩
instance : Sc Tryd.prog 10 := ⟨_, Tryd.underlying10, rfl⟩
instance : Sz Tryd.prog 10 1 := ⟨by kernel_rfl⟩
instance : Zr Tryd.prog 10 [.string ByteArray.empty] := ⟨by kernel_rfl⟩
instance : StT Tryd.prog 10 := ⟨Tryd.underlying10⟩
instance : Sc Tryd.prog 11 := ⟨_, Tryd.underlying11, rfl⟩
instance : Sz Tryd.prog 11 1 := ⟨by kernel_rfl⟩
instance : Zr Tryd.prog 11 [.string ByteArray.empty] := ⟨by kernel_rfl⟩
instance : StT Tryd.prog 11 := ⟨Tryd.underlying11⟩
instance : Sc Tryd.prog 12 := ⟨_, Tryd.underlying12, rfl⟩
instance : Sz Tryd.prog 12 1 := ⟨by kernel_rfl⟩
instance : Zr Tryd.prog 12 [.int .u64 0] := ⟨by kernel_rfl⟩
instance : Ag Tryd.prog 13 2 := ⟨⟨_, Tryd.underlying13, rfl⟩, by kernel_rfl⟩
instance : Sz Tryd.prog 13 2 := ⟨by kernel_rfl⟩
instance : Zr Tryd.prog 13 [.string ByteArray.empty, .int .u64 0] := ⟨by kernel_rfl⟩
instance : Ag Tryd.prog 14 2 := ⟨⟨_, Tryd.underlying14, rfl⟩, by kernel_rfl⟩
instance : Sz Tryd.prog 14 2 := ⟨by kernel_rfl⟩
instance : Zr Tryd.prog 14 [.string ByteArray.empty, .int .u64 0] := ⟨by kernel_rfl⟩
instance : Sc Tryd.prog 15 := ⟨_, Tryd.underlying15, rfl⟩
instance : Sz Tryd.prog 15 1 := ⟨by kernel_rfl⟩
instance : Zr Tryd.prog 15 [.pointer none] := ⟨by kernel_rfl⟩
instance : Sc Tryd.prog 16 := ⟨_, Tryd.underlying16, rfl⟩
instance : Sz Tryd.prog 16 1 := ⟨by kernel_rfl⟩
instance : Zr Tryd.prog 16 [.pointer none] := ⟨by kernel_rfl⟩
instance : Sc Tryd.prog 17 := ⟨_, Tryd.underlying17, rfl⟩
instance : Sz Tryd.prog 17 1 := ⟨by kernel_rfl⟩
instance : Zr Tryd.prog 17 [.pointer none] := ⟨by kernel_rfl⟩
instance : Ag Tryd.prog 18 1 := ⟨⟨_, Tryd.underlying18, rfl⟩, by kernel_rfl⟩
instance : Sz Tryd.prog 18 1 := ⟨by kernel_rfl⟩
instance : Zr Tryd.prog 18 [.pointer none] := ⟨by kernel_rfl⟩
instance : Ag Tryd.prog 19 1 := ⟨⟨_, Tryd.underlying19, rfl⟩, by kernel_rfl⟩
instance : Sz Tryd.prog 19 1 := ⟨by kernel_rfl⟩
instance : Zr Tryd.prog 19 [.pointer none] := ⟨by kernel_rfl⟩
instance : Sc Tryd.prog 20 := ⟨_, Tryd.underlying20, rfl⟩
instance : Sz Tryd.prog 20 1 := ⟨by kernel_rfl⟩
instance : Zr Tryd.prog 20 [.nilIface] := ⟨by kernel_rfl⟩
instance : Sc Tryd.prog 21 := ⟨_, Tryd.underlying21, rfl⟩
instance : Sz Tryd.prog 21 1 := ⟨by kernel_rfl⟩
instance : Zr Tryd.prog 21 [.int .i32 0] := ⟨by kernel_rfl⟩
instance : Sc Tryd.prog 22 := ⟨_, Tryd.underlying22, rfl⟩
instance : Sz Tryd.prog 22 1 := ⟨by kernel_rfl⟩
instance : Zr Tryd.prog 22 [.slice none 0 0] := ⟨by kernel_rfl⟩
instance : SlT Tryd.prog 22 5 1 := ⟨Tryd.underlying22, by kernel_rfl⟩
instance : Ag Tryd.prog 23 3 := ⟨⟨_, Tryd.underlying23, rfl⟩, by kernel_rfl⟩
instance : Sz Tryd.prog 23 3 := ⟨by kernel_rfl⟩
instance : Zr Tryd.prog 23 [.int .i64 0, .int .i64 0, .int .i64 0] := ⟨by kernel_rfl⟩
instance : Ag Tryd.prog 24 3 := ⟨⟨_, Tryd.underlying24, rfl⟩, by kernel_rfl⟩
instance : Sz Tryd.prog 24 3 := ⟨by kernel_rfl⟩
instance : Zr Tryd.prog 24 [.int .i64 0, .int .i64 0, .int .i64 0] := ⟨by kernel_rfl⟩
instance : Sc Tryd.prog 26 := ⟨_, Tryd.underlying26, rfl⟩
instance : Sz Tryd.prog 26 1 := ⟨by kernel_rfl⟩
instance : Zr Tryd.prog 26 [.nilFunc] := ⟨by kernel_rfl⟩
instance : Sc Tryd.prog 28 := ⟨_, Tryd.underlying28, rfl⟩
instance : Sz Tryd.prog 28 1 := ⟨by kernel_rfl⟩
instance : Zr Tryd.prog 28 [.nilFunc] := ⟨by kernel_rfl⟩
instance : Sc Tryd.prog 30 := ⟨_, Tryd.underlying30, rfl⟩
instance : Sz Tryd.prog 30 1 := ⟨by kernel_rfl⟩
instance : Zr Tryd.prog 30 [.nilFunc] := ⟨by kernel_rfl⟩
instance : Sc Tryd.prog 31 := ⟨_, Tryd.underlying31, rfl⟩
instance : Sz Tryd.prog 31 1 := ⟨by kernel_rfl⟩
instance : Zr Tryd.prog 31 [.nilFunc] := ⟨by kernel_rfl⟩
instance : Sc Tryd.prog 32 := ⟨_, Tryd.underlying32, rfl⟩
instance : Sz Tryd.prog 32 1 := ⟨by kernel_rfl⟩
instance : Zr Tryd.prog 32 [.nilFunc] := ⟨by kernel_rfl⟩
instance : Sc Tryd.prog 33 := ⟨_, Tryd.underlying33, rfl⟩
instance : Sz Tryd.prog 33 1 := ⟨by kernel_rfl⟩
instance : Zr Tryd.prog 33 [.nilFunc] := ⟨by kernel_rfl⟩
instance : Sc Tryd.prog 34 := ⟨_, Tryd.underlying34, rfl⟩
instance : Sz Tryd.prog 34 1 := ⟨by kernel_rfl⟩
instance : Zr Tryd.prog 34 [.pointer none] := ⟨by kernel_rfl⟩
instance : Sc Tryd.prog 35 := ⟨_, Tryd.underlying35, rfl⟩
instance : Sz Tryd.prog 35 1 := ⟨by kernel_rfl⟩
instance : Zr Tryd.prog 35 [.nilFunc] := ⟨by kernel_rfl⟩
instance : Sc Tryd.prog 36 := ⟨_, Tryd.underlying36, rfl⟩
instance : Sz Tryd.prog 36 1 := ⟨by kernel_rfl⟩
instance : Zr Tryd.prog 36 [.nilFunc] := ⟨by kernel_rfl⟩
instance : Sc Tryd.prog 37 := ⟨_, Tryd.underlying37, rfl⟩
instance : Sz Tryd.prog 37 1 := ⟨by kernel_rfl⟩
instance : Zr Tryd.prog 37 [.nilFunc] := ⟨by kernel_rfl⟩
instance : Sc Tryd.prog 38 := ⟨_, Tryd.underlying38, rfl⟩
instance : Sz Tryd.prog 38 1 := ⟨by kernel_rfl⟩
instance : Zr Tryd.prog 38 [.nilFunc] := ⟨by kernel_rfl⟩
instance : Sc Tryd.prog 39 := ⟨_, Tryd.underlying39, rfl⟩
instance : Sz Tryd.prog 39 1 := ⟨by kernel_rfl⟩
instance : Zr Tryd.prog 39 [.nilFunc] := ⟨by kernel_rfl⟩
instance : Sc Tryd.prog 40 := ⟨_, Tryd.underlying40, rfl⟩
instance : Sz Tryd.prog 40 1 := ⟨by kernel_rfl⟩
instance : Zr Tryd.prog 40 [.nilIface] := ⟨by kernel_rfl⟩
instance : Sc Tryd.prog 41 := ⟨_, Tryd.underlying41, rfl⟩
instance : Sz Tryd.prog 41 1 := ⟨by kernel_rfl⟩
instance : Zr Tryd.prog 41 [.nilIface] := ⟨by kernel_rfl⟩
instance : Sc Tryd.prog 42 := ⟨_, Tryd.underlying42, rfl⟩
instance : Sz Tryd.prog 42 1 := ⟨by kernel_rfl⟩
instance : Zr Tryd.prog 42 [.slice none 0 0] := ⟨by kernel_rfl⟩
instance : SlT Tryd.prog 42 41 1 := ⟨Tryd.underlying42, by kernel_rfl⟩
instance : Sc Tryd.prog 43 := ⟨_, Tryd.underlying43, rfl⟩
instance : Sz Tryd.prog 43 1 := ⟨by kernel_rfl⟩
instance : Zr Tryd.prog 43 [.nilFunc] := ⟨by kernel_rfl⟩
instance : Sc Tryd.prog 44 := ⟨_, Tryd.underlying44, rfl⟩
instance : Sz Tryd.prog 44 1 := ⟨by kernel_rfl⟩
instance : Zr Tryd.prog 44 [.nilFunc] := ⟨by kernel_rfl⟩
instance : Sc Tryd.prog 45 := ⟨_, Tryd.underlying45, rfl⟩
instance : Sz Tryd.prog 45 1 := ⟨by kernel_rfl⟩
instance : Zr Tryd.prog 45 [.nilFunc] := ⟨by kernel_rfl⟩
instance : Sc Tryd.prog 46 := ⟨_, Tryd.underlying46, rfl⟩
instance : Sz Tryd.prog 46 1 := ⟨by kernel_rfl⟩
instance : Zr Tryd.prog 46 [.slice none 0 0] := ⟨by kernel_rfl⟩
instance : SlT Tryd.prog 46 9 1 := ⟨Tryd.underlying46, by kernel_rfl⟩
instance : Ag Tryd.prog 47 3 := ⟨⟨_, Tryd.underlying47, rfl⟩, by kernel_rfl⟩
instance : Sz Tryd.prog 47 3 := ⟨by kernel_rfl⟩
instance : Zr Tryd.prog 47 [.int .i64 0, .int .i64 0, .int .i64 0] := ⟨by kernel_rfl⟩
instance : Ag Tryd.prog 48 3 := ⟨⟨_, Tryd.underlying48, rfl⟩, by kernel_rfl⟩
instance : Sz Tryd.prog 48 3 := ⟨by kernel_rfl⟩
instance : Zr Tryd.prog 48 [.int .i64 0, .int .i64 0, .int .i64 0] := ⟨by kernel_rfl⟩
instance : Sc Tryd.prog 50 := ⟨_, Tryd.underlying50, rfl⟩
instance : Sz Tryd.prog 50 1 := ⟨by kernel_rfl⟩
instance : Zr Tryd.prog 50 [.nilFunc] := ⟨by kernel_rfl⟩
instance : Sc Tryd.prog 51 := ⟨_, Tryd.underlying51, rfl⟩
instance : Sz Tryd.prog 51 1 := ⟨by kernel_rfl⟩
instance : Zr Tryd.prog 51 [.nilFunc] := ⟨by kernel_rfl⟩
instance : Sc Tryd.prog 52 := ⟨_, Tryd.underlying52, rfl⟩
instance : Sz Tryd.prog 52 1 := ⟨by kernel_rfl⟩
instance : Zr Tryd.prog 52 [.slice none 0 0] := ⟨by kernel_rfl⟩
instance : SlT Tryd.prog 52 4 1 := ⟨Tryd.underlying52, by kernel_rfl⟩
instance : Sc Tryd.prog 53 := ⟨_, Tryd.underlying53, rfl⟩
instance : Sz Tryd.prog 53 1 := ⟨by kernel_rfl⟩
instance : Zr Tryd.prog 53 [.pointer none] := ⟨by kernel_rfl⟩
instance : Ag Tryd.prog 54 2 := ⟨⟨_, Tryd.underlying54, rfl⟩, by kernel_rfl⟩
instance : Sz Tryd.prog 54 2 := ⟨by kernel_rfl⟩
instance : Zr Tryd.prog 54 [.string ByteArray.empty, .int .i64 0] := ⟨by kernel_rfl⟩
instance : Ag Tryd.prog 55 2 := ⟨⟨_, Tryd.underlying55, rfl⟩, by kernel_rfl⟩
instance : Sz Tryd.prog 55 2 := ⟨by kernel_rfl⟩
instance : Zr Tryd.prog 55 [.string ByteArray.empty, .int .i64 0] := ⟨by kernel_rfl⟩
instance : Sc Tryd.prog 57 := ⟨_, Tryd.underlying57, rfl⟩
instance : Sz Tryd.prog 57 1 := ⟨by kernel_rfl⟩
instance : Zr Tryd.prog 57 [.nilFunc] := ⟨by kernel_rfl⟩
instance : Sc Tryd.prog 58 := ⟨_, Tryd.underlying58, rfl⟩
instance : Sz Tryd.prog 58 1 := ⟨by kernel_rfl⟩
instance : Zr Tryd.prog 58 [.nilFunc] := ⟨by kernel_rfl⟩
instance : Sc Tryd.prog 59 := ⟨_, Tryd.underlying59, rfl⟩
instance : Sz Tryd.prog 59 1 := ⟨by kernel_rfl⟩
instance : Zr Tryd.prog 59 [.nilFunc] := ⟨by kernel_rfl⟩
instance : Sc Tryd.prog 60 := ⟨_, Tryd.underlying60, rfl⟩
instance : Sz Tryd.prog 60 1 := ⟨by kernel_rfl⟩
instance : Zr Tryd.prog 60 [.nilFunc] := ⟨by kernel_rfl⟩
instance : Sc Tryd.prog 61 := ⟨_, Tryd.underlying61, rfl⟩
instance : Sz Tryd.prog 61 1 := ⟨by kernel_rfl⟩
instance : Zr Tryd.prog 61 [.nilFunc] := ⟨by kernel_rfl⟩
instance : Sc Tryd.prog 62 := ⟨_, Tryd.underlying62, rfl⟩
instance : Sz Tryd.prog 62 1 := ⟨by kernel_rfl⟩
instance : Zr Tryd.prog 62 [.nilFunc] := ⟨by kernel_rfl⟩
instance : Ag Tryd.prog 63 2 := ⟨⟨_, Tryd.underlying63, rfl⟩, by kernel_rfl⟩
instance : Sz Tryd.prog 63 2 := ⟨by kernel_rfl⟩
instance : Zr Tryd.prog 63 [.slice none 0 0, .int .i64 0] := ⟨by kernel_rfl⟩
instance : Ag Tryd.prog 64 2 := ⟨⟨_, Tryd.underlying64, rfl⟩, by kernel_rfl⟩
instance : Sz Tryd.prog 64 2 := ⟨by kernel_rfl⟩
instance : Zr Tryd.prog 64 [.slice none 0 0, .int .i64 0] := ⟨by kernel_rfl⟩
instance : Sc Tryd.prog 65 := ⟨_, Tryd.underlying65, rfl⟩
instance : Sz Tryd.prog 65 1 := ⟨by kernel_rfl⟩
instance : Zr Tryd.prog 65 [.nilFunc] := ⟨by kernel_rfl⟩
instance : Sc Tryd.prog 66 := ⟨_, Tryd.underlying66, rfl⟩
instance : Sz Tryd.prog 66 1 := ⟨by kernel_rfl⟩
instance : Zr Tryd.prog 66 [.slice none 0 0] := ⟨by kernel_rfl⟩
instance : SlT Tryd.prog 66 3 1 := ⟨Tryd.underlying66, by kernel_rfl⟩
instance : Sc Tryd.prog 67 := ⟨_, Tryd.underlying67, rfl⟩
instance : Sz Tryd.prog 67 1 := ⟨by kernel_rfl⟩
instance : Zr Tryd.prog 67 [.nilFunc] := ⟨by kernel_rfl⟩
instance : Sc Tryd.prog 72 := ⟨_, Tryd.underlying72, rfl⟩
instance : Sz Tryd.prog 72 1 := ⟨by kernel_rfl⟩
instance : Zr Tryd.prog 72 [.nilFunc] := ⟨by kernel_rfl⟩
instance : Sc Tryd.prog 73 := ⟨_, Tryd.underlying73, rfl⟩
instance : Sz Tryd.prog 73 1 := ⟨by kernel_rfl⟩
instance : Zr Tryd.prog 73 [.nilFunc] := ⟨by kernel_rfl⟩
instance : Sc Tryd.prog 75 := ⟨_, Tryd.underlying75, rfl⟩
instance : Sz Tryd.prog 75 1 := ⟨by kernel_rfl⟩
instance : Zr Tryd.prog 75 [.nilFunc] := ⟨by kernel_rfl⟩
instance : Sc Tryd.prog 76 := ⟨_, Tryd.underlying76, rfl⟩
instance : Sz Tryd.prog 76 1 := ⟨by kernel_rfl⟩
instance : Zr Tryd.prog 76 [.nilFunc] := ⟨by kernel_rfl⟩
instance : Sc Tryd.prog 77 := ⟨_, Tryd.underlying77, rfl⟩
instance : Sz Tryd.prog 77 1 := ⟨by kernel_rfl⟩
instance : Zr Tryd.prog 77 [.nilFunc] := ⟨by kernel_rfl⟩
instance : Sc Tryd.prog 78 := ⟨_, Tryd.underlying78, rfl⟩
instance : Sz Tryd.prog 78 1 := ⟨by kernel_rfl⟩
instance : Zr Tryd.prog 78 [.nilFunc] := ⟨by kernel_rfl⟩
instance : Ag Tryd.prog 79 12 := ⟨⟨_, Tryd.underlying79, rfl⟩, by kernel_rfl⟩
instance : Sz Tryd.prog 79 12 := ⟨by kernel_rfl⟩
instance : Zr Tryd.prog 79 [.int .i64 0, .int .i64 0, .int .i64 0, .int .i64 0, .int .i64 0, .int .i64 0, .int .i64 0, .int .i64 0, .int .i64 0, .int .i64 0, .int .i64 0, .int .i64 0] := ⟨by kernel_rfl⟩
instance : Sc Tryd.prog 80 := ⟨_, Tryd.underlying80, rfl⟩
instance : Sz Tryd.prog 80 1 := ⟨by kernel_rfl⟩
instance : Zr Tryd.prog 80 [.nilFunc] := ⟨by kernel_rfl⟩
instance : Sc Tryd.prog 81 := ⟨_, Tryd.underlying81, rfl⟩
instance : Sz Tryd.prog 81 1 := ⟨by kernel_rfl⟩
instance : Zr Tryd.prog 81 [.nilFunc] := ⟨by kernel_rfl⟩
instance : Sc Tryd.prog 82 := ⟨_, Tryd.underlying82, rfl⟩
instance : Sz Tryd.prog 82 1 := ⟨by kernel_rfl⟩
instance : Zr Tryd.prog 82 [.nilFunc] := ⟨by kernel_rfl⟩
instance : Ag Tryd.prog 83 4 := ⟨⟨_, Tryd.underlying83, rfl⟩, by kernel_rfl⟩
instance : Sz Tryd.prog 83 4 := ⟨by kernel_rfl⟩
instance : Zr Tryd.prog 83 [.pointer none, .pointer none, .pointer none, .string ByteArray.empty] := ⟨by kernel_rfl⟩
instance : Ag Tryd.prog 84 4 := ⟨⟨_, Tryd.underlying84, rfl⟩, by kernel_rfl⟩
instance : Sz Tryd.prog 84 4 := ⟨by kernel_rfl⟩
instance : Zr Tryd.prog 84 [.pointer none, .pointer none, .pointer none, .string ByteArray.empty] := ⟨by kernel_rfl⟩
instance : Sc Tryd.prog 88 := ⟨_, Tryd.underlying88, rfl⟩
instance : Sz Tryd.prog 88 1 := ⟨by kernel_rfl⟩
instance : Zr Tryd.prog 88 [.nilFunc] := ⟨by kernel_rfl⟩
instance : Sc Tryd.prog 89 := ⟨_, Tryd.underlying89, rfl⟩
instance : Sz Tryd.prog 89 1 := ⟨by kernel_rfl⟩
instance : Zr Tryd.prog 89 [.int .u32 0] := ⟨by kernel_rfl⟩
instance : Sc Tryd.prog 90 := ⟨_, Tryd.underlying90, rfl⟩
instance : Sz Tryd.prog 90 1 := ⟨by kernel_rfl⟩
instance : Zr Tryd.prog 90 [.int .u8 0] := ⟨by kernel_rfl⟩
instance : Sc Tryd.prog 91 := ⟨_, Tryd.underlying91, rfl⟩
instance : Sz Tryd.prog 91 1 := ⟨by kernel_rfl⟩
instance : Zr Tryd.prog 91 [.int .u8 0] := ⟨by kernel_rfl⟩
instance : Sc Tryd.prog 92 := ⟨_, Tryd.underlying92, rfl⟩
instance : Sz Tryd.prog 92 1 := ⟨by kernel_rfl⟩
instance : Zr Tryd.prog 92 [.nilFunc] := ⟨by kernel_rfl⟩
instance : Sc Tryd.prog 93 := ⟨_, Tryd.underlying93, rfl⟩
instance : Sz Tryd.prog 93 1 := ⟨by kernel_rfl⟩
instance : Zr Tryd.prog 93 [.pointer none] := ⟨by kernel_rfl⟩
instance : Sc Tryd.prog 94 := ⟨_, Tryd.underlying94, rfl⟩
instance : Sz Tryd.prog 94 1 := ⟨by kernel_rfl⟩
instance : Zr Tryd.prog 94 [.int .i32 0] := ⟨by kernel_rfl⟩
instance : Sc Tryd.prog 95 := ⟨_, Tryd.underlying95, rfl⟩
instance : Sz Tryd.prog 95 1 := ⟨by kernel_rfl⟩
instance : Zr Tryd.prog 95 [.int .i32 0] := ⟨by kernel_rfl⟩
instance : Ag Tryd.prog 96 11 := ⟨⟨_, Tryd.underlying96, rfl⟩, by kernel_rfl⟩
instance : Sz Tryd.prog 96 11 := ⟨by kernel_rfl⟩
instance : Zr Tryd.prog 96 [.int .u64 0, .int .u64 0, .int .u32 0, .int .u8 0, .int .u8 0, .int .u8 0, .int .u8 0, .nilFunc, .pointer none, .int .i32 0, .int .i32 0] := ⟨by kernel_rfl⟩
instance : Ag Tryd.prog 97 11 := ⟨⟨_, Tryd.underlying97, rfl⟩, by kernel_rfl⟩
instance : Sz Tryd.prog 97 11 := ⟨by kernel_rfl⟩
instance : Zr Tryd.prog 97 [.int .u64 0, .int .u64 0, .int .u32 0, .int .u8 0, .int .u8 0, .int .u8 0, .int .u8 0, .nilFunc, .pointer none, .int .i32 0, .int .i32 0] := ⟨by kernel_rfl⟩
instance : Sc Tryd.prog 98 := ⟨_, Tryd.underlying98, rfl⟩
instance : Sz Tryd.prog 98 1 := ⟨by kernel_rfl⟩
instance : Zr Tryd.prog 98 [.nilFunc] := ⟨by kernel_rfl⟩
instance : Sc Tryd.prog 99 := ⟨_, Tryd.underlying99, rfl⟩
instance : Sz Tryd.prog 99 1 := ⟨by kernel_rfl⟩
instance : Zr Tryd.prog 99 [.nilFunc] := ⟨by kernel_rfl⟩
instance : Sc Tryd.prog 100 := ⟨_, Tryd.underlying100, rfl⟩
instance : Sz Tryd.prog 100 1 := ⟨by kernel_rfl⟩
instance : Zr Tryd.prog 100 [.nilFunc] := ⟨by kernel_rfl⟩
instance : Sc Tryd.prog 101 := ⟨_, Tryd.underlying101, rfl⟩
instance : Sz Tryd.prog 101 1 := ⟨by kernel_rfl⟩
instance : Zr Tryd.prog 101 [.nilFunc] := ⟨by kernel_rfl⟩
instance : Sc Tryd.prog 102 := ⟨_, Tryd.underlying102, rfl⟩
instance : Sz Tryd.prog 102 1 := ⟨by kernel_rfl⟩
instance : Zr Tryd.prog 102 [.nilFunc] := ⟨by kernel_rfl⟩
instance : BS Tryd.prog 22 5 [.int .u8 0] := ⟨Tryd.underlying22, by kernel_rfl, by kernel_rfl⟩
instance : BS Tryd.prog 42 41 [.nilIface] := ⟨Tryd.underlying42, by kernel_rfl, by kernel_rfl⟩
instance : BS Tryd.prog 46 9 [.string ByteArray.empty] := ⟨Tryd.underlying46, by kernel_rfl, by kernel_rfl⟩
instance : BS Tryd.prog 52 4 [.bool false] := ⟨Tryd.underlying52, by kernel_rfl, by kernel_rfl⟩
instance : BS Tryd.prog 66 3 [.int .i64 0] := ⟨Tryd.underlying66, by kernel_rfl, by kernel_rfl⟩
instance : Bd Tryd.prog 7 [(0, 1), (1, 1), (2, 1), (3, 1)] [.int .i64 0, .int .i64 0, .bool false, .int .u8 0] := ⟨fun _ => by kernel_rfl⟩
instance : FO Tryd.prog 7 0 0 := FO.of (k := 1) Tryd.underlying7 rfl rfl rfl (by kernel_rfl) (by decide)
instance : FV Tryd.prog 7 0 0 1 false := FV.of1 (ft := 2) Tryd.underlying7 rfl rfl rfl inferInstance
instance : FO Tryd.prog 7 1 1 := FO.of (k := 1) Tryd.underlying7 rfl rfl rfl (by kernel_rfl) (by decide)
instance : FV Tryd.prog 7 1 1 1 false := FV.of1 (ft := 3) Tryd.underlying7 rfl rfl rfl inferInstance
instance : FO Tryd.prog 7 2 2 := FO.of (k := 1) Tryd.underlying7 rfl rfl rfl (by kernel_rfl) (by decide)
instance : FV Tryd.prog 7 2 2 1 false := FV.of1 (ft := 4) Tryd.underlying7 rfl rfl rfl inferInstance
instance : FO Tryd.prog 7 3 3 := FO.of (k := 1) Tryd.underlying7 rfl rfl rfl (by kernel_rfl) (by decide)
instance : FV Tryd.prog 7 3 3 1 false := FV.of1 (ft := 6) Tryd.underlying7 rfl rfl rfl inferInstance
instance : Bd Tryd.prog 8 [(0, 1), (1, 1), (2, 1), (3, 1)] [.int .i64 0, .int .i64 0, .bool false, .int .u8 0] := ⟨fun _ => by kernel_rfl⟩
instance : FO Tryd.prog 8 0 0 := FO.of (k := 1) Tryd.underlying8 rfl rfl rfl (by kernel_rfl) (by decide)
instance : FV Tryd.prog 8 0 0 1 false := FV.of1 (ft := 2) Tryd.underlying8 rfl rfl rfl inferInstance
instance : FO Tryd.prog 8 1 1 := FO.of (k := 1) Tryd.underlying8 rfl rfl rfl (by kernel_rfl) (by decide)
instance : FV Tryd.prog 8 1 1 1 false := FV.of1 (ft := 3) Tryd.underlying8 rfl rfl rfl inferInstance
instance : FO Tryd.prog 8 2 2 := FO.of (k := 1) Tryd.underlying8 rfl rfl rfl (by kernel_rfl) (by decide)
instance : FV Tryd.prog 8 2 2 1 false := FV.of1 (ft := 4) Tryd.underlying8 rfl rfl rfl inferInstance
instance : FO Tryd.prog 8 3 3 := FO.of (k := 1) Tryd.underlying8 rfl rfl rfl (by kernel_rfl) (by decide)
instance : FV Tryd.prog 8 3 3 1 false := FV.of1 (ft := 6) Tryd.underlying8 rfl rfl rfl inferInstance
instance : Bd Tryd.prog 13 [(0, 1), (1, 1)] [.string ByteArray.empty, .int .u64 0] := ⟨fun _ => by kernel_rfl⟩
instance : FO Tryd.prog 13 0 0 := FO.of (k := 1) Tryd.underlying13 rfl rfl rfl (by kernel_rfl) (by decide)
instance : FV Tryd.prog 13 0 0 1 false := FV.of1 (ft := 9) Tryd.underlying13 rfl rfl rfl inferInstance
instance : FO Tryd.prog 13 1 1 := FO.of (k := 1) Tryd.underlying13 rfl rfl rfl (by kernel_rfl) (by decide)
instance : FV Tryd.prog 13 1 1 1 false := FV.of1 (ft := 12) Tryd.underlying13 rfl rfl rfl inferInstance
instance : Bd Tryd.prog 14 [(0, 1), (1, 1)] [.string ByteArray.empty, .int .u64 0] := ⟨fun _ => by kernel_rfl⟩
instance : FO Tryd.prog 14 0 0 := FO.of (k := 1) Tryd.underlying14 rfl rfl rfl (by kernel_rfl) (by decide)
instance : FV Tryd.prog 14 0 0 1 false := FV.of1 (ft := 9) Tryd.underlying14 rfl rfl rfl inferInstance
instance : FO Tryd.prog 14 1 1 := FO.of (k := 1) Tryd.underlying14 rfl rfl rfl (by kernel_rfl) (by decide)
instance : FV Tryd.prog 14 1 1 1 false := FV.of1 (ft := 12) Tryd.underlying14 rfl rfl rfl inferInstance
instance : Bd Tryd.prog 18 [(0, 1)] [.pointer none] := ⟨fun _ => by kernel_rfl⟩
instance : FO Tryd.prog 18 0 0 := FO.of (k := 1) Tryd.underlying18 rfl rfl rfl (by kernel_rfl) (by decide)
instance : FV Tryd.prog 18 0 0 1 false := FV.of1 (ft := 17) Tryd.underlying18 rfl rfl rfl inferInstance
instance : Bd Tryd.prog 19 [(0, 1)] [.pointer none] := ⟨fun _ => by kernel_rfl⟩
instance : FO Tryd.prog 19 0 0 := FO.of (k := 1) Tryd.underlying19 rfl rfl rfl (by kernel_rfl) (by decide)
instance : FV Tryd.prog 19 0 0 1 false := FV.of1 (ft := 17) Tryd.underlying19 rfl rfl rfl inferInstance
instance : Bd Tryd.prog 23 [(0, 1), (1, 1), (2, 1)] [.int .i64 0, .int .i64 0, .int .i64 0] := ⟨fun _ => by kernel_rfl⟩
instance : FO Tryd.prog 23 0 0 := FO.of (k := 1) Tryd.underlying23 rfl rfl rfl (by kernel_rfl) (by decide)
instance : FV Tryd.prog 23 0 0 1 false := FV.of1 (ft := 3) Tryd.underlying23 rfl rfl rfl inferInstance
instance : FO Tryd.prog 23 1 1 := FO.of (k := 1) Tryd.underlying23 rfl rfl rfl (by kernel_rfl) (by decide)
instance : FV Tryd.prog 23 1 1 1 false := FV.of1 (ft := 3) Tryd.underlying23 rfl rfl rfl inferInstance
instance : FO Tryd.prog 23 2 2 := FO.of (k := 1) Tryd.underlying23 rfl rfl rfl (by kernel_rfl) (by decide)
instance : FV Tryd.prog 23 2 2 1 false := FV.of1 (ft := 3) Tryd.underlying23 rfl rfl rfl inferInstance
instance : Bd Tryd.prog 24 [(0, 1), (1, 1), (2, 1)] [.int .i64 0, .int .i64 0, .int .i64 0] := ⟨fun _ => by kernel_rfl⟩
instance : FO Tryd.prog 24 0 0 := FO.of (k := 1) Tryd.underlying24 rfl rfl rfl (by kernel_rfl) (by decide)
instance : FV Tryd.prog 24 0 0 1 false := FV.of1 (ft := 3) Tryd.underlying24 rfl rfl rfl inferInstance
instance : FO Tryd.prog 24 1 1 := FO.of (k := 1) Tryd.underlying24 rfl rfl rfl (by kernel_rfl) (by decide)
instance : FV Tryd.prog 24 1 1 1 false := FV.of1 (ft := 3) Tryd.underlying24 rfl rfl rfl inferInstance
instance : FO Tryd.prog 24 2 2 := FO.of (k := 1) Tryd.underlying24 rfl rfl rfl (by kernel_rfl) (by decide)
instance : FV Tryd.prog 24 2 2 1 false := FV.of1 (ft := 3) Tryd.underlying24 rfl rfl rfl inferInstance
instance : Bd Tryd.prog 47 [(0, 1), (1, 1), (2, 1)] [.int .i64 0, .int .i64 0, .int .i64 0] := ⟨fun _ => by kernel_rfl⟩
instance : FO Tryd.prog 47 0 0 := FO.of (k := 1) Tryd.underlying47 rfl rfl rfl (by kernel_rfl) (by decide)
instance : FV Tryd.prog 47 0 0 1 false := FV.of1 (ft := 3) Tryd.underlying47 rfl rfl rfl inferInstance
instance : FO Tryd.prog 47 1 1 := FO.of (k := 1) Tryd.underlying47 rfl rfl rfl (by kernel_rfl) (by decide)
instance : FV Tryd.prog 47 1 1 1 false := FV.of1 (ft := 3) Tryd.underlying47 rfl rfl rfl inferInstance
instance : FO Tryd.prog 47 2 2 := FO.of (k := 1) Tryd.underlying47 rfl rfl rfl (by kernel_rfl) (by decide)
instance : FV Tryd.prog 47 2 2 1 false := FV.of1 (ft := 3) Tryd.underlying47 rfl rfl rfl inferInstance
instance : Bd Tryd.prog 48 [(0, 1), (1, 1), (2, 1)] [.int .i64 0, .int .i64 0, .int .i64 0] := ⟨fun _ => by kernel_rfl⟩
instance : FO Tryd.prog 48 0 0 := FO.of (k := 1) Tryd.underlying48 rfl rfl rfl (by kernel_rfl) (by decide)
instance : FV Tryd.prog 48 0 0 1 false := FV.of1 (ft := 3) Tryd.underlying48 rfl rfl rfl inferInstance
instance : FO Tryd.prog 48 1 1 := FO.of (k := 1) Tryd.underlying48 rfl rfl rfl (by kernel_rfl) (by decide)
instance : FV Tryd.prog 48 1 1 1 false := FV.of1 (ft := 3) Tryd.underlying48 rfl rfl rfl inferInstance
instance : FO Tryd.prog 48 2 2 := FO.of (k := 1) Tryd.underlying48 rfl rfl rfl (by kernel_rfl) (by decide)
instance : FV Tryd.prog 48 2 2 1 false := FV.of1 (ft := 3) Tryd.underlying48 rfl rfl rfl inferInstance
instance : Bd Tryd.prog 54 [(0, 1), (1, 1)] [.string ByteArray.empty, .int .i64 0] := ⟨fun _ => by kernel_rfl⟩
instance : FO Tryd.prog 54 0 0 := FO.of (k := 1) Tryd.underlying54 rfl rfl rfl (by kernel_rfl) (by decide)
instance : FV Tryd.prog 54 0 0 1 false := FV.of1 (ft := 9) Tryd.underlying54 rfl rfl rfl inferInstance
instance : FO Tryd.prog 54 1 1 := FO.of (k := 1) Tryd.underlying54 rfl rfl rfl (by kernel_rfl) (by decide)
instance : FV Tryd.prog 54 1 1 1 false := FV.of1 (ft := 3) Tryd.underlying54 rfl rfl rfl inferInstance
instance : Bd Tryd.prog 55 [(0, 1), (1, 1)] [.string ByteArray.empty, .int .i64 0] := ⟨fun _ => by kernel_rfl⟩
instance : FO Tryd.prog 55 0 0 := FO.of (k := 1) Tryd.underlying55 rfl rfl rfl (by kernel_rfl) (by decide)
instance : FV Tryd.prog 55 0 0 1 false := FV.of1 (ft := 9) Tryd.underlying55 rfl rfl rfl inferInstance
instance : FO Tryd.prog 55 1 1 := FO.of (k := 1) Tryd.underlying55 rfl rfl rfl (by kernel_rfl) (by decide)
instance : FV Tryd.prog 55 1 1 1 false := FV.of1 (ft := 3) Tryd.underlying55 rfl rfl rfl inferInstance
instance : Bd Tryd.prog 63 [(0, 1), (1, 1)] [.slice none 0 0, .int .i64 0] := ⟨fun _ => by kernel_rfl⟩
instance : FO Tryd.prog 63 0 0 := FO.of (k := 1) Tryd.underlying63 rfl rfl rfl (by kernel_rfl) (by decide)
instance : FV Tryd.prog 63 0 0 1 false := FV.of1 (ft := 22) Tryd.underlying63 rfl rfl rfl inferInstance
instance : FO Tryd.prog 63 1 1 := FO.of (k := 1) Tryd.underlying63 rfl rfl rfl (by kernel_rfl) (by decide)
instance : FV Tryd.prog 63 1 1 1 false := FV.of1 (ft := 3) Tryd.underlying63 rfl rfl rfl inferInstance
instance : Bd Tryd.prog 64 [(0, 1), (1, 1)] [.slice none 0 0, .int .i64 0] := ⟨fun _ => by kernel_rfl⟩
instance : FO Tryd.prog 64 0 0 := FO.of (k := 1) Tryd.underlying64 rfl rfl rfl (by kernel_rfl) (by decide)
instance : FV Tryd.prog 64 0 0 1 false := FV.of1 (ft := 22) Tryd.underlying64 rfl rfl rfl inferInstance
instance : FO Tryd.prog 64 1 1 := FO.of (k := 1) Tryd.underlying64 rfl rfl rfl (by kernel_rfl) (by decide)
instance : FV Tryd.prog 64 1 1 1 false := FV.of1 (ft := 3) Tryd.underlying64 rfl rfl rfl inferInstance
instance : ArT Tryd.prog 79 12 1 := ⟨_, Tryd.underlying79, by kernel_rfl⟩
instance : Bd Tryd.prog 83 [(0, 1), (1, 1), (2, 1), (3, 1)] [.pointer none, .pointer none, .pointer none, .string ByteArray.empty] := ⟨fun _ => by kernel_rfl⟩
instance : FO Tryd.prog 83 0 0 := FO.of (k := 1) Tryd.underlying83 rfl rfl rfl (by kernel_rfl) (by decide)
instance : FV Tryd.prog 83 0 0 1 false := FV.of1 (ft := 17) Tryd.underlying83 rfl rfl rfl inferInstance
instance : FO Tryd.prog 83 1 1 := FO.of (k := 1) Tryd.underlying83 rfl rfl rfl (by kernel_rfl) (by decide)
instance : FV Tryd.prog 83 1 1 1 false := FV.of1 (ft := 17) Tryd.underlying83 rfl rfl rfl inferInstance
instance : FO Tryd.prog 83 2 2 := FO.of (k := 1) Tryd.underlying83 rfl rfl rfl (by kernel_rfl) (by decide)
instance : FV Tryd.prog 83 2 2 1 false := FV.of1 (ft := 17) Tryd.underlying83 rfl rfl rfl inferInstance
instance : FO Tryd.prog 83 3 3 := FO.of (k := 1) Tryd.underlying83 rfl rfl rfl (by kernel_rfl) (by decide)
instance : FV Tryd.prog 83 3 3 1 false := FV.of1 (ft := 9) Tryd.underlying83 rfl rfl rfl inferInstance
instance : Bd Tryd.prog 84 [(0, 1), (1, 1), (2, 1), (3, 1)] [.pointer none, .pointer none, .pointer none, .string ByteArray.empty] := ⟨fun _ => by kernel_rfl⟩
instance : FO Tryd.prog 84 0 0 := FO.of (k := 1) Tryd.underlying84 rfl rfl rfl (by kernel_rfl) (by decide)
instance : FV Tryd.prog 84 0 0 1 false := FV.of1 (ft := 17) Tryd.underlying84 rfl rfl rfl inferInstance
instance : FO Tryd.prog 84 1 1 := FO.of (k := 1) Tryd.underlying84 rfl rfl rfl (by kernel_rfl) (by decide)
instance : FV Tryd.prog 84 1 1 1 false := FV.of1 (ft := 17) Tryd.underlying84 rfl rfl rfl inferInstance
instance : FO Tryd.prog 84 2 2 := FO.of (k := 1) Tryd.underlying84 rfl rfl rfl (by kernel_rfl) (by decide)
instance : FV Tryd.prog 84 2 2 1 false := FV.of1 (ft := 17) Tryd.underlying84 rfl rfl rfl inferInstance
instance : FO Tryd.prog 84 3 3 := FO.of (k := 1) Tryd.underlying84 rfl rfl rfl (by kernel_rfl) (by decide)
instance : FV Tryd.prog 84 3 3 1 false := FV.of1 (ft := 9) Tryd.underlying84 rfl rfl rfl inferInstance
instance : ArT Tryd.prog 85 0 1 := ⟨_, Tryd.underlying85, by kernel_rfl⟩
instance : Bd Tryd.prog 86 [(0, 0)] [] := ⟨fun _ => by kernel_rfl⟩
instance : Bd Tryd.prog 87 [(0, 0)] [] := ⟨fun _ => by kernel_rfl⟩
instance : Bd Tryd.prog 96 [(0, 1), (1, 1), (2, 1), (3, 1), (4, 1), (5, 1), (6, 1), (7, 1), (8, 1), (9, 1), (10, 1)] [.int .u64 0, .int .u64 0, .int .u32 0, .int .u8 0, .int .u8 0, .int .u8 0, .int .u8 0, .nilFunc, .pointer none, .int .i32 0, .int .i32 0] := ⟨fun _ => by kernel_rfl⟩
instance : FO Tryd.prog 96 0 0 := FO.of (k := 1) Tryd.underlying96 rfl rfl rfl (by kernel_rfl) (by decide)
instance : FV Tryd.prog 96 0 0 1 false := FV.of1 (ft := 12) Tryd.underlying96 rfl rfl rfl inferInstance
instance : FO Tryd.prog 96 1 1 := FO.of (k := 1) Tryd.underlying96 rfl rfl rfl (by kernel_rfl) (by decide)
instance : FV Tryd.prog 96 1 1 1 false := FV.of1 (ft := 12) Tryd.underlying96 rfl rfl rfl inferInstance
instance : FO Tryd.prog 96 2 2 := FO.of (k := 1) Tryd.underlying96 rfl rfl rfl (by kernel_rfl) (by decide)
instance : FV Tryd.prog 96 2 2 1 false := FV.of1 (ft := 89) Tryd.underlying96 rfl rfl rfl inferInstance
instance : FO Tryd.prog 96 3 3 := FO.of (k := 1) Tryd.underlying96 rfl rfl rfl (by kernel_rfl) (by decide)
instance : FV Tryd.prog 96 3 3 1 false := FV.of1 (ft := 90) Tryd.underlying96 rfl rfl rfl inferInstance
instance : FO Tryd.prog 96 4 4 := FO.of (k := 1) Tryd.underlying96 rfl rfl rfl (by kernel_rfl) (by decide)
instance : FV Tryd.prog 96 4 4 1 false := FV.of1 (ft := 5) Tryd.underlying96 rfl rfl rfl inferInstance
instance : FO Tryd.prog 96 5 5 := FO.of (k := 1) Tryd.underlying96 rfl rfl rfl (by kernel_rfl) (by decide)
instance : FV Tryd.prog 96 5 5 1 false := FV.of1 (ft := 5) Tryd.underlying96 rfl rfl rfl inferInstance
instance : FO Tryd.prog 96 6 6 := FO.of (k := 1) Tryd.underlying96 rfl rfl rfl (by kernel_rfl) (by decide)
instance : FV Tryd.prog 96 6 6 1 false := FV.of1 (ft := 91) Tryd.underlying96 rfl rfl rfl inferInstance
instance : FO Tryd.prog 96 7 7 := FO.of (k := 1) Tryd.underlying96 rfl rfl rfl (by kernel_rfl) (by decide)
instance : FV Tryd.prog 96 7 7 1 false := FV.of1 (ft := 92) Tryd.underlying96 rfl rfl rfl inferInstance
instance : FO Tryd.prog 96 8 8 := FO.of (k := 1) Tryd.underlying96 rfl rfl rfl (by kernel_rfl) (by decide)
instance : FV Tryd.prog 96 8 8 1 false := FV.of1 (ft := 93) Tryd.underlying96 rfl rfl rfl inferInstance
instance : FO Tryd.prog 96 9 9 := FO.of (k := 1) Tryd.underlying96 rfl rfl rfl (by kernel_rfl) (by decide)
instance : FV Tryd.prog 96 9 9 1 false := FV.of1 (ft := 94) Tryd.underlying96 rfl rfl rfl inferInstance
instance : FO Tryd.prog 96 10 10 := FO.of (k := 1) Tryd.underlying96 rfl rfl rfl (by kernel_rfl) (by decide)
instance : FV Tryd.prog 96 10 10 1 false := FV.of1 (ft := 95) Tryd.underlying96 rfl rfl rfl inferInstance
instance : Bd Tryd.prog 97 [(0, 1), (1, 1), (2, 1), (3, 1), (4, 1), (5, 1), (6, 1), (7, 1), (8, 1), (9, 1), (10, 1)] [.int .u64 0, .int .u64 0, .int .u32 0, .int .u8 0, .int .u8 0, .int .u8 0, .int .u8 0, .nilFunc, .pointer none, .int .i32 0, .int .i32 0] := ⟨fun _ => by kernel_rfl⟩
instance : FO Tryd.prog 97 0 0 := FO.of (k := 1) Tryd.underlying97 rfl rfl rfl (by kernel_rfl) (by decide)
instance : FV Tryd.prog 97 0 0 1 false := FV.of1 (ft := 12) Tryd.underlying97 rfl rfl rfl inferInstance
instance : FO Tryd.prog 97 1 1 := FO.of (k := 1) Tryd.underlying97 rfl rfl rfl (by kernel_rfl) (by decide)
instance : FV Tryd.prog 97 1 1 1 false := FV.of1 (ft := 12) Tryd.underlying97 rfl rfl rfl inferInstance
instance : FO Tryd.prog 97 2 2 := FO.of (k := 1) Tryd.underlying97 rfl rfl rfl (by kernel_rfl) (by decide)
instance : FV Tryd.prog 97 2 2 1 false := FV.of1 (ft := 89) Tryd.underlying97 rfl rfl rfl inferInstance
instance : FO Tryd.prog 97 3 3 := FO.of (k := 1) Tryd.underlying97 rfl rfl rfl (by kernel_rfl) (by decide)
instance : FV Tryd.prog 97 3 3 1 false := FV.of1 (ft := 90) Tryd.underlying97 rfl rfl rfl inferInstance
instance : FO Tryd.prog 97 4 4 := FO.of (k := 1) Tryd.underlying97 rfl rfl rfl (by kernel_rfl) (by decide)
instance : FV Tryd.prog 97 4 4 1 false := FV.of1 (ft := 5) Tryd.underlying97 rfl rfl rfl inferInstance
instance : FO Tryd.prog 97 5 5 := FO.of (k := 1) Tryd.underlying97 rfl rfl rfl (by kernel_rfl) (by decide)
instance : FV Tryd.prog 97 5 5 1 false := FV.of1 (ft := 5) Tryd.underlying97 rfl rfl rfl inferInstance
instance : FO Tryd.prog 97 6 6 := FO.of (k := 1) Tryd.underlying97 rfl rfl rfl (by kernel_rfl) (by decide)
instance : FV Tryd.prog 97 6 6 1 false := FV.of1 (ft := 91) Tryd.underlying97 rfl rfl rfl inferInstance
instance : FO Tryd.prog 97 7 7 := FO.of (k := 1) Tryd.underlying97 rfl rfl rfl (by kernel_rfl) (by decide)
instance : FV Tryd.prog 97 7 7 1 false := FV.of1 (ft := 92) Tryd.underlying97 rfl rfl rfl inferInstance
instance : FO Tryd.prog 97 8 8 := FO.of (k := 1) Tryd.underlying97 rfl rfl rfl (by kernel_rfl) (by decide)
instance : FV Tryd.prog 97 8 8 1 false := FV.of1 (ft := 93) Tryd.underlying97 rfl rfl rfl inferInstance
instance : FO Tryd.prog 97 9 9 := FO.of (k := 1) Tryd.underlying97 rfl rfl rfl (by kernel_rfl) (by decide)
instance : FV Tryd.prog 97 9 9 1 false := FV.of1 (ft := 94) Tryd.underlying97 rfl rfl rfl inferInstance
instance : FO Tryd.prog 97 10 10 := FO.of (k := 1) Tryd.underlying97 rfl rfl rfl (by kernel_rfl) (by decide)
instance : FV Tryd.prog 97 10 10 1 false := FV.of1 (ft := 95) Tryd.underlying97 rfl rfl rfl inferInstance
instance : Ent Tryd.prog 2 := .of Tryd.func2 (by kernel_rfl) rfl
instance : Ent Tryd.prog 3 := .of Tryd.func3 (by kernel_rfl) rfl
instance : Ent Tryd.prog 4 := .of Tryd.func4 (by kernel_rfl) rfl
instance : Ent Tryd.prog 5 := .of Tryd.func5 (by kernel_rfl) rfl
instance : Ent Tryd.prog 6 := .of Tryd.func6 (by kernel_rfl) rfl
instance : Ent Tryd.prog 7 := .of Tryd.func7 (by kernel_rfl) rfl
instance : Ent Tryd.prog 8 := .of Tryd.func8 (by kernel_rfl) rfl
instance : Ent Tryd.prog 9 := .of Tryd.func9 (by kernel_rfl) rfl
instance : Ent Tryd.prog 10 := .of Tryd.func10 (by kernel_rfl) rfl
instance : Ent Tryd.prog 11 := .of Tryd.func11 (by kernel_rfl) rfl
instance : Ent Tryd.prog 12 := .of Tryd.func12 (by kernel_rfl) rfl
instance : Ent Tryd.prog 13 := .of Tryd.func13 (by kernel_rfl) rfl
instance : Ent Tryd.prog 14 := .of Tryd.func14 (by kernel_rfl) rfl
instance : Ent Tryd.prog 15 := .of Tryd.func15 (by kernel_rfl) rfl
instance : Ent Tryd.prog 16 := .of Tryd.func16 (by kernel_rfl) rfl
instance : Ent Tryd.prog 17 := .of Tryd.func17 (by kernel_rfl) rfl
instance : Ent Tryd.prog 18 := .of Tryd.func18 (by kernel_rfl) rfl
instance : Ent Tryd.prog 19 := .of Tryd.func19 (by kernel_rfl) rfl
instance : Ent Tryd.prog 20 := .of Tryd.func20 (by kernel_rfl) rfl
instance : Ent Tryd.prog 21 := .of Tryd.func21 (by kernel_rfl) rfl
instance : Ent Tryd.prog 22 := .of Tryd.func22 (by kernel_rfl) rfl
instance : Ent Tryd.prog 23 := .of Tryd.func23 (by kernel_rfl) rfl
instance : Ent Tryd.prog 24 := .of Tryd.func24 (by kernel_rfl) rfl
instance : Ent Tryd.prog 25 := .of Tryd.func25 (by kernel_rfl) rfl
instance : Ent Tryd.prog 26 := .of Tryd.func26 (by kernel_rfl) rfl
instance : Ent Tryd.prog 27 := .of Tryd.func27 (by kernel_rfl) rfl
instance : Ent Tryd.prog 28 := .of Tryd.func28 (by kernel_rfl) rfl
instance : Ent Tryd.prog 29 := .of Tryd.func29 (by kernel_rfl) rfl
instance : Ent Tryd.prog 30 := .of Tryd.func30 (by kernel_rfl) rfl
instance : Ent Tryd.prog 31 := .of Tryd.func31 (by kernel_rfl) rfl
instance : Ent Tryd.prog 32 := .of Tryd.func32 (by kernel_rfl) rfl
instance : Ent Tryd.prog 33 := .of Tryd.func33 (by kernel_rfl) rfl
instance : Ent Tryd.prog 34 := .of Tryd.func34 (by kernel_rfl) rfl
instance : Ent Tryd.prog 35 := .of Tryd.func35 (by kernel_rfl) rfl
instance : Ent Tryd.prog 36 := .of Tryd.func36 (by kernel_rfl) rfl
instance : Ent Tryd.prog 37 := .of Tryd.func37 (by kernel_rfl) rfl
instance : Ent Tryd.prog 38 := .of Tryd.func38 (by kernel_rfl) rfl
instance : Ent Tryd.prog 39 := .of Tryd.func39 (by kernel_rfl) rfl
instance : Ent Tryd.prog 40 := .of Tryd.func40 (by kernel_rfl) rfl
instance : Ent Tryd.prog 41 := .of Tryd.func41 (by kernel_rfl) rfl
instance : Ent Tryd.prog 42 := .of Tryd.func42 (by kernel_rfl) rfl
instance : Ent Tryd.prog 43 := .of Tryd.func43 (by kernel_rfl) rfl
instance : Ent Tryd.prog 44 := .of Tryd.func44 (by kernel_rfl) rfl
instance : Ent Tryd.prog 45 := .of Tryd.func45 (by kernel_rfl) rfl
instance : Ent Tryd.prog 46 := .of Tryd.func46 (by kernel_rfl) rfl
instance : Ent Tryd.prog 47 := .of Tryd.func47 (by kernel_rfl) rfl
instance : Ent Tryd.prog 48 := .of Tryd.func48 (by kernel_rfl) rfl
instance : Ent Tryd.prog 64 := .of Tryd.func64 (by kernel_rfl) rfl
instance : Ent Tryd.prog 65 := .of Tryd.func65 (by kernel_rfl) rfl
instance : Ent Tryd.prog 66 := .of Tryd.func66 (by kernel_rfl) rfl
instance : Ent Tryd.prog 67 := .of Tryd.func67 (by kernel_rfl) rfl
instance : Ent Tryd.prog 68 := .of Tryd.func68 (by kernel_rfl) rfl
instance : Ent Tryd.prog 69 := .of Tryd.func69 (by kernel_rfl) rfl
instance : Ent Tryd.prog 70 := .of Tryd.func70 (by kernel_rfl) rfl
instance : Ent Tryd.prog 71 := .of Tryd.func71 (by kernel_rfl) rfl
instance : Ent Tryd.prog 72 := .of Tryd.func72 (by kernel_rfl) rfl
instance : Ent Tryd.prog 73 := .of Tryd.func73 (by kernel_rfl) rfl
instance : Ent Tryd.prog 74 := .of Tryd.func74 (by kernel_rfl) rfl
instance : Ent Tryd.prog 75 := .of Tryd.func75 (by kernel_rfl) rfl
instance : Ent Tryd.prog 76 := .of Tryd.func76 (by kernel_rfl) rfl
instance : Ent Tryd.prog 77 := .of Tryd.func77 (by kernel_rfl) rfl
instance : Ent Tryd.prog 78 := .of Tryd.func78 (by kernel_rfl) rfl
instance : Ent Tryd.prog 79 := .of Tryd.func79 (by kernel_rfl) rfl
instance : Ent Tryd.prog 80 := .of Tryd.func80 (by kernel_rfl) rfl
instance : Ent Tryd.prog 81 := .of Tryd.func81 (by kernel_rfl) rfl
instance : Ent Tryd.prog 82 := .of Tryd.func82 (by kernel_rfl) rfl
instance : Ent Tryd.prog 83 := .of Tryd.func83 (by kernel_rfl) rfl
instance : Ent Tryd.prog 84 := .of Tryd.func84 (by kernel_rfl) rfl
instance : Ent Tryd.prog 85 := .of Tryd.func85 (by kernel_rfl) rfl
instance : Ent Tryd.prog 86 := .of Tryd.func86 (by kernel_rfl) rfl
instance : Ent Tryd.prog 87 := .of Tryd.func87 (by kernel_rfl) rfl
instance : Ent Tryd.prog 92 := .of Tryd.func92 (by kernel_rfl) rfl

end D
end Go.Proofs.YtdhlbaccbeahoaaDoor

namespace Go.Proofs.YtdhlbaccbeahoaaDoor
set_option linter.unusedVariables false
set_option linter.unusedSimpArgs false
namespace D
open Go.RowKit

instance : Ci Tryd.prog 1 := ⟨_, Tryd.underlying1, rfl⟩
instance : Zv Tryd.prog 1 (.nilFunc) := ⟨by kernel_rfl⟩
instance : Ci Tryd.prog 2 := ⟨_, Tryd.underlying2, rfl⟩
instance : Zv Tryd.prog 2 (.int .i64 0) := ⟨by kernel_rfl⟩
instance : Ci Tryd.prog 3 := ⟨_, Tryd.underlying3, rfl⟩
instance : Zv Tryd.prog 3 (.int .i64 0) := ⟨by kernel_rfl⟩
instance : Ci Tryd.prog 4 := ⟨_, Tryd.underlying4, rfl⟩
instance : Zv Tryd.prog 4 (.bool false) := ⟨by kernel_rfl⟩
instance : U8 Tryd.prog 5 := ⟨Tryd.underlying5⟩
instance : Ci Tryd.prog 5 := ⟨_, Tryd.underlying5, rfl⟩
instance : Zv Tryd.prog 5 (.int .u8 0) := ⟨by kernel_rfl⟩
instance : U8 Tryd.prog 6 := ⟨Tryd.underlying6⟩
instance : Ci Tryd.prog 6 := ⟨_, Tryd.underlying6, rfl⟩
instance : Zv Tryd.prog 6 (.int .u8 0) := ⟨by kernel_rfl⟩
instance : Ci Tryd.prog 7 := ⟨_, Tryd.underlying7, rfl⟩
instance : Zv Tryd.prog 7 (.agg #[.int .i64 0, .int .i64 0, .bool false, .int .u8 0]) := ⟨by kernel_rfl⟩
instance : Ci Tryd.prog 8 := ⟨_, Tryd.underlying8, rfl⟩
instance : Zv Tryd.prog 8 (.agg #[.int .i64 0, .int .i64 0, .bool false, .int .u8 0]) := ⟨by kernel_rfl⟩
instance : Ci Tryd.prog 9 := ⟨_, Tryd.underlying9, rfl⟩
instance : Zv Tryd.prog 9 (.string ByteArray.empty) := ⟨by kernel_rfl⟩
instance : Ci Tryd.prog 10 := ⟨_, Tryd.underlying10, rfl⟩
instance : Zv Tryd.prog 10 (.string ByteArray.empty) := ⟨by kernel_rfl⟩
instance : Ci Tryd.prog 11 := ⟨_, Tryd.underlying11, rfl⟩
instance : Zv Tryd.prog 11 (.string ByteArray.empty) := ⟨by kernel_rfl⟩
instance : Ci Tryd.prog 12 := ⟨_, Tryd.underlying12, rfl⟩
instance : Zv Tryd.prog 12 (.int .u64 0) := ⟨by kernel_rfl⟩
instance : Ci Tryd.prog 13 := ⟨_, Tryd.underlying13, rfl⟩
instance : Zv Tryd.prog 13 (.agg #[.string ByteArray.empty, .int .u64 0]) := ⟨by kernel_rfl⟩
instance : Ci Tryd.prog 14 := ⟨_, Tryd.underlying14, rfl⟩
instance : Zv Tryd.prog 14 (.agg #[.string ByteArray.empty, .int .u64 0]) := ⟨by kernel_rfl⟩
instance : Ci Tryd.prog 15 := ⟨_, Tryd.underlying15, rfl⟩
instance : Zv Tryd.prog 15 (.pointer none) := ⟨by kernel_rfl⟩
instance : Ci Tryd.prog 16 := ⟨_, Tryd.underlying16, rfl⟩
instance : Zv Tryd.prog 16 (.pointer none) := ⟨by kernel_rfl⟩
instance : Ci Tryd.prog 17 := ⟨_, Tryd.underlying17, rfl⟩
instance : Zv Tryd.prog 17 (.pointer none) := ⟨by kernel_rfl⟩
instance : Ci Tryd.prog 18 := ⟨_, Tryd.underlying18, rfl⟩
instance : Zv Tryd.prog 18 (.agg #[.pointer none]) := ⟨by kernel_rfl⟩
instance : Ci Tryd.prog 19 := ⟨_, Tryd.underlying19, rfl⟩
instance : Zv Tryd.prog 19 (.agg #[.pointer none]) := ⟨by kernel_rfl⟩
instance : Zv Tryd.prog 20 (.nilIface) := ⟨by kernel_rfl⟩
instance : Ci Tryd.prog 21 := ⟨_, Tryd.underlying21, rfl⟩
instance : Zv Tryd.prog 21 (.int .i32 0) := ⟨by kernel_rfl⟩
instance : Ap Tryd.prog 22 5 1 1 := ⟨Tryd.underlying22, by kernel_rfl, by decide⟩
instance : Ci Tryd.prog 22 := ⟨_, Tryd.underlying22, rfl⟩
instance : Zv Tryd.prog 22 (.slice none 0 0) := ⟨by kernel_rfl⟩
instance : Ci Tryd.prog 23 := ⟨_, Tryd.underlying23, rfl⟩
instance : Zv Tryd.prog 23 (.agg #[.int .i64 0, .int .i64 0, .int .i64 0]) := ⟨by kernel_rfl⟩
instance : Ci Tryd.prog 24 := ⟨_, Tryd.underlying24, rfl⟩
instance : Zv Tryd.prog 24 (.agg #[.int .i64 0, .int .i64 0, .int .i64 0]) := ⟨by kernel_rfl⟩
instance : Ci Tryd.prog 26 := ⟨_, Tryd.underlying26, rfl⟩
instance : Zv Tryd.prog 26 (.nilFunc) := ⟨by kernel_rfl⟩
instance : Ci Tryd.prog 28 := ⟨_, Tryd.underlying28, rfl⟩
instance : Zv Tryd.prog 28 (.nilFunc) := ⟨by kernel_rfl⟩
instance : Ci Tryd.prog 30 := ⟨_, Tryd.underlying30, rfl⟩
instance : Zv Tryd.prog 30 (.nilFunc) := ⟨by kernel_rfl⟩
instance : Ci Tryd.prog 31 := ⟨_, Tryd.underlying31, rfl⟩
instance : Zv Tryd.prog 31 (.nilFunc) := ⟨by kernel_rfl⟩
instance : Ci Tryd.prog 32 := ⟨_, Tryd.underlying32, rfl⟩
instance : Zv Tryd.prog 32 (.nilFunc) := ⟨by kernel_rfl⟩
instance : Ci Tryd.prog 33 := ⟨_, Tryd.underlying33, rfl⟩
instance : Zv Tryd.prog 33 (.nilFunc) := ⟨by kernel_rfl⟩
instance : Ci Tryd.prog 34 := ⟨_, Tryd.underlying34, rfl⟩
instance : Zv Tryd.prog 34 (.pointer none) := ⟨by kernel_rfl⟩
instance : Ci Tryd.prog 35 := ⟨_, Tryd.underlying35, rfl⟩
instance : Zv Tryd.prog 35 (.nilFunc) := ⟨by kernel_rfl⟩
instance : Ci Tryd.prog 36 := ⟨_, Tryd.underlying36, rfl⟩
instance : Zv Tryd.prog 36 (.nilFunc) := ⟨by kernel_rfl⟩
instance : Ci Tryd.prog 37 := ⟨_, Tryd.underlying37, rfl⟩
instance : Zv Tryd.prog 37 (.nilFunc) := ⟨by kernel_rfl⟩
instance : Ci Tryd.prog 38 := ⟨_, Tryd.underlying38, rfl⟩
instance : Zv Tryd.prog 38 (.nilFunc) := ⟨by kernel_rfl⟩
instance : Ci Tryd.prog 39 := ⟨_, Tryd.underlying39, rfl⟩
instance : Zv Tryd.prog 39 (.nilFunc) := ⟨by kernel_rfl⟩
instance : Zv Tryd.prog 40 (.nilIface) := ⟨by kernel_rfl⟩
instance : Zv Tryd.prog 41 (.nilIface) := ⟨by kernel_rfl⟩
instance : Ap Tryd.prog 42 41 1 16 := ⟨Tryd.underlying42, by kernel_rfl, by decide⟩
instance : Ci Tryd.prog 42 := ⟨_, Tryd.underlying42, rfl⟩
instance : Zv Tryd.prog 42 (.slice none 0 0) := ⟨by kernel_rfl⟩
instance : Ci Tryd.prog 43 := ⟨_, Tryd.underlying43, rfl⟩
instance : Zv Tryd.prog 43 (.nilFunc) := ⟨by kernel_rfl⟩
instance : Ci Tryd.prog 44 := ⟨_, Tryd.underlying44, rfl⟩
instance : Zv Tryd.prog 44 (.nilFunc) := ⟨by kernel_rfl⟩
instance : Ci Tryd.prog 45 := ⟨_, Tryd.underlying45, rfl⟩
instance : Zv Tryd.prog 45 (.nilFunc) := ⟨by kernel_rfl⟩
instance : Ap Tryd.prog 46 9 1 16 := ⟨Tryd.underlying46, by kernel_rfl, by decide⟩
instance : Ci Tryd.prog 46 := ⟨_, Tryd.underlying46, rfl⟩
instance : Zv Tryd.prog 46 (.slice none 0 0) := ⟨by kernel_rfl⟩
instance : Ci Tryd.prog 47 := ⟨_, Tryd.underlying47, rfl⟩
instance : Zv Tryd.prog 47 (.agg #[.int .i64 0, .int .i64 0, .int .i64 0]) := ⟨by kernel_rfl⟩
instance : Ci Tryd.prog 48 := ⟨_, Tryd.underlying48, rfl⟩
instance : Zv Tryd.prog 48 (.agg #[.int .i64 0, .int .i64 0, .int .i64 0]) := ⟨by kernel_rfl⟩
instance : Ci Tryd.prog 50 := ⟨_, Tryd.underlying50, rfl⟩
instance : Zv Tryd.prog 50 (.nilFunc) := ⟨by kernel_rfl⟩
instance : Ci Tryd.prog 51 := ⟨_, Tryd.underlying51, rfl⟩
instance : Zv Tryd.prog 51 (.nilFunc) := ⟨by kernel_rfl⟩
instance : Ap Tryd.prog 52 4 1 1 := ⟨Tryd.underlying52, by kernel_rfl, by decide⟩
instance : Ci Tryd.prog 52 := ⟨_, Tryd.underlying52, rfl⟩
instance : Zv Tryd.prog 52 (.slice none 0 0) := ⟨by kernel_rfl⟩
instance : Ci Tryd.prog 53 := ⟨_, Tryd.underlying53, rfl⟩
instance : Zv Tryd.prog 53 (.pointer none) := ⟨by kernel_rfl⟩
instance : Ci Tryd.prog 54 := ⟨_, Tryd.underlying54, rfl⟩
instance : Zv Tryd.prog 54 (.agg #[.string ByteArray.empty, .int .i64 0]) := ⟨by kernel_rfl⟩
instance : Ci Tryd.prog 55 := ⟨_, Tryd.underlying55, rfl⟩
instance : Zv Tryd.prog 55 (.agg #[.string ByteArray.empty, .int .i64 0]) := ⟨by kernel_rfl⟩
instance : Ci Tryd.prog 57 := ⟨_, Tryd.underlying57, rfl⟩
instance : Zv Tryd.prog 57 (.nilFunc) := ⟨by kernel_rfl⟩
instance : Ci Tryd.prog 58 := ⟨_, Tryd.underlying58, rfl⟩
instance : Zv Tryd.prog 58 (.nilFunc) := ⟨by kernel_rfl⟩
instance : Ci Tryd.prog 59 := ⟨_, Tryd.underlying59, rfl⟩
instance : Zv Tryd.prog 59 (.nilFunc) := ⟨by kernel_rfl⟩
instance : Ci Tryd.prog 60 := ⟨_, Tryd.underlying60, rfl⟩
instance : Zv Tryd.prog 60 (.nilFunc) := ⟨by kernel_rfl⟩
instance : Ci Tryd.prog 61 := ⟨_, Tryd.underlying61, rfl⟩
instance : Zv Tryd.prog 61 (.nilFunc) := ⟨by kernel_rfl⟩
instance : Ci Tryd.prog 62 := ⟨_, Tryd.underlying62, rfl⟩
instance : Zv Tryd.prog 62 (.nilFunc) := ⟨by kernel_rfl⟩
instance : Ci Tryd.prog 63 := ⟨_, Tryd.underlying63, rfl⟩
instance : Zv Tryd.prog 63 (.agg #[.slice none 0 0, .int .i64 0]) := ⟨by kernel_rfl⟩
instance : Ci Tryd.prog 64 := ⟨_, Tryd.underlying64, rfl⟩
instance : Zv Tryd.prog 64 (.agg #[.slice none 0 0, .int .i64 0]) := ⟨by kernel_rfl⟩
instance : Ci Tryd.prog 65 := ⟨_, Tryd.underlying65, rfl⟩
instance : Zv Tryd.prog 65 (.nilFunc) := ⟨by kernel_rfl⟩
instance : Ap Tryd.prog 66 3 1 8 := ⟨Tryd.underlying66, by kernel_rfl, by decide⟩
instance : Ci Tryd.prog 66 := ⟨_, Tryd.underlying66, rfl⟩
instance : Zv Tryd.prog 66 (.slice none 0 0) := ⟨by kernel_rfl⟩
instance : Ci Tryd.prog 67 := ⟨_, Tryd.underlying67, rfl⟩
instance : Zv Tryd.prog 67 (.nilFunc) := ⟨by kernel_rfl⟩
instance : Bd Tryd.prog 68 [] [] := ⟨fun _ => by kernel_rfl⟩
instance : Ci Tryd.prog 68 := ⟨_, Tryd.underlying68, rfl⟩
instance : Zv Tryd.prog 68 (.agg #[]) := ⟨by kernel_rfl⟩
instance : Bd Tryd.prog 69 [] [] := ⟨fun _ => by kernel_rfl⟩
instance : Ci Tryd.prog 69 := ⟨_, Tryd.underlying69, rfl⟩
instance : Zv Tryd.prog 69 (.agg #[]) := ⟨by kernel_rfl⟩
instance : Bd Tryd.prog 70 [] [] := ⟨fun _ => by kernel_rfl⟩
instance : Ci Tryd.prog 70 := ⟨_, Tryd.underlying70, rfl⟩
instance : Zv Tryd.prog 70 (.agg #[]) := ⟨by kernel_rfl⟩
instance : Bd Tryd.prog 71 [] [] := ⟨fun _ => by kernel_rfl⟩
instance : Ci Tryd.prog 71 := ⟨_, Tryd.underlying71, rfl⟩
instance : Zv Tryd.prog 71 (.agg #[]) := ⟨by kernel_rfl⟩
instance : Ci Tryd.prog 72 := ⟨_, Tryd.underlying72, rfl⟩
instance : Zv Tryd.prog 72 (.nilFunc) := ⟨by kernel_rfl⟩
instance : Ci Tryd.prog 73 := ⟨_, Tryd.underlying73, rfl⟩
instance : Zv Tryd.prog 73 (.nilFunc) := ⟨by kernel_rfl⟩
instance : Ci Tryd.prog 75 := ⟨_, Tryd.underlying75, rfl⟩
instance : Zv Tryd.prog 75 (.nilFunc) := ⟨by kernel_rfl⟩
instance : Ci Tryd.prog 76 := ⟨_, Tryd.underlying76, rfl⟩
instance : Zv Tryd.prog 76 (.nilFunc) := ⟨by kernel_rfl⟩
instance : Ci Tryd.prog 77 := ⟨_, Tryd.underlying77, rfl⟩
instance : Zv Tryd.prog 77 (.nilFunc) := ⟨by kernel_rfl⟩
instance : Ci Tryd.prog 78 := ⟨_, Tryd.underlying78, rfl⟩
instance : Zv Tryd.prog 78 (.nilFunc) := ⟨by kernel_rfl⟩
instance : Ci Tryd.prog 79 := ⟨_, Tryd.underlying79, rfl⟩
instance : Zv Tryd.prog 79 (.agg #[.int .i64 0, .int .i64 0, .int .i64 0, .int .i64 0, .int .i64 0, .int .i64 0, .int .i64 0, .int .i64 0, .int .i64 0, .int .i64 0, .int .i64 0, .int .i64 0]) := ⟨by kernel_rfl⟩
instance : Ci Tryd.prog 80 := ⟨_, Tryd.underlying80, rfl⟩
instance : Zv Tryd.prog 80 (.nilFunc) := ⟨by kernel_rfl⟩
instance : Ci Tryd.prog 81 := ⟨_, Tryd.underlying81, rfl⟩
instance : Zv Tryd.prog 81 (.nilFunc) := ⟨by kernel_rfl⟩
instance : Ci Tryd.prog 82 := ⟨_, Tryd.underlying82, rfl⟩
instance : Zv Tryd.prog 82 (.nilFunc) := ⟨by kernel_rfl⟩
instance : Ci Tryd.prog 83 := ⟨_, Tryd.underlying83, rfl⟩
instance : Zv Tryd.prog 83 (.agg #[.pointer none, .pointer none, .pointer none, .string ByteArray.empty]) := ⟨by kernel_rfl⟩
instance : Ci Tryd.prog 84 := ⟨_, Tryd.underlying84, rfl⟩
instance : Zv Tryd.prog 84 (.agg #[.pointer none, .pointer none, .pointer none, .string ByteArray.empty]) := ⟨by kernel_rfl⟩
instance : Ci Tryd.prog 85 := ⟨_, Tryd.underlying85, rfl⟩
instance : Zv Tryd.prog 85 (.agg #[]) := ⟨by kernel_rfl⟩
instance : Ci Tryd.prog 86 := ⟨_, Tryd.underlying86, rfl⟩
instance : Zv Tryd.prog 86 (.agg #[]) := ⟨by kernel_rfl⟩
instance : Ci Tryd.prog 87 := ⟨_, Tryd.underlying87, rfl⟩
instance : Zv Tryd.prog 87 (.agg #[]) := ⟨by kernel_rfl⟩
instance : Ci Tryd.prog 88 := ⟨_, Tryd.underlying88, rfl⟩
instance : Zv Tryd.prog 88 (.nilFunc) := ⟨by kernel_rfl⟩
instance : Ci Tryd.prog 89 := ⟨_, Tryd.underlying89, rfl⟩
instance : Zv Tryd.prog 89 (.int .u32 0) := ⟨by kernel_rfl⟩
instance : U8 Tryd.prog 90 := ⟨Tryd.underlying90⟩
instance : Ci Tryd.prog 90 := ⟨_, Tryd.underlying90, rfl⟩
instance : Zv Tryd.prog 90 (.int .u8 0) := ⟨by kernel_rfl⟩
instance : U8 Tryd.prog 91 := ⟨Tryd.underlying91⟩
instance : Ci Tryd.prog 91 := ⟨_, Tryd.underlying91, rfl⟩
instance : Zv Tryd.prog 91 (.int .u8 0) := ⟨by kernel_rfl⟩
instance : Ci Tryd.prog 92 := ⟨_, Tryd.underlying92, rfl⟩
instance : Zv Tryd.prog 92 (.nilFunc) := ⟨by kernel_rfl⟩
instance : Ci Tryd.prog 93 := ⟨_, Tryd.underlying93, rfl⟩
instance : Zv Tryd.prog 93 (.pointer none) := ⟨by kernel_rfl⟩
instance : Ci Tryd.prog 94 := ⟨_, Tryd.underlying94, rfl⟩
instance : Zv Tryd.prog 94 (.int .i32 0) := ⟨by kernel_rfl⟩
instance : Ci Tryd.prog 95 := ⟨_, Tryd.underlying95, rfl⟩
instance : Zv Tryd.prog 95 (.int .i32 0) := ⟨by kernel_rfl⟩
instance : Ci Tryd.prog 96 := ⟨_, Tryd.underlying96, rfl⟩
instance : Zv Tryd.prog 96 (.agg #[.int .u64 0, .int .u64 0, .int .u32 0, .int .u8 0, .int .u8 0, .int .u8 0, .int .u8 0, .nilFunc, .pointer none, .int .i32 0, .int .i32 0]) := ⟨by kernel_rfl⟩
instance : Ci Tryd.prog 97 := ⟨_, Tryd.underlying97, rfl⟩
instance : Zv Tryd.prog 97 (.agg #[.int .u64 0, .int .u64 0, .int .u32 0, .int .u8 0, .int .u8 0, .int .u8 0, .int .u8 0, .nilFunc, .pointer none, .int .i32 0, .int .i32 0]) := ⟨by kernel_rfl⟩
instance : Ci Tryd.prog 98 := ⟨_, Tryd.underlying98, rfl⟩
instance : Zv Tryd.prog 98 (.nilFunc) := ⟨by kernel_rfl⟩
instance : Ci Tryd.prog 99 := ⟨_, Tryd.underlying99, rfl⟩
instance : Zv Tryd.prog 99 (.nilFunc) := ⟨by kernel_rfl⟩
instance : Ci Tryd.prog 100 := ⟨_, Tryd.underlying100, rfl⟩
instance : Zv Tryd.prog 100 (.nilFunc) := ⟨by kernel_rfl⟩
instance : Ci Tryd.prog 101 := ⟨_, Tryd.underlying101, rfl⟩
instance : Zv Tryd.prog 101 (.nilFunc) := ⟨by kernel_rfl⟩
instance : Ci Tryd.prog 102 := ⟨_, Tryd.underlying102, rfl⟩
instance : Zv Tryd.prog 102 (.nilFunc) := ⟨by kernel_rfl⟩
instance : Ci Tryd.prog 103 := ⟨_, Tryd.underlying103, rfl⟩
instance : Zv Tryd.prog 103 (.pointer none) := ⟨by kernel_rfl⟩

end D
end Go.Proofs.YtdhlbaccbeahoaaDoor
