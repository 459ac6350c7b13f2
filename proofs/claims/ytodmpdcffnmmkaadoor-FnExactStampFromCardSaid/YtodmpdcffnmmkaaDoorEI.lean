/- The engine, part 7: what the program's types and functions are (closed facts). -/
import Derived.Test.YtodmpdcffnmmkaaDoorE2
import Derived.Test.YtodmpdcffnmmkaaDoorProg
import Derived.Test.YtodmpdcffnmmkaaDoorE3m
namespace Go.Proofs.YtodmpdcffnmmkaaDoor
set_option linter.unusedVariables false
set_option linter.unusedSimpArgs false
namespace D
open Go.RowKit

variable {P : Program}
theorem fieldPlace_run {fd : Field} {k : Nat} (hz : (P.info? fd.type).map (·.size) = some k) (hk : k ≠ 0) (b o : Nat) (w : World) : (fieldPlace ⟨b, o, none⟩ fd).run P w = .ok ⟨b, o + fd.offset, none⟩ w := by
  simp [fieldPlace, run_sizeOf hz, hk, add_plain]
theorem FO.of {s f off ft : Nat} {fs : Array Field} {fd : Field} {k : Nat} (hu : P.underlying s = some (.struct fs)) (hf : fs[f]? = some fd) (ho : fd.offset = off) (ht : fd.type = ft) (hz : (P.info? ft).map (·.size) = some k) (hk : k ≠ 0) : FO P s f off := by
  subst ho; subst ht
  exact ⟨fun b o w => by simp [Instr.fieldAt, run_underlying hu, hf, Instr.sureAddr, fieldPlace_run hz hk]⟩
theorem FV.of1 {s f off ft : Nat} {fs : Array Field} {fd : Field} (hu : P.underlying s = some (.struct fs)) (hf : fs[f]? = some fd) (ho : fd.offset = off) (ht : fd.type = ft) (i : Sc P ft) : FV P s f off 1 false := by
  subst ho; subst ht
  exact ⟨fun us w => by
    simp only [Instr.field, Sem.run_bind, run_underlying hu, Result.andThen_ok, hf, part, asAgg, run_isAgg_sc, Sem.run_pure]
    simp
    cases us[fd.offset]? <;> rfl⟩
theorem FV.ofk {s f off ft : Nat} {fs : Array Field} {fd : Field} {k : Nat} (hu : P.underlying s = some (.struct fs)) (hf : fs[f]? = some fd) (ho : fd.offset = off) (ht : fd.type = ft) (i : Ag P ft k) : FV P s f off k true := by
  subst ho; subst ht
  exact ⟨fun us w => by
    simp only [Instr.field, Sem.run_bind, run_underlying hu, Result.andThen_ok, hf, part, asAgg, run_isAgg_ag, Sem.run_pure, run_sizeOf i.sz]
    simp [run_sizeOf i.sz]⟩

instance : Sc Tryd.prog 1 := ⟨_, Tryd.underlying1, rfl⟩
instance : Sz Tryd.prog 1 1 := ⟨by kernel_rfl⟩
instance : Zr Tryd.prog 1 [.nilFunc] := ⟨by kernel_rfl⟩
instance : Sc Tryd.prog 2 := ⟨_, Tryd.underlying2, rfl⟩
instance : Sz Tryd.prog 2 1 := ⟨by kernel_rfl⟩
instance : Zr Tryd.prog 2 [.int .i64 0] := ⟨by kernel_rfl⟩
instance : I64 Tryd.prog 2 := ⟨Tryd.underlying2⟩
instance : Sc Tryd.prog 3 := ⟨_, Tryd.underlying3, rfl⟩
instance : Sz Tryd.prog 3 1 := ⟨by kernel_rfl⟩
instance : Zr Tryd.prog 3 [.int .i64 0] := ⟨by kernel_rfl⟩
instance : I64 Tryd.prog 3 := ⟨Tryd.underlying3⟩
instance : Sc Tryd.prog 4 := ⟨_, Tryd.underlying4, rfl⟩
instance : Sz Tryd.prog 4 1 := ⟨by kernel_rfl⟩
instance : Zr Tryd.prog 4 [.bool false] := ⟨by kernel_rfl⟩
instance : BoT Tryd.prog 4 := ⟨Tryd.underlying4⟩
instance : Sc Tryd.prog 5 := ⟨_, Tryd.underlying5, rfl⟩
instance : Sz Tryd.prog 5 1 := ⟨by kernel_rfl⟩
instance : Zr Tryd.prog 5 [.int .u8 0] := ⟨by kernel_rfl⟩
instance : Sc Tryd.prog 6 := ⟨_, Tryd.underlying6, rfl⟩
instance : Sz Tryd.prog 6 1 := ⟨by kernel_rfl⟩
instance : Zr Tryd.prog 6 [.int .u8 0] := ⟨by kernel_rfl⟩
instance : Ag Tryd.prog 7 4 := ⟨⟨_, Tryd.underlying7, rfl⟩, by kernel_rfl⟩
instance : Sz Tryd.prog 7 4 := ⟨by kernel_rfl⟩
instance : Zr Tryd.prog 7 [.int .i64 0, .int .i64 0, .bool false, .int .u8 0] := ⟨by kernel_rfl⟩
instance : Ag Tryd.prog 8 4 := ⟨⟨_, Tryd.underlying8, rfl⟩, by kernel_rfl⟩
instance : Sz Tryd.prog 8 4 := ⟨by kernel_rfl⟩
instance : Zr Tryd.prog 8 [.int .i64 0, .int .i64 0, .bool false, .int .u8 0] := ⟨by kernel_rfl⟩
instance : Sc Tryd.prog 9 := ⟨_, Tryd.underlying9, rfl⟩
instance : Sz Tryd.prog 9 1 := ⟨by kernel_rfl⟩
instance : Zr Tryd.prog 9 [.string ByteArray.empty] := ⟨by kernel_rfl⟩
instance : StT Tryd.prog 9 := ⟨Tryd.underlying9⟩
instance : Sc Tryd.prog 10 := ⟨_, Tryd.underlying10, rfl⟩
instance : Sz Tryd.prog 10 1 := ⟨by kernel_rfl⟩
instance : Zr Tryd.prog 10 [.string ByteArray.empty] := ⟨by kernel_rfl⟩
instance : StT Tryd.prog 10 := ⟨Tryd.underlying10⟩
instance : Sc Tryd.prog 11 := ⟨_, Tryd.underlying11, rfl⟩
instance : Sz Tryd.prog 11 1 := ⟨by kernel_rfl⟩
instance : Zr Tryd.prog 11 [.string ByteArray.empty] := ⟨by kernel_rfl⟩
instance : StT Tryd.prog 11 := ⟨Tryd.underlying11⟩
instance : Sc Tryd.prog 12 := ⟨_, Tryd.underlying12, rfl⟩
instance : Sz Tryd.prog 12 1 := ⟨by kernel_rfl⟩
instance : Zr Tryd.prog 12 [.int .u64 0] := ⟨by kernel_rfl⟩
instance : Ag Tryd.prog 13 2 := ⟨⟨_, Tryd.underlying13, rfl⟩, by kernel_rfl⟩
instance : Sz Tryd.prog 13 2 := ⟨by kernel_rfl⟩
instance : Zr Tryd.prog 13 [.string ByteArray.empty, .int .u64 0] := ⟨by kernel_rfl⟩
instance : Ag Tryd.prog 14 2 := ⟨⟨_, Tryd.underlying14, rfl⟩, by kernel_rfl⟩
instance : Sz Tryd.prog 14 2 := ⟨by kernel_rfl⟩
instance : Zr Tryd.prog 14 [.string ByteArray.empty, .int .u64 0] := ⟨by kernel_rfl⟩
instance : Sc Tryd.prog 15 := ⟨_, Tryd.underlying15, rfl⟩
instance : Sz Tryd.prog 15 1 := ⟨by kernel_rfl⟩
instance : Zr Tryd.prog 15 [.pointer none] := ⟨by kernel_rfl⟩
instance : Sc Tryd.prog 16 := ⟨_, Tryd.underlying16, rfl⟩
instance : Sz Tryd.prog 16 1 := ⟨by kernel_rfl⟩
instance : Zr Tryd.prog 16 [.pointer none] := ⟨by kernel_rfl⟩
instance : Sc Tryd.prog 17 := ⟨_, Tryd.underlying17, rfl⟩
instance : Sz Tryd.prog 17 1 := ⟨by kernel_rfl⟩
instance : Zr Tryd.prog 17 [.pointer none] := ⟨by kernel_rfl⟩
instance : Ag Tryd.prog 18 1 := ⟨⟨_, Tryd.underlying18, rfl⟩, by kernel_rfl⟩
instance : Sz Tryd.prog 18 1 := ⟨by kernel_rfl⟩
instance : Zr Tryd.prog 18 [.pointer none] := ⟨by kernel_rfl⟩
instance : Ag Tryd.prog 19 1 := ⟨⟨_, Tryd.underlying19, rfl⟩, by kernel_rfl⟩
instance : Sz Tryd.prog 19 1 := ⟨by kernel_rfl⟩
instance : Zr Tryd.prog 19 [.pointer none] := ⟨by kernel_rfl⟩
instance : Sc Tryd.prog 20 := ⟨_, Tryd.underlying20, rfl⟩
instance : Sz Tryd.prog 20 1 := ⟨by kernel_rfl⟩
instance : Zr Tryd.prog 20 [.nilIface] := ⟨by kernel_rfl⟩
instance : Sc Tryd.prog 21 := ⟨_, Tryd.underlying21, rfl⟩
instance : Sz Tryd.prog 21 1 := ⟨by kernel_rfl⟩
instance : Zr Tryd.prog 21 [.int .i32 0] := ⟨by kernel_rfl⟩
instance : Ag Tryd.prog 22 3 := ⟨⟨_, Tryd.underlying22, rfl⟩, by kernel_rfl⟩
instance : Sz Tryd.prog 22 3 := ⟨by kernel_rfl⟩
instance : Zr Tryd.prog 22 [.int .i64 0, .int .i64 0, .int .i64 0] := ⟨by kernel_rfl⟩
instance : Ag Tryd.prog 23 3 := ⟨⟨_, Tryd.underlying23, rfl⟩, by kernel_rfl⟩
instance : Sz Tryd.prog 23 3 := ⟨by kernel_rfl⟩
instance : Zr Tryd.prog 23 [.int .i64 0, .int .i64 0, .int .i64 0] := ⟨by kernel_rfl⟩
instance : Ag Tryd.prog 24 4 := ⟨⟨_, Tryd.underlying24, rfl⟩, by kernel_rfl⟩
instance : Sz Tryd.prog 24 4 := ⟨by kernel_rfl⟩
instance : Zr Tryd.prog 24 [.int .i64 0, .int .i64 0, .int .i64 0, .int .i64 0] := ⟨by kernel_rfl⟩
instance : Ag Tryd.prog 25 4 := ⟨⟨_, Tryd.underlying25, rfl⟩, by kernel_rfl⟩
instance : Sz Tryd.prog 25 4 := ⟨by kernel_rfl⟩
instance : Zr Tryd.prog 25 [.int .i64 0, .int .i64 0, .int .i64 0, .int .i64 0] := ⟨by kernel_rfl⟩
instance : Ag Tryd.prog 26 8 := ⟨⟨_, Tryd.underlying26, rfl⟩, by kernel_rfl⟩
instance : Sz Tryd.prog 26 8 := ⟨by kernel_rfl⟩
instance : Zr Tryd.prog 26 [.int .i64 0, .int .i64 0, .int .i64 0, .int .i64 0, .int .i64 0, .int .i64 0, .int .i64 0, .int .i64 0] := ⟨by kernel_rfl⟩
instance : Ag Tryd.prog 27 8 := ⟨⟨_, Tryd.underlying27, rfl⟩, by kernel_rfl⟩
instance : Sz Tryd.prog 27 8 := ⟨by kernel_rfl⟩
instance : Zr Tryd.prog 27 [.int .i64 0, .int .i64 0, .int .i64 0, .int .i64 0, .int .i64 0, .int .i64 0, .int .i64 0, .int .i64 0] := ⟨by kernel_rfl⟩
instance : Sc Tryd.prog 29 := ⟨_, Tryd.underlying29, rfl⟩
instance : Sz Tryd.prog 29 1 := ⟨by kernel_rfl⟩
instance : Zr Tryd.prog 29 [.nilFunc] := ⟨by kernel_rfl⟩
instance : Sc Tryd.prog 30 := ⟨_, Tryd.underlying30, rfl⟩
instance : Sz Tryd.prog 30 1 := ⟨by kernel_rfl⟩
instance : Zr Tryd.prog 30 [.nilFunc] := ⟨by kernel_rfl⟩
instance : Sc Tryd.prog 31 := ⟨_, Tryd.underlying31, rfl⟩
instance : Sz Tryd.prog 31 1 := ⟨by kernel_rfl⟩
instance : Zr Tryd.prog 31 [.nilFunc] := ⟨by kernel_rfl⟩
instance : Sc Tryd.prog 32 := ⟨_, Tryd.underlying32, rfl⟩
instance : Sz Tryd.prog 32 1 := ⟨by kernel_rfl⟩
instance : Zr Tryd.prog 32 [.nilFunc] := ⟨by kernel_rfl⟩
instance : Sc Tryd.prog 34 := ⟨_, Tryd.underlying34, rfl⟩
instance : Sz Tryd.prog 34 1 := ⟨by kernel_rfl⟩
instance : Zr Tryd.prog 34 [.nilFunc] := ⟨by kernel_rfl⟩
instance : Sc Tryd.prog 36 := ⟨_, Tryd.underlying36, rfl⟩
instance : Sz Tryd.prog 36 1 := ⟨by kernel_rfl⟩
instance : Zr Tryd.prog 36 [.nilFunc] := ⟨by kernel_rfl⟩
instance : Sc Tryd.prog 38 := ⟨_, Tryd.underlying38, rfl⟩
instance : Sz Tryd.prog 38 1 := ⟨by kernel_rfl⟩
instance : Zr Tryd.prog 38 [.nilFunc] := ⟨by kernel_rfl⟩
instance : Sc Tryd.prog 39 := ⟨_, Tryd.underlying39, rfl⟩
instance : Sz Tryd.prog 39 1 := ⟨by kernel_rfl⟩
instance : Zr Tryd.prog 39 [.pointer none] := ⟨by kernel_rfl⟩
instance : Ag Tryd.prog 40 2 := ⟨⟨_, Tryd.underlying40, rfl⟩, by kernel_rfl⟩
instance : Sz Tryd.prog 40 2 := ⟨by kernel_rfl⟩
instance : Zr Tryd.prog 40 [.string ByteArray.empty, .int .i64 0] := ⟨by kernel_rfl⟩
instance : Ag Tryd.prog 41 2 := ⟨⟨_, Tryd.underlying41, rfl⟩, by kernel_rfl⟩
instance : Sz Tryd.prog 41 2 := ⟨by kernel_rfl⟩
instance : Zr Tryd.prog 41 [.string ByteArray.empty, .int .i64 0] := ⟨by kernel_rfl⟩
instance : Sc Tryd.prog 45 := ⟨_, Tryd.underlying45, rfl⟩
instance : Sz Tryd.prog 45 1 := ⟨by kernel_rfl⟩
instance : Zr Tryd.prog 45 [.nilFunc] := ⟨by kernel_rfl⟩
instance : Sc Tryd.prog 46 := ⟨_, Tryd.underlying46, rfl⟩
instance : Sz Tryd.prog 46 1 := ⟨by kernel_rfl⟩
instance : Zr Tryd.prog 46 [.nilFunc] := ⟨by kernel_rfl⟩
instance : Sc Tryd.prog 47 := ⟨_, Tryd.underlying47, rfl⟩
instance : Sz Tryd.prog 47 1 := ⟨by kernel_rfl⟩
instance : Zr Tryd.prog 47 [.nilFunc] := ⟨by kernel_rfl⟩
instance : Sc Tryd.prog 48 := ⟨_, Tryd.underlying48, rfl⟩
instance : Sz Tryd.prog 48 1 := ⟨by kernel_rfl⟩
instance : Zr Tryd.prog 48 [.nilFunc] := ⟨by kernel_rfl⟩
instance : Sc Tryd.prog 49 := ⟨_, Tryd.underlying49, rfl⟩
instance : Sz Tryd.prog 49 1 := ⟨by kernel_rfl⟩
instance : Zr Tryd.prog 49 [.nilFunc] := ⟨by kernel_rfl⟩
instance : Sc Tryd.prog 51 := ⟨_, Tryd.underlying51, rfl⟩
instance : Sz Tryd.prog 51 1 := ⟨by kernel_rfl⟩
instance : Zr Tryd.prog 51 [.nilFunc] := ⟨by kernel_rfl⟩
instance : Sc Tryd.prog 53 := ⟨_, Tryd.underlying53, rfl⟩
instance : Sz Tryd.prog 53 1 := ⟨by kernel_rfl⟩
instance : Zr Tryd.prog 53 [.nilFunc] := ⟨by kernel_rfl⟩
instance : Sc Tryd.prog 54 := ⟨_, Tryd.underlying54, rfl⟩
instance : Sz Tryd.prog 54 1 := ⟨by kernel_rfl⟩
instance : Zr Tryd.prog 54 [.nilFunc] := ⟨by kernel_rfl⟩
instance : Sc Tryd.prog 55 := ⟨_, Tryd.underlying55, rfl⟩
instance : Sz Tryd.prog 55 1 := ⟨by kernel_rfl⟩
instance : Zr Tryd.prog 55 [.nilFunc] := ⟨by kernel_rfl⟩
instance : Sc Tryd.prog 56 := ⟨_, Tryd.underlying56, rfl⟩
instance : Sz Tryd.prog 56 1 := ⟨by kernel_rfl⟩
instance : Zr Tryd.prog 56 [.nilFunc] := ⟨by kernel_rfl⟩
instance : Sc Tryd.prog 57 := ⟨_, Tryd.underlying57, rfl⟩
instance : Sz Tryd.prog 57 1 := ⟨by kernel_rfl⟩
instance : Zr Tryd.prog 57 [.nilFunc] := ⟨by kernel_rfl⟩
instance : Sc Tryd.prog 58 := ⟨_, Tryd.underlying58, rfl⟩
instance : Sz Tryd.prog 58 1 := ⟨by kernel_rfl⟩
instance : Zr Tryd.prog 58 [.nilFunc] := ⟨by kernel_rfl⟩
instance : Sc Tryd.prog 59 := ⟨_, Tryd.underlying59, rfl⟩
instance : Sz Tryd.prog 59 1 := ⟨by kernel_rfl⟩
instance : Zr Tryd.prog 59 [.slice none 0 0] := ⟨by kernel_rfl⟩
instance : SlT Tryd.prog 59 4 1 := ⟨Tryd.underlying59, by kernel_rfl⟩
instance : Sc Tryd.prog 60 := ⟨_, Tryd.underlying60, rfl⟩
instance : Sz Tryd.prog 60 1 := ⟨by kernel_rfl⟩
instance : Zr Tryd.prog 60 [.nilIface] := ⟨by kernel_rfl⟩
instance : Sc Tryd.prog 61 := ⟨_, Tryd.underlying61, rfl⟩
instance : Sz Tryd.prog 61 1 := ⟨by kernel_rfl⟩
instance : Zr Tryd.prog 61 [.nilIface] := ⟨by kernel_rfl⟩
instance : Sc Tryd.prog 63 := ⟨_, Tryd.underlying63, rfl⟩
instance : Sz Tryd.prog 63 1 := ⟨by kernel_rfl⟩
instance : Zr Tryd.prog 63 [.nilFunc] := ⟨by kernel_rfl⟩
instance : Sc Tryd.prog 64 := ⟨_, Tryd.underlying64, rfl⟩
instance : Sz Tryd.prog 64 1 := ⟨by kernel_rfl⟩
instance : Zr Tryd.prog 64 [.pointer none] := ⟨by kernel_rfl⟩
instance : Sc Tryd.prog 65 := ⟨_, Tryd.underlying65, rfl⟩
instance : Sz Tryd.prog 65 1 := ⟨by kernel_rfl⟩
instance : Zr Tryd.prog 65 [.nilFunc] := ⟨by kernel_rfl⟩
instance : Sc Tryd.prog 66 := ⟨_, Tryd.underlying66, rfl⟩
instance : Sz Tryd.prog 66 1 := ⟨by kernel_rfl⟩
instance : Zr Tryd.prog 66 [.pointer none] := ⟨by kernel_rfl⟩
instance : Sc Tryd.prog 67 := ⟨_, Tryd.underlying67, rfl⟩
instance : Sz Tryd.prog 67 1 := ⟨by kernel_rfl⟩
instance : Zr Tryd.prog 67 [.nilFunc] := ⟨by kernel_rfl⟩
instance : Sc Tryd.prog 68 := ⟨_, Tryd.underlying68, rfl⟩
instance : Sz Tryd.prog 68 1 := ⟨by kernel_rfl⟩
instance : Zr Tryd.prog 68 [.nilFunc] := ⟨by kernel_rfl⟩
instance : Ag Tryd.prog 69 3 := ⟨⟨_, Tryd.underlying69, rfl⟩, by kernel_rfl⟩
instance : Sz Tryd.prog 69 3 := ⟨by kernel_rfl⟩
instance : Zr Tryd.prog 69 [.int .i64 0, .int .i64 0, .int .i64 0] := ⟨by kernel_rfl⟩
instance : Ag Tryd.prog 70 3 := ⟨⟨_, Tryd.underlying70, rfl⟩, by kernel_rfl⟩
instance : Sz Tryd.prog 70 3 := ⟨by kernel_rfl⟩
instance : Zr Tryd.prog 70 [.int .i64 0, .int .i64 0, .int .i64 0] := ⟨by kernel_rfl⟩
instance : Sc Tryd.prog 71 := ⟨_, Tryd.underlying71, rfl⟩
instance : Sz Tryd.prog 71 1 := ⟨by kernel_rfl⟩
instance : Zr Tryd.prog 71 [.nilFunc] := ⟨by kernel_rfl⟩
instance : Sc Tryd.prog 72 := ⟨_, Tryd.underlying72, rfl⟩
instance : Sz Tryd.prog 72 1 := ⟨by kernel_rfl⟩
instance : Zr Tryd.prog 72 [.nilFunc] := ⟨by kernel_rfl⟩
instance : Sc Tryd.prog 73 := ⟨_, Tryd.underlying73, rfl⟩
instance : Sz Tryd.prog 73 1 := ⟨by kernel_rfl⟩
instance : Zr Tryd.prog 73 [.nilFunc] := ⟨by kernel_rfl⟩
instance : Sc Tryd.prog 74 := ⟨_, Tryd.underlying74, rfl⟩
instance : Sz Tryd.prog 74 1 := ⟨by kernel_rfl⟩
instance : Zr Tryd.prog 74 [.slice none 0 0] := ⟨by kernel_rfl⟩
instance : SlT Tryd.prog 74 9 1 := ⟨Tryd.underlying74, by kernel_rfl⟩
instance : Sc Tryd.prog 76 := ⟨_, Tryd.underlying76, rfl⟩
instance : Sz Tryd.prog 76 1 := ⟨by kernel_rfl⟩
instance : Zr Tryd.prog 76 [.nilFunc] := ⟨by kernel_rfl⟩
instance : Sc Tryd.prog 77 := ⟨_, Tryd.underlying77, rfl⟩
instance : Sz Tryd.prog 77 1 := ⟨by kernel_rfl⟩
instance : Zr Tryd.prog 77 [.nilFunc] := ⟨by kernel_rfl⟩
instance : Sc Tryd.prog 78 := ⟨_, Tryd.underlying78, rfl⟩
instance : Sz Tryd.prog 78 1 := ⟨by kernel_rfl⟩
instance : Zr Tryd.prog 78 [.nilFunc] := ⟨by kernel_rfl⟩
instance : Sc Tryd.prog 79 := ⟨_, Tryd.underlying79, rfl⟩
instance : Sz Tryd.prog 79 1 := ⟨by kernel_rfl⟩
instance : Zr Tryd.prog 79 [.nilFunc] := ⟨by kernel_rfl⟩
instance : Sc Tryd.prog 80 := ⟨_, Tryd.underlying80, rfl⟩
instance : Sz Tryd.prog 80 1 := ⟨by kernel_rfl⟩
instance : Zr Tryd.prog 80 [.nilFunc] := ⟨by kernel_rfl⟩
instance : Sc Tryd.prog 81 := ⟨_, Tryd.underlying81, rfl⟩
instance : Sz Tryd.prog 81 1 := ⟨by kernel_rfl⟩
instance : Zr Tryd.prog 81 [.nilFunc] := ⟨by kernel_rfl⟩
instance : Sc Tryd.prog 82 := ⟨_, Tryd.underlying82, rfl⟩
instance : Sz Tryd.prog 82 1 := ⟨by kernel_rfl⟩
instance : Zr Tryd.prog 82 [.nilFunc] := ⟨by kernel_rfl⟩
instance : Ag Tryd.prog 83 3 := ⟨⟨_, Tryd.underlying83, rfl⟩, by kernel_rfl⟩
instance : Sz Tryd.prog 83 3 := ⟨by kernel_rfl⟩
instance : Zr Tryd.prog 83 [.int .i64 0, .int .i64 0, .int .i64 0] := ⟨by kernel_rfl⟩
instance : Ag Tryd.prog 84 1 := ⟨⟨_, Tryd.underlying84, rfl⟩, by kernel_rfl⟩
instance : Sz Tryd.prog 84 1 := ⟨by kernel_rfl⟩
instance : Zr Tryd.prog 84 [.int .i64 0] := ⟨by kernel_rfl⟩
instance : Ag Tryd.prog 85 1 := ⟨⟨_, Tryd.underlying85, rfl⟩, by kernel_rfl⟩
instance : Sz Tryd.prog 85 1 := ⟨by kernel_rfl⟩
instance : Zr Tryd.prog 85 [.int .i64 0] := ⟨by kernel_rfl⟩
instance : Sc Tryd.prog 86 := ⟨_, Tryd.underlying86, rfl⟩
instance : Sz Tryd.prog 86 1 := ⟨by kernel_rfl⟩
instance : Zr Tryd.prog 86 [.nilFunc] := ⟨by kernel_rfl⟩
instance : Sc Tryd.prog 87 := ⟨_, Tryd.underlying87, rfl⟩
instance : Sz Tryd.prog 87 1 := ⟨by kernel_rfl⟩
instance : Zr Tryd.prog 87 [.pointer none] := ⟨by kernel_rfl⟩
instance : Sc Tryd.prog 88 := ⟨_, Tryd.underlying88, rfl⟩
instance : Sz Tryd.prog 88 1 := ⟨by kernel_rfl⟩
instance : Zr Tryd.prog 88 [.int .u64 0] := ⟨by kernel_rfl⟩
instance : Ag Tryd.prog 89 3 := ⟨⟨_, Tryd.underlying89, rfl⟩, by kernel_rfl⟩
instance : Sz Tryd.prog 89 3 := ⟨by kernel_rfl⟩
instance : Zr Tryd.prog 89 [.pointer none, .pointer none, .int .u64 0] := ⟨by kernel_rfl⟩
instance : Ag Tryd.prog 90 3 := ⟨⟨_, Tryd.underlying90, rfl⟩, by kernel_rfl⟩
instance : Sz Tryd.prog 90 3 := ⟨by kernel_rfl⟩
instance : Zr Tryd.prog 90 [.pointer none, .pointer none, .int .u64 0] := ⟨by kernel_rfl⟩
instance : Sc Tryd.prog 91 := ⟨_, Tryd.underlying91, rfl⟩
instance : Sz Tryd.prog 91 1 := ⟨by kernel_rfl⟩
instance : Zr Tryd.prog 91 [.nilFunc] := ⟨by kernel_rfl⟩
instance : Sc Tryd.prog 92 := ⟨_, Tryd.underlying92, rfl⟩
instance : Sz Tryd.prog 92 1 := ⟨by kernel_rfl⟩
instance : Zr Tryd.prog 92 [.nilIface] := ⟨by kernel_rfl⟩
instance : Sc Tryd.prog 93 := ⟨_, Tryd.underlying93, rfl⟩
instance : Sz Tryd.prog 93 1 := ⟨by kernel_rfl⟩
instance : Zr Tryd.prog 93 [.nilIface] := ⟨by kernel_rfl⟩
instance : Sc Tryd.prog 94 := ⟨_, Tryd.underlying94, rfl⟩
instance : Sz Tryd.prog 94 1 := ⟨by kernel_rfl⟩
instance : Zr Tryd.prog 94 [.nilFunc] := ⟨by kernel_rfl⟩
instance : Sc Tryd.prog 95 := ⟨_, Tryd.underlying95, rfl⟩
instance : Sz Tryd.prog 95 1 := ⟨by kernel_rfl⟩
instance : Zr Tryd.prog 95 [.int .u8 0] := ⟨by kernel_rfl⟩
instance : Sc Tryd.prog 96 := ⟨_, Tryd.underlying96, rfl⟩
instance : Sz Tryd.prog 96 1 := ⟨by kernel_rfl⟩
instance : Zr Tryd.prog 96 [.nilFunc] := ⟨by kernel_rfl⟩
instance : Sc Tryd.prog 97 := ⟨_, Tryd.underlying97, rfl⟩
instance : Sz Tryd.prog 97 1 := ⟨by kernel_rfl⟩
instance : Zr Tryd.prog 97 [.nilFunc] := ⟨by kernel_rfl⟩
instance : Sc Tryd.prog 98 := ⟨_, Tryd.underlying98, rfl⟩
instance : Sz Tryd.prog 98 1 := ⟨by kernel_rfl⟩
instance : Zr Tryd.prog 98 [.nilFunc] := ⟨by kernel_rfl⟩
instance : Sc Tryd.prog 99 := ⟨_, Tryd.underlying99, rfl⟩
instance : Sz Tryd.prog 99 1 := ⟨by kernel_rfl⟩
instance : Zr Tryd.prog 99 [.nilFunc] := ⟨by kernel_rfl⟩
instance : Sc Tryd.prog 100 := ⟨_, Tryd.underlying100, rfl⟩
instance : Sz Tryd.prog 100 1 := ⟨by kernel_rfl⟩
instance : Zr Tryd.prog 100 [.int .u64 0] := ⟨by kernel_rfl⟩
instance : Sc Tryd.prog 101 := ⟨_, Tryd.underlying101, rfl⟩
instance : Sz Tryd.prog 101 1 := ⟨by kernel_rfl⟩
instance : Zr Tryd.prog 101 [.nilFunc] := ⟨by kernel_rfl⟩
instance : Sc Tryd.prog 102 := ⟨_, Tryd.underlying102, rfl⟩
instance : Sz Tryd.prog 102 1 := ⟨by kernel_rfl⟩
instance : Zr Tryd.prog 102 [.nilFunc] := ⟨by kernel_rfl⟩
instance : Sc Tryd.prog 103 := ⟨_, Tryd.underlying103, rfl⟩
instance : Sz Tryd.prog 103 1 := ⟨by kernel_rfl⟩
instance : Zr Tryd.prog 103 [.nilFunc] := ⟨by kernel_rfl⟩
instance : Ag Tryd.prog 104 12 := ⟨⟨_, Tryd.underlying104, rfl⟩, by kernel_rfl⟩
instance : Sz Tryd.prog 104 12 := ⟨by kernel_rfl⟩
instance : Zr Tryd.prog 104 [.int .i64 0, .int .i64 0, .int .i64 0, .int .i64 0, .int .i64 0, .int .i64 0, .int .i64 0, .int .i64 0, .int .i64 0, .int .i64 0, .int .i64 0, .int .i64 0] := ⟨by kernel_rfl⟩
instance : Ag Tryd.prog 105 1 := ⟨⟨_, Tryd.underlying105, rfl⟩, by kernel_rfl⟩
instance : Sz Tryd.prog 105 1 := ⟨by kernel_rfl⟩
instance : Zr Tryd.prog 105 [.pointer none] := ⟨by kernel_rfl⟩
instance : Ag Tryd.prog 106 1 := ⟨⟨_, Tryd.underlying106, rfl⟩, by kernel_rfl⟩
instance : Sz Tryd.prog 106 1 := ⟨by kernel_rfl⟩
instance : Zr Tryd.prog 106 [.pointer none] := ⟨by kernel_rfl⟩
instance : Sc Tryd.prog 107 := ⟨_, Tryd.underlying107, rfl⟩
instance : Sz Tryd.prog 107 1 := ⟨by kernel_rfl⟩
instance : Zr Tryd.prog 107 [.pointer none] := ⟨by kernel_rfl⟩
instance : Sc Tryd.prog 108 := ⟨_, Tryd.underlying108, rfl⟩
instance : Sz Tryd.prog 108 1 := ⟨by kernel_rfl⟩
instance : Zr Tryd.prog 108 [.nilFunc] := ⟨by kernel_rfl⟩
instance : Sc Tryd.prog 109 := ⟨_, Tryd.underlying109, rfl⟩
instance : Sz Tryd.prog 109 1 := ⟨by kernel_rfl⟩
instance : Zr Tryd.prog 109 [.nilFunc] := ⟨by kernel_rfl⟩
instance : Sc Tryd.prog 110 := ⟨_, Tryd.underlying110, rfl⟩
instance : Sz Tryd.prog 110 1 := ⟨by kernel_rfl⟩
instance : Zr Tryd.prog 110 [.nilFunc] := ⟨by kernel_rfl⟩
instance : Sc Tryd.prog 111 := ⟨_, Tryd.underlying111, rfl⟩
instance : Sz Tryd.prog 111 1 := ⟨by kernel_rfl⟩
instance : Zr Tryd.prog 111 [.nilIface] := ⟨by kernel_rfl⟩
instance : Sc Tryd.prog 113 := ⟨_, Tryd.underlying113, rfl⟩
instance : Sz Tryd.prog 113 1 := ⟨by kernel_rfl⟩
instance : Zr Tryd.prog 113 [.nilFunc] := ⟨by kernel_rfl⟩
instance : Sc Tryd.prog 114 := ⟨_, Tryd.underlying114, rfl⟩
instance : Sz Tryd.prog 114 1 := ⟨by kernel_rfl⟩
instance : Zr Tryd.prog 114 [.nilIface] := ⟨by kernel_rfl⟩
instance : Sc Tryd.prog 115 := ⟨_, Tryd.underlying115, rfl⟩
instance : Sz Tryd.prog 115 1 := ⟨by kernel_rfl⟩
instance : Zr Tryd.prog 115 [.nilFunc] := ⟨by kernel_rfl⟩
instance : Sc Tryd.prog 116 := ⟨_, Tryd.underlying116, rfl⟩
instance : Sz Tryd.prog 116 1 := ⟨by kernel_rfl⟩
instance : Zr Tryd.prog 116 [.nilIface] := ⟨by kernel_rfl⟩
instance : Sc Tryd.prog 117 := ⟨_, Tryd.underlying117, rfl⟩
instance : Sz Tryd.prog 117 1 := ⟨by kernel_rfl⟩
instance : Zr Tryd.prog 117 [.slice none 0 0] := ⟨by kernel_rfl⟩
instance : SlT Tryd.prog 117 61 1 := ⟨Tryd.underlying117, by kernel_rfl⟩
instance : Sc Tryd.prog 118 := ⟨_, Tryd.underlying118, rfl⟩
instance : Sz Tryd.prog 118 1 := ⟨by kernel_rfl⟩
instance : Zr Tryd.prog 118 [.nilFunc] := ⟨by kernel_rfl⟩
instance : Sc Tryd.prog 119 := ⟨_, Tryd.underlying119, rfl⟩
instance : Sz Tryd.prog 119 1 := ⟨by kernel_rfl⟩
instance : Zr Tryd.prog 119 [.slice none 0 0] := ⟨by kernel_rfl⟩
instance : SlT Tryd.prog 119 5 1 := ⟨Tryd.underlying119, by kernel_rfl⟩
instance : Sc Tryd.prog 120 := ⟨_, Tryd.underlying120, rfl⟩
instance : Sz Tryd.prog 120 1 := ⟨by kernel_rfl⟩
instance : Zr Tryd.prog 120 [.slice none 0 0] := ⟨by kernel_rfl⟩
instance : SlT Tryd.prog 120 3 1 := ⟨Tryd.underlying120, by kernel_rfl⟩
instance : Sc Tryd.prog 121 := ⟨_, Tryd.underlying121, rfl⟩
instance : Sz Tryd.prog 121 1 := ⟨by kernel_rfl⟩
instance : Zr Tryd.prog 121 [.nilFunc] := ⟨by kernel_rfl⟩
instance : Ag Tryd.prog 122 4 := ⟨⟨_, Tryd.underlying122, rfl⟩, by kernel_rfl⟩
instance : Sz Tryd.prog 122 4 := ⟨by kernel_rfl⟩
instance : Zr Tryd.prog 122 [.pointer none, .pointer none, .pointer none, .string ByteArray.empty] := ⟨by kernel_rfl⟩
instance : Ag Tryd.prog 123 4 := ⟨⟨_, Tryd.underlying123, rfl⟩, by kernel_rfl⟩
instance : Sz Tryd.prog 123 4 := ⟨by kernel_rfl⟩
instance : Zr Tryd.prog 123 [.pointer none, .pointer none, .pointer none, .string ByteArray.empty] := ⟨by kernel_rfl⟩
instance : Sc Tryd.prog 127 := ⟨_, Tryd.underlying127, rfl⟩
instance : Sz Tryd.prog 127 1 := ⟨by kernel_rfl⟩
instance : Zr Tryd.prog 127 [.nilFunc] := ⟨by kernel_rfl⟩
instance : Sc Tryd.prog 128 := ⟨_, Tryd.underlying128, rfl⟩
instance : Sz Tryd.prog 128 1 := ⟨by kernel_rfl⟩
instance : Zr Tryd.prog 128 [.int .u32 0] := ⟨by kernel_rfl⟩
instance : Sc Tryd.prog 129 := ⟨_, Tryd.underlying129, rfl⟩
instance : Sz Tryd.prog 129 1 := ⟨by kernel_rfl⟩
instance : Zr Tryd.prog 129 [.int .u8 0] := ⟨by kernel_rfl⟩
instance : Sc Tryd.prog 130 := ⟨_, Tryd.underlying130, rfl⟩
instance : Sz Tryd.prog 130 1 := ⟨by kernel_rfl⟩
instance : Zr Tryd.prog 130 [.nilFunc] := ⟨by kernel_rfl⟩
instance : Sc Tryd.prog 131 := ⟨_, Tryd.underlying131, rfl⟩
instance : Sz Tryd.prog 131 1 := ⟨by kernel_rfl⟩
instance : Zr Tryd.prog 131 [.pointer none] := ⟨by kernel_rfl⟩
instance : Sc Tryd.prog 132 := ⟨_, Tryd.underlying132, rfl⟩
instance : Sz Tryd.prog 132 1 := ⟨by kernel_rfl⟩
instance : Zr Tryd.prog 132 [.int .i32 0] := ⟨by kernel_rfl⟩
instance : Sc Tryd.prog 133 := ⟨_, Tryd.underlying133, rfl⟩
instance : Sz Tryd.prog 133 1 := ⟨by kernel_rfl⟩
instance : Zr Tryd.prog 133 [.int .i32 0] := ⟨by kernel_rfl⟩
instance : Ag Tryd.prog 134 11 := ⟨⟨_, Tryd.underlying134, rfl⟩, by kernel_rfl⟩
instance : Sz Tryd.prog 134 11 := ⟨by kernel_rfl⟩
instance : Zr Tryd.prog 134 [.int .u64 0, .int .u64 0, .int .u32 0, .int .u8 0, .int .u8 0, .int .u8 0, .int .u8 0, .nilFunc, .pointer none, .int .i32 0, .int .i32 0] := ⟨by kernel_rfl⟩
instance : Ag Tryd.prog 135 11 := ⟨⟨_, Tryd.underlying135, rfl⟩, by kernel_rfl⟩
instance : Sz Tryd.prog 135 11 := ⟨by kernel_rfl⟩
instance : Zr Tryd.prog 135 [.int .u64 0, .int .u64 0, .int .u32 0, .int .u8 0, .int .u8 0, .int .u8 0, .int .u8 0, .nilFunc, .pointer none, .int .i32 0, .int .i32 0] := ⟨by kernel_rfl⟩
instance : Sc Tryd.prog 136 := ⟨_, Tryd.underlying136, rfl⟩
instance : Sz Tryd.prog 136 1 := ⟨by kernel_rfl⟩
instance : Zr Tryd.prog 136 [.nilFunc] := ⟨by kernel_rfl⟩
instance : Sc Tryd.prog 137 := ⟨_, Tryd.underlying137, rfl⟩
instance : Sz Tryd.prog 137 1 := ⟨by kernel_rfl⟩
instance : Zr Tryd.prog 137 [.nilFunc] := ⟨by kernel_rfl⟩
instance : Sc Tryd.prog 138 := ⟨_, Tryd.underlying138, rfl⟩
instance : Sz Tryd.prog 138 1 := ⟨by kernel_rfl⟩
instance : Zr Tryd.prog 138 [.nilFunc] := ⟨by kernel_rfl⟩
instance : Ag Tryd.prog 139 2 := ⟨⟨_, Tryd.underlying139, rfl⟩, by kernel_rfl⟩
instance : Sz Tryd.prog 139 2 := ⟨by kernel_rfl⟩
instance : Zr Tryd.prog 139 [.string ByteArray.empty, .int .u8 0] := ⟨by kernel_rfl⟩
instance : Ag Tryd.prog 140 2 := ⟨⟨_, Tryd.underlying140, rfl⟩, by kernel_rfl⟩
instance : Sz Tryd.prog 140 2 := ⟨by kernel_rfl⟩
instance : Zr Tryd.prog 140 [.string ByteArray.empty, .int .u8 0] := ⟨by kernel_rfl⟩
instance : Sc Tryd.prog 141 := ⟨_, Tryd.underlying141, rfl⟩
instance : Sz Tryd.prog 141 1 := ⟨by kernel_rfl⟩
instance : Zr Tryd.prog 141 [.pointer none] := ⟨by kernel_rfl⟩
instance : Sc Tryd.prog 142 := ⟨_, Tryd.underlying142, rfl⟩
instance : Sz Tryd.prog 142 1 := ⟨by kernel_rfl⟩
instance : Zr Tryd.prog 142 [.nilFunc] := ⟨by kernel_rfl⟩
instance : Sc Tryd.prog 143 := ⟨_, Tryd.underlying143, rfl⟩
instance : Sz Tryd.prog 143 1 := ⟨by kernel_rfl⟩
instance : Zr Tryd.prog 143 [.int .u16 0] := ⟨by kernel_rfl⟩
instance : Ag Tryd.prog 144 5 := ⟨⟨_, Tryd.underlying144, rfl⟩, by kernel_rfl⟩
instance : Sz Tryd.prog 144 5 := ⟨by kernel_rfl⟩
instance : Zr Tryd.prog 144 [.int .i32 0, .int .u16 0, .int .u16 0, .int .u32 0, .int .u32 0] := ⟨by kernel_rfl⟩
instance : Ag Tryd.prog 145 5 := ⟨⟨_, Tryd.underlying145, rfl⟩, by kernel_rfl⟩
instance : Sz Tryd.prog 145 5 := ⟨by kernel_rfl⟩
instance : Zr Tryd.prog 145 [.int .i32 0, .int .u16 0, .int .u16 0, .int .u32 0, .int .u32 0] := ⟨by kernel_rfl⟩
instance : Sc Tryd.prog 146 := ⟨_, Tryd.underlying146, rfl⟩
instance : Sz Tryd.prog 146 1 := ⟨by kernel_rfl⟩
instance : Zr Tryd.prog 146 [.slice none 0 0] := ⟨by kernel_rfl⟩
instance : SlT Tryd.prog 146 149 4 := ⟨Tryd.underlying146, by kernel_rfl⟩
instance : Sc Tryd.prog 147 := ⟨_, Tryd.underlying147, rfl⟩
instance : Sz Tryd.prog 147 1 := ⟨by kernel_rfl⟩
instance : Zr Tryd.prog 147 [.int .i32 0] := ⟨by kernel_rfl⟩
instance : Ag Tryd.prog 148 4 := ⟨⟨_, Tryd.underlying148, rfl⟩, by kernel_rfl⟩
instance : Sz Tryd.prog 148 4 := ⟨by kernel_rfl⟩
instance : Zr Tryd.prog 148 [.int .i32 0, .int .i32 0, .int .i32 0, .int .i32 0] := ⟨by kernel_rfl⟩
instance : Ag Tryd.prog 149 4 := ⟨⟨_, Tryd.underlying149, rfl⟩, by kernel_rfl⟩
instance : Sz Tryd.prog 149 4 := ⟨by kernel_rfl⟩
instance : Zr Tryd.prog 149 [.int .i32 0, .int .i32 0, .int .i32 0, .int .i32 0] := ⟨by kernel_rfl⟩
instance : Sc Tryd.prog 150 := ⟨_, Tryd.underlying150, rfl⟩
instance : Sz Tryd.prog 150 1 := ⟨by kernel_rfl⟩
instance : Zr Tryd.prog 150 [.pointer none] := ⟨by kernel_rfl⟩
instance : BS Tryd.prog 59 4 [.bool false] := ⟨Tryd.underlying59, by kernel_rfl, by kernel_rfl⟩
instance : BS Tryd.prog 74 9 [.string ByteArray.empty] := ⟨Tryd.underlying74, by kernel_rfl, by kernel_rfl⟩
instance : BS Tryd.prog 117 61 [.nilIface] := ⟨Tryd.underlying117, by kernel_rfl, by kernel_rfl⟩
instance : BS Tryd.prog 119 5 [.int .u8 0] := ⟨Tryd.underlying119, by kernel_rfl, by kernel_rfl⟩
instance : BS Tryd.prog 120 3 [.int .i64 0] := ⟨Tryd.underlying120, by kernel_rfl, by kernel_rfl⟩
instance : BS Tryd.prog 146 149 [.int .i32 0, .int .i32 0, .int .i32 0, .int .i32 0] := ⟨Tryd.underlying146, by kernel_rfl, by kernel_rfl⟩
instance : Bd Tryd.prog 7 [(0, 1), (1, 1), (2, 1), (3, 1)] [.int .i64 0, .int .i64 0, .bool false, .int .u8 0] := ⟨fun _ => by kernel_rfl⟩
instance : FO Tryd.prog 7 0 0 := FO.of (k := 1) Tryd.underlying7 rfl rfl rfl (by kernel_rfl) (by decide)
instance : FV Tryd.prog 7 0 0 1 false := FV.of1 (ft := 2) Tryd.underlying7 rfl rfl rfl inferInstance
instance : FO Tryd.prog 7 1 1 := FO.of (k := 1) Tryd.underlying7 rfl rfl rfl (by kernel_rfl) (by decide)
instance : FV Tryd.prog 7 1 1 1 false := FV.of1 (ft := 3) Tryd.underlying7 rfl rfl rfl inferInstance
instance : FO Tryd.prog 7 2 2 := FO.of (k := 1) Tryd.underlying7 rfl rfl rfl (by kernel_rfl) (by decide)
instance : FV Tryd.prog 7 2 2 1 false := FV.of1 (ft := 4) Tryd.underlying7 rfl rfl rfl inferInstance
instance : FO Tryd.prog 7 3 3 := FO.of (k := 1) Tryd.underlying7 rfl rfl rfl (by kernel_rfl) (by decide)
instance : FV Tryd.prog 7 3 3 1 false := FV.of1 (ft := 6) Tryd.underlying7 rfl rfl rfl inferInstance
instance : Bd Tryd.prog 8 [(0, 1), (1, 1), (2, 1), (3, 1)] [.int .i64 0, .int .i64 0, .bool false, .int .u8 0] := ⟨fun _ => by kernel_rfl⟩
instance : FO Tryd.prog 8 0 0 := FO.of (k := 1) Tryd.underlying8 rfl rfl rfl (by kernel_rfl) (by decide)
instance : FV Tryd.prog 8 0 0 1 false := FV.of1 (ft := 2) Tryd.underlying8 rfl rfl rfl inferInstance
instance : FO Tryd.prog 8 1 1 := FO.of (k := 1) Tryd.underlying8 rfl rfl rfl (by kernel_rfl) (by decide)
instance : FV Tryd.prog 8 1 1 1 false := FV.of1 (ft := 3) Tryd.underlying8 rfl rfl rfl inferInstance
instance : FO Tryd.prog 8 2 2 := FO.of (k := 1) Tryd.underlying8 rfl rfl rfl (by kernel_rfl) (by decide)
instance : FV Tryd.prog 8 2 2 1 false := FV.of1 (ft := 4) Tryd.underlying8 rfl rfl rfl inferInstance
instance : FO Tryd.prog 8 3 3 := FO.of (k := 1) Tryd.underlying8 rfl rfl rfl (by kernel_rfl) (by decide)
instance : FV Tryd.prog 8 3 3 1 false := FV.of1 (ft := 6) Tryd.underlying8 rfl rfl rfl inferInstance
instance : Bd Tryd.prog 13 [(0, 1), (1, 1)] [.string ByteArray.empty, .int .u64 0] := ⟨fun _ => by kernel_rfl⟩
instance : FO Tryd.prog 13 0 0 := FO.of (k := 1) Tryd.underlying13 rfl rfl rfl (by kernel_rfl) (by decide)
instance : FV Tryd.prog 13 0 0 1 false := FV.of1 (ft := 9) Tryd.underlying13 rfl rfl rfl inferInstance
instance : FO Tryd.prog 13 1 1 := FO.of (k := 1) Tryd.underlying13 rfl rfl rfl (by kernel_rfl) (by decide)
instance : FV Tryd.prog 13 1 1 1 false := FV.of1 (ft := 12) Tryd.underlying13 rfl rfl rfl inferInstance
instance : Bd Tryd.prog 14 [(0, 1), (1, 1)] [.string ByteArray.empty, .int .u64 0] := ⟨fun _ => by kernel_rfl⟩
instance : FO Tryd.prog 14 0 0 := FO.of (k := 1) Tryd.underlying14 rfl rfl rfl (by kernel_rfl) (by decide)
instance : FV Tryd.prog 14 0 0 1 false := FV.of1 (ft := 9) Tryd.underlying14 rfl rfl rfl inferInstance
instance : FO Tryd.prog 14 1 1 := FO.of (k := 1) Tryd.underlying14 rfl rfl rfl (by kernel_rfl) (by decide)
instance : FV Tryd.prog 14 1 1 1 false := FV.of1 (ft := 12) Tryd.underlying14 rfl rfl rfl inferInstance
instance : Bd Tryd.prog 18 [(0, 1)] [.pointer none] := ⟨fun _ => by kernel_rfl⟩
instance : FO Tryd.prog 18 0 0 := FO.of (k := 1) Tryd.underlying18 rfl rfl rfl (by kernel_rfl) (by decide)
instance : FV Tryd.prog 18 0 0 1 false := FV.of1 (ft := 17) Tryd.underlying18 rfl rfl rfl inferInstance
instance : Bd Tryd.prog 19 [(0, 1)] [.pointer none] := ⟨fun _ => by kernel_rfl⟩
instance : FO Tryd.prog 19 0 0 := FO.of (k := 1) Tryd.underlying19 rfl rfl rfl (by kernel_rfl) (by decide)
instance : FV Tryd.prog 19 0 0 1 false := FV.of1 (ft := 17) Tryd.underlying19 rfl rfl rfl inferInstance
instance : Bd Tryd.prog 22 [(0, 1), (1, 1), (2, 1)] [.int .i64 0, .int .i64 0, .int .i64 0] := ⟨fun _ => by kernel_rfl⟩
instance : FO Tryd.prog 22 0 0 := FO.of (k := 1) Tryd.underlying22 rfl rfl rfl (by kernel_rfl) (by decide)
instance : FV Tryd.prog 22 0 0 1 false := FV.of1 (ft := 3) Tryd.underlying22 rfl rfl rfl inferInstance
instance : FO Tryd.prog 22 1 1 := FO.of (k := 1) Tryd.underlying22 rfl rfl rfl (by kernel_rfl) (by decide)
instance : FV Tryd.prog 22 1 1 1 false := FV.of1 (ft := 3) Tryd.underlying22 rfl rfl rfl inferInstance
instance : FO Tryd.prog 22 2 2 := FO.of (k := 1) Tryd.underlying22 rfl rfl rfl (by kernel_rfl) (by decide)
instance : FV Tryd.prog 22 2 2 1 false := FV.of1 (ft := 3) Tryd.underlying22 rfl rfl rfl inferInstance
instance : Bd Tryd.prog 23 [(0, 1), (1, 1), (2, 1)] [.int .i64 0, .int .i64 0, .int .i64 0] := ⟨fun _ => by kernel_rfl⟩
instance : FO Tryd.prog 23 0 0 := FO.of (k := 1) Tryd.underlying23 rfl rfl rfl (by kernel_rfl) (by decide)
instance : FV Tryd.prog 23 0 0 1 false := FV.of1 (ft := 3) Tryd.underlying23 rfl rfl rfl inferInstance
instance : FO Tryd.prog 23 1 1 := FO.of (k := 1) Tryd.underlying23 rfl rfl rfl (by kernel_rfl) (by decide)
instance : FV Tryd.prog 23 1 1 1 false := FV.of1 (ft := 3) Tryd.underlying23 rfl rfl rfl inferInstance
instance : FO Tryd.prog 23 2 2 := FO.of (k := 1) Tryd.underlying23 rfl rfl rfl (by kernel_rfl) (by decide)
instance : FV Tryd.prog 23 2 2 1 false := FV.of1 (ft := 3) Tryd.underlying23 rfl rfl rfl inferInstance
instance : Bd Tryd.prog 24 [(0, 1), (1, 1), (2, 1), (3, 1)] [.int .i64 0, .int .i64 0, .int .i64 0, .int .i64 0] := ⟨fun _ => by kernel_rfl⟩
instance : FO Tryd.prog 24 0 0 := FO.of (k := 1) Tryd.underlying24 rfl rfl rfl (by kernel_rfl) (by decide)
instance : FV Tryd.prog 24 0 0 1 false := FV.of1 (ft := 3) Tryd.underlying24 rfl rfl rfl inferInstance
instance : FO Tryd.prog 24 1 1 := FO.of (k := 1) Tryd.underlying24 rfl rfl rfl (by kernel_rfl) (by decide)
instance : FV Tryd.prog 24 1 1 1 false := FV.of1 (ft := 3) Tryd.underlying24 rfl rfl rfl inferInstance
instance : FO Tryd.prog 24 2 2 := FO.of (k := 1) Tryd.underlying24 rfl rfl rfl (by kernel_rfl) (by decide)
instance : FV Tryd.prog 24 2 2 1 false := FV.of1 (ft := 3) Tryd.underlying24 rfl rfl rfl inferInstance
instance : FO Tryd.prog 24 3 3 := FO.of (k := 1) Tryd.underlying24 rfl rfl rfl (by kernel_rfl) (by decide)
instance : FV Tryd.prog 24 3 3 1 false := FV.of1 (ft := 3) Tryd.underlying24 rfl rfl rfl inferInstance
instance : Bd Tryd.prog 25 [(0, 1), (1, 1), (2, 1), (3, 1)] [.int .i64 0, .int .i64 0, .int .i64 0, .int .i64 0] := ⟨fun _ => by kernel_rfl⟩
instance : FO Tryd.prog 25 0 0 := FO.of (k := 1) Tryd.underlying25 rfl rfl rfl (by kernel_rfl) (by decide)
instance : FV Tryd.prog 25 0 0 1 false := FV.of1 (ft := 3) Tryd.underlying25 rfl rfl rfl inferInstance
instance : FO Tryd.prog 25 1 1 := FO.of (k := 1) Tryd.underlying25 rfl rfl rfl (by kernel_rfl) (by decide)
instance : FV Tryd.prog 25 1 1 1 false := FV.of1 (ft := 3) Tryd.underlying25 rfl rfl rfl inferInstance
instance : FO Tryd.prog 25 2 2 := FO.of (k := 1) Tryd.underlying25 rfl rfl rfl (by kernel_rfl) (by decide)
instance : FV Tryd.prog 25 2 2 1 false := FV.of1 (ft := 3) Tryd.underlying25 rfl rfl rfl inferInstance
instance : FO Tryd.prog 25 3 3 := FO.of (k := 1) Tryd.underlying25 rfl rfl rfl (by kernel_rfl) (by decide)
instance : FV Tryd.prog 25 3 3 1 false := FV.of1 (ft := 3) Tryd.underlying25 rfl rfl rfl inferInstance
instance : Bd Tryd.prog 26 [(0, 3), (3, 4), (7, 1)] [.int .i64 0, .int .i64 0, .int .i64 0, .int .i64 0, .int .i64 0, .int .i64 0, .int .i64 0, .int .i64 0] := ⟨fun _ => by kernel_rfl⟩
instance : FO Tryd.prog 26 0 0 := FO.of (k := 3) Tryd.underlying26 rfl rfl rfl (by kernel_rfl) (by decide)
instance : FV Tryd.prog 26 0 0 3 true := FV.ofk (ft := 23) Tryd.underlying26 rfl rfl rfl inferInstance
instance : FO Tryd.prog 26 1 3 := FO.of (k := 4) Tryd.underlying26 rfl rfl rfl (by kernel_rfl) (by decide)
instance : FV Tryd.prog 26 1 3 4 true := FV.ofk (ft := 25) Tryd.underlying26 rfl rfl rfl inferInstance
instance : FO Tryd.prog 26 2 7 := FO.of (k := 1) Tryd.underlying26 rfl rfl rfl (by kernel_rfl) (by decide)
instance : FV Tryd.prog 26 2 7 1 false := FV.of1 (ft := 3) Tryd.underlying26 rfl rfl rfl inferInstance
instance : Bd Tryd.prog 27 [(0, 3), (3, 4), (7, 1)] [.int .i64 0, .int .i64 0, .int .i64 0, .int .i64 0, .int .i64 0, .int .i64 0, .int .i64 0, .int .i64 0] := ⟨fun _ => by kernel_rfl⟩
instance : FO Tryd.prog 27 0 0 := FO.of (k := 3) Tryd.underlying27 rfl rfl rfl (by kernel_rfl) (by decide)
instance : FV Tryd.prog 27 0 0 3 true := FV.ofk (ft := 23) Tryd.underlying27 rfl rfl rfl inferInstance
instance : FO Tryd.prog 27 1 3 := FO.of (k := 4) Tryd.underlying27 rfl rfl rfl (by kernel_rfl) (by decide)
instance : FV Tryd.prog 27 1 3 4 true := FV.ofk (ft := 25) Tryd.underlying27 rfl rfl rfl inferInstance
instance : FO Tryd.prog 27 2 7 := FO.of (k := 1) Tryd.underlying27 rfl rfl rfl (by kernel_rfl) (by decide)
instance : FV Tryd.prog 27 2 7 1 false := FV.of1 (ft := 3) Tryd.underlying27 rfl rfl rfl inferInstance
instance : Bd Tryd.prog 40 [(0, 1), (1, 1)] [.string ByteArray.empty, .int .i64 0] := ⟨fun _ => by kernel_rfl⟩
instance : FO Tryd.prog 40 0 0 := FO.of (k := 1) Tryd.underlying40 rfl rfl rfl (by kernel_rfl) (by decide)
instance : FV Tryd.prog 40 0 0 1 false := FV.of1 (ft := 9) Tryd.underlying40 rfl rfl rfl inferInstance
instance : FO Tryd.prog 40 1 1 := FO.of (k := 1) Tryd.underlying40 rfl rfl rfl (by kernel_rfl) (by decide)
instance : FV Tryd.prog 40 1 1 1 false := FV.of1 (ft := 3) Tryd.underlying40 rfl rfl rfl inferInstance
instance : Bd Tryd.prog 41 [(0, 1), (1, 1)] [.string ByteArray.empty, .int .i64 0] := ⟨fun _ => by kernel_rfl⟩
instance : FO Tryd.prog 41 0 0 := FO.of (k := 1) Tryd.underlying41 rfl rfl rfl (by kernel_rfl) (by decide)
instance : FV Tryd.prog 41 0 0 1 false := FV.of1 (ft := 9) Tryd.underlying41 rfl rfl rfl inferInstance
instance : FO Tryd.prog 41 1 1 := FO.of (k := 1) Tryd.underlying41 rfl rfl rfl (by kernel_rfl) (by decide)
instance : FV Tryd.prog 41 1 1 1 false := FV.of1 (ft := 3) Tryd.underlying41 rfl rfl rfl inferInstance
instance : Bd Tryd.prog 69 [(0, 1), (1, 1), (2, 1)] [.int .i64 0, .int .i64 0, .int .i64 0] := ⟨fun _ => by kernel_rfl⟩
instance : FO Tryd.prog 69 0 0 := FO.of (k := 1) Tryd.underlying69 rfl rfl rfl (by kernel_rfl) (by decide)
instance : FV Tryd.prog 69 0 0 1 false := FV.of1 (ft := 3) Tryd.underlying69 rfl rfl rfl inferInstance
instance : FO Tryd.prog 69 1 1 := FO.of (k := 1) Tryd.underlying69 rfl rfl rfl (by kernel_rfl) (by decide)
instance : FV Tryd.prog 69 1 1 1 false := FV.of1 (ft := 3) Tryd.underlying69 rfl rfl rfl inferInstance
instance : FO Tryd.prog 69 2 2 := FO.of (k := 1) Tryd.underlying69 rfl rfl rfl (by kernel_rfl) (by decide)
instance : FV Tryd.prog 69 2 2 1 false := FV.of1 (ft := 3) Tryd.underlying69 rfl rfl rfl inferInstance
instance : Bd Tryd.prog 70 [(0, 1), (1, 1), (2, 1)] [.int .i64 0, .int .i64 0, .int .i64 0] := ⟨fun _ => by kernel_rfl⟩
instance : FO Tryd.prog 70 0 0 := FO.of (k := 1) Tryd.underlying70 rfl rfl rfl (by kernel_rfl) (by decide)
instance : FV Tryd.prog 70 0 0 1 false := FV.of1 (ft := 3) Tryd.underlying70 rfl rfl rfl inferInstance
instance : FO Tryd.prog 70 1 1 := FO.of (k := 1) Tryd.underlying70 rfl rfl rfl (by kernel_rfl) (by decide)
instance : FV Tryd.prog 70 1 1 1 false := FV.of1 (ft := 3) Tryd.underlying70 rfl rfl rfl inferInstance
instance : FO Tryd.prog 70 2 2 := FO.of (k := 1) Tryd.underlying70 rfl rfl rfl (by kernel_rfl) (by decide)
instance : FV Tryd.prog 70 2 2 1 false := FV.of1 (ft := 3) Tryd.underlying70 rfl rfl rfl inferInstance
instance : ArT Tryd.prog 83 3 1 := ⟨_, Tryd.underlying83, by kernel_rfl⟩
instance : Bd Tryd.prog 84 [(0, 1)] [.int .i64 0] := ⟨fun _ => by kernel_rfl⟩
instance : FO Tryd.prog 84 0 0 := FO.of (k := 1) Tryd.underlying84 rfl rfl rfl (by kernel_rfl) (by decide)
instance : FV Tryd.prog 84 0 0 1 false := FV.of1 (ft := 3) Tryd.underlying84 rfl rfl rfl inferInstance
instance : Bd Tryd.prog 85 [(0, 1)] [.int .i64 0] := ⟨fun _ => by kernel_rfl⟩
instance : FO Tryd.prog 85 0 0 := FO.of (k := 1) Tryd.underlying85 rfl rfl rfl (by kernel_rfl) (by decide)
instance : FV Tryd.prog 85 0 0 1 false := FV.of1 (ft := 3) Tryd.underlying85 rfl rfl rfl inferInstance
instance : Bd Tryd.prog 89 [(0, 1), (1, 1), (2, 1)] [.pointer none, .pointer none, .int .u64 0] := ⟨fun _ => by kernel_rfl⟩
instance : FO Tryd.prog 89 0 0 := FO.of (k := 1) Tryd.underlying89 rfl rfl rfl (by kernel_rfl) (by decide)
instance : FV Tryd.prog 89 0 0 1 false := FV.of1 (ft := 17) Tryd.underlying89 rfl rfl rfl inferInstance
instance : FO Tryd.prog 89 1 1 := FO.of (k := 1) Tryd.underlying89 rfl rfl rfl (by kernel_rfl) (by decide)
instance : FV Tryd.prog 89 1 1 1 false := FV.of1 (ft := 87) Tryd.underlying89 rfl rfl rfl inferInstance
instance : FO Tryd.prog 89 2 2 := FO.of (k := 1) Tryd.underlying89 rfl rfl rfl (by kernel_rfl) (by decide)
instance : FV Tryd.prog 89 2 2 1 false := FV.of1 (ft := 88) Tryd.underlying89 rfl rfl rfl inferInstance
instance : Bd Tryd.prog 90 [(0, 1), (1, 1), (2, 1)] [.pointer none, .pointer none, .int .u64 0] := ⟨fun _ => by kernel_rfl⟩
instance : FO Tryd.prog 90 0 0 := FO.of (k := 1) Tryd.underlying90 rfl rfl rfl (by kernel_rfl) (by decide)
instance : FV Tryd.prog 90 0 0 1 false := FV.of1 (ft := 17) Tryd.underlying90 rfl rfl rfl inferInstance
instance : FO Tryd.prog 90 1 1 := FO.of (k := 1) Tryd.underlying90 rfl rfl rfl (by kernel_rfl) (by decide)
instance : FV Tryd.prog 90 1 1 1 false := FV.of1 (ft := 87) Tryd.underlying90 rfl rfl rfl inferInstance
instance : FO Tryd.prog 90 2 2 := FO.of (k := 1) Tryd.underlying90 rfl rfl rfl (by kernel_rfl) (by decide)
instance : FV Tryd.prog 90 2 2 1 false := FV.of1 (ft := 88) Tryd.underlying90 rfl rfl rfl inferInstance
instance : ArT Tryd.prog 104 12 1 := ⟨_, Tryd.underlying104, by kernel_rfl⟩
instance : Bd Tryd.prog 105 [(0, 1)] [.pointer none] := ⟨fun _ => by kernel_rfl⟩
instance : FO Tryd.prog 105 0 0 := FO.of (k := 1) Tryd.underlying105 rfl rfl rfl (by kernel_rfl) (by decide)
instance : FV Tryd.prog 105 0 0 1 false := FV.of1 (ft := 17) Tryd.underlying105 rfl rfl rfl inferInstance
instance : Bd Tryd.prog 106 [(0, 1)] [.pointer none] := ⟨fun _ => by kernel_rfl⟩
instance : FO Tryd.prog 106 0 0 := FO.of (k := 1) Tryd.underlying106 rfl rfl rfl (by kernel_rfl) (by decide)
instance : FV Tryd.prog 106 0 0 1 false := FV.of1 (ft := 17) Tryd.underlying106 rfl rfl rfl inferInstance
instance : Bd Tryd.prog 122 [(0, 1), (1, 1), (2, 1), (3, 1)] [.pointer none, .pointer none, .pointer none, .string ByteArray.empty] := ⟨fun _ => by kernel_rfl⟩
instance : FO Tryd.prog 122 0 0 := FO.of (k := 1) Tryd.underlying122 rfl rfl rfl (by kernel_rfl) (by decide)
instance : FV Tryd.prog 122 0 0 1 false := FV.of1 (ft := 17) Tryd.underlying122 rfl rfl rfl inferInstance
instance : FO Tryd.prog 122 1 1 := FO.of (k := 1) Tryd.underlying122 rfl rfl rfl (by kernel_rfl) (by decide)
instance : FV Tryd.prog 122 1 1 1 false := FV.of1 (ft := 17) Tryd.underlying122 rfl rfl rfl inferInstance
instance : FO Tryd.prog 122 2 2 := FO.of (k := 1) Tryd.underlying122 rfl rfl rfl (by kernel_rfl) (by decide)
instance : FV Tryd.prog 122 2 2 1 false := FV.of1 (ft := 17) Tryd.underlying122 rfl rfl rfl inferInstance
instance : FO Tryd.prog 122 3 3 := FO.of (k := 1) Tryd.underlying122 rfl rfl rfl (by kernel_rfl) (by decide)
instance : FV Tryd.prog 122 3 3 1 false := FV.of1 (ft := 9) Tryd.underlying122 rfl rfl rfl inferInstance
instance : Bd Tryd.prog 123 [(0, 1), (1, 1), (2, 1), (3, 1)] [.pointer none, .pointer none, .pointer none, .string ByteArray.empty] := ⟨fun _ => by kernel_rfl⟩
instance : FO Tryd.prog 123 0 0 := FO.of (k := 1) Tryd.underlying123 rfl rfl rfl (by kernel_rfl) (by decide)
instance : FV Tryd.prog 123 0 0 1 false := FV.of1 (ft := 17) Tryd.underlying123 rfl rfl rfl inferInstance
instance : FO Tryd.prog 123 1 1 := FO.of (k := 1) Tryd.underlying123 rfl rfl rfl (by kernel_rfl) (by decide)
instance : FV Tryd.prog 123 1 1 1 false := FV.of1 (ft := 17) Tryd.underlying123 rfl rfl rfl inferInstance
instance : FO Tryd.prog 123 2 2 := FO.of (k := 1) Tryd.underlying123 rfl rfl rfl (by kernel_rfl) (by decide)
instance : FV Tryd.prog 123 2 2 1 false := FV.of1 (ft := 17) Tryd.underlying123 rfl rfl rfl inferInstance
instance : FO Tryd.prog 123 3 3 := FO.of (k := 1) Tryd.underlying123 rfl rfl rfl (by kernel_rfl) (by decide)
instance : FV Tryd.prog 123 3 3 1 false := FV.of1 (ft := 9) Tryd.underlying123 rfl rfl rfl inferInstance
instance : ArT Tryd.prog 124 0 1 := ⟨_, Tryd.underlying124, by kernel_rfl⟩
instance : Bd Tryd.prog 125 [(0, 0)] [] := ⟨fun _ => by kernel_rfl⟩
instance : Bd Tryd.prog 126 [(0, 0)] [] := ⟨fun _ => by kernel_rfl⟩
instance : Bd Tryd.prog 134 [(0, 1), (1, 1), (2, 1), (3, 1), (4, 1), (5, 1), (6, 1), (7, 1), (8, 1), (9, 1), (10, 1)] [.int .u64 0, .int .u64 0, .int .u32 0, .int .u8 0, .int .u8 0, .int .u8 0, .int .u8 0, .nilFunc, .pointer none, .int .i32 0, .int .i32 0] := ⟨fun _ => by kernel_rfl⟩
instance : FO Tryd.prog 134 0 0 := FO.of (k := 1) Tryd.underlying134 rfl rfl rfl (by kernel_rfl) (by decide)
instance : FV Tryd.prog 134 0 0 1 false := FV.of1 (ft := 12) Tryd.underlying134 rfl rfl rfl inferInstance
instance : FO Tryd.prog 134 1 1 := FO.of (k := 1) Tryd.underlying134 rfl rfl rfl (by kernel_rfl) (by decide)
instance : FV Tryd.prog 134 1 1 1 false := FV.of1 (ft := 12) Tryd.underlying134 rfl rfl rfl inferInstance
instance : FO Tryd.prog 134 2 2 := FO.of (k := 1) Tryd.underlying134 rfl rfl rfl (by kernel_rfl) (by decide)
instance : FV Tryd.prog 134 2 2 1 false := FV.of1 (ft := 128) Tryd.underlying134 rfl rfl rfl inferInstance
instance : FO Tryd.prog 134 3 3 := FO.of (k := 1) Tryd.underlying134 rfl rfl rfl (by kernel_rfl) (by decide)
instance : FV Tryd.prog 134 3 3 1 false := FV.of1 (ft := 129) Tryd.underlying134 rfl rfl rfl inferInstance
instance : FO Tryd.prog 134 4 4 := FO.of (k := 1) Tryd.underlying134 rfl rfl rfl (by kernel_rfl) (by decide)
instance : FV Tryd.prog 134 4 4 1 false := FV.of1 (ft := 5) Tryd.underlying134 rfl rfl rfl inferInstance
instance : FO Tryd.prog 134 5 5 := FO.of (k := 1) Tryd.underlying134 rfl rfl rfl (by kernel_rfl) (by decide)
instance : FV Tryd.prog 134 5 5 1 false := FV.of1 (ft := 5) Tryd.underlying134 rfl rfl rfl inferInstance
instance : FO Tryd.prog 134 6 6 := FO.of (k := 1) Tryd.underlying134 rfl rfl rfl (by kernel_rfl) (by decide)
instance : FV Tryd.prog 134 6 6 1 false := FV.of1 (ft := 95) Tryd.underlying134 rfl rfl rfl inferInstance
instance : FO Tryd.prog 134 7 7 := FO.of (k := 1) Tryd.underlying134 rfl rfl rfl (by kernel_rfl) (by decide)
instance : FV Tryd.prog 134 7 7 1 false := FV.of1 (ft := 130) Tryd.underlying134 rfl rfl rfl inferInstance
instance : FO Tryd.prog 134 8 8 := FO.of (k := 1) Tryd.underlying134 rfl rfl rfl (by kernel_rfl) (by decide)
instance : FV Tryd.prog 134 8 8 1 false := FV.of1 (ft := 131) Tryd.underlying134 rfl rfl rfl inferInstance
instance : FO Tryd.prog 134 9 9 := FO.of (k := 1) Tryd.underlying134 rfl rfl rfl (by kernel_rfl) (by decide)
instance : FV Tryd.prog 134 9 9 1 false := FV.of1 (ft := 132) Tryd.underlying134 rfl rfl rfl inferInstance
instance : FO Tryd.prog 134 10 10 := FO.of (k := 1) Tryd.underlying134 rfl rfl rfl (by kernel_rfl) (by decide)
instance : FV Tryd.prog 134 10 10 1 false := FV.of1 (ft := 133) Tryd.underlying134 rfl rfl rfl inferInstance
instance : Bd Tryd.prog 135 [(0, 1), (1, 1), (2, 1), (3, 1), (4, 1), (5, 1), (6, 1), (7, 1), (8, 1), (9, 1), (10, 1)] [.int .u64 0, .int .u64 0, .int .u32 0, .int .u8 0, .int .u8 0, .int .u8 0, .int .u8 0, .nilFunc, .pointer none, .int .i32 0, .int .i32 0] := ⟨fun _ => by kernel_rfl⟩
instance : FO Tryd.prog 135 0 0 := FO.of (k := 1) Tryd.underlying135 rfl rfl rfl (by kernel_rfl) (by decide)
instance : FV Tryd.prog 135 0 0 1 false := FV.of1 (ft := 12) Tryd.underlying135 rfl rfl rfl inferInstance
instance : FO Tryd.prog 135 1 1 := FO.of (k := 1) Tryd.underlying135 rfl rfl rfl (by kernel_rfl) (by decide)
instance : FV Tryd.prog 135 1 1 1 false := FV.of1 (ft := 12) Tryd.underlying135 rfl rfl rfl inferInstance
instance : FO Tryd.prog 135 2 2 := FO.of (k := 1) Tryd.underlying135 rfl rfl rfl (by kernel_rfl) (by decide)
instance : FV Tryd.prog 135 2 2 1 false := FV.of1 (ft := 128) Tryd.underlying135 rfl rfl rfl inferInstance
instance : FO Tryd.prog 135 3 3 := FO.of (k := 1) Tryd.underlying135 rfl rfl rfl (by kernel_rfl) (by decide)
instance : FV Tryd.prog 135 3 3 1 false := FV.of1 (ft := 129) Tryd.underlying135 rfl rfl rfl inferInstance
instance : FO Tryd.prog 135 4 4 := FO.of (k := 1) Tryd.underlying135 rfl rfl rfl (by kernel_rfl) (by decide)
instance : FV Tryd.prog 135 4 4 1 false := FV.of1 (ft := 5) Tryd.underlying135 rfl rfl rfl inferInstance
instance : FO Tryd.prog 135 5 5 := FO.of (k := 1) Tryd.underlying135 rfl rfl rfl (by kernel_rfl) (by decide)
instance : FV Tryd.prog 135 5 5 1 false := FV.of1 (ft := 5) Tryd.underlying135 rfl rfl rfl inferInstance
instance : FO Tryd.prog 135 6 6 := FO.of (k := 1) Tryd.underlying135 rfl rfl rfl (by kernel_rfl) (by decide)
instance : FV Tryd.prog 135 6 6 1 false := FV.of1 (ft := 95) Tryd.underlying135 rfl rfl rfl inferInstance
instance : FO Tryd.prog 135 7 7 := FO.of (k := 1) Tryd.underlying135 rfl rfl rfl (by kernel_rfl) (by decide)
instance : FV Tryd.prog 135 7 7 1 false := FV.of1 (ft := 130) Tryd.underlying135 rfl rfl rfl inferInstance
instance : FO Tryd.prog 135 8 8 := FO.of (k := 1) Tryd.underlying135 rfl rfl rfl (by kernel_rfl) (by decide)
instance : FV Tryd.prog 135 8 8 1 false := FV.of1 (ft := 131) Tryd.underlying135 rfl rfl rfl inferInstance
instance : FO Tryd.prog 135 9 9 := FO.of (k := 1) Tryd.underlying135 rfl rfl rfl (by kernel_rfl) (by decide)
instance : FV Tryd.prog 135 9 9 1 false := FV.of1 (ft := 132) Tryd.underlying135 rfl rfl rfl inferInstance
instance : FO Tryd.prog 135 10 10 := FO.of (k := 1) Tryd.underlying135 rfl rfl rfl (by kernel_rfl) (by decide)
instance : FV Tryd.prog 135 10 10 1 false := FV.of1 (ft := 133) Tryd.underlying135 rfl rfl rfl inferInstance
instance : Bd Tryd.prog 139 [(0, 1), (1, 1)] [.string ByteArray.empty, .int .u8 0] := ⟨fun _ => by kernel_rfl⟩
instance : FO Tryd.prog 139 0 0 := FO.of (k := 1) Tryd.underlying139 rfl rfl rfl (by kernel_rfl) (by decide)
instance : FV Tryd.prog 139 0 0 1 false := FV.of1 (ft := 9) Tryd.underlying139 rfl rfl rfl inferInstance
instance : FO Tryd.prog 139 1 1 := FO.of (k := 1) Tryd.underlying139 rfl rfl rfl (by kernel_rfl) (by decide)
instance : FV Tryd.prog 139 1 1 1 false := FV.of1 (ft := 95) Tryd.underlying139 rfl rfl rfl inferInstance
instance : Bd Tryd.prog 140 [(0, 1), (1, 1)] [.string ByteArray.empty, .int .u8 0] := ⟨fun _ => by kernel_rfl⟩
instance : FO Tryd.prog 140 0 0 := FO.of (k := 1) Tryd.underlying140 rfl rfl rfl (by kernel_rfl) (by decide)
instance : FV Tryd.prog 140 0 0 1 false := FV.of1 (ft := 9) Tryd.underlying140 rfl rfl rfl inferInstance
instance : FO Tryd.prog 140 1 1 := FO.of (k := 1) Tryd.underlying140 rfl rfl rfl (by kernel_rfl) (by decide)
instance : FV Tryd.prog 140 1 1 1 false := FV.of1 (ft := 95) Tryd.underlying140 rfl rfl rfl inferInstance
instance : Bd Tryd.prog 144 [(0, 1), (1, 1), (2, 1), (3, 1), (4, 1)] [.int .i32 0, .int .u16 0, .int .u16 0, .int .u32 0, .int .u32 0] := ⟨fun _ => by kernel_rfl⟩
instance : FO Tryd.prog 144 0 0 := FO.of (k := 1) Tryd.underlying144 rfl rfl rfl (by kernel_rfl) (by decide)
instance : FV Tryd.prog 144 0 0 1 false := FV.of1 (ft := 132) Tryd.underlying144 rfl rfl rfl inferInstance
instance : FO Tryd.prog 144 1 1 := FO.of (k := 1) Tryd.underlying144 rfl rfl rfl (by kernel_rfl) (by decide)
instance : FV Tryd.prog 144 1 1 1 false := FV.of1 (ft := 143) Tryd.underlying144 rfl rfl rfl inferInstance
instance : FO Tryd.prog 144 2 2 := FO.of (k := 1) Tryd.underlying144 rfl rfl rfl (by kernel_rfl) (by decide)
instance : FV Tryd.prog 144 2 2 1 false := FV.of1 (ft := 143) Tryd.underlying144 rfl rfl rfl inferInstance
instance : FO Tryd.prog 144 3 3 := FO.of (k := 1) Tryd.underlying144 rfl rfl rfl (by kernel_rfl) (by decide)
instance : FV Tryd.prog 144 3 3 1 false := FV.of1 (ft := 128) Tryd.underlying144 rfl rfl rfl inferInstance
instance : FO Tryd.prog 144 4 4 := FO.of (k := 1) Tryd.underlying144 rfl rfl rfl (by kernel_rfl) (by decide)
instance : FV Tryd.prog 144 4 4 1 false := FV.of1 (ft := 128) Tryd.underlying144 rfl rfl rfl inferInstance
instance : Bd Tryd.prog 145 [(0, 1), (1, 1), (2, 1), (3, 1), (4, 1)] [.int .i32 0, .int .u16 0, .int .u16 0, .int .u32 0, .int .u32 0] := ⟨fun _ => by kernel_rfl⟩
instance : FO Tryd.prog 145 0 0 := FO.of (k := 1) Tryd.underlying145 rfl rfl rfl (by kernel_rfl) (by decide)
instance : FV Tryd.prog 145 0 0 1 false := FV.of1 (ft := 132) Tryd.underlying145 rfl rfl rfl inferInstance
instance : FO Tryd.prog 145 1 1 := FO.of (k := 1) Tryd.underlying145 rfl rfl rfl (by kernel_rfl) (by decide)
instance : FV Tryd.prog 145 1 1 1 false := FV.of1 (ft := 143) Tryd.underlying145 rfl rfl rfl inferInstance
instance : FO Tryd.prog 145 2 2 := FO.of (k := 1) Tryd.underlying145 rfl rfl rfl (by kernel_rfl) (by decide)
instance : FV Tryd.prog 145 2 2 1 false := FV.of1 (ft := 143) Tryd.underlying145 rfl rfl rfl inferInstance
instance : FO Tryd.prog 145 3 3 := FO.of (k := 1) Tryd.underlying145 rfl rfl rfl (by kernel_rfl) (by decide)
instance : FV Tryd.prog 145 3 3 1 false := FV.of1 (ft := 128) Tryd.underlying145 rfl rfl rfl inferInstance
instance : FO Tryd.prog 145 4 4 := FO.of (k := 1) Tryd.underlying145 rfl rfl rfl (by kernel_rfl) (by decide)
instance : FV Tryd.prog 145 4 4 1 false := FV.of1 (ft := 128) Tryd.underlying145 rfl rfl rfl inferInstance
instance : Bd Tryd.prog 148 [(0, 1), (1, 1), (2, 1), (3, 1)] [.int .i32 0, .int .i32 0, .int .i32 0, .int .i32 0] := ⟨fun _ => by kernel_rfl⟩
instance : FO Tryd.prog 148 0 0 := FO.of (k := 1) Tryd.underlying148 rfl rfl rfl (by kernel_rfl) (by decide)
instance : FV Tryd.prog 148 0 0 1 false := FV.of1 (ft := 132) Tryd.underlying148 rfl rfl rfl inferInstance
instance : FO Tryd.prog 148 1 1 := FO.of (k := 1) Tryd.underlying148 rfl rfl rfl (by kernel_rfl) (by decide)
instance : FV Tryd.prog 148 1 1 1 false := FV.of1 (ft := 133) Tryd.underlying148 rfl rfl rfl inferInstance
instance : FO Tryd.prog 148 2 2 := FO.of (k := 1) Tryd.underlying148 rfl rfl rfl (by kernel_rfl) (by decide)
instance : FV Tryd.prog 148 2 2 1 false := FV.of1 (ft := 147) Tryd.underlying148 rfl rfl rfl inferInstance
instance : FO Tryd.prog 148 3 3 := FO.of (k := 1) Tryd.underlying148 rfl rfl rfl (by kernel_rfl) (by decide)
instance : FV Tryd.prog 148 3 3 1 false := FV.of1 (ft := 147) Tryd.underlying148 rfl rfl rfl inferInstance
instance : Bd Tryd.prog 149 [(0, 1), (1, 1), (2, 1), (3, 1)] [.int .i32 0, .int .i32 0, .int .i32 0, .int .i32 0] := ⟨fun _ => by kernel_rfl⟩
instance : FO Tryd.prog 149 0 0 := FO.of (k := 1) Tryd.underlying149 rfl rfl rfl (by kernel_rfl) (by decide)
instance : FV Tryd.prog 149 0 0 1 false := FV.of1 (ft := 132) Tryd.underlying149 rfl rfl rfl inferInstance
instance : FO Tryd.prog 149 1 1 := FO.of (k := 1) Tryd.underlying149 rfl rfl rfl (by kernel_rfl) (by decide)
instance : FV Tryd.prog 149 1 1 1 false := FV.of1 (ft := 133) Tryd.underlying149 rfl rfl rfl inferInstance
instance : FO Tryd.prog 149 2 2 := FO.of (k := 1) Tryd.underlying149 rfl rfl rfl (by kernel_rfl) (by decide)
instance : FV Tryd.prog 149 2 2 1 false := FV.of1 (ft := 147) Tryd.underlying149 rfl rfl rfl inferInstance
instance : FO Tryd.prog 149 3 3 := FO.of (k := 1) Tryd.underlying149 rfl rfl rfl (by kernel_rfl) (by decide)
instance : FV Tryd.prog 149 3 3 1 false := FV.of1 (ft := 147) Tryd.underlying149 rfl rfl rfl inferInstance
instance : Ent Tryd.prog 2 := .of Tryd.func2 (by kernel_rfl) rfl
instance : Ent Tryd.prog 3 := .of Tryd.func3 (by kernel_rfl) rfl
instance : Ent Tryd.prog 4 := .of Tryd.func4 (by kernel_rfl) rfl
instance : Ent Tryd.prog 5 := .of Tryd.func5 (by kernel_rfl) rfl
instance : Ent Tryd.prog 6 := .of Tryd.func6 (by kernel_rfl) rfl
instance : Ent Tryd.prog 7 := .of Tryd.func7 (by kernel_rfl) rfl
instance : Ent Tryd.prog 8 := .of Tryd.func8 (by kernel_rfl) rfl
instance : Ent Tryd.prog 9 := .of Tryd.func9 (by kernel_rfl) rfl
instance : Ent Tryd.prog 10 := .of Tryd.func10 (by kernel_rfl) rfl
instance : Ent Tryd.prog 11 := .of Tryd.func11 (by kernel_rfl) rfl
instance : Ent Tryd.prog 12 := .of Tryd.func12 (by kernel_rfl) rfl
instance : Ent Tryd.prog 13 := .of Tryd.func13 (by kernel_rfl) rfl
instance : Ent Tryd.prog 14 := .of Tryd.func14 (by kernel_rfl) rfl
instance : Ent Tryd.prog 15 := .of Tryd.func15 (by kernel_rfl) rfl
instance : Ent Tryd.prog 16 := .of Tryd.func16 (by kernel_rfl) rfl
instance : Ent Tryd.prog 17 := .of Tryd.func17 (by kernel_rfl) rfl
instance : Ent Tryd.prog 18 := .of Tryd.func18 (by kernel_rfl) rfl
instance : Ent Tryd.prog 19 := .of Tryd.func19 (by kernel_rfl) rfl
instance : Ent Tryd.prog 20 := .of Tryd.func20 (by kernel_rfl) rfl
instance : Ent Tryd.prog 21 := .of Tryd.func21 (by kernel_rfl) rfl
instance : Ent Tryd.prog 22 := .of Tryd.func22 (by kernel_rfl) rfl
instance : Ent Tryd.prog 23 := .of Tryd.func23 (by kernel_rfl) rfl
instance : Ent Tryd.prog 24 := .of Tryd.func24 (by kernel_rfl) rfl
instance : Ent Tryd.prog 25 := .of Tryd.func25 (by kernel_rfl) rfl
instance : Ent Tryd.prog 26 := .of Tryd.func26 (by kernel_rfl) rfl
instance : Ent Tryd.prog 27 := .of Tryd.func27 (by kernel_rfl) rfl
instance : Ent Tryd.prog 28 := .of Tryd.func28 (by kernel_rfl) rfl
instance : Ent Tryd.prog 29 := .of Tryd.func29 (by kernel_rfl) rfl
instance : Ent Tryd.prog 30 := .of Tryd.func30 (by kernel_rfl) rfl
instance : Ent Tryd.prog 31 := .of Tryd.func31 (by kernel_rfl) rfl
instance : Ent Tryd.prog 32 := .of Tryd.func32 (by kernel_rfl) rfl
instance : Ent Tryd.prog 33 := .of Tryd.func33 (by kernel_rfl) rfl
instance : Ent Tryd.prog 34 := .of Tryd.func34 (by kernel_rfl) rfl
instance : Ent Tryd.prog 35 := .of Tryd.func35 (by kernel_rfl) rfl
instance : Ent Tryd.prog 36 := .of Tryd.func36 (by kernel_rfl) rfl
instance : Ent Tryd.prog 37 := .of Tryd.func37 (by kernel_rfl) rfl
instance : Ent Tryd.prog 38 := .of Tryd.func38 (by kernel_rfl) rfl
instance : Ent Tryd.prog 39 := .of Tryd.func39 (by kernel_rfl) rfl
instance : Ent Tryd.prog 40 := .of Tryd.func40 (by kernel_rfl) rfl
instance : Ent Tryd.prog 41 := .of Tryd.func41 (by kernel_rfl) rfl
instance : Ent Tryd.prog 42 := .of Tryd.func42 (by kernel_rfl) rfl
instance : Ent Tryd.prog 43 := .of Tryd.func43 (by kernel_rfl) rfl
instance : Ent Tryd.prog 47 := .of Tryd.func47 (by kernel_rfl) rfl
instance : Ent Tryd.prog 48 := .of Tryd.func48 (by kernel_rfl) rfl
instance : Ent Tryd.prog 49 := .of Tryd.func49 (by kernel_rfl) rfl
instance : Ent Tryd.prog 50 := .of Tryd.func50 (by kernel_rfl) rfl
instance : Ent Tryd.prog 51 := .of Tryd.func51 (by kernel_rfl) rfl
instance : Ent Tryd.prog 52 := .of Tryd.func52 (by kernel_rfl) rfl
instance : Ent Tryd.prog 53 := .of Tryd.func53 (by kernel_rfl) rfl
instance : Ent Tryd.prog 54 := .of Tryd.func54 (by kernel_rfl) rfl
instance : Ent Tryd.prog 55 := .of Tryd.func55 (by kernel_rfl) rfl
instance : Ent Tryd.prog 56 := .of Tryd.func56 (by kernel_rfl) rfl
instance : Ent Tryd.prog 57 := .of Tryd.func57 (by kernel_rfl) rfl
instance : Ent Tryd.prog 58 := .of Tryd.func58 (by kernel_rfl) rfl
instance : Ent Tryd.prog 59 := .of Tryd.func59 (by kernel_rfl) rfl
instance : Ent Tryd.prog 60 := .of Tryd.func60 (by kernel_rfl) rfl
instance : Ent Tryd.prog 61 := .of Tryd.func61 (by kernel_rfl) rfl
instance : Ent Tryd.prog 62 := .of Tryd.func62 (by kernel_rfl) rfl
instance : Ent Tryd.prog 63 := .of Tryd.func63 (by kernel_rfl) rfl
instance : Ent Tryd.prog 67 := .of Tryd.func67 (by kernel_rfl) rfl
instance : Ent Tryd.prog 110 := .of Tryd.func110 (by kernel_rfl) rfl

end D
end Go.Proofs.YtodmpdcffnmmkaaDoor

namespace Go.Proofs.YtodmpdcffnmmkaaDoor
set_option linter.unusedVariables false
set_option linter.unusedSimpArgs false
namespace D
open Go.RowKit

instance : Ci Tryd.prog 1 := ⟨_, Tryd.underlying1, rfl⟩
instance : Zv Tryd.prog 1 (.nilFunc) := ⟨by kernel_rfl⟩
instance : Ci Tryd.prog 2 := ⟨_, Tryd.underlying2, rfl⟩
instance : Zv Tryd.prog 2 (.int .i64 0) := ⟨by kernel_rfl⟩
instance : Ci Tryd.prog 3 := ⟨_, Tryd.underlying3, rfl⟩
instance : Zv Tryd.prog 3 (.int .i64 0) := ⟨by kernel_rfl⟩
instance : Ci Tryd.prog 4 := ⟨_, Tryd.underlying4, rfl⟩
instance : Zv Tryd.prog 4 (.bool false) := ⟨by kernel_rfl⟩
instance : U8 Tryd.prog 5 := ⟨Tryd.underlying5⟩
instance : Ci Tryd.prog 5 := ⟨_, Tryd.underlying5, rfl⟩
instance : Zv Tryd.prog 5 (.int .u8 0) := ⟨by kernel_rfl⟩
instance : U8 Tryd.prog 6 := ⟨Tryd.underlying6⟩
instance : Ci Tryd.prog 6 := ⟨_, Tryd.underlying6, rfl⟩
instance : Zv Tryd.prog 6 (.int .u8 0) := ⟨by kernel_rfl⟩
instance : Ci Tryd.prog 7 := ⟨_, Tryd.underlying7, rfl⟩
instance : Zv Tryd.prog 7 (.agg #[.int .i64 0, .int .i64 0, .bool false, .int .u8 0]) := ⟨by kernel_rfl⟩
instance : Ci Tryd.prog 8 := ⟨_, Tryd.underlying8, rfl⟩
instance : Zv Tryd.prog 8 (.agg #[.int .i64 0, .int .i64 0, .bool false, .int .u8 0]) := ⟨by kernel_rfl⟩
instance : Ci Tryd.prog 9 := ⟨_, Tryd.underlying9, rfl⟩
instance : Zv Tryd.prog 9 (.string ByteArray.empty) := ⟨by kernel_rfl⟩
instance : Ci Tryd.prog 10 := ⟨_, Tryd.underlying10, rfl⟩
instance : Zv Tryd.prog 10 (.string ByteArray.empty) := ⟨by kernel_rfl⟩
instance : Ci Tryd.prog 11 := ⟨_, Tryd.underlying11, rfl⟩
instance : Zv Tryd.prog 11 (.string ByteArray.empty) := ⟨by kernel_rfl⟩
instance : Ci Tryd.prog 12 := ⟨_, Tryd.underlying12, rfl⟩
instance : Zv Tryd.prog 12 (.int .u64 0) := ⟨by kernel_rfl⟩
instance : Ci Tryd.prog 13 := ⟨_, Tryd.underlying13, rfl⟩
instance : Zv Tryd.prog 13 (.agg #[.string ByteArray.empty, .int .u64 0]) := ⟨by kernel_rfl⟩
instance : Ci Tryd.prog 14 := ⟨_, Tryd.underlying14, rfl⟩
instance : Zv Tryd.prog 14 (.agg #[.string ByteArray.empty, .int .u64 0]) := ⟨by kernel_rfl⟩
instance : Ci Tryd.prog 15 := ⟨_, Tryd.underlying15, rfl⟩
instance : Zv Tryd.prog 15 (.pointer none) := ⟨by kernel_rfl⟩
instance : Ci Tryd.prog 16 := ⟨_, Tryd.underlying16, rfl⟩
instance : Zv Tryd.prog 16 (.pointer none) := ⟨by kernel_rfl⟩
instance : Ci Tryd.prog 17 := ⟨_, Tryd.underlying17, rfl⟩
instance : Zv Tryd.prog 17 (.pointer none) := ⟨by kernel_rfl⟩
instance : Ci Tryd.prog 18 := ⟨_, Tryd.underlying18, rfl⟩
instance : Zv Tryd.prog 18 (.agg #[.pointer none]) := ⟨by kernel_rfl⟩
instance : Ci Tryd.prog 19 := ⟨_, Tryd.underlying19, rfl⟩
instance : Zv Tryd.prog 19 (.agg #[.pointer none]) := ⟨by kernel_rfl⟩
instance : Zv Tryd.prog 20 (.nilIface) := ⟨by kernel_rfl⟩
instance : Ci Tryd.prog 21 := ⟨_, Tryd.underlying21, rfl⟩
instance : Zv Tryd.prog 21 (.int .i32 0) := ⟨by kernel_rfl⟩
instance : Ci Tryd.prog 22 := ⟨_, Tryd.underlying22, rfl⟩
instance : Zv Tryd.prog 22 (.agg #[.int .i64 0, .int .i64 0, .int .i64 0]) := ⟨by kernel_rfl⟩
instance : Ci Tryd.prog 23 := ⟨_, Tryd.underlying23, rfl⟩
instance : Zv Tryd.prog 23 (.agg #[.int .i64 0, .int .i64 0, .int .i64 0]) := ⟨by kernel_rfl⟩
instance : Ci Tryd.prog 24 := ⟨_, Tryd.underlying24, rfl⟩
instance : Zv Tryd.prog 24 (.agg #[.int .i64 0, .int .i64 0, .int .i64 0, .int .i64 0]) := ⟨by kernel_rfl⟩
instance : Ci Tryd.prog 25 := ⟨_, Tryd.underlying25, rfl⟩
instance : Zv Tryd.prog 25 (.agg #[.int .i64 0, .int .i64 0, .int .i64 0, .int .i64 0]) := ⟨by kernel_rfl⟩
instance : Ci Tryd.prog 26 := ⟨_, Tryd.underlying26, rfl⟩
instance : Zv Tryd.prog 26 (.agg #[.int .i64 0, .int .i64 0, .int .i64 0, .int .i64 0, .int .i64 0, .int .i64 0, .int .i64 0, .int .i64 0]) := ⟨by kernel_rfl⟩
instance : Ci Tryd.prog 27 := ⟨_, Tryd.underlying27, rfl⟩
instance : Zv Tryd.prog 27 (.agg #[.int .i64 0, .int .i64 0, .int .i64 0, .int .i64 0, .int .i64 0, .int .i64 0, .int .i64 0, .int .i64 0]) := ⟨by kernel_rfl⟩
instance : Ci Tryd.prog 29 := ⟨_, Tryd.underlying29, rfl⟩
instance : Zv Tryd.prog 29 (.nilFunc) := ⟨by kernel_rfl⟩
instance : Ci Tryd.prog 30 := ⟨_, Tryd.underlying30, rfl⟩
instance : Zv Tryd.prog 30 (.nilFunc) := ⟨by kernel_rfl⟩
instance : Ci Tryd.prog 31 := ⟨_, Tryd.underlying31, rfl⟩
instance : Zv Tryd.prog 31 (.nilFunc) := ⟨by kernel_rfl⟩
instance : Ci Tryd.prog 32 := ⟨_, Tryd.underlying32, rfl⟩
instance : Zv Tryd.prog 32 (.nilFunc) := ⟨by kernel_rfl⟩
instance : Ci Tryd.prog 34 := ⟨_, Tryd.underlying34, rfl⟩
instance : Zv Tryd.prog 34 (.nilFunc) := ⟨by kernel_rfl⟩
instance : Ci Tryd.prog 36 := ⟨_, Tryd.underlying36, rfl⟩
instance : Zv Tryd.prog 36 (.nilFunc) := ⟨by kernel_rfl⟩
instance : Ci Tryd.prog 38 := ⟨_, Tryd.underlying38, rfl⟩
instance : Zv Tryd.prog 38 (.nilFunc) := ⟨by kernel_rfl⟩
instance : Ci Tryd.prog 39 := ⟨_, Tryd.underlying39, rfl⟩
instance : Zv Tryd.prog 39 (.pointer none) := ⟨by kernel_rfl⟩
instance : Ci Tryd.prog 40 := ⟨_, Tryd.underlying40, rfl⟩
instance : Zv Tryd.prog 40 (.agg #[.string ByteArray.empty, .int .i64 0]) := ⟨by kernel_rfl⟩
instance : Ci Tryd.prog 41 := ⟨_, Tryd.underlying41, rfl⟩
instance : Zv Tryd.prog 41 (.agg #[.string ByteArray.empty, .int .i64 0]) := ⟨by kernel_rfl⟩
instance : Bd Tryd.prog 43 [] [] := ⟨fun _ => by kernel_rfl⟩
instance : Ci Tryd.prog 43 := ⟨_, Tryd.underlying43, rfl⟩
instance : Zv Tryd.prog 43 (.agg #[]) := ⟨by kernel_rfl⟩
instance : Bd Tryd.prog 44 [] [] := ⟨fun _ => by kernel_rfl⟩
instance : Ci Tryd.prog 44 := ⟨_, Tryd.underlying44, rfl⟩
instance : Zv Tryd.prog 44 (.agg #[]) := ⟨by kernel_rfl⟩
instance : Ci Tryd.prog 45 := ⟨_, Tryd.underlying45, rfl⟩
instance : Zv Tryd.prog 45 (.nilFunc) := ⟨by kernel_rfl⟩
instance : Ci Tryd.prog 46 := ⟨_, Tryd.underlying46, rfl⟩
instance : Zv Tryd.prog 46 (.nilFunc) := ⟨by kernel_rfl⟩
instance : Ci Tryd.prog 47 := ⟨_, Tryd.underlying47, rfl⟩
instance : Zv Tryd.prog 47 (.nilFunc) := ⟨by kernel_rfl⟩
instance : Ci Tryd.prog 48 := ⟨_, Tryd.underlying48, rfl⟩
instance : Zv Tryd.prog 48 (.nilFunc) := ⟨by kernel_rfl⟩
instance : Ci Tryd.prog 49 := ⟨_, Tryd.underlying49, rfl⟩
instance : Zv Tryd.prog 49 (.nilFunc) := ⟨by kernel_rfl⟩
instance : Ci Tryd.prog 51 := ⟨_, Tryd.underlying51, rfl⟩
instance : Zv Tryd.prog 51 (.nilFunc) := ⟨by kernel_rfl⟩
instance : Ci Tryd.prog 53 := ⟨_, Tryd.underlying53, rfl⟩
instance : Zv Tryd.prog 53 (.nilFunc) := ⟨by kernel_rfl⟩
instance : Ci Tryd.prog 54 := ⟨_, Tryd.underlying54, rfl⟩
instance : Zv Tryd.prog 54 (.nilFunc) := ⟨by kernel_rfl⟩
instance : Ci Tryd.prog 55 := ⟨_, Tryd.underlying55, rfl⟩
instance : Zv Tryd.prog 55 (.nilFunc) := ⟨by kernel_rfl⟩
instance : Ci Tryd.prog 56 := ⟨_, Tryd.underlying56, rfl⟩
instance : Zv Tryd.prog 56 (.nilFunc) := ⟨by kernel_rfl⟩
instance : Ci Tryd.prog 57 := ⟨_, Tryd.underlying57, rfl⟩
instance : Zv Tryd.prog 57 (.nilFunc) := ⟨by kernel_rfl⟩
instance : Ci Tryd.prog 58 := ⟨_, Tryd.underlying58, rfl⟩
instance : Zv Tryd.prog 58 (.nilFunc) := ⟨by kernel_rfl⟩
instance : Ap Tryd.prog 59 4 1 1 := ⟨Tryd.underlying59, by kernel_rfl, by decide⟩
instance : Ci Tryd.prog 59 := ⟨_, Tryd.underlying59, rfl⟩
instance : Zv Tryd.prog 59 (.slice none 0 0) := ⟨by kernel_rfl⟩
instance : Zv Tryd.prog 60 (.nilIface) := ⟨by kernel_rfl⟩
instance : Zv Tryd.prog 61 (.nilIface) := ⟨by kernel_rfl⟩
instance : Ci Tryd.prog 63 := ⟨_, Tryd.underlying63, rfl⟩
instance : Zv Tryd.prog 63 (.nilFunc) := ⟨by kernel_rfl⟩
instance : Ci Tryd.prog 64 := ⟨_, Tryd.underlying64, rfl⟩
instance : Zv Tryd.prog 64 (.pointer none) := ⟨by kernel_rfl⟩
instance : Ci Tryd.prog 65 := ⟨_, Tryd.underlying65, rfl⟩
instance : Zv Tryd.prog 65 (.nilFunc) := ⟨by kernel_rfl⟩
instance : Ci Tryd.prog 66 := ⟨_, Tryd.underlying66, rfl⟩
instance : Zv Tryd.prog 66 (.pointer none) := ⟨by kernel_rfl⟩
instance : Ci Tryd.prog 67 := ⟨_, Tryd.underlying67, rfl⟩
instance : Zv Tryd.prog 67 (.nilFunc) := ⟨by kernel_rfl⟩
instance : Ci Tryd.prog 68 := ⟨_, Tryd.underlying68, rfl⟩
instance : Zv Tryd.prog 68 (.nilFunc) := ⟨by kernel_rfl⟩
instance : Ci Tryd.prog 69 := ⟨_, Tryd.underlying69, rfl⟩
instance : Zv Tryd.prog 69 (.agg #[.int .i64 0, .int .i64 0, .int .i64 0]) := ⟨by kernel_rfl⟩
instance : Ci Tryd.prog 70 := ⟨_, Tryd.underlying70, rfl⟩
instance : Zv Tryd.prog 70 (.agg #[.int .i64 0, .int .i64 0, .int .i64 0]) := ⟨by kernel_rfl⟩
instance : Ci Tryd.prog 71 := ⟨_, Tryd.underlying71, rfl⟩
instance : Zv Tryd.prog 71 (.nilFunc) := ⟨by kernel_rfl⟩
instance : Ci Tryd.prog 72 := ⟨_, Tryd.underlying72, rfl⟩
instance : Zv Tryd.prog 72 (.nilFunc) := ⟨by kernel_rfl⟩
instance : Ci Tryd.prog 73 := ⟨_, Tryd.underlying73, rfl⟩
instance : Zv Tryd.prog 73 (.nilFunc) := ⟨by kernel_rfl⟩
instance : Ap Tryd.prog 74 9 1 16 := ⟨Tryd.underlying74, by kernel_rfl, by decide⟩
instance : Ci Tryd.prog 74 := ⟨_, Tryd.underlying74, rfl⟩
instance : Zv Tryd.prog 74 (.slice none 0 0) := ⟨by kernel_rfl⟩
instance : Ci Tryd.prog 76 := ⟨_, Tryd.underlying76, rfl⟩
instance : Zv Tryd.prog 76 (.nilFunc) := ⟨by kernel_rfl⟩
instance : Ci Tryd.prog 77 := ⟨_, Tryd.underlying77, rfl⟩
instance : Zv Tryd.prog 77 (.nilFunc) := ⟨by kernel_rfl⟩
instance : Ci Tryd.prog 78 := ⟨_, Tryd.underlying78, rfl⟩
instance : Zv Tryd.prog 78 (.nilFunc) := ⟨by kernel_rfl⟩
instance : Ci Tryd.prog 79 := ⟨_, Tryd.underlying79, rfl⟩
instance : Zv Tryd.prog 79 (.nilFunc) := ⟨by kernel_rfl⟩
instance : Ci Tryd.prog 80 := ⟨_, Tryd.underlying80, rfl⟩
instance : Zv Tryd.prog 80 (.nilFunc) := ⟨by kernel_rfl⟩
instance : Ci Tryd.prog 81 := ⟨_, Tryd.underlying81, rfl⟩
instance : Zv Tryd.prog 81 (.nilFunc) := ⟨by kernel_rfl⟩
instance : Ci Tryd.prog 82 := ⟨_, Tryd.underlying82, rfl⟩
instance : Zv Tryd.prog 82 (.nilFunc) := ⟨by kernel_rfl⟩
instance : Ci Tryd.prog 83 := ⟨_, Tryd.underlying83, rfl⟩
instance : Zv Tryd.prog 83 (.agg #[.int .i64 0, .int .i64 0, .int .i64 0]) := ⟨by kernel_rfl⟩
instance : Ci Tryd.prog 84 := ⟨_, Tryd.underlying84, rfl⟩
instance : Zv Tryd.prog 84 (.agg #[.int .i64 0]) := ⟨by kernel_rfl⟩
instance : Ci Tryd.prog 85 := ⟨_, Tryd.underlying85, rfl⟩
instance : Zv Tryd.prog 85 (.agg #[.int .i64 0]) := ⟨by kernel_rfl⟩
instance : Ci Tryd.prog 86 := ⟨_, Tryd.underlying86, rfl⟩
instance : Zv Tryd.prog 86 (.nilFunc) := ⟨by kernel_rfl⟩
instance : Ci Tryd.prog 87 := ⟨_, Tryd.underlying87, rfl⟩
instance : Zv Tryd.prog 87 (.pointer none) := ⟨by kernel_rfl⟩
instance : Ci Tryd.prog 88 := ⟨_, Tryd.underlying88, rfl⟩
instance : Zv Tryd.prog 88 (.int .u64 0) := ⟨by kernel_rfl⟩
instance : Ci Tryd.prog 89 := ⟨_, Tryd.underlying89, rfl⟩
instance : Zv Tryd.prog 89 (.agg #[.pointer none, .pointer none, .int .u64 0]) := ⟨by kernel_rfl⟩
instance : Ci Tryd.prog 90 := ⟨_, Tryd.underlying90, rfl⟩
instance : Zv Tryd.prog 90 (.agg #[.pointer none, .pointer none, .int .u64 0]) := ⟨by kernel_rfl⟩
instance : Ci Tryd.prog 91 := ⟨_, Tryd.underlying91, rfl⟩
instance : Zv Tryd.prog 91 (.nilFunc) := ⟨by kernel_rfl⟩
instance : Zv Tryd.prog 92 (.nilIface) := ⟨by kernel_rfl⟩
instance : Zv Tryd.prog 93 (.nilIface) := ⟨by kernel_rfl⟩
instance : Ci Tryd.prog 94 := ⟨_, Tryd.underlying94, rfl⟩
instance : Zv Tryd.prog 94 (.nilFunc) := ⟨by kernel_rfl⟩
instance : U8 Tryd.prog 95 := ⟨Tryd.underlying95⟩
instance : Ci Tryd.prog 95 := ⟨_, Tryd.underlying95, rfl⟩
instance : Zv Tryd.prog 95 (.int .u8 0) := ⟨by kernel_rfl⟩
instance : Ci Tryd.prog 96 := ⟨_, Tryd.underlying96, rfl⟩
instance : Zv Tryd.prog 96 (.nilFunc) := ⟨by kernel_rfl⟩
instance : Ci Tryd.prog 97 := ⟨_, Tryd.underlying97, rfl⟩
instance : Zv Tryd.prog 97 (.nilFunc) := ⟨by kernel_rfl⟩
instance : Ci Tryd.prog 98 := ⟨_, Tryd.underlying98, rfl⟩
instance : Zv Tryd.prog 98 (.nilFunc) := ⟨by kernel_rfl⟩
instance : Ci Tryd.prog 99 := ⟨_, Tryd.underlying99, rfl⟩
instance : Zv Tryd.prog 99 (.nilFunc) := ⟨by kernel_rfl⟩
instance : Ci Tryd.prog 100 := ⟨_, Tryd.underlying100, rfl⟩
instance : Zv Tryd.prog 100 (.int .u64 0) := ⟨by kernel_rfl⟩
instance : Ci Tryd.prog 101 := ⟨_, Tryd.underlying101, rfl⟩
instance : Zv Tryd.prog 101 (.nilFunc) := ⟨by kernel_rfl⟩
instance : Ci Tryd.prog 102 := ⟨_, Tryd.underlying102, rfl⟩
instance : Zv Tryd.prog 102 (.nilFunc) := ⟨by kernel_rfl⟩
instance : Ci Tryd.prog 103 := ⟨_, Tryd.underlying103, rfl⟩
instance : Zv Tryd.prog 103 (.nilFunc) := ⟨by kernel_rfl⟩
instance : Ci Tryd.prog 104 := ⟨_, Tryd.underlying104, rfl⟩
instance : Zv Tryd.prog 104 (.agg #[.int .i64 0, .int .i64 0, .int .i64 0, .int .i64 0, .int .i64 0, .int .i64 0, .int .i64 0, .int .i64 0, .int .i64 0, .int .i64 0, .int .i64 0, .int .i64 0]) := ⟨by kernel_rfl⟩
instance : Ci Tryd.prog 105 := ⟨_, Tryd.underlying105, rfl⟩
instance : Zv Tryd.prog 105 (.agg #[.pointer none]) := ⟨by kernel_rfl⟩
instance : Ci Tryd.prog 106 := ⟨_, Tryd.underlying106, rfl⟩
instance : Zv Tryd.prog 106 (.agg #[.pointer none]) := ⟨by kernel_rfl⟩
instance : Ci Tryd.prog 107 := ⟨_, Tryd.underlying107, rfl⟩
instance : Zv Tryd.prog 107 (.pointer none) := ⟨by kernel_rfl⟩
instance : Ci Tryd.prog 108 := ⟨_, Tryd.underlying108, rfl⟩
instance : Zv Tryd.prog 108 (.nilFunc) := ⟨by kernel_rfl⟩
instance : Ci Tryd.prog 109 := ⟨_, Tryd.underlying109, rfl⟩
instance : Zv Tryd.prog 109 (.nilFunc) := ⟨by kernel_rfl⟩
instance : Ci Tryd.prog 110 := ⟨_, Tryd.underlying110, rfl⟩
instance : Zv Tryd.prog 110 (.nilFunc) := ⟨by kernel_rfl⟩
instance : Zv Tryd.prog 111 (.nilIface) := ⟨by kernel_rfl⟩
instance : Ci Tryd.prog 113 := ⟨_, Tryd.underlying113, rfl⟩
instance : Zv Tryd.prog 113 (.nilFunc) := ⟨by kernel_rfl⟩
instance : Zv Tryd.prog 114 (.nilIface) := ⟨by kernel_rfl⟩
instance : Ci Tryd.prog 115 := ⟨_, Tryd.underlying115, rfl⟩
instance : Zv Tryd.prog 115 (.nilFunc) := ⟨by kernel_rfl⟩
instance : Zv Tryd.prog 116 (.nilIface) := ⟨by kernel_rfl⟩
instance : Ap Tryd.prog 117 61 1 16 := ⟨Tryd.underlying117, by kernel_rfl, by decide⟩
instance : Ci Tryd.prog 117 := ⟨_, Tryd.underlying117, rfl⟩
instance : Zv Tryd.prog 117 (.slice none 0 0) := ⟨by kernel_rfl⟩
instance : Ci Tryd.prog 118 := ⟨_, Tryd.underlying118, rfl⟩
instance : Zv Tryd.prog 118 (.nilFunc) := ⟨by kernel_rfl⟩
instance : Ap Tryd.prog 119 5 1 1 := ⟨Tryd.underlying119, by kernel_rfl, by decide⟩
instance : Ci Tryd.prog 119 := ⟨_, Tryd.underlying119, rfl⟩
instance : Zv Tryd.prog 119 (.slice none 0 0) := ⟨by kernel_rfl⟩
instance : Ap Tryd.prog 120 3 1 8 := ⟨Tryd.underlying120, by kernel_rfl, by decide⟩
instance : Ci Tryd.prog 120 := ⟨_, Tryd.underlying120, rfl⟩
instance : Zv Tryd.prog 120 (.slice none 0 0) := ⟨by kernel_rfl⟩
instance : Ci Tryd.prog 121 := ⟨_, Tryd.underlying121, rfl⟩
instance : Zv Tryd.prog 121 (.nilFunc) := ⟨by kernel_rfl⟩
instance : Ci Tryd.prog 122 := ⟨_, Tryd.underlying122, rfl⟩
instance : Zv Tryd.prog 122 (.agg #[.pointer none, .pointer none, .pointer none, .string ByteArray.empty]) := ⟨by kernel_rfl⟩
instance : Ci Tryd.prog 123 := ⟨_, Tryd.underlying123, rfl⟩
instance : Zv Tryd.prog 123 (.agg #[.pointer none, .pointer none, .pointer none, .string ByteArray.empty]) := ⟨by kernel_rfl⟩
instance : Ci Tryd.prog 124 := ⟨_, Tryd.underlying124, rfl⟩
instance : Zv Tryd.prog 124 (.agg #[]) := ⟨by kernel_rfl⟩
instance : Ci Tryd.prog 125 := ⟨_, Tryd.underlying125, rfl⟩
instance : Zv Tryd.prog 125 (.agg #[]) := ⟨by kernel_rfl⟩
instance : Ci Tryd.prog 126 := ⟨_, Tryd.underlying126, rfl⟩
instance : Zv Tryd.prog 126 (.agg #[]) := ⟨by kernel_rfl⟩
instance : Ci Tryd.prog 127 := ⟨_, Tryd.underlying127, rfl⟩
instance : Zv Tryd.prog 127 (.nilFunc) := ⟨by kernel_rfl⟩
instance : Ci Tryd.prog 128 := ⟨_, Tryd.underlying128, rfl⟩
instance : Zv Tryd.prog 128 (.int .u32 0) := ⟨by kernel_rfl⟩
instance : U8 Tryd.prog 129 := ⟨Tryd.underlying129⟩
instance : Ci Tryd.prog 129 := ⟨_, Tryd.underlying129, rfl⟩
instance : Zv Tryd.prog 129 (.int .u8 0) := ⟨by kernel_rfl⟩
instance : Ci Tryd.prog 130 := ⟨_, Tryd.underlying130, rfl⟩
instance : Zv Tryd.prog 130 (.nilFunc) := ⟨by kernel_rfl⟩
instance : Ci Tryd.prog 131 := ⟨_, Tryd.underlying131, rfl⟩
instance : Zv Tryd.prog 131 (.pointer none) := ⟨by kernel_rfl⟩
instance : Ci Tryd.prog 132 := ⟨_, Tryd.underlying132, rfl⟩
instance : Zv Tryd.prog 132 (.int .i32 0) := ⟨by kernel_rfl⟩
instance : Ci Tryd.prog 133 := ⟨_, Tryd.underlying133, rfl⟩
instance : Zv Tryd.prog 133 (.int .i32 0) := ⟨by kernel_rfl⟩
instance : Ci Tryd.prog 134 := ⟨_, Tryd.underlying134, rfl⟩
instance : Zv Tryd.prog 134 (.agg #[.int .u64 0, .int .u64 0, .int .u32 0, .int .u8 0, .int .u8 0, .int .u8 0, .int .u8 0, .nilFunc, .pointer none, .int .i32 0, .int .i32 0]) := ⟨by kernel_rfl⟩
instance : Ci Tryd.prog 135 := ⟨_, Tryd.underlying135, rfl⟩
instance : Zv Tryd.prog 135 (.agg #[.int .u64 0, .int .u64 0, .int .u32 0, .int .u8 0, .int .u8 0, .int .u8 0, .int .u8 0, .nilFunc, .pointer none, .int .i32 0, .int .i32 0]) := ⟨by kernel_rfl⟩
instance : Ci Tryd.prog 136 := ⟨_, Tryd.underlying136, rfl⟩
instance : Zv Tryd.prog 136 (.nilFunc) := ⟨by kernel_rfl⟩
instance : Ci Tryd.prog 137 := ⟨_, Tryd.underlying137, rfl⟩
instance : Zv Tryd.prog 137 (.nilFunc) := ⟨by kernel_rfl⟩
instance : Ci Tryd.prog 138 := ⟨_, Tryd.underlying138, rfl⟩
instance : Zv Tryd.prog 138 (.nilFunc) := ⟨by kernel_rfl⟩
instance : Ci Tryd.prog 139 := ⟨_, Tryd.underlying139, rfl⟩
instance : Zv Tryd.prog 139 (.agg #[.string ByteArray.empty, .int .u8 0]) := ⟨by kernel_rfl⟩
instance : Ci Tryd.prog 140 := ⟨_, Tryd.underlying140, rfl⟩
instance : Zv Tryd.prog 140 (.agg #[.string ByteArray.empty, .int .u8 0]) := ⟨by kernel_rfl⟩
instance : Ci Tryd.prog 141 := ⟨_, Tryd.underlying141, rfl⟩
instance : Zv Tryd.prog 141 (.pointer none) := ⟨by kernel_rfl⟩
instance : Ci Tryd.prog 142 := ⟨_, Tryd.underlying142, rfl⟩
instance : Zv Tryd.prog 142 (.nilFunc) := ⟨by kernel_rfl⟩
instance : Ci Tryd.prog 143 := ⟨_, Tryd.underlying143, rfl⟩
instance : Zv Tryd.prog 143 (.int .u16 0) := ⟨by kernel_rfl⟩
instance : Ci Tryd.prog 144 := ⟨_, Tryd.underlying144, rfl⟩
instance : Zv Tryd.prog 144 (.agg #[.int .i32 0, .int .u16 0, .int .u16 0, .int .u32 0, .int .u32 0]) := ⟨by kernel_rfl⟩
instance : Ci Tryd.prog 145 := ⟨_, Tryd.underlying145, rfl⟩
instance : Zv Tryd.prog 145 (.agg #[.int .i32 0, .int .u16 0, .int .u16 0, .int .u32 0, .int .u32 0]) := ⟨by kernel_rfl⟩
instance : Ap Tryd.prog 146 149 4 16 := ⟨Tryd.underlying146, by kernel_rfl, by decide⟩
instance : Ci Tryd.prog 146 := ⟨_, Tryd.underlying146, rfl⟩
instance : Zv Tryd.prog 146 (.slice none 0 0) := ⟨by kernel_rfl⟩
instance : Ci Tryd.prog 147 := ⟨_, Tryd.underlying147, rfl⟩
instance : Zv Tryd.prog 147 (.int .i32 0) := ⟨by kernel_rfl⟩
instance : Ci Tryd.prog 148 := ⟨_, Tryd.underlying148, rfl⟩
instance : Zv Tryd.prog 148 (.agg #[.int .i32 0, .int .i32 0, .int .i32 0, .int .i32 0]) := ⟨by kernel_rfl⟩
instance : Ci Tryd.prog 149 := ⟨_, Tryd.underlying149, rfl⟩
instance : Zv Tryd.prog 149 (.agg #[.int .i32 0, .int .i32 0, .int .i32 0, .int .i32 0]) := ⟨by kernel_rfl⟩
instance : Ci Tryd.prog 150 := ⟨_, Tryd.underlying150, rfl⟩
instance : Zv Tryd.prog 150 (.pointer none) := ⟨by kernel_rfl⟩

end D
end Go.Proofs.YtodmpdcffnmmkaaDoor
