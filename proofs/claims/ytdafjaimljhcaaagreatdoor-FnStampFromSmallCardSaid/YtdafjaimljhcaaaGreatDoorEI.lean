/- The engine, part 7: what the program's types and functions are (closed facts). -/
import Derived.Test.YtdafjaimljhcaaaGreatDoorE2
import Derived.Test.YtdafjaimljhcaaaGreatDoorProg
import Derived.Test.YtdafjaimljhcaaaGreatDoorE3m
namespace Go.Proofs.YtdafjaimljhcaaaGreatDoor
set_option linter.unusedVariables false
set_option linter.unusedSimpArgs false
namespace D
open Go.RowKit

variable {P : Program}
theorem fieldPlace_run {fd : Field} {k : Nat} (hz : (P.info? fd.type).map (·.size) = some k) (hk : k ≠ 0) (b o : Nat) (w : World) : (fieldPlace ⟨b, o, none⟩ fd).run P w = .ok ⟨b, o + fd.offset, none⟩ w := by
  simp [fieldPlace, run_sizeOf hz, hk, add_plain]
theorem FO.of {s f off ft : Nat} {fs : Array Field} {fd : Field} {k : Nat} (hu : P.underlying s = some (.struct fs)) (hf : fs[f]? = some fd) (ho : fd.offset = off) (ht : fd.type = ft) (hz : (P.info? ft).map (·.size) = some k) (hk : k ≠ 0) : FO P s f off := by
  subst ho; subst ht
  exact ⟨fun b o w => by simp [Instr.fieldAt, run_underlying hu, hf, Instr.sureAddr, fieldPlace_run hz hk]⟩
theorem FV.of1 {s f off ft : Nat} {fs : Array Field} {fd : Field} (hu : P.underlying s = some (.struct fs)) (hf : fs[f]? = some fd) (ho : fd.offset = off) (ht : fd.type = ft) (i : Sc P ft) : FV P s f off 1 false := by
  subst ho; subst ht
  exact ⟨fun us w => by
    simp only [Instr.field, Sem.run_bind, run_underlying hu, Result.andThen_ok, hf, part, asAgg, run_isAgg_sc, Sem.run_pure]
    simp
    cases us[fd.offset]? <;> rfl⟩
theorem FV.ofk {s f off ft : Nat} {fs : Array Field} {fd : Field} {k : Nat} (hu : P.underlying s = some (.struct fs)) (hf : fs[f]? = some fd) (ho : fd.offset = off) (ht : fd.type = ft) (i : Ag P ft k) : FV P s f off k true := by
  subst ho; subst ht
  exact ⟨fun us w => by
    simp only [Instr.field, Sem.run_bind, run_underlying hu, Result.andThen_ok, hf, part, asAgg, run_isAgg_ag, Sem.run_pure, run_sizeOf i.sz]
    simp [run_sizeOf i.sz]⟩

instance : Sc Tryz.prog 1 := ⟨_, Tryz.underlying1, rfl⟩
instance : Sz Tryz.prog 1 1 := ⟨by kernel_rfl⟩
instance : Zr Tryz.prog 1 [.nilFunc] := ⟨by kernel_rfl⟩
instance : Sc Tryz.prog 2 := ⟨_, Tryz.underlying2, rfl⟩
instance : Sz Tryz.prog 2 1 := ⟨by kernel_rfl⟩
instance : Zr Tryz.prog 2 [.int .i64 0] := ⟨by kernel_rfl⟩
instance : I64 Tryz.prog 2 := ⟨Tryz.underlying2⟩
instance : Sc Tryz.prog 3 := ⟨_, Tryz.underlying3, rfl⟩
instance : Sz Tryz.prog 3 1 := ⟨by kernel_rfl⟩
instance : Zr Tryz.prog 3 [.int .i64 0] := ⟨by kernel_rfl⟩
instance : I64 Tryz.prog 3 := ⟨Tryz.underlying3⟩
instance : Sc Tryz.prog 4 := ⟨_, Tryz.underlying4, rfl⟩
instance : Sz Tryz.prog 4 1 := ⟨by kernel_rfl⟩
instance : Zr Tryz.prog 4 [.bool false] := ⟨by kernel_rfl⟩
instance : BoT Tryz.prog 4 := ⟨Tryz.underlying4⟩
instance : Sc Tryz.prog 5 := ⟨_, Tryz.underlying5, rfl⟩
instance : Sz Tryz.prog 5 1 := ⟨by kernel_rfl⟩
instance : Zr Tryz.prog 5 [.int .u8 0] := ⟨by kernel_rfl⟩
instance : Sc Tryz.prog 6 := ⟨_, Tryz.underlying6, rfl⟩
instance : Sz Tryz.prog 6 1 := ⟨by kernel_rfl⟩
instance : Zr Tryz.prog 6 [.int .u8 0] := ⟨by kernel_rfl⟩
instance : Ag Tryz.prog 7 4 := ⟨⟨_, Tryz.underlying7, rfl⟩, by kernel_rfl⟩
instance : Sz Tryz.prog 7 4 := ⟨by kernel_rfl⟩
instance : Zr Tryz.prog 7 [.int .i64 0, .int .i64 0, .bool false, .int .u8 0] := ⟨by kernel_rfl⟩
instance : Ag Tryz.prog 8 4 := ⟨⟨_, Tryz.underlying8, rfl⟩, by kernel_rfl⟩
instance : Sz Tryz.prog 8 4 := ⟨by kernel_rfl⟩
instance : Zr Tryz.prog 8 [.int .i64 0, .int .i64 0, .bool false, .int .u8 0] := ⟨by kernel_rfl⟩
instance : Sc Tryz.prog 9 := ⟨_, Tryz.underlying9, rfl⟩
instance : Sz Tryz.prog 9 1 := ⟨by kernel_rfl⟩
instance : Zr Tryz.prog 9 [.string ByteArray.empty] := ⟨by kernel_rfl⟩
instance : StT Tryz.prog 9 := ⟨Tryz.underlying9⟩
instance : Sc Tryz.prog 10 := ⟨_, Tryz.underlying10, rfl⟩
instance : Sz Tryz.prog 10 1 := ⟨by kernel_rfl⟩
instance : Zr Tryz.prog 10 [.string ByteArray.empty] := ⟨by kernel_rfl⟩
instance : StT Tryz.prog 10 := ⟨Tryz.underlying10⟩
instance : Sc Tryz.prog 11 := ⟨_, Tryz.underlying11, rfl⟩
instance : Sz Tryz.prog 11 1 := ⟨by kernel_rfl⟩
instance : Zr Tryz.prog 11 [.string ByteArray.empty] := ⟨by kernel_rfl⟩
instance : StT Tryz.prog 11 := ⟨Tryz.underlying11⟩
instance : Sc Tryz.prog 12 := ⟨_, Tryz.underlying12, rfl⟩
instance : Sz Tryz.prog 12 1 := ⟨by kernel_rfl⟩
instance : Zr Tryz.prog 12 [.int .u64 0] := ⟨by kernel_rfl⟩
instance : Ag Tryz.prog 13 2 := ⟨⟨_, Tryz.underlying13, rfl⟩, by kernel_rfl⟩
instance : Sz Tryz.prog 13 2 := ⟨by kernel_rfl⟩
instance : Zr Tryz.prog 13 [.string ByteArray.empty, .int .u64 0] := ⟨by kernel_rfl⟩
instance : Ag Tryz.prog 14 2 := ⟨⟨_, Tryz.underlying14, rfl⟩, by kernel_rfl⟩
instance : Sz Tryz.prog 14 2 := ⟨by kernel_rfl⟩
instance : Zr Tryz.prog 14 [.string ByteArray.empty, .int .u64 0] := ⟨by kernel_rfl⟩
instance : Sc Tryz.prog 15 := ⟨_, Tryz.underlying15, rfl⟩
instance : Sz Tryz.prog 15 1 := ⟨by kernel_rfl⟩
instance : Zr Tryz.prog 15 [.pointer none] := ⟨by kernel_rfl⟩
instance : Sc Tryz.prog 16 := ⟨_, Tryz.underlying16, rfl⟩
instance : Sz Tryz.prog 16 1 := ⟨by kernel_rfl⟩
instance : Zr Tryz.prog 16 [.pointer none] := ⟨by kernel_rfl⟩
instance : Sc Tryz.prog 17 := ⟨_, Tryz.underlying17, rfl⟩
instance : Sz Tryz.prog 17 1 := ⟨by kernel_rfl⟩
instance : Zr Tryz.prog 17 [.pointer none] := ⟨by kernel_rfl⟩
instance : Ag Tryz.prog 18 1 := ⟨⟨_, Tryz.underlying18, rfl⟩, by kernel_rfl⟩
instance : Sz Tryz.prog 18 1 := ⟨by kernel_rfl⟩
instance : Zr Tryz.prog 18 [.pointer none] := ⟨by kernel_rfl⟩
instance : Ag Tryz.prog 19 1 := ⟨⟨_, Tryz.underlying19, rfl⟩, by kernel_rfl⟩
instance : Sz Tryz.prog 19 1 := ⟨by kernel_rfl⟩
instance : Zr Tryz.prog 19 [.pointer none] := ⟨by kernel_rfl⟩
instance : Sc Tryz.prog 20 := ⟨_, Tryz.underlying20, rfl⟩
instance : Sz Tryz.prog 20 1 := ⟨by kernel_rfl⟩
instance : Zr Tryz.prog 20 [.nilIface] := ⟨by kernel_rfl⟩
instance : Sc Tryz.prog 21 := ⟨_, Tryz.underlying21, rfl⟩
instance : Sz Tryz.prog 21 1 := ⟨by kernel_rfl⟩
instance : Zr Tryz.prog 21 [.int .i32 0] := ⟨by kernel_rfl⟩
instance : Sc Tryz.prog 22 := ⟨_, Tryz.underlying22, rfl⟩
instance : Sz Tryz.prog 22 1 := ⟨by kernel_rfl⟩
instance : Zr Tryz.prog 22 [.slice none 0 0] := ⟨by kernel_rfl⟩
instance : SlT Tryz.prog 22 5 1 := ⟨Tryz.underlying22, by kernel_rfl⟩
instance : Sc Tryz.prog 23 := ⟨_, Tryz.underlying23, rfl⟩
instance : Sz Tryz.prog 23 1 := ⟨by kernel_rfl⟩
instance : Zr Tryz.prog 23 [.nilFunc] := ⟨by kernel_rfl⟩
instance : Ag Tryz.prog 24 3 := ⟨⟨_, Tryz.underlying24, rfl⟩, by kernel_rfl⟩
instance : Sz Tryz.prog 24 3 := ⟨by kernel_rfl⟩
instance : Zr Tryz.prog 24 [.int .i64 0, .int .i64 0, .int .i64 0] := ⟨by kernel_rfl⟩
instance : Ag Tryz.prog 25 3 := ⟨⟨_, Tryz.underlying25, rfl⟩, by kernel_rfl⟩
instance : Sz Tryz.prog 25 3 := ⟨by kernel_rfl⟩
instance : Zr Tryz.prog 25 [.int .i64 0, .int .i64 0, .int .i64 0] := ⟨by kernel_rfl⟩
instance : Ag Tryz.prog 26 4 := ⟨⟨_, Tryz.underlying26, rfl⟩, by kernel_rfl⟩
instance : Sz Tryz.prog 26 4 := ⟨by kernel_rfl⟩
instance : Zr Tryz.prog 26 [.int .i64 0, .int .i64 0, .int .i64 0, .int .i64 0] := ⟨by kernel_rfl⟩
instance : Ag Tryz.prog 27 4 := ⟨⟨_, Tryz.underlying27, rfl⟩, by kernel_rfl⟩
instance : Sz Tryz.prog 27 4 := ⟨by kernel_rfl⟩
instance : Zr Tryz.prog 27 [.int .i64 0, .int .i64 0, .int .i64 0, .int .i64 0] := ⟨by kernel_rfl⟩
instance : Ag Tryz.prog 28 8 := ⟨⟨_, Tryz.underlying28, rfl⟩, by kernel_rfl⟩
instance : Sz Tryz.prog 28 8 := ⟨by kernel_rfl⟩
instance : Zr Tryz.prog 28 [.int .i64 0, .int .i64 0, .int .i64 0, .int .i64 0, .int .i64 0, .int .i64 0, .int .i64 0, .int .i64 0] := ⟨by kernel_rfl⟩
instance : Ag Tryz.prog 29 8 := ⟨⟨_, Tryz.underlying29, rfl⟩, by kernel_rfl⟩
instance : Sz Tryz.prog 29 8 := ⟨by kernel_rfl⟩
instance : Zr Tryz.prog 29 [.int .i64 0, .int .i64 0, .int .i64 0, .int .i64 0, .int .i64 0, .int .i64 0, .int .i64 0, .int .i64 0] := ⟨by kernel_rfl⟩
instance : Sc Tryz.prog 31 := ⟨_, Tryz.underlying31, rfl⟩
instance : Sz Tryz.prog 31 1 := ⟨by kernel_rfl⟩
instance : Zr Tryz.prog 31 [.nilFunc] := ⟨by kernel_rfl⟩
instance : Sc Tryz.prog 32 := ⟨_, Tryz.underlying32, rfl⟩
instance : Sz Tryz.prog 32 1 := ⟨by kernel_rfl⟩
instance : Zr Tryz.prog 32 [.nilFunc] := ⟨by kernel_rfl⟩
instance : Sc Tryz.prog 33 := ⟨_, Tryz.underlying33, rfl⟩
instance : Sz Tryz.prog 33 1 := ⟨by kernel_rfl⟩
instance : Zr Tryz.prog 33 [.nilFunc] := ⟨by kernel_rfl⟩
instance : Sc Tryz.prog 34 := ⟨_, Tryz.underlying34, rfl⟩
instance : Sz Tryz.prog 34 1 := ⟨by kernel_rfl⟩
instance : Zr Tryz.prog 34 [.nilFunc] := ⟨by kernel_rfl⟩
instance : Sc Tryz.prog 36 := ⟨_, Tryz.underlying36, rfl⟩
instance : Sz Tryz.prog 36 1 := ⟨by kernel_rfl⟩
instance : Zr Tryz.prog 36 [.nilFunc] := ⟨by kernel_rfl⟩
instance : Sc Tryz.prog 37 := ⟨_, Tryz.underlying37, rfl⟩
instance : Sz Tryz.prog 37 1 := ⟨by kernel_rfl⟩
instance : Zr Tryz.prog 37 [.nilFunc] := ⟨by kernel_rfl⟩
instance : Sc Tryz.prog 38 := ⟨_, Tryz.underlying38, rfl⟩
instance : Sz Tryz.prog 38 1 := ⟨by kernel_rfl⟩
instance : Zr Tryz.prog 38 [.nilFunc] := ⟨by kernel_rfl⟩
instance : Sc Tryz.prog 39 := ⟨_, Tryz.underlying39, rfl⟩
instance : Sz Tryz.prog 39 1 := ⟨by kernel_rfl⟩
instance : Zr Tryz.prog 39 [.slice none 0 0] := ⟨by kernel_rfl⟩
instance : SlT Tryz.prog 39 9 1 := ⟨Tryz.underlying39, by kernel_rfl⟩
instance : Sc Tryz.prog 40 := ⟨_, Tryz.underlying40, rfl⟩
instance : Sz Tryz.prog 40 1 := ⟨by kernel_rfl⟩
instance : Zr Tryz.prog 40 [.nilFunc] := ⟨by kernel_rfl⟩
instance : Sc Tryz.prog 41 := ⟨_, Tryz.underlying41, rfl⟩
instance : Sz Tryz.prog 41 1 := ⟨by kernel_rfl⟩
instance : Zr Tryz.prog 41 [.nilFunc] := ⟨by kernel_rfl⟩
instance : Sc Tryz.prog 42 := ⟨_, Tryz.underlying42, rfl⟩
instance : Sz Tryz.prog 42 1 := ⟨by kernel_rfl⟩
instance : Zr Tryz.prog 42 [.nilFunc] := ⟨by kernel_rfl⟩
instance : Sc Tryz.prog 43 := ⟨_, Tryz.underlying43, rfl⟩
instance : Sz Tryz.prog 43 1 := ⟨by kernel_rfl⟩
instance : Zr Tryz.prog 43 [.nilFunc] := ⟨by kernel_rfl⟩
instance : Sc Tryz.prog 44 := ⟨_, Tryz.underlying44, rfl⟩
instance : Sz Tryz.prog 44 1 := ⟨by kernel_rfl⟩
instance : Zr Tryz.prog 44 [.nilFunc] := ⟨by kernel_rfl⟩
instance : Sc Tryz.prog 45 := ⟨_, Tryz.underlying45, rfl⟩
instance : Sz Tryz.prog 45 1 := ⟨by kernel_rfl⟩
instance : Zr Tryz.prog 45 [.nilFunc] := ⟨by kernel_rfl⟩
instance : Sc Tryz.prog 46 := ⟨_, Tryz.underlying46, rfl⟩
instance : Sz Tryz.prog 46 1 := ⟨by kernel_rfl⟩
instance : Zr Tryz.prog 46 [.nilFunc] := ⟨by kernel_rfl⟩
instance : Sc Tryz.prog 47 := ⟨_, Tryz.underlying47, rfl⟩
instance : Sz Tryz.prog 47 1 := ⟨by kernel_rfl⟩
instance : Zr Tryz.prog 47 [.pointer none] := ⟨by kernel_rfl⟩
instance : Sc Tryz.prog 48 := ⟨_, Tryz.underlying48, rfl⟩
instance : Sz Tryz.prog 48 1 := ⟨by kernel_rfl⟩
instance : Zr Tryz.prog 48 [.nilFunc] := ⟨by kernel_rfl⟩
instance : Sc Tryz.prog 49 := ⟨_, Tryz.underlying49, rfl⟩
instance : Sz Tryz.prog 49 1 := ⟨by kernel_rfl⟩
instance : Zr Tryz.prog 49 [.pointer none] := ⟨by kernel_rfl⟩
instance : Ag Tryz.prog 50 2 := ⟨⟨_, Tryz.underlying50, rfl⟩, by kernel_rfl⟩
instance : Sz Tryz.prog 50 2 := ⟨by kernel_rfl⟩
instance : Zr Tryz.prog 50 [.string ByteArray.empty, .int .i64 0] := ⟨by kernel_rfl⟩
instance : Ag Tryz.prog 51 2 := ⟨⟨_, Tryz.underlying51, rfl⟩, by kernel_rfl⟩
instance : Sz Tryz.prog 51 2 := ⟨by kernel_rfl⟩
instance : Zr Tryz.prog 51 [.string ByteArray.empty, .int .i64 0] := ⟨by kernel_rfl⟩
instance : Sc Tryz.prog 55 := ⟨_, Tryz.underlying55, rfl⟩
instance : Sz Tryz.prog 55 1 := ⟨by kernel_rfl⟩
instance : Zr Tryz.prog 55 [.nilFunc] := ⟨by kernel_rfl⟩
instance : Sc Tryz.prog 56 := ⟨_, Tryz.underlying56, rfl⟩
instance : Sz Tryz.prog 56 1 := ⟨by kernel_rfl⟩
instance : Zr Tryz.prog 56 [.nilFunc] := ⟨by kernel_rfl⟩
instance : Sc Tryz.prog 58 := ⟨_, Tryz.underlying58, rfl⟩
instance : Sz Tryz.prog 58 1 := ⟨by kernel_rfl⟩
instance : Zr Tryz.prog 58 [.nilFunc] := ⟨by kernel_rfl⟩
instance : Sc Tryz.prog 60 := ⟨_, Tryz.underlying60, rfl⟩
instance : Sz Tryz.prog 60 1 := ⟨by kernel_rfl⟩
instance : Zr Tryz.prog 60 [.nilFunc] := ⟨by kernel_rfl⟩
instance : Sc Tryz.prog 61 := ⟨_, Tryz.underlying61, rfl⟩
instance : Sz Tryz.prog 61 1 := ⟨by kernel_rfl⟩
instance : Zr Tryz.prog 61 [.nilFunc] := ⟨by kernel_rfl⟩
instance : Sc Tryz.prog 63 := ⟨_, Tryz.underlying63, rfl⟩
instance : Sz Tryz.prog 63 1 := ⟨by kernel_rfl⟩
instance : Zr Tryz.prog 63 [.nilFunc] := ⟨by kernel_rfl⟩
instance : Sc Tryz.prog 64 := ⟨_, Tryz.underlying64, rfl⟩
instance : Sz Tryz.prog 64 1 := ⟨by kernel_rfl⟩
instance : Zr Tryz.prog 64 [.nilFunc] := ⟨by kernel_rfl⟩
instance : Sc Tryz.prog 65 := ⟨_, Tryz.underlying65, rfl⟩
instance : Sz Tryz.prog 65 1 := ⟨by kernel_rfl⟩
instance : Zr Tryz.prog 65 [.nilFunc] := ⟨by kernel_rfl⟩
instance : Sc Tryz.prog 66 := ⟨_, Tryz.underlying66, rfl⟩
instance : Sz Tryz.prog 66 1 := ⟨by kernel_rfl⟩
instance : Zr Tryz.prog 66 [.nilFunc] := ⟨by kernel_rfl⟩
instance : Sc Tryz.prog 67 := ⟨_, Tryz.underlying67, rfl⟩
instance : Sz Tryz.prog 67 1 := ⟨by kernel_rfl⟩
instance : Zr Tryz.prog 67 [.nilFunc] := ⟨by kernel_rfl⟩
instance : Sc Tryz.prog 68 := ⟨_, Tryz.underlying68, rfl⟩
instance : Sz Tryz.prog 68 1 := ⟨by kernel_rfl⟩
instance : Zr Tryz.prog 68 [.nilFunc] := ⟨by kernel_rfl⟩
instance : Sc Tryz.prog 69 := ⟨_, Tryz.underlying69, rfl⟩
instance : Sz Tryz.prog 69 1 := ⟨by kernel_rfl⟩
instance : Zr Tryz.prog 69 [.nilFunc] := ⟨by kernel_rfl⟩
instance : Sc Tryz.prog 70 := ⟨_, Tryz.underlying70, rfl⟩
instance : Sz Tryz.prog 70 1 := ⟨by kernel_rfl⟩
instance : Zr Tryz.prog 70 [.nilFunc] := ⟨by kernel_rfl⟩
instance : Sc Tryz.prog 71 := ⟨_, Tryz.underlying71, rfl⟩
instance : Sz Tryz.prog 71 1 := ⟨by kernel_rfl⟩
instance : Zr Tryz.prog 71 [.slice none 0 0] := ⟨by kernel_rfl⟩
instance : SlT Tryz.prog 71 3 1 := ⟨Tryz.underlying71, by kernel_rfl⟩
instance : Sc Tryz.prog 72 := ⟨_, Tryz.underlying72, rfl⟩
instance : Sz Tryz.prog 72 1 := ⟨by kernel_rfl⟩
instance : Zr Tryz.prog 72 [.nilFunc] := ⟨by kernel_rfl⟩
instance : Sc Tryz.prog 73 := ⟨_, Tryz.underlying73, rfl⟩
instance : Sz Tryz.prog 73 1 := ⟨by kernel_rfl⟩
instance : Zr Tryz.prog 73 [.pointer none] := ⟨by kernel_rfl⟩
instance : Sc Tryz.prog 74 := ⟨_, Tryz.underlying74, rfl⟩
instance : Sz Tryz.prog 74 1 := ⟨by kernel_rfl⟩
instance : Zr Tryz.prog 74 [.slice none 0 0] := ⟨by kernel_rfl⟩
instance : SlT Tryz.prog 74 79 10 := ⟨Tryz.underlying74, by kernel_rfl⟩
instance : Sc Tryz.prog 75 := ⟨_, Tryz.underlying75, rfl⟩
instance : Sz Tryz.prog 75 1 := ⟨by kernel_rfl⟩
instance : Zr Tryz.prog 75 [.slice none 0 0] := ⟨by kernel_rfl⟩
instance : SlT Tryz.prog 75 79 10 := ⟨Tryz.underlying75, by kernel_rfl⟩
instance : Sc Tryz.prog 76 := ⟨_, Tryz.underlying76, rfl⟩
instance : Sz Tryz.prog 76 1 := ⟨by kernel_rfl⟩
instance : Zr Tryz.prog 76 [.nilFunc] := ⟨by kernel_rfl⟩
instance : Sc Tryz.prog 77 := ⟨_, Tryz.underlying77, rfl⟩
instance : Sz Tryz.prog 77 1 := ⟨by kernel_rfl⟩
instance : Zr Tryz.prog 77 [.nilFunc] := ⟨by kernel_rfl⟩
instance : Ag Tryz.prog 78 10 := ⟨⟨_, Tryz.underlying78, rfl⟩, by kernel_rfl⟩
instance : Sz Tryz.prog 78 10 := ⟨by kernel_rfl⟩
instance : Zr Tryz.prog 78 [.int .i64 0, .int .i64 0, .int .i64 0, .int .i64 0, .int .i64 0, .int .i64 0, .int .i64 0, .int .i64 0, .int .i64 0, .int .i64 0] := ⟨by kernel_rfl⟩
instance : Ag Tryz.prog 79 10 := ⟨⟨_, Tryz.underlying79, rfl⟩, by kernel_rfl⟩
instance : Sz Tryz.prog 79 10 := ⟨by kernel_rfl⟩
instance : Zr Tryz.prog 79 [.int .i64 0, .int .i64 0, .int .i64 0, .int .i64 0, .int .i64 0, .int .i64 0, .int .i64 0, .int .i64 0, .int .i64 0, .int .i64 0] := ⟨by kernel_rfl⟩
instance : Sc Tryz.prog 80 := ⟨_, Tryz.underlying80, rfl⟩
instance : Sz Tryz.prog 80 1 := ⟨by kernel_rfl⟩
instance : Zr Tryz.prog 80 [.nilFunc] := ⟨by kernel_rfl⟩
instance : Sc Tryz.prog 81 := ⟨_, Tryz.underlying81, rfl⟩
instance : Sz Tryz.prog 81 1 := ⟨by kernel_rfl⟩
instance : Zr Tryz.prog 81 [.nilFunc] := ⟨by kernel_rfl⟩
instance : Sc Tryz.prog 82 := ⟨_, Tryz.underlying82, rfl⟩
instance : Sz Tryz.prog 82 1 := ⟨by kernel_rfl⟩
instance : Zr Tryz.prog 82 [.nilFunc] := ⟨by kernel_rfl⟩
instance : Sc Tryz.prog 83 := ⟨_, Tryz.underlying83, rfl⟩
instance : Sz Tryz.prog 83 1 := ⟨by kernel_rfl⟩
instance : Zr Tryz.prog 83 [.nilFunc] := ⟨by kernel_rfl⟩
instance : Sc Tryz.prog 84 := ⟨_, Tryz.underlying84, rfl⟩
instance : Sz Tryz.prog 84 1 := ⟨by kernel_rfl⟩
instance : Zr Tryz.prog 84 [.nilFunc] := ⟨by kernel_rfl⟩
instance : Ag Tryz.prog 85 2 := ⟨⟨_, Tryz.underlying85, rfl⟩, by kernel_rfl⟩
instance : Sz Tryz.prog 85 2 := ⟨by kernel_rfl⟩
instance : Zr Tryz.prog 85 [.slice none 0 0, .int .i64 0] := ⟨by kernel_rfl⟩
instance : Ag Tryz.prog 86 2 := ⟨⟨_, Tryz.underlying86, rfl⟩, by kernel_rfl⟩
instance : Sz Tryz.prog 86 2 := ⟨by kernel_rfl⟩
instance : Zr Tryz.prog 86 [.slice none 0 0, .int .i64 0] := ⟨by kernel_rfl⟩
instance : Sc Tryz.prog 87 := ⟨_, Tryz.underlying87, rfl⟩
instance : Sz Tryz.prog 87 1 := ⟨by kernel_rfl⟩
instance : Zr Tryz.prog 87 [.nilFunc] := ⟨by kernel_rfl⟩
instance : Sc Tryz.prog 88 := ⟨_, Tryz.underlying88, rfl⟩
instance : Sz Tryz.prog 88 1 := ⟨by kernel_rfl⟩
instance : Zr Tryz.prog 88 [.nilFunc] := ⟨by kernel_rfl⟩
instance : Sc Tryz.prog 89 := ⟨_, Tryz.underlying89, rfl⟩
instance : Sz Tryz.prog 89 1 := ⟨by kernel_rfl⟩
instance : Zr Tryz.prog 89 [.slice none 0 0] := ⟨by kernel_rfl⟩
instance : SlT Tryz.prog 89 4 1 := ⟨Tryz.underlying89, by kernel_rfl⟩
instance : Sc Tryz.prog 90 := ⟨_, Tryz.underlying90, rfl⟩
instance : Sz Tryz.prog 90 1 := ⟨by kernel_rfl⟩
instance : Zr Tryz.prog 90 [.nilIface] := ⟨by kernel_rfl⟩
instance : Sc Tryz.prog 91 := ⟨_, Tryz.underlying91, rfl⟩
instance : Sz Tryz.prog 91 1 := ⟨by kernel_rfl⟩
instance : Zr Tryz.prog 91 [.nilIface] := ⟨by kernel_rfl⟩
instance : Sc Tryz.prog 93 := ⟨_, Tryz.underlying93, rfl⟩
instance : Sz Tryz.prog 93 1 := ⟨by kernel_rfl⟩
instance : Zr Tryz.prog 93 [.nilFunc] := ⟨by kernel_rfl⟩
instance : Sc Tryz.prog 94 := ⟨_, Tryz.underlying94, rfl⟩
instance : Sz Tryz.prog 94 1 := ⟨by kernel_rfl⟩
instance : Zr Tryz.prog 94 [.pointer none] := ⟨by kernel_rfl⟩
instance : Sc Tryz.prog 95 := ⟨_, Tryz.underlying95, rfl⟩
instance : Sz Tryz.prog 95 1 := ⟨by kernel_rfl⟩
instance : Zr Tryz.prog 95 [.nilFunc] := ⟨by kernel_rfl⟩
instance : Sc Tryz.prog 96 := ⟨_, Tryz.underlying96, rfl⟩
instance : Sz Tryz.prog 96 1 := ⟨by kernel_rfl⟩
instance : Zr Tryz.prog 96 [.pointer none] := ⟨by kernel_rfl⟩
instance : Sc Tryz.prog 97 := ⟨_, Tryz.underlying97, rfl⟩
instance : Sz Tryz.prog 97 1 := ⟨by kernel_rfl⟩
instance : Zr Tryz.prog 97 [.nilFunc] := ⟨by kernel_rfl⟩
instance : Sc Tryz.prog 98 := ⟨_, Tryz.underlying98, rfl⟩
instance : Sz Tryz.prog 98 1 := ⟨by kernel_rfl⟩
instance : Zr Tryz.prog 98 [.nilFunc] := ⟨by kernel_rfl⟩
instance : Sc Tryz.prog 99 := ⟨_, Tryz.underlying99, rfl⟩
instance : Sz Tryz.prog 99 1 := ⟨by kernel_rfl⟩
instance : Zr Tryz.prog 99 [.nilFunc] := ⟨by kernel_rfl⟩
instance : Sc Tryz.prog 101 := ⟨_, Tryz.underlying101, rfl⟩
instance : Sz Tryz.prog 101 1 := ⟨by kernel_rfl⟩
instance : Zr Tryz.prog 101 [.nilFunc] := ⟨by kernel_rfl⟩
instance : Sc Tryz.prog 102 := ⟨_, Tryz.underlying102, rfl⟩
instance : Sz Tryz.prog 102 1 := ⟨by kernel_rfl⟩
instance : Zr Tryz.prog 102 [.nilFunc] := ⟨by kernel_rfl⟩
instance : Sc Tryz.prog 103 := ⟨_, Tryz.underlying103, rfl⟩
instance : Sz Tryz.prog 103 1 := ⟨by kernel_rfl⟩
instance : Zr Tryz.prog 103 [.nilFunc] := ⟨by kernel_rfl⟩
instance : Sc Tryz.prog 104 := ⟨_, Tryz.underlying104, rfl⟩
instance : Sz Tryz.prog 104 1 := ⟨by kernel_rfl⟩
instance : Zr Tryz.prog 104 [.nilFunc] := ⟨by kernel_rfl⟩
instance : Sc Tryz.prog 105 := ⟨_, Tryz.underlying105, rfl⟩
instance : Sz Tryz.prog 105 1 := ⟨by kernel_rfl⟩
instance : Zr Tryz.prog 105 [.nilIface] := ⟨by kernel_rfl⟩
instance : Sc Tryz.prog 106 := ⟨_, Tryz.underlying106, rfl⟩
instance : Sz Tryz.prog 106 1 := ⟨by kernel_rfl⟩
instance : Zr Tryz.prog 106 [.nilIface] := ⟨by kernel_rfl⟩
instance : Sc Tryz.prog 107 := ⟨_, Tryz.underlying107, rfl⟩
instance : Sz Tryz.prog 107 1 := ⟨by kernel_rfl⟩
instance : Zr Tryz.prog 107 [.nilFunc] := ⟨by kernel_rfl⟩
instance : Sc Tryz.prog 108 := ⟨_, Tryz.underlying108, rfl⟩
instance : Sz Tryz.prog 108 1 := ⟨by kernel_rfl⟩
instance : Zr Tryz.prog 108 [.nilFunc] := ⟨by kernel_rfl⟩
instance : Sc Tryz.prog 109 := ⟨_, Tryz.underlying109, rfl⟩
instance : Sz Tryz.prog 109 1 := ⟨by kernel_rfl⟩
instance : Zr Tryz.prog 109 [.nilFunc] := ⟨by kernel_rfl⟩
instance : Sc Tryz.prog 110 := ⟨_, Tryz.underlying110, rfl⟩
instance : Sz Tryz.prog 110 1 := ⟨by kernel_rfl⟩
instance : Zr Tryz.prog 110 [.int .u64 0] := ⟨by kernel_rfl⟩
instance : Sc Tryz.prog 111 := ⟨_, Tryz.underlying111, rfl⟩
instance : Sz Tryz.prog 111 1 := ⟨by kernel_rfl⟩
instance : Zr Tryz.prog 111 [.nilFunc] := ⟨by kernel_rfl⟩
instance : Sc Tryz.prog 112 := ⟨_, Tryz.underlying112, rfl⟩
instance : Sz Tryz.prog 112 1 := ⟨by kernel_rfl⟩
instance : Zr Tryz.prog 112 [.nilFunc] := ⟨by kernel_rfl⟩
instance : Sc Tryz.prog 113 := ⟨_, Tryz.underlying113, rfl⟩
instance : Sz Tryz.prog 113 1 := ⟨by kernel_rfl⟩
instance : Zr Tryz.prog 113 [.nilFunc] := ⟨by kernel_rfl⟩
instance : Sc Tryz.prog 114 := ⟨_, Tryz.underlying114, rfl⟩
instance : Sz Tryz.prog 114 1 := ⟨by kernel_rfl⟩
instance : Zr Tryz.prog 114 [.nilFunc] := ⟨by kernel_rfl⟩
instance : Sc Tryz.prog 115 := ⟨_, Tryz.underlying115, rfl⟩
instance : Sz Tryz.prog 115 1 := ⟨by kernel_rfl⟩
instance : Zr Tryz.prog 115 [.nilIface] := ⟨by kernel_rfl⟩
instance : Sc Tryz.prog 116 := ⟨_, Tryz.underlying116, rfl⟩
instance : Sz Tryz.prog 116 1 := ⟨by kernel_rfl⟩
instance : Zr Tryz.prog 116 [.nilIface] := ⟨by kernel_rfl⟩
instance : Sc Tryz.prog 117 := ⟨_, Tryz.underlying117, rfl⟩
instance : Sz Tryz.prog 117 1 := ⟨by kernel_rfl⟩
instance : Zr Tryz.prog 117 [.nilFunc] := ⟨by kernel_rfl⟩
instance : Sc Tryz.prog 118 := ⟨_, Tryz.underlying118, rfl⟩
instance : Sz Tryz.prog 118 1 := ⟨by kernel_rfl⟩
instance : Zr Tryz.prog 118 [.nilFunc] := ⟨by kernel_rfl⟩
instance : Ag Tryz.prog 119 9 := ⟨⟨_, Tryz.underlying119, rfl⟩, by kernel_rfl⟩
instance : Sz Tryz.prog 119 9 := ⟨by kernel_rfl⟩
instance : Zr Tryz.prog 119 [.int .i64 0, .int .i64 0, .int .i64 0, .int .i64 0, .int .i64 0, .int .i64 0, .int .i64 0, .int .i64 0, .int .i64 0] := ⟨by kernel_rfl⟩
instance : Ag Tryz.prog 120 9 := ⟨⟨_, Tryz.underlying120, rfl⟩, by kernel_rfl⟩
instance : Sz Tryz.prog 120 9 := ⟨by kernel_rfl⟩
instance : Zr Tryz.prog 120 [.int .i64 0, .int .i64 0, .int .i64 0, .int .i64 0, .int .i64 0, .int .i64 0, .int .i64 0, .int .i64 0, .int .i64 0] := ⟨by kernel_rfl⟩
instance : Sc Tryz.prog 121 := ⟨_, Tryz.underlying121, rfl⟩
instance : Sz Tryz.prog 121 1 := ⟨by kernel_rfl⟩
instance : Zr Tryz.prog 121 [.nilFunc] := ⟨by kernel_rfl⟩
instance : Sc Tryz.prog 122 := ⟨_, Tryz.underlying122, rfl⟩
instance : Sz Tryz.prog 122 1 := ⟨by kernel_rfl⟩
instance : Zr Tryz.prog 122 [.nilFunc] := ⟨by kernel_rfl⟩
instance : Sc Tryz.prog 123 := ⟨_, Tryz.underlying123, rfl⟩
instance : Sz Tryz.prog 123 1 := ⟨by kernel_rfl⟩
instance : Zr Tryz.prog 123 [.nilFunc] := ⟨by kernel_rfl⟩
instance : Sc Tryz.prog 124 := ⟨_, Tryz.underlying124, rfl⟩
instance : Sz Tryz.prog 124 1 := ⟨by kernel_rfl⟩
instance : Zr Tryz.prog 124 [.nilFunc] := ⟨by kernel_rfl⟩
instance : Sc Tryz.prog 125 := ⟨_, Tryz.underlying125, rfl⟩
instance : Sz Tryz.prog 125 1 := ⟨by kernel_rfl⟩
instance : Zr Tryz.prog 125 [.nilFunc] := ⟨by kernel_rfl⟩
instance : Ag Tryz.prog 126 3 := ⟨⟨_, Tryz.underlying126, rfl⟩, by kernel_rfl⟩
instance : Sz Tryz.prog 126 3 := ⟨by kernel_rfl⟩
instance : Zr Tryz.prog 126 [.int .i64 0, .int .i64 0, .int .i64 0] := ⟨by kernel_rfl⟩
instance : Ag Tryz.prog 127 1 := ⟨⟨_, Tryz.underlying127, rfl⟩, by kernel_rfl⟩
instance : Sz Tryz.prog 127 1 := ⟨by kernel_rfl⟩
instance : Zr Tryz.prog 127 [.int .i64 0] := ⟨by kernel_rfl⟩
instance : Ag Tryz.prog 128 1 := ⟨⟨_, Tryz.underlying128, rfl⟩, by kernel_rfl⟩
instance : Sz Tryz.prog 128 1 := ⟨by kernel_rfl⟩
instance : Zr Tryz.prog 128 [.int .i64 0] := ⟨by kernel_rfl⟩
instance : Sc Tryz.prog 129 := ⟨_, Tryz.underlying129, rfl⟩
instance : Sz Tryz.prog 129 1 := ⟨by kernel_rfl⟩
instance : Zr Tryz.prog 129 [.nilFunc] := ⟨by kernel_rfl⟩
instance : Sc Tryz.prog 130 := ⟨_, Tryz.underlying130, rfl⟩
instance : Sz Tryz.prog 130 1 := ⟨by kernel_rfl⟩
instance : Zr Tryz.prog 130 [.pointer none] := ⟨by kernel_rfl⟩
instance : Sc Tryz.prog 131 := ⟨_, Tryz.underlying131, rfl⟩
instance : Sz Tryz.prog 131 1 := ⟨by kernel_rfl⟩
instance : Zr Tryz.prog 131 [.int .u64 0] := ⟨by kernel_rfl⟩
instance : Ag Tryz.prog 132 3 := ⟨⟨_, Tryz.underlying132, rfl⟩, by kernel_rfl⟩
instance : Sz Tryz.prog 132 3 := ⟨by kernel_rfl⟩
instance : Zr Tryz.prog 132 [.pointer none, .pointer none, .int .u64 0] := ⟨by kernel_rfl⟩
instance : Ag Tryz.prog 133 3 := ⟨⟨_, Tryz.underlying133, rfl⟩, by kernel_rfl⟩
instance : Sz Tryz.prog 133 3 := ⟨by kernel_rfl⟩
instance : Zr Tryz.prog 133 [.pointer none, .pointer none, .int .u64 0] := ⟨by kernel_rfl⟩
instance : Sc Tryz.prog 134 := ⟨_, Tryz.underlying134, rfl⟩
instance : Sz Tryz.prog 134 1 := ⟨by kernel_rfl⟩
instance : Zr Tryz.prog 134 [.nilFunc] := ⟨by kernel_rfl⟩
instance : Sc Tryz.prog 135 := ⟨_, Tryz.underlying135, rfl⟩
instance : Sz Tryz.prog 135 1 := ⟨by kernel_rfl⟩
instance : Zr Tryz.prog 135 [.nilIface] := ⟨by kernel_rfl⟩
instance : Sc Tryz.prog 136 := ⟨_, Tryz.underlying136, rfl⟩
instance : Sz Tryz.prog 136 1 := ⟨by kernel_rfl⟩
instance : Zr Tryz.prog 136 [.nilIface] := ⟨by kernel_rfl⟩
instance : Sc Tryz.prog 137 := ⟨_, Tryz.underlying137, rfl⟩
instance : Sz Tryz.prog 137 1 := ⟨by kernel_rfl⟩
instance : Zr Tryz.prog 137 [.nilFunc] := ⟨by kernel_rfl⟩
instance : Sc Tryz.prog 138 := ⟨_, Tryz.underlying138, rfl⟩
instance : Sz Tryz.prog 138 1 := ⟨by kernel_rfl⟩
instance : Zr Tryz.prog 138 [.int .u8 0] := ⟨by kernel_rfl⟩
instance : Sc Tryz.prog 139 := ⟨_, Tryz.underlying139, rfl⟩
instance : Sz Tryz.prog 139 1 := ⟨by kernel_rfl⟩
instance : Zr Tryz.prog 139 [.nilFunc] := ⟨by kernel_rfl⟩
instance : Sc Tryz.prog 140 := ⟨_, Tryz.underlying140, rfl⟩
instance : Sz Tryz.prog 140 1 := ⟨by kernel_rfl⟩
instance : Zr Tryz.prog 140 [.nilFunc] := ⟨by kernel_rfl⟩
instance : Sc Tryz.prog 141 := ⟨_, Tryz.underlying141, rfl⟩
instance : Sz Tryz.prog 141 1 := ⟨by kernel_rfl⟩
instance : Zr Tryz.prog 141 [.nilFunc] := ⟨by kernel_rfl⟩
instance : Sc Tryz.prog 142 := ⟨_, Tryz.underlying142, rfl⟩
instance : Sz Tryz.prog 142 1 := ⟨by kernel_rfl⟩
instance : Zr Tryz.prog 142 [.nilFunc] := ⟨by kernel_rfl⟩
instance : Ag Tryz.prog 143 3 := ⟨⟨_, Tryz.underlying143, rfl⟩, by kernel_rfl⟩
instance : Sz Tryz.prog 143 3 := ⟨by kernel_rfl⟩
instance : Zr Tryz.prog 143 [.int .i64 0, .int .i64 0, .int .i64 0] := ⟨by kernel_rfl⟩
instance : Ag Tryz.prog 144 3 := ⟨⟨_, Tryz.underlying144, rfl⟩, by kernel_rfl⟩
instance : Sz Tryz.prog 144 3 := ⟨by kernel_rfl⟩
instance : Zr Tryz.prog 144 [.int .i64 0, .int .i64 0, .int .i64 0] := ⟨by kernel_rfl⟩
instance : Sc Tryz.prog 145 := ⟨_, Tryz.underlying145, rfl⟩
instance : Sz Tryz.prog 145 1 := ⟨by kernel_rfl⟩
instance : Zr Tryz.prog 145 [.nilFunc] := ⟨by kernel_rfl⟩
instance : Sc Tryz.prog 146 := ⟨_, Tryz.underlying146, rfl⟩
instance : Sz Tryz.prog 146 1 := ⟨by kernel_rfl⟩
instance : Zr Tryz.prog 146 [.nilFunc] := ⟨by kernel_rfl⟩
instance : Sc Tryz.prog 148 := ⟨_, Tryz.underlying148, rfl⟩
instance : Sz Tryz.prog 148 1 := ⟨by kernel_rfl⟩
instance : Zr Tryz.prog 148 [.nilFunc] := ⟨by kernel_rfl⟩
instance : Sc Tryz.prog 149 := ⟨_, Tryz.underlying149, rfl⟩
instance : Sz Tryz.prog 149 1 := ⟨by kernel_rfl⟩
instance : Zr Tryz.prog 149 [.nilFunc] := ⟨by kernel_rfl⟩
instance : Sc Tryz.prog 150 := ⟨_, Tryz.underlying150, rfl⟩
instance : Sz Tryz.prog 150 1 := ⟨by kernel_rfl⟩
instance : Zr Tryz.prog 150 [.nilFunc] := ⟨by kernel_rfl⟩
instance : Sc Tryz.prog 151 := ⟨_, Tryz.underlying151, rfl⟩
instance : Sz Tryz.prog 151 1 := ⟨by kernel_rfl⟩
instance : Zr Tryz.prog 151 [.nilFunc] := ⟨by kernel_rfl⟩
instance : Sc Tryz.prog 155 := ⟨_, Tryz.underlying155, rfl⟩
instance : Sz Tryz.prog 155 1 := ⟨by kernel_rfl⟩
instance : Zr Tryz.prog 155 [.nilFunc] := ⟨by kernel_rfl⟩
instance : Sc Tryz.prog 156 := ⟨_, Tryz.underlying156, rfl⟩
instance : Sz Tryz.prog 156 1 := ⟨by kernel_rfl⟩
instance : Zr Tryz.prog 156 [.nilFunc] := ⟨by kernel_rfl⟩
instance : Sc Tryz.prog 157 := ⟨_, Tryz.underlying157, rfl⟩
instance : Sz Tryz.prog 157 1 := ⟨by kernel_rfl⟩
instance : Zr Tryz.prog 157 [.pointer none] := ⟨by kernel_rfl⟩
instance : Ag Tryz.prog 158 12 := ⟨⟨_, Tryz.underlying158, rfl⟩, by kernel_rfl⟩
instance : Sz Tryz.prog 158 12 := ⟨by kernel_rfl⟩
instance : Zr Tryz.prog 158 [.int .i64 0, .int .i64 0, .int .i64 0, .int .i64 0, .int .i64 0, .int .i64 0, .int .i64 0, .int .i64 0, .int .i64 0, .int .i64 0, .int .i64 0, .int .i64 0] := ⟨by kernel_rfl⟩
instance : Sc Tryz.prog 159 := ⟨_, Tryz.underlying159, rfl⟩
instance : Sz Tryz.prog 159 1 := ⟨by kernel_rfl⟩
instance : Zr Tryz.prog 159 [.nilFunc] := ⟨by kernel_rfl⟩
instance : Sc Tryz.prog 160 := ⟨_, Tryz.underlying160, rfl⟩
instance : Sz Tryz.prog 160 1 := ⟨by kernel_rfl⟩
instance : Zr Tryz.prog 160 [.nilFunc] := ⟨by kernel_rfl⟩
instance : Sc Tryz.prog 161 := ⟨_, Tryz.underlying161, rfl⟩
instance : Sz Tryz.prog 161 1 := ⟨by kernel_rfl⟩
instance : Zr Tryz.prog 161 [.nilFunc] := ⟨by kernel_rfl⟩
instance : Ag Tryz.prog 162 1 := ⟨⟨_, Tryz.underlying162, rfl⟩, by kernel_rfl⟩
instance : Sz Tryz.prog 162 1 := ⟨by kernel_rfl⟩
instance : Zr Tryz.prog 162 [.pointer none] := ⟨by kernel_rfl⟩
instance : Ag Tryz.prog 163 1 := ⟨⟨_, Tryz.underlying163, rfl⟩, by kernel_rfl⟩
instance : Sz Tryz.prog 163 1 := ⟨by kernel_rfl⟩
instance : Zr Tryz.prog 163 [.pointer none] := ⟨by kernel_rfl⟩
instance : Sc Tryz.prog 164 := ⟨_, Tryz.underlying164, rfl⟩
instance : Sz Tryz.prog 164 1 := ⟨by kernel_rfl⟩
instance : Zr Tryz.prog 164 [.pointer none] := ⟨by kernel_rfl⟩
instance : Sc Tryz.prog 165 := ⟨_, Tryz.underlying165, rfl⟩
instance : Sz Tryz.prog 165 1 := ⟨by kernel_rfl⟩
instance : Zr Tryz.prog 165 [.nilFunc] := ⟨by kernel_rfl⟩
instance : Sc Tryz.prog 166 := ⟨_, Tryz.underlying166, rfl⟩
instance : Sz Tryz.prog 166 1 := ⟨by kernel_rfl⟩
instance : Zr Tryz.prog 166 [.nilFunc] := ⟨by kernel_rfl⟩
instance : Sc Tryz.prog 167 := ⟨_, Tryz.underlying167, rfl⟩
instance : Sz Tryz.prog 167 1 := ⟨by kernel_rfl⟩
instance : Zr Tryz.prog 167 [.nilFunc] := ⟨by kernel_rfl⟩
instance : Sc Tryz.prog 168 := ⟨_, Tryz.underlying168, rfl⟩
instance : Sz Tryz.prog 168 1 := ⟨by kernel_rfl⟩
instance : Zr Tryz.prog 168 [.nilIface] := ⟨by kernel_rfl⟩
instance : Sc Tryz.prog 170 := ⟨_, Tryz.underlying170, rfl⟩
instance : Sz Tryz.prog 170 1 := ⟨by kernel_rfl⟩
instance : Zr Tryz.prog 170 [.nilFunc] := ⟨by kernel_rfl⟩
instance : Sc Tryz.prog 171 := ⟨_, Tryz.underlying171, rfl⟩
instance : Sz Tryz.prog 171 1 := ⟨by kernel_rfl⟩
instance : Zr Tryz.prog 171 [.nilIface] := ⟨by kernel_rfl⟩
instance : Sc Tryz.prog 172 := ⟨_, Tryz.underlying172, rfl⟩
instance : Sz Tryz.prog 172 1 := ⟨by kernel_rfl⟩
instance : Zr Tryz.prog 172 [.nilFunc] := ⟨by kernel_rfl⟩
instance : Sc Tryz.prog 173 := ⟨_, Tryz.underlying173, rfl⟩
instance : Sz Tryz.prog 173 1 := ⟨by kernel_rfl⟩
instance : Zr Tryz.prog 173 [.nilIface] := ⟨by kernel_rfl⟩
instance : Sc Tryz.prog 174 := ⟨_, Tryz.underlying174, rfl⟩
instance : Sz Tryz.prog 174 1 := ⟨by kernel_rfl⟩
instance : Zr Tryz.prog 174 [.slice none 0 0] := ⟨by kernel_rfl⟩
instance : SlT Tryz.prog 174 91 1 := ⟨Tryz.underlying174, by kernel_rfl⟩
instance : Sc Tryz.prog 175 := ⟨_, Tryz.underlying175, rfl⟩
instance : Sz Tryz.prog 175 1 := ⟨by kernel_rfl⟩
instance : Zr Tryz.prog 175 [.nilFunc] := ⟨by kernel_rfl⟩
instance : Sc Tryz.prog 177 := ⟨_, Tryz.underlying177, rfl⟩
instance : Sz Tryz.prog 177 1 := ⟨by kernel_rfl⟩
instance : Zr Tryz.prog 177 [.nilFunc] := ⟨by kernel_rfl⟩
instance : Sc Tryz.prog 178 := ⟨_, Tryz.underlying178, rfl⟩
instance : Sz Tryz.prog 178 1 := ⟨by kernel_rfl⟩
instance : Zr Tryz.prog 178 [.nilFunc] := ⟨by kernel_rfl⟩
instance : Sc Tryz.prog 179 := ⟨_, Tryz.underlying179, rfl⟩
instance : Sz Tryz.prog 179 1 := ⟨by kernel_rfl⟩
instance : Zr Tryz.prog 179 [.nilFunc] := ⟨by kernel_rfl⟩
instance : Sc Tryz.prog 180 := ⟨_, Tryz.underlying180, rfl⟩
instance : Sz Tryz.prog 180 1 := ⟨by kernel_rfl⟩
instance : Zr Tryz.prog 180 [.nilFunc] := ⟨by kernel_rfl⟩
instance : Sc Tryz.prog 181 := ⟨_, Tryz.underlying181, rfl⟩
instance : Sz Tryz.prog 181 1 := ⟨by kernel_rfl⟩
instance : Zr Tryz.prog 181 [.nilFunc] := ⟨by kernel_rfl⟩
instance : Sc Tryz.prog 182 := ⟨_, Tryz.underlying182, rfl⟩
instance : Sz Tryz.prog 182 1 := ⟨by kernel_rfl⟩
instance : Zr Tryz.prog 182 [.nilFunc] := ⟨by kernel_rfl⟩
instance : Ag Tryz.prog 184 2 := ⟨⟨_, Tryz.underlying184, rfl⟩, by kernel_rfl⟩
instance : Sz Tryz.prog 184 2 := ⟨by kernel_rfl⟩
instance : Zr Tryz.prog 184 [.int .u8 0, .int .u8 0] := ⟨by kernel_rfl⟩
instance : Ag Tryz.prog 185 2 := ⟨⟨_, Tryz.underlying185, rfl⟩, by kernel_rfl⟩
instance : Sz Tryz.prog 185 2 := ⟨by kernel_rfl⟩
instance : Zr Tryz.prog 185 [.int .u8 0, .int .u8 0] := ⟨by kernel_rfl⟩
instance : Ag Tryz.prog 186 32 := ⟨⟨_, Tryz.underlying186, rfl⟩, by kernel_rfl⟩
instance : Sz Tryz.prog 186 32 := ⟨by kernel_rfl⟩
instance : Zr Tryz.prog 186 [.int .u8 0, .int .u8 0, .int .u8 0, .int .u8 0, .int .u8 0, .int .u8 0, .int .u8 0, .int .u8 0, .int .u8 0, .int .u8 0, .int .u8 0, .int .u8 0, .int .u8 0, .int .u8 0, .int .u8 0, .int .u8 0, .int .u8 0, .int .u8 0, .int .u8 0, .int .u8 0, .int .u8 0, .int .u8 0, .int .u8 0, .int .u8 0, .int .u8 0, .int .u8 0, .int .u8 0, .int .u8 0, .int .u8 0, .int .u8 0, .int .u8 0, .int .u8 0] := ⟨by kernel_rfl⟩
instance : Sc Tryz.prog 187 := ⟨_, Tryz.underlying187, rfl⟩
instance : Sz Tryz.prog 187 1 := ⟨by kernel_rfl⟩
instance : Zr Tryz.prog 187 [.nilFunc] := ⟨by kernel_rfl⟩
instance : Ag Tryz.prog 188 4 := ⟨⟨_, Tryz.underlying188, rfl⟩, by kernel_rfl⟩
instance : Sz Tryz.prog 188 4 := ⟨by kernel_rfl⟩
instance : Zr Tryz.prog 188 [.pointer none, .pointer none, .pointer none, .string ByteArray.empty] := ⟨by kernel_rfl⟩
instance : Ag Tryz.prog 189 4 := ⟨⟨_, Tryz.underlying189, rfl⟩, by kernel_rfl⟩
instance : Sz Tryz.prog 189 4 := ⟨by kernel_rfl⟩
instance : Zr Tryz.prog 189 [.pointer none, .pointer none, .pointer none, .string ByteArray.empty] := ⟨by kernel_rfl⟩
instance : Sc Tryz.prog 193 := ⟨_, Tryz.underlying193, rfl⟩
instance : Sz Tryz.prog 193 1 := ⟨by kernel_rfl⟩
instance : Zr Tryz.prog 193 [.nilFunc] := ⟨by kernel_rfl⟩
instance : Sc Tryz.prog 194 := ⟨_, Tryz.underlying194, rfl⟩
instance : Sz Tryz.prog 194 1 := ⟨by kernel_rfl⟩
instance : Zr Tryz.prog 194 [.int .u32 0] := ⟨by kernel_rfl⟩
instance : Sc Tryz.prog 195 := ⟨_, Tryz.underlying195, rfl⟩
instance : Sz Tryz.prog 195 1 := ⟨by kernel_rfl⟩
instance : Zr Tryz.prog 195 [.int .u8 0] := ⟨by kernel_rfl⟩
instance : Sc Tryz.prog 196 := ⟨_, Tryz.underlying196, rfl⟩
instance : Sz Tryz.prog 196 1 := ⟨by kernel_rfl⟩
instance : Zr Tryz.prog 196 [.nilFunc] := ⟨by kernel_rfl⟩
instance : Sc Tryz.prog 197 := ⟨_, Tryz.underlying197, rfl⟩
instance : Sz Tryz.prog 197 1 := ⟨by kernel_rfl⟩
instance : Zr Tryz.prog 197 [.pointer none] := ⟨by kernel_rfl⟩
instance : Sc Tryz.prog 198 := ⟨_, Tryz.underlying198, rfl⟩
instance : Sz Tryz.prog 198 1 := ⟨by kernel_rfl⟩
instance : Zr Tryz.prog 198 [.int .i32 0] := ⟨by kernel_rfl⟩
instance : Sc Tryz.prog 199 := ⟨_, Tryz.underlying199, rfl⟩
instance : Sz Tryz.prog 199 1 := ⟨by kernel_rfl⟩
instance : Zr Tryz.prog 199 [.int .i32 0] := ⟨by kernel_rfl⟩
instance : Ag Tryz.prog 200 11 := ⟨⟨_, Tryz.underlying200, rfl⟩, by kernel_rfl⟩
instance : Sz Tryz.prog 200 11 := ⟨by kernel_rfl⟩
instance : Zr Tryz.prog 200 [.int .u64 0, .int .u64 0, .int .u32 0, .int .u8 0, .int .u8 0, .int .u8 0, .int .u8 0, .nilFunc, .pointer none, .int .i32 0, .int .i32 0] := ⟨by kernel_rfl⟩
instance : Ag Tryz.prog 201 11 := ⟨⟨_, Tryz.underlying201, rfl⟩, by kernel_rfl⟩
instance : Sz Tryz.prog 201 11 := ⟨by kernel_rfl⟩
instance : Zr Tryz.prog 201 [.int .u64 0, .int .u64 0, .int .u32 0, .int .u8 0, .int .u8 0, .int .u8 0, .int .u8 0, .nilFunc, .pointer none, .int .i32 0, .int .i32 0] := ⟨by kernel_rfl⟩
instance : Sc Tryz.prog 202 := ⟨_, Tryz.underlying202, rfl⟩
instance : Sz Tryz.prog 202 1 := ⟨by kernel_rfl⟩
instance : Zr Tryz.prog 202 [.nilFunc] := ⟨by kernel_rfl⟩
instance : Sc Tryz.prog 203 := ⟨_, Tryz.underlying203, rfl⟩
instance : Sz Tryz.prog 203 1 := ⟨by kernel_rfl⟩
instance : Zr Tryz.prog 203 [.nilFunc] := ⟨by kernel_rfl⟩
instance : Ag Tryz.prog 204 2 := ⟨⟨_, Tryz.underlying204, rfl⟩, by kernel_rfl⟩
instance : Sz Tryz.prog 204 2 := ⟨by kernel_rfl⟩
instance : Zr Tryz.prog 204 [.string ByteArray.empty, .int .u8 0] := ⟨by kernel_rfl⟩
instance : Ag Tryz.prog 205 2 := ⟨⟨_, Tryz.underlying205, rfl⟩, by kernel_rfl⟩
instance : Sz Tryz.prog 205 2 := ⟨by kernel_rfl⟩
instance : Zr Tryz.prog 205 [.string ByteArray.empty, .int .u8 0] := ⟨by kernel_rfl⟩
instance : Sc Tryz.prog 206 := ⟨_, Tryz.underlying206, rfl⟩
instance : Sz Tryz.prog 206 1 := ⟨by kernel_rfl⟩
instance : Zr Tryz.prog 206 [.pointer none] := ⟨by kernel_rfl⟩
instance : Sc Tryz.prog 207 := ⟨_, Tryz.underlying207, rfl⟩
instance : Sz Tryz.prog 207 1 := ⟨by kernel_rfl⟩
instance : Zr Tryz.prog 207 [.nilFunc] := ⟨by kernel_rfl⟩
instance : Sc Tryz.prog 208 := ⟨_, Tryz.underlying208, rfl⟩
instance : Sz Tryz.prog 208 1 := ⟨by kernel_rfl⟩
instance : Zr Tryz.prog 208 [.int .u16 0] := ⟨by kernel_rfl⟩
instance : Ag Tryz.prog 209 5 := ⟨⟨_, Tryz.underlying209, rfl⟩, by kernel_rfl⟩
instance : Sz Tryz.prog 209 5 := ⟨by kernel_rfl⟩
instance : Zr Tryz.prog 209 [.int .i32 0, .int .u16 0, .int .u16 0, .int .u32 0, .int .u32 0] := ⟨by kernel_rfl⟩
instance : Ag Tryz.prog 210 5 := ⟨⟨_, Tryz.underlying210, rfl⟩, by kernel_rfl⟩
instance : Sz Tryz.prog 210 5 := ⟨by kernel_rfl⟩
instance : Zr Tryz.prog 210 [.int .i32 0, .int .u16 0, .int .u16 0, .int .u32 0, .int .u32 0] := ⟨by kernel_rfl⟩
instance : Sc Tryz.prog 211 := ⟨_, Tryz.underlying211, rfl⟩
instance : Sz Tryz.prog 211 1 := ⟨by kernel_rfl⟩
instance : Zr Tryz.prog 211 [.slice none 0 0] := ⟨by kernel_rfl⟩
instance : SlT Tryz.prog 211 214 4 := ⟨Tryz.underlying211, by kernel_rfl⟩
instance : Sc Tryz.prog 212 := ⟨_, Tryz.underlying212, rfl⟩
instance : Sz Tryz.prog 212 1 := ⟨by kernel_rfl⟩
instance : Zr Tryz.prog 212 [.int .i32 0] := ⟨by kernel_rfl⟩
instance : Ag Tryz.prog 213 4 := ⟨⟨_, Tryz.underlying213, rfl⟩, by kernel_rfl⟩
instance : Sz Tryz.prog 213 4 := ⟨by kernel_rfl⟩
instance : Zr Tryz.prog 213 [.int .i32 0, .int .i32 0, .int .i32 0, .int .i32 0] := ⟨by kernel_rfl⟩
instance : Ag Tryz.prog 214 4 := ⟨⟨_, Tryz.underlying214, rfl⟩, by kernel_rfl⟩
instance : Sz Tryz.prog 214 4 := ⟨by kernel_rfl⟩
instance : Zr Tryz.prog 214 [.int .i32 0, .int .i32 0, .int .i32 0, .int .i32 0] := ⟨by kernel_rfl⟩
instance : Sc Tryz.prog 215 := ⟨_, Tryz.underlying215, rfl⟩
instance : Sz Tryz.prog 215 1 := ⟨by kernel_rfl⟩
instance : Zr Tryz.prog 215 [.pointer none] := ⟨by kernel_rfl⟩
instance : BS Tryz.prog 22 5 [.int .u8 0] := ⟨Tryz.underlying22, by kernel_rfl, by kernel_rfl⟩
instance : BS Tryz.prog 39 9 [.string ByteArray.empty] := ⟨Tryz.underlying39, by kernel_rfl, by kernel_rfl⟩
instance : BS Tryz.prog 71 3 [.int .i64 0] := ⟨Tryz.underlying71, by kernel_rfl, by kernel_rfl⟩
instance : BS Tryz.prog 74 79 [.int .i64 0, .int .i64 0, .int .i64 0, .int .i64 0, .int .i64 0, .int .i64 0, .int .i64 0, .int .i64 0, .int .i64 0, .int .i64 0] := ⟨Tryz.underlying74, by kernel_rfl, by kernel_rfl⟩
instance : BS Tryz.prog 75 79 [.int .i64 0, .int .i64 0, .int .i64 0, .int .i64 0, .int .i64 0, .int .i64 0, .int .i64 0, .int .i64 0, .int .i64 0, .int .i64 0] := ⟨Tryz.underlying75, by kernel_rfl, by kernel_rfl⟩
instance : BS Tryz.prog 89 4 [.bool false] := ⟨Tryz.underlying89, by kernel_rfl, by kernel_rfl⟩
instance : BS Tryz.prog 174 91 [.nilIface] := ⟨Tryz.underlying174, by kernel_rfl, by kernel_rfl⟩
instance : BS Tryz.prog 211 214 [.int .i32 0, .int .i32 0, .int .i32 0, .int .i32 0] := ⟨Tryz.underlying211, by kernel_rfl, by kernel_rfl⟩
instance : Bd Tryz.prog 7 [(0, 1), (1, 1), (2, 1), (3, 1)] [.int .i64 0, .int .i64 0, .bool false, .int .u8 0] := ⟨fun _ => by kernel_rfl⟩
instance : FO Tryz.prog 7 0 0 := FO.of (k := 1) Tryz.underlying7 rfl rfl rfl (by kernel_rfl) (by decide)
instance : FV Tryz.prog 7 0 0 1 false := FV.of1 (ft := 2) Tryz.underlying7 rfl rfl rfl inferInstance
instance : FO Tryz.prog 7 1 1 := FO.of (k := 1) Tryz.underlying7 rfl rfl rfl (by kernel_rfl) (by decide)
instance : FV Tryz.prog 7 1 1 1 false := FV.of1 (ft := 3) Tryz.underlying7 rfl rfl rfl inferInstance
instance : FO Tryz.prog 7 2 2 := FO.of (k := 1) Tryz.underlying7 rfl rfl rfl (by kernel_rfl) (by decide)
instance : FV Tryz.prog 7 2 2 1 false := FV.of1 (ft := 4) Tryz.underlying7 rfl rfl rfl inferInstance
instance : FO Tryz.prog 7 3 3 := FO.of (k := 1) Tryz.underlying7 rfl rfl rfl (by kernel_rfl) (by decide)
instance : FV Tryz.prog 7 3 3 1 false := FV.of1 (ft := 6) Tryz.underlying7 rfl rfl rfl inferInstance
instance : Bd Tryz.prog 8 [(0, 1), (1, 1), (2, 1), (3, 1)] [.int .i64 0, .int .i64 0, .bool false, .int .u8 0] := ⟨fun _ => by kernel_rfl⟩
instance : FO Tryz.prog 8 0 0 := FO.of (k := 1) Tryz.underlying8 rfl rfl rfl (by kernel_rfl) (by decide)
instance : FV Tryz.prog 8 0 0 1 false := FV.of1 (ft := 2) Tryz.underlying8 rfl rfl rfl inferInstance
instance : FO Tryz.prog 8 1 1 := FO.of (k := 1) Tryz.underlying8 rfl rfl rfl (by kernel_rfl) (by decide)
instance : FV Tryz.prog 8 1 1 1 false := FV.of1 (ft := 3) Tryz.underlying8 rfl rfl rfl inferInstance
instance : FO Tryz.prog 8 2 2 := FO.of (k := 1) Tryz.underlying8 rfl rfl rfl (by kernel_rfl) (by decide)
instance : FV Tryz.prog 8 2 2 1 false := FV.of1 (ft := 4) Tryz.underlying8 rfl rfl rfl inferInstance
instance : FO Tryz.prog 8 3 3 := FO.of (k := 1) Tryz.underlying8 rfl rfl rfl (by kernel_rfl) (by decide)
instance : FV Tryz.prog 8 3 3 1 false := FV.of1 (ft := 6) Tryz.underlying8 rfl rfl rfl inferInstance
instance : Bd Tryz.prog 13 [(0, 1), (1, 1)] [.string ByteArray.empty, .int .u64 0] := ⟨fun _ => by kernel_rfl⟩
instance : FO Tryz.prog 13 0 0 := FO.of (k := 1) Tryz.underlying13 rfl rfl rfl (by kernel_rfl) (by decide)
instance : FV Tryz.prog 13 0 0 1 false := FV.of1 (ft := 9) Tryz.underlying13 rfl rfl rfl inferInstance
instance : FO Tryz.prog 13 1 1 := FO.of (k := 1) Tryz.underlying13 rfl rfl rfl (by kernel_rfl) (by decide)
instance : FV Tryz.prog 13 1 1 1 false := FV.of1 (ft := 12) Tryz.underlying13 rfl rfl rfl inferInstance
instance : Bd Tryz.prog 14 [(0, 1), (1, 1)] [.string ByteArray.empty, .int .u64 0] := ⟨fun _ => by kernel_rfl⟩
instance : FO Tryz.prog 14 0 0 := FO.of (k := 1) Tryz.underlying14 rfl rfl rfl (by kernel_rfl) (by decide)
instance : FV Tryz.prog 14 0 0 1 false := FV.of1 (ft := 9) Tryz.underlying14 rfl rfl rfl inferInstance
instance : FO Tryz.prog 14 1 1 := FO.of (k := 1) Tryz.underlying14 rfl rfl rfl (by kernel_rfl) (by decide)
instance : FV Tryz.prog 14 1 1 1 false := FV.of1 (ft := 12) Tryz.underlying14 rfl rfl rfl inferInstance
instance : Bd Tryz.prog 18 [(0, 1)] [.pointer none] := ⟨fun _ => by kernel_rfl⟩
instance : FO Tryz.prog 18 0 0 := FO.of (k := 1) Tryz.underlying18 rfl rfl rfl (by kernel_rfl) (by decide)
instance : FV Tryz.prog 18 0 0 1 false := FV.of1 (ft := 17) Tryz.underlying18 rfl rfl rfl inferInstance
instance : Bd Tryz.prog 19 [(0, 1)] [.pointer none] := ⟨fun _ => by kernel_rfl⟩
instance : FO Tryz.prog 19 0 0 := FO.of (k := 1) Tryz.underlying19 rfl rfl rfl (by kernel_rfl) (by decide)
instance : FV Tryz.prog 19 0 0 1 false := FV.of1 (ft := 17) Tryz.underlying19 rfl rfl rfl inferInstance
instance : Bd Tryz.prog 24 [(0, 1), (1, 1), (2, 1)] [.int .i64 0, .int .i64 0, .int .i64 0] := ⟨fun _ => by kernel_rfl⟩
instance : FO Tryz.prog 24 0 0 := FO.of (k := 1) Tryz.underlying24 rfl rfl rfl (by kernel_rfl) (by decide)
instance : FV Tryz.prog 24 0 0 1 false := FV.of1 (ft := 3) Tryz.underlying24 rfl rfl rfl inferInstance
instance : FO Tryz.prog 24 1 1 := FO.of (k := 1) Tryz.underlying24 rfl rfl rfl (by kernel_rfl) (by decide)
instance : FV Tryz.prog 24 1 1 1 false := FV.of1 (ft := 3) Tryz.underlying24 rfl rfl rfl inferInstance
instance : FO Tryz.prog 24 2 2 := FO.of (k := 1) Tryz.underlying24 rfl rfl rfl (by kernel_rfl) (by decide)
instance : FV Tryz.prog 24 2 2 1 false := FV.of1 (ft := 3) Tryz.underlying24 rfl rfl rfl inferInstance
instance : Bd Tryz.prog 25 [(0, 1), (1, 1), (2, 1)] [.int .i64 0, .int .i64 0, .int .i64 0] := ⟨fun _ => by kernel_rfl⟩
instance : FO Tryz.prog 25 0 0 := FO.of (k := 1) Tryz.underlying25 rfl rfl rfl (by kernel_rfl) (by decide)
instance : FV Tryz.prog 25 0 0 1 false := FV.of1 (ft := 3) Tryz.underlying25 rfl rfl rfl inferInstance
instance : FO Tryz.prog 25 1 1 := FO.of (k := 1) Tryz.underlying25 rfl rfl rfl (by kernel_rfl) (by decide)
instance : FV Tryz.prog 25 1 1 1 false := FV.of1 (ft := 3) Tryz.underlying25 rfl rfl rfl inferInstance
instance : FO Tryz.prog 25 2 2 := FO.of (k := 1) Tryz.underlying25 rfl rfl rfl (by kernel_rfl) (by decide)
instance : FV Tryz.prog 25 2 2 1 false := FV.of1 (ft := 3) Tryz.underlying25 rfl rfl rfl inferInstance
instance : Bd Tryz.prog 26 [(0, 1), (1, 1), (2, 1), (3, 1)] [.int .i64 0, .int .i64 0, .int .i64 0, .int .i64 0] := ⟨fun _ => by kernel_rfl⟩
instance : FO Tryz.prog 26 0 0 := FO.of (k := 1) Tryz.underlying26 rfl rfl rfl (by kernel_rfl) (by decide)
instance : FV Tryz.prog 26 0 0 1 false := FV.of1 (ft := 3) Tryz.underlying26 rfl rfl rfl inferInstance
instance : FO Tryz.prog 26 1 1 := FO.of (k := 1) Tryz.underlying26 rfl rfl rfl (by kernel_rfl) (by decide)
instance : FV Tryz.prog 26 1 1 1 false := FV.of1 (ft := 3) Tryz.underlying26 rfl rfl rfl inferInstance
instance : FO Tryz.prog 26 2 2 := FO.of (k := 1) Tryz.underlying26 rfl rfl rfl (by kernel_rfl) (by decide)
instance : FV Tryz.prog 26 2 2 1 false := FV.of1 (ft := 3) Tryz.underlying26 rfl rfl rfl inferInstance
instance : FO Tryz.prog 26 3 3 := FO.of (k := 1) Tryz.underlying26 rfl rfl rfl (by kernel_rfl) (by decide)
instance : FV Tryz.prog 26 3 3 1 false := FV.of1 (ft := 3) Tryz.underlying26 rfl rfl rfl inferInstance
instance : Bd Tryz.prog 27 [(0, 1), (1, 1), (2, 1), (3, 1)] [.int .i64 0, .int .i64 0, .int .i64 0, .int .i64 0] := ⟨fun _ => by kernel_rfl⟩
instance : FO Tryz.prog 27 0 0 := FO.of (k := 1) Tryz.underlying27 rfl rfl rfl (by kernel_rfl) (by decide)
instance : FV Tryz.prog 27 0 0 1 false := FV.of1 (ft := 3) Tryz.underlying27 rfl rfl rfl inferInstance
instance : FO Tryz.prog 27 1 1 := FO.of (k := 1) Tryz.underlying27 rfl rfl rfl (by kernel_rfl) (by decide)
instance : FV Tryz.prog 27 1 1 1 false := FV.of1 (ft := 3) Tryz.underlying27 rfl rfl rfl inferInstance
instance : FO Tryz.prog 27 2 2 := FO.of (k := 1) Tryz.underlying27 rfl rfl rfl (by kernel_rfl) (by decide)
instance : FV Tryz.prog 27 2 2 1 false := FV.of1 (ft := 3) Tryz.underlying27 rfl rfl rfl inferInstance
instance : FO Tryz.prog 27 3 3 := FO.of (k := 1) Tryz.underlying27 rfl rfl rfl (by kernel_rfl) (by decide)
instance : FV Tryz.prog 27 3 3 1 false := FV.of1 (ft := 3) Tryz.underlying27 rfl rfl rfl inferInstance
instance : Bd Tryz.prog 28 [(0, 3), (3, 4), (7, 1)] [.int .i64 0, .int .i64 0, .int .i64 0, .int .i64 0, .int .i64 0, .int .i64 0, .int .i64 0, .int .i64 0] := ⟨fun _ => by kernel_rfl⟩
instance : FO Tryz.prog 28 0 0 := FO.of (k := 3) Tryz.underlying28 rfl rfl rfl (by kernel_rfl) (by decide)
instance : FV Tryz.prog 28 0 0 3 true := FV.ofk (ft := 25) Tryz.underlying28 rfl rfl rfl inferInstance
instance : FO Tryz.prog 28 1 3 := FO.of (k := 4) Tryz.underlying28 rfl rfl rfl (by kernel_rfl) (by decide)
instance : FV Tryz.prog 28 1 3 4 true := FV.ofk (ft := 27) Tryz.underlying28 rfl rfl rfl inferInstance
instance : FO Tryz.prog 28 2 7 := FO.of (k := 1) Tryz.underlying28 rfl rfl rfl (by kernel_rfl) (by decide)
instance : FV Tryz.prog 28 2 7 1 false := FV.of1 (ft := 3) Tryz.underlying28 rfl rfl rfl inferInstance
instance : Bd Tryz.prog 29 [(0, 3), (3, 4), (7, 1)] [.int .i64 0, .int .i64 0, .int .i64 0, .int .i64 0, .int .i64 0, .int .i64 0, .int .i64 0, .int .i64 0] := ⟨fun _ => by kernel_rfl⟩
instance : FO Tryz.prog 29 0 0 := FO.of (k := 3) Tryz.underlying29 rfl rfl rfl (by kernel_rfl) (by decide)
instance : FV Tryz.prog 29 0 0 3 true := FV.ofk (ft := 25) Tryz.underlying29 rfl rfl rfl inferInstance
instance : FO Tryz.prog 29 1 3 := FO.of (k := 4) Tryz.underlying29 rfl rfl rfl (by kernel_rfl) (by decide)
instance : FV Tryz.prog 29 1 3 4 true := FV.ofk (ft := 27) Tryz.underlying29 rfl rfl rfl inferInstance
instance : FO Tryz.prog 29 2 7 := FO.of (k := 1) Tryz.underlying29 rfl rfl rfl (by kernel_rfl) (by decide)
instance : FV Tryz.prog 29 2 7 1 false := FV.of1 (ft := 3) Tryz.underlying29 rfl rfl rfl inferInstance
instance : Bd Tryz.prog 50 [(0, 1), (1, 1)] [.string ByteArray.empty, .int .i64 0] := ⟨fun _ => by kernel_rfl⟩
instance : FO Tryz.prog 50 0 0 := FO.of (k := 1) Tryz.underlying50 rfl rfl rfl (by kernel_rfl) (by decide)
instance : FV Tryz.prog 50 0 0 1 false := FV.of1 (ft := 9) Tryz.underlying50 rfl rfl rfl inferInstance
instance : FO Tryz.prog 50 1 1 := FO.of (k := 1) Tryz.underlying50 rfl rfl rfl (by kernel_rfl) (by decide)
instance : FV Tryz.prog 50 1 1 1 false := FV.of1 (ft := 3) Tryz.underlying50 rfl rfl rfl inferInstance
instance : Bd Tryz.prog 51 [(0, 1), (1, 1)] [.string ByteArray.empty, .int .i64 0] := ⟨fun _ => by kernel_rfl⟩
instance : FO Tryz.prog 51 0 0 := FO.of (k := 1) Tryz.underlying51 rfl rfl rfl (by kernel_rfl) (by decide)
instance : FV Tryz.prog 51 0 0 1 false := FV.of1 (ft := 9) Tryz.underlying51 rfl rfl rfl inferInstance
instance : FO Tryz.prog 51 1 1 := FO.of (k := 1) Tryz.underlying51 rfl rfl rfl (by kernel_rfl) (by decide)
instance : FV Tryz.prog 51 1 1 1 false := FV.of1 (ft := 3) Tryz.underlying51 rfl rfl rfl inferInstance
instance : Bd Tryz.prog 78 [(0, 8), (8, 1), (9, 1)] [.int .i64 0, .int .i64 0, .int .i64 0, .int .i64 0, .int .i64 0, .int .i64 0, .int .i64 0, .int .i64 0, .int .i64 0, .int .i64 0] := ⟨fun _ => by kernel_rfl⟩
instance : FO Tryz.prog 78 0 0 := FO.of (k := 8) Tryz.underlying78 rfl rfl rfl (by kernel_rfl) (by decide)
instance : FV Tryz.prog 78 0 0 8 true := FV.ofk (ft := 29) Tryz.underlying78 rfl rfl rfl inferInstance
instance : FO Tryz.prog 78 1 8 := FO.of (k := 1) Tryz.underlying78 rfl rfl rfl (by kernel_rfl) (by decide)
instance : FV Tryz.prog 78 1 8 1 false := FV.of1 (ft := 3) Tryz.underlying78 rfl rfl rfl inferInstance
instance : FO Tryz.prog 78 2 9 := FO.of (k := 1) Tryz.underlying78 rfl rfl rfl (by kernel_rfl) (by decide)
instance : FV Tryz.prog 78 2 9 1 false := FV.of1 (ft := 3) Tryz.underlying78 rfl rfl rfl inferInstance
instance : Bd Tryz.prog 79 [(0, 8), (8, 1), (9, 1)] [.int .i64 0, .int .i64 0, .int .i64 0, .int .i64 0, .int .i64 0, .int .i64 0, .int .i64 0, .int .i64 0, .int .i64 0, .int .i64 0] := ⟨fun _ => by kernel_rfl⟩
instance : FO Tryz.prog 79 0 0 := FO.of (k := 8) Tryz.underlying79 rfl rfl rfl (by kernel_rfl) (by decide)
instance : FV Tryz.prog 79 0 0 8 true := FV.ofk (ft := 29) Tryz.underlying79 rfl rfl rfl inferInstance
instance : FO Tryz.prog 79 1 8 := FO.of (k := 1) Tryz.underlying79 rfl rfl rfl (by kernel_rfl) (by decide)
instance : FV Tryz.prog 79 1 8 1 false := FV.of1 (ft := 3) Tryz.underlying79 rfl rfl rfl inferInstance
instance : FO Tryz.prog 79 2 9 := FO.of (k := 1) Tryz.underlying79 rfl rfl rfl (by kernel_rfl) (by decide)
instance : FV Tryz.prog 79 2 9 1 false := FV.of1 (ft := 3) Tryz.underlying79 rfl rfl rfl inferInstance
instance : Bd Tryz.prog 85 [(0, 1), (1, 1)] [.slice none 0 0, .int .i64 0] := ⟨fun _ => by kernel_rfl⟩
instance : FO Tryz.prog 85 0 0 := FO.of (k := 1) Tryz.underlying85 rfl rfl rfl (by kernel_rfl) (by decide)
instance : FV Tryz.prog 85 0 0 1 false := FV.of1 (ft := 22) Tryz.underlying85 rfl rfl rfl inferInstance
instance : FO Tryz.prog 85 1 1 := FO.of (k := 1) Tryz.underlying85 rfl rfl rfl (by kernel_rfl) (by decide)
instance : FV Tryz.prog 85 1 1 1 false := FV.of1 (ft := 3) Tryz.underlying85 rfl rfl rfl inferInstance
instance : Bd Tryz.prog 86 [(0, 1), (1, 1)] [.slice none 0 0, .int .i64 0] := ⟨fun _ => by kernel_rfl⟩
instance : FO Tryz.prog 86 0 0 := FO.of (k := 1) Tryz.underlying86 rfl rfl rfl (by kernel_rfl) (by decide)
instance : FV Tryz.prog 86 0 0 1 false := FV.of1 (ft := 22) Tryz.underlying86 rfl rfl rfl inferInstance
instance : FO Tryz.prog 86 1 1 := FO.of (k := 1) Tryz.underlying86 rfl rfl rfl (by kernel_rfl) (by decide)
instance : FV Tryz.prog 86 1 1 1 false := FV.of1 (ft := 3) Tryz.underlying86 rfl rfl rfl inferInstance
instance : Bd Tryz.prog 119 [(0, 3), (3, 1), (4, 4), (8, 1)] [.int .i64 0, .int .i64 0, .int .i64 0, .int .i64 0, .int .i64 0, .int .i64 0, .int .i64 0, .int .i64 0, .int .i64 0] := ⟨fun _ => by kernel_rfl⟩
instance : FO Tryz.prog 119 0 0 := FO.of (k := 3) Tryz.underlying119 rfl rfl rfl (by kernel_rfl) (by decide)
instance : FV Tryz.prog 119 0 0 3 true := FV.ofk (ft := 25) Tryz.underlying119 rfl rfl rfl inferInstance
instance : FO Tryz.prog 119 1 3 := FO.of (k := 1) Tryz.underlying119 rfl rfl rfl (by kernel_rfl) (by decide)
instance : FV Tryz.prog 119 1 3 1 false := FV.of1 (ft := 3) Tryz.underlying119 rfl rfl rfl inferInstance
instance : FO Tryz.prog 119 2 4 := FO.of (k := 4) Tryz.underlying119 rfl rfl rfl (by kernel_rfl) (by decide)
instance : FV Tryz.prog 119 2 4 4 true := FV.ofk (ft := 27) Tryz.underlying119 rfl rfl rfl inferInstance
instance : FO Tryz.prog 119 3 8 := FO.of (k := 1) Tryz.underlying119 rfl rfl rfl (by kernel_rfl) (by decide)
instance : FV Tryz.prog 119 3 8 1 false := FV.of1 (ft := 3) Tryz.underlying119 rfl rfl rfl inferInstance
instance : Bd Tryz.prog 120 [(0, 3), (3, 1), (4, 4), (8, 1)] [.int .i64 0, .int .i64 0, .int .i64 0, .int .i64 0, .int .i64 0, .int .i64 0, .int .i64 0, .int .i64 0, .int .i64 0] := ⟨fun _ => by kernel_rfl⟩
instance : FO Tryz.prog 120 0 0 := FO.of (k := 3) Tryz.underlying120 rfl rfl rfl (by kernel_rfl) (by decide)
instance : FV Tryz.prog 120 0 0 3 true := FV.ofk (ft := 25) Tryz.underlying120 rfl rfl rfl inferInstance
instance : FO Tryz.prog 120 1 3 := FO.of (k := 1) Tryz.underlying120 rfl rfl rfl (by kernel_rfl) (by decide)
instance : FV Tryz.prog 120 1 3 1 false := FV.of1 (ft := 3) Tryz.underlying120 rfl rfl rfl inferInstance
instance : FO Tryz.prog 120 2 4 := FO.of (k := 4) Tryz.underlying120 rfl rfl rfl (by kernel_rfl) (by decide)
instance : FV Tryz.prog 120 2 4 4 true := FV.ofk (ft := 27) Tryz.underlying120 rfl rfl rfl inferInstance
instance : FO Tryz.prog 120 3 8 := FO.of (k := 1) Tryz.underlying120 rfl rfl rfl (by kernel_rfl) (by decide)
instance : FV Tryz.prog 120 3 8 1 false := FV.of1 (ft := 3) Tryz.underlying120 rfl rfl rfl inferInstance
instance : ArT Tryz.prog 126 3 1 := ⟨_, Tryz.underlying126, by kernel_rfl⟩
instance : Bd Tryz.prog 127 [(0, 1)] [.int .i64 0] := ⟨fun _ => by kernel_rfl⟩
instance : FO Tryz.prog 127 0 0 := FO.of (k := 1) Tryz.underlying127 rfl rfl rfl (by kernel_rfl) (by decide)
instance : FV Tryz.prog 127 0 0 1 false := FV.of1 (ft := 3) Tryz.underlying127 rfl rfl rfl inferInstance
instance : Bd Tryz.prog 128 [(0, 1)] [.int .i64 0] := ⟨fun _ => by kernel_rfl⟩
instance : FO Tryz.prog 128 0 0 := FO.of (k := 1) Tryz.underlying128 rfl rfl rfl (by kernel_rfl) (by decide)
instance : FV Tryz.prog 128 0 0 1 false := FV.of1 (ft := 3) Tryz.underlying128 rfl rfl rfl inferInstance
instance : Bd Tryz.prog 132 [(0, 1), (1, 1), (2, 1)] [.pointer none, .pointer none, .int .u64 0] := ⟨fun _ => by kernel_rfl⟩
instance : FO Tryz.prog 132 0 0 := FO.of (k := 1) Tryz.underlying132 rfl rfl rfl (by kernel_rfl) (by decide)
instance : FV Tryz.prog 132 0 0 1 false := FV.of1 (ft := 17) Tryz.underlying132 rfl rfl rfl inferInstance
instance : FO Tryz.prog 132 1 1 := FO.of (k := 1) Tryz.underlying132 rfl rfl rfl (by kernel_rfl) (by decide)
instance : FV Tryz.prog 132 1 1 1 false := FV.of1 (ft := 130) Tryz.underlying132 rfl rfl rfl inferInstance
instance : FO Tryz.prog 132 2 2 := FO.of (k := 1) Tryz.underlying132 rfl rfl rfl (by kernel_rfl) (by decide)
instance : FV Tryz.prog 132 2 2 1 false := FV.of1 (ft := 131) Tryz.underlying132 rfl rfl rfl inferInstance
instance : Bd Tryz.prog 133 [(0, 1), (1, 1), (2, 1)] [.pointer none, .pointer none, .int .u64 0] := ⟨fun _ => by kernel_rfl⟩
instance : FO Tryz.prog 133 0 0 := FO.of (k := 1) Tryz.underlying133 rfl rfl rfl (by kernel_rfl) (by decide)
instance : FV Tryz.prog 133 0 0 1 false := FV.of1 (ft := 17) Tryz.underlying133 rfl rfl rfl inferInstance
instance : FO Tryz.prog 133 1 1 := FO.of (k := 1) Tryz.underlying133 rfl rfl rfl (by kernel_rfl) (by decide)
instance : FV Tryz.prog 133 1 1 1 false := FV.of1 (ft := 130) Tryz.underlying133 rfl rfl rfl inferInstance
instance : FO Tryz.prog 133 2 2 := FO.of (k := 1) Tryz.underlying133 rfl rfl rfl (by kernel_rfl) (by decide)
instance : FV Tryz.prog 133 2 2 1 false := FV.of1 (ft := 131) Tryz.underlying133 rfl rfl rfl inferInstance
instance : Bd Tryz.prog 143 [(0, 1), (1, 1), (2, 1)] [.int .i64 0, .int .i64 0, .int .i64 0] := ⟨fun _ => by kernel_rfl⟩
instance : FO Tryz.prog 143 0 0 := FO.of (k := 1) Tryz.underlying143 rfl rfl rfl (by kernel_rfl) (by decide)
instance : FV Tryz.prog 143 0 0 1 false := FV.of1 (ft := 3) Tryz.underlying143 rfl rfl rfl inferInstance
instance : FO Tryz.prog 143 1 1 := FO.of (k := 1) Tryz.underlying143 rfl rfl rfl (by kernel_rfl) (by decide)
instance : FV Tryz.prog 143 1 1 1 false := FV.of1 (ft := 3) Tryz.underlying143 rfl rfl rfl inferInstance
instance : FO Tryz.prog 143 2 2 := FO.of (k := 1) Tryz.underlying143 rfl rfl rfl (by kernel_rfl) (by decide)
instance : FV Tryz.prog 143 2 2 1 false := FV.of1 (ft := 3) Tryz.underlying143 rfl rfl rfl inferInstance
instance : Bd Tryz.prog 144 [(0, 1), (1, 1), (2, 1)] [.int .i64 0, .int .i64 0, .int .i64 0] := ⟨fun _ => by kernel_rfl⟩
instance : FO Tryz.prog 144 0 0 := FO.of (k := 1) Tryz.underlying144 rfl rfl rfl (by kernel_rfl) (by decide)
instance : FV Tryz.prog 144 0 0 1 false := FV.of1 (ft := 3) Tryz.underlying144 rfl rfl rfl inferInstance
instance : FO Tryz.prog 144 1 1 := FO.of (k := 1) Tryz.underlying144 rfl rfl rfl (by kernel_rfl) (by decide)
instance : FV Tryz.prog 144 1 1 1 false := FV.of1 (ft := 3) Tryz.underlying144 rfl rfl rfl inferInstance
instance : FO Tryz.prog 144 2 2 := FO.of (k := 1) Tryz.underlying144 rfl rfl rfl (by kernel_rfl) (by decide)
instance : FV Tryz.prog 144 2 2 1 false := FV.of1 (ft := 3) Tryz.underlying144 rfl rfl rfl inferInstance
instance : ArT Tryz.prog 158 12 1 := ⟨_, Tryz.underlying158, by kernel_rfl⟩
instance : Bd Tryz.prog 162 [(0, 1)] [.pointer none] := ⟨fun _ => by kernel_rfl⟩
instance : FO Tryz.prog 162 0 0 := FO.of (k := 1) Tryz.underlying162 rfl rfl rfl (by kernel_rfl) (by decide)
instance : FV Tryz.prog 162 0 0 1 false := FV.of1 (ft := 17) Tryz.underlying162 rfl rfl rfl inferInstance
instance : Bd Tryz.prog 163 [(0, 1)] [.pointer none] := ⟨fun _ => by kernel_rfl⟩
instance : FO Tryz.prog 163 0 0 := FO.of (k := 1) Tryz.underlying163 rfl rfl rfl (by kernel_rfl) (by decide)
instance : FV Tryz.prog 163 0 0 1 false := FV.of1 (ft := 17) Tryz.underlying163 rfl rfl rfl inferInstance
instance : Bd Tryz.prog 184 [(0, 1), (1, 1)] [.int .u8 0, .int .u8 0] := ⟨fun _ => by kernel_rfl⟩
instance : FO Tryz.prog 184 0 0 := FO.of (k := 1) Tryz.underlying184 rfl rfl rfl (by kernel_rfl) (by decide)
instance : FV Tryz.prog 184 0 0 1 false := FV.of1 (ft := 5) Tryz.underlying184 rfl rfl rfl inferInstance
instance : FO Tryz.prog 184 1 1 := FO.of (k := 1) Tryz.underlying184 rfl rfl rfl (by kernel_rfl) (by decide)
instance : FV Tryz.prog 184 1 1 1 false := FV.of1 (ft := 5) Tryz.underlying184 rfl rfl rfl inferInstance
instance : Bd Tryz.prog 185 [(0, 1), (1, 1)] [.int .u8 0, .int .u8 0] := ⟨fun _ => by kernel_rfl⟩
instance : FO Tryz.prog 185 0 0 := FO.of (k := 1) Tryz.underlying185 rfl rfl rfl (by kernel_rfl) (by decide)
instance : FV Tryz.prog 185 0 0 1 false := FV.of1 (ft := 5) Tryz.underlying185 rfl rfl rfl inferInstance
instance : FO Tryz.prog 185 1 1 := FO.of (k := 1) Tryz.underlying185 rfl rfl rfl (by kernel_rfl) (by decide)
instance : FV Tryz.prog 185 1 1 1 false := FV.of1 (ft := 5) Tryz.underlying185 rfl rfl rfl inferInstance
instance : ArT Tryz.prog 186 16 2 := ⟨_, Tryz.underlying186, by kernel_rfl⟩
instance : Bd Tryz.prog 188 [(0, 1), (1, 1), (2, 1), (3, 1)] [.pointer none, .pointer none, .pointer none, .string ByteArray.empty] := ⟨fun _ => by kernel_rfl⟩
instance : FO Tryz.prog 188 0 0 := FO.of (k := 1) Tryz.underlying188 rfl rfl rfl (by kernel_rfl) (by decide)
instance : FV Tryz.prog 188 0 0 1 false := FV.of1 (ft := 17) Tryz.underlying188 rfl rfl rfl inferInstance
instance : FO Tryz.prog 188 1 1 := FO.of (k := 1) Tryz.underlying188 rfl rfl rfl (by kernel_rfl) (by decide)
instance : FV Tryz.prog 188 1 1 1 false := FV.of1 (ft := 17) Tryz.underlying188 rfl rfl rfl inferInstance
instance : FO Tryz.prog 188 2 2 := FO.of (k := 1) Tryz.underlying188 rfl rfl rfl (by kernel_rfl) (by decide)
instance : FV Tryz.prog 188 2 2 1 false := FV.of1 (ft := 17) Tryz.underlying188 rfl rfl rfl inferInstance
instance : FO Tryz.prog 188 3 3 := FO.of (k := 1) Tryz.underlying188 rfl rfl rfl (by kernel_rfl) (by decide)
instance : FV Tryz.prog 188 3 3 1 false := FV.of1 (ft := 9) Tryz.underlying188 rfl rfl rfl inferInstance
instance : Bd Tryz.prog 189 [(0, 1), (1, 1), (2, 1), (3, 1)] [.pointer none, .pointer none, .pointer none, .string ByteArray.empty] := ⟨fun _ => by kernel_rfl⟩
instance : FO Tryz.prog 189 0 0 := FO.of (k := 1) Tryz.underlying189 rfl rfl rfl (by kernel_rfl) (by decide)
instance : FV Tryz.prog 189 0 0 1 false := FV.of1 (ft := 17) Tryz.underlying189 rfl rfl rfl inferInstance
instance : FO Tryz.prog 189 1 1 := FO.of (k := 1) Tryz.underlying189 rfl rfl rfl (by kernel_rfl) (by decide)
instance : FV Tryz.prog 189 1 1 1 false := FV.of1 (ft := 17) Tryz.underlying189 rfl rfl rfl inferInstance
instance : FO Tryz.prog 189 2 2 := FO.of (k := 1) Tryz.underlying189 rfl rfl rfl (by kernel_rfl) (by decide)
instance : FV Tryz.prog 189 2 2 1 false := FV.of1 (ft := 17) Tryz.underlying189 rfl rfl rfl inferInstance
instance : FO Tryz.prog 189 3 3 := FO.of (k := 1) Tryz.underlying189 rfl rfl rfl (by kernel_rfl) (by decide)
instance : FV Tryz.prog 189 3 3 1 false := FV.of1 (ft := 9) Tryz.underlying189 rfl rfl rfl inferInstance
instance : ArT Tryz.prog 190 0 1 := ⟨_, Tryz.underlying190, by kernel_rfl⟩
instance : Bd Tryz.prog 191 [(0, 0)] [] := ⟨fun _ => by kernel_rfl⟩
instance : Bd Tryz.prog 192 [(0, 0)] [] := ⟨fun _ => by kernel_rfl⟩
instance : Bd Tryz.prog 200 [(0, 1), (1, 1), (2, 1), (3, 1), (4, 1), (5, 1), (6, 1), (7, 1), (8, 1), (9, 1), (10, 1)] [.int .u64 0, .int .u64 0, .int .u32 0, .int .u8 0, .int .u8 0, .int .u8 0, .int .u8 0, .nilFunc, .pointer none, .int .i32 0, .int .i32 0] := ⟨fun _ => by kernel_rfl⟩
instance : FO Tryz.prog 200 0 0 := FO.of (k := 1) Tryz.underlying200 rfl rfl rfl (by kernel_rfl) (by decide)
instance : FV Tryz.prog 200 0 0 1 false := FV.of1 (ft := 12) Tryz.underlying200 rfl rfl rfl inferInstance
instance : FO Tryz.prog 200 1 1 := FO.of (k := 1) Tryz.underlying200 rfl rfl rfl (by kernel_rfl) (by decide)
instance : FV Tryz.prog 200 1 1 1 false := FV.of1 (ft := 12) Tryz.underlying200 rfl rfl rfl inferInstance
instance : FO Tryz.prog 200 2 2 := FO.of (k := 1) Tryz.underlying200 rfl rfl rfl (by kernel_rfl) (by decide)
instance : FV Tryz.prog 200 2 2 1 false := FV.of1 (ft := 194) Tryz.underlying200 rfl rfl rfl inferInstance
instance : FO Tryz.prog 200 3 3 := FO.of (k := 1) Tryz.underlying200 rfl rfl rfl (by kernel_rfl) (by decide)
instance : FV Tryz.prog 200 3 3 1 false := FV.of1 (ft := 195) Tryz.underlying200 rfl rfl rfl inferInstance
instance : FO Tryz.prog 200 4 4 := FO.of (k := 1) Tryz.underlying200 rfl rfl rfl (by kernel_rfl) (by decide)
instance : FV Tryz.prog 200 4 4 1 false := FV.of1 (ft := 5) Tryz.underlying200 rfl rfl rfl inferInstance
instance : FO Tryz.prog 200 5 5 := FO.of (k := 1) Tryz.underlying200 rfl rfl rfl (by kernel_rfl) (by decide)
instance : FV Tryz.prog 200 5 5 1 false := FV.of1 (ft := 5) Tryz.underlying200 rfl rfl rfl inferInstance
instance : FO Tryz.prog 200 6 6 := FO.of (k := 1) Tryz.underlying200 rfl rfl rfl (by kernel_rfl) (by decide)
instance : FV Tryz.prog 200 6 6 1 false := FV.of1 (ft := 138) Tryz.underlying200 rfl rfl rfl inferInstance
instance : FO Tryz.prog 200 7 7 := FO.of (k := 1) Tryz.underlying200 rfl rfl rfl (by kernel_rfl) (by decide)
instance : FV Tryz.prog 200 7 7 1 false := FV.of1 (ft := 196) Tryz.underlying200 rfl rfl rfl inferInstance
instance : FO Tryz.prog 200 8 8 := FO.of (k := 1) Tryz.underlying200 rfl rfl rfl (by kernel_rfl) (by decide)
instance : FV Tryz.prog 200 8 8 1 false := FV.of1 (ft := 197) Tryz.underlying200 rfl rfl rfl inferInstance
instance : FO Tryz.prog 200 9 9 := FO.of (k := 1) Tryz.underlying200 rfl rfl rfl (by kernel_rfl) (by decide)
instance : FV Tryz.prog 200 9 9 1 false := FV.of1 (ft := 198) Tryz.underlying200 rfl rfl rfl inferInstance
instance : FO Tryz.prog 200 10 10 := FO.of (k := 1) Tryz.underlying200 rfl rfl rfl (by kernel_rfl) (by decide)
instance : FV Tryz.prog 200 10 10 1 false := FV.of1 (ft := 199) Tryz.underlying200 rfl rfl rfl inferInstance
instance : Bd Tryz.prog 201 [(0, 1), (1, 1), (2, 1), (3, 1), (4, 1), (5, 1), (6, 1), (7, 1), (8, 1), (9, 1), (10, 1)] [.int .u64 0, .int .u64 0, .int .u32 0, .int .u8 0, .int .u8 0, .int .u8 0, .int .u8 0, .nilFunc, .pointer none, .int .i32 0, .int .i32 0] := ⟨fun _ => by kernel_rfl⟩
instance : FO Tryz.prog 201 0 0 := FO.of (k := 1) Tryz.underlying201 rfl rfl rfl (by kernel_rfl) (by decide)
instance : FV Tryz.prog 201 0 0 1 false := FV.of1 (ft := 12) Tryz.underlying201 rfl rfl rfl inferInstance
instance : FO Tryz.prog 201 1 1 := FO.of (k := 1) Tryz.underlying201 rfl rfl rfl (by kernel_rfl) (by decide)
instance : FV Tryz.prog 201 1 1 1 false := FV.of1 (ft := 12) Tryz.underlying201 rfl rfl rfl inferInstance
instance : FO Tryz.prog 201 2 2 := FO.of (k := 1) Tryz.underlying201 rfl rfl rfl (by kernel_rfl) (by decide)
instance : FV Tryz.prog 201 2 2 1 false := FV.of1 (ft := 194) Tryz.underlying201 rfl rfl rfl inferInstance
instance : FO Tryz.prog 201 3 3 := FO.of (k := 1) Tryz.underlying201 rfl rfl rfl (by kernel_rfl) (by decide)
instance : FV Tryz.prog 201 3 3 1 false := FV.of1 (ft := 195) Tryz.underlying201 rfl rfl rfl inferInstance
instance : FO Tryz.prog 201 4 4 := FO.of (k := 1) Tryz.underlying201 rfl rfl rfl (by kernel_rfl) (by decide)
instance : FV Tryz.prog 201 4 4 1 false := FV.of1 (ft := 5) Tryz.underlying201 rfl rfl rfl inferInstance
instance : FO Tryz.prog 201 5 5 := FO.of (k := 1) Tryz.underlying201 rfl rfl rfl (by kernel_rfl) (by decide)
instance : FV Tryz.prog 201 5 5 1 false := FV.of1 (ft := 5) Tryz.underlying201 rfl rfl rfl inferInstance
instance : FO Tryz.prog 201 6 6 := FO.of (k := 1) Tryz.underlying201 rfl rfl rfl (by kernel_rfl) (by decide)
instance : FV Tryz.prog 201 6 6 1 false := FV.of1 (ft := 138) Tryz.underlying201 rfl rfl rfl inferInstance
instance : FO Tryz.prog 201 7 7 := FO.of (k := 1) Tryz.underlying201 rfl rfl rfl (by kernel_rfl) (by decide)
instance : FV Tryz.prog 201 7 7 1 false := FV.of1 (ft := 196) Tryz.underlying201 rfl rfl rfl inferInstance
instance : FO Tryz.prog 201 8 8 := FO.of (k := 1) Tryz.underlying201 rfl rfl rfl (by kernel_rfl) (by decide)
instance : FV Tryz.prog 201 8 8 1 false := FV.of1 (ft := 197) Tryz.underlying201 rfl rfl rfl inferInstance
instance : FO Tryz.prog 201 9 9 := FO.of (k := 1) Tryz.underlying201 rfl rfl rfl (by kernel_rfl) (by decide)
instance : FV Tryz.prog 201 9 9 1 false := FV.of1 (ft := 198) Tryz.underlying201 rfl rfl rfl inferInstance
instance : FO Tryz.prog 201 10 10 := FO.of (k := 1) Tryz.underlying201 rfl rfl rfl (by kernel_rfl) (by decide)
instance : FV Tryz.prog 201 10 10 1 false := FV.of1 (ft := 199) Tryz.underlying201 rfl rfl rfl inferInstance
instance : Bd Tryz.prog 204 [(0, 1), (1, 1)] [.string ByteArray.empty, .int .u8 0] := ⟨fun _ => by kernel_rfl⟩
instance : FO Tryz.prog 204 0 0 := FO.of (k := 1) Tryz.underlying204 rfl rfl rfl (by kernel_rfl) (by decide)
instance : FV Tryz.prog 204 0 0 1 false := FV.of1 (ft := 9) Tryz.underlying204 rfl rfl rfl inferInstance
instance : FO Tryz.prog 204 1 1 := FO.of (k := 1) Tryz.underlying204 rfl rfl rfl (by kernel_rfl) (by decide)
instance : FV Tryz.prog 204 1 1 1 false := FV.of1 (ft := 138) Tryz.underlying204 rfl rfl rfl inferInstance
instance : Bd Tryz.prog 205 [(0, 1), (1, 1)] [.string ByteArray.empty, .int .u8 0] := ⟨fun _ => by kernel_rfl⟩
instance : FO Tryz.prog 205 0 0 := FO.of (k := 1) Tryz.underlying205 rfl rfl rfl (by kernel_rfl) (by decide)
instance : FV Tryz.prog 205 0 0 1 false := FV.of1 (ft := 9) Tryz.underlying205 rfl rfl rfl inferInstance
instance : FO Tryz.prog 205 1 1 := FO.of (k := 1) Tryz.underlying205 rfl rfl rfl (by kernel_rfl) (by decide)
instance : FV Tryz.prog 205 1 1 1 false := FV.of1 (ft := 138) Tryz.underlying205 rfl rfl rfl inferInstance
instance : Bd Tryz.prog 209 [(0, 1), (1, 1), (2, 1), (3, 1), (4, 1)] [.int .i32 0, .int .u16 0, .int .u16 0, .int .u32 0, .int .u32 0] := ⟨fun _ => by kernel_rfl⟩
instance : FO Tryz.prog 209 0 0 := FO.of (k := 1) Tryz.underlying209 rfl rfl rfl (by kernel_rfl) (by decide)
instance : FV Tryz.prog 209 0 0 1 false := FV.of1 (ft := 198) Tryz.underlying209 rfl rfl rfl inferInstance
instance : FO Tryz.prog 209 1 1 := FO.of (k := 1) Tryz.underlying209 rfl rfl rfl (by kernel_rfl) (by decide)
instance : FV Tryz.prog 209 1 1 1 false := FV.of1 (ft := 208) Tryz.underlying209 rfl rfl rfl inferInstance
instance : FO Tryz.prog 209 2 2 := FO.of (k := 1) Tryz.underlying209 rfl rfl rfl (by kernel_rfl) (by decide)
instance : FV Tryz.prog 209 2 2 1 false := FV.of1 (ft := 208) Tryz.underlying209 rfl rfl rfl inferInstance
instance : FO Tryz.prog 209 3 3 := FO.of (k := 1) Tryz.underlying209 rfl rfl rfl (by kernel_rfl) (by decide)
instance : FV Tryz.prog 209 3 3 1 false := FV.of1 (ft := 194) Tryz.underlying209 rfl rfl rfl inferInstance
instance : FO Tryz.prog 209 4 4 := FO.of (k := 1) Tryz.underlying209 rfl rfl rfl (by kernel_rfl) (by decide)
instance : FV Tryz.prog 209 4 4 1 false := FV.of1 (ft := 194) Tryz.underlying209 rfl rfl rfl inferInstance
instance : Bd Tryz.prog 210 [(0, 1), (1, 1), (2, 1), (3, 1), (4, 1)] [.int .i32 0, .int .u16 0, .int .u16 0, .int .u32 0, .int .u32 0] := ⟨fun _ => by kernel_rfl⟩
instance : FO Tryz.prog 210 0 0 := FO.of (k := 1) Tryz.underlying210 rfl rfl rfl (by kernel_rfl) (by decide)
instance : FV Tryz.prog 210 0 0 1 false := FV.of1 (ft := 198) Tryz.underlying210 rfl rfl rfl inferInstance
instance : FO Tryz.prog 210 1 1 := FO.of (k := 1) Tryz.underlying210 rfl rfl rfl (by kernel_rfl) (by decide)
instance : FV Tryz.prog 210 1 1 1 false := FV.of1 (ft := 208) Tryz.underlying210 rfl rfl rfl inferInstance
instance : FO Tryz.prog 210 2 2 := FO.of (k := 1) Tryz.underlying210 rfl rfl rfl (by kernel_rfl) (by decide)
instance : FV Tryz.prog 210 2 2 1 false := FV.of1 (ft := 208) Tryz.underlying210 rfl rfl rfl inferInstance
instance : FO Tryz.prog 210 3 3 := FO.of (k := 1) Tryz.underlying210 rfl rfl rfl (by kernel_rfl) (by decide)
instance : FV Tryz.prog 210 3 3 1 false := FV.of1 (ft := 194) Tryz.underlying210 rfl rfl rfl inferInstance
instance : FO Tryz.prog 210 4 4 := FO.of (k := 1) Tryz.underlying210 rfl rfl rfl (by kernel_rfl) (by decide)
instance : FV Tryz.prog 210 4 4 1 false := FV.of1 (ft := 194) Tryz.underlying210 rfl rfl rfl inferInstance
instance : Bd Tryz.prog 213 [(0, 1), (1, 1), (2, 1), (3, 1)] [.int .i32 0, .int .i32 0, .int .i32 0, .int .i32 0] := ⟨fun _ => by kernel_rfl⟩
instance : FO Tryz.prog 213 0 0 := FO.of (k := 1) Tryz.underlying213 rfl rfl rfl (by kernel_rfl) (by decide)
instance : FV Tryz.prog 213 0 0 1 false := FV.of1 (ft := 198) Tryz.underlying213 rfl rfl rfl inferInstance
instance : FO Tryz.prog 213 1 1 := FO.of (k := 1) Tryz.underlying213 rfl rfl rfl (by kernel_rfl) (by decide)
instance : FV Tryz.prog 213 1 1 1 false := FV.of1 (ft := 199) Tryz.underlying213 rfl rfl rfl inferInstance
instance : FO Tryz.prog 213 2 2 := FO.of (k := 1) Tryz.underlying213 rfl rfl rfl (by kernel_rfl) (by decide)
instance : FV Tryz.prog 213 2 2 1 false := FV.of1 (ft := 212) Tryz.underlying213 rfl rfl rfl inferInstance
instance : FO Tryz.prog 213 3 3 := FO.of (k := 1) Tryz.underlying213 rfl rfl rfl (by kernel_rfl) (by decide)
instance : FV Tryz.prog 213 3 3 1 false := FV.of1 (ft := 212) Tryz.underlying213 rfl rfl rfl inferInstance
instance : Bd Tryz.prog 214 [(0, 1), (1, 1), (2, 1), (3, 1)] [.int .i32 0, .int .i32 0, .int .i32 0, .int .i32 0] := ⟨fun _ => by kernel_rfl⟩
instance : FO Tryz.prog 214 0 0 := FO.of (k := 1) Tryz.underlying214 rfl rfl rfl (by kernel_rfl) (by decide)
instance : FV Tryz.prog 214 0 0 1 false := FV.of1 (ft := 198) Tryz.underlying214 rfl rfl rfl inferInstance
instance : FO Tryz.prog 214 1 1 := FO.of (k := 1) Tryz.underlying214 rfl rfl rfl (by kernel_rfl) (by decide)
instance : FV Tryz.prog 214 1 1 1 false := FV.of1 (ft := 199) Tryz.underlying214 rfl rfl rfl inferInstance
instance : FO Tryz.prog 214 2 2 := FO.of (k := 1) Tryz.underlying214 rfl rfl rfl (by kernel_rfl) (by decide)
instance : FV Tryz.prog 214 2 2 1 false := FV.of1 (ft := 212) Tryz.underlying214 rfl rfl rfl inferInstance
instance : FO Tryz.prog 214 3 3 := FO.of (k := 1) Tryz.underlying214 rfl rfl rfl (by kernel_rfl) (by decide)
instance : FV Tryz.prog 214 3 3 1 false := FV.of1 (ft := 212) Tryz.underlying214 rfl rfl rfl inferInstance
instance : Ent Tryz.prog 2 := .of Tryz.func2 (by kernel_rfl) rfl
instance : Ent Tryz.prog 3 := .of Tryz.func3 (by kernel_rfl) rfl
instance : Ent Tryz.prog 4 := .of Tryz.func4 (by kernel_rfl) rfl
instance : Ent Tryz.prog 5 := .of Tryz.func5 (by kernel_rfl) rfl
instance : Ent Tryz.prog 6 := .of Tryz.func6 (by kernel_rfl) rfl
instance : Ent Tryz.prog 7 := .of Tryz.func7 (by kernel_rfl) rfl
instance : Ent Tryz.prog 8 := .of Tryz.func8 (by kernel_rfl) rfl
instance : Ent Tryz.prog 9 := .of Tryz.func9 (by kernel_rfl) rfl
instance : Ent Tryz.prog 10 := .of Tryz.func10 (by kernel_rfl) rfl
instance : Ent Tryz.prog 11 := .of Tryz.func11 (by kernel_rfl) rfl
instance : Ent Tryz.prog 12 := .of Tryz.func12 (by kernel_rfl) rfl
instance : Ent Tryz.prog 13 := .of Tryz.func13 (by kernel_rfl) rfl
instance : Ent Tryz.prog 14 := .of Tryz.func14 (by kernel_rfl) rfl
instance : Ent Tryz.prog 15 := .of Tryz.func15 (by kernel_rfl) rfl
instance : Ent Tryz.prog 16 := .of Tryz.func16 (by kernel_rfl) rfl
instance : Ent Tryz.prog 17 := .of Tryz.func17 (by kernel_rfl) rfl
instance : Ent Tryz.prog 18 := .of Tryz.func18 (by kernel_rfl) rfl
instance : Ent Tryz.prog 19 := .of Tryz.func19 (by kernel_rfl) rfl
instance : Ent Tryz.prog 20 := .of Tryz.func20 (by kernel_rfl) rfl
instance : Ent Tryz.prog 21 := .of Tryz.func21 (by kernel_rfl) rfl
instance : Ent Tryz.prog 22 := .of Tryz.func22 (by kernel_rfl) rfl
instance : Ent Tryz.prog 23 := .of Tryz.func23 (by kernel_rfl) rfl
instance : Ent Tryz.prog 24 := .of Tryz.func24 (by kernel_rfl) rfl
instance : Ent Tryz.prog 25 := .of Tryz.func25 (by kernel_rfl) rfl
instance : Ent Tryz.prog 26 := .of Tryz.func26 (by kernel_rfl) rfl
instance : Ent Tryz.prog 27 := .of Tryz.func27 (by kernel_rfl) rfl
instance : Ent Tryz.prog 28 := .of Tryz.func28 (by kernel_rfl) rfl
instance : Ent Tryz.prog 29 := .of Tryz.func29 (by kernel_rfl) rfl
instance : Ent Tryz.prog 30 := .of Tryz.func30 (by kernel_rfl) rfl
instance : Ent Tryz.prog 31 := .of Tryz.func31 (by kernel_rfl) rfl
instance : Ent Tryz.prog 32 := .of Tryz.func32 (by kernel_rfl) rfl
instance : Ent Tryz.prog 33 := .of Tryz.func33 (by kernel_rfl) rfl
instance : Ent Tryz.prog 34 := .of Tryz.func34 (by kernel_rfl) rfl
instance : Ent Tryz.prog 35 := .of Tryz.func35 (by kernel_rfl) rfl
instance : Ent Tryz.prog 36 := .of Tryz.func36 (by kernel_rfl) rfl
instance : Ent Tryz.prog 37 := .of Tryz.func37 (by kernel_rfl) rfl
instance : Ent Tryz.prog 38 := .of Tryz.func38 (by kernel_rfl) rfl
instance : Ent Tryz.prog 39 := .of Tryz.func39 (by kernel_rfl) rfl
instance : Ent Tryz.prog 40 := .of Tryz.func40 (by kernel_rfl) rfl
instance : Ent Tryz.prog 41 := .of Tryz.func41 (by kernel_rfl) rfl
instance : Ent Tryz.prog 42 := .of Tryz.func42 (by kernel_rfl) rfl
instance : Ent Tryz.prog 43 := .of Tryz.func43 (by kernel_rfl) rfl
instance : Ent Tryz.prog 44 := .of Tryz.func44 (by kernel_rfl) rfl
instance : Ent Tryz.prog 45 := .of Tryz.func45 (by kernel_rfl) rfl
instance : Ent Tryz.prog 46 := .of Tryz.func46 (by kernel_rfl) rfl
instance : Ent Tryz.prog 47 := .of Tryz.func47 (by kernel_rfl) rfl
instance : Ent Tryz.prog 48 := .of Tryz.func48 (by kernel_rfl) rfl
instance : Ent Tryz.prog 49 := .of Tryz.func49 (by kernel_rfl) rfl
instance : Ent Tryz.prog 50 := .of Tryz.func50 (by kernel_rfl) rfl
instance : Ent Tryz.prog 51 := .of Tryz.func51 (by kernel_rfl) rfl
instance : Ent Tryz.prog 52 := .of Tryz.func52 (by kernel_rfl) rfl
instance : Ent Tryz.prog 53 := .of Tryz.func53 (by kernel_rfl) rfl
instance : Ent Tryz.prog 54 := .of Tryz.func54 (by kernel_rfl) rfl
instance : Ent Tryz.prog 55 := .of Tryz.func55 (by kernel_rfl) rfl
instance : Ent Tryz.prog 56 := .of Tryz.func56 (by kernel_rfl) rfl
instance : Ent Tryz.prog 57 := .of Tryz.func57 (by kernel_rfl) rfl
instance : Ent Tryz.prog 58 := .of Tryz.func58 (by kernel_rfl) rfl
instance : Ent Tryz.prog 59 := .of Tryz.func59 (by kernel_rfl) rfl
instance : Ent Tryz.prog 60 := .of Tryz.func60 (by kernel_rfl) rfl
instance : Ent Tryz.prog 61 := .of Tryz.func61 (by kernel_rfl) rfl
instance : Ent Tryz.prog 62 := .of Tryz.func62 (by kernel_rfl) rfl
instance : Ent Tryz.prog 63 := .of Tryz.func63 (by kernel_rfl) rfl
instance : Ent Tryz.prog 64 := .of Tryz.func64 (by kernel_rfl) rfl
instance : Ent Tryz.prog 65 := .of Tryz.func65 (by kernel_rfl) rfl
instance : Ent Tryz.prog 66 := .of Tryz.func66 (by kernel_rfl) rfl
instance : Ent Tryz.prog 67 := .of Tryz.func67 (by kernel_rfl) rfl
instance : Ent Tryz.prog 68 := .of Tryz.func68 (by kernel_rfl) rfl
instance : Ent Tryz.prog 69 := .of Tryz.func69 (by kernel_rfl) rfl
instance : Ent Tryz.prog 70 := .of Tryz.func70 (by kernel_rfl) rfl
instance : Ent Tryz.prog 71 := .of Tryz.func71 (by kernel_rfl) rfl
instance : Ent Tryz.prog 72 := .of Tryz.func72 (by kernel_rfl) rfl
instance : Ent Tryz.prog 73 := .of Tryz.func73 (by kernel_rfl) rfl
instance : Ent Tryz.prog 74 := .of Tryz.func74 (by kernel_rfl) rfl
instance : Ent Tryz.prog 75 := .of Tryz.func75 (by kernel_rfl) rfl
instance : Ent Tryz.prog 76 := .of Tryz.func76 (by kernel_rfl) rfl
instance : Ent Tryz.prog 77 := .of Tryz.func77 (by kernel_rfl) rfl
instance : Ent Tryz.prog 78 := .of Tryz.func78 (by kernel_rfl) rfl
instance : Ent Tryz.prog 79 := .of Tryz.func79 (by kernel_rfl) rfl
instance : Ent Tryz.prog 80 := .of Tryz.func80 (by kernel_rfl) rfl
instance : Ent Tryz.prog 81 := .of Tryz.func81 (by kernel_rfl) rfl
instance : Ent Tryz.prog 82 := .of Tryz.func82 (by kernel_rfl) rfl
instance : Ent Tryz.prog 83 := .of Tryz.func83 (by kernel_rfl) rfl
instance : Ent Tryz.prog 84 := .of Tryz.func84 (by kernel_rfl) rfl
instance : Ent Tryz.prog 85 := .of Tryz.func85 (by kernel_rfl) rfl
instance : Ent Tryz.prog 86 := .of Tryz.func86 (by kernel_rfl) rfl
instance : Ent Tryz.prog 87 := .of Tryz.func87 (by kernel_rfl) rfl
instance : Ent Tryz.prog 88 := .of Tryz.func88 (by kernel_rfl) rfl
instance : Ent Tryz.prog 89 := .of Tryz.func89 (by kernel_rfl) rfl
instance : Ent Tryz.prog 90 := .of Tryz.func90 (by kernel_rfl) rfl
instance : Ent Tryz.prog 91 := .of Tryz.func91 (by kernel_rfl) rfl
instance : Ent Tryz.prog 92 := .of Tryz.func92 (by kernel_rfl) rfl
instance : Ent Tryz.prog 96 := .of Tryz.func96 (by kernel_rfl) rfl
instance : Ent Tryz.prog 97 := .of Tryz.func97 (by kernel_rfl) rfl
instance : Ent Tryz.prog 98 := .of Tryz.func98 (by kernel_rfl) rfl
instance : Ent Tryz.prog 99 := .of Tryz.func99 (by kernel_rfl) rfl
instance : Ent Tryz.prog 100 := .of Tryz.func100 (by kernel_rfl) rfl
instance : Ent Tryz.prog 101 := .of Tryz.func101 (by kernel_rfl) rfl
instance : Ent Tryz.prog 102 := .of Tryz.func102 (by kernel_rfl) rfl
instance : Ent Tryz.prog 103 := .of Tryz.func103 (by kernel_rfl) rfl
instance : Ent Tryz.prog 104 := .of Tryz.func104 (by kernel_rfl) rfl
instance : Ent Tryz.prog 105 := .of Tryz.func105 (by kernel_rfl) rfl
instance : Ent Tryz.prog 106 := .of Tryz.func106 (by kernel_rfl) rfl
instance : Ent Tryz.prog 107 := .of Tryz.func107 (by kernel_rfl) rfl
instance : Ent Tryz.prog 108 := .of Tryz.func108 (by kernel_rfl) rfl
instance : Ent Tryz.prog 109 := .of Tryz.func109 (by kernel_rfl) rfl
instance : Ent Tryz.prog 110 := .of Tryz.func110 (by kernel_rfl) rfl
instance : Ent Tryz.prog 111 := .of Tryz.func111 (by kernel_rfl) rfl
instance : Ent Tryz.prog 112 := .of Tryz.func112 (by kernel_rfl) rfl
instance : Ent Tryz.prog 113 := .of Tryz.func113 (by kernel_rfl) rfl
instance : Ent Tryz.prog 114 := .of Tryz.func114 (by kernel_rfl) rfl
instance : Ent Tryz.prog 115 := .of Tryz.func115 (by kernel_rfl) rfl
instance : Ent Tryz.prog 116 := .of Tryz.func116 (by kernel_rfl) rfl
instance : Ent Tryz.prog 117 := .of Tryz.func117 (by kernel_rfl) rfl
instance : Ent Tryz.prog 118 := .of Tryz.func118 (by kernel_rfl) rfl
instance : Ent Tryz.prog 119 := .of Tryz.func119 (by kernel_rfl) rfl
instance : Ent Tryz.prog 120 := .of Tryz.func120 (by kernel_rfl) rfl
instance : Ent Tryz.prog 121 := .of Tryz.func121 (by kernel_rfl) rfl
instance : Ent Tryz.prog 125 := .of Tryz.func125 (by kernel_rfl) rfl
instance : Ent Tryz.prog 126 := .of Tryz.func126 (by kernel_rfl) rfl
instance : Ent Tryz.prog 127 := .of Tryz.func127 (by kernel_rfl) rfl
instance : Ent Tryz.prog 128 := .of Tryz.func128 (by kernel_rfl) rfl
instance : Ent Tryz.prog 129 := .of Tryz.func129 (by kernel_rfl) rfl
instance : Ent Tryz.prog 130 := .of Tryz.func130 (by kernel_rfl) rfl
instance : Ent Tryz.prog 131 := .of Tryz.func131 (by kernel_rfl) rfl
instance : Ent Tryz.prog 132 := .of Tryz.func132 (by kernel_rfl) rfl
instance : Ent Tryz.prog 133 := .of Tryz.func133 (by kernel_rfl) rfl
instance : Ent Tryz.prog 134 := .of Tryz.func134 (by kernel_rfl) rfl
instance : Ent Tryz.prog 135 := .of Tryz.func135 (by kernel_rfl) rfl
instance : Ent Tryz.prog 136 := .of Tryz.func136 (by kernel_rfl) rfl
instance : Ent Tryz.prog 137 := .of Tryz.func137 (by kernel_rfl) rfl
instance : Ent Tryz.prog 138 := .of Tryz.func138 (by kernel_rfl) rfl
instance : Ent Tryz.prog 139 := .of Tryz.func139 (by kernel_rfl) rfl
instance : Ent Tryz.prog 140 := .of Tryz.func140 (by kernel_rfl) rfl
instance : Ent Tryz.prog 141 := .of Tryz.func141 (by kernel_rfl) rfl
instance : Ent Tryz.prog 142 := .of Tryz.func142 (by kernel_rfl) rfl
instance : Ent Tryz.prog 143 := .of Tryz.func143 (by kernel_rfl) rfl
instance : Ent Tryz.prog 145 := .of Tryz.func145 (by kernel_rfl) rfl
instance : Ent Tryz.prog 165 := .of Tryz.func165 (by kernel_rfl) rfl
instance : Ent Tryz.prog 166 := .of Tryz.func166 (by kernel_rfl) rfl
instance : Ent Tryz.prog 167 := .of Tryz.func167 (by kernel_rfl) rfl
instance : Ent Tryz.prog 168 := .of Tryz.func168 (by kernel_rfl) rfl
instance : Ent Tryz.prog 169 := .of Tryz.func169 (by kernel_rfl) rfl
instance : Ent Tryz.prog 195 := .of Tryz.func195 (by kernel_rfl) rfl

end D
end Go.Proofs.YtdafjaimljhcaaaGreatDoor

namespace Go.Proofs.YtdafjaimljhcaaaGreatDoor
set_option linter.unusedVariables false
set_option linter.unusedSimpArgs false
namespace D
open Go.RowKit

instance : Ci Tryz.prog 1 := ⟨_, Tryz.underlying1, rfl⟩
instance : Zv Tryz.prog 1 (.nilFunc) := ⟨by kernel_rfl⟩
instance : Ci Tryz.prog 2 := ⟨_, Tryz.underlying2, rfl⟩
instance : Zv Tryz.prog 2 (.int .i64 0) := ⟨by kernel_rfl⟩
instance : Ci Tryz.prog 3 := ⟨_, Tryz.underlying3, rfl⟩
instance : Zv Tryz.prog 3 (.int .i64 0) := ⟨by kernel_rfl⟩
instance : Ci Tryz.prog 4 := ⟨_, Tryz.underlying4, rfl⟩
instance : Zv Tryz.prog 4 (.bool false) := ⟨by kernel_rfl⟩
instance : U8 Tryz.prog 5 := ⟨Tryz.underlying5⟩
instance : Ci Tryz.prog 5 := ⟨_, Tryz.underlying5, rfl⟩
instance : Zv Tryz.prog 5 (.int .u8 0) := ⟨by kernel_rfl⟩
instance : U8 Tryz.prog 6 := ⟨Tryz.underlying6⟩
instance : Ci Tryz.prog 6 := ⟨_, Tryz.underlying6, rfl⟩
instance : Zv Tryz.prog 6 (.int .u8 0) := ⟨by kernel_rfl⟩
instance : Ci Tryz.prog 7 := ⟨_, Tryz.underlying7, rfl⟩
instance : Zv Tryz.prog 7 (.agg #[.int .i64 0, .int .i64 0, .bool false, .int .u8 0]) := ⟨by kernel_rfl⟩
instance : Ci Tryz.prog 8 := ⟨_, Tryz.underlying8, rfl⟩
instance : Zv Tryz.prog 8 (.agg #[.int .i64 0, .int .i64 0, .bool false, .int .u8 0]) := ⟨by kernel_rfl⟩
instance : Ci Tryz.prog 9 := ⟨_, Tryz.underlying9, rfl⟩
instance : Zv Tryz.prog 9 (.string ByteArray.empty) := ⟨by kernel_rfl⟩
instance : Ci Tryz.prog 10 := ⟨_, Tryz.underlying10, rfl⟩
instance : Zv Tryz.prog 10 (.string ByteArray.empty) := ⟨by kernel_rfl⟩
instance : Ci Tryz.prog 11 := ⟨_, Tryz.underlying11, rfl⟩
instance : Zv Tryz.prog 11 (.string ByteArray.empty) := ⟨by kernel_rfl⟩
instance : Ci Tryz.prog 12 := ⟨_, Tryz.underlying12, rfl⟩
instance : Zv Tryz.prog 12 (.int .u64 0) := ⟨by kernel_rfl⟩
instance : Ci Tryz.prog 13 := ⟨_, Tryz.underlying13, rfl⟩
instance : Zv Tryz.prog 13 (.agg #[.string ByteArray.empty, .int .u64 0]) := ⟨by kernel_rfl⟩
instance : Ci Tryz.prog 14 := ⟨_, Tryz.underlying14, rfl⟩
instance : Zv Tryz.prog 14 (.agg #[.string ByteArray.empty, .int .u64 0]) := ⟨by kernel_rfl⟩
instance : Ci Tryz.prog 15 := ⟨_, Tryz.underlying15, rfl⟩
instance : Zv Tryz.prog 15 (.pointer none) := ⟨by kernel_rfl⟩
instance : Ci Tryz.prog 16 := ⟨_, Tryz.underlying16, rfl⟩
instance : Zv Tryz.prog 16 (.pointer none) := ⟨by kernel_rfl⟩
instance : Ci Tryz.prog 17 := ⟨_, Tryz.underlying17, rfl⟩
instance : Zv Tryz.prog 17 (.pointer none) := ⟨by kernel_rfl⟩
instance : Ci Tryz.prog 18 := ⟨_, Tryz.underlying18, rfl⟩
instance : Zv Tryz.prog 18 (.agg #[.pointer none]) := ⟨by kernel_rfl⟩
instance : Ci Tryz.prog 19 := ⟨_, Tryz.underlying19, rfl⟩
instance : Zv Tryz.prog 19 (.agg #[.pointer none]) := ⟨by kernel_rfl⟩
instance : Zv Tryz.prog 20 (.nilIface) := ⟨by kernel_rfl⟩
instance : Ci Tryz.prog 21 := ⟨_, Tryz.underlying21, rfl⟩
instance : Zv Tryz.prog 21 (.int .i32 0) := ⟨by kernel_rfl⟩
instance : Ap Tryz.prog 22 5 1 1 := ⟨Tryz.underlying22, by kernel_rfl, by decide⟩
instance : Ci Tryz.prog 22 := ⟨_, Tryz.underlying22, rfl⟩
instance : Zv Tryz.prog 22 (.slice none 0 0) := ⟨by kernel_rfl⟩
instance : Ci Tryz.prog 23 := ⟨_, Tryz.underlying23, rfl⟩
instance : Zv Tryz.prog 23 (.nilFunc) := ⟨by kernel_rfl⟩
instance : Ci Tryz.prog 24 := ⟨_, Tryz.underlying24, rfl⟩
instance : Zv Tryz.prog 24 (.agg #[.int .i64 0, .int .i64 0, .int .i64 0]) := ⟨by kernel_rfl⟩
instance : Ci Tryz.prog 25 := ⟨_, Tryz.underlying25, rfl⟩
instance : Zv Tryz.prog 25 (.agg #[.int .i64 0, .int .i64 0, .int .i64 0]) := ⟨by kernel_rfl⟩
instance : Ci Tryz.prog 26 := ⟨_, Tryz.underlying26, rfl⟩
instance : Zv Tryz.prog 26 (.agg #[.int .i64 0, .int .i64 0, .int .i64 0, .int .i64 0]) := ⟨by kernel_rfl⟩
instance : Ci Tryz.prog 27 := ⟨_, Tryz.underlying27, rfl⟩
instance : Zv Tryz.prog 27 (.agg #[.int .i64 0, .int .i64 0, .int .i64 0, .int .i64 0]) := ⟨by kernel_rfl⟩
instance : Ci Tryz.prog 28 := ⟨_, Tryz.underlying28, rfl⟩
instance : Zv Tryz.prog 28 (.agg #[.int .i64 0, .int .i64 0, .int .i64 0, .int .i64 0, .int .i64 0, .int .i64 0, .int .i64 0, .int .i64 0]) := ⟨by kernel_rfl⟩
instance : Ci Tryz.prog 29 := ⟨_, Tryz.underlying29, rfl⟩
instance : Zv Tryz.prog 29 (.agg #[.int .i64 0, .int .i64 0, .int .i64 0, .int .i64 0, .int .i64 0, .int .i64 0, .int .i64 0, .int .i64 0]) := ⟨by kernel_rfl⟩
instance : Ci Tryz.prog 31 := ⟨_, Tryz.underlying31, rfl⟩
instance : Zv Tryz.prog 31 (.nilFunc) := ⟨by kernel_rfl⟩
instance : Ci Tryz.prog 32 := ⟨_, Tryz.underlying32, rfl⟩
instance : Zv Tryz.prog 32 (.nilFunc) := ⟨by kernel_rfl⟩
instance : Ci Tryz.prog 33 := ⟨_, Tryz.underlying33, rfl⟩
instance : Zv Tryz.prog 33 (.nilFunc) := ⟨by kernel_rfl⟩
instance : Ci Tryz.prog 34 := ⟨_, Tryz.underlying34, rfl⟩
instance : Zv Tryz.prog 34 (.nilFunc) := ⟨by kernel_rfl⟩
instance : Ci Tryz.prog 36 := ⟨_, Tryz.underlying36, rfl⟩
instance : Zv Tryz.prog 36 (.nilFunc) := ⟨by kernel_rfl⟩
instance : Ci Tryz.prog 37 := ⟨_, Tryz.underlying37, rfl⟩
instance : Zv Tryz.prog 37 (.nilFunc) := ⟨by kernel_rfl⟩
instance : Ci Tryz.prog 38 := ⟨_, Tryz.underlying38, rfl⟩
instance : Zv Tryz.prog 38 (.nilFunc) := ⟨by kernel_rfl⟩
instance : Ap Tryz.prog 39 9 1 16 := ⟨Tryz.underlying39, by kernel_rfl, by decide⟩
instance : Ci Tryz.prog 39 := ⟨_, Tryz.underlying39, rfl⟩
instance : Zv Tryz.prog 39 (.slice none 0 0) := ⟨by kernel_rfl⟩
instance : Ci Tryz.prog 40 := ⟨_, Tryz.underlying40, rfl⟩
instance : Zv Tryz.prog 40 (.nilFunc) := ⟨by kernel_rfl⟩
instance : Ci Tryz.prog 41 := ⟨_, Tryz.underlying41, rfl⟩
instance : Zv Tryz.prog 41 (.nilFunc) := ⟨by kernel_rfl⟩
instance : Ci Tryz.prog 42 := ⟨_, Tryz.underlying42, rfl⟩
instance : Zv Tryz.prog 42 (.nilFunc) := ⟨by kernel_rfl⟩
instance : Ci Tryz.prog 43 := ⟨_, Tryz.underlying43, rfl⟩
instance : Zv Tryz.prog 43 (.nilFunc) := ⟨by kernel_rfl⟩
instance : Ci Tryz.prog 44 := ⟨_, Tryz.underlying44, rfl⟩
instance : Zv Tryz.prog 44 (.nilFunc) := ⟨by kernel_rfl⟩
instance : Ci Tryz.prog 45 := ⟨_, Tryz.underlying45, rfl⟩
instance : Zv Tryz.prog 45 (.nilFunc) := ⟨by kernel_rfl⟩
instance : Ci Tryz.prog 46 := ⟨_, Tryz.underlying46, rfl⟩
instance : Zv Tryz.prog 46 (.nilFunc) := ⟨by kernel_rfl⟩
instance : Ci Tryz.prog 47 := ⟨_, Tryz.underlying47, rfl⟩
instance : Zv Tryz.prog 47 (.pointer none) := ⟨by kernel_rfl⟩
instance : Ci Tryz.prog 48 := ⟨_, Tryz.underlying48, rfl⟩
instance : Zv Tryz.prog 48 (.nilFunc) := ⟨by kernel_rfl⟩
instance : Ci Tryz.prog 49 := ⟨_, Tryz.underlying49, rfl⟩
instance : Zv Tryz.prog 49 (.pointer none) := ⟨by kernel_rfl⟩
instance : Ci Tryz.prog 50 := ⟨_, Tryz.underlying50, rfl⟩
instance : Zv Tryz.prog 50 (.agg #[.string ByteArray.empty, .int .i64 0]) := ⟨by kernel_rfl⟩
instance : Ci Tryz.prog 51 := ⟨_, Tryz.underlying51, rfl⟩
instance : Zv Tryz.prog 51 (.agg #[.string ByteArray.empty, .int .i64 0]) := ⟨by kernel_rfl⟩
instance : Bd Tryz.prog 53 [] [] := ⟨fun _ => by kernel_rfl⟩
instance : Ci Tryz.prog 53 := ⟨_, Tryz.underlying53, rfl⟩
instance : Zv Tryz.prog 53 (.agg #[]) := ⟨by kernel_rfl⟩
instance : Bd Tryz.prog 54 [] [] := ⟨fun _ => by kernel_rfl⟩
instance : Ci Tryz.prog 54 := ⟨_, Tryz.underlying54, rfl⟩
instance : Zv Tryz.prog 54 (.agg #[]) := ⟨by kernel_rfl⟩
instance : Ci Tryz.prog 55 := ⟨_, Tryz.underlying55, rfl⟩
instance : Zv Tryz.prog 55 (.nilFunc) := ⟨by kernel_rfl⟩
instance : Ci Tryz.prog 56 := ⟨_, Tryz.underlying56, rfl⟩
instance : Zv Tryz.prog 56 (.nilFunc) := ⟨by kernel_rfl⟩
instance : Ci Tryz.prog 58 := ⟨_, Tryz.underlying58, rfl⟩
instance : Zv Tryz.prog 58 (.nilFunc) := ⟨by kernel_rfl⟩
instance : Ci Tryz.prog 60 := ⟨_, Tryz.underlying60, rfl⟩
instance : Zv Tryz.prog 60 (.nilFunc) := ⟨by kernel_rfl⟩
instance : Ci Tryz.prog 61 := ⟨_, Tryz.underlying61, rfl⟩
instance : Zv Tryz.prog 61 (.nilFunc) := ⟨by kernel_rfl⟩
instance : Ci Tryz.prog 63 := ⟨_, Tryz.underlying63, rfl⟩
instance : Zv Tryz.prog 63 (.nilFunc) := ⟨by kernel_rfl⟩
instance : Ci Tryz.prog 64 := ⟨_, Tryz.underlying64, rfl⟩
instance : Zv Tryz.prog 64 (.nilFunc) := ⟨by kernel_rfl⟩
instance : Ci Tryz.prog 65 := ⟨_, Tryz.underlying65, rfl⟩
instance : Zv Tryz.prog 65 (.nilFunc) := ⟨by kernel_rfl⟩
instance : Ci Tryz.prog 66 := ⟨_, Tryz.underlying66, rfl⟩
instance : Zv Tryz.prog 66 (.nilFunc) := ⟨by kernel_rfl⟩
instance : Ci Tryz.prog 67 := ⟨_, Tryz.underlying67, rfl⟩
instance : Zv Tryz.prog 67 (.nilFunc) := ⟨by kernel_rfl⟩
instance : Ci Tryz.prog 68 := ⟨_, Tryz.underlying68, rfl⟩
instance : Zv Tryz.prog 68 (.nilFunc) := ⟨by kernel_rfl⟩
instance : Ci Tryz.prog 69 := ⟨_, Tryz.underlying69, rfl⟩
instance : Zv Tryz.prog 69 (.nilFunc) := ⟨by kernel_rfl⟩
instance : Ci Tryz.prog 70 := ⟨_, Tryz.underlying70, rfl⟩
instance : Zv Tryz.prog 70 (.nilFunc) := ⟨by kernel_rfl⟩
instance : Ap Tryz.prog 71 3 1 8 := ⟨Tryz.underlying71, by kernel_rfl, by decide⟩
instance : Ci Tryz.prog 71 := ⟨_, Tryz.underlying71, rfl⟩
instance : Zv Tryz.prog 71 (.slice none 0 0) := ⟨by kernel_rfl⟩
instance : Ci Tryz.prog 72 := ⟨_, Tryz.underlying72, rfl⟩
instance : Zv Tryz.prog 72 (.nilFunc) := ⟨by kernel_rfl⟩
instance : Ci Tryz.prog 73 := ⟨_, Tryz.underlying73, rfl⟩
instance : Zv Tryz.prog 73 (.pointer none) := ⟨by kernel_rfl⟩
instance : Ap Tryz.prog 74 79 10 80 := ⟨Tryz.underlying74, by kernel_rfl, by decide⟩
instance : Ci Tryz.prog 74 := ⟨_, Tryz.underlying74, rfl⟩
instance : Zv Tryz.prog 74 (.slice none 0 0) := ⟨by kernel_rfl⟩
instance : Ap Tryz.prog 75 79 10 80 := ⟨Tryz.underlying75, by kernel_rfl, by decide⟩
instance : Ci Tryz.prog 75 := ⟨_, Tryz.underlying75, rfl⟩
instance : Zv Tryz.prog 75 (.slice none 0 0) := ⟨by kernel_rfl⟩
instance : Ci Tryz.prog 76 := ⟨_, Tryz.underlying76, rfl⟩
instance : Zv Tryz.prog 76 (.nilFunc) := ⟨by kernel_rfl⟩
instance : Ci Tryz.prog 77 := ⟨_, Tryz.underlying77, rfl⟩
instance : Zv Tryz.prog 77 (.nilFunc) := ⟨by kernel_rfl⟩
instance : Ci Tryz.prog 78 := ⟨_, Tryz.underlying78, rfl⟩
instance : Zv Tryz.prog 78 (.agg #[.int .i64 0, .int .i64 0, .int .i64 0, .int .i64 0, .int .i64 0, .int .i64 0, .int .i64 0, .int .i64 0, .int .i64 0, .int .i64 0]) := ⟨by kernel_rfl⟩
instance : Ci Tryz.prog 79 := ⟨_, Tryz.underlying79, rfl⟩
instance : Zv Tryz.prog 79 (.agg #[.int .i64 0, .int .i64 0, .int .i64 0, .int .i64 0, .int .i64 0, .int .i64 0, .int .i64 0, .int .i64 0, .int .i64 0, .int .i64 0]) := ⟨by kernel_rfl⟩
instance : Ci Tryz.prog 80 := ⟨_, Tryz.underlying80, rfl⟩
instance : Zv Tryz.prog 80 (.nilFunc) := ⟨by kernel_rfl⟩
instance : Ci Tryz.prog 81 := ⟨_, Tryz.underlying81, rfl⟩
instance : Zv Tryz.prog 81 (.nilFunc) := ⟨by kernel_rfl⟩
instance : Ci Tryz.prog 82 := ⟨_, Tryz.underlying82, rfl⟩
instance : Zv Tryz.prog 82 (.nilFunc) := ⟨by kernel_rfl⟩
instance : Ci Tryz.prog 83 := ⟨_, Tryz.underlying83, rfl⟩
instance : Zv Tryz.prog 83 (.nilFunc) := ⟨by kernel_rfl⟩
instance : Ci Tryz.prog 84 := ⟨_, Tryz.underlying84, rfl⟩
instance : Zv Tryz.prog 84 (.nilFunc) := ⟨by kernel_rfl⟩
instance : Ci Tryz.prog 85 := ⟨_, Tryz.underlying85, rfl⟩
instance : Zv Tryz.prog 85 (.agg #[.slice none 0 0, .int .i64 0]) := ⟨by kernel_rfl⟩
instance : Ci Tryz.prog 86 := ⟨_, Tryz.underlying86, rfl⟩
instance : Zv Tryz.prog 86 (.agg #[.slice none 0 0, .int .i64 0]) := ⟨by kernel_rfl⟩
instance : Ci Tryz.prog 87 := ⟨_, Tryz.underlying87, rfl⟩
instance : Zv Tryz.prog 87 (.nilFunc) := ⟨by kernel_rfl⟩
instance : Ci Tryz.prog 88 := ⟨_, Tryz.underlying88, rfl⟩
instance : Zv Tryz.prog 88 (.nilFunc) := ⟨by kernel_rfl⟩
instance : Ap Tryz.prog 89 4 1 1 := ⟨Tryz.underlying89, by kernel_rfl, by decide⟩
instance : Ci Tryz.prog 89 := ⟨_, Tryz.underlying89, rfl⟩
instance : Zv Tryz.prog 89 (.slice none 0 0) := ⟨by kernel_rfl⟩
instance : Zv Tryz.prog 90 (.nilIface) := ⟨by kernel_rfl⟩
instance : Zv Tryz.prog 91 (.nilIface) := ⟨by kernel_rfl⟩
instance : Ci Tryz.prog 93 := ⟨_, Tryz.underlying93, rfl⟩
instance : Zv Tryz.prog 93 (.nilFunc) := ⟨by kernel_rfl⟩
instance : Ci Tryz.prog 94 := ⟨_, Tryz.underlying94, rfl⟩
instance : Zv Tryz.prog 94 (.pointer none) := ⟨by kernel_rfl⟩
instance : Ci Tryz.prog 95 := ⟨_, Tryz.underlying95, rfl⟩
instance : Zv Tryz.prog 95 (.nilFunc) := ⟨by kernel_rfl⟩
instance : Ci Tryz.prog 96 := ⟨_, Tryz.underlying96, rfl⟩
instance : Zv Tryz.prog 96 (.pointer none) := ⟨by kernel_rfl⟩
instance : Ci Tryz.prog 97 := ⟨_, Tryz.underlying97, rfl⟩
instance : Zv Tryz.prog 97 (.nilFunc) := ⟨by kernel_rfl⟩
instance : Ci Tryz.prog 98 := ⟨_, Tryz.underlying98, rfl⟩
instance : Zv Tryz.prog 98 (.nilFunc) := ⟨by kernel_rfl⟩
instance : Ci Tryz.prog 99 := ⟨_, Tryz.underlying99, rfl⟩
instance : Zv Tryz.prog 99 (.nilFunc) := ⟨by kernel_rfl⟩
instance : Ci Tryz.prog 101 := ⟨_, Tryz.underlying101, rfl⟩
instance : Zv Tryz.prog 101 (.nilFunc) := ⟨by kernel_rfl⟩
instance : Ci Tryz.prog 102 := ⟨_, Tryz.underlying102, rfl⟩
instance : Zv Tryz.prog 102 (.nilFunc) := ⟨by kernel_rfl⟩
instance : Ci Tryz.prog 103 := ⟨_, Tryz.underlying103, rfl⟩
instance : Zv Tryz.prog 103 (.nilFunc) := ⟨by kernel_rfl⟩
instance : Ci Tryz.prog 104 := ⟨_, Tryz.underlying104, rfl⟩
instance : Zv Tryz.prog 104 (.nilFunc) := ⟨by kernel_rfl⟩
instance : Zv Tryz.prog 105 (.nilIface) := ⟨by kernel_rfl⟩
instance : Zv Tryz.prog 106 (.nilIface) := ⟨by kernel_rfl⟩
instance : Ci Tryz.prog 107 := ⟨_, Tryz.underlying107, rfl⟩
instance : Zv Tryz.prog 107 (.nilFunc) := ⟨by kernel_rfl⟩
instance : Ci Tryz.prog 108 := ⟨_, Tryz.underlying108, rfl⟩
instance : Zv Tryz.prog 108 (.nilFunc) := ⟨by kernel_rfl⟩
instance : Ci Tryz.prog 109 := ⟨_, Tryz.underlying109, rfl⟩
instance : Zv Tryz.prog 109 (.nilFunc) := ⟨by kernel_rfl⟩
instance : Ci Tryz.prog 110 := ⟨_, Tryz.underlying110, rfl⟩
instance : Zv Tryz.prog 110 (.int .u64 0) := ⟨by kernel_rfl⟩
instance : Ci Tryz.prog 111 := ⟨_, Tryz.underlying111, rfl⟩
instance : Zv Tryz.prog 111 (.nilFunc) := ⟨by kernel_rfl⟩
instance : Ci Tryz.prog 112 := ⟨_, Tryz.underlying112, rfl⟩
instance : Zv Tryz.prog 112 (.nilFunc) := ⟨by kernel_rfl⟩
instance : Ci Tryz.prog 113 := ⟨_, Tryz.underlying113, rfl⟩
instance : Zv Tryz.prog 113 (.nilFunc) := ⟨by kernel_rfl⟩
instance : Ci Tryz.prog 114 := ⟨_, Tryz.underlying114, rfl⟩
instance : Zv Tryz.prog 114 (.nilFunc) := ⟨by kernel_rfl⟩
instance : Zv Tryz.prog 115 (.nilIface) := ⟨by kernel_rfl⟩
instance : Zv Tryz.prog 116 (.nilIface) := ⟨by kernel_rfl⟩
instance : Ci Tryz.prog 117 := ⟨_, Tryz.underlying117, rfl⟩
instance : Zv Tryz.prog 117 (.nilFunc) := ⟨by kernel_rfl⟩
instance : Ci Tryz.prog 118 := ⟨_, Tryz.underlying118, rfl⟩
instance : Zv Tryz.prog 118 (.nilFunc) := ⟨by kernel_rfl⟩
instance : Ci Tryz.prog 119 := ⟨_, Tryz.underlying119, rfl⟩
instance : Zv Tryz.prog 119 (.agg #[.int .i64 0, .int .i64 0, .int .i64 0, .int .i64 0, .int .i64 0, .int .i64 0, .int .i64 0, .int .i64 0, .int .i64 0]) := ⟨by kernel_rfl⟩
instance : Ci Tryz.prog 120 := ⟨_, Tryz.underlying120, rfl⟩
instance : Zv Tryz.prog 120 (.agg #[.int .i64 0, .int .i64 0, .int .i64 0, .int .i64 0, .int .i64 0, .int .i64 0, .int .i64 0, .int .i64 0, .int .i64 0]) := ⟨by kernel_rfl⟩
instance : Ci Tryz.prog 121 := ⟨_, Tryz.underlying121, rfl⟩
instance : Zv Tryz.prog 121 (.nilFunc) := ⟨by kernel_rfl⟩
instance : Ci Tryz.prog 122 := ⟨_, Tryz.underlying122, rfl⟩
instance : Zv Tryz.prog 122 (.nilFunc) := ⟨by kernel_rfl⟩
instance : Ci Tryz.prog 123 := ⟨_, Tryz.underlying123, rfl⟩
instance : Zv Tryz.prog 123 (.nilFunc) := ⟨by kernel_rfl⟩
instance : Ci Tryz.prog 124 := ⟨_, Tryz.underlying124, rfl⟩
instance : Zv Tryz.prog 124 (.nilFunc) := ⟨by kernel_rfl⟩
instance : Ci Tryz.prog 125 := ⟨_, Tryz.underlying125, rfl⟩
instance : Zv Tryz.prog 125 (.nilFunc) := ⟨by kernel_rfl⟩
instance : Ci Tryz.prog 126 := ⟨_, Tryz.underlying126, rfl⟩
instance : Zv Tryz.prog 126 (.agg #[.int .i64 0, .int .i64 0, .int .i64 0]) := ⟨by kernel_rfl⟩
instance : Ci Tryz.prog 127 := ⟨_, Tryz.underlying127, rfl⟩
instance : Zv Tryz.prog 127 (.agg #[.int .i64 0]) := ⟨by kernel_rfl⟩
instance : Ci Tryz.prog 128 := ⟨_, Tryz.underlying128, rfl⟩
instance : Zv Tryz.prog 128 (.agg #[.int .i64 0]) := ⟨by kernel_rfl⟩
instance : Ci Tryz.prog 129 := ⟨_, Tryz.underlying129, rfl⟩
instance : Zv Tryz.prog 129 (.nilFunc) := ⟨by kernel_rfl⟩
instance : Ci Tryz.prog 130 := ⟨_, Tryz.underlying130, rfl⟩
instance : Zv Tryz.prog 130 (.pointer none) := ⟨by kernel_rfl⟩
instance : Ci Tryz.prog 131 := ⟨_, Tryz.underlying131, rfl⟩
instance : Zv Tryz.prog 131 (.int .u64 0) := ⟨by kernel_rfl⟩
instance : Ci Tryz.prog 132 := ⟨_, Tryz.underlying132, rfl⟩
instance : Zv Tryz.prog 132 (.agg #[.pointer none, .pointer none, .int .u64 0]) := ⟨by kernel_rfl⟩
instance : Ci Tryz.prog 133 := ⟨_, Tryz.underlying133, rfl⟩
instance : Zv Tryz.prog 133 (.agg #[.pointer none, .pointer none, .int .u64 0]) := ⟨by kernel_rfl⟩
instance : Ci Tryz.prog 134 := ⟨_, Tryz.underlying134, rfl⟩
instance : Zv Tryz.prog 134 (.nilFunc) := ⟨by kernel_rfl⟩
instance : Zv Tryz.prog 135 (.nilIface) := ⟨by kernel_rfl⟩
instance : Zv Tryz.prog 136 (.nilIface) := ⟨by kernel_rfl⟩
instance : Ci Tryz.prog 137 := ⟨_, Tryz.underlying137, rfl⟩
instance : Zv Tryz.prog 137 (.nilFunc) := ⟨by kernel_rfl⟩
instance : U8 Tryz.prog 138 := ⟨Tryz.underlying138⟩
instance : Ci Tryz.prog 138 := ⟨_, Tryz.underlying138, rfl⟩
instance : Zv Tryz.prog 138 (.int .u8 0) := ⟨by kernel_rfl⟩
instance : Ci Tryz.prog 139 := ⟨_, Tryz.underlying139, rfl⟩
instance : Zv Tryz.prog 139 (.nilFunc) := ⟨by kernel_rfl⟩
instance : Ci Tryz.prog 140 := ⟨_, Tryz.underlying140, rfl⟩
instance : Zv Tryz.prog 140 (.nilFunc) := ⟨by kernel_rfl⟩
instance : Ci Tryz.prog 141 := ⟨_, Tryz.underlying141, rfl⟩
instance : Zv Tryz.prog 141 (.nilFunc) := ⟨by kernel_rfl⟩
instance : Ci Tryz.prog 142 := ⟨_, Tryz.underlying142, rfl⟩
instance : Zv Tryz.prog 142 (.nilFunc) := ⟨by kernel_rfl⟩
instance : Ci Tryz.prog 143 := ⟨_, Tryz.underlying143, rfl⟩
instance : Zv Tryz.prog 143 (.agg #[.int .i64 0, .int .i64 0, .int .i64 0]) := ⟨by kernel_rfl⟩
instance : Ci Tryz.prog 144 := ⟨_, Tryz.underlying144, rfl⟩
instance : Zv Tryz.prog 144 (.agg #[.int .i64 0, .int .i64 0, .int .i64 0]) := ⟨by kernel_rfl⟩
instance : Ci Tryz.prog 145 := ⟨_, Tryz.underlying145, rfl⟩
instance : Zv Tryz.prog 145 (.nilFunc) := ⟨by kernel_rfl⟩
instance : Ci Tryz.prog 146 := ⟨_, Tryz.underlying146, rfl⟩
instance : Zv Tryz.prog 146 (.nilFunc) := ⟨by kernel_rfl⟩
instance : Ci Tryz.prog 148 := ⟨_, Tryz.underlying148, rfl⟩
instance : Zv Tryz.prog 148 (.nilFunc) := ⟨by kernel_rfl⟩
instance : Ci Tryz.prog 149 := ⟨_, Tryz.underlying149, rfl⟩
instance : Zv Tryz.prog 149 (.nilFunc) := ⟨by kernel_rfl⟩
instance : Ci Tryz.prog 150 := ⟨_, Tryz.underlying150, rfl⟩
instance : Zv Tryz.prog 150 (.nilFunc) := ⟨by kernel_rfl⟩
instance : Ci Tryz.prog 151 := ⟨_, Tryz.underlying151, rfl⟩
instance : Zv Tryz.prog 151 (.nilFunc) := ⟨by kernel_rfl⟩
instance : Ci Tryz.prog 152 := ⟨_, Tryz.underlying152, rfl⟩
instance : Ci Tryz.prog 153 := ⟨_, Tryz.underlying153, rfl⟩
instance : Ci Tryz.prog 155 := ⟨_, Tryz.underlying155, rfl⟩
instance : Zv Tryz.prog 155 (.nilFunc) := ⟨by kernel_rfl⟩
instance : Ci Tryz.prog 156 := ⟨_, Tryz.underlying156, rfl⟩
instance : Zv Tryz.prog 156 (.nilFunc) := ⟨by kernel_rfl⟩
instance : Ci Tryz.prog 157 := ⟨_, Tryz.underlying157, rfl⟩
instance : Zv Tryz.prog 157 (.pointer none) := ⟨by kernel_rfl⟩
instance : Ci Tryz.prog 158 := ⟨_, Tryz.underlying158, rfl⟩
instance : Zv Tryz.prog 158 (.agg #[.int .i64 0, .int .i64 0, .int .i64 0, .int .i64 0, .int .i64 0, .int .i64 0, .int .i64 0, .int .i64 0, .int .i64 0, .int .i64 0, .int .i64 0, .int .i64 0]) := ⟨by kernel_rfl⟩
instance : Ci Tryz.prog 159 := ⟨_, Tryz.underlying159, rfl⟩
instance : Zv Tryz.prog 159 (.nilFunc) := ⟨by kernel_rfl⟩
instance : Ci Tryz.prog 160 := ⟨_, Tryz.underlying160, rfl⟩
instance : Zv Tryz.prog 160 (.nilFunc) := ⟨by kernel_rfl⟩
instance : Ci Tryz.prog 161 := ⟨_, Tryz.underlying161, rfl⟩
instance : Zv Tryz.prog 161 (.nilFunc) := ⟨by kernel_rfl⟩
instance : Ci Tryz.prog 162 := ⟨_, Tryz.underlying162, rfl⟩
instance : Zv Tryz.prog 162 (.agg #[.pointer none]) := ⟨by kernel_rfl⟩
instance : Ci Tryz.prog 163 := ⟨_, Tryz.underlying163, rfl⟩
instance : Zv Tryz.prog 163 (.agg #[.pointer none]) := ⟨by kernel_rfl⟩
instance : Ci Tryz.prog 164 := ⟨_, Tryz.underlying164, rfl⟩
instance : Zv Tryz.prog 164 (.pointer none) := ⟨by kernel_rfl⟩
instance : Ci Tryz.prog 165 := ⟨_, Tryz.underlying165, rfl⟩
instance : Zv Tryz.prog 165 (.nilFunc) := ⟨by kernel_rfl⟩
instance : Ci Tryz.prog 166 := ⟨_, Tryz.underlying166, rfl⟩
instance : Zv Tryz.prog 166 (.nilFunc) := ⟨by kernel_rfl⟩
instance : Ci Tryz.prog 167 := ⟨_, Tryz.underlying167, rfl⟩
instance : Zv Tryz.prog 167 (.nilFunc) := ⟨by kernel_rfl⟩
instance : Zv Tryz.prog 168 (.nilIface) := ⟨by kernel_rfl⟩
instance : Ci Tryz.prog 170 := ⟨_, Tryz.underlying170, rfl⟩
instance : Zv Tryz.prog 170 (.nilFunc) := ⟨by kernel_rfl⟩
instance : Zv Tryz.prog 171 (.nilIface) := ⟨by kernel_rfl⟩
instance : Ci Tryz.prog 172 := ⟨_, Tryz.underlying172, rfl⟩
instance : Zv Tryz.prog 172 (.nilFunc) := ⟨by kernel_rfl⟩
instance : Zv Tryz.prog 173 (.nilIface) := ⟨by kernel_rfl⟩
instance : Ap Tryz.prog 174 91 1 16 := ⟨Tryz.underlying174, by kernel_rfl, by decide⟩
instance : Ci Tryz.prog 174 := ⟨_, Tryz.underlying174, rfl⟩
instance : Zv Tryz.prog 174 (.slice none 0 0) := ⟨by kernel_rfl⟩
instance : Ci Tryz.prog 175 := ⟨_, Tryz.underlying175, rfl⟩
instance : Zv Tryz.prog 175 (.nilFunc) := ⟨by kernel_rfl⟩
instance : Ci Tryz.prog 177 := ⟨_, Tryz.underlying177, rfl⟩
instance : Zv Tryz.prog 177 (.nilFunc) := ⟨by kernel_rfl⟩
instance : Ci Tryz.prog 178 := ⟨_, Tryz.underlying178, rfl⟩
instance : Zv Tryz.prog 178 (.nilFunc) := ⟨by kernel_rfl⟩
instance : Ci Tryz.prog 179 := ⟨_, Tryz.underlying179, rfl⟩
instance : Zv Tryz.prog 179 (.nilFunc) := ⟨by kernel_rfl⟩
instance : Ci Tryz.prog 180 := ⟨_, Tryz.underlying180, rfl⟩
instance : Zv Tryz.prog 180 (.nilFunc) := ⟨by kernel_rfl⟩
instance : Ci Tryz.prog 181 := ⟨_, Tryz.underlying181, rfl⟩
instance : Zv Tryz.prog 181 (.nilFunc) := ⟨by kernel_rfl⟩
instance : Ci Tryz.prog 182 := ⟨_, Tryz.underlying182, rfl⟩
instance : Zv Tryz.prog 182 (.nilFunc) := ⟨by kernel_rfl⟩
instance : Ci Tryz.prog 183 := ⟨_, Tryz.underlying183, rfl⟩
instance : Ci Tryz.prog 184 := ⟨_, Tryz.underlying184, rfl⟩
instance : Zv Tryz.prog 184 (.agg #[.int .u8 0, .int .u8 0]) := ⟨by kernel_rfl⟩
instance : Ci Tryz.prog 185 := ⟨_, Tryz.underlying185, rfl⟩
instance : Zv Tryz.prog 185 (.agg #[.int .u8 0, .int .u8 0]) := ⟨by kernel_rfl⟩
instance : Ci Tryz.prog 186 := ⟨_, Tryz.underlying186, rfl⟩
instance : Zv Tryz.prog 186 (.agg #[.int .u8 0, .int .u8 0, .int .u8 0, .int .u8 0, .int .u8 0, .int .u8 0, .int .u8 0, .int .u8 0, .int .u8 0, .int .u8 0, .int .u8 0, .int .u8 0, .int .u8 0, .int .u8 0, .int .u8 0, .int .u8 0, .int .u8 0, .int .u8 0, .int .u8 0, .int .u8 0, .int .u8 0, .int .u8 0, .int .u8 0, .int .u8 0, .int .u8 0, .int .u8 0, .int .u8 0, .int .u8 0, .int .u8 0, .int .u8 0, .int .u8 0, .int .u8 0]) := ⟨by kernel_rfl⟩
instance : Ci Tryz.prog 187 := ⟨_, Tryz.underlying187, rfl⟩
instance : Zv Tryz.prog 187 (.nilFunc) := ⟨by kernel_rfl⟩
instance : Ci Tryz.prog 188 := ⟨_, Tryz.underlying188, rfl⟩
instance : Zv Tryz.prog 188 (.agg #[.pointer none, .pointer none, .pointer none, .string ByteArray.empty]) := ⟨by kernel_rfl⟩
instance : Ci Tryz.prog 189 := ⟨_, Tryz.underlying189, rfl⟩
instance : Zv Tryz.prog 189 (.agg #[.pointer none, .pointer none, .pointer none, .string ByteArray.empty]) := ⟨by kernel_rfl⟩
instance : Ci Tryz.prog 190 := ⟨_, Tryz.underlying190, rfl⟩
instance : Zv Tryz.prog 190 (.agg #[]) := ⟨by kernel_rfl⟩
instance : Ci Tryz.prog 191 := ⟨_, Tryz.underlying191, rfl⟩
instance : Zv Tryz.prog 191 (.agg #[]) := ⟨by kernel_rfl⟩
instance : Ci Tryz.prog 192 := ⟨_, Tryz.underlying192, rfl⟩
instance : Zv Tryz.prog 192 (.agg #[]) := ⟨by kernel_rfl⟩
instance : Ci Tryz.prog 193 := ⟨_, Tryz.underlying193, rfl⟩
instance : Zv Tryz.prog 193 (.nilFunc) := ⟨by kernel_rfl⟩
instance : Ci Tryz.prog 194 := ⟨_, Tryz.underlying194, rfl⟩
instance : Zv Tryz.prog 194 (.int .u32 0) := ⟨by kernel_rfl⟩
instance : U8 Tryz.prog 195 := ⟨Tryz.underlying195⟩
instance : Ci Tryz.prog 195 := ⟨_, Tryz.underlying195, rfl⟩
instance : Zv Tryz.prog 195 (.int .u8 0) := ⟨by kernel_rfl⟩
instance : Ci Tryz.prog 196 := ⟨_, Tryz.underlying196, rfl⟩
instance : Zv Tryz.prog 196 (.nilFunc) := ⟨by kernel_rfl⟩
instance : Ci Tryz.prog 197 := ⟨_, Tryz.underlying197, rfl⟩
instance : Zv Tryz.prog 197 (.pointer none) := ⟨by kernel_rfl⟩
instance : Ci Tryz.prog 198 := ⟨_, Tryz.underlying198, rfl⟩
instance : Zv Tryz.prog 198 (.int .i32 0) := ⟨by kernel_rfl⟩
instance : Ci Tryz.prog 199 := ⟨_, Tryz.underlying199, rfl⟩
instance : Zv Tryz.prog 199 (.int .i32 0) := ⟨by kernel_rfl⟩
instance : Ci Tryz.prog 200 := ⟨_, Tryz.underlying200, rfl⟩
instance : Zv Tryz.prog 200 (.agg #[.int .u64 0, .int .u64 0, .int .u32 0, .int .u8 0, .int .u8 0, .int .u8 0, .int .u8 0, .nilFunc, .pointer none, .int .i32 0, .int .i32 0]) := ⟨by kernel_rfl⟩
instance : Ci Tryz.prog 201 := ⟨_, Tryz.underlying201, rfl⟩
instance : Zv Tryz.prog 201 (.agg #[.int .u64 0, .int .u64 0, .int .u32 0, .int .u8 0, .int .u8 0, .int .u8 0, .int .u8 0, .nilFunc, .pointer none, .int .i32 0, .int .i32 0]) := ⟨by kernel_rfl⟩
instance : Ci Tryz.prog 202 := ⟨_, Tryz.underlying202, rfl⟩
instance : Zv Tryz.prog 202 (.nilFunc) := ⟨by kernel_rfl⟩
instance : Ci Tryz.prog 203 := ⟨_, Tryz.underlying203, rfl⟩
instance : Zv Tryz.prog 203 (.nilFunc) := ⟨by kernel_rfl⟩
instance : Ci Tryz.prog 204 := ⟨_, Tryz.underlying204, rfl⟩
instance : Zv Tryz.prog 204 (.agg #[.string ByteArray.empty, .int .u8 0]) := ⟨by kernel_rfl⟩
instance : Ci Tryz.prog 205 := ⟨_, Tryz.underlying205, rfl⟩
instance : Zv Tryz.prog 205 (.agg #[.string ByteArray.empty, .int .u8 0]) := ⟨by kernel_rfl⟩
instance : Ci Tryz.prog 206 := ⟨_, Tryz.underlying206, rfl⟩
instance : Zv Tryz.prog 206 (.pointer none) := ⟨by kernel_rfl⟩
instance : Ci Tryz.prog 207 := ⟨_, Tryz.underlying207, rfl⟩
instance : Zv Tryz.prog 207 (.nilFunc) := ⟨by kernel_rfl⟩
instance : Ci Tryz.prog 208 := ⟨_, Tryz.underlying208, rfl⟩
instance : Zv Tryz.prog 208 (.int .u16 0) := ⟨by kernel_rfl⟩
instance : Ci Tryz.prog 209 := ⟨_, Tryz.underlying209, rfl⟩
instance : Zv Tryz.prog 209 (.agg #[.int .i32 0, .int .u16 0, .int .u16 0, .int .u32 0, .int .u32 0]) := ⟨by kernel_rfl⟩
instance : Ci Tryz.prog 210 := ⟨_, Tryz.underlying210, rfl⟩
instance : Zv Tryz.prog 210 (.agg #[.int .i32 0, .int .u16 0, .int .u16 0, .int .u32 0, .int .u32 0]) := ⟨by kernel_rfl⟩
instance : Ap Tryz.prog 211 214 4 16 := ⟨Tryz.underlying211, by kernel_rfl, by decide⟩
instance : Ci Tryz.prog 211 := ⟨_, Tryz.underlying211, rfl⟩
instance : Zv Tryz.prog 211 (.slice none 0 0) := ⟨by kernel_rfl⟩
instance : Ci Tryz.prog 212 := ⟨_, Tryz.underlying212, rfl⟩
instance : Zv Tryz.prog 212 (.int .i32 0) := ⟨by kernel_rfl⟩
instance : Ci Tryz.prog 213 := ⟨_, Tryz.underlying213, rfl⟩
instance : Zv Tryz.prog 213 (.agg #[.int .i32 0, .int .i32 0, .int .i32 0, .int .i32 0]) := ⟨by kernel_rfl⟩
instance : Ci Tryz.prog 214 := ⟨_, Tryz.underlying214, rfl⟩
instance : Zv Tryz.prog 214 (.agg #[.int .i32 0, .int .i32 0, .int .i32 0, .int .i32 0]) := ⟨by kernel_rfl⟩
instance : Ci Tryz.prog 215 := ⟨_, Tryz.underlying215, rfl⟩
instance : Zv Tryz.prog 215 (.pointer none) := ⟨by kernel_rfl⟩

end D
end Go.Proofs.YtdafjaimljhcaaaGreatDoor
