/- The engine, part 7: what the program's types and functions are (closed facts). -/
import Derived.Test.YtpgbmohocfcjpaaGreatDoorE2
import Derived.Test.YtpgbmohocfcjpaaGreatDoorProg
import Derived.Test.YtpgbmohocfcjpaaGreatDoorE3m
namespace Go.Proofs.YtpgbmohocfcjpaaGreatDoor
set_option linter.unusedVariables false
set_option linter.unusedSimpArgs false
namespace D
open Go.RowKit

variable {P : Program}
theorem fieldPlace_run {fd : Field} {k : Nat} (hz : (P.info? fd.type).map (·.size) = some k) (hk : k ≠ 0) (b o : Nat) (w : World) : (fieldPlace ⟨b, o, none⟩ fd).run P w = .ok ⟨b, o + fd.offset, none⟩ w := by
  simp [fieldPlace, run_sizeOf hz, hk, add_plain]
theorem FO.of {s f off ft : Nat} {fs : Array Field} {fd : Field} {k : Nat} (hu : P.underlying s = some (.struct fs)) (hf : fs[f]? = some fd) (ho : fd.offset = off) (ht : fd.type = ft) (hz : (P.info? ft).map (·.size) = some k) (hk : k ≠ 0) : FO P s f off := by
  subst ho; subst ht
  exact ⟨fun b o w => by simp [Instr.fieldAt, run_underlying hu, hf, Instr.sureAddr, fieldPlace_run hz hk]⟩
theorem FV.of1 {s f off ft : Nat} {fs : Array Field} {fd : Field} (hu : P.underlying s = some (.struct fs)) (hf : fs[f]? = some fd) (ho : fd.offset = off) (ht : fd.type = ft) (i : Sc P ft) : FV P s f off 1 false := by
  subst ho; subst ht
  exact ⟨fun us w => by
    simp only [Instr.field, Sem.run_bind, run_underlying hu, Result.andThen_ok, hf, part, asAgg, run_isAgg_sc, Sem.run_pure]
    simp
    cases us[fd.offset]? <;> rfl⟩
theorem FV.ofk {s f off ft : Nat} {fs : Array Field} {fd : Field} {k : Nat} (hu : P.underlying s = some (.struct fs)) (hf : fs[f]? = some fd) (ho : fd.offset = off) (ht : fd.type = ft) (i : Ag P ft k) : FV P s f off k true := by
  subst ho; subst ht
  exact ⟨fun us w => by
    simp only [Instr.field, Sem.run_bind, run_underlying hu, Result.andThen_ok, hf, part, asAgg, run_isAgg_ag, Sem.run_pure, run_sizeOf i.sz]
    simp [run_sizeOf i.sz]⟩

instance : Sc Tryz.prog 1 := ⟨_, Tryz.underlying1, rfl⟩
instance : Sz Tryz.prog 1 1 := ⟨by kernel_rfl⟩
instance : Zr Tryz.prog 1 [.nilFunc] := ⟨by kernel_rfl⟩
instance : Sc Tryz.prog 2 := ⟨_, Tryz.underlying2, rfl⟩
instance : Sz Tryz.prog 2 1 := ⟨by kernel_rfl⟩
instance : Zr Tryz.prog 2 [.int .i64 0] := ⟨by kernel_rfl⟩
instance : I64 Tryz.prog 2 := ⟨Tryz.underlying2⟩
instance : Sc Tryz.prog 3 := ⟨_, Tryz.underlying3, rfl⟩
instance : Sz Tryz.prog 3 1 := ⟨by kernel_rfl⟩
instance : Zr Tryz.prog 3 [.int .i64 0] := ⟨by kernel_rfl⟩
instance : I64 Tryz.prog 3 := ⟨Tryz.underlying3⟩
instance : Sc Tryz.prog 4 := ⟨_, Tryz.underlying4, rfl⟩
instance : Sz Tryz.prog 4 1 := ⟨by kernel_rfl⟩
instance : Zr Tryz.prog 4 [.bool false] := ⟨by kernel_rfl⟩
instance : BoT Tryz.prog 4 := ⟨Tryz.underlying4⟩
instance : Sc Tryz.prog 5 := ⟨_, Tryz.underlying5, rfl⟩
instance : Sz Tryz.prog 5 1 := ⟨by kernel_rfl⟩
instance : Zr Tryz.prog 5 [.int .u8 0] := ⟨by kernel_rfl⟩
instance : Sc Tryz.prog 6 := ⟨_, Tryz.underlying6, rfl⟩
instance : Sz Tryz.prog 6 1 := ⟨by kernel_rfl⟩
instance : Zr Tryz.prog 6 [.int .u8 0] := ⟨by kernel_rfl⟩
instance : Ag Tryz.prog 7 4 := ⟨⟨_, Tryz.underlying7, rfl⟩, by kernel_rfl⟩
instance : Sz Tryz.prog 7 4 := ⟨by kernel_rfl⟩
instance : Zr Tryz.prog 7 [.int .i64 0, .int .i64 0, .bool false, .int .u8 0] := ⟨by kernel_rfl⟩
instance : Ag Tryz.prog 8 4 := ⟨⟨_, Tryz.underlying8, rfl⟩, by kernel_rfl⟩
instance : Sz Tryz.prog 8 4 := ⟨by kernel_rfl⟩
instance : Zr Tryz.prog 8 [.int .i64 0, .int .i64 0, .bool false, .int .u8 0] := ⟨by kernel_rfl⟩
instance : Sc Tryz.prog 9 := ⟨_, Tryz.underlying9, rfl⟩
instance : Sz Tryz.prog 9 1 := ⟨by kernel_rfl⟩
instance : Zr Tryz.prog 9 [.string ByteArray.empty] := ⟨by kernel_rfl⟩
instance : StT Tryz.prog 9 := ⟨Tryz.underlying9⟩
instance : Sc Tryz.prog 10 := ⟨_, Tryz.underlying10, rfl⟩
instance : Sz Tryz.prog 10 1 := ⟨by kernel_rfl⟩
instance : Zr Tryz.prog 10 [.string ByteArray.empty] := ⟨by kernel_rfl⟩
instance : StT Tryz.prog 10 := ⟨Tryz.underlying10⟩
instance : Sc Tryz.prog 11 := ⟨_, Tryz.underlying11, rfl⟩
instance : Sz Tryz.prog 11 1 := ⟨by kernel_rfl⟩
instance : Zr Tryz.prog 11 [.string ByteArray.empty] := ⟨by kernel_rfl⟩
instance : StT Tryz.prog 11 := ⟨Tryz.underlying11⟩
instance : Sc Tryz.prog 12 := ⟨_, Tryz.underlying12, rfl⟩
instance : Sz Tryz.prog 12 1 := ⟨by kernel_rfl⟩
instance : Zr Tryz.prog 12 [.int .u64 0] := ⟨by kernel_rfl⟩
instance : Ag Tryz.prog 13 2 := ⟨⟨_, Tryz.underlying13, rfl⟩, by kernel_rfl⟩
instance : Sz Tryz.prog 13 2 := ⟨by kernel_rfl⟩
instance : Zr Tryz.prog 13 [.string ByteArray.empty, .int .u64 0] := ⟨by kernel_rfl⟩
instance : Ag Tryz.prog 14 2 := ⟨⟨_, Tryz.underlying14, rfl⟩, by kernel_rfl⟩
instance : Sz Tryz.prog 14 2 := ⟨by kernel_rfl⟩
instance : Zr Tryz.prog 14 [.string ByteArray.empty, .int .u64 0] := ⟨by kernel_rfl⟩
instance : Sc Tryz.prog 15 := ⟨_, Tryz.underlying15, rfl⟩
instance : Sz Tryz.prog 15 1 := ⟨by kernel_rfl⟩
instance : Zr Tryz.prog 15 [.pointer none] := ⟨by kernel_rfl⟩
instance : Sc Tryz.prog 16 := ⟨_, Tryz.underlying16, rfl⟩
instance : Sz Tryz.prog 16 1 := ⟨by kernel_rfl⟩
instance : Zr Tryz.prog 16 [.pointer none] := ⟨by kernel_rfl⟩
instance : Sc Tryz.prog 17 := ⟨_, Tryz.underlying17, rfl⟩
instance : Sz Tryz.prog 17 1 := ⟨by kernel_rfl⟩
instance : Zr Tryz.prog 17 [.pointer none] := ⟨by kernel_rfl⟩
instance : Ag Tryz.prog 18 1 := ⟨⟨_, Tryz.underlying18, rfl⟩, by kernel_rfl⟩
instance : Sz Tryz.prog 18 1 := ⟨by kernel_rfl⟩
instance : Zr Tryz.prog 18 [.pointer none] := ⟨by kernel_rfl⟩
instance : Ag Tryz.prog 19 1 := ⟨⟨_, Tryz.underlying19, rfl⟩, by kernel_rfl⟩
instance : Sz Tryz.prog 19 1 := ⟨by kernel_rfl⟩
instance : Zr Tryz.prog 19 [.pointer none] := ⟨by kernel_rfl⟩
instance : Sc Tryz.prog 20 := ⟨_, Tryz.underlying20, rfl⟩
instance : Sz Tryz.prog 20 1 := ⟨by kernel_rfl⟩
instance : Zr Tryz.prog 20 [.nilIface] := ⟨by kernel_rfl⟩
instance : Sc Tryz.prog 21 := ⟨_, Tryz.underlying21, rfl⟩
instance : Sz Tryz.prog 21 1 := ⟨by kernel_rfl⟩
instance : Zr Tryz.prog 21 [.int .i32 0] := ⟨by kernel_rfl⟩
instance : Sc Tryz.prog 22 := ⟨_, Tryz.underlying22, rfl⟩
instance : Sz Tryz.prog 22 1 := ⟨by kernel_rfl⟩
instance : Zr Tryz.prog 22 [.slice none 0 0] := ⟨by kernel_rfl⟩
instance : SlT Tryz.prog 22 9 1 := ⟨Tryz.underlying22, by kernel_rfl⟩
instance : Sc Tryz.prog 23 := ⟨_, Tryz.underlying23, rfl⟩
instance : Sz Tryz.prog 23 1 := ⟨by kernel_rfl⟩
instance : Zr Tryz.prog 23 [.nilFunc] := ⟨by kernel_rfl⟩
instance : Sc Tryz.prog 24 := ⟨_, Tryz.underlying24, rfl⟩
instance : Sz Tryz.prog 24 1 := ⟨by kernel_rfl⟩
instance : Zr Tryz.prog 24 [.nilFunc] := ⟨by kernel_rfl⟩
instance : Sc Tryz.prog 25 := ⟨_, Tryz.underlying25, rfl⟩
instance : Sz Tryz.prog 25 1 := ⟨by kernel_rfl⟩
instance : Zr Tryz.prog 25 [.nilFunc] := ⟨by kernel_rfl⟩
instance : Sc Tryz.prog 26 := ⟨_, Tryz.underlying26, rfl⟩
instance : Sz Tryz.prog 26 1 := ⟨by kernel_rfl⟩
instance : Zr Tryz.prog 26 [.nilFunc] := ⟨by kernel_rfl⟩
instance : Sc Tryz.prog 27 := ⟨_, Tryz.underlying27, rfl⟩
instance : Sz Tryz.prog 27 1 := ⟨by kernel_rfl⟩
instance : Zr Tryz.prog 27 [.slice none 0 0] := ⟨by kernel_rfl⟩
instance : SlT Tryz.prog 27 5 1 := ⟨Tryz.underlying27, by kernel_rfl⟩
instance : Sc Tryz.prog 28 := ⟨_, Tryz.underlying28, rfl⟩
instance : Sz Tryz.prog 28 1 := ⟨by kernel_rfl⟩
instance : Zr Tryz.prog 28 [.nilFunc] := ⟨by kernel_rfl⟩
instance : Sc Tryz.prog 29 := ⟨_, Tryz.underlying29, rfl⟩
instance : Sz Tryz.prog 29 1 := ⟨by kernel_rfl⟩
instance : Zr Tryz.prog 29 [.nilFunc] := ⟨by kernel_rfl⟩
instance : Sc Tryz.prog 31 := ⟨_, Tryz.underlying31, rfl⟩
instance : Sz Tryz.prog 31 1 := ⟨by kernel_rfl⟩
instance : Zr Tryz.prog 31 [.nilFunc] := ⟨by kernel_rfl⟩
instance : Ag Tryz.prog 32 3 := ⟨⟨_, Tryz.underlying32, rfl⟩, by kernel_rfl⟩
instance : Sz Tryz.prog 32 3 := ⟨by kernel_rfl⟩
instance : Zr Tryz.prog 32 [.int .i64 0, .int .i64 0, .int .i64 0] := ⟨by kernel_rfl⟩
instance : Ag Tryz.prog 33 3 := ⟨⟨_, Tryz.underlying33, rfl⟩, by kernel_rfl⟩
instance : Sz Tryz.prog 33 3 := ⟨by kernel_rfl⟩
instance : Zr Tryz.prog 33 [.int .i64 0, .int .i64 0, .int .i64 0] := ⟨by kernel_rfl⟩
instance : Ag Tryz.prog 34 4 := ⟨⟨_, Tryz.underlying34, rfl⟩, by kernel_rfl⟩
instance : Sz Tryz.prog 34 4 := ⟨by kernel_rfl⟩
instance : Zr Tryz.prog 34 [.int .i64 0, .int .i64 0, .int .i64 0, .int .i64 0] := ⟨by kernel_rfl⟩
instance : Ag Tryz.prog 35 4 := ⟨⟨_, Tryz.underlying35, rfl⟩, by kernel_rfl⟩
instance : Sz Tryz.prog 35 4 := ⟨by kernel_rfl⟩
instance : Zr Tryz.prog 35 [.int .i64 0, .int .i64 0, .int .i64 0, .int .i64 0] := ⟨by kernel_rfl⟩
instance : Ag Tryz.prog 36 8 := ⟨⟨_, Tryz.underlying36, rfl⟩, by kernel_rfl⟩
instance : Sz Tryz.prog 36 8 := ⟨by kernel_rfl⟩
instance : Zr Tryz.prog 36 [.int .i64 0, .int .i64 0, .int .i64 0, .int .i64 0, .int .i64 0, .int .i64 0, .int .i64 0, .int .i64 0] := ⟨by kernel_rfl⟩
instance : Ag Tryz.prog 37 8 := ⟨⟨_, Tryz.underlying37, rfl⟩, by kernel_rfl⟩
instance : Sz Tryz.prog 37 8 := ⟨by kernel_rfl⟩
instance : Zr Tryz.prog 37 [.int .i64 0, .int .i64 0, .int .i64 0, .int .i64 0, .int .i64 0, .int .i64 0, .int .i64 0, .int .i64 0] := ⟨by kernel_rfl⟩
instance : Sc Tryz.prog 39 := ⟨_, Tryz.underlying39, rfl⟩
instance : Sz Tryz.prog 39 1 := ⟨by kernel_rfl⟩
instance : Zr Tryz.prog 39 [.nilFunc] := ⟨by kernel_rfl⟩
instance : Sc Tryz.prog 40 := ⟨_, Tryz.underlying40, rfl⟩
instance : Sz Tryz.prog 40 1 := ⟨by kernel_rfl⟩
instance : Zr Tryz.prog 40 [.nilFunc] := ⟨by kernel_rfl⟩
instance : Sc Tryz.prog 42 := ⟨_, Tryz.underlying42, rfl⟩
instance : Sz Tryz.prog 42 1 := ⟨by kernel_rfl⟩
instance : Zr Tryz.prog 42 [.nilFunc] := ⟨by kernel_rfl⟩
instance : Sc Tryz.prog 43 := ⟨_, Tryz.underlying43, rfl⟩
instance : Sz Tryz.prog 43 1 := ⟨by kernel_rfl⟩
instance : Zr Tryz.prog 43 [.nilFunc] := ⟨by kernel_rfl⟩
instance : Sc Tryz.prog 45 := ⟨_, Tryz.underlying45, rfl⟩
instance : Sz Tryz.prog 45 1 := ⟨by kernel_rfl⟩
instance : Zr Tryz.prog 45 [.nilFunc] := ⟨by kernel_rfl⟩
instance : Sc Tryz.prog 46 := ⟨_, Tryz.underlying46, rfl⟩
instance : Sz Tryz.prog 46 1 := ⟨by kernel_rfl⟩
instance : Zr Tryz.prog 46 [.nilFunc] := ⟨by kernel_rfl⟩
instance : Sc Tryz.prog 47 := ⟨_, Tryz.underlying47, rfl⟩
instance : Sz Tryz.prog 47 1 := ⟨by kernel_rfl⟩
instance : Zr Tryz.prog 47 [.nilFunc] := ⟨by kernel_rfl⟩
instance : Sc Tryz.prog 48 := ⟨_, Tryz.underlying48, rfl⟩
instance : Sz Tryz.prog 48 1 := ⟨by kernel_rfl⟩
instance : Zr Tryz.prog 48 [.nilFunc] := ⟨by kernel_rfl⟩
instance : Ag Tryz.prog 49 6 := ⟨⟨_, Tryz.underlying49, rfl⟩, by kernel_rfl⟩
instance : Sz Tryz.prog 49 6 := ⟨by kernel_rfl⟩
instance : Zr Tryz.prog 49 [.int .i64 0, .int .i64 0, .int .i64 0, .int .i64 0, .int .i64 0, .int .i64 0] := ⟨by kernel_rfl⟩
instance : Ag Tryz.prog 50 6 := ⟨⟨_, Tryz.underlying50, rfl⟩, by kernel_rfl⟩
instance : Sz Tryz.prog 50 6 := ⟨by kernel_rfl⟩
instance : Zr Tryz.prog 50 [.int .i64 0, .int .i64 0, .int .i64 0, .int .i64 0, .int .i64 0, .int .i64 0] := ⟨by kernel_rfl⟩
instance : Sc Tryz.prog 51 := ⟨_, Tryz.underlying51, rfl⟩
instance : Sz Tryz.prog 51 1 := ⟨by kernel_rfl⟩
instance : Zr Tryz.prog 51 [.nilFunc] := ⟨by kernel_rfl⟩
instance : Sc Tryz.prog 52 := ⟨_, Tryz.underlying52, rfl⟩
instance : Sz Tryz.prog 52 1 := ⟨by kernel_rfl⟩
instance : Zr Tryz.prog 52 [.nilFunc] := ⟨by kernel_rfl⟩
instance : Sc Tryz.prog 53 := ⟨_, Tryz.underlying53, rfl⟩
instance : Sz Tryz.prog 53 1 := ⟨by kernel_rfl⟩
instance : Zr Tryz.prog 53 [.nilFunc] := ⟨by kernel_rfl⟩
instance : Sc Tryz.prog 54 := ⟨_, Tryz.underlying54, rfl⟩
instance : Sz Tryz.prog 54 1 := ⟨by kernel_rfl⟩
instance : Zr Tryz.prog 54 [.nilFunc] := ⟨by kernel_rfl⟩
instance : Ag Tryz.prog 55 15 := ⟨⟨_, Tryz.underlying55, rfl⟩, by kernel_rfl⟩
instance : Sz Tryz.prog 55 15 := ⟨by kernel_rfl⟩
instance : Zr Tryz.prog 55 [.int .i64 0, .int .i64 0, .int .i64 0, .int .i64 0, .int .i64 0, .int .i64 0, .int .i64 0, .int .i64 0, .int .i64 0, .int .i64 0, .int .i64 0, .int .i64 0, .int .i64 0, .int .i64 0, .int .i64 0] := ⟨by kernel_rfl⟩
instance : Ag Tryz.prog 56 15 := ⟨⟨_, Tryz.underlying56, rfl⟩, by kernel_rfl⟩
instance : Sz Tryz.prog 56 15 := ⟨by kernel_rfl⟩
instance : Zr Tryz.prog 56 [.int .i64 0, .int .i64 0, .int .i64 0, .int .i64 0, .int .i64 0, .int .i64 0, .int .i64 0, .int .i64 0, .int .i64 0, .int .i64 0, .int .i64 0, .int .i64 0, .int .i64 0, .int .i64 0, .int .i64 0] := ⟨by kernel_rfl⟩
instance : Sc Tryz.prog 58 := ⟨_, Tryz.underlying58, rfl⟩
instance : Sz Tryz.prog 58 1 := ⟨by kernel_rfl⟩
instance : Zr Tryz.prog 58 [.nilFunc] := ⟨by kernel_rfl⟩
instance : Sc Tryz.prog 59 := ⟨_, Tryz.underlying59, rfl⟩
instance : Sz Tryz.prog 59 1 := ⟨by kernel_rfl⟩
instance : Zr Tryz.prog 59 [.nilFunc] := ⟨by kernel_rfl⟩
instance : Sc Tryz.prog 60 := ⟨_, Tryz.underlying60, rfl⟩
instance : Sz Tryz.prog 60 1 := ⟨by kernel_rfl⟩
instance : Zr Tryz.prog 60 [.nilFunc] := ⟨by kernel_rfl⟩
instance : Sc Tryz.prog 61 := ⟨_, Tryz.underlying61, rfl⟩
instance : Sz Tryz.prog 61 1 := ⟨by kernel_rfl⟩
instance : Zr Tryz.prog 61 [.nilFunc] := ⟨by kernel_rfl⟩
instance : Sc Tryz.prog 62 := ⟨_, Tryz.underlying62, rfl⟩
instance : Sz Tryz.prog 62 1 := ⟨by kernel_rfl⟩
instance : Zr Tryz.prog 62 [.nilFunc] := ⟨by kernel_rfl⟩
instance : Sc Tryz.prog 63 := ⟨_, Tryz.underlying63, rfl⟩
instance : Sz Tryz.prog 63 1 := ⟨by kernel_rfl⟩
instance : Zr Tryz.prog 63 [.slice none 0 0] := ⟨by kernel_rfl⟩
instance : SlT Tryz.prog 63 3 1 := ⟨Tryz.underlying63, by kernel_rfl⟩
instance : Sc Tryz.prog 64 := ⟨_, Tryz.underlying64, rfl⟩
instance : Sz Tryz.prog 64 1 := ⟨by kernel_rfl⟩
instance : Zr Tryz.prog 64 [.nilFunc] := ⟨by kernel_rfl⟩
instance : Sc Tryz.prog 65 := ⟨_, Tryz.underlying65, rfl⟩
instance : Sz Tryz.prog 65 1 := ⟨by kernel_rfl⟩
instance : Zr Tryz.prog 65 [.pointer none] := ⟨by kernel_rfl⟩
instance : Sc Tryz.prog 66 := ⟨_, Tryz.underlying66, rfl⟩
instance : Sz Tryz.prog 66 1 := ⟨by kernel_rfl⟩
instance : Zr Tryz.prog 66 [.slice none 0 0] := ⟨by kernel_rfl⟩
instance : SlT Tryz.prog 66 71 10 := ⟨Tryz.underlying66, by kernel_rfl⟩
instance : Sc Tryz.prog 67 := ⟨_, Tryz.underlying67, rfl⟩
instance : Sz Tryz.prog 67 1 := ⟨by kernel_rfl⟩
instance : Zr Tryz.prog 67 [.slice none 0 0] := ⟨by kernel_rfl⟩
instance : SlT Tryz.prog 67 71 10 := ⟨Tryz.underlying67, by kernel_rfl⟩
instance : Sc Tryz.prog 68 := ⟨_, Tryz.underlying68, rfl⟩
instance : Sz Tryz.prog 68 1 := ⟨by kernel_rfl⟩
instance : Zr Tryz.prog 68 [.nilFunc] := ⟨by kernel_rfl⟩
instance : Sc Tryz.prog 69 := ⟨_, Tryz.underlying69, rfl⟩
instance : Sz Tryz.prog 69 1 := ⟨by kernel_rfl⟩
instance : Zr Tryz.prog 69 [.nilFunc] := ⟨by kernel_rfl⟩
instance : Ag Tryz.prog 70 10 := ⟨⟨_, Tryz.underlying70, rfl⟩, by kernel_rfl⟩
instance : Sz Tryz.prog 70 10 := ⟨by kernel_rfl⟩
instance : Zr Tryz.prog 70 [.int .i64 0, .int .i64 0, .int .i64 0, .int .i64 0, .int .i64 0, .int .i64 0, .int .i64 0, .int .i64 0, .int .i64 0, .int .i64 0] := ⟨by kernel_rfl⟩
instance : Ag Tryz.prog 71 10 := ⟨⟨_, Tryz.underlying71, rfl⟩, by kernel_rfl⟩
instance : Sz Tryz.prog 71 10 := ⟨by kernel_rfl⟩
instance : Zr Tryz.prog 71 [.int .i64 0, .int .i64 0, .int .i64 0, .int .i64 0, .int .i64 0, .int .i64 0, .int .i64 0, .int .i64 0, .int .i64 0, .int .i64 0] := ⟨by kernel_rfl⟩
instance : Sc Tryz.prog 72 := ⟨_, Tryz.underlying72, rfl⟩
instance : Sz Tryz.prog 72 1 := ⟨by kernel_rfl⟩
instance : Zr Tryz.prog 72 [.nilFunc] := ⟨by kernel_rfl⟩
instance : Sc Tryz.prog 73 := ⟨_, Tryz.underlying73, rfl⟩
instance : Sz Tryz.prog 73 1 := ⟨by kernel_rfl⟩
instance : Zr Tryz.prog 73 [.nilFunc] := ⟨by kernel_rfl⟩
instance : Sc Tryz.prog 74 := ⟨_, Tryz.underlying74, rfl⟩
instance : Sz Tryz.prog 74 1 := ⟨by kernel_rfl⟩
instance : Zr Tryz.prog 74 [.pointer none] := ⟨by kernel_rfl⟩
instance : Sc Tryz.prog 75 := ⟨_, Tryz.underlying75, rfl⟩
instance : Sz Tryz.prog 75 1 := ⟨by kernel_rfl⟩
instance : Zr Tryz.prog 75 [.nilFunc] := ⟨by kernel_rfl⟩
instance : Sc Tryz.prog 76 := ⟨_, Tryz.underlying76, rfl⟩
instance : Sz Tryz.prog 76 1 := ⟨by kernel_rfl⟩
instance : Zr Tryz.prog 76 [.nilFunc] := ⟨by kernel_rfl⟩
instance : Sc Tryz.prog 77 := ⟨_, Tryz.underlying77, rfl⟩
instance : Sz Tryz.prog 77 1 := ⟨by kernel_rfl⟩
instance : Zr Tryz.prog 77 [.nilFunc] := ⟨by kernel_rfl⟩
instance : Sc Tryz.prog 78 := ⟨_, Tryz.underlying78, rfl⟩
instance : Sz Tryz.prog 78 1 := ⟨by kernel_rfl⟩
instance : Zr Tryz.prog 78 [.nilFunc] := ⟨by kernel_rfl⟩
instance : Sc Tryz.prog 79 := ⟨_, Tryz.underlying79, rfl⟩
instance : Sz Tryz.prog 79 1 := ⟨by kernel_rfl⟩
instance : Zr Tryz.prog 79 [.nilFunc] := ⟨by kernel_rfl⟩
instance : Sc Tryz.prog 80 := ⟨_, Tryz.underlying80, rfl⟩
instance : Sz Tryz.prog 80 1 := ⟨by kernel_rfl⟩
instance : Zr Tryz.prog 80 [.nilFunc] := ⟨by kernel_rfl⟩
instance : Sc Tryz.prog 81 := ⟨_, Tryz.underlying81, rfl⟩
instance : Sz Tryz.prog 81 1 := ⟨by kernel_rfl⟩
instance : Zr Tryz.prog 81 [.pointer none] := ⟨by kernel_rfl⟩
instance : Ag Tryz.prog 82 2 := ⟨⟨_, Tryz.underlying82, rfl⟩, by kernel_rfl⟩
instance : Sz Tryz.prog 82 2 := ⟨by kernel_rfl⟩
instance : Zr Tryz.prog 82 [.string ByteArray.empty, .int .i64 0] := ⟨by kernel_rfl⟩
instance : Ag Tryz.prog 83 2 := ⟨⟨_, Tryz.underlying83, rfl⟩, by kernel_rfl⟩
instance : Sz Tryz.prog 83 2 := ⟨by kernel_rfl⟩
instance : Zr Tryz.prog 83 [.string ByteArray.empty, .int .i64 0] := ⟨by kernel_rfl⟩
instance : Sc Tryz.prog 87 := ⟨_, Tryz.underlying87, rfl⟩
instance : Sz Tryz.prog 87 1 := ⟨by kernel_rfl⟩
instance : Zr Tryz.prog 87 [.nilFunc] := ⟨by kernel_rfl⟩
instance : Sc Tryz.prog 88 := ⟨_, Tryz.underlying88, rfl⟩
instance : Sz Tryz.prog 88 1 := ⟨by kernel_rfl⟩
instance : Zr Tryz.prog 88 [.nilFunc] := ⟨by kernel_rfl⟩
instance : Sc Tryz.prog 90 := ⟨_, Tryz.underlying90, rfl⟩
instance : Sz Tryz.prog 90 1 := ⟨by kernel_rfl⟩
instance : Zr Tryz.prog 90 [.nilFunc] := ⟨by kernel_rfl⟩
instance : Sc Tryz.prog 92 := ⟨_, Tryz.underlying92, rfl⟩
instance : Sz Tryz.prog 92 1 := ⟨by kernel_rfl⟩
instance : Zr Tryz.prog 92 [.nilFunc] := ⟨by kernel_rfl⟩
instance : Sc Tryz.prog 94 := ⟨_, Tryz.underlying94, rfl⟩
instance : Sz Tryz.prog 94 1 := ⟨by kernel_rfl⟩
instance : Zr Tryz.prog 94 [.nilFunc] := ⟨by kernel_rfl⟩
instance : Sc Tryz.prog 95 := ⟨_, Tryz.underlying95, rfl⟩
instance : Sz Tryz.prog 95 1 := ⟨by kernel_rfl⟩
instance : Zr Tryz.prog 95 [.nilFunc] := ⟨by kernel_rfl⟩
instance : Sc Tryz.prog 96 := ⟨_, Tryz.underlying96, rfl⟩
instance : Sz Tryz.prog 96 1 := ⟨by kernel_rfl⟩
instance : Zr Tryz.prog 96 [.nilFunc] := ⟨by kernel_rfl⟩
instance : Sc Tryz.prog 98 := ⟨_, Tryz.underlying98, rfl⟩
instance : Sz Tryz.prog 98 1 := ⟨by kernel_rfl⟩
instance : Zr Tryz.prog 98 [.nilFunc] := ⟨by kernel_rfl⟩
instance : Ag Tryz.prog 99 2 := ⟨⟨_, Tryz.underlying99, rfl⟩, by kernel_rfl⟩
instance : Sz Tryz.prog 99 2 := ⟨by kernel_rfl⟩
instance : Zr Tryz.prog 99 [.int .i64 0, .int .i64 0] := ⟨by kernel_rfl⟩
instance : Ag Tryz.prog 100 2 := ⟨⟨_, Tryz.underlying100, rfl⟩, by kernel_rfl⟩
instance : Sz Tryz.prog 100 2 := ⟨by kernel_rfl⟩
instance : Zr Tryz.prog 100 [.int .i64 0, .int .i64 0] := ⟨by kernel_rfl⟩
instance : Sc Tryz.prog 102 := ⟨_, Tryz.underlying102, rfl⟩
instance : Sz Tryz.prog 102 1 := ⟨by kernel_rfl⟩
instance : Zr Tryz.prog 102 [.nilFunc] := ⟨by kernel_rfl⟩
instance : Sc Tryz.prog 103 := ⟨_, Tryz.underlying103, rfl⟩
instance : Sz Tryz.prog 103 1 := ⟨by kernel_rfl⟩
instance : Zr Tryz.prog 103 [.nilFunc] := ⟨by kernel_rfl⟩
instance : Sc Tryz.prog 104 := ⟨_, Tryz.underlying104, rfl⟩
instance : Sz Tryz.prog 104 1 := ⟨by kernel_rfl⟩
instance : Zr Tryz.prog 104 [.nilFunc] := ⟨by kernel_rfl⟩
instance : Sc Tryz.prog 105 := ⟨_, Tryz.underlying105, rfl⟩
instance : Sz Tryz.prog 105 1 := ⟨by kernel_rfl⟩
instance : Zr Tryz.prog 105 [.nilFunc] := ⟨by kernel_rfl⟩
instance : Sc Tryz.prog 106 := ⟨_, Tryz.underlying106, rfl⟩
instance : Sz Tryz.prog 106 1 := ⟨by kernel_rfl⟩
instance : Zr Tryz.prog 106 [.nilFunc] := ⟨by kernel_rfl⟩
instance : Sc Tryz.prog 107 := ⟨_, Tryz.underlying107, rfl⟩
instance : Sz Tryz.prog 107 1 := ⟨by kernel_rfl⟩
instance : Zr Tryz.prog 107 [.nilFunc] := ⟨by kernel_rfl⟩
instance : Sc Tryz.prog 108 := ⟨_, Tryz.underlying108, rfl⟩
instance : Sz Tryz.prog 108 1 := ⟨by kernel_rfl⟩
instance : Zr Tryz.prog 108 [.nilFunc] := ⟨by kernel_rfl⟩
instance : Sc Tryz.prog 109 := ⟨_, Tryz.underlying109, rfl⟩
instance : Sz Tryz.prog 109 1 := ⟨by kernel_rfl⟩
instance : Zr Tryz.prog 109 [.nilFunc] := ⟨by kernel_rfl⟩
instance : Sc Tryz.prog 110 := ⟨_, Tryz.underlying110, rfl⟩
instance : Sz Tryz.prog 110 1 := ⟨by kernel_rfl⟩
instance : Zr Tryz.prog 110 [.nilFunc] := ⟨by kernel_rfl⟩
instance : Sc Tryz.prog 111 := ⟨_, Tryz.underlying111, rfl⟩
instance : Sz Tryz.prog 111 1 := ⟨by kernel_rfl⟩
instance : Zr Tryz.prog 111 [.nilFunc] := ⟨by kernel_rfl⟩
instance : Sc Tryz.prog 112 := ⟨_, Tryz.underlying112, rfl⟩
instance : Sz Tryz.prog 112 1 := ⟨by kernel_rfl⟩
instance : Zr Tryz.prog 112 [.nilFunc] := ⟨by kernel_rfl⟩
instance : Sc Tryz.prog 113 := ⟨_, Tryz.underlying113, rfl⟩
instance : Sz Tryz.prog 113 1 := ⟨by kernel_rfl⟩
instance : Zr Tryz.prog 113 [.nilFunc] := ⟨by kernel_rfl⟩
instance : Sc Tryz.prog 114 := ⟨_, Tryz.underlying114, rfl⟩
instance : Sz Tryz.prog 114 1 := ⟨by kernel_rfl⟩
instance : Zr Tryz.prog 114 [.slice none 0 0] := ⟨by kernel_rfl⟩
instance : SlT Tryz.prog 114 118 3 := ⟨Tryz.underlying114, by kernel_rfl⟩
instance : Sc Tryz.prog 115 := ⟨_, Tryz.underlying115, rfl⟩
instance : Sz Tryz.prog 115 1 := ⟨by kernel_rfl⟩
instance : Zr Tryz.prog 115 [.nilFunc] := ⟨by kernel_rfl⟩
instance : Sc Tryz.prog 116 := ⟨_, Tryz.underlying116, rfl⟩
instance : Sz Tryz.prog 116 1 := ⟨by kernel_rfl⟩
instance : Zr Tryz.prog 116 [.pointer none] := ⟨by kernel_rfl⟩
instance : Ag Tryz.prog 117 3 := ⟨⟨_, Tryz.underlying117, rfl⟩, by kernel_rfl⟩
instance : Sz Tryz.prog 117 3 := ⟨by kernel_rfl⟩
instance : Zr Tryz.prog 117 [.int .u8 0, .bool false, .pointer none] := ⟨by kernel_rfl⟩
instance : Ag Tryz.prog 118 3 := ⟨⟨_, Tryz.underlying118, rfl⟩, by kernel_rfl⟩
instance : Sz Tryz.prog 118 3 := ⟨by kernel_rfl⟩
instance : Zr Tryz.prog 118 [.int .u8 0, .bool false, .pointer none] := ⟨by kernel_rfl⟩
instance : Sc Tryz.prog 119 := ⟨_, Tryz.underlying119, rfl⟩
instance : Sz Tryz.prog 119 1 := ⟨by kernel_rfl⟩
instance : Zr Tryz.prog 119 [.nilFunc] := ⟨by kernel_rfl⟩
instance : Sc Tryz.prog 120 := ⟨_, Tryz.underlying120, rfl⟩
instance : Sz Tryz.prog 120 1 := ⟨by kernel_rfl⟩
instance : Zr Tryz.prog 120 [.nilFunc] := ⟨by kernel_rfl⟩
instance : Sc Tryz.prog 121 := ⟨_, Tryz.underlying121, rfl⟩
instance : Sz Tryz.prog 121 1 := ⟨by kernel_rfl⟩
instance : Zr Tryz.prog 121 [.nilFunc] := ⟨by kernel_rfl⟩
instance : Sc Tryz.prog 122 := ⟨_, Tryz.underlying122, rfl⟩
instance : Sz Tryz.prog 122 1 := ⟨by kernel_rfl⟩
instance : Zr Tryz.prog 122 [.nilFunc] := ⟨by kernel_rfl⟩
instance : Sc Tryz.prog 123 := ⟨_, Tryz.underlying123, rfl⟩
instance : Sz Tryz.prog 123 1 := ⟨by kernel_rfl⟩
instance : Zr Tryz.prog 123 [.nilFunc] := ⟨by kernel_rfl⟩
instance : Sc Tryz.prog 124 := ⟨_, Tryz.underlying124, rfl⟩
instance : Sz Tryz.prog 124 1 := ⟨by kernel_rfl⟩
instance : Zr Tryz.prog 124 [.nilFunc] := ⟨by kernel_rfl⟩
instance : Sc Tryz.prog 125 := ⟨_, Tryz.underlying125, rfl⟩
instance : Sz Tryz.prog 125 1 := ⟨by kernel_rfl⟩
instance : Zr Tryz.prog 125 [.nilFunc] := ⟨by kernel_rfl⟩
instance : Sc Tryz.prog 126 := ⟨_, Tryz.underlying126, rfl⟩
instance : Sz Tryz.prog 126 1 := ⟨by kernel_rfl⟩
instance : Zr Tryz.prog 126 [.nilFunc] := ⟨by kernel_rfl⟩
instance : Sc Tryz.prog 127 := ⟨_, Tryz.underlying127, rfl⟩
instance : Sz Tryz.prog 127 1 := ⟨by kernel_rfl⟩
instance : Zr Tryz.prog 127 [.nilFunc] := ⟨by kernel_rfl⟩
instance : Sc Tryz.prog 128 := ⟨_, Tryz.underlying128, rfl⟩
instance : Sz Tryz.prog 128 1 := ⟨by kernel_rfl⟩
instance : Zr Tryz.prog 128 [.nilFunc] := ⟨by kernel_rfl⟩
instance : Sc Tryz.prog 129 := ⟨_, Tryz.underlying129, rfl⟩
instance : Sz Tryz.prog 129 1 := ⟨by kernel_rfl⟩
instance : Zr Tryz.prog 129 [.nilFunc] := ⟨by kernel_rfl⟩
instance : Sc Tryz.prog 131 := ⟨_, Tryz.underlying131, rfl⟩
instance : Sz Tryz.prog 131 1 := ⟨by kernel_rfl⟩
instance : Zr Tryz.prog 131 [.nilFunc] := ⟨by kernel_rfl⟩
instance : Sc Tryz.prog 132 := ⟨_, Tryz.underlying132, rfl⟩
instance : Sz Tryz.prog 132 1 := ⟨by kernel_rfl⟩
instance : Zr Tryz.prog 132 [.nilFunc] := ⟨by kernel_rfl⟩
instance : Sc Tryz.prog 133 := ⟨_, Tryz.underlying133, rfl⟩
instance : Sz Tryz.prog 133 1 := ⟨by kernel_rfl⟩
instance : Zr Tryz.prog 133 [.nilFunc] := ⟨by kernel_rfl⟩
instance : Sc Tryz.prog 134 := ⟨_, Tryz.underlying134, rfl⟩
instance : Sz Tryz.prog 134 1 := ⟨by kernel_rfl⟩
instance : Zr Tryz.prog 134 [.nilFunc] := ⟨by kernel_rfl⟩
instance : Sc Tryz.prog 135 := ⟨_, Tryz.underlying135, rfl⟩
instance : Sz Tryz.prog 135 1 := ⟨by kernel_rfl⟩
instance : Zr Tryz.prog 135 [.nilIface] := ⟨by kernel_rfl⟩
instance : Sc Tryz.prog 136 := ⟨_, Tryz.underlying136, rfl⟩
instance : Sz Tryz.prog 136 1 := ⟨by kernel_rfl⟩
instance : Zr Tryz.prog 136 [.nilIface] := ⟨by kernel_rfl⟩
instance : Sc Tryz.prog 137 := ⟨_, Tryz.underlying137, rfl⟩
instance : Sz Tryz.prog 137 1 := ⟨by kernel_rfl⟩
instance : Zr Tryz.prog 137 [.nilFunc] := ⟨by kernel_rfl⟩
instance : Sc Tryz.prog 138 := ⟨_, Tryz.underlying138, rfl⟩
instance : Sz Tryz.prog 138 1 := ⟨by kernel_rfl⟩
instance : Zr Tryz.prog 138 [.nilFunc] := ⟨by kernel_rfl⟩
instance : Ag Tryz.prog 139 9 := ⟨⟨_, Tryz.underlying139, rfl⟩, by kernel_rfl⟩
instance : Sz Tryz.prog 139 9 := ⟨by kernel_rfl⟩
instance : Zr Tryz.prog 139 [.int .i64 0, .int .i64 0, .int .i64 0, .int .i64 0, .int .i64 0, .int .i64 0, .int .i64 0, .int .i64 0, .int .i64 0] := ⟨by kernel_rfl⟩
instance : Ag Tryz.prog 140 9 := ⟨⟨_, Tryz.underlying140, rfl⟩, by kernel_rfl⟩
instance : Sz Tryz.prog 140 9 := ⟨by kernel_rfl⟩
instance : Zr Tryz.prog 140 [.int .i64 0, .int .i64 0, .int .i64 0, .int .i64 0, .int .i64 0, .int .i64 0, .int .i64 0, .int .i64 0, .int .i64 0] := ⟨by kernel_rfl⟩
instance : Sc Tryz.prog 141 := ⟨_, Tryz.underlying141, rfl⟩
instance : Sz Tryz.prog 141 1 := ⟨by kernel_rfl⟩
instance : Zr Tryz.prog 141 [.nilFunc] := ⟨by kernel_rfl⟩
instance : Sc Tryz.prog 142 := ⟨_, Tryz.underlying142, rfl⟩
instance : Sz Tryz.prog 142 1 := ⟨by kernel_rfl⟩
instance : Zr Tryz.prog 142 [.nilFunc] := ⟨by kernel_rfl⟩
instance : Sc Tryz.prog 143 := ⟨_, Tryz.underlying143, rfl⟩
instance : Sz Tryz.prog 143 1 := ⟨by kernel_rfl⟩
instance : Zr Tryz.prog 143 [.nilFunc] := ⟨by kernel_rfl⟩
instance : Sc Tryz.prog 144 := ⟨_, Tryz.underlying144, rfl⟩
instance : Sz Tryz.prog 144 1 := ⟨by kernel_rfl⟩
instance : Zr Tryz.prog 144 [.nilFunc] := ⟨by kernel_rfl⟩
instance : Ag Tryz.prog 145 2 := ⟨⟨_, Tryz.underlying145, rfl⟩, by kernel_rfl⟩
instance : Sz Tryz.prog 145 2 := ⟨by kernel_rfl⟩
instance : Zr Tryz.prog 145 [.slice none 0 0, .int .i64 0] := ⟨by kernel_rfl⟩
instance : Ag Tryz.prog 146 2 := ⟨⟨_, Tryz.underlying146, rfl⟩, by kernel_rfl⟩
instance : Sz Tryz.prog 146 2 := ⟨by kernel_rfl⟩
instance : Zr Tryz.prog 146 [.slice none 0 0, .int .i64 0] := ⟨by kernel_rfl⟩
instance : Sc Tryz.prog 147 := ⟨_, Tryz.underlying147, rfl⟩
instance : Sz Tryz.prog 147 1 := ⟨by kernel_rfl⟩
instance : Zr Tryz.prog 147 [.nilFunc] := ⟨by kernel_rfl⟩
instance : Sc Tryz.prog 148 := ⟨_, Tryz.underlying148, rfl⟩
instance : Sz Tryz.prog 148 1 := ⟨by kernel_rfl⟩
instance : Zr Tryz.prog 148 [.nilFunc] := ⟨by kernel_rfl⟩
instance : Sc Tryz.prog 149 := ⟨_, Tryz.underlying149, rfl⟩
instance : Sz Tryz.prog 149 1 := ⟨by kernel_rfl⟩
instance : Zr Tryz.prog 149 [.slice none 0 0] := ⟨by kernel_rfl⟩
instance : SlT Tryz.prog 149 4 1 := ⟨Tryz.underlying149, by kernel_rfl⟩
instance : Sc Tryz.prog 150 := ⟨_, Tryz.underlying150, rfl⟩
instance : Sz Tryz.prog 150 1 := ⟨by kernel_rfl⟩
instance : Zr Tryz.prog 150 [.nilIface] := ⟨by kernel_rfl⟩
instance : Sc Tryz.prog 151 := ⟨_, Tryz.underlying151, rfl⟩
instance : Sz Tryz.prog 151 1 := ⟨by kernel_rfl⟩
instance : Zr Tryz.prog 151 [.nilIface] := ⟨by kernel_rfl⟩
instance : Sc Tryz.prog 153 := ⟨_, Tryz.underlying153, rfl⟩
instance : Sz Tryz.prog 153 1 := ⟨by kernel_rfl⟩
instance : Zr Tryz.prog 153 [.nilFunc] := ⟨by kernel_rfl⟩
instance : Sc Tryz.prog 154 := ⟨_, Tryz.underlying154, rfl⟩
instance : Sz Tryz.prog 154 1 := ⟨by kernel_rfl⟩
instance : Zr Tryz.prog 154 [.pointer none] := ⟨by kernel_rfl⟩
instance : Sc Tryz.prog 155 := ⟨_, Tryz.underlying155, rfl⟩
instance : Sz Tryz.prog 155 1 := ⟨by kernel_rfl⟩
instance : Zr Tryz.prog 155 [.nilFunc] := ⟨by kernel_rfl⟩
instance : Sc Tryz.prog 156 := ⟨_, Tryz.underlying156, rfl⟩
instance : Sz Tryz.prog 156 1 := ⟨by kernel_rfl⟩
instance : Zr Tryz.prog 156 [.pointer none] := ⟨by kernel_rfl⟩
instance : Sc Tryz.prog 157 := ⟨_, Tryz.underlying157, rfl⟩
instance : Sz Tryz.prog 157 1 := ⟨by kernel_rfl⟩
instance : Zr Tryz.prog 157 [.nilFunc] := ⟨by kernel_rfl⟩
instance : Sc Tryz.prog 158 := ⟨_, Tryz.underlying158, rfl⟩
instance : Sz Tryz.prog 158 1 := ⟨by kernel_rfl⟩
instance : Zr Tryz.prog 158 [.nilFunc] := ⟨by kernel_rfl⟩
instance : Sc Tryz.prog 159 := ⟨_, Tryz.underlying159, rfl⟩
instance : Sz Tryz.prog 159 1 := ⟨by kernel_rfl⟩
instance : Zr Tryz.prog 159 [.nilFunc] := ⟨by kernel_rfl⟩
instance : Ag Tryz.prog 160 16 := ⟨⟨_, Tryz.underlying160, rfl⟩, by kernel_rfl⟩
instance : Sz Tryz.prog 160 16 := ⟨by kernel_rfl⟩
instance : Zr Tryz.prog 160 [.int .i64 0, .int .i64 0, .int .i64 0, .int .i64 0, .int .i64 0, .int .i64 0, .int .i64 0, .int .i64 0, .int .i64 0, .int .i64 0, .int .i64 0, .int .i64 0, .int .i64 0, .int .i64 0, .int .i64 0, .int .i64 0] := ⟨by kernel_rfl⟩
instance : Ag Tryz.prog 161 16 := ⟨⟨_, Tryz.underlying161, rfl⟩, by kernel_rfl⟩
instance : Sz Tryz.prog 161 16 := ⟨by kernel_rfl⟩
instance : Zr Tryz.prog 161 [.int .i64 0, .int .i64 0, .int .i64 0, .int .i64 0, .int .i64 0, .int .i64 0, .int .i64 0, .int .i64 0, .int .i64 0, .int .i64 0, .int .i64 0, .int .i64 0, .int .i64 0, .int .i64 0, .int .i64 0, .int .i64 0] := ⟨by kernel_rfl⟩
instance : Sc Tryz.prog 162 := ⟨_, Tryz.underlying162, rfl⟩
instance : Sz Tryz.prog 162 1 := ⟨by kernel_rfl⟩
instance : Zr Tryz.prog 162 [.nilFunc] := ⟨by kernel_rfl⟩
instance : Sc Tryz.prog 163 := ⟨_, Tryz.underlying163, rfl⟩
instance : Sz Tryz.prog 163 1 := ⟨by kernel_rfl⟩
instance : Zr Tryz.prog 163 [.nilFunc] := ⟨by kernel_rfl⟩
instance : Sc Tryz.prog 164 := ⟨_, Tryz.underlying164, rfl⟩
instance : Sz Tryz.prog 164 1 := ⟨by kernel_rfl⟩
instance : Zr Tryz.prog 164 [.nilIface] := ⟨by kernel_rfl⟩
instance : Sc Tryz.prog 165 := ⟨_, Tryz.underlying165, rfl⟩
instance : Sz Tryz.prog 165 1 := ⟨by kernel_rfl⟩
instance : Zr Tryz.prog 165 [.nilIface] := ⟨by kernel_rfl⟩
instance : Sc Tryz.prog 166 := ⟨_, Tryz.underlying166, rfl⟩
instance : Sz Tryz.prog 166 1 := ⟨by kernel_rfl⟩
instance : Zr Tryz.prog 166 [.nilFunc] := ⟨by kernel_rfl⟩
instance : Sc Tryz.prog 167 := ⟨_, Tryz.underlying167, rfl⟩
instance : Sz Tryz.prog 167 1 := ⟨by kernel_rfl⟩
instance : Zr Tryz.prog 167 [.nilFunc] := ⟨by kernel_rfl⟩
instance : Sc Tryz.prog 168 := ⟨_, Tryz.underlying168, rfl⟩
instance : Sz Tryz.prog 168 1 := ⟨by kernel_rfl⟩
instance : Zr Tryz.prog 168 [.nilFunc] := ⟨by kernel_rfl⟩
instance : Sc Tryz.prog 169 := ⟨_, Tryz.underlying169, rfl⟩
instance : Sz Tryz.prog 169 1 := ⟨by kernel_rfl⟩
instance : Zr Tryz.prog 169 [.int .u64 0] := ⟨by kernel_rfl⟩
instance : Sc Tryz.prog 170 := ⟨_, Tryz.underlying170, rfl⟩
instance : Sz Tryz.prog 170 1 := ⟨by kernel_rfl⟩
instance : Zr Tryz.prog 170 [.nilFunc] := ⟨by kernel_rfl⟩
instance : Sc Tryz.prog 171 := ⟨_, Tryz.underlying171, rfl⟩
instance : Sz Tryz.prog 171 1 := ⟨by kernel_rfl⟩
instance : Zr Tryz.prog 171 [.pointer none] := ⟨by kernel_rfl⟩
instance : Sc Tryz.prog 172 := ⟨_, Tryz.underlying172, rfl⟩
instance : Sz Tryz.prog 172 1 := ⟨by kernel_rfl⟩
instance : Zr Tryz.prog 172 [.nilFunc] := ⟨by kernel_rfl⟩
instance : Sc Tryz.prog 173 := ⟨_, Tryz.underlying173, rfl⟩
instance : Sz Tryz.prog 173 1 := ⟨by kernel_rfl⟩
instance : Zr Tryz.prog 173 [.nilFunc] := ⟨by kernel_rfl⟩
instance : Sc Tryz.prog 174 := ⟨_, Tryz.underlying174, rfl⟩
instance : Sz Tryz.prog 174 1 := ⟨by kernel_rfl⟩
instance : Zr Tryz.prog 174 [.nilFunc] := ⟨by kernel_rfl⟩
instance : Sc Tryz.prog 175 := ⟨_, Tryz.underlying175, rfl⟩
instance : Sz Tryz.prog 175 1 := ⟨by kernel_rfl⟩
instance : Zr Tryz.prog 175 [.nilFunc] := ⟨by kernel_rfl⟩
instance : Sc Tryz.prog 176 := ⟨_, Tryz.underlying176, rfl⟩
instance : Sz Tryz.prog 176 1 := ⟨by kernel_rfl⟩
instance : Zr Tryz.prog 176 [.nilFunc] := ⟨by kernel_rfl⟩
instance : Sc Tryz.prog 177 := ⟨_, Tryz.underlying177, rfl⟩
instance : Sz Tryz.prog 177 1 := ⟨by kernel_rfl⟩
instance : Zr Tryz.prog 177 [.nilFunc] := ⟨by kernel_rfl⟩
instance : Sc Tryz.prog 178 := ⟨_, Tryz.underlying178, rfl⟩
instance : Sz Tryz.prog 178 1 := ⟨by kernel_rfl⟩
instance : Zr Tryz.prog 178 [.nilFunc] := ⟨by kernel_rfl⟩
instance : Sc Tryz.prog 179 := ⟨_, Tryz.underlying179, rfl⟩
instance : Sz Tryz.prog 179 1 := ⟨by kernel_rfl⟩
instance : Zr Tryz.prog 179 [.nilFunc] := ⟨by kernel_rfl⟩
instance : Sc Tryz.prog 180 := ⟨_, Tryz.underlying180, rfl⟩
instance : Sz Tryz.prog 180 1 := ⟨by kernel_rfl⟩
instance : Zr Tryz.prog 180 [.nilFunc] := ⟨by kernel_rfl⟩
instance : Sc Tryz.prog 182 := ⟨_, Tryz.underlying182, rfl⟩
instance : Sz Tryz.prog 182 1 := ⟨by kernel_rfl⟩
instance : Zr Tryz.prog 182 [.nilFunc] := ⟨by kernel_rfl⟩
instance : Sc Tryz.prog 183 := ⟨_, Tryz.underlying183, rfl⟩
instance : Sz Tryz.prog 183 1 := ⟨by kernel_rfl⟩
instance : Zr Tryz.prog 183 [.nilFunc] := ⟨by kernel_rfl⟩
instance : Ag Tryz.prog 184 3 := ⟨⟨_, Tryz.underlying184, rfl⟩, by kernel_rfl⟩
instance : Sz Tryz.prog 184 3 := ⟨by kernel_rfl⟩
instance : Zr Tryz.prog 184 [.int .i64 0, .int .i64 0, .int .i64 0] := ⟨by kernel_rfl⟩
instance : Ag Tryz.prog 185 3 := ⟨⟨_, Tryz.underlying185, rfl⟩, by kernel_rfl⟩
instance : Sz Tryz.prog 185 3 := ⟨by kernel_rfl⟩
instance : Zr Tryz.prog 185 [.int .i64 0, .int .i64 0, .int .i64 0] := ⟨by kernel_rfl⟩
instance : Sc Tryz.prog 187 := ⟨_, Tryz.underlying187, rfl⟩
instance : Sz Tryz.prog 187 1 := ⟨by kernel_rfl⟩
instance : Zr Tryz.prog 187 [.nilFunc] := ⟨by kernel_rfl⟩
instance : Sc Tryz.prog 188 := ⟨_, Tryz.underlying188, rfl⟩
instance : Sz Tryz.prog 188 1 := ⟨by kernel_rfl⟩
instance : Zr Tryz.prog 188 [.nilFunc] := ⟨by kernel_rfl⟩
instance : Sc Tryz.prog 189 := ⟨_, Tryz.underlying189, rfl⟩
instance : Sz Tryz.prog 189 1 := ⟨by kernel_rfl⟩
instance : Zr Tryz.prog 189 [.nilFunc] := ⟨by kernel_rfl⟩
instance : Ag Tryz.prog 190 3 := ⟨⟨_, Tryz.underlying190, rfl⟩, by kernel_rfl⟩
instance : Sz Tryz.prog 190 3 := ⟨by kernel_rfl⟩
instance : Zr Tryz.prog 190 [.int .i64 0, .int .i64 0, .int .i64 0] := ⟨by kernel_rfl⟩
instance : Ag Tryz.prog 191 1 := ⟨⟨_, Tryz.underlying191, rfl⟩, by kernel_rfl⟩
instance : Sz Tryz.prog 191 1 := ⟨by kernel_rfl⟩
instance : Zr Tryz.prog 191 [.int .i64 0] := ⟨by kernel_rfl⟩
instance : Ag Tryz.prog 192 1 := ⟨⟨_, Tryz.underlying192, rfl⟩, by kernel_rfl⟩
instance : Sz Tryz.prog 192 1 := ⟨by kernel_rfl⟩
instance : Zr Tryz.prog 192 [.int .i64 0] := ⟨by kernel_rfl⟩
instance : Sc Tryz.prog 193 := ⟨_, Tryz.underlying193, rfl⟩
instance : Sz Tryz.prog 193 1 := ⟨by kernel_rfl⟩
instance : Zr Tryz.prog 193 [.pointer none] := ⟨by kernel_rfl⟩
instance : Sc Tryz.prog 194 := ⟨_, Tryz.underlying194, rfl⟩
instance : Sz Tryz.prog 194 1 := ⟨by kernel_rfl⟩
instance : Zr Tryz.prog 194 [.int .u64 0] := ⟨by kernel_rfl⟩
instance : Ag Tryz.prog 195 3 := ⟨⟨_, Tryz.underlying195, rfl⟩, by kernel_rfl⟩
instance : Sz Tryz.prog 195 3 := ⟨by kernel_rfl⟩
instance : Zr Tryz.prog 195 [.pointer none, .pointer none, .int .u64 0] := ⟨by kernel_rfl⟩
instance : Ag Tryz.prog 196 3 := ⟨⟨_, Tryz.underlying196, rfl⟩, by kernel_rfl⟩
instance : Sz Tryz.prog 196 3 := ⟨by kernel_rfl⟩
instance : Zr Tryz.prog 196 [.pointer none, .pointer none, .int .u64 0] := ⟨by kernel_rfl⟩
instance : Sc Tryz.prog 197 := ⟨_, Tryz.underlying197, rfl⟩
instance : Sz Tryz.prog 197 1 := ⟨by kernel_rfl⟩
instance : Zr Tryz.prog 197 [.nilFunc] := ⟨by kernel_rfl⟩
instance : Sc Tryz.prog 198 := ⟨_, Tryz.underlying198, rfl⟩
instance : Sz Tryz.prog 198 1 := ⟨by kernel_rfl⟩
instance : Zr Tryz.prog 198 [.nilIface] := ⟨by kernel_rfl⟩
instance : Sc Tryz.prog 199 := ⟨_, Tryz.underlying199, rfl⟩
instance : Sz Tryz.prog 199 1 := ⟨by kernel_rfl⟩
instance : Zr Tryz.prog 199 [.nilIface] := ⟨by kernel_rfl⟩
instance : Sc Tryz.prog 200 := ⟨_, Tryz.underlying200, rfl⟩
instance : Sz Tryz.prog 200 1 := ⟨by kernel_rfl⟩
instance : Zr Tryz.prog 200 [.nilFunc] := ⟨by kernel_rfl⟩
instance : Sc Tryz.prog 201 := ⟨_, Tryz.underlying201, rfl⟩
instance : Sz Tryz.prog 201 1 := ⟨by kernel_rfl⟩
instance : Zr Tryz.prog 201 [.int .u8 0] := ⟨by kernel_rfl⟩
instance : Sc Tryz.prog 202 := ⟨_, Tryz.underlying202, rfl⟩
instance : Sz Tryz.prog 202 1 := ⟨by kernel_rfl⟩
instance : Zr Tryz.prog 202 [.nilFunc] := ⟨by kernel_rfl⟩
instance : Sc Tryz.prog 203 := ⟨_, Tryz.underlying203, rfl⟩
instance : Sz Tryz.prog 203 1 := ⟨by kernel_rfl⟩
instance : Zr Tryz.prog 203 [.nilFunc] := ⟨by kernel_rfl⟩
instance : Sc Tryz.prog 204 := ⟨_, Tryz.underlying204, rfl⟩
instance : Sz Tryz.prog 204 1 := ⟨by kernel_rfl⟩
instance : Zr Tryz.prog 204 [.nilFunc] := ⟨by kernel_rfl⟩
instance : Sc Tryz.prog 205 := ⟨_, Tryz.underlying205, rfl⟩
instance : Sz Tryz.prog 205 1 := ⟨by kernel_rfl⟩
instance : Zr Tryz.prog 205 [.nilFunc] := ⟨by kernel_rfl⟩
instance : Sc Tryz.prog 206 := ⟨_, Tryz.underlying206, rfl⟩
instance : Sz Tryz.prog 206 1 := ⟨by kernel_rfl⟩
instance : Zr Tryz.prog 206 [.nilFunc] := ⟨by kernel_rfl⟩
instance : Sc Tryz.prog 207 := ⟨_, Tryz.underlying207, rfl⟩
instance : Sz Tryz.prog 207 1 := ⟨by kernel_rfl⟩
instance : Zr Tryz.prog 207 [.nilFunc] := ⟨by kernel_rfl⟩
instance : Sc Tryz.prog 208 := ⟨_, Tryz.underlying208, rfl⟩
instance : Sz Tryz.prog 208 1 := ⟨by kernel_rfl⟩
instance : Zr Tryz.prog 208 [.nilFunc] := ⟨by kernel_rfl⟩
instance : Ag Tryz.prog 209 12 := ⟨⟨_, Tryz.underlying209, rfl⟩, by kernel_rfl⟩
instance : Sz Tryz.prog 209 12 := ⟨by kernel_rfl⟩
instance : Zr Tryz.prog 209 [.int .i64 0, .int .i64 0, .int .i64 0, .int .i64 0, .int .i64 0, .int .i64 0, .int .i64 0, .int .i64 0, .int .i64 0, .int .i64 0, .int .i64 0, .int .i64 0] := ⟨by kernel_rfl⟩
instance : Sc Tryz.prog 210 := ⟨_, Tryz.underlying210, rfl⟩
instance : Sz Tryz.prog 210 1 := ⟨by kernel_rfl⟩
instance : Zr Tryz.prog 210 [.nilFunc] := ⟨by kernel_rfl⟩
instance : Sc Tryz.prog 214 := ⟨_, Tryz.underlying214, rfl⟩
instance : Sz Tryz.prog 214 1 := ⟨by kernel_rfl⟩
instance : Zr Tryz.prog 214 [.nilFunc] := ⟨by kernel_rfl⟩
instance : Sc Tryz.prog 215 := ⟨_, Tryz.underlying215, rfl⟩
instance : Sz Tryz.prog 215 1 := ⟨by kernel_rfl⟩
instance : Zr Tryz.prog 215 [.nilFunc] := ⟨by kernel_rfl⟩
instance : Sc Tryz.prog 216 := ⟨_, Tryz.underlying216, rfl⟩
instance : Sz Tryz.prog 216 1 := ⟨by kernel_rfl⟩
instance : Zr Tryz.prog 216 [.pointer none] := ⟨by kernel_rfl⟩
instance : Sc Tryz.prog 217 := ⟨_, Tryz.underlying217, rfl⟩
instance : Sz Tryz.prog 217 1 := ⟨by kernel_rfl⟩
instance : Zr Tryz.prog 217 [.nilFunc] := ⟨by kernel_rfl⟩
instance : Sc Tryz.prog 218 := ⟨_, Tryz.underlying218, rfl⟩
instance : Sz Tryz.prog 218 1 := ⟨by kernel_rfl⟩
instance : Zr Tryz.prog 218 [.nilFunc] := ⟨by kernel_rfl⟩
instance : Sc Tryz.prog 219 := ⟨_, Tryz.underlying219, rfl⟩
instance : Sz Tryz.prog 219 1 := ⟨by kernel_rfl⟩
instance : Zr Tryz.prog 219 [.nilFunc] := ⟨by kernel_rfl⟩
instance : Sc Tryz.prog 220 := ⟨_, Tryz.underlying220, rfl⟩
instance : Sz Tryz.prog 220 1 := ⟨by kernel_rfl⟩
instance : Zr Tryz.prog 220 [.nilFunc] := ⟨by kernel_rfl⟩
instance : Sc Tryz.prog 221 := ⟨_, Tryz.underlying221, rfl⟩
instance : Sz Tryz.prog 221 1 := ⟨by kernel_rfl⟩
instance : Zr Tryz.prog 221 [.nilFunc] := ⟨by kernel_rfl⟩
instance : Ag Tryz.prog 222 1 := ⟨⟨_, Tryz.underlying222, rfl⟩, by kernel_rfl⟩
instance : Sz Tryz.prog 222 1 := ⟨by kernel_rfl⟩
instance : Zr Tryz.prog 222 [.pointer none] := ⟨by kernel_rfl⟩
instance : Ag Tryz.prog 223 1 := ⟨⟨_, Tryz.underlying223, rfl⟩, by kernel_rfl⟩
instance : Sz Tryz.prog 223 1 := ⟨by kernel_rfl⟩
instance : Zr Tryz.prog 223 [.pointer none] := ⟨by kernel_rfl⟩
instance : Sc Tryz.prog 224 := ⟨_, Tryz.underlying224, rfl⟩
instance : Sz Tryz.prog 224 1 := ⟨by kernel_rfl⟩
instance : Zr Tryz.prog 224 [.pointer none] := ⟨by kernel_rfl⟩
instance : Sc Tryz.prog 225 := ⟨_, Tryz.underlying225, rfl⟩
instance : Sz Tryz.prog 225 1 := ⟨by kernel_rfl⟩
instance : Zr Tryz.prog 225 [.nilFunc] := ⟨by kernel_rfl⟩
instance : Sc Tryz.prog 226 := ⟨_, Tryz.underlying226, rfl⟩
instance : Sz Tryz.prog 226 1 := ⟨by kernel_rfl⟩
instance : Zr Tryz.prog 226 [.nilFunc] := ⟨by kernel_rfl⟩
instance : Sc Tryz.prog 227 := ⟨_, Tryz.underlying227, rfl⟩
instance : Sz Tryz.prog 227 1 := ⟨by kernel_rfl⟩
instance : Zr Tryz.prog 227 [.nilFunc] := ⟨by kernel_rfl⟩
instance : Sc Tryz.prog 228 := ⟨_, Tryz.underlying228, rfl⟩
instance : Sz Tryz.prog 228 1 := ⟨by kernel_rfl⟩
instance : Zr Tryz.prog 228 [.nilIface] := ⟨by kernel_rfl⟩
instance : Sc Tryz.prog 230 := ⟨_, Tryz.underlying230, rfl⟩
instance : Sz Tryz.prog 230 1 := ⟨by kernel_rfl⟩
instance : Zr Tryz.prog 230 [.nilFunc] := ⟨by kernel_rfl⟩
instance : Sc Tryz.prog 231 := ⟨_, Tryz.underlying231, rfl⟩
instance : Sz Tryz.prog 231 1 := ⟨by kernel_rfl⟩
instance : Zr Tryz.prog 231 [.nilIface] := ⟨by kernel_rfl⟩
instance : Sc Tryz.prog 232 := ⟨_, Tryz.underlying232, rfl⟩
instance : Sz Tryz.prog 232 1 := ⟨by kernel_rfl⟩
instance : Zr Tryz.prog 232 [.nilFunc] := ⟨by kernel_rfl⟩
instance : Sc Tryz.prog 233 := ⟨_, Tryz.underlying233, rfl⟩
instance : Sz Tryz.prog 233 1 := ⟨by kernel_rfl⟩
instance : Zr Tryz.prog 233 [.nilIface] := ⟨by kernel_rfl⟩
instance : Sc Tryz.prog 234 := ⟨_, Tryz.underlying234, rfl⟩
instance : Sz Tryz.prog 234 1 := ⟨by kernel_rfl⟩
instance : Zr Tryz.prog 234 [.slice none 0 0] := ⟨by kernel_rfl⟩
instance : SlT Tryz.prog 234 151 1 := ⟨Tryz.underlying234, by kernel_rfl⟩
instance : Sc Tryz.prog 235 := ⟨_, Tryz.underlying235, rfl⟩
instance : Sz Tryz.prog 235 1 := ⟨by kernel_rfl⟩
instance : Zr Tryz.prog 235 [.nilFunc] := ⟨by kernel_rfl⟩
instance : Sc Tryz.prog 236 := ⟨_, Tryz.underlying236, rfl⟩
instance : Sz Tryz.prog 236 1 := ⟨by kernel_rfl⟩
instance : Zr Tryz.prog 236 [.nilFunc] := ⟨by kernel_rfl⟩
instance : Sc Tryz.prog 238 := ⟨_, Tryz.underlying238, rfl⟩
instance : Sz Tryz.prog 238 1 := ⟨by kernel_rfl⟩
instance : Zr Tryz.prog 238 [.nilFunc] := ⟨by kernel_rfl⟩
instance : Sc Tryz.prog 239 := ⟨_, Tryz.underlying239, rfl⟩
instance : Sz Tryz.prog 239 1 := ⟨by kernel_rfl⟩
instance : Zr Tryz.prog 239 [.nilFunc] := ⟨by kernel_rfl⟩
instance : Ag Tryz.prog 240 24 := ⟨⟨_, Tryz.underlying240, rfl⟩, by kernel_rfl⟩
instance : Sz Tryz.prog 240 24 := ⟨by kernel_rfl⟩
instance : Zr Tryz.prog 240 [.int .u8 0, .int .u8 0, .int .u8 0, .int .u8 0, .int .u8 0, .int .u8 0, .int .u8 0, .int .u8 0, .int .u8 0, .int .u8 0, .int .u8 0, .int .u8 0, .int .u8 0, .int .u8 0, .int .u8 0, .int .u8 0, .int .u8 0, .int .u8 0, .int .u8 0, .int .u8 0, .int .u8 0, .int .u8 0, .int .u8 0, .int .u8 0] := ⟨by kernel_rfl⟩
instance : Sc Tryz.prog 241 := ⟨_, Tryz.underlying241, rfl⟩
instance : Sz Tryz.prog 241 1 := ⟨by kernel_rfl⟩
instance : Zr Tryz.prog 241 [.int .u64 0] := ⟨by kernel_rfl⟩
instance : Sc Tryz.prog 242 := ⟨_, Tryz.underlying242, rfl⟩
instance : Sz Tryz.prog 242 1 := ⟨by kernel_rfl⟩
instance : Zr Tryz.prog 242 [.nilFunc] := ⟨by kernel_rfl⟩
instance : Sc Tryz.prog 243 := ⟨_, Tryz.underlying243, rfl⟩
instance : Sz Tryz.prog 243 1 := ⟨by kernel_rfl⟩
instance : Zr Tryz.prog 243 [.nilFunc] := ⟨by kernel_rfl⟩
instance : Sc Tryz.prog 245 := ⟨_, Tryz.underlying245, rfl⟩
instance : Sz Tryz.prog 245 1 := ⟨by kernel_rfl⟩
instance : Zr Tryz.prog 245 [.nilFunc] := ⟨by kernel_rfl⟩
instance : Sc Tryz.prog 246 := ⟨_, Tryz.underlying246, rfl⟩
instance : Sz Tryz.prog 246 1 := ⟨by kernel_rfl⟩
instance : Zr Tryz.prog 246 [.int .u32 0] := ⟨by kernel_rfl⟩
instance : Sc Tryz.prog 248 := ⟨_, Tryz.underlying248, rfl⟩
instance : Sz Tryz.prog 248 1 := ⟨by kernel_rfl⟩
instance : Zr Tryz.prog 248 [.nilFunc] := ⟨by kernel_rfl⟩
instance : Sc Tryz.prog 249 := ⟨_, Tryz.underlying249, rfl⟩
instance : Sz Tryz.prog 249 1 := ⟨by kernel_rfl⟩
instance : Zr Tryz.prog 249 [.nilFunc] := ⟨by kernel_rfl⟩
instance : Ag Tryz.prog 250 20 := ⟨⟨_, Tryz.underlying250, rfl⟩, by kernel_rfl⟩
instance : Sz Tryz.prog 250 20 := ⟨by kernel_rfl⟩
instance : Zr Tryz.prog 250 [.int .u64 0, .int .u64 0, .int .u64 0, .int .u64 0, .int .u64 0, .int .u64 0, .int .u64 0, .int .u64 0, .int .u64 0, .int .u64 0, .int .u64 0, .int .u64 0, .int .u64 0, .int .u64 0, .int .u64 0, .int .u64 0, .int .u64 0, .int .u64 0, .int .u64 0, .int .u64 0] := ⟨by kernel_rfl⟩
instance : Sc Tryz.prog 252 := ⟨_, Tryz.underlying252, rfl⟩
instance : Sz Tryz.prog 252 1 := ⟨by kernel_rfl⟩
instance : Zr Tryz.prog 252 [.nilFunc] := ⟨by kernel_rfl⟩
instance : Sc Tryz.prog 253 := ⟨_, Tryz.underlying253, rfl⟩
instance : Sz Tryz.prog 253 1 := ⟨by kernel_rfl⟩
instance : Zr Tryz.prog 253 [.nilFunc] := ⟨by kernel_rfl⟩
instance : Sc Tryz.prog 254 := ⟨_, Tryz.underlying254, rfl⟩
instance : Sz Tryz.prog 254 1 := ⟨by kernel_rfl⟩
instance : Zr Tryz.prog 254 [.nilFunc] := ⟨by kernel_rfl⟩
instance : Ag Tryz.prog 256 2 := ⟨⟨_, Tryz.underlying256, rfl⟩, by kernel_rfl⟩
instance : Sz Tryz.prog 256 2 := ⟨by kernel_rfl⟩
instance : Zr Tryz.prog 256 [.int .u8 0, .int .u8 0] := ⟨by kernel_rfl⟩
instance : Ag Tryz.prog 257 2 := ⟨⟨_, Tryz.underlying257, rfl⟩, by kernel_rfl⟩
instance : Sz Tryz.prog 257 2 := ⟨by kernel_rfl⟩
instance : Zr Tryz.prog 257 [.int .u8 0, .int .u8 0] := ⟨by kernel_rfl⟩
instance : Ag Tryz.prog 258 32 := ⟨⟨_, Tryz.underlying258, rfl⟩, by kernel_rfl⟩
instance : Sz Tryz.prog 258 32 := ⟨by kernel_rfl⟩
instance : Zr Tryz.prog 258 [.int .u8 0, .int .u8 0, .int .u8 0, .int .u8 0, .int .u8 0, .int .u8 0, .int .u8 0, .int .u8 0, .int .u8 0, .int .u8 0, .int .u8 0, .int .u8 0, .int .u8 0, .int .u8 0, .int .u8 0, .int .u8 0, .int .u8 0, .int .u8 0, .int .u8 0, .int .u8 0, .int .u8 0, .int .u8 0, .int .u8 0, .int .u8 0, .int .u8 0, .int .u8 0, .int .u8 0, .int .u8 0, .int .u8 0, .int .u8 0, .int .u8 0, .int .u8 0] := ⟨by kernel_rfl⟩
instance : Ag Tryz.prog 259 32 := ⟨⟨_, Tryz.underlying259, rfl⟩, by kernel_rfl⟩
instance : Sz Tryz.prog 259 32 := ⟨by kernel_rfl⟩
instance : Zr Tryz.prog 259 [.int .u8 0, .int .u8 0, .int .u8 0, .int .u8 0, .int .u8 0, .int .u8 0, .int .u8 0, .int .u8 0, .int .u8 0, .int .u8 0, .int .u8 0, .int .u8 0, .int .u8 0, .int .u8 0, .int .u8 0, .int .u8 0, .int .u8 0, .int .u8 0, .int .u8 0, .int .u8 0, .int .u8 0, .int .u8 0, .int .u8 0, .int .u8 0, .int .u8 0, .int .u8 0, .int .u8 0, .int .u8 0, .int .u8 0, .int .u8 0, .int .u8 0, .int .u8 0] := ⟨by kernel_rfl⟩
instance : Sc Tryz.prog 261 := ⟨_, Tryz.underlying261, rfl⟩
instance : Sz Tryz.prog 261 1 := ⟨by kernel_rfl⟩
instance : Zr Tryz.prog 261 [.nilFunc] := ⟨by kernel_rfl⟩
instance : Ag Tryz.prog 262 4 := ⟨⟨_, Tryz.underlying262, rfl⟩, by kernel_rfl⟩
instance : Sz Tryz.prog 262 4 := ⟨by kernel_rfl⟩
instance : Zr Tryz.prog 262 [.pointer none, .pointer none, .pointer none, .string ByteArray.empty] := ⟨by kernel_rfl⟩
instance : Ag Tryz.prog 263 4 := ⟨⟨_, Tryz.underlying263, rfl⟩, by kernel_rfl⟩
instance : Sz Tryz.prog 263 4 := ⟨by kernel_rfl⟩
instance : Zr Tryz.prog 263 [.pointer none, .pointer none, .pointer none, .string ByteArray.empty] := ⟨by kernel_rfl⟩
instance : Sc Tryz.prog 267 := ⟨_, Tryz.underlying267, rfl⟩
instance : Sz Tryz.prog 267 1 := ⟨by kernel_rfl⟩
instance : Zr Tryz.prog 267 [.nilFunc] := ⟨by kernel_rfl⟩
instance : Sc Tryz.prog 268 := ⟨_, Tryz.underlying268, rfl⟩
instance : Sz Tryz.prog 268 1 := ⟨by kernel_rfl⟩
instance : Zr Tryz.prog 268 [.int .u8 0] := ⟨by kernel_rfl⟩
instance : Sc Tryz.prog 269 := ⟨_, Tryz.underlying269, rfl⟩
instance : Sz Tryz.prog 269 1 := ⟨by kernel_rfl⟩
instance : Zr Tryz.prog 269 [.nilFunc] := ⟨by kernel_rfl⟩
instance : Sc Tryz.prog 270 := ⟨_, Tryz.underlying270, rfl⟩
instance : Sz Tryz.prog 270 1 := ⟨by kernel_rfl⟩
instance : Zr Tryz.prog 270 [.pointer none] := ⟨by kernel_rfl⟩
instance : Sc Tryz.prog 271 := ⟨_, Tryz.underlying271, rfl⟩
instance : Sz Tryz.prog 271 1 := ⟨by kernel_rfl⟩
instance : Zr Tryz.prog 271 [.int .i32 0] := ⟨by kernel_rfl⟩
instance : Sc Tryz.prog 272 := ⟨_, Tryz.underlying272, rfl⟩
instance : Sz Tryz.prog 272 1 := ⟨by kernel_rfl⟩
instance : Zr Tryz.prog 272 [.int .i32 0] := ⟨by kernel_rfl⟩
instance : Ag Tryz.prog 273 11 := ⟨⟨_, Tryz.underlying273, rfl⟩, by kernel_rfl⟩
instance : Sz Tryz.prog 273 11 := ⟨by kernel_rfl⟩
instance : Zr Tryz.prog 273 [.int .u64 0, .int .u64 0, .int .u32 0, .int .u8 0, .int .u8 0, .int .u8 0, .int .u8 0, .nilFunc, .pointer none, .int .i32 0, .int .i32 0] := ⟨by kernel_rfl⟩
instance : Ag Tryz.prog 274 11 := ⟨⟨_, Tryz.underlying274, rfl⟩, by kernel_rfl⟩
instance : Sz Tryz.prog 274 11 := ⟨by kernel_rfl⟩
instance : Zr Tryz.prog 274 [.int .u64 0, .int .u64 0, .int .u32 0, .int .u8 0, .int .u8 0, .int .u8 0, .int .u8 0, .nilFunc, .pointer none, .int .i32 0, .int .i32 0] := ⟨by kernel_rfl⟩
instance : Sc Tryz.prog 275 := ⟨_, Tryz.underlying275, rfl⟩
instance : Sz Tryz.prog 275 1 := ⟨by kernel_rfl⟩
instance : Zr Tryz.prog 275 [.nilFunc] := ⟨by kernel_rfl⟩
instance : Sc Tryz.prog 276 := ⟨_, Tryz.underlying276, rfl⟩
instance : Sz Tryz.prog 276 1 := ⟨by kernel_rfl⟩
instance : Zr Tryz.prog 276 [.nilFunc] := ⟨by kernel_rfl⟩
instance : Sc Tryz.prog 277 := ⟨_, Tryz.underlying277, rfl⟩
instance : Sz Tryz.prog 277 1 := ⟨by kernel_rfl⟩
instance : Zr Tryz.prog 277 [.nilFunc] := ⟨by kernel_rfl⟩
instance : Ag Tryz.prog 278 2 := ⟨⟨_, Tryz.underlying278, rfl⟩, by kernel_rfl⟩
instance : Sz Tryz.prog 278 2 := ⟨by kernel_rfl⟩
instance : Zr Tryz.prog 278 [.string ByteArray.empty, .int .u8 0] := ⟨by kernel_rfl⟩
instance : Ag Tryz.prog 279 2 := ⟨⟨_, Tryz.underlying279, rfl⟩, by kernel_rfl⟩
instance : Sz Tryz.prog 279 2 := ⟨by kernel_rfl⟩
instance : Zr Tryz.prog 279 [.string ByteArray.empty, .int .u8 0] := ⟨by kernel_rfl⟩
instance : Sc Tryz.prog 280 := ⟨_, Tryz.underlying280, rfl⟩
instance : Sz Tryz.prog 280 1 := ⟨by kernel_rfl⟩
instance : Zr Tryz.prog 280 [.nilFunc] := ⟨by kernel_rfl⟩
instance : Sc Tryz.prog 281 := ⟨_, Tryz.underlying281, rfl⟩
instance : Sz Tryz.prog 281 1 := ⟨by kernel_rfl⟩
instance : Zr Tryz.prog 281 [.nilFunc] := ⟨by kernel_rfl⟩
instance : Sc Tryz.prog 282 := ⟨_, Tryz.underlying282, rfl⟩
instance : Sz Tryz.prog 282 1 := ⟨by kernel_rfl⟩
instance : Zr Tryz.prog 282 [.pointer none] := ⟨by kernel_rfl⟩
instance : Sc Tryz.prog 283 := ⟨_, Tryz.underlying283, rfl⟩
instance : Sz Tryz.prog 283 1 := ⟨by kernel_rfl⟩
instance : Zr Tryz.prog 283 [.nilFunc] := ⟨by kernel_rfl⟩
instance : Sc Tryz.prog 284 := ⟨_, Tryz.underlying284, rfl⟩
instance : Sz Tryz.prog 284 1 := ⟨by kernel_rfl⟩
instance : Zr Tryz.prog 284 [.nilFunc] := ⟨by kernel_rfl⟩
instance : Sc Tryz.prog 285 := ⟨_, Tryz.underlying285, rfl⟩
instance : Sz Tryz.prog 285 1 := ⟨by kernel_rfl⟩
instance : Zr Tryz.prog 285 [.int .u16 0] := ⟨by kernel_rfl⟩
instance : Ag Tryz.prog 286 5 := ⟨⟨_, Tryz.underlying286, rfl⟩, by kernel_rfl⟩
instance : Sz Tryz.prog 286 5 := ⟨by kernel_rfl⟩
instance : Zr Tryz.prog 286 [.int .i32 0, .int .u16 0, .int .u16 0, .int .u32 0, .int .u32 0] := ⟨by kernel_rfl⟩
instance : Ag Tryz.prog 287 5 := ⟨⟨_, Tryz.underlying287, rfl⟩, by kernel_rfl⟩
instance : Sz Tryz.prog 287 5 := ⟨by kernel_rfl⟩
instance : Zr Tryz.prog 287 [.int .i32 0, .int .u16 0, .int .u16 0, .int .u32 0, .int .u32 0] := ⟨by kernel_rfl⟩
instance : Sc Tryz.prog 288 := ⟨_, Tryz.underlying288, rfl⟩
instance : Sz Tryz.prog 288 1 := ⟨by kernel_rfl⟩
instance : Zr Tryz.prog 288 [.slice none 0 0] := ⟨by kernel_rfl⟩
instance : SlT Tryz.prog 288 291 4 := ⟨Tryz.underlying288, by kernel_rfl⟩
instance : Sc Tryz.prog 289 := ⟨_, Tryz.underlying289, rfl⟩
instance : Sz Tryz.prog 289 1 := ⟨by kernel_rfl⟩
instance : Zr Tryz.prog 289 [.int .i32 0] := ⟨by kernel_rfl⟩
instance : Ag Tryz.prog 290 4 := ⟨⟨_, Tryz.underlying290, rfl⟩, by kernel_rfl⟩
instance : Sz Tryz.prog 290 4 := ⟨by kernel_rfl⟩
instance : Zr Tryz.prog 290 [.int .i32 0, .int .i32 0, .int .i32 0, .int .i32 0] := ⟨by kernel_rfl⟩
instance : Ag Tryz.prog 291 4 := ⟨⟨_, Tryz.underlying291, rfl⟩, by kernel_rfl⟩
instance : Sz Tryz.prog 291 4 := ⟨by kernel_rfl⟩
instance : Zr Tryz.prog 291 [.int .i32 0, .int .i32 0, .int .i32 0, .int .i32 0] := ⟨by kernel_rfl⟩
instance : Sc Tryz.prog 292 := ⟨_, Tryz.underlying292, rfl⟩
instance : Sz Tryz.prog 292 1 := ⟨by kernel_rfl⟩
instance : Zr Tryz.prog 292 [.pointer none] := ⟨by kernel_rfl⟩
instance : BS Tryz.prog 22 9 [.string ByteArray.empty] := ⟨Tryz.underlying22, by kernel_rfl, by kernel_rfl⟩
instance : BS Tryz.prog 27 5 [.int .u8 0] := ⟨Tryz.underlying27, by kernel_rfl, by kernel_rfl⟩
instance : BS Tryz.prog 63 3 [.int .i64 0] := ⟨Tryz.underlying63, by kernel_rfl, by kernel_rfl⟩
instance : BS Tryz.prog 66 71 [.int .i64 0, .int .i64 0, .int .i64 0, .int .i64 0, .int .i64 0, .int .i64 0, .int .i64 0, .int .i64 0, .int .i64 0, .int .i64 0] := ⟨Tryz.underlying66, by kernel_rfl, by kernel_rfl⟩
instance : BS Tryz.prog 67 71 [.int .i64 0, .int .i64 0, .int .i64 0, .int .i64 0, .int .i64 0, .int .i64 0, .int .i64 0, .int .i64 0, .int .i64 0, .int .i64 0] := ⟨Tryz.underlying67, by kernel_rfl, by kernel_rfl⟩
instance : BS Tryz.prog 114 118 [.int .u8 0, .bool false, .pointer none] := ⟨Tryz.underlying114, by kernel_rfl, by kernel_rfl⟩
instance : BS Tryz.prog 149 4 [.bool false] := ⟨Tryz.underlying149, by kernel_rfl, by kernel_rfl⟩
instance : BS Tryz.prog 234 151 [.nilIface] := ⟨Tryz.underlying234, by kernel_rfl, by kernel_rfl⟩
instance : BS Tryz.prog 288 291 [.int .i32 0, .int .i32 0, .int .i32 0, .int .i32 0] := ⟨Tryz.underlying288, by kernel_rfl, by kernel_rfl⟩
instance : Bd Tryz.prog 7 [(0, 1), (1, 1), (2, 1), (3, 1)] [.int .i64 0, .int .i64 0, .bool false, .int .u8 0] := ⟨fun _ => by kernel_rfl⟩
instance : FO Tryz.prog 7 0 0 := FO.of (k := 1) Tryz.underlying7 rfl rfl rfl (by kernel_rfl) (by decide)
instance : FV Tryz.prog 7 0 0 1 false := FV.of1 (ft := 2) Tryz.underlying7 rfl rfl rfl inferInstance
instance : FO Tryz.prog 7 1 1 := FO.of (k := 1) Tryz.underlying7 rfl rfl rfl (by kernel_rfl) (by decide)
instance : FV Tryz.prog 7 1 1 1 false := FV.of1 (ft := 3) Tryz.underlying7 rfl rfl rfl inferInstance
instance : FO Tryz.prog 7 2 2 := FO.of (k := 1) Tryz.underlying7 rfl rfl rfl (by kernel_rfl) (by decide)
instance : FV Tryz.prog 7 2 2 1 false := FV.of1 (ft := 4) Tryz.underlying7 rfl rfl rfl inferInstance
instance : FO Tryz.prog 7 3 3 := FO.of (k := 1) Tryz.underlying7 rfl rfl rfl (by kernel_rfl) (by decide)
instance : FV Tryz.prog 7 3 3 1 false := FV.of1 (ft := 6) Tryz.underlying7 rfl rfl rfl inferInstance
instance : Bd Tryz.prog 8 [(0, 1), (1, 1), (2, 1), (3, 1)] [.int .i64 0, .int .i64 0, .bool false, .int .u8 0] := ⟨fun _ => by kernel_rfl⟩
instance : FO Tryz.prog 8 0 0 := FO.of (k := 1) Tryz.underlying8 rfl rfl rfl (by kernel_rfl) (by decide)
instance : FV Tryz.prog 8 0 0 1 false := FV.of1 (ft := 2) Tryz.underlying8 rfl rfl rfl inferInstance
instance : FO Tryz.prog 8 1 1 := FO.of (k := 1) Tryz.underlying8 rfl rfl rfl (by kernel_rfl) (by decide)
instance : FV Tryz.prog 8 1 1 1 false := FV.of1 (ft := 3) Tryz.underlying8 rfl rfl rfl inferInstance
instance : FO Tryz.prog 8 2 2 := FO.of (k := 1) Tryz.underlying8 rfl rfl rfl (by kernel_rfl) (by decide)
instance : FV Tryz.prog 8 2 2 1 false := FV.of1 (ft := 4) Tryz.underlying8 rfl rfl rfl inferInstance
instance : FO Tryz.prog 8 3 3 := FO.of (k := 1) Tryz.underlying8 rfl rfl rfl (by kernel_rfl) (by decide)
instance : FV Tryz.prog 8 3 3 1 false := FV.of1 (ft := 6) Tryz.underlying8 rfl rfl rfl inferInstance
instance : Bd Tryz.prog 13 [(0, 1), (1, 1)] [.string ByteArray.empty, .int .u64 0] := ⟨fun _ => by kernel_rfl⟩
instance : FO Tryz.prog 13 0 0 := FO.of (k := 1) Tryz.underlying13 rfl rfl rfl (by kernel_rfl) (by decide)
instance : FV Tryz.prog 13 0 0 1 false := FV.of1 (ft := 9) Tryz.underlying13 rfl rfl rfl inferInstance
instance : FO Tryz.prog 13 1 1 := FO.of (k := 1) Tryz.underlying13 rfl rfl rfl (by kernel_rfl) (by decide)
instance : FV Tryz.prog 13 1 1 1 false := FV.of1 (ft := 12) Tryz.underlying13 rfl rfl rfl inferInstance
instance : Bd Tryz.prog 14 [(0, 1), (1, 1)] [.string ByteArray.empty, .int .u64 0] := ⟨fun _ => by kernel_rfl⟩
instance : FO Tryz.prog 14 0 0 := FO.of (k := 1) Tryz.underlying14 rfl rfl rfl (by kernel_rfl) (by decide)
instance : FV Tryz.prog 14 0 0 1 false := FV.of1 (ft := 9) Tryz.underlying14 rfl rfl rfl inferInstance
instance : FO Tryz.prog 14 1 1 := FO.of (k := 1) Tryz.underlying14 rfl rfl rfl (by kernel_rfl) (by decide)
instance : FV Tryz.prog 14 1 1 1 false := FV.of1 (ft := 12) Tryz.underlying14 rfl rfl rfl inferInstance
instance : Bd Tryz.prog 18 [(0, 1)] [.pointer none] := ⟨fun _ => by kernel_rfl⟩
instance : FO Tryz.prog 18 0 0 := FO.of (k := 1) Tryz.underlying18 rfl rfl rfl (by kernel_rfl) (by decide)
instance : FV Tryz.prog 18 0 0 1 false := FV.of1 (ft := 17) Tryz.underlying18 rfl rfl rfl inferInstance
instance : Bd Tryz.prog 19 [(0, 1)] [.pointer none] := ⟨fun _ => by kernel_rfl⟩
instance : FO Tryz.prog 19 0 0 := FO.of (k := 1) Tryz.underlying19 rfl rfl rfl (by kernel_rfl) (by decide)
instance : FV Tryz.prog 19 0 0 1 false := FV.of1 (ft := 17) Tryz.underlying19 rfl rfl rfl inferInstance
instance : Bd Tryz.prog 32 [(0, 1), (1, 1), (2, 1)] [.int .i64 0, .int .i64 0, .int .i64 0] := ⟨fun _ => by kernel_rfl⟩
instance : FO Tryz.prog 32 0 0 := FO.of (k := 1) Tryz.underlying32 rfl rfl rfl (by kernel_rfl) (by decide)
instance : FV Tryz.prog 32 0 0 1 false := FV.of1 (ft := 3) Tryz.underlying32 rfl rfl rfl inferInstance
instance : FO Tryz.prog 32 1 1 := FO.of (k := 1) Tryz.underlying32 rfl rfl rfl (by kernel_rfl) (by decide)
instance : FV Tryz.prog 32 1 1 1 false := FV.of1 (ft := 3) Tryz.underlying32 rfl rfl rfl inferInstance
instance : FO Tryz.prog 32 2 2 := FO.of (k := 1) Tryz.underlying32 rfl rfl rfl (by kernel_rfl) (by decide)
instance : FV Tryz.prog 32 2 2 1 false := FV.of1 (ft := 3) Tryz.underlying32 rfl rfl rfl inferInstance
instance : Bd Tryz.prog 33 [(0, 1), (1, 1), (2, 1)] [.int .i64 0, .int .i64 0, .int .i64 0] := ⟨fun _ => by kernel_rfl⟩
instance : FO Tryz.prog 33 0 0 := FO.of (k := 1) Tryz.underlying33 rfl rfl rfl (by kernel_rfl) (by decide)
instance : FV Tryz.prog 33 0 0 1 false := FV.of1 (ft := 3) Tryz.underlying33 rfl rfl rfl inferInstance
instance : FO Tryz.prog 33 1 1 := FO.of (k := 1) Tryz.underlying33 rfl rfl rfl (by kernel_rfl) (by decide)
instance : FV Tryz.prog 33 1 1 1 false := FV.of1 (ft := 3) Tryz.underlying33 rfl rfl rfl inferInstance
instance : FO Tryz.prog 33 2 2 := FO.of (k := 1) Tryz.underlying33 rfl rfl rfl (by kernel_rfl) (by decide)
instance : FV Tryz.prog 33 2 2 1 false := FV.of1 (ft := 3) Tryz.underlying33 rfl rfl rfl inferInstance
instance : Bd Tryz.prog 34 [(0, 1), (1, 1), (2, 1), (3, 1)] [.int .i64 0, .int .i64 0, .int .i64 0, .int .i64 0] := ⟨fun _ => by kernel_rfl⟩
instance : FO Tryz.prog 34 0 0 := FO.of (k := 1) Tryz.underlying34 rfl rfl rfl (by kernel_rfl) (by decide)
instance : FV Tryz.prog 34 0 0 1 false := FV.of1 (ft := 3) Tryz.underlying34 rfl rfl rfl inferInstance
instance : FO Tryz.prog 34 1 1 := FO.of (k := 1) Tryz.underlying34 rfl rfl rfl (by kernel_rfl) (by decide)
instance : FV Tryz.prog 34 1 1 1 false := FV.of1 (ft := 3) Tryz.underlying34 rfl rfl rfl inferInstance
instance : FO Tryz.prog 34 2 2 := FO.of (k := 1) Tryz.underlying34 rfl rfl rfl (by kernel_rfl) (by decide)
instance : FV Tryz.prog 34 2 2 1 false := FV.of1 (ft := 3) Tryz.underlying34 rfl rfl rfl inferInstance
instance : FO Tryz.prog 34 3 3 := FO.of (k := 1) Tryz.underlying34 rfl rfl rfl (by kernel_rfl) (by decide)
instance : FV Tryz.prog 34 3 3 1 false := FV.of1 (ft := 3) Tryz.underlying34 rfl rfl rfl inferInstance
instance : Bd Tryz.prog 35 [(0, 1), (1, 1), (2, 1), (3, 1)] [.int .i64 0, .int .i64 0, .int .i64 0, .int .i64 0] := ⟨fun _ => by kernel_rfl⟩
instance : FO Tryz.prog 35 0 0 := FO.of (k := 1) Tryz.underlying35 rfl rfl rfl (by kernel_rfl) (by decide)
instance : FV Tryz.prog 35 0 0 1 false := FV.of1 (ft := 3) Tryz.underlying35 rfl rfl rfl inferInstance
instance : FO Tryz.prog 35 1 1 := FO.of (k := 1) Tryz.underlying35 rfl rfl rfl (by kernel_rfl) (by decide)
instance : FV Tryz.prog 35 1 1 1 false := FV.of1 (ft := 3) Tryz.underlying35 rfl rfl rfl inferInstance
instance : FO Tryz.prog 35 2 2 := FO.of (k := 1) Tryz.underlying35 rfl rfl rfl (by kernel_rfl) (by decide)
instance : FV Tryz.prog 35 2 2 1 false := FV.of1 (ft := 3) Tryz.underlying35 rfl rfl rfl inferInstance
instance : FO Tryz.prog 35 3 3 := FO.of (k := 1) Tryz.underlying35 rfl rfl rfl (by kernel_rfl) (by decide)
instance : FV Tryz.prog 35 3 3 1 false := FV.of1 (ft := 3) Tryz.underlying35 rfl rfl rfl inferInstance
instance : Bd Tryz.prog 36 [(0, 3), (3, 4), (7, 1)] [.int .i64 0, .int .i64 0, .int .i64 0, .int .i64 0, .int .i64 0, .int .i64 0, .int .i64 0, .int .i64 0] := ⟨fun _ => by kernel_rfl⟩
instance : FO Tryz.prog 36 0 0 := FO.of (k := 3) Tryz.underlying36 rfl rfl rfl (by kernel_rfl) (by decide)
instance : FV Tryz.prog 36 0 0 3 true := FV.ofk (ft := 33) Tryz.underlying36 rfl rfl rfl inferInstance
instance : FO Tryz.prog 36 1 3 := FO.of (k := 4) Tryz.underlying36 rfl rfl rfl (by kernel_rfl) (by decide)
instance : FV Tryz.prog 36 1 3 4 true := FV.ofk (ft := 35) Tryz.underlying36 rfl rfl rfl inferInstance
instance : FO Tryz.prog 36 2 7 := FO.of (k := 1) Tryz.underlying36 rfl rfl rfl (by kernel_rfl) (by decide)
instance : FV Tryz.prog 36 2 7 1 false := FV.of1 (ft := 3) Tryz.underlying36 rfl rfl rfl inferInstance
instance : Bd Tryz.prog 37 [(0, 3), (3, 4), (7, 1)] [.int .i64 0, .int .i64 0, .int .i64 0, .int .i64 0, .int .i64 0, .int .i64 0, .int .i64 0, .int .i64 0] := ⟨fun _ => by kernel_rfl⟩
instance : FO Tryz.prog 37 0 0 := FO.of (k := 3) Tryz.underlying37 rfl rfl rfl (by kernel_rfl) (by decide)
instance : FV Tryz.prog 37 0 0 3 true := FV.ofk (ft := 33) Tryz.underlying37 rfl rfl rfl inferInstance
instance : FO Tryz.prog 37 1 3 := FO.of (k := 4) Tryz.underlying37 rfl rfl rfl (by kernel_rfl) (by decide)
instance : FV Tryz.prog 37 1 3 4 true := FV.ofk (ft := 35) Tryz.underlying37 rfl rfl rfl inferInstance
instance : FO Tryz.prog 37 2 7 := FO.of (k := 1) Tryz.underlying37 rfl rfl rfl (by kernel_rfl) (by decide)
instance : FV Tryz.prog 37 2 7 1 false := FV.of1 (ft := 3) Tryz.underlying37 rfl rfl rfl inferInstance
instance : Bd Tryz.prog 49 [(0, 1), (1, 1), (2, 1), (3, 1), (4, 1), (5, 1)] [.int .i64 0, .int .i64 0, .int .i64 0, .int .i64 0, .int .i64 0, .int .i64 0] := ⟨fun _ => by kernel_rfl⟩
instance : FO Tryz.prog 49 0 0 := FO.of (k := 1) Tryz.underlying49 rfl rfl rfl (by kernel_rfl) (by decide)
instance : FV Tryz.prog 49 0 0 1 false := FV.of1 (ft := 3) Tryz.underlying49 rfl rfl rfl inferInstance
instance : FO Tryz.prog 49 1 1 := FO.of (k := 1) Tryz.underlying49 rfl rfl rfl (by kernel_rfl) (by decide)
instance : FV Tryz.prog 49 1 1 1 false := FV.of1 (ft := 3) Tryz.underlying49 rfl rfl rfl inferInstance
instance : FO Tryz.prog 49 2 2 := FO.of (k := 1) Tryz.underlying49 rfl rfl rfl (by kernel_rfl) (by decide)
instance : FV Tryz.prog 49 2 2 1 false := FV.of1 (ft := 3) Tryz.underlying49 rfl rfl rfl inferInstance
instance : FO Tryz.prog 49 3 3 := FO.of (k := 1) Tryz.underlying49 rfl rfl rfl (by kernel_rfl) (by decide)
instance : FV Tryz.prog 49 3 3 1 false := FV.of1 (ft := 3) Tryz.underlying49 rfl rfl rfl inferInstance
instance : FO Tryz.prog 49 4 4 := FO.of (k := 1) Tryz.underlying49 rfl rfl rfl (by kernel_rfl) (by decide)
instance : FV Tryz.prog 49 4 4 1 false := FV.of1 (ft := 3) Tryz.underlying49 rfl rfl rfl inferInstance
instance : FO Tryz.prog 49 5 5 := FO.of (k := 1) Tryz.underlying49 rfl rfl rfl (by kernel_rfl) (by decide)
instance : FV Tryz.prog 49 5 5 1 false := FV.of1 (ft := 3) Tryz.underlying49 rfl rfl rfl inferInstance
instance : Bd Tryz.prog 50 [(0, 1), (1, 1), (2, 1), (3, 1), (4, 1), (5, 1)] [.int .i64 0, .int .i64 0, .int .i64 0, .int .i64 0, .int .i64 0, .int .i64 0] := ⟨fun _ => by kernel_rfl⟩
instance : FO Tryz.prog 50 0 0 := FO.of (k := 1) Tryz.underlying50 rfl rfl rfl (by kernel_rfl) (by decide)
instance : FV Tryz.prog 50 0 0 1 false := FV.of1 (ft := 3) Tryz.underlying50 rfl rfl rfl inferInstance
instance : FO Tryz.prog 50 1 1 := FO.of (k := 1) Tryz.underlying50 rfl rfl rfl (by kernel_rfl) (by decide)
instance : FV Tryz.prog 50 1 1 1 false := FV.of1 (ft := 3) Tryz.underlying50 rfl rfl rfl inferInstance
instance : FO Tryz.prog 50 2 2 := FO.of (k := 1) Tryz.underlying50 rfl rfl rfl (by kernel_rfl) (by decide)
instance : FV Tryz.prog 50 2 2 1 false := FV.of1 (ft := 3) Tryz.underlying50 rfl rfl rfl inferInstance
instance : FO Tryz.prog 50 3 3 := FO.of (k := 1) Tryz.underlying50 rfl rfl rfl (by kernel_rfl) (by decide)
instance : FV Tryz.prog 50 3 3 1 false := FV.of1 (ft := 3) Tryz.underlying50 rfl rfl rfl inferInstance
instance : FO Tryz.prog 50 4 4 := FO.of (k := 1) Tryz.underlying50 rfl rfl rfl (by kernel_rfl) (by decide)
instance : FV Tryz.prog 50 4 4 1 false := FV.of1 (ft := 3) Tryz.underlying50 rfl rfl rfl inferInstance
instance : FO Tryz.prog 50 5 5 := FO.of (k := 1) Tryz.underlying50 rfl rfl rfl (by kernel_rfl) (by decide)
instance : FV Tryz.prog 50 5 5 1 false := FV.of1 (ft := 3) Tryz.underlying50 rfl rfl rfl inferInstance
instance : Bd Tryz.prog 55 [(0, 8), (8, 6), (14, 1)] [.int .i64 0, .int .i64 0, .int .i64 0, .int .i64 0, .int .i64 0, .int .i64 0, .int .i64 0, .int .i64 0, .int .i64 0, .int .i64 0, .int .i64 0, .int .i64 0, .int .i64 0, .int .i64 0, .int .i64 0] := ⟨fun _ => by kernel_rfl⟩
instance : FO Tryz.prog 55 0 0 := FO.of (k := 8) Tryz.underlying55 rfl rfl rfl (by kernel_rfl) (by decide)
instance : FV Tryz.prog 55 0 0 8 true := FV.ofk (ft := 37) Tryz.underlying55 rfl rfl rfl inferInstance
instance : FO Tryz.prog 55 1 8 := FO.of (k := 6) Tryz.underlying55 rfl rfl rfl (by kernel_rfl) (by decide)
instance : FV Tryz.prog 55 1 8 6 true := FV.ofk (ft := 50) Tryz.underlying55 rfl rfl rfl inferInstance
instance : FO Tryz.prog 55 2 14 := FO.of (k := 1) Tryz.underlying55 rfl rfl rfl (by kernel_rfl) (by decide)
instance : FV Tryz.prog 55 2 14 1 false := FV.of1 (ft := 3) Tryz.underlying55 rfl rfl rfl inferInstance
instance : Bd Tryz.prog 56 [(0, 8), (8, 6), (14, 1)] [.int .i64 0, .int .i64 0, .int .i64 0, .int .i64 0, .int .i64 0, .int .i64 0, .int .i64 0, .int .i64 0, .int .i64 0, .int .i64 0, .int .i64 0, .int .i64 0, .int .i64 0, .int .i64 0, .int .i64 0] := ⟨fun _ => by kernel_rfl⟩
instance : FO Tryz.prog 56 0 0 := FO.of (k := 8) Tryz.underlying56 rfl rfl rfl (by kernel_rfl) (by decide)
instance : FV Tryz.prog 56 0 0 8 true := FV.ofk (ft := 37) Tryz.underlying56 rfl rfl rfl inferInstance
instance : FO Tryz.prog 56 1 8 := FO.of (k := 6) Tryz.underlying56 rfl rfl rfl (by kernel_rfl) (by decide)
instance : FV Tryz.prog 56 1 8 6 true := FV.ofk (ft := 50) Tryz.underlying56 rfl rfl rfl inferInstance
instance : FO Tryz.prog 56 2 14 := FO.of (k := 1) Tryz.underlying56 rfl rfl rfl (by kernel_rfl) (by decide)
instance : FV Tryz.prog 56 2 14 1 false := FV.of1 (ft := 3) Tryz.underlying56 rfl rfl rfl inferInstance
instance : Bd Tryz.prog 70 [(0, 8), (8, 1), (9, 1)] [.int .i64 0, .int .i64 0, .int .i64 0, .int .i64 0, .int .i64 0, .int .i64 0, .int .i64 0, .int .i64 0, .int .i64 0, .int .i64 0] := ⟨fun _ => by kernel_rfl⟩
instance : FO Tryz.prog 70 0 0 := FO.of (k := 8) Tryz.underlying70 rfl rfl rfl (by kernel_rfl) (by decide)
instance : FV Tryz.prog 70 0 0 8 true := FV.ofk (ft := 37) Tryz.underlying70 rfl rfl rfl inferInstance
instance : FO Tryz.prog 70 1 8 := FO.of (k := 1) Tryz.underlying70 rfl rfl rfl (by kernel_rfl) (by decide)
instance : FV Tryz.prog 70 1 8 1 false := FV.of1 (ft := 3) Tryz.underlying70 rfl rfl rfl inferInstance
instance : FO Tryz.prog 70 2 9 := FO.of (k := 1) Tryz.underlying70 rfl rfl rfl (by kernel_rfl) (by decide)
instance : FV Tryz.prog 70 2 9 1 false := FV.of1 (ft := 3) Tryz.underlying70 rfl rfl rfl inferInstance
instance : Bd Tryz.prog 71 [(0, 8), (8, 1), (9, 1)] [.int .i64 0, .int .i64 0, .int .i64 0, .int .i64 0, .int .i64 0, .int .i64 0, .int .i64 0, .int .i64 0, .int .i64 0, .int .i64 0] := ⟨fun _ => by kernel_rfl⟩
instance : FO Tryz.prog 71 0 0 := FO.of (k := 8) Tryz.underlying71 rfl rfl rfl (by kernel_rfl) (by decide)
instance : FV Tryz.prog 71 0 0 8 true := FV.ofk (ft := 37) Tryz.underlying71 rfl rfl rfl inferInstance
instance : FO Tryz.prog 71 1 8 := FO.of (k := 1) Tryz.underlying71 rfl rfl rfl (by kernel_rfl) (by decide)
instance : FV Tryz.prog 71 1 8 1 false := FV.of1 (ft := 3) Tryz.underlying71 rfl rfl rfl inferInstance
instance : FO Tryz.prog 71 2 9 := FO.of (k := 1) Tryz.underlying71 rfl rfl rfl (by kernel_rfl) (by decide)
instance : FV Tryz.prog 71 2 9 1 false := FV.of1 (ft := 3) Tryz.underlying71 rfl rfl rfl inferInstance
instance : Bd Tryz.prog 82 [(0, 1), (1, 1)] [.string ByteArray.empty, .int .i64 0] := ⟨fun _ => by kernel_rfl⟩
instance : FO Tryz.prog 82 0 0 := FO.of (k := 1) Tryz.underlying82 rfl rfl rfl (by kernel_rfl) (by decide)
instance : FV Tryz.prog 82 0 0 1 false := FV.of1 (ft := 9) Tryz.underlying82 rfl rfl rfl inferInstance
instance : FO Tryz.prog 82 1 1 := FO.of (k := 1) Tryz.underlying82 rfl rfl rfl (by kernel_rfl) (by decide)
instance : FV Tryz.prog 82 1 1 1 false := FV.of1 (ft := 3) Tryz.underlying82 rfl rfl rfl inferInstance
instance : Bd Tryz.prog 83 [(0, 1), (1, 1)] [.string ByteArray.empty, .int .i64 0] := ⟨fun _ => by kernel_rfl⟩
instance : FO Tryz.prog 83 0 0 := FO.of (k := 1) Tryz.underlying83 rfl rfl rfl (by kernel_rfl) (by decide)
instance : FV Tryz.prog 83 0 0 1 false := FV.of1 (ft := 9) Tryz.underlying83 rfl rfl rfl inferInstance
instance : FO Tryz.prog 83 1 1 := FO.of (k := 1) Tryz.underlying83 rfl rfl rfl (by kernel_rfl) (by decide)
instance : FV Tryz.prog 83 1 1 1 false := FV.of1 (ft := 3) Tryz.underlying83 rfl rfl rfl inferInstance
instance : Bd Tryz.prog 99 [(0, 1), (1, 1)] [.int .i64 0, .int .i64 0] := ⟨fun _ => by kernel_rfl⟩
instance : FO Tryz.prog 99 0 0 := FO.of (k := 1) Tryz.underlying99 rfl rfl rfl (by kernel_rfl) (by decide)
instance : FV Tryz.prog 99 0 0 1 false := FV.of1 (ft := 3) Tryz.underlying99 rfl rfl rfl inferInstance
instance : FO Tryz.prog 99 1 1 := FO.of (k := 1) Tryz.underlying99 rfl rfl rfl (by kernel_rfl) (by decide)
instance : FV Tryz.prog 99 1 1 1 false := FV.of1 (ft := 3) Tryz.underlying99 rfl rfl rfl inferInstance
instance : Bd Tryz.prog 100 [(0, 1), (1, 1)] [.int .i64 0, .int .i64 0] := ⟨fun _ => by kernel_rfl⟩
instance : FO Tryz.prog 100 0 0 := FO.of (k := 1) Tryz.underlying100 rfl rfl rfl (by kernel_rfl) (by decide)
instance : FV Tryz.prog 100 0 0 1 false := FV.of1 (ft := 3) Tryz.underlying100 rfl rfl rfl inferInstance
instance : FO Tryz.prog 100 1 1 := FO.of (k := 1) Tryz.underlying100 rfl rfl rfl (by kernel_rfl) (by decide)
instance : FV Tryz.prog 100 1 1 1 false := FV.of1 (ft := 3) Tryz.underlying100 rfl rfl rfl inferInstance
instance : Bd Tryz.prog 117 [(0, 1), (1, 1), (2, 1)] [.int .u8 0, .bool false, .pointer none] := ⟨fun _ => by kernel_rfl⟩
instance : FO Tryz.prog 117 0 0 := FO.of (k := 1) Tryz.underlying117 rfl rfl rfl (by kernel_rfl) (by decide)
instance : FV Tryz.prog 117 0 0 1 false := FV.of1 (ft := 5) Tryz.underlying117 rfl rfl rfl inferInstance
instance : FO Tryz.prog 117 1 1 := FO.of (k := 1) Tryz.underlying117 rfl rfl rfl (by kernel_rfl) (by decide)
instance : FV Tryz.prog 117 1 1 1 false := FV.of1 (ft := 4) Tryz.underlying117 rfl rfl rfl inferInstance
instance : FO Tryz.prog 117 2 2 := FO.of (k := 1) Tryz.underlying117 rfl rfl rfl (by kernel_rfl) (by decide)
instance : FV Tryz.prog 117 2 2 1 false := FV.of1 (ft := 116) Tryz.underlying117 rfl rfl rfl inferInstance
instance : Bd Tryz.prog 118 [(0, 1), (1, 1), (2, 1)] [.int .u8 0, .bool false, .pointer none] := ⟨fun _ => by kernel_rfl⟩
instance : FO Tryz.prog 118 0 0 := FO.of (k := 1) Tryz.underlying118 rfl rfl rfl (by kernel_rfl) (by decide)
instance : FV Tryz.prog 118 0 0 1 false := FV.of1 (ft := 5) Tryz.underlying118 rfl rfl rfl inferInstance
instance : FO Tryz.prog 118 1 1 := FO.of (k := 1) Tryz.underlying118 rfl rfl rfl (by kernel_rfl) (by decide)
instance : FV Tryz.prog 118 1 1 1 false := FV.of1 (ft := 4) Tryz.underlying118 rfl rfl rfl inferInstance
instance : FO Tryz.prog 118 2 2 := FO.of (k := 1) Tryz.underlying118 rfl rfl rfl (by kernel_rfl) (by decide)
instance : FV Tryz.prog 118 2 2 1 false := FV.of1 (ft := 116) Tryz.underlying118 rfl rfl rfl inferInstance
instance : Bd Tryz.prog 139 [(0, 3), (3, 1), (4, 4), (8, 1)] [.int .i64 0, .int .i64 0, .int .i64 0, .int .i64 0, .int .i64 0, .int .i64 0, .int .i64 0, .int .i64 0, .int .i64 0] := ⟨fun _ => by kernel_rfl⟩
instance : FO Tryz.prog 139 0 0 := FO.of (k := 3) Tryz.underlying139 rfl rfl rfl (by kernel_rfl) (by decide)
instance : FV Tryz.prog 139 0 0 3 true := FV.ofk (ft := 33) Tryz.underlying139 rfl rfl rfl inferInstance
instance : FO Tryz.prog 139 1 3 := FO.of (k := 1) Tryz.underlying139 rfl rfl rfl (by kernel_rfl) (by decide)
instance : FV Tryz.prog 139 1 3 1 false := FV.of1 (ft := 3) Tryz.underlying139 rfl rfl rfl inferInstance
instance : FO Tryz.prog 139 2 4 := FO.of (k := 4) Tryz.underlying139 rfl rfl rfl (by kernel_rfl) (by decide)
instance : FV Tryz.prog 139 2 4 4 true := FV.ofk (ft := 35) Tryz.underlying139 rfl rfl rfl inferInstance
instance : FO Tryz.prog 139 3 8 := FO.of (k := 1) Tryz.underlying139 rfl rfl rfl (by kernel_rfl) (by decide)
instance : FV Tryz.prog 139 3 8 1 false := FV.of1 (ft := 3) Tryz.underlying139 rfl rfl rfl inferInstance
instance : Bd Tryz.prog 140 [(0, 3), (3, 1), (4, 4), (8, 1)] [.int .i64 0, .int .i64 0, .int .i64 0, .int .i64 0, .int .i64 0, .int .i64 0, .int .i64 0, .int .i64 0, .int .i64 0] := ⟨fun _ => by kernel_rfl⟩
instance : FO Tryz.prog 140 0 0 := FO.of (k := 3) Tryz.underlying140 rfl rfl rfl (by kernel_rfl) (by decide)
instance : FV Tryz.prog 140 0 0 3 true := FV.ofk (ft := 33) Tryz.underlying140 rfl rfl rfl inferInstance
instance : FO Tryz.prog 140 1 3 := FO.of (k := 1) Tryz.underlying140 rfl rfl rfl (by kernel_rfl) (by decide)
instance : FV Tryz.prog 140 1 3 1 false := FV.of1 (ft := 3) Tryz.underlying140 rfl rfl rfl inferInstance
instance : FO Tryz.prog 140 2 4 := FO.of (k := 4) Tryz.underlying140 rfl rfl rfl (by kernel_rfl) (by decide)
instance : FV Tryz.prog 140 2 4 4 true := FV.ofk (ft := 35) Tryz.underlying140 rfl rfl rfl inferInstance
instance : FO Tryz.prog 140 3 8 := FO.of (k := 1) Tryz.underlying140 rfl rfl rfl (by kernel_rfl) (by decide)
instance : FV Tryz.prog 140 3 8 1 false := FV.of1 (ft := 3) Tryz.underlying140 rfl rfl rfl inferInstance
instance : Bd Tryz.prog 145 [(0, 1), (1, 1)] [.slice none 0 0, .int .i64 0] := ⟨fun _ => by kernel_rfl⟩
instance : FO Tryz.prog 145 0 0 := FO.of (k := 1) Tryz.underlying145 rfl rfl rfl (by kernel_rfl) (by decide)
instance : FV Tryz.prog 145 0 0 1 false := FV.of1 (ft := 27) Tryz.underlying145 rfl rfl rfl inferInstance
instance : FO Tryz.prog 145 1 1 := FO.of (k := 1) Tryz.underlying145 rfl rfl rfl (by kernel_rfl) (by decide)
instance : FV Tryz.prog 145 1 1 1 false := FV.of1 (ft := 3) Tryz.underlying145 rfl rfl rfl inferInstance
instance : Bd Tryz.prog 146 [(0, 1), (1, 1)] [.slice none 0 0, .int .i64 0] := ⟨fun _ => by kernel_rfl⟩
instance : FO Tryz.prog 146 0 0 := FO.of (k := 1) Tryz.underlying146 rfl rfl rfl (by kernel_rfl) (by decide)
instance : FV Tryz.prog 146 0 0 1 false := FV.of1 (ft := 27) Tryz.underlying146 rfl rfl rfl inferInstance
instance : FO Tryz.prog 146 1 1 := FO.of (k := 1) Tryz.underlying146 rfl rfl rfl (by kernel_rfl) (by decide)
instance : FV Tryz.prog 146 1 1 1 false := FV.of1 (ft := 3) Tryz.underlying146 rfl rfl rfl inferInstance
instance : Bd Tryz.prog 160 [(0, 8), (8, 8)] [.int .i64 0, .int .i64 0, .int .i64 0, .int .i64 0, .int .i64 0, .int .i64 0, .int .i64 0, .int .i64 0, .int .i64 0, .int .i64 0, .int .i64 0, .int .i64 0, .int .i64 0, .int .i64 0, .int .i64 0, .int .i64 0] := ⟨fun _ => by kernel_rfl⟩
instance : FO Tryz.prog 160 0 0 := FO.of (k := 8) Tryz.underlying160 rfl rfl rfl (by kernel_rfl) (by decide)
instance : FV Tryz.prog 160 0 0 8 true := FV.ofk (ft := 37) Tryz.underlying160 rfl rfl rfl inferInstance
instance : FO Tryz.prog 160 1 8 := FO.of (k := 8) Tryz.underlying160 rfl rfl rfl (by kernel_rfl) (by decide)
instance : FV Tryz.prog 160 1 8 8 true := FV.ofk (ft := 37) Tryz.underlying160 rfl rfl rfl inferInstance
instance : Bd Tryz.prog 161 [(0, 8), (8, 8)] [.int .i64 0, .int .i64 0, .int .i64 0, .int .i64 0, .int .i64 0, .int .i64 0, .int .i64 0, .int .i64 0, .int .i64 0, .int .i64 0, .int .i64 0, .int .i64 0, .int .i64 0, .int .i64 0, .int .i64 0, .int .i64 0] := ⟨fun _ => by kernel_rfl⟩
instance : FO Tryz.prog 161 0 0 := FO.of (k := 8) Tryz.underlying161 rfl rfl rfl (by kernel_rfl) (by decide)
instance : FV Tryz.prog 161 0 0 8 true := FV.ofk (ft := 37) Tryz.underlying161 rfl rfl rfl inferInstance
instance : FO Tryz.prog 161 1 8 := FO.of (k := 8) Tryz.underlying161 rfl rfl rfl (by kernel_rfl) (by decide)
instance : FV Tryz.prog 161 1 8 8 true := FV.ofk (ft := 37) Tryz.underlying161 rfl rfl rfl inferInstance
instance : Bd Tryz.prog 184 [(0, 1), (1, 1), (2, 1)] [.int .i64 0, .int .i64 0, .int .i64 0] := ⟨fun _ => by kernel_rfl⟩
instance : FO Tryz.prog 184 0 0 := FO.of (k := 1) Tryz.underlying184 rfl rfl rfl (by kernel_rfl) (by decide)
instance : FV Tryz.prog 184 0 0 1 false := FV.of1 (ft := 3) Tryz.underlying184 rfl rfl rfl inferInstance
instance : FO Tryz.prog 184 1 1 := FO.of (k := 1) Tryz.underlying184 rfl rfl rfl (by kernel_rfl) (by decide)
instance : FV Tryz.prog 184 1 1 1 false := FV.of1 (ft := 3) Tryz.underlying184 rfl rfl rfl inferInstance
instance : FO Tryz.prog 184 2 2 := FO.of (k := 1) Tryz.underlying184 rfl rfl rfl (by kernel_rfl) (by decide)
instance : FV Tryz.prog 184 2 2 1 false := FV.of1 (ft := 3) Tryz.underlying184 rfl rfl rfl inferInstance
instance : Bd Tryz.prog 185 [(0, 1), (1, 1), (2, 1)] [.int .i64 0, .int .i64 0, .int .i64 0] := ⟨fun _ => by kernel_rfl⟩
instance : FO Tryz.prog 185 0 0 := FO.of (k := 1) Tryz.underlying185 rfl rfl rfl (by kernel_rfl) (by decide)
instance : FV Tryz.prog 185 0 0 1 false := FV.of1 (ft := 3) Tryz.underlying185 rfl rfl rfl inferInstance
instance : FO Tryz.prog 185 1 1 := FO.of (k := 1) Tryz.underlying185 rfl rfl rfl (by kernel_rfl) (by decide)
instance : FV Tryz.prog 185 1 1 1 false := FV.of1 (ft := 3) Tryz.underlying185 rfl rfl rfl inferInstance
instance : FO Tryz.prog 185 2 2 := FO.of (k := 1) Tryz.underlying185 rfl rfl rfl (by kernel_rfl) (by decide)
instance : FV Tryz.prog 185 2 2 1 false := FV.of1 (ft := 3) Tryz.underlying185 rfl rfl rfl inferInstance
instance : ArT Tryz.prog 190 3 1 := ⟨_, Tryz.underlying190, by kernel_rfl⟩
instance : Bd Tryz.prog 191 [(0, 1)] [.int .i64 0] := ⟨fun _ => by kernel_rfl⟩
instance : FO Tryz.prog 191 0 0 := FO.of (k := 1) Tryz.underlying191 rfl rfl rfl (by kernel_rfl) (by decide)
instance : FV Tryz.prog 191 0 0 1 false := FV.of1 (ft := 3) Tryz.underlying191 rfl rfl rfl inferInstance
instance : Bd Tryz.prog 192 [(0, 1)] [.int .i64 0] := ⟨fun _ => by kernel_rfl⟩
instance : FO Tryz.prog 192 0 0 := FO.of (k := 1) Tryz.underlying192 rfl rfl rfl (by kernel_rfl) (by decide)
instance : FV Tryz.prog 192 0 0 1 false := FV.of1 (ft := 3) Tryz.underlying192 rfl rfl rfl inferInstance
instance : Bd Tryz.prog 195 [(0, 1), (1, 1), (2, 1)] [.pointer none, .pointer none, .int .u64 0] := ⟨fun _ => by kernel_rfl⟩
instance : FO Tryz.prog 195 0 0 := FO.of (k := 1) Tryz.underlying195 rfl rfl rfl (by kernel_rfl) (by decide)
instance : FV Tryz.prog 195 0 0 1 false := FV.of1 (ft := 17) Tryz.underlying195 rfl rfl rfl inferInstance
instance : FO Tryz.prog 195 1 1 := FO.of (k := 1) Tryz.underlying195 rfl rfl rfl (by kernel_rfl) (by decide)
instance : FV Tryz.prog 195 1 1 1 false := FV.of1 (ft := 193) Tryz.underlying195 rfl rfl rfl inferInstance
instance : FO Tryz.prog 195 2 2 := FO.of (k := 1) Tryz.underlying195 rfl rfl rfl (by kernel_rfl) (by decide)
instance : FV Tryz.prog 195 2 2 1 false := FV.of1 (ft := 194) Tryz.underlying195 rfl rfl rfl inferInstance
instance : Bd Tryz.prog 196 [(0, 1), (1, 1), (2, 1)] [.pointer none, .pointer none, .int .u64 0] := ⟨fun _ => by kernel_rfl⟩
instance : FO Tryz.prog 196 0 0 := FO.of (k := 1) Tryz.underlying196 rfl rfl rfl (by kernel_rfl) (by decide)
instance : FV Tryz.prog 196 0 0 1 false := FV.of1 (ft := 17) Tryz.underlying196 rfl rfl rfl inferInstance
instance : FO Tryz.prog 196 1 1 := FO.of (k := 1) Tryz.underlying196 rfl rfl rfl (by kernel_rfl) (by decide)
instance : FV Tryz.prog 196 1 1 1 false := FV.of1 (ft := 193) Tryz.underlying196 rfl rfl rfl inferInstance
instance : FO Tryz.prog 196 2 2 := FO.of (k := 1) Tryz.underlying196 rfl rfl rfl (by kernel_rfl) (by decide)
instance : FV Tryz.prog 196 2 2 1 false := FV.of1 (ft := 194) Tryz.underlying196 rfl rfl rfl inferInstance
instance : ArT Tryz.prog 209 12 1 := ⟨_, Tryz.underlying209, by kernel_rfl⟩
instance : Bd Tryz.prog 222 [(0, 1)] [.pointer none] := ⟨fun _ => by kernel_rfl⟩
instance : FO Tryz.prog 222 0 0 := FO.of (k := 1) Tryz.underlying222 rfl rfl rfl (by kernel_rfl) (by decide)
instance : FV Tryz.prog 222 0 0 1 false := FV.of1 (ft := 17) Tryz.underlying222 rfl rfl rfl inferInstance
instance : Bd Tryz.prog 223 [(0, 1)] [.pointer none] := ⟨fun _ => by kernel_rfl⟩
instance : FO Tryz.prog 223 0 0 := FO.of (k := 1) Tryz.underlying223 rfl rfl rfl (by kernel_rfl) (by decide)
instance : FV Tryz.prog 223 0 0 1 false := FV.of1 (ft := 17) Tryz.underlying223 rfl rfl rfl inferInstance
instance : ArT Tryz.prog 240 24 1 := ⟨_, Tryz.underlying240, by kernel_rfl⟩
instance : ArT Tryz.prog 250 20 1 := ⟨_, Tryz.underlying250, by kernel_rfl⟩
instance : Bd Tryz.prog 256 [(0, 1), (1, 1)] [.int .u8 0, .int .u8 0] := ⟨fun _ => by kernel_rfl⟩
instance : FO Tryz.prog 256 0 0 := FO.of (k := 1) Tryz.underlying256 rfl rfl rfl (by kernel_rfl) (by decide)
instance : FV Tryz.prog 256 0 0 1 false := FV.of1 (ft := 5) Tryz.underlying256 rfl rfl rfl inferInstance
instance : FO Tryz.prog 256 1 1 := FO.of (k := 1) Tryz.underlying256 rfl rfl rfl (by kernel_rfl) (by decide)
instance : FV Tryz.prog 256 1 1 1 false := FV.of1 (ft := 5) Tryz.underlying256 rfl rfl rfl inferInstance
instance : Bd Tryz.prog 257 [(0, 1), (1, 1)] [.int .u8 0, .int .u8 0] := ⟨fun _ => by kernel_rfl⟩
instance : FO Tryz.prog 257 0 0 := FO.of (k := 1) Tryz.underlying257 rfl rfl rfl (by kernel_rfl) (by decide)
instance : FV Tryz.prog 257 0 0 1 false := FV.of1 (ft := 5) Tryz.underlying257 rfl rfl rfl inferInstance
instance : FO Tryz.prog 257 1 1 := FO.of (k := 1) Tryz.underlying257 rfl rfl rfl (by kernel_rfl) (by decide)
instance : FV Tryz.prog 257 1 1 1 false := FV.of1 (ft := 5) Tryz.underlying257 rfl rfl rfl inferInstance
instance : ArT Tryz.prog 258 16 2 := ⟨_, Tryz.underlying258, by kernel_rfl⟩
instance : ArT Tryz.prog 259 32 1 := ⟨_, Tryz.underlying259, by kernel_rfl⟩
instance : Bd Tryz.prog 262 [(0, 1), (1, 1), (2, 1), (3, 1)] [.pointer none, .pointer none, .pointer none, .string ByteArray.empty] := ⟨fun _ => by kernel_rfl⟩
instance : FO Tryz.prog 262 0 0 := FO.of (k := 1) Tryz.underlying262 rfl rfl rfl (by kernel_rfl) (by decide)
instance : FV Tryz.prog 262 0 0 1 false := FV.of1 (ft := 17) Tryz.underlying262 rfl rfl rfl inferInstance
instance : FO Tryz.prog 262 1 1 := FO.of (k := 1) Tryz.underlying262 rfl rfl rfl (by kernel_rfl) (by decide)
instance : FV Tryz.prog 262 1 1 1 false := FV.of1 (ft := 17) Tryz.underlying262 rfl rfl rfl inferInstance
instance : FO Tryz.prog 262 2 2 := FO.of (k := 1) Tryz.underlying262 rfl rfl rfl (by kernel_rfl) (by decide)
instance : FV Tryz.prog 262 2 2 1 false := FV.of1 (ft := 17) Tryz.underlying262 rfl rfl rfl inferInstance
instance : FO Tryz.prog 262 3 3 := FO.of (k := 1) Tryz.underlying262 rfl rfl rfl (by kernel_rfl) (by decide)
instance : FV Tryz.prog 262 3 3 1 false := FV.of1 (ft := 9) Tryz.underlying262 rfl rfl rfl inferInstance
instance : Bd Tryz.prog 263 [(0, 1), (1, 1), (2, 1), (3, 1)] [.pointer none, .pointer none, .pointer none, .string ByteArray.empty] := ⟨fun _ => by kernel_rfl⟩
instance : FO Tryz.prog 263 0 0 := FO.of (k := 1) Tryz.underlying263 rfl rfl rfl (by kernel_rfl) (by decide)
instance : FV Tryz.prog 263 0 0 1 false := FV.of1 (ft := 17) Tryz.underlying263 rfl rfl rfl inferInstance
instance : FO Tryz.prog 263 1 1 := FO.of (k := 1) Tryz.underlying263 rfl rfl rfl (by kernel_rfl) (by decide)
instance : FV Tryz.prog 263 1 1 1 false := FV.of1 (ft := 17) Tryz.underlying263 rfl rfl rfl inferInstance
instance : FO Tryz.prog 263 2 2 := FO.of (k := 1) Tryz.underlying263 rfl rfl rfl (by kernel_rfl) (by decide)
instance : FV Tryz.prog 263 2 2 1 false := FV.of1 (ft := 17) Tryz.underlying263 rfl rfl rfl inferInstance
instance : FO Tryz.prog 263 3 3 := FO.of (k := 1) Tryz.underlying263 rfl rfl rfl (by kernel_rfl) (by decide)
instance : FV Tryz.prog 263 3 3 1 false := FV.of1 (ft := 9) Tryz.underlying263 rfl rfl rfl inferInstance
instance : ArT Tryz.prog 264 0 1 := ⟨_, Tryz.underlying264, by kernel_rfl⟩
instance : Bd Tryz.prog 265 [(0, 0)] [] := ⟨fun _ => by kernel_rfl⟩
instance : Bd Tryz.prog 266 [(0, 0)] [] := ⟨fun _ => by kernel_rfl⟩
instance : Bd Tryz.prog 273 [(0, 1), (1, 1), (2, 1), (3, 1), (4, 1), (5, 1), (6, 1), (7, 1), (8, 1), (9, 1), (10, 1)] [.int .u64 0, .int .u64 0, .int .u32 0, .int .u8 0, .int .u8 0, .int .u8 0, .int .u8 0, .nilFunc, .pointer none, .int .i32 0, .int .i32 0] := ⟨fun _ => by kernel_rfl⟩
instance : FO Tryz.prog 273 0 0 := FO.of (k := 1) Tryz.underlying273 rfl rfl rfl (by kernel_rfl) (by decide)
instance : FV Tryz.prog 273 0 0 1 false := FV.of1 (ft := 12) Tryz.underlying273 rfl rfl rfl inferInstance
instance : FO Tryz.prog 273 1 1 := FO.of (k := 1) Tryz.underlying273 rfl rfl rfl (by kernel_rfl) (by decide)
instance : FV Tryz.prog 273 1 1 1 false := FV.of1 (ft := 12) Tryz.underlying273 rfl rfl rfl inferInstance
instance : FO Tryz.prog 273 2 2 := FO.of (k := 1) Tryz.underlying273 rfl rfl rfl (by kernel_rfl) (by decide)
instance : FV Tryz.prog 273 2 2 1 false := FV.of1 (ft := 246) Tryz.underlying273 rfl rfl rfl inferInstance
instance : FO Tryz.prog 273 3 3 := FO.of (k := 1) Tryz.underlying273 rfl rfl rfl (by kernel_rfl) (by decide)
instance : FV Tryz.prog 273 3 3 1 false := FV.of1 (ft := 268) Tryz.underlying273 rfl rfl rfl inferInstance
instance : FO Tryz.prog 273 4 4 := FO.of (k := 1) Tryz.underlying273 rfl rfl rfl (by kernel_rfl) (by decide)
instance : FV Tryz.prog 273 4 4 1 false := FV.of1 (ft := 5) Tryz.underlying273 rfl rfl rfl inferInstance
instance : FO Tryz.prog 273 5 5 := FO.of (k := 1) Tryz.underlying273 rfl rfl rfl (by kernel_rfl) (by decide)
instance : FV Tryz.prog 273 5 5 1 false := FV.of1 (ft := 5) Tryz.underlying273 rfl rfl rfl inferInstance
instance : FO Tryz.prog 273 6 6 := FO.of (k := 1) Tryz.underlying273 rfl rfl rfl (by kernel_rfl) (by decide)
instance : FV Tryz.prog 273 6 6 1 false := FV.of1 (ft := 201) Tryz.underlying273 rfl rfl rfl inferInstance
instance : FO Tryz.prog 273 7 7 := FO.of (k := 1) Tryz.underlying273 rfl rfl rfl (by kernel_rfl) (by decide)
instance : FV Tryz.prog 273 7 7 1 false := FV.of1 (ft := 269) Tryz.underlying273 rfl rfl rfl inferInstance
instance : FO Tryz.prog 273 8 8 := FO.of (k := 1) Tryz.underlying273 rfl rfl rfl (by kernel_rfl) (by decide)
instance : FV Tryz.prog 273 8 8 1 false := FV.of1 (ft := 270) Tryz.underlying273 rfl rfl rfl inferInstance
instance : FO Tryz.prog 273 9 9 := FO.of (k := 1) Tryz.underlying273 rfl rfl rfl (by kernel_rfl) (by decide)
instance : FV Tryz.prog 273 9 9 1 false := FV.of1 (ft := 271) Tryz.underlying273 rfl rfl rfl inferInstance
instance : FO Tryz.prog 273 10 10 := FO.of (k := 1) Tryz.underlying273 rfl rfl rfl (by kernel_rfl) (by decide)
instance : FV Tryz.prog 273 10 10 1 false := FV.of1 (ft := 272) Tryz.underlying273 rfl rfl rfl inferInstance
instance : Bd Tryz.prog 274 [(0, 1), (1, 1), (2, 1), (3, 1), (4, 1), (5, 1), (6, 1), (7, 1), (8, 1), (9, 1), (10, 1)] [.int .u64 0, .int .u64 0, .int .u32 0, .int .u8 0, .int .u8 0, .int .u8 0, .int .u8 0, .nilFunc, .pointer none, .int .i32 0, .int .i32 0] := ⟨fun _ => by kernel_rfl⟩
instance : FO Tryz.prog 274 0 0 := FO.of (k := 1) Tryz.underlying274 rfl rfl rfl (by kernel_rfl) (by decide)
instance : FV Tryz.prog 274 0 0 1 false := FV.of1 (ft := 12) Tryz.underlying274 rfl rfl rfl inferInstance
instance : FO Tryz.prog 274 1 1 := FO.of (k := 1) Tryz.underlying274 rfl rfl rfl (by kernel_rfl) (by decide)
instance : FV Tryz.prog 274 1 1 1 false := FV.of1 (ft := 12) Tryz.underlying274 rfl rfl rfl inferInstance
instance : FO Tryz.prog 274 2 2 := FO.of (k := 1) Tryz.underlying274 rfl rfl rfl (by kernel_rfl) (by decide)
instance : FV Tryz.prog 274 2 2 1 false := FV.of1 (ft := 246) Tryz.underlying274 rfl rfl rfl inferInstance
instance : FO Tryz.prog 274 3 3 := FO.of (k := 1) Tryz.underlying274 rfl rfl rfl (by kernel_rfl) (by decide)
instance : FV Tryz.prog 274 3 3 1 false := FV.of1 (ft := 268) Tryz.underlying274 rfl rfl rfl inferInstance
instance : FO Tryz.prog 274 4 4 := FO.of (k := 1) Tryz.underlying274 rfl rfl rfl (by kernel_rfl) (by decide)
instance : FV Tryz.prog 274 4 4 1 false := FV.of1 (ft := 5) Tryz.underlying274 rfl rfl rfl inferInstance
instance : FO Tryz.prog 274 5 5 := FO.of (k := 1) Tryz.underlying274 rfl rfl rfl (by kernel_rfl) (by decide)
instance : FV Tryz.prog 274 5 5 1 false := FV.of1 (ft := 5) Tryz.underlying274 rfl rfl rfl inferInstance
instance : FO Tryz.prog 274 6 6 := FO.of (k := 1) Tryz.underlying274 rfl rfl rfl (by kernel_rfl) (by decide)
instance : FV Tryz.prog 274 6 6 1 false := FV.of1 (ft := 201) Tryz.underlying274 rfl rfl rfl inferInstance
instance : FO Tryz.prog 274 7 7 := FO.of (k := 1) Tryz.underlying274 rfl rfl rfl (by kernel_rfl) (by decide)
instance : FV Tryz.prog 274 7 7 1 false := FV.of1 (ft := 269) Tryz.underlying274 rfl rfl rfl inferInstance
instance : FO Tryz.prog 274 8 8 := FO.of (k := 1) Tryz.underlying274 rfl rfl rfl (by kernel_rfl) (by decide)
instance : FV Tryz.prog 274 8 8 1 false := FV.of1 (ft := 270) Tryz.underlying274 rfl rfl rfl inferInstance
instance : FO Tryz.prog 274 9 9 := FO.of (k := 1) Tryz.underlying274 rfl rfl rfl (by kernel_rfl) (by decide)
instance : FV Tryz.prog 274 9 9 1 false := FV.of1 (ft := 271) Tryz.underlying274 rfl rfl rfl inferInstance
instance : FO Tryz.prog 274 10 10 := FO.of (k := 1) Tryz.underlying274 rfl rfl rfl (by kernel_rfl) (by decide)
instance : FV Tryz.prog 274 10 10 1 false := FV.of1 (ft := 272) Tryz.underlying274 rfl rfl rfl inferInstance
instance : Bd Tryz.prog 278 [(0, 1), (1, 1)] [.string ByteArray.empty, .int .u8 0] := ⟨fun _ => by kernel_rfl⟩
instance : FO Tryz.prog 278 0 0 := FO.of (k := 1) Tryz.underlying278 rfl rfl rfl (by kernel_rfl) (by decide)
instance : FV Tryz.prog 278 0 0 1 false := FV.of1 (ft := 9) Tryz.underlying278 rfl rfl rfl inferInstance
instance : FO Tryz.prog 278 1 1 := FO.of (k := 1) Tryz.underlying278 rfl rfl rfl (by kernel_rfl) (by decide)
instance : FV Tryz.prog 278 1 1 1 false := FV.of1 (ft := 201) Tryz.underlying278 rfl rfl rfl inferInstance
instance : Bd Tryz.prog 279 [(0, 1), (1, 1)] [.string ByteArray.empty, .int .u8 0] := ⟨fun _ => by kernel_rfl⟩
instance : FO Tryz.prog 279 0 0 := FO.of (k := 1) Tryz.underlying279 rfl rfl rfl (by kernel_rfl) (by decide)
instance : FV Tryz.prog 279 0 0 1 false := FV.of1 (ft := 9) Tryz.underlying279 rfl rfl rfl inferInstance
instance : FO Tryz.prog 279 1 1 := FO.of (k := 1) Tryz.underlying279 rfl rfl rfl (by kernel_rfl) (by decide)
instance : FV Tryz.prog 279 1 1 1 false := FV.of1 (ft := 201) Tryz.underlying279 rfl rfl rfl inferInstance
instance : Bd Tryz.prog 286 [(0, 1), (1, 1), (2, 1), (3, 1), (4, 1)] [.int .i32 0, .int .u16 0, .int .u16 0, .int .u32 0, .int .u32 0] := ⟨fun _ => by kernel_rfl⟩
instance : FO Tryz.prog 286 0 0 := FO.of (k := 1) Tryz.underlying286 rfl rfl rfl (by kernel_rfl) (by decide)
instance : FV Tryz.prog 286 0 0 1 false := FV.of1 (ft := 271) Tryz.underlying286 rfl rfl rfl inferInstance
instance : FO Tryz.prog 286 1 1 := FO.of (k := 1) Tryz.underlying286 rfl rfl rfl (by kernel_rfl) (by decide)
instance : FV Tryz.prog 286 1 1 1 false := FV.of1 (ft := 285) Tryz.underlying286 rfl rfl rfl inferInstance
instance : FO Tryz.prog 286 2 2 := FO.of (k := 1) Tryz.underlying286 rfl rfl rfl (by kernel_rfl) (by decide)
instance : FV Tryz.prog 286 2 2 1 false := FV.of1 (ft := 285) Tryz.underlying286 rfl rfl rfl inferInstance
instance : FO Tryz.prog 286 3 3 := FO.of (k := 1) Tryz.underlying286 rfl rfl rfl (by kernel_rfl) (by decide)
instance : FV Tryz.prog 286 3 3 1 false := FV.of1 (ft := 246) Tryz.underlying286 rfl rfl rfl inferInstance
instance : FO Tryz.prog 286 4 4 := FO.of (k := 1) Tryz.underlying286 rfl rfl rfl (by kernel_rfl) (by decide)
instance : FV Tryz.prog 286 4 4 1 false := FV.of1 (ft := 246) Tryz.underlying286 rfl rfl rfl inferInstance
instance : Bd Tryz.prog 287 [(0, 1), (1, 1), (2, 1), (3, 1), (4, 1)] [.int .i32 0, .int .u16 0, .int .u16 0, .int .u32 0, .int .u32 0] := ⟨fun _ => by kernel_rfl⟩
instance : FO Tryz.prog 287 0 0 := FO.of (k := 1) Tryz.underlying287 rfl rfl rfl (by kernel_rfl) (by decide)
instance : FV Tryz.prog 287 0 0 1 false := FV.of1 (ft := 271) Tryz.underlying287 rfl rfl rfl inferInstance
instance : FO Tryz.prog 287 1 1 := FO.of (k := 1) Tryz.underlying287 rfl rfl rfl (by kernel_rfl) (by decide)
instance : FV Tryz.prog 287 1 1 1 false := FV.of1 (ft := 285) Tryz.underlying287 rfl rfl rfl inferInstance
instance : FO Tryz.prog 287 2 2 := FO.of (k := 1) Tryz.underlying287 rfl rfl rfl (by kernel_rfl) (by decide)
instance : FV Tryz.prog 287 2 2 1 false := FV.of1 (ft := 285) Tryz.underlying287 rfl rfl rfl inferInstance
instance : FO Tryz.prog 287 3 3 := FO.of (k := 1) Tryz.underlying287 rfl rfl rfl (by kernel_rfl) (by decide)
instance : FV Tryz.prog 287 3 3 1 false := FV.of1 (ft := 246) Tryz.underlying287 rfl rfl rfl inferInstance
instance : FO Tryz.prog 287 4 4 := FO.of (k := 1) Tryz.underlying287 rfl rfl rfl (by kernel_rfl) (by decide)
instance : FV Tryz.prog 287 4 4 1 false := FV.of1 (ft := 246) Tryz.underlying287 rfl rfl rfl inferInstance
instance : Bd Tryz.prog 290 [(0, 1), (1, 1), (2, 1), (3, 1)] [.int .i32 0, .int .i32 0, .int .i32 0, .int .i32 0] := ⟨fun _ => by kernel_rfl⟩
instance : FO Tryz.prog 290 0 0 := FO.of (k := 1) Tryz.underlying290 rfl rfl rfl (by kernel_rfl) (by decide)
instance : FV Tryz.prog 290 0 0 1 false := FV.of1 (ft := 271) Tryz.underlying290 rfl rfl rfl inferInstance
instance : FO Tryz.prog 290 1 1 := FO.of (k := 1) Tryz.underlying290 rfl rfl rfl (by kernel_rfl) (by decide)
instance : FV Tryz.prog 290 1 1 1 false := FV.of1 (ft := 272) Tryz.underlying290 rfl rfl rfl inferInstance
instance : FO Tryz.prog 290 2 2 := FO.of (k := 1) Tryz.underlying290 rfl rfl rfl (by kernel_rfl) (by decide)
instance : FV Tryz.prog 290 2 2 1 false := FV.of1 (ft := 289) Tryz.underlying290 rfl rfl rfl inferInstance
instance : FO Tryz.prog 290 3 3 := FO.of (k := 1) Tryz.underlying290 rfl rfl rfl (by kernel_rfl) (by decide)
instance : FV Tryz.prog 290 3 3 1 false := FV.of1 (ft := 289) Tryz.underlying290 rfl rfl rfl inferInstance
instance : Bd Tryz.prog 291 [(0, 1), (1, 1), (2, 1), (3, 1)] [.int .i32 0, .int .i32 0, .int .i32 0, .int .i32 0] := ⟨fun _ => by kernel_rfl⟩
instance : FO Tryz.prog 291 0 0 := FO.of (k := 1) Tryz.underlying291 rfl rfl rfl (by kernel_rfl) (by decide)
instance : FV Tryz.prog 291 0 0 1 false := FV.of1 (ft := 271) Tryz.underlying291 rfl rfl rfl inferInstance
instance : FO Tryz.prog 291 1 1 := FO.of (k := 1) Tryz.underlying291 rfl rfl rfl (by kernel_rfl) (by decide)
instance : FV Tryz.prog 291 1 1 1 false := FV.of1 (ft := 272) Tryz.underlying291 rfl rfl rfl inferInstance
instance : FO Tryz.prog 291 2 2 := FO.of (k := 1) Tryz.underlying291 rfl rfl rfl (by kernel_rfl) (by decide)
instance : FV Tryz.prog 291 2 2 1 false := FV.of1 (ft := 289) Tryz.underlying291 rfl rfl rfl inferInstance
instance : FO Tryz.prog 291 3 3 := FO.of (k := 1) Tryz.underlying291 rfl rfl rfl (by kernel_rfl) (by decide)
instance : FV Tryz.prog 291 3 3 1 false := FV.of1 (ft := 289) Tryz.underlying291 rfl rfl rfl inferInstance
instance : Ent Tryz.prog 2 := .of Tryz.func2 (by kernel_rfl) rfl
instance : Ent Tryz.prog 3 := .of Tryz.func3 (by kernel_rfl) rfl
instance : Ent Tryz.prog 4 := .of Tryz.func4 (by kernel_rfl) rfl
instance : Ent Tryz.prog 5 := .of Tryz.func5 (by kernel_rfl) rfl
instance : Ent Tryz.prog 6 := .of Tryz.func6 (by kernel_rfl) rfl
instance : Ent Tryz.prog 7 := .of Tryz.func7 (by kernel_rfl) rfl
instance : Ent Tryz.prog 8 := .of Tryz.func8 (by kernel_rfl) rfl
instance : Ent Tryz.prog 9 := .of Tryz.func9 (by kernel_rfl) rfl
instance : Ent Tryz.prog 10 := .of Tryz.func10 (by kernel_rfl) rfl
instance : Ent Tryz.prog 11 := .of Tryz.func11 (by kernel_rfl) rfl
instance : Ent Tryz.prog 12 := .of Tryz.func12 (by kernel_rfl) rfl
instance : Ent Tryz.prog 13 := .of Tryz.func13 (by kernel_rfl) rfl
instance : Ent Tryz.prog 14 := .of Tryz.func14 (by kernel_rfl) rfl
instance : Ent Tryz.prog 15 := .of Tryz.func15 (by kernel_rfl) rfl
instance : Ent Tryz.prog 16 := .of Tryz.func16 (by kernel_rfl) rfl
instance : Ent Tryz.prog 17 := .of Tryz.func17 (by kernel_rfl) rfl
instance : Ent Tryz.prog 18 := .of Tryz.func18 (by kernel_rfl) rfl
instance : Ent Tryz.prog 19 := .of Tryz.func19 (by kernel_rfl) rfl
instance : Ent Tryz.prog 20 := .of Tryz.func20 (by kernel_rfl) rfl
instance : Ent Tryz.prog 21 := .of Tryz.func21 (by kernel_rfl) rfl
instance : Ent Tryz.prog 22 := .of Tryz.func22 (by kernel_rfl) rfl
instance : Ent Tryz.prog 23 := .of Tryz.func23 (by kernel_rfl) rfl
instance : Ent Tryz.prog 24 := .of Tryz.func24 (by kernel_rfl) rfl
instance : Ent Tryz.prog 25 := .of Tryz.func25 (by kernel_rfl) rfl
instance : Ent Tryz.prog 26 := .of Tryz.func26 (by kernel_rfl) rfl
instance : Ent Tryz.prog 27 := .of Tryz.func27 (by kernel_rfl) rfl
instance : Ent Tryz.prog 28 := .of Tryz.func28 (by kernel_rfl) rfl
instance : Ent Tryz.prog 29 := .of Tryz.func29 (by kernel_rfl) rfl
instance : Ent Tryz.prog 30 := .of Tryz.func30 (by kernel_rfl) rfl
instance : Ent Tryz.prog 31 := .of Tryz.func31 (by kernel_rfl) rfl
instance : Ent Tryz.prog 32 := .of Tryz.func32 (by kernel_rfl) rfl
instance : Ent Tryz.prog 33 := .of Tryz.func33 (by kernel_rfl) rfl
instance : Ent Tryz.prog 34 := .of Tryz.func34 (by kernel_rfl) rfl
instance : Ent Tryz.prog 35 := .of Tryz.func35 (by kernel_rfl) rfl
instance : Ent Tryz.prog 36 := .of Tryz.func36 (by kernel_rfl) rfl
instance : Ent Tryz.prog 37 := .of Tryz.func37 (by kernel_rfl) rfl
instance : Ent Tryz.prog 38 := .of Tryz.func38 (by kernel_rfl) rfl
instance : Ent Tryz.prog 39 := .of Tryz.func39 (by kernel_rfl) rfl
instance : Ent Tryz.prog 40 := .of Tryz.func40 (by kernel_rfl) rfl
instance : Ent Tryz.prog 41 := .of Tryz.func41 (by kernel_rfl) rfl
instance : Ent Tryz.prog 42 := .of Tryz.func42 (by kernel_rfl) rfl
instance : Ent Tryz.prog 43 := .of Tryz.func43 (by kernel_rfl) rfl
instance : Ent Tryz.prog 44 := .of Tryz.func44 (by kernel_rfl) rfl
instance : Ent Tryz.prog 45 := .of Tryz.func45 (by kernel_rfl) rfl
instance : Ent Tryz.prog 46 := .of Tryz.func46 (by kernel_rfl) rfl
instance : Ent Tryz.prog 47 := .of Tryz.func47 (by kernel_rfl) rfl
instance : Ent Tryz.prog 48 := .of Tryz.func48 (by kernel_rfl) rfl
instance : Ent Tryz.prog 49 := .of Tryz.func49 (by kernel_rfl) rfl
instance : Ent Tryz.prog 50 := .of Tryz.func50 (by kernel_rfl) rfl
instance : Ent Tryz.prog 51 := .of Tryz.func51 (by kernel_rfl) rfl
instance : Ent Tryz.prog 52 := .of Tryz.func52 (by kernel_rfl) rfl
instance : Ent Tryz.prog 53 := .of Tryz.func53 (by kernel_rfl) rfl
instance : Ent Tryz.prog 54 := .of Tryz.func54 (by kernel_rfl) rfl
instance : Ent Tryz.prog 55 := .of Tryz.func55 (by kernel_rfl) rfl
instance : Ent Tryz.prog 56 := .of Tryz.func56 (by kernel_rfl) rfl
instance : Ent Tryz.prog 57 := .of Tryz.func57 (by kernel_rfl) rfl
instance : Ent Tryz.prog 58 := .of Tryz.func58 (by kernel_rfl) rfl
instance : Ent Tryz.prog 59 := .of Tryz.func59 (by kernel_rfl) rfl
instance : Ent Tryz.prog 60 := .of Tryz.func60 (by kernel_rfl) rfl
instance : Ent Tryz.prog 61 := .of Tryz.func61 (by kernel_rfl) rfl
instance : Ent Tryz.prog 62 := .of Tryz.func62 (by kernel_rfl) rfl
instance : Ent Tryz.prog 63 := .of Tryz.func63 (by kernel_rfl) rfl
instance : Ent Tryz.prog 64 := .of Tryz.func64 (by kernel_rfl) rfl
instance : Ent Tryz.prog 65 := .of Tryz.func65 (by kernel_rfl) rfl
instance : Ent Tryz.prog 66 := .of Tryz.func66 (by kernel_rfl) rfl
instance : Ent Tryz.prog 67 := .of Tryz.func67 (by kernel_rfl) rfl
instance : Ent Tryz.prog 68 := .of Tryz.func68 (by kernel_rfl) rfl
instance : Ent Tryz.prog 69 := .of Tryz.func69 (by kernel_rfl) rfl
instance : Ent Tryz.prog 70 := .of Tryz.func70 (by kernel_rfl) rfl
instance : Ent Tryz.prog 71 := .of Tryz.func71 (by kernel_rfl) rfl
instance : Ent Tryz.prog 72 := .of Tryz.func72 (by kernel_rfl) rfl
instance : Ent Tryz.prog 73 := .of Tryz.func73 (by kernel_rfl) rfl
instance : Ent Tryz.prog 74 := .of Tryz.func74 (by kernel_rfl) rfl
instance : Ent Tryz.prog 75 := .of Tryz.func75 (by kernel_rfl) rfl
instance : Ent Tryz.prog 76 := .of Tryz.func76 (by kernel_rfl) rfl
instance : Ent Tryz.prog 77 := .of Tryz.func77 (by kernel_rfl) rfl
instance : Ent Tryz.prog 78 := .of Tryz.func78 (by kernel_rfl) rfl
instance : Ent Tryz.prog 79 := .of Tryz.func79 (by kernel_rfl) rfl
instance : Ent Tryz.prog 80 := .of Tryz.func80 (by kernel_rfl) rfl
instance : Ent Tryz.prog 81 := .of Tryz.func81 (by kernel_rfl) rfl
instance : Ent Tryz.prog 82 := .of Tryz.func82 (by kernel_rfl) rfl
instance : Ent Tryz.prog 83 := .of Tryz.func83 (by kernel_rfl) rfl
instance : Ent Tryz.prog 84 := .of Tryz.func84 (by kernel_rfl) rfl
instance : Ent Tryz.prog 85 := .of Tryz.func85 (by kernel_rfl) rfl
instance : Ent Tryz.prog 86 := .of Tryz.func86 (by kernel_rfl) rfl
instance : Ent Tryz.prog 87 := .of Tryz.func87 (by kernel_rfl) rfl
instance : Ent Tryz.prog 88 := .of Tryz.func88 (by kernel_rfl) rfl
instance : Ent Tryz.prog 89 := .of Tryz.func89 (by kernel_rfl) rfl
instance : Ent Tryz.prog 90 := .of Tryz.func90 (by kernel_rfl) rfl
instance : Ent Tryz.prog 91 := .of Tryz.func91 (by kernel_rfl) rfl
instance : Ent Tryz.prog 92 := .of Tryz.func92 (by kernel_rfl) rfl
instance : Ent Tryz.prog 93 := .of Tryz.func93 (by kernel_rfl) rfl
instance : Ent Tryz.prog 94 := .of Tryz.func94 (by kernel_rfl) rfl
instance : Ent Tryz.prog 95 := .of Tryz.func95 (by kernel_rfl) rfl
instance : Ent Tryz.prog 96 := .of Tryz.func96 (by kernel_rfl) rfl
instance : Ent Tryz.prog 97 := .of Tryz.func97 (by kernel_rfl) rfl
instance : Ent Tryz.prog 98 := .of Tryz.func98 (by kernel_rfl) rfl
instance : Ent Tryz.prog 99 := .of Tryz.func99 (by kernel_rfl) rfl
instance : Ent Tryz.prog 100 := .of Tryz.func100 (by kernel_rfl) rfl
instance : Ent Tryz.prog 101 := .of Tryz.func101 (by kernel_rfl) rfl
instance : Ent Tryz.prog 102 := .of Tryz.func102 (by kernel_rfl) rfl
instance : Ent Tryz.prog 103 := .of Tryz.func103 (by kernel_rfl) rfl
instance : Ent Tryz.prog 104 := .of Tryz.func104 (by kernel_rfl) rfl
instance : Ent Tryz.prog 105 := .of Tryz.func105 (by kernel_rfl) rfl
instance : Ent Tryz.prog 106 := .of Tryz.func106 (by kernel_rfl) rfl
instance : Ent Tryz.prog 107 := .of Tryz.func107 (by kernel_rfl) rfl
instance : Ent Tryz.prog 108 := .of Tryz.func108 (by kernel_rfl) rfl
instance : Ent Tryz.prog 109 := .of Tryz.func109 (by kernel_rfl) rfl
instance : Ent Tryz.prog 110 := .of Tryz.func110 (by kernel_rfl) rfl
instance : Ent Tryz.prog 111 := .of Tryz.func111 (by kernel_rfl) rfl
instance : Ent Tryz.prog 112 := .of Tryz.func112 (by kernel_rfl) rfl
instance : Ent Tryz.prog 113 := .of Tryz.func113 (by kernel_rfl) rfl
instance : Ent Tryz.prog 114 := .of Tryz.func114 (by kernel_rfl) rfl
instance : Ent Tryz.prog 115 := .of Tryz.func115 (by kernel_rfl) rfl
instance : Ent Tryz.prog 116 := .of Tryz.func116 (by kernel_rfl) rfl
instance : Ent Tryz.prog 117 := .of Tryz.func117 (by kernel_rfl) rfl
instance : Ent Tryz.prog 118 := .of Tryz.func118 (by kernel_rfl) rfl
instance : Ent Tryz.prog 119 := .of Tryz.func119 (by kernel_rfl) rfl
instance : Ent Tryz.prog 120 := .of Tryz.func120 (by kernel_rfl) rfl
instance : Ent Tryz.prog 121 := .of Tryz.func121 (by kernel_rfl) rfl
instance : Ent Tryz.prog 122 := .of Tryz.func122 (by kernel_rfl) rfl
instance : Ent Tryz.prog 123 := .of Tryz.func123 (by kernel_rfl) rfl
instance : Ent Tryz.prog 124 := .of Tryz.func124 (by kernel_rfl) rfl
instance : Ent Tryz.prog 125 := .of Tryz.func125 (by kernel_rfl) rfl
instance : Ent Tryz.prog 126 := .of Tryz.func126 (by kernel_rfl) rfl
instance : Ent Tryz.prog 127 := .of Tryz.func127 (by kernel_rfl) rfl
instance : Ent Tryz.prog 128 := .of Tryz.func128 (by kernel_rfl) rfl
instance : Ent Tryz.prog 129 := .of Tryz.func129 (by kernel_rfl) rfl
instance : Ent Tryz.prog 130 := .of Tryz.func130 (by kernel_rfl) rfl
instance : Ent Tryz.prog 131 := .of Tryz.func131 (by kernel_rfl) rfl
instance : Ent Tryz.prog 132 := .of Tryz.func132 (by kernel_rfl) rfl
instance : Ent Tryz.prog 133 := .of Tryz.func133 (by kernel_rfl) rfl
instance : Ent Tryz.prog 134 := .of Tryz.func134 (by kernel_rfl) rfl
instance : Ent Tryz.prog 135 := .of Tryz.func135 (by kernel_rfl) rfl
instance : Ent Tryz.prog 136 := .of Tryz.func136 (by kernel_rfl) rfl
instance : Ent Tryz.prog 137 := .of Tryz.func137 (by kernel_rfl) rfl
instance : Ent Tryz.prog 138 := .of Tryz.func138 (by kernel_rfl) rfl
instance : Ent Tryz.prog 139 := .of Tryz.func139 (by kernel_rfl) rfl
instance : Ent Tryz.prog 140 := .of Tryz.func140 (by kernel_rfl) rfl
instance : Ent Tryz.prog 141 := .of Tryz.func141 (by kernel_rfl) rfl
instance : Ent Tryz.prog 142 := .of Tryz.func142 (by kernel_rfl) rfl
instance : Ent Tryz.prog 143 := .of Tryz.func143 (by kernel_rfl) rfl
instance : Ent Tryz.prog 144 := .of Tryz.func144 (by kernel_rfl) rfl
instance : Ent Tryz.prog 145 := .of Tryz.func145 (by kernel_rfl) rfl
instance : Ent Tryz.prog 146 := .of Tryz.func146 (by kernel_rfl) rfl
instance : Ent Tryz.prog 147 := .of Tryz.func147 (by kernel_rfl) rfl
instance : Ent Tryz.prog 148 := .of Tryz.func148 (by kernel_rfl) rfl
instance : Ent Tryz.prog 149 := .of Tryz.func149 (by kernel_rfl) rfl
instance : Ent Tryz.prog 150 := .of Tryz.func150 (by kernel_rfl) rfl
instance : Ent Tryz.prog 151 := .of Tryz.func151 (by kernel_rfl) rfl
instance : Ent Tryz.prog 152 := .of Tryz.func152 (by kernel_rfl) rfl
instance : Ent Tryz.prog 153 := .of Tryz.func153 (by kernel_rfl) rfl
instance : Ent Tryz.prog 154 := .of Tryz.func154 (by kernel_rfl) rfl
instance : Ent Tryz.prog 155 := .of Tryz.func155 (by kernel_rfl) rfl
instance : Ent Tryz.prog 156 := .of Tryz.func156 (by kernel_rfl) rfl
instance : Ent Tryz.prog 157 := .of Tryz.func157 (by kernel_rfl) rfl
instance : Ent Tryz.prog 158 := .of Tryz.func158 (by kernel_rfl) rfl
instance : Ent Tryz.prog 159 := .of Tryz.func159 (by kernel_rfl) rfl
instance : Ent Tryz.prog 160 := .of Tryz.func160 (by kernel_rfl) rfl
instance : Ent Tryz.prog 161 := .of Tryz.func161 (by kernel_rfl) rfl
instance : Ent Tryz.prog 162 := .of Tryz.func162 (by kernel_rfl) rfl
instance : Ent Tryz.prog 163 := .of Tryz.func163 (by kernel_rfl) rfl
instance : Ent Tryz.prog 164 := .of Tryz.func164 (by kernel_rfl) rfl
instance : Ent Tryz.prog 165 := .of Tryz.func165 (by kernel_rfl) rfl
instance : Ent Tryz.prog 166 := .of Tryz.func166 (by kernel_rfl) rfl
instance : Ent Tryz.prog 170 := .of Tryz.func170 (by kernel_rfl) rfl
instance : Ent Tryz.prog 171 := .of Tryz.func171 (by kernel_rfl) rfl
instance : Ent Tryz.prog 172 := .of Tryz.func172 (by kernel_rfl) rfl
instance : Ent Tryz.prog 173 := .of Tryz.func173 (by kernel_rfl) rfl
instance : Ent Tryz.prog 174 := .of Tryz.func174 (by kernel_rfl) rfl
instance : Ent Tryz.prog 175 := .of Tryz.func175 (by kernel_rfl) rfl
instance : Ent Tryz.prog 176 := .of Tryz.func176 (by kernel_rfl) rfl
instance : Ent Tryz.prog 177 := .of Tryz.func177 (by kernel_rfl) rfl
instance : Ent Tryz.prog 178 := .of Tryz.func178 (by kernel_rfl) rfl
instance : Ent Tryz.prog 179 := .of Tryz.func179 (by kernel_rfl) rfl
instance : Ent Tryz.prog 180 := .of Tryz.func180 (by kernel_rfl) rfl
instance : Ent Tryz.prog 181 := .of Tryz.func181 (by kernel_rfl) rfl
instance : Ent Tryz.prog 182 := .of Tryz.func182 (by kernel_rfl) rfl
instance : Ent Tryz.prog 183 := .of Tryz.func183 (by kernel_rfl) rfl
instance : Ent Tryz.prog 184 := .of Tryz.func184 (by kernel_rfl) rfl
instance : Ent Tryz.prog 185 := .of Tryz.func185 (by kernel_rfl) rfl
instance : Ent Tryz.prog 186 := .of Tryz.func186 (by kernel_rfl) rfl
instance : Ent Tryz.prog 187 := .of Tryz.func187 (by kernel_rfl) rfl
instance : Ent Tryz.prog 188 := .of Tryz.func188 (by kernel_rfl) rfl
instance : Ent Tryz.prog 189 := .of Tryz.func189 (by kernel_rfl) rfl
instance : Ent Tryz.prog 190 := .of Tryz.func190 (by kernel_rfl) rfl
instance : Ent Tryz.prog 191 := .of Tryz.func191 (by kernel_rfl) rfl
instance : Ent Tryz.prog 192 := .of Tryz.func192 (by kernel_rfl) rfl
instance : Ent Tryz.prog 193 := .of Tryz.func193 (by kernel_rfl) rfl
instance : Ent Tryz.prog 197 := .of Tryz.func197 (by kernel_rfl) rfl
instance : Ent Tryz.prog 198 := .of Tryz.func198 (by kernel_rfl) rfl
instance : Ent Tryz.prog 199 := .of Tryz.func199 (by kernel_rfl) rfl
instance : Ent Tryz.prog 201 := .of Tryz.func201 (by kernel_rfl) rfl
instance : Ent Tryz.prog 202 := .of Tryz.func202 (by kernel_rfl) rfl
instance : Ent Tryz.prog 203 := .of Tryz.func203 (by kernel_rfl) rfl
instance : Ent Tryz.prog 204 := .of Tryz.func204 (by kernel_rfl) rfl
instance : Ent Tryz.prog 205 := .of Tryz.func205 (by kernel_rfl) rfl
instance : Ent Tryz.prog 206 := .of Tryz.func206 (by kernel_rfl) rfl
instance : Ent Tryz.prog 207 := .of Tryz.func207 (by kernel_rfl) rfl
instance : Ent Tryz.prog 208 := .of Tryz.func208 (by kernel_rfl) rfl
instance : Ent Tryz.prog 209 := .of Tryz.func209 (by kernel_rfl) rfl
instance : Ent Tryz.prog 210 := .of Tryz.func210 (by kernel_rfl) rfl
instance : Ent Tryz.prog 211 := .of Tryz.func211 (by kernel_rfl) rfl
instance : Ent Tryz.prog 212 := .of Tryz.func212 (by kernel_rfl) rfl
instance : Ent Tryz.prog 214 := .of Tryz.func214 (by kernel_rfl) rfl
instance : Ent Tryz.prog 215 := .of Tryz.func215 (by kernel_rfl) rfl
instance : Ent Tryz.prog 216 := .of Tryz.func216 (by kernel_rfl) rfl
instance : Ent Tryz.prog 217 := .of Tryz.func217 (by kernel_rfl) rfl
instance : Ent Tryz.prog 218 := .of Tryz.func218 (by kernel_rfl) rfl
instance : Ent Tryz.prog 219 := .of Tryz.func219 (by kernel_rfl) rfl
instance : Ent Tryz.prog 220 := .of Tryz.func220 (by kernel_rfl) rfl
instance : Ent Tryz.prog 221 := .of Tryz.func221 (by kernel_rfl) rfl
instance : Ent Tryz.prog 222 := .of Tryz.func222 (by kernel_rfl) rfl
instance : Ent Tryz.prog 223 := .of Tryz.func223 (by kernel_rfl) rfl
instance : Ent Tryz.prog 224 := .of Tryz.func224 (by kernel_rfl) rfl
instance : Ent Tryz.prog 225 := .of Tryz.func225 (by kernel_rfl) rfl
instance : Ent Tryz.prog 226 := .of Tryz.func226 (by kernel_rfl) rfl
instance : Ent Tryz.prog 227 := .of Tryz.func227 (by kernel_rfl) rfl
instance : Ent Tryz.prog 247 := .of Tryz.func247 (by kernel_rfl) rfl
instance : Ent Tryz.prog 248 := .of Tryz.func248 (by kernel_rfl) rfl
instance : Ent Tryz.prog 249 := .of Tryz.func249 (by kernel_rfl) rfl
instance : Ent Tryz.prog 250 := .of Tryz.func250 (by kernel_rfl) rfl
instance : Ent Tryz.prog 251 := .of Tryz.func251 (by kernel_rfl) rfl
instance : Ent Tryz.prog 280 := .of Tryz.func280 (by kernel_rfl) rfl

end D
end Go.Proofs.YtpgbmohocfcjpaaGreatDoor

namespace Go.Proofs.YtpgbmohocfcjpaaGreatDoor
set_option linter.unusedVariables false
set_option linter.unusedSimpArgs false
namespace D
open Go.RowKit

instance : Ci Tryz.prog 1 := ⟨_, Tryz.underlying1, rfl⟩
instance : Zv Tryz.prog 1 (.nilFunc) := ⟨by kernel_rfl⟩
instance : Ci Tryz.prog 2 := ⟨_, Tryz.underlying2, rfl⟩
instance : Zv Tryz.prog 2 (.int .i64 0) := ⟨by kernel_rfl⟩
instance : Ci Tryz.prog 3 := ⟨_, Tryz.underlying3, rfl⟩
instance : Zv Tryz.prog 3 (.int .i64 0) := ⟨by kernel_rfl⟩
instance : Ci Tryz.prog 4 := ⟨_, Tryz.underlying4, rfl⟩
instance : Zv Tryz.prog 4 (.bool false) := ⟨by kernel_rfl⟩
instance : U8 Tryz.prog 5 := ⟨Tryz.underlying5⟩
instance : Ci Tryz.prog 5 := ⟨_, Tryz.underlying5, rfl⟩
instance : Zv Tryz.prog 5 (.int .u8 0) := ⟨by kernel_rfl⟩
instance : U8 Tryz.prog 6 := ⟨Tryz.underlying6⟩
instance : Ci Tryz.prog 6 := ⟨_, Tryz.underlying6, rfl⟩
instance : Zv Tryz.prog 6 (.int .u8 0) := ⟨by kernel_rfl⟩
instance : Ci Tryz.prog 7 := ⟨_, Tryz.underlying7, rfl⟩
instance : Zv Tryz.prog 7 (.agg #[.int .i64 0, .int .i64 0, .bool false, .int .u8 0]) := ⟨by kernel_rfl⟩
instance : Ci Tryz.prog 8 := ⟨_, Tryz.underlying8, rfl⟩
instance : Zv Tryz.prog 8 (.agg #[.int .i64 0, .int .i64 0, .bool false, .int .u8 0]) := ⟨by kernel_rfl⟩
instance : Ci Tryz.prog 9 := ⟨_, Tryz.underlying9, rfl⟩
instance : Zv Tryz.prog 9 (.string ByteArray.empty) := ⟨by kernel_rfl⟩
instance : Ci Tryz.prog 10 := ⟨_, Tryz.underlying10, rfl⟩
instance : Zv Tryz.prog 10 (.string ByteArray.empty) := ⟨by kernel_rfl⟩
instance : Ci Tryz.prog 11 := ⟨_, Tryz.underlying11, rfl⟩
instance : Zv Tryz.prog 11 (.string ByteArray.empty) := ⟨by kernel_rfl⟩
instance : Ci Tryz.prog 12 := ⟨_, Tryz.underlying12, rfl⟩
instance : Zv Tryz.prog 12 (.int .u64 0) := ⟨by kernel_rfl⟩
instance : Ci Tryz.prog 13 := ⟨_, Tryz.underlying13, rfl⟩
instance : Zv Tryz.prog 13 (.agg #[.string ByteArray.empty, .int .u64 0]) := ⟨by kernel_rfl⟩
instance : Ci Tryz.prog 14 := ⟨_, Tryz.underlying14, rfl⟩
instance : Zv Tryz.prog 14 (.agg #[.string ByteArray.empty, .int .u64 0]) := ⟨by kernel_rfl⟩
instance : Ci Tryz.prog 15 := ⟨_, Tryz.underlying15, rfl⟩
instance : Zv Tryz.prog 15 (.pointer none) := ⟨by kernel_rfl⟩
instance : Ci Tryz.prog 16 := ⟨_, Tryz.underlying16, rfl⟩
instance : Zv Tryz.prog 16 (.pointer none) := ⟨by kernel_rfl⟩
instance : Ci Tryz.prog 17 := ⟨_, Tryz.underlying17, rfl⟩
instance : Zv Tryz.prog 17 (.pointer none) := ⟨by kernel_rfl⟩
instance : Ci Tryz.prog 18 := ⟨_, Tryz.underlying18, rfl⟩
instance : Zv Tryz.prog 18 (.agg #[.pointer none]) := ⟨by kernel_rfl⟩
instance : Ci Tryz.prog 19 := ⟨_, Tryz.underlying19, rfl⟩
instance : Zv Tryz.prog 19 (.agg #[.pointer none]) := ⟨by kernel_rfl⟩
instance : Zv Tryz.prog 20 (.nilIface) := ⟨by kernel_rfl⟩
instance : Ci Tryz.prog 21 := ⟨_, Tryz.underlying21, rfl⟩
instance : Zv Tryz.prog 21 (.int .i32 0) := ⟨by kernel_rfl⟩
instance : Ap Tryz.prog 22 9 1 16 := ⟨Tryz.underlying22, by kernel_rfl, by decide⟩
instance : Ci Tryz.prog 22 := ⟨_, Tryz.underlying22, rfl⟩
instance : Zv Tryz.prog 22 (.slice none 0 0) := ⟨by kernel_rfl⟩
instance : Ci Tryz.prog 23 := ⟨_, Tryz.underlying23, rfl⟩
instance : Zv Tryz.prog 23 (.nilFunc) := ⟨by kernel_rfl⟩
instance : Ci Tryz.prog 24 := ⟨_, Tryz.underlying24, rfl⟩
instance : Zv Tryz.prog 24 (.nilFunc) := ⟨by kernel_rfl⟩
instance : Ci Tryz.prog 25 := ⟨_, Tryz.underlying25, rfl⟩
instance : Zv Tryz.prog 25 (.nilFunc) := ⟨by kernel_rfl⟩
instance : Ci Tryz.prog 26 := ⟨_, Tryz.underlying26, rfl⟩
instance : Zv Tryz.prog 26 (.nilFunc) := ⟨by kernel_rfl⟩
instance : Ap Tryz.prog 27 5 1 1 := ⟨Tryz.underlying27, by kernel_rfl, by decide⟩
instance : Ci Tryz.prog 27 := ⟨_, Tryz.underlying27, rfl⟩
instance : Zv Tryz.prog 27 (.slice none 0 0) := ⟨by kernel_rfl⟩
instance : Ci Tryz.prog 28 := ⟨_, Tryz.underlying28, rfl⟩
instance : Zv Tryz.prog 28 (.nilFunc) := ⟨by kernel_rfl⟩
instance : Ci Tryz.prog 29 := ⟨_, Tryz.underlying29, rfl⟩
instance : Zv Tryz.prog 29 (.nilFunc) := ⟨by kernel_rfl⟩
instance : Ci Tryz.prog 31 := ⟨_, Tryz.underlying31, rfl⟩
instance : Zv Tryz.prog 31 (.nilFunc) := ⟨by kernel_rfl⟩
instance : Ci Tryz.prog 32 := ⟨_, Tryz.underlying32, rfl⟩
instance : Zv Tryz.prog 32 (.agg #[.int .i64 0, .int .i64 0, .int .i64 0]) := ⟨by kernel_rfl⟩
instance : Ci Tryz.prog 33 := ⟨_, Tryz.underlying33, rfl⟩
instance : Zv Tryz.prog 33 (.agg #[.int .i64 0, .int .i64 0, .int .i64 0]) := ⟨by kernel_rfl⟩
instance : Ci Tryz.prog 34 := ⟨_, Tryz.underlying34, rfl⟩
instance : Zv Tryz.prog 34 (.agg #[.int .i64 0, .int .i64 0, .int .i64 0, .int .i64 0]) := ⟨by kernel_rfl⟩
instance : Ci Tryz.prog 35 := ⟨_, Tryz.underlying35, rfl⟩
instance : Zv Tryz.prog 35 (.agg #[.int .i64 0, .int .i64 0, .int .i64 0, .int .i64 0]) := ⟨by kernel_rfl⟩
instance : Ci Tryz.prog 36 := ⟨_, Tryz.underlying36, rfl⟩
instance : Zv Tryz.prog 36 (.agg #[.int .i64 0, .int .i64 0, .int .i64 0, .int .i64 0, .int .i64 0, .int .i64 0, .int .i64 0, .int .i64 0]) := ⟨by kernel_rfl⟩
instance : Ci Tryz.prog 37 := ⟨_, Tryz.underlying37, rfl⟩
instance : Zv Tryz.prog 37 (.agg #[.int .i64 0, .int .i64 0, .int .i64 0, .int .i64 0, .int .i64 0, .int .i64 0, .int .i64 0, .int .i64 0]) := ⟨by kernel_rfl⟩
instance : Ci Tryz.prog 39 := ⟨_, Tryz.underlying39, rfl⟩
instance : Zv Tryz.prog 39 (.nilFunc) := ⟨by kernel_rfl⟩
instance : Ci Tryz.prog 40 := ⟨_, Tryz.underlying40, rfl⟩
instance : Zv Tryz.prog 40 (.nilFunc) := ⟨by kernel_rfl⟩
instance : Ci Tryz.prog 42 := ⟨_, Tryz.underlying42, rfl⟩
instance : Zv Tryz.prog 42 (.nilFunc) := ⟨by kernel_rfl⟩
instance : Ci Tryz.prog 43 := ⟨_, Tryz.underlying43, rfl⟩
instance : Zv Tryz.prog 43 (.nilFunc) := ⟨by kernel_rfl⟩
instance : Ci Tryz.prog 45 := ⟨_, Tryz.underlying45, rfl⟩
instance : Zv Tryz.prog 45 (.nilFunc) := ⟨by kernel_rfl⟩
instance : Ci Tryz.prog 46 := ⟨_, Tryz.underlying46, rfl⟩
instance : Zv Tryz.prog 46 (.nilFunc) := ⟨by kernel_rfl⟩
instance : Ci Tryz.prog 47 := ⟨_, Tryz.underlying47, rfl⟩
instance : Zv Tryz.prog 47 (.nilFunc) := ⟨by kernel_rfl⟩
instance : Ci Tryz.prog 48 := ⟨_, Tryz.underlying48, rfl⟩
instance : Zv Tryz.prog 48 (.nilFunc) := ⟨by kernel_rfl⟩
instance : Ci Tryz.prog 49 := ⟨_, Tryz.underlying49, rfl⟩
instance : Zv Tryz.prog 49 (.agg #[.int .i64 0, .int .i64 0, .int .i64 0, .int .i64 0, .int .i64 0, .int .i64 0]) := ⟨by kernel_rfl⟩
instance : Ci Tryz.prog 50 := ⟨_, Tryz.underlying50, rfl⟩
instance : Zv Tryz.prog 50 (.agg #[.int .i64 0, .int .i64 0, .int .i64 0, .int .i64 0, .int .i64 0, .int .i64 0]) := ⟨by kernel_rfl⟩
instance : Ci Tryz.prog 51 := ⟨_, Tryz.underlying51, rfl⟩
instance : Zv Tryz.prog 51 (.nilFunc) := ⟨by kernel_rfl⟩
instance : Ci Tryz.prog 52 := ⟨_, Tryz.underlying52, rfl⟩
instance : Zv Tryz.prog 52 (.nilFunc) := ⟨by kernel_rfl⟩
instance : Ci Tryz.prog 53 := ⟨_, Tryz.underlying53, rfl⟩
instance : Zv Tryz.prog 53 (.nilFunc) := ⟨by kernel_rfl⟩
instance : Ci Tryz.prog 54 := ⟨_, Tryz.underlying54, rfl⟩
instance : Zv Tryz.prog 54 (.nilFunc) := ⟨by kernel_rfl⟩
instance : Ci Tryz.prog 55 := ⟨_, Tryz.underlying55, rfl⟩
instance : Zv Tryz.prog 55 (.agg #[.int .i64 0, .int .i64 0, .int .i64 0, .int .i64 0, .int .i64 0, .int .i64 0, .int .i64 0, .int .i64 0, .int .i64 0, .int .i64 0, .int .i64 0, .int .i64 0, .int .i64 0, .int .i64 0, .int .i64 0]) := ⟨by kernel_rfl⟩
instance : Ci Tryz.prog 56 := ⟨_, Tryz.underlying56, rfl⟩
instance : Zv Tryz.prog 56 (.agg #[.int .i64 0, .int .i64 0, .int .i64 0, .int .i64 0, .int .i64 0, .int .i64 0, .int .i64 0, .int .i64 0, .int .i64 0, .int .i64 0, .int .i64 0, .int .i64 0, .int .i64 0, .int .i64 0, .int .i64 0]) := ⟨by kernel_rfl⟩
instance : Ci Tryz.prog 58 := ⟨_, Tryz.underlying58, rfl⟩
instance : Zv Tryz.prog 58 (.nilFunc) := ⟨by kernel_rfl⟩
instance : Ci Tryz.prog 59 := ⟨_, Tryz.underlying59, rfl⟩
instance : Zv Tryz.prog 59 (.nilFunc) := ⟨by kernel_rfl⟩
instance : Ci Tryz.prog 60 := ⟨_, Tryz.underlying60, rfl⟩
instance : Zv Tryz.prog 60 (.nilFunc) := ⟨by kernel_rfl⟩
instance : Ci Tryz.prog 61 := ⟨_, Tryz.underlying61, rfl⟩
instance : Zv Tryz.prog 61 (.nilFunc) := ⟨by kernel_rfl⟩
instance : Ci Tryz.prog 62 := ⟨_, Tryz.underlying62, rfl⟩
instance : Zv Tryz.prog 62 (.nilFunc) := ⟨by kernel_rfl⟩
instance : Ap Tryz.prog 63 3 1 8 := ⟨Tryz.underlying63, by kernel_rfl, by decide⟩
instance : Ci Tryz.prog 63 := ⟨_, Tryz.underlying63, rfl⟩
instance : Zv Tryz.prog 63 (.slice none 0 0) := ⟨by kernel_rfl⟩
instance : Ci Tryz.prog 64 := ⟨_, Tryz.underlying64, rfl⟩
instance : Zv Tryz.prog 64 (.nilFunc) := ⟨by kernel_rfl⟩
instance : Ci Tryz.prog 65 := ⟨_, Tryz.underlying65, rfl⟩
instance : Zv Tryz.prog 65 (.pointer none) := ⟨by kernel_rfl⟩
instance : Ap Tryz.prog 66 71 10 80 := ⟨Tryz.underlying66, by kernel_rfl, by decide⟩
instance : Ci Tryz.prog 66 := ⟨_, Tryz.underlying66, rfl⟩
instance : Zv Tryz.prog 66 (.slice none 0 0) := ⟨by kernel_rfl⟩
instance : Ap Tryz.prog 67 71 10 80 := ⟨Tryz.underlying67, by kernel_rfl, by decide⟩
instance : Ci Tryz.prog 67 := ⟨_, Tryz.underlying67, rfl⟩
instance : Zv Tryz.prog 67 (.slice none 0 0) := ⟨by kernel_rfl⟩
instance : Ci Tryz.prog 68 := ⟨_, Tryz.underlying68, rfl⟩
instance : Zv Tryz.prog 68 (.nilFunc) := ⟨by kernel_rfl⟩
instance : Ci Tryz.prog 69 := ⟨_, Tryz.underlying69, rfl⟩
instance : Zv Tryz.prog 69 (.nilFunc) := ⟨by kernel_rfl⟩
instance : Ci Tryz.prog 70 := ⟨_, Tryz.underlying70, rfl⟩
instance : Zv Tryz.prog 70 (.agg #[.int .i64 0, .int .i64 0, .int .i64 0, .int .i64 0, .int .i64 0, .int .i64 0, .int .i64 0, .int .i64 0, .int .i64 0, .int .i64 0]) := ⟨by kernel_rfl⟩
instance : Ci Tryz.prog 71 := ⟨_, Tryz.underlying71, rfl⟩
instance : Zv Tryz.prog 71 (.agg #[.int .i64 0, .int .i64 0, .int .i64 0, .int .i64 0, .int .i64 0, .int .i64 0, .int .i64 0, .int .i64 0, .int .i64 0, .int .i64 0]) := ⟨by kernel_rfl⟩
instance : Ci Tryz.prog 72 := ⟨_, Tryz.underlying72, rfl⟩
instance : Zv Tryz.prog 72 (.nilFunc) := ⟨by kernel_rfl⟩
instance : Ci Tryz.prog 73 := ⟨_, Tryz.underlying73, rfl⟩
instance : Zv Tryz.prog 73 (.nilFunc) := ⟨by kernel_rfl⟩
instance : Ci Tryz.prog 74 := ⟨_, Tryz.underlying74, rfl⟩
instance : Zv Tryz.prog 74 (.pointer none) := ⟨by kernel_rfl⟩
instance : Ci Tryz.prog 75 := ⟨_, Tryz.underlying75, rfl⟩
instance : Zv Tryz.prog 75 (.nilFunc) := ⟨by kernel_rfl⟩
instance : Ci Tryz.prog 76 := ⟨_, Tryz.underlying76, rfl⟩
instance : Zv Tryz.prog 76 (.nilFunc) := ⟨by kernel_rfl⟩
instance : Ci Tryz.prog 77 := ⟨_, Tryz.underlying77, rfl⟩
instance : Zv Tryz.prog 77 (.nilFunc) := ⟨by kernel_rfl⟩
instance : Ci Tryz.prog 78 := ⟨_, Tryz.underlying78, rfl⟩
instance : Zv Tryz.prog 78 (.nilFunc) := ⟨by kernel_rfl⟩
instance : Ci Tryz.prog 79 := ⟨_, Tryz.underlying79, rfl⟩
instance : Zv Tryz.prog 79 (.nilFunc) := ⟨by kernel_rfl⟩
instance : Ci Tryz.prog 80 := ⟨_, Tryz.underlying80, rfl⟩
instance : Zv Tryz.prog 80 (.nilFunc) := ⟨by kernel_rfl⟩
instance : Ci Tryz.prog 81 := ⟨_, Tryz.underlying81, rfl⟩
instance : Zv Tryz.prog 81 (.pointer none) := ⟨by kernel_rfl⟩
instance : Ci Tryz.prog 82 := ⟨_, Tryz.underlying82, rfl⟩
instance : Zv Tryz.prog 82 (.agg #[.string ByteArray.empty, .int .i64 0]) := ⟨by kernel_rfl⟩
instance : Ci Tryz.prog 83 := ⟨_, Tryz.underlying83, rfl⟩
instance : Zv Tryz.prog 83 (.agg #[.string ByteArray.empty, .int .i64 0]) := ⟨by kernel_rfl⟩
instance : Bd Tryz.prog 85 [] [] := ⟨fun _ => by kernel_rfl⟩
instance : Ci Tryz.prog 85 := ⟨_, Tryz.underlying85, rfl⟩
instance : Zv Tryz.prog 85 (.agg #[]) := ⟨by kernel_rfl⟩
instance : Bd Tryz.prog 86 [] [] := ⟨fun _ => by kernel_rfl⟩
instance : Ci Tryz.prog 86 := ⟨_, Tryz.underlying86, rfl⟩
instance : Zv Tryz.prog 86 (.agg #[]) := ⟨by kernel_rfl⟩
instance : Ci Tryz.prog 87 := ⟨_, Tryz.underlying87, rfl⟩
instance : Zv Tryz.prog 87 (.nilFunc) := ⟨by kernel_rfl⟩
instance : Ci Tryz.prog 88 := ⟨_, Tryz.underlying88, rfl⟩
instance : Zv Tryz.prog 88 (.nilFunc) := ⟨by kernel_rfl⟩
instance : Ci Tryz.prog 90 := ⟨_, Tryz.underlying90, rfl⟩
instance : Zv Tryz.prog 90 (.nilFunc) := ⟨by kernel_rfl⟩
instance : Ci Tryz.prog 92 := ⟨_, Tryz.underlying92, rfl⟩
instance : Zv Tryz.prog 92 (.nilFunc) := ⟨by kernel_rfl⟩
instance : Ci Tryz.prog 94 := ⟨_, Tryz.underlying94, rfl⟩
instance : Zv Tryz.prog 94 (.nilFunc) := ⟨by kernel_rfl⟩
instance : Ci Tryz.prog 95 := ⟨_, Tryz.underlying95, rfl⟩
instance : Zv Tryz.prog 95 (.nilFunc) := ⟨by kernel_rfl⟩
instance : Ci Tryz.prog 96 := ⟨_, Tryz.underlying96, rfl⟩
instance : Zv Tryz.prog 96 (.nilFunc) := ⟨by kernel_rfl⟩
instance : Ci Tryz.prog 98 := ⟨_, Tryz.underlying98, rfl⟩
instance : Zv Tryz.prog 98 (.nilFunc) := ⟨by kernel_rfl⟩
instance : Ci Tryz.prog 99 := ⟨_, Tryz.underlying99, rfl⟩
instance : Zv Tryz.prog 99 (.agg #[.int .i64 0, .int .i64 0]) := ⟨by kernel_rfl⟩
instance : Ci Tryz.prog 100 := ⟨_, Tryz.underlying100, rfl⟩
instance : Zv Tryz.prog 100 (.agg #[.int .i64 0, .int .i64 0]) := ⟨by kernel_rfl⟩
instance : Ci Tryz.prog 102 := ⟨_, Tryz.underlying102, rfl⟩
instance : Zv Tryz.prog 102 (.nilFunc) := ⟨by kernel_rfl⟩
instance : Ci Tryz.prog 103 := ⟨_, Tryz.underlying103, rfl⟩
instance : Zv Tryz.prog 103 (.nilFunc) := ⟨by kernel_rfl⟩
instance : Ci Tryz.prog 104 := ⟨_, Tryz.underlying104, rfl⟩
instance : Zv Tryz.prog 104 (.nilFunc) := ⟨by kernel_rfl⟩
instance : Ci Tryz.prog 105 := ⟨_, Tryz.underlying105, rfl⟩
instance : Zv Tryz.prog 105 (.nilFunc) := ⟨by kernel_rfl⟩
instance : Ci Tryz.prog 106 := ⟨_, Tryz.underlying106, rfl⟩
instance : Zv Tryz.prog 106 (.nilFunc) := ⟨by kernel_rfl⟩
instance : Ci Tryz.prog 107 := ⟨_, Tryz.underlying107, rfl⟩
instance : Zv Tryz.prog 107 (.nilFunc) := ⟨by kernel_rfl⟩
instance : Ci Tryz.prog 108 := ⟨_, Tryz.underlying108, rfl⟩
instance : Zv Tryz.prog 108 (.nilFunc) := ⟨by kernel_rfl⟩
instance : Ci Tryz.prog 109 := ⟨_, Tryz.underlying109, rfl⟩
instance : Zv Tryz.prog 109 (.nilFunc) := ⟨by kernel_rfl⟩
instance : Ci Tryz.prog 110 := ⟨_, Tryz.underlying110, rfl⟩
instance : Zv Tryz.prog 110 (.nilFunc) := ⟨by kernel_rfl⟩
instance : Ci Tryz.prog 111 := ⟨_, Tryz.underlying111, rfl⟩
instance : Zv Tryz.prog 111 (.nilFunc) := ⟨by kernel_rfl⟩
instance : Ci Tryz.prog 112 := ⟨_, Tryz.underlying112, rfl⟩
instance : Zv Tryz.prog 112 (.nilFunc) := ⟨by kernel_rfl⟩
instance : Ci Tryz.prog 113 := ⟨_, Tryz.underlying113, rfl⟩
instance : Zv Tryz.prog 113 (.nilFunc) := ⟨by kernel_rfl⟩
instance : Ap Tryz.prog 114 118 3 16 := ⟨Tryz.underlying114, by kernel_rfl, by decide⟩
instance : Ci Tryz.prog 114 := ⟨_, Tryz.underlying114, rfl⟩
instance : Zv Tryz.prog 114 (.slice none 0 0) := ⟨by kernel_rfl⟩
instance : Ci Tryz.prog 115 := ⟨_, Tryz.underlying115, rfl⟩
instance : Zv Tryz.prog 115 (.nilFunc) := ⟨by kernel_rfl⟩
instance : Ci Tryz.prog 116 := ⟨_, Tryz.underlying116, rfl⟩
instance : Zv Tryz.prog 116 (.pointer none) := ⟨by kernel_rfl⟩
instance : Ci Tryz.prog 117 := ⟨_, Tryz.underlying117, rfl⟩
instance : Zv Tryz.prog 117 (.agg #[.int .u8 0, .bool false, .pointer none]) := ⟨by kernel_rfl⟩
instance : Ci Tryz.prog 118 := ⟨_, Tryz.underlying118, rfl⟩
instance : Zv Tryz.prog 118 (.agg #[.int .u8 0, .bool false, .pointer none]) := ⟨by kernel_rfl⟩
instance : Ci Tryz.prog 119 := ⟨_, Tryz.underlying119, rfl⟩
instance : Zv Tryz.prog 119 (.nilFunc) := ⟨by kernel_rfl⟩
instance : Ci Tryz.prog 120 := ⟨_, Tryz.underlying120, rfl⟩
instance : Zv Tryz.prog 120 (.nilFunc) := ⟨by kernel_rfl⟩
instance : Ci Tryz.prog 121 := ⟨_, Tryz.underlying121, rfl⟩
instance : Zv Tryz.prog 121 (.nilFunc) := ⟨by kernel_rfl⟩
instance : Ci Tryz.prog 122 := ⟨_, Tryz.underlying122, rfl⟩
instance : Zv Tryz.prog 122 (.nilFunc) := ⟨by kernel_rfl⟩
instance : Ci Tryz.prog 123 := ⟨_, Tryz.underlying123, rfl⟩
instance : Zv Tryz.prog 123 (.nilFunc) := ⟨by kernel_rfl⟩
instance : Ci Tryz.prog 124 := ⟨_, Tryz.underlying124, rfl⟩
instance : Zv Tryz.prog 124 (.nilFunc) := ⟨by kernel_rfl⟩
instance : Ci Tryz.prog 125 := ⟨_, Tryz.underlying125, rfl⟩
instance : Zv Tryz.prog 125 (.nilFunc) := ⟨by kernel_rfl⟩
instance : Ci Tryz.prog 126 := ⟨_, Tryz.underlying126, rfl⟩
instance : Zv Tryz.prog 126 (.nilFunc) := ⟨by kernel_rfl⟩
instance : Ci Tryz.prog 127 := ⟨_, Tryz.underlying127, rfl⟩
instance : Zv Tryz.prog 127 (.nilFunc) := ⟨by kernel_rfl⟩
instance : Ci Tryz.prog 128 := ⟨_, Tryz.underlying128, rfl⟩
instance : Zv Tryz.prog 128 (.nilFunc) := ⟨by kernel_rfl⟩
instance : Ci Tryz.prog 129 := ⟨_, Tryz.underlying129, rfl⟩
instance : Zv Tryz.prog 129 (.nilFunc) := ⟨by kernel_rfl⟩
instance : Ci Tryz.prog 131 := ⟨_, Tryz.underlying131, rfl⟩
instance : Zv Tryz.prog 131 (.nilFunc) := ⟨by kernel_rfl⟩
instance : Ci Tryz.prog 132 := ⟨_, Tryz.underlying132, rfl⟩
instance : Zv Tryz.prog 132 (.nilFunc) := ⟨by kernel_rfl⟩
instance : Ci Tryz.prog 133 := ⟨_, Tryz.underlying133, rfl⟩
instance : Zv Tryz.prog 133 (.nilFunc) := ⟨by kernel_rfl⟩
instance : Ci Tryz.prog 134 := ⟨_, Tryz.underlying134, rfl⟩
instance : Zv Tryz.prog 134 (.nilFunc) := ⟨by kernel_rfl⟩
instance : Zv Tryz.prog 135 (.nilIface) := ⟨by kernel_rfl⟩
instance : Zv Tryz.prog 136 (.nilIface) := ⟨by kernel_rfl⟩
instance : Ci Tryz.prog 137 := ⟨_, Tryz.underlying137, rfl⟩
instance : Zv Tryz.prog 137 (.nilFunc) := ⟨by kernel_rfl⟩
instance : Ci Tryz.prog 138 := ⟨_, Tryz.underlying138, rfl⟩
instance : Zv Tryz.prog 138 (.nilFunc) := ⟨by kernel_rfl⟩
instance : Ci Tryz.prog 139 := ⟨_, Tryz.underlying139, rfl⟩
instance : Zv Tryz.prog 139 (.agg #[.int .i64 0, .int .i64 0, .int .i64 0, .int .i64 0, .int .i64 0, .int .i64 0, .int .i64 0, .int .i64 0, .int .i64 0]) := ⟨by kernel_rfl⟩
instance : Ci Tryz.prog 140 := ⟨_, Tryz.underlying140, rfl⟩
instance : Zv Tryz.prog 140 (.agg #[.int .i64 0, .int .i64 0, .int .i64 0, .int .i64 0, .int .i64 0, .int .i64 0, .int .i64 0, .int .i64 0, .int .i64 0]) := ⟨by kernel_rfl⟩
instance : Ci Tryz.prog 141 := ⟨_, Tryz.underlying141, rfl⟩
instance : Zv Tryz.prog 141 (.nilFunc) := ⟨by kernel_rfl⟩
instance : Ci Tryz.prog 142 := ⟨_, Tryz.underlying142, rfl⟩
instance : Zv Tryz.prog 142 (.nilFunc) := ⟨by kernel_rfl⟩
instance : Ci Tryz.prog 143 := ⟨_, Tryz.underlying143, rfl⟩
instance : Zv Tryz.prog 143 (.nilFunc) := ⟨by kernel_rfl⟩
instance : Ci Tryz.prog 144 := ⟨_, Tryz.underlying144, rfl⟩
instance : Zv Tryz.prog 144 (.nilFunc) := ⟨by kernel_rfl⟩
instance : Ci Tryz.prog 145 := ⟨_, Tryz.underlying145, rfl⟩
instance : Zv Tryz.prog 145 (.agg #[.slice none 0 0, .int .i64 0]) := ⟨by kernel_rfl⟩
instance : Ci Tryz.prog 146 := ⟨_, Tryz.underlying146, rfl⟩
instance : Zv Tryz.prog 146 (.agg #[.slice none 0 0, .int .i64 0]) := ⟨by kernel_rfl⟩
instance : Ci Tryz.prog 147 := ⟨_, Tryz.underlying147, rfl⟩
instance : Zv Tryz.prog 147 (.nilFunc) := ⟨by kernel_rfl⟩
instance : Ci Tryz.prog 148 := ⟨_, Tryz.underlying148, rfl⟩
instance : Zv Tryz.prog 148 (.nilFunc) := ⟨by kernel_rfl⟩
instance : Ap Tryz.prog 149 4 1 1 := ⟨Tryz.underlying149, by kernel_rfl, by decide⟩
instance : Ci Tryz.prog 149 := ⟨_, Tryz.underlying149, rfl⟩
instance : Zv Tryz.prog 149 (.slice none 0 0) := ⟨by kernel_rfl⟩
instance : Zv Tryz.prog 150 (.nilIface) := ⟨by kernel_rfl⟩
instance : Zv Tryz.prog 151 (.nilIface) := ⟨by kernel_rfl⟩
instance : Ci Tryz.prog 153 := ⟨_, Tryz.underlying153, rfl⟩
instance : Zv Tryz.prog 153 (.nilFunc) := ⟨by kernel_rfl⟩
instance : Ci Tryz.prog 154 := ⟨_, Tryz.underlying154, rfl⟩
instance : Zv Tryz.prog 154 (.pointer none) := ⟨by kernel_rfl⟩
instance : Ci Tryz.prog 155 := ⟨_, Tryz.underlying155, rfl⟩
instance : Zv Tryz.prog 155 (.nilFunc) := ⟨by kernel_rfl⟩
instance : Ci Tryz.prog 156 := ⟨_, Tryz.underlying156, rfl⟩
instance : Zv Tryz.prog 156 (.pointer none) := ⟨by kernel_rfl⟩
instance : Ci Tryz.prog 157 := ⟨_, Tryz.underlying157, rfl⟩
instance : Zv Tryz.prog 157 (.nilFunc) := ⟨by kernel_rfl⟩
instance : Ci Tryz.prog 158 := ⟨_, Tryz.underlying158, rfl⟩
instance : Zv Tryz.prog 158 (.nilFunc) := ⟨by kernel_rfl⟩
instance : Ci Tryz.prog 159 := ⟨_, Tryz.underlying159, rfl⟩
instance : Zv Tryz.prog 159 (.nilFunc) := ⟨by kernel_rfl⟩
instance : Ci Tryz.prog 160 := ⟨_, Tryz.underlying160, rfl⟩
instance : Zv Tryz.prog 160 (.agg #[.int .i64 0, .int .i64 0, .int .i64 0, .int .i64 0, .int .i64 0, .int .i64 0, .int .i64 0, .int .i64 0, .int .i64 0, .int .i64 0, .int .i64 0, .int .i64 0, .int .i64 0, .int .i64 0, .int .i64 0, .int .i64 0]) := ⟨by kernel_rfl⟩
instance : Ci Tryz.prog 161 := ⟨_, Tryz.underlying161, rfl⟩
instance : Zv Tryz.prog 161 (.agg #[.int .i64 0, .int .i64 0, .int .i64 0, .int .i64 0, .int .i64 0, .int .i64 0, .int .i64 0, .int .i64 0, .int .i64 0, .int .i64 0, .int .i64 0, .int .i64 0, .int .i64 0, .int .i64 0, .int .i64 0, .int .i64 0]) := ⟨by kernel_rfl⟩
instance : Ci Tryz.prog 162 := ⟨_, Tryz.underlying162, rfl⟩
instance : Zv Tryz.prog 162 (.nilFunc) := ⟨by kernel_rfl⟩
instance : Ci Tryz.prog 163 := ⟨_, Tryz.underlying163, rfl⟩
instance : Zv Tryz.prog 163 (.nilFunc) := ⟨by kernel_rfl⟩
instance : Zv Tryz.prog 164 (.nilIface) := ⟨by kernel_rfl⟩
instance : Zv Tryz.prog 165 (.nilIface) := ⟨by kernel_rfl⟩
instance : Ci Tryz.prog 166 := ⟨_, Tryz.underlying166, rfl⟩
instance : Zv Tryz.prog 166 (.nilFunc) := ⟨by kernel_rfl⟩
instance : Ci Tryz.prog 167 := ⟨_, Tryz.underlying167, rfl⟩
instance : Zv Tryz.prog 167 (.nilFunc) := ⟨by kernel_rfl⟩
instance : Ci Tryz.prog 168 := ⟨_, Tryz.underlying168, rfl⟩
instance : Zv Tryz.prog 168 (.nilFunc) := ⟨by kernel_rfl⟩
instance : Ci Tryz.prog 169 := ⟨_, Tryz.underlying169, rfl⟩
instance : Zv Tryz.prog 169 (.int .u64 0) := ⟨by kernel_rfl⟩
instance : Ci Tryz.prog 170 := ⟨_, Tryz.underlying170, rfl⟩
instance : Zv Tryz.prog 170 (.nilFunc) := ⟨by kernel_rfl⟩
instance : Ci Tryz.prog 171 := ⟨_, Tryz.underlying171, rfl⟩
instance : Zv Tryz.prog 171 (.pointer none) := ⟨by kernel_rfl⟩
instance : Ci Tryz.prog 172 := ⟨_, Tryz.underlying172, rfl⟩
instance : Zv Tryz.prog 172 (.nilFunc) := ⟨by kernel_rfl⟩
instance : Ci Tryz.prog 173 := ⟨_, Tryz.underlying173, rfl⟩
instance : Zv Tryz.prog 173 (.nilFunc) := ⟨by kernel_rfl⟩
instance : Ci Tryz.prog 174 := ⟨_, Tryz.underlying174, rfl⟩
instance : Zv Tryz.prog 174 (.nilFunc) := ⟨by kernel_rfl⟩
instance : Ci Tryz.prog 175 := ⟨_, Tryz.underlying175, rfl⟩
instance : Zv Tryz.prog 175 (.nilFunc) := ⟨by kernel_rfl⟩
instance : Ci Tryz.prog 176 := ⟨_, Tryz.underlying176, rfl⟩
instance : Zv Tryz.prog 176 (.nilFunc) := ⟨by kernel_rfl⟩
instance : Ci Tryz.prog 177 := ⟨_, Tryz.underlying177, rfl⟩
instance : Zv Tryz.prog 177 (.nilFunc) := ⟨by kernel_rfl⟩
instance : Ci Tryz.prog 178 := ⟨_, Tryz.underlying178, rfl⟩
instance : Zv Tryz.prog 178 (.nilFunc) := ⟨by kernel_rfl⟩
instance : Ci Tryz.prog 179 := ⟨_, Tryz.underlying179, rfl⟩
instance : Zv Tryz.prog 179 (.nilFunc) := ⟨by kernel_rfl⟩
instance : Ci Tryz.prog 180 := ⟨_, Tryz.underlying180, rfl⟩
instance : Zv Tryz.prog 180 (.nilFunc) := ⟨by kernel_rfl⟩
instance : Ci Tryz.prog 182 := ⟨_, Tryz.underlying182, rfl⟩
instance : Zv Tryz.prog 182 (.nilFunc) := ⟨by kernel_rfl⟩
instance : Ci Tryz.prog 183 := ⟨_, Tryz.underlying183, rfl⟩
instance : Zv Tryz.prog 183 (.nilFunc) := ⟨by kernel_rfl⟩
instance : Ci Tryz.prog 184 := ⟨_, Tryz.underlying184, rfl⟩
instance : Zv Tryz.prog 184 (.agg #[.int .i64 0, .int .i64 0, .int .i64 0]) := ⟨by kernel_rfl⟩
instance : Ci Tryz.prog 185 := ⟨_, Tryz.underlying185, rfl⟩
instance : Zv Tryz.prog 185 (.agg #[.int .i64 0, .int .i64 0, .int .i64 0]) := ⟨by kernel_rfl⟩
instance : Ci Tryz.prog 187 := ⟨_, Tryz.underlying187, rfl⟩
instance : Zv Tryz.prog 187 (.nilFunc) := ⟨by kernel_rfl⟩
instance : Ci Tryz.prog 188 := ⟨_, Tryz.underlying188, rfl⟩
instance : Zv Tryz.prog 188 (.nilFunc) := ⟨by kernel_rfl⟩
instance : Ci Tryz.prog 189 := ⟨_, Tryz.underlying189, rfl⟩
instance : Zv Tryz.prog 189 (.nilFunc) := ⟨by kernel_rfl⟩
instance : Ci Tryz.prog 190 := ⟨_, Tryz.underlying190, rfl⟩
instance : Zv Tryz.prog 190 (.agg #[.int .i64 0, .int .i64 0, .int .i64 0]) := ⟨by kernel_rfl⟩
instance : Ci Tryz.prog 191 := ⟨_, Tryz.underlying191, rfl⟩
instance : Zv Tryz.prog 191 (.agg #[.int .i64 0]) := ⟨by kernel_rfl⟩
instance : Ci Tryz.prog 192 := ⟨_, Tryz.underlying192, rfl⟩
instance : Zv Tryz.prog 192 (.agg #[.int .i64 0]) := ⟨by kernel_rfl⟩
instance : Ci Tryz.prog 193 := ⟨_, Tryz.underlying193, rfl⟩
instance : Zv Tryz.prog 193 (.pointer none) := ⟨by kernel_rfl⟩
instance : Ci Tryz.prog 194 := ⟨_, Tryz.underlying194, rfl⟩
instance : Zv Tryz.prog 194 (.int .u64 0) := ⟨by kernel_rfl⟩
instance : Ci Tryz.prog 195 := ⟨_, Tryz.underlying195, rfl⟩
instance : Zv Tryz.prog 195 (.agg #[.pointer none, .pointer none, .int .u64 0]) := ⟨by kernel_rfl⟩
instance : Ci Tryz.prog 196 := ⟨_, Tryz.underlying196, rfl⟩
instance : Zv Tryz.prog 196 (.agg #[.pointer none, .pointer none, .int .u64 0]) := ⟨by kernel_rfl⟩
instance : Ci Tryz.prog 197 := ⟨_, Tryz.underlying197, rfl⟩
instance : Zv Tryz.prog 197 (.nilFunc) := ⟨by kernel_rfl⟩
instance : Zv Tryz.prog 198 (.nilIface) := ⟨by kernel_rfl⟩
instance : Zv Tryz.prog 199 (.nilIface) := ⟨by kernel_rfl⟩
instance : Ci Tryz.prog 200 := ⟨_, Tryz.underlying200, rfl⟩
instance : Zv Tryz.prog 200 (.nilFunc) := ⟨by kernel_rfl⟩
instance : U8 Tryz.prog 201 := ⟨Tryz.underlying201⟩
instance : Ci Tryz.prog 201 := ⟨_, Tryz.underlying201, rfl⟩
instance : Zv Tryz.prog 201 (.int .u8 0) := ⟨by kernel_rfl⟩
instance : Ci Tryz.prog 202 := ⟨_, Tryz.underlying202, rfl⟩
instance : Zv Tryz.prog 202 (.nilFunc) := ⟨by kernel_rfl⟩
instance : Ci Tryz.prog 203 := ⟨_, Tryz.underlying203, rfl⟩
instance : Zv Tryz.prog 203 (.nilFunc) := ⟨by kernel_rfl⟩
instance : Ci Tryz.prog 204 := ⟨_, Tryz.underlying204, rfl⟩
instance : Zv Tryz.prog 204 (.nilFunc) := ⟨by kernel_rfl⟩
instance : Ci Tryz.prog 205 := ⟨_, Tryz.underlying205, rfl⟩
instance : Zv Tryz.prog 205 (.nilFunc) := ⟨by kernel_rfl⟩
instance : Ci Tryz.prog 206 := ⟨_, Tryz.underlying206, rfl⟩
instance : Zv Tryz.prog 206 (.nilFunc) := ⟨by kernel_rfl⟩
instance : Ci Tryz.prog 207 := ⟨_, Tryz.underlying207, rfl⟩
instance : Zv Tryz.prog 207 (.nilFunc) := ⟨by kernel_rfl⟩
instance : Ci Tryz.prog 208 := ⟨_, Tryz.underlying208, rfl⟩
instance : Zv Tryz.prog 208 (.nilFunc) := ⟨by kernel_rfl⟩
instance : Ci Tryz.prog 209 := ⟨_, Tryz.underlying209, rfl⟩
instance : Zv Tryz.prog 209 (.agg #[.int .i64 0, .int .i64 0, .int .i64 0, .int .i64 0, .int .i64 0, .int .i64 0, .int .i64 0, .int .i64 0, .int .i64 0, .int .i64 0, .int .i64 0, .int .i64 0]) := ⟨by kernel_rfl⟩
instance : Ci Tryz.prog 210 := ⟨_, Tryz.underlying210, rfl⟩
instance : Zv Tryz.prog 210 (.nilFunc) := ⟨by kernel_rfl⟩
instance : Ci Tryz.prog 211 := ⟨_, Tryz.underlying211, rfl⟩
instance : Ci Tryz.prog 212 := ⟨_, Tryz.underlying212, rfl⟩
instance : Ci Tryz.prog 214 := ⟨_, Tryz.underlying214, rfl⟩
instance : Zv Tryz.prog 214 (.nilFunc) := ⟨by kernel_rfl⟩
instance : Ci Tryz.prog 215 := ⟨_, Tryz.underlying215, rfl⟩
instance : Zv Tryz.prog 215 (.nilFunc) := ⟨by kernel_rfl⟩
instance : Ci Tryz.prog 216 := ⟨_, Tryz.underlying216, rfl⟩
instance : Zv Tryz.prog 216 (.pointer none) := ⟨by kernel_rfl⟩
instance : Ci Tryz.prog 217 := ⟨_, Tryz.underlying217, rfl⟩
instance : Zv Tryz.prog 217 (.nilFunc) := ⟨by kernel_rfl⟩
instance : Ci Tryz.prog 218 := ⟨_, Tryz.underlying218, rfl⟩
instance : Zv Tryz.prog 218 (.nilFunc) := ⟨by kernel_rfl⟩
instance : Ci Tryz.prog 219 := ⟨_, Tryz.underlying219, rfl⟩
instance : Zv Tryz.prog 219 (.nilFunc) := ⟨by kernel_rfl⟩
instance : Ci Tryz.prog 220 := ⟨_, Tryz.underlying220, rfl⟩
instance : Zv Tryz.prog 220 (.nilFunc) := ⟨by kernel_rfl⟩
instance : Ci Tryz.prog 221 := ⟨_, Tryz.underlying221, rfl⟩
instance : Zv Tryz.prog 221 (.nilFunc) := ⟨by kernel_rfl⟩
instance : Ci Tryz.prog 222 := ⟨_, Tryz.underlying222, rfl⟩
instance : Zv Tryz.prog 222 (.agg #[.pointer none]) := ⟨by kernel_rfl⟩
instance : Ci Tryz.prog 223 := ⟨_, Tryz.underlying223, rfl⟩
instance : Zv Tryz.prog 223 (.agg #[.pointer none]) := ⟨by kernel_rfl⟩
instance : Ci Tryz.prog 224 := ⟨_, Tryz.underlying224, rfl⟩
instance : Zv Tryz.prog 224 (.pointer none) := ⟨by kernel_rfl⟩
instance : Ci Tryz.prog 225 := ⟨_, Tryz.underlying225, rfl⟩
instance : Zv Tryz.prog 225 (.nilFunc) := ⟨by kernel_rfl⟩
instance : Ci Tryz.prog 226 := ⟨_, Tryz.underlying226, rfl⟩
instance : Zv Tryz.prog 226 (.nilFunc) := ⟨by kernel_rfl⟩
instance : Ci Tryz.prog 227 := ⟨_, Tryz.underlying227, rfl⟩
instance : Zv Tryz.prog 227 (.nilFunc) := ⟨by kernel_rfl⟩
instance : Zv Tryz.prog 228 (.nilIface) := ⟨by kernel_rfl⟩
instance : Ci Tryz.prog 230 := ⟨_, Tryz.underlying230, rfl⟩
instance : Zv Tryz.prog 230 (.nilFunc) := ⟨by kernel_rfl⟩
instance : Zv Tryz.prog 231 (.nilIface) := ⟨by kernel_rfl⟩
instance : Ci Tryz.prog 232 := ⟨_, Tryz.underlying232, rfl⟩
instance : Zv Tryz.prog 232 (.nilFunc) := ⟨by kernel_rfl⟩
instance : Zv Tryz.prog 233 (.nilIface) := ⟨by kernel_rfl⟩
instance : Ap Tryz.prog 234 151 1 16 := ⟨Tryz.underlying234, by kernel_rfl, by decide⟩
instance : Ci Tryz.prog 234 := ⟨_, Tryz.underlying234, rfl⟩
instance : Zv Tryz.prog 234 (.slice none 0 0) := ⟨by kernel_rfl⟩
instance : Ci Tryz.prog 235 := ⟨_, Tryz.underlying235, rfl⟩
instance : Zv Tryz.prog 235 (.nilFunc) := ⟨by kernel_rfl⟩
instance : Ci Tryz.prog 236 := ⟨_, Tryz.underlying236, rfl⟩
instance : Zv Tryz.prog 236 (.nilFunc) := ⟨by kernel_rfl⟩
instance : Ci Tryz.prog 238 := ⟨_, Tryz.underlying238, rfl⟩
instance : Zv Tryz.prog 238 (.nilFunc) := ⟨by kernel_rfl⟩
instance : Ci Tryz.prog 239 := ⟨_, Tryz.underlying239, rfl⟩
instance : Zv Tryz.prog 239 (.nilFunc) := ⟨by kernel_rfl⟩
instance : Ci Tryz.prog 240 := ⟨_, Tryz.underlying240, rfl⟩
instance : Zv Tryz.prog 240 (.agg #[.int .u8 0, .int .u8 0, .int .u8 0, .int .u8 0, .int .u8 0, .int .u8 0, .int .u8 0, .int .u8 0, .int .u8 0, .int .u8 0, .int .u8 0, .int .u8 0, .int .u8 0, .int .u8 0, .int .u8 0, .int .u8 0, .int .u8 0, .int .u8 0, .int .u8 0, .int .u8 0, .int .u8 0, .int .u8 0, .int .u8 0, .int .u8 0]) := ⟨by kernel_rfl⟩
instance : Ci Tryz.prog 241 := ⟨_, Tryz.underlying241, rfl⟩
instance : Zv Tryz.prog 241 (.int .u64 0) := ⟨by kernel_rfl⟩
instance : Ci Tryz.prog 242 := ⟨_, Tryz.underlying242, rfl⟩
instance : Zv Tryz.prog 242 (.nilFunc) := ⟨by kernel_rfl⟩
instance : Ci Tryz.prog 243 := ⟨_, Tryz.underlying243, rfl⟩
instance : Zv Tryz.prog 243 (.nilFunc) := ⟨by kernel_rfl⟩
instance : Ci Tryz.prog 245 := ⟨_, Tryz.underlying245, rfl⟩
instance : Zv Tryz.prog 245 (.nilFunc) := ⟨by kernel_rfl⟩
instance : Ci Tryz.prog 246 := ⟨_, Tryz.underlying246, rfl⟩
instance : Zv Tryz.prog 246 (.int .u32 0) := ⟨by kernel_rfl⟩
instance : Ci Tryz.prog 248 := ⟨_, Tryz.underlying248, rfl⟩
instance : Zv Tryz.prog 248 (.nilFunc) := ⟨by kernel_rfl⟩
instance : Ci Tryz.prog 249 := ⟨_, Tryz.underlying249, rfl⟩
instance : Zv Tryz.prog 249 (.nilFunc) := ⟨by kernel_rfl⟩
instance : Ci Tryz.prog 250 := ⟨_, Tryz.underlying250, rfl⟩
instance : Zv Tryz.prog 250 (.agg #[.int .u64 0, .int .u64 0, .int .u64 0, .int .u64 0, .int .u64 0, .int .u64 0, .int .u64 0, .int .u64 0, .int .u64 0, .int .u64 0, .int .u64 0, .int .u64 0, .int .u64 0, .int .u64 0, .int .u64 0, .int .u64 0, .int .u64 0, .int .u64 0, .int .u64 0, .int .u64 0]) := ⟨by kernel_rfl⟩
instance : Ci Tryz.prog 251 := ⟨_, Tryz.underlying251, rfl⟩
instance : Ci Tryz.prog 252 := ⟨_, Tryz.underlying252, rfl⟩
instance : Zv Tryz.prog 252 (.nilFunc) := ⟨by kernel_rfl⟩
instance : Ci Tryz.prog 253 := ⟨_, Tryz.underlying253, rfl⟩
instance : Zv Tryz.prog 253 (.nilFunc) := ⟨by kernel_rfl⟩
instance : Ci Tryz.prog 254 := ⟨_, Tryz.underlying254, rfl⟩
instance : Zv Tryz.prog 254 (.nilFunc) := ⟨by kernel_rfl⟩
instance : Ci Tryz.prog 255 := ⟨_, Tryz.underlying255, rfl⟩
instance : Ci Tryz.prog 256 := ⟨_, Tryz.underlying256, rfl⟩
instance : Zv Tryz.prog 256 (.agg #[.int .u8 0, .int .u8 0]) := ⟨by kernel_rfl⟩
instance : Ci Tryz.prog 257 := ⟨_, Tryz.underlying257, rfl⟩
instance : Zv Tryz.prog 257 (.agg #[.int .u8 0, .int .u8 0]) := ⟨by kernel_rfl⟩
instance : Ci Tryz.prog 258 := ⟨_, Tryz.underlying258, rfl⟩
instance : Zv Tryz.prog 258 (.agg #[.int .u8 0, .int .u8 0, .int .u8 0, .int .u8 0, .int .u8 0, .int .u8 0, .int .u8 0, .int .u8 0, .int .u8 0, .int .u8 0, .int .u8 0, .int .u8 0, .int .u8 0, .int .u8 0, .int .u8 0, .int .u8 0, .int .u8 0, .int .u8 0, .int .u8 0, .int .u8 0, .int .u8 0, .int .u8 0, .int .u8 0, .int .u8 0, .int .u8 0, .int .u8 0, .int .u8 0, .int .u8 0, .int .u8 0, .int .u8 0, .int .u8 0, .int .u8 0]) := ⟨by kernel_rfl⟩
instance : Ci Tryz.prog 259 := ⟨_, Tryz.underlying259, rfl⟩
instance : Zv Tryz.prog 259 (.agg #[.int .u8 0, .int .u8 0, .int .u8 0, .int .u8 0, .int .u8 0, .int .u8 0, .int .u8 0, .int .u8 0, .int .u8 0, .int .u8 0, .int .u8 0, .int .u8 0, .int .u8 0, .int .u8 0, .int .u8 0, .int .u8 0, .int .u8 0, .int .u8 0, .int .u8 0, .int .u8 0, .int .u8 0, .int .u8 0, .int .u8 0, .int .u8 0, .int .u8 0, .int .u8 0, .int .u8 0, .int .u8 0, .int .u8 0, .int .u8 0, .int .u8 0, .int .u8 0]) := ⟨by kernel_rfl⟩
instance : Ci Tryz.prog 260 := ⟨_, Tryz.underlying260, rfl⟩
instance : Ci Tryz.prog 261 := ⟨_, Tryz.underlying261, rfl⟩
instance : Zv Tryz.prog 261 (.nilFunc) := ⟨by kernel_rfl⟩
instance : Ci Tryz.prog 262 := ⟨_, Tryz.underlying262, rfl⟩
instance : Zv Tryz.prog 262 (.agg #[.pointer none, .pointer none, .pointer none, .string ByteArray.empty]) := ⟨by kernel_rfl⟩
instance : Ci Tryz.prog 263 := ⟨_, Tryz.underlying263, rfl⟩
instance : Zv Tryz.prog 263 (.agg #[.pointer none, .pointer none, .pointer none, .string ByteArray.empty]) := ⟨by kernel_rfl⟩
instance : Ci Tryz.prog 264 := ⟨_, Tryz.underlying264, rfl⟩
instance : Zv Tryz.prog 264 (.agg #[]) := ⟨by kernel_rfl⟩
instance : Ci Tryz.prog 265 := ⟨_, Tryz.underlying265, rfl⟩
instance : Zv Tryz.prog 265 (.agg #[]) := ⟨by kernel_rfl⟩
instance : Ci Tryz.prog 266 := ⟨_, Tryz.underlying266, rfl⟩
instance : Zv Tryz.prog 266 (.agg #[]) := ⟨by kernel_rfl⟩
instance : Ci Tryz.prog 267 := ⟨_, Tryz.underlying267, rfl⟩
instance : Zv Tryz.prog 267 (.nilFunc) := ⟨by kernel_rfl⟩
instance : U8 Tryz.prog 268 := ⟨Tryz.underlying268⟩
instance : Ci Tryz.prog 268 := ⟨_, Tryz.underlying268, rfl⟩
instance : Zv Tryz.prog 268 (.int .u8 0) := ⟨by kernel_rfl⟩
instance : Ci Tryz.prog 269 := ⟨_, Tryz.underlying269, rfl⟩
instance : Zv Tryz.prog 269 (.nilFunc) := ⟨by kernel_rfl⟩
instance : Ci Tryz.prog 270 := ⟨_, Tryz.underlying270, rfl⟩
instance : Zv Tryz.prog 270 (.pointer none) := ⟨by kernel_rfl⟩
instance : Ci Tryz.prog 271 := ⟨_, Tryz.underlying271, rfl⟩
instance : Zv Tryz.prog 271 (.int .i32 0) := ⟨by kernel_rfl⟩
instance : Ci Tryz.prog 272 := ⟨_, Tryz.underlying272, rfl⟩
instance : Zv Tryz.prog 272 (.int .i32 0) := ⟨by kernel_rfl⟩
instance : Ci Tryz.prog 273 := ⟨_, Tryz.underlying273, rfl⟩
instance : Zv Tryz.prog 273 (.agg #[.int .u64 0, .int .u64 0, .int .u32 0, .int .u8 0, .int .u8 0, .int .u8 0, .int .u8 0, .nilFunc, .pointer none, .int .i32 0, .int .i32 0]) := ⟨by kernel_rfl⟩
instance : Ci Tryz.prog 274 := ⟨_, Tryz.underlying274, rfl⟩
instance : Zv Tryz.prog 274 (.agg #[.int .u64 0, .int .u64 0, .int .u32 0, .int .u8 0, .int .u8 0, .int .u8 0, .int .u8 0, .nilFunc, .pointer none, .int .i32 0, .int .i32 0]) := ⟨by kernel_rfl⟩
instance : Ci Tryz.prog 275 := ⟨_, Tryz.underlying275, rfl⟩
instance : Zv Tryz.prog 275 (.nilFunc) := ⟨by kernel_rfl⟩
instance : Ci Tryz.prog 276 := ⟨_, Tryz.underlying276, rfl⟩
instance : Zv Tryz.prog 276 (.nilFunc) := ⟨by kernel_rfl⟩
instance : Ci Tryz.prog 277 := ⟨_, Tryz.underlying277, rfl⟩
instance : Zv Tryz.prog 277 (.nilFunc) := ⟨by kernel_rfl⟩
instance : Ci Tryz.prog 278 := ⟨_, Tryz.underlying278, rfl⟩
instance : Zv Tryz.prog 278 (.agg #[.string ByteArray.empty, .int .u8 0]) := ⟨by kernel_rfl⟩
instance : Ci Tryz.prog 279 := ⟨_, Tryz.underlying279, rfl⟩
instance : Zv Tryz.prog 279 (.agg #[.string ByteArray.empty, .int .u8 0]) := ⟨by kernel_rfl⟩
instance : Ci Tryz.prog 280 := ⟨_, Tryz.underlying280, rfl⟩
instance : Zv Tryz.prog 280 (.nilFunc) := ⟨by kernel_rfl⟩
instance : Ci Tryz.prog 281 := ⟨_, Tryz.underlying281, rfl⟩
instance : Zv Tryz.prog 281 (.nilFunc) := ⟨by kernel_rfl⟩
instance : Ci Tryz.prog 282 := ⟨_, Tryz.underlying282, rfl⟩
instance : Zv Tryz.prog 282 (.pointer none) := ⟨by kernel_rfl⟩
instance : Ci Tryz.prog 283 := ⟨_, Tryz.underlying283, rfl⟩
instance : Zv Tryz.prog 283 (.nilFunc) := ⟨by kernel_rfl⟩
instance : Ci Tryz.prog 284 := ⟨_, Tryz.underlying284, rfl⟩
instance : Zv Tryz.prog 284 (.nilFunc) := ⟨by kernel_rfl⟩
instance : Ci Tryz.prog 285 := ⟨_, Tryz.underlying285, rfl⟩
instance : Zv Tryz.prog 285 (.int .u16 0) := ⟨by kernel_rfl⟩
instance : Ci Tryz.prog 286 := ⟨_, Tryz.underlying286, rfl⟩
instance : Zv Tryz.prog 286 (.agg #[.int .i32 0, .int .u16 0, .int .u16 0, .int .u32 0, .int .u32 0]) := ⟨by kernel_rfl⟩
instance : Ci Tryz.prog 287 := ⟨_, Tryz.underlying287, rfl⟩
instance : Zv Tryz.prog 287 (.agg #[.int .i32 0, .int .u16 0, .int .u16 0, .int .u32 0, .int .u32 0]) := ⟨by kernel_rfl⟩
instance : Ap Tryz.prog 288 291 4 16 := ⟨Tryz.underlying288, by kernel_rfl, by decide⟩
instance : Ci Tryz.prog 288 := ⟨_, Tryz.underlying288, rfl⟩
instance : Zv Tryz.prog 288 (.slice none 0 0) := ⟨by kernel_rfl⟩
instance : Ci Tryz.prog 289 := ⟨_, Tryz.underlying289, rfl⟩
instance : Zv Tryz.prog 289 (.int .i32 0) := ⟨by kernel_rfl⟩
instance : Ci Tryz.prog 290 := ⟨_, Tryz.underlying290, rfl⟩
instance : Zv Tryz.prog 290 (.agg #[.int .i32 0, .int .i32 0, .int .i32 0, .int .i32 0]) := ⟨by kernel_rfl⟩
instance : Ci Tryz.prog 291 := ⟨_, Tryz.underlying291, rfl⟩
instance : Zv Tryz.prog 291 (.agg #[.int .i32 0, .int .i32 0, .int .i32 0, .int .i32 0]) := ⟨by kernel_rfl⟩
instance : Ci Tryz.prog 292 := ⟨_, Tryz.underlying292, rfl⟩
instance : Zv Tryz.prog 292 (.pointer none) := ⟨by kernel_rfl⟩

end D
end Go.Proofs.YtpgbmohocfcjpaaGreatDoor
