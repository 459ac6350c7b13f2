/- The engine, part 7: what the program's types and functions are (closed facts). -/
import Derived.Test.YtpodhahlbdlgeaaDoorEw
import Derived.Test.YtpodhahlbdlgeaaDoorProg
namespace Go.Proofs.YtpodhahlbdlgeaaDoor
set_option linter.unusedVariables false
set_option linter.unusedSimpArgs false
namespace D
open Go.RowKit

variable {P : Program}
theorem fieldPlace_run {fd : Field} {k : Nat} (hz : (P.info? fd.type).map (·.size) = some k) (hk : k ≠ 0) (b o : Nat) (w : World) : (fieldPlace ⟨b, o, none⟩ fd).run P w = .ok ⟨b, o + fd.offset, none⟩ w := by
  simp [fieldPlace, run_sizeOf hz, hk, add_plain]
theorem FO.of {s f off ft : Nat} {fs : Array Field} {fd : Field} {k : Nat} (hu : P.underlying s = some (.struct fs)) (hf : fs[f]? = some fd) (ho : fd.offset = off) (ht : fd.type = ft) (hz : (P.info? ft).map (·.size) = some k) (hk : k ≠ 0) : FO P s f off := by
  subst ho; subst ht
  exact ⟨fun b o w => by simp [Instr.fieldAt, run_underlying hu, hf, Instr.sureAddr, fieldPlace_run hz hk]⟩
theorem FV.of1 {s f off ft : Nat} {fs : Array Field} {fd : Field} (hu : P.underlying s = some (.struct fs)) (hf : fs[f]? = some fd) (ho : fd.offset = off) (ht : fd.type = ft) (i : Sc P ft) : FV P s f off 1 false := by
  subst ho; subst ht
  exact ⟨fun us w => by
    simp only [Instr.field, Sem.run_bind, run_underlying hu, Result.andThen_ok, hf, part, asAgg, run_isAgg_sc, Sem.run_pure]
    simp
    cases us[fd.offset]? <;> rfl⟩
theorem FV.ofk {s f off ft : Nat} {fs : Array Field} {fd : Field} {k : Nat} (hu : P.underlying s = some (.struct fs)) (hf : fs[f]? = some fd) (ho : fd.offset = off) (ht : fd.type = ft) (i : Ag P ft k) : FV P s f off k true := by
  subst ho; subst ht
  exact ⟨fun us w => by
    simp only [Instr.field, Sem.run_bind, run_underlying hu, Result.andThen_ok, hf, part, asAgg, run_isAgg_ag, Sem.run_pure, run_sizeOf i.sz]
    simp [run_sizeOf i.sz]⟩

instance : Sc Tryd.prog 1 := ⟨_, Tryd.underlying1, rfl⟩
instance : Sz Tryd.prog 1 1 := ⟨by kernel_rfl⟩
instance : Zr Tryd.prog 1 [.nilFunc] := ⟨by kernel_rfl⟩
instance : Sc Tryd.prog 2 := ⟨_, Tryd.underlying2, rfl⟩
instance : Sz Tryd.prog 2 1 := ⟨by kernel_rfl⟩
instance : Zr Tryd.prog 2 [.int .i64 0] := ⟨by kernel_rfl⟩
instance : I64 Tryd.prog 2 := ⟨Tryd.underlying2⟩
instance : Sc Tryd.prog 3 := ⟨_, Tryd.underlying3, rfl⟩
instance : Sz Tryd.prog 3 1 := ⟨by kernel_rfl⟩
instance : Zr Tryd.prog 3 [.int .i64 0] := ⟨by kernel_rfl⟩
instance : I64 Tryd.prog 3 := ⟨Tryd.underlying3⟩
instance : Sc Tryd.prog 4 := ⟨_, Tryd.underlying4, rfl⟩
instance : Sz Tryd.prog 4 1 := ⟨by kernel_rfl⟩
instance : Zr Tryd.prog 4 [.bool false] := ⟨by kernel_rfl⟩
instance : BoT Tryd.prog 4 := ⟨Tryd.underlying4⟩
instance : Sc Tryd.prog 5 := ⟨_, Tryd.underlying5, rfl⟩
instance : Sz Tryd.prog 5 1 := ⟨by kernel_rfl⟩
instance : Zr Tryd.prog 5 [.int .u8 0] := ⟨by kernel_rfl⟩
instance : Sc Tryd.prog 6 := ⟨_, Tryd.underlying6, rfl⟩
instance : Sz Tryd.prog 6 1 := ⟨by kernel_rfl⟩
instance : Zr Tryd.prog 6 [.int .u8 0] := ⟨by kernel_rfl⟩
instance : Ag Tryd.prog 7 4 := ⟨⟨_, Tryd.underlying7, rfl⟩, by kernel_rfl⟩
instance : Sz Tryd.prog 7 4 := ⟨by kernel_rfl⟩
instance : Zr Tryd.prog 7 [.int .i64 0, .int .i64 0, .bool false, .int .u8 0] := ⟨by kernel_rfl⟩
instance : Ag Tryd.prog 8 4 := ⟨⟨_, Tryd.underlying8, rfl⟩, by kernel_rfl⟩
instance : Sz Tryd.prog 8 4 := ⟨by kernel_rfl⟩
instance : Zr Tryd.prog 8 [.int .i64 0, .int .i64 0, .bool false, .int .u8 0] := ⟨by kernel_rfl⟩
instance : Sc Tryd.prog 9 := ⟨_, Tryd.underlying9, rfl⟩
instance : Sz Tryd.prog 9 1 := ⟨by kernel_rfl⟩
instance : Zr Tryd.prog 9 [.string ByteArray.empty] := ⟨by kernel_rfl⟩
instance : StT Tryd.prog 9 := ⟨Tryd.underlying9⟩
instance : Sc Tryd.prog 10 := ⟨_, Tryd.underlying10, rfl⟩
instance : Sz Tryd.prog 10 1 := ⟨by kernel_rfl⟩
instance : Zr Tryd.prog 10 [.string ByteArray.empty] := ⟨by kernel_rfl⟩
instance : StT Tryd.prog 10 := ⟨Tryd.underlying10⟩
instance : Sc Tryd.prog 11 := ⟨_, Tryd.underlying11, rfl⟩
instance : Sz Tryd.prog 11 1 := ⟨by kernel_rfl⟩
instance : Zr Tryd.prog 11 [.string ByteArray.empty] := ⟨by kernel_rfl⟩
instance : StT Tryd.prog 11 := ⟨Tryd.underlying11⟩
instance : Sc Tryd.prog 12 := ⟨_, Tryd.underlying12, rfl⟩
instance : Sz Tryd.prog 12 1 := ⟨by kernel_rfl⟩
instance : Zr Tryd.prog 12 [.int .u64 0] := ⟨by kernel_rfl⟩
instance : Ag Tryd.prog 13 2 := ⟨⟨_, Tryd.underlying13, rfl⟩, by kernel_rfl⟩
instance : Sz Tryd.prog 13 2 := ⟨by kernel_rfl⟩
instance : Zr Tryd.prog 13 [.string ByteArray.empty, .int .u64 0] := ⟨by kernel_rfl⟩
instance : Ag Tryd.prog 14 2 := ⟨⟨_, Tryd.underlying14, rfl⟩, by kernel_rfl⟩
instance : Sz Tryd.prog 14 2 := ⟨by kernel_rfl⟩
instance : Zr Tryd.prog 14 [.string ByteArray.empty, .int .u64 0] := ⟨by kernel_rfl⟩
instance : Sc Tryd.prog 15 := ⟨_, Tryd.underlying15, rfl⟩
instance : Sz Tryd.prog 15 1 := ⟨by kernel_rfl⟩
instance : Zr Tryd.prog 15 [.pointer none] := ⟨by kernel_rfl⟩
instance : Sc Tryd.prog 16 := ⟨_, Tryd.underlying16, rfl⟩
instance : Sz Tryd.prog 16 1 := ⟨by kernel_rfl⟩
instance : Zr Tryd.prog 16 [.pointer none] := ⟨by kernel_rfl⟩
instance : Sc Tryd.prog 17 := ⟨_, Tryd.underlying17, rfl⟩
instance : Sz Tryd.prog 17 1 := ⟨by kernel_rfl⟩
instance : Zr Tryd.prog 17 [.pointer none] := ⟨by kernel_rfl⟩
instance : Ag Tryd.prog 18 1 := ⟨⟨_, Tryd.underlying18, rfl⟩, by kernel_rfl⟩
instance : Sz Tryd.prog 18 1 := ⟨by kernel_rfl⟩
instance : Zr Tryd.prog 18 [.pointer none] := ⟨by kernel_rfl⟩
instance : Ag Tryd.prog 19 1 := ⟨⟨_, Tryd.underlying19, rfl⟩, by kernel_rfl⟩
instance : Sz Tryd.prog 19 1 := ⟨by kernel_rfl⟩
instance : Zr Tryd.prog 19 [.pointer none] := ⟨by kernel_rfl⟩
instance : Sc Tryd.prog 20 := ⟨_, Tryd.underlying20, rfl⟩
instance : Sz Tryd.prog 20 1 := ⟨by kernel_rfl⟩
instance : Zr Tryd.prog 20 [.nilIface] := ⟨by kernel_rfl⟩
instance : Sc Tryd.prog 21 := ⟨_, Tryd.underlying21, rfl⟩
instance : Sz Tryd.prog 21 1 := ⟨by kernel_rfl⟩
instance : Zr Tryd.prog 21 [.int .i32 0] := ⟨by kernel_rfl⟩
instance : Sc Tryd.prog 22 := ⟨_, Tryd.underlying22, rfl⟩
instance : Sz Tryd.prog 22 1 := ⟨by kernel_rfl⟩
instance : Zr Tryd.prog 22 [.slice none 0 0] := ⟨by kernel_rfl⟩
instance : SlT Tryd.prog 22 5 1 := ⟨Tryd.underlying22, by kernel_rfl⟩
instance : Ag Tryd.prog 23 3 := ⟨⟨_, Tryd.underlying23, rfl⟩, by kernel_rfl⟩
instance : Sz Tryd.prog 23 3 := ⟨by kernel_rfl⟩
instance : Zr Tryd.prog 23 [.int .i64 0, .int .i64 0, .int .i64 0] := ⟨by kernel_rfl⟩
instance : Ag Tryd.prog 24 3 := ⟨⟨_, Tryd.underlying24, rfl⟩, by kernel_rfl⟩
instance : Sz Tryd.prog 24 3 := ⟨by kernel_rfl⟩
instance : Zr Tryd.prog 24 [.int .i64 0, .int .i64 0, .int .i64 0] := ⟨by kernel_rfl⟩
instance : Ag Tryd.prog 25 4 := ⟨⟨_, Tryd.underlying25, rfl⟩, by kernel_rfl⟩
instance : Sz Tryd.prog 25 4 := ⟨by kernel_rfl⟩
instance : Zr Tryd.prog 25 [.int .i64 0, .int .i64 0, .int .i64 0, .int .i64 0] := ⟨by kernel_rfl⟩
instance : Ag Tryd.prog 26 4 := ⟨⟨_, Tryd.underlying26, rfl⟩, by kernel_rfl⟩
instance : Sz Tryd.prog 26 4 := ⟨by kernel_rfl⟩
instance : Zr Tryd.prog 26 [.int .i64 0, .int .i64 0, .int .i64 0, .int .i64 0] := ⟨by kernel_rfl⟩
instance : Ag Tryd.prog 27 8 := ⟨⟨_, Tryd.underlying27, rfl⟩, by kernel_rfl⟩
instance : Sz Tryd.prog 27 8 := ⟨by kernel_rfl⟩
instance : Zr Tryd.prog 27 [.int .i64 0, .int .i64 0, .int .i64 0, .int .i64 0, .int .i64 0, .int .i64 0, .int .i64 0, .int .i64 0] := ⟨by kernel_rfl⟩
instance : Ag Tryd.prog 28 8 := ⟨⟨_, Tryd.underlying28, rfl⟩, by kernel_rfl⟩
instance : Sz Tryd.prog 28 8 := ⟨by kernel_rfl⟩
instance : Zr Tryd.prog 28 [.int .i64 0, .int .i64 0, .int .i64 0, .int .i64 0, .int .i64 0, .int .i64 0, .int .i64 0, .int .i64 0] := ⟨by kernel_rfl⟩
instance : Sc Tryd.prog 30 := ⟨_, Tryd.underlying30, rfl⟩
instance : Sz Tryd.prog 30 1 := ⟨by kernel_rfl⟩
instance : Zr Tryd.prog 30 [.nilFunc] := ⟨by kernel_rfl⟩
instance : Ag Tryd.prog 31 6 := ⟨⟨_, Tryd.underlying31, rfl⟩, by kernel_rfl⟩
instance : Sz Tryd.prog 31 6 := ⟨by kernel_rfl⟩
instance : Zr Tryd.prog 31 [.int .i64 0, .int .i64 0, .int .i64 0, .int .i64 0, .int .i64 0, .int .i64 0] := ⟨by kernel_rfl⟩
instance : Ag Tryd.prog 32 6 := ⟨⟨_, Tryd.underlying32, rfl⟩, by kernel_rfl⟩
instance : Sz Tryd.prog 32 6 := ⟨by kernel_rfl⟩
instance : Zr Tryd.prog 32 [.int .i64 0, .int .i64 0, .int .i64 0, .int .i64 0, .int .i64 0, .int .i64 0] := ⟨by kernel_rfl⟩
instance : Sc Tryd.prog 34 := ⟨_, Tryd.underlying34, rfl⟩
instance : Sz Tryd.prog 34 1 := ⟨by kernel_rfl⟩
instance : Zr Tryd.prog 34 [.nilFunc] := ⟨by kernel_rfl⟩
instance : Sc Tryd.prog 36 := ⟨_, Tryd.underlying36, rfl⟩
instance : Sz Tryd.prog 36 1 := ⟨by kernel_rfl⟩
instance : Zr Tryd.prog 36 [.nilFunc] := ⟨by kernel_rfl⟩
instance : Sc Tryd.prog 37 := ⟨_, Tryd.underlying37, rfl⟩
instance : Sz Tryd.prog 37 1 := ⟨by kernel_rfl⟩
instance : Zr Tryd.prog 37 [.nilFunc] := ⟨by kernel_rfl⟩
instance : Sc Tryd.prog 39 := ⟨_, Tryd.underlying39, rfl⟩
instance : Sz Tryd.prog 39 1 := ⟨by kernel_rfl⟩
instance : Zr Tryd.prog 39 [.nilFunc] := ⟨by kernel_rfl⟩
instance : Sc Tryd.prog 40 := ⟨_, Tryd.underlying40, rfl⟩
instance : Sz Tryd.prog 40 1 := ⟨by kernel_rfl⟩
instance : Zr Tryd.prog 40 [.nilFunc] := ⟨by kernel_rfl⟩
instance : Sc Tryd.prog 41 := ⟨_, Tryd.underlying41, rfl⟩
instance : Sz Tryd.prog 41 1 := ⟨by kernel_rfl⟩
instance : Zr Tryd.prog 41 [.nilFunc] := ⟨by kernel_rfl⟩
instance : Sc Tryd.prog 42 := ⟨_, Tryd.underlying42, rfl⟩
instance : Sz Tryd.prog 42 1 := ⟨by kernel_rfl⟩
instance : Zr Tryd.prog 42 [.pointer none] := ⟨by kernel_rfl⟩
instance : Sc Tryd.prog 43 := ⟨_, Tryd.underlying43, rfl⟩
instance : Sz Tryd.prog 43 1 := ⟨by kernel_rfl⟩
instance : Zr Tryd.prog 43 [.nilFunc] := ⟨by kernel_rfl⟩
instance : Sc Tryd.prog 44 := ⟨_, Tryd.underlying44, rfl⟩
instance : Sz Tryd.prog 44 1 := ⟨by kernel_rfl⟩
instance : Zr Tryd.prog 44 [.nilFunc] := ⟨by kernel_rfl⟩
instance : Sc Tryd.prog 45 := ⟨_, Tryd.underlying45, rfl⟩
instance : Sz Tryd.prog 45 1 := ⟨by kernel_rfl⟩
instance : Zr Tryd.prog 45 [.nilIface] := ⟨by kernel_rfl⟩
instance : Sc Tryd.prog 46 := ⟨_, Tryd.underlying46, rfl⟩
instance : Sz Tryd.prog 46 1 := ⟨by kernel_rfl⟩
instance : Zr Tryd.prog 46 [.nilIface] := ⟨by kernel_rfl⟩
instance : Sc Tryd.prog 48 := ⟨_, Tryd.underlying48, rfl⟩
instance : Sz Tryd.prog 48 1 := ⟨by kernel_rfl⟩
instance : Zr Tryd.prog 48 [.nilFunc] := ⟨by kernel_rfl⟩
instance : Sc Tryd.prog 49 := ⟨_, Tryd.underlying49, rfl⟩
instance : Sz Tryd.prog 49 1 := ⟨by kernel_rfl⟩
instance : Zr Tryd.prog 49 [.nilFunc] := ⟨by kernel_rfl⟩
instance : Sc Tryd.prog 50 := ⟨_, Tryd.underlying50, rfl⟩
instance : Sz Tryd.prog 50 1 := ⟨by kernel_rfl⟩
instance : Zr Tryd.prog 50 [.nilFunc] := ⟨by kernel_rfl⟩
instance : Sc Tryd.prog 51 := ⟨_, Tryd.underlying51, rfl⟩
instance : Sz Tryd.prog 51 1 := ⟨by kernel_rfl⟩
instance : Zr Tryd.prog 51 [.nilFunc] := ⟨by kernel_rfl⟩
instance : Sc Tryd.prog 52 := ⟨_, Tryd.underlying52, rfl⟩
instance : Sz Tryd.prog 52 1 := ⟨by kernel_rfl⟩
instance : Zr Tryd.prog 52 [.nilFunc] := ⟨by kernel_rfl⟩
instance : Sc Tryd.prog 53 := ⟨_, Tryd.underlying53, rfl⟩
instance : Sz Tryd.prog 53 1 := ⟨by kernel_rfl⟩
instance : Zr Tryd.prog 53 [.nilFunc] := ⟨by kernel_rfl⟩
instance : Sc Tryd.prog 54 := ⟨_, Tryd.underlying54, rfl⟩
instance : Sz Tryd.prog 54 1 := ⟨by kernel_rfl⟩
instance : Zr Tryd.prog 54 [.nilFunc] := ⟨by kernel_rfl⟩
instance : Sc Tryd.prog 56 := ⟨_, Tryd.underlying56, rfl⟩
instance : Sz Tryd.prog 56 1 := ⟨by kernel_rfl⟩
instance : Zr Tryd.prog 56 [.nilFunc] := ⟨by kernel_rfl⟩
instance : Sc Tryd.prog 57 := ⟨_, Tryd.underlying57, rfl⟩
instance : Sz Tryd.prog 57 1 := ⟨by kernel_rfl⟩
instance : Zr Tryd.prog 57 [.nilFunc] := ⟨by kernel_rfl⟩
instance : Sc Tryd.prog 58 := ⟨_, Tryd.underlying58, rfl⟩
instance : Sz Tryd.prog 58 1 := ⟨by kernel_rfl⟩
instance : Zr Tryd.prog 58 [.nilFunc] := ⟨by kernel_rfl⟩
instance : Sc Tryd.prog 59 := ⟨_, Tryd.underlying59, rfl⟩
instance : Sz Tryd.prog 59 1 := ⟨by kernel_rfl⟩
instance : Zr Tryd.prog 59 [.nilFunc] := ⟨by kernel_rfl⟩
instance : Sc Tryd.prog 60 := ⟨_, Tryd.underlying60, rfl⟩
instance : Sz Tryd.prog 60 1 := ⟨by kernel_rfl⟩
instance : Zr Tryd.prog 60 [.nilFunc] := ⟨by kernel_rfl⟩
instance : Sc Tryd.prog 61 := ⟨_, Tryd.underlying61, rfl⟩
instance : Sz Tryd.prog 61 1 := ⟨by kernel_rfl⟩
instance : Zr Tryd.prog 61 [.nilFunc] := ⟨by kernel_rfl⟩
instance : Sc Tryd.prog 62 := ⟨_, Tryd.underlying62, rfl⟩
instance : Sz Tryd.prog 62 1 := ⟨by kernel_rfl⟩
instance : Zr Tryd.prog 62 [.nilFunc] := ⟨by kernel_rfl⟩
instance : Sc Tryd.prog 63 := ⟨_, Tryd.underlying63, rfl⟩
instance : Sz Tryd.prog 63 1 := ⟨by kernel_rfl⟩
instance : Zr Tryd.prog 63 [.nilFunc] := ⟨by kernel_rfl⟩
instance : Ag Tryd.prog 64 2 := ⟨⟨_, Tryd.underlying64, rfl⟩, by kernel_rfl⟩
instance : Sz Tryd.prog 64 2 := ⟨by kernel_rfl⟩
instance : Zr Tryd.prog 64 [.slice none 0 0, .int .i64 0] := ⟨by kernel_rfl⟩
instance : Ag Tryd.prog 65 2 := ⟨⟨_, Tryd.underlying65, rfl⟩, by kernel_rfl⟩
instance : Sz Tryd.prog 65 2 := ⟨by kernel_rfl⟩
instance : Zr Tryd.prog 65 [.slice none 0 0, .int .i64 0] := ⟨by kernel_rfl⟩
instance : Sc Tryd.prog 66 := ⟨_, Tryd.underlying66, rfl⟩
instance : Sz Tryd.prog 66 1 := ⟨by kernel_rfl⟩
instance : Zr Tryd.prog 66 [.nilFunc] := ⟨by kernel_rfl⟩
instance : Sc Tryd.prog 67 := ⟨_, Tryd.underlying67, rfl⟩
instance : Sz Tryd.prog 67 1 := ⟨by kernel_rfl⟩
instance : Zr Tryd.prog 67 [.nilFunc] := ⟨by kernel_rfl⟩
instance : Sc Tryd.prog 68 := ⟨_, Tryd.underlying68, rfl⟩
instance : Sz Tryd.prog 68 1 := ⟨by kernel_rfl⟩
instance : Zr Tryd.prog 68 [.nilFunc] := ⟨by kernel_rfl⟩
instance : Ag Tryd.prog 69 9 := ⟨⟨_, Tryd.underlying69, rfl⟩, by kernel_rfl⟩
instance : Sz Tryd.prog 69 9 := ⟨by kernel_rfl⟩
instance : Zr Tryd.prog 69 [.int .i64 0, .int .i64 0, .int .i64 0, .int .i64 0, .int .i64 0, .int .i64 0, .int .i64 0, .int .i64 0, .int .i64 0] := ⟨by kernel_rfl⟩
instance : Ag Tryd.prog 70 9 := ⟨⟨_, Tryd.underlying70, rfl⟩, by kernel_rfl⟩
instance : Sz Tryd.prog 70 9 := ⟨by kernel_rfl⟩
instance : Zr Tryd.prog 70 [.int .i64 0, .int .i64 0, .int .i64 0, .int .i64 0, .int .i64 0, .int .i64 0, .int .i64 0, .int .i64 0, .int .i64 0] := ⟨by kernel_rfl⟩
instance : Sc Tryd.prog 71 := ⟨_, Tryd.underlying71, rfl⟩
instance : Sz Tryd.prog 71 1 := ⟨by kernel_rfl⟩
instance : Zr Tryd.prog 71 [.nilFunc] := ⟨by kernel_rfl⟩
instance : Sc Tryd.prog 72 := ⟨_, Tryd.underlying72, rfl⟩
instance : Sz Tryd.prog 72 1 := ⟨by kernel_rfl⟩
instance : Zr Tryd.prog 72 [.nilIface] := ⟨by kernel_rfl⟩
instance : Sc Tryd.prog 73 := ⟨_, Tryd.underlying73, rfl⟩
instance : Sz Tryd.prog 73 1 := ⟨by kernel_rfl⟩
instance : Zr Tryd.prog 73 [.nilIface] := ⟨by kernel_rfl⟩
instance : Sc Tryd.prog 74 := ⟨_, Tryd.underlying74, rfl⟩
instance : Sz Tryd.prog 74 1 := ⟨by kernel_rfl⟩
instance : Zr Tryd.prog 74 [.nilFunc] := ⟨by kernel_rfl⟩
instance : Sc Tryd.prog 75 := ⟨_, Tryd.underlying75, rfl⟩
instance : Sz Tryd.prog 75 1 := ⟨by kernel_rfl⟩
instance : Zr Tryd.prog 75 [.nilFunc] := ⟨by kernel_rfl⟩
instance : Sc Tryd.prog 76 := ⟨_, Tryd.underlying76, rfl⟩
instance : Sz Tryd.prog 76 1 := ⟨by kernel_rfl⟩
instance : Zr Tryd.prog 76 [.nilFunc] := ⟨by kernel_rfl⟩
instance : Sc Tryd.prog 77 := ⟨_, Tryd.underlying77, rfl⟩
instance : Sz Tryd.prog 77 1 := ⟨by kernel_rfl⟩
instance : Zr Tryd.prog 77 [.slice none 0 0] := ⟨by kernel_rfl⟩
instance : SlT Tryd.prog 77 81 3 := ⟨Tryd.underlying77, by kernel_rfl⟩
instance : Sc Tryd.prog 78 := ⟨_, Tryd.underlying78, rfl⟩
instance : Sz Tryd.prog 78 1 := ⟨by kernel_rfl⟩
instance : Zr Tryd.prog 78 [.nilFunc] := ⟨by kernel_rfl⟩
instance : Sc Tryd.prog 79 := ⟨_, Tryd.underlying79, rfl⟩
instance : Sz Tryd.prog 79 1 := ⟨by kernel_rfl⟩
instance : Zr Tryd.prog 79 [.pointer none] := ⟨by kernel_rfl⟩
instance : Ag Tryd.prog 80 3 := ⟨⟨_, Tryd.underlying80, rfl⟩, by kernel_rfl⟩
instance : Sz Tryd.prog 80 3 := ⟨by kernel_rfl⟩
instance : Zr Tryd.prog 80 [.int .u8 0, .bool false, .pointer none] := ⟨by kernel_rfl⟩
instance : Ag Tryd.prog 81 3 := ⟨⟨_, Tryd.underlying81, rfl⟩, by kernel_rfl⟩
instance : Sz Tryd.prog 81 3 := ⟨by kernel_rfl⟩
instance : Zr Tryd.prog 81 [.int .u8 0, .bool false, .pointer none] := ⟨by kernel_rfl⟩
instance : Sc Tryd.prog 82 := ⟨_, Tryd.underlying82, rfl⟩
instance : Sz Tryd.prog 82 1 := ⟨by kernel_rfl⟩
instance : Zr Tryd.prog 82 [.nilFunc] := ⟨by kernel_rfl⟩
instance : Sc Tryd.prog 83 := ⟨_, Tryd.underlying83, rfl⟩
instance : Sz Tryd.prog 83 1 := ⟨by kernel_rfl⟩
instance : Zr Tryd.prog 83 [.nilFunc] := ⟨by kernel_rfl⟩
instance : Sc Tryd.prog 84 := ⟨_, Tryd.underlying84, rfl⟩
instance : Sz Tryd.prog 84 1 := ⟨by kernel_rfl⟩
instance : Zr Tryd.prog 84 [.nilFunc] := ⟨by kernel_rfl⟩
instance : Sc Tryd.prog 85 := ⟨_, Tryd.underlying85, rfl⟩
instance : Sz Tryd.prog 85 1 := ⟨by kernel_rfl⟩
instance : Zr Tryd.prog 85 [.nilFunc] := ⟨by kernel_rfl⟩
instance : Sc Tryd.prog 86 := ⟨_, Tryd.underlying86, rfl⟩
instance : Sz Tryd.prog 86 1 := ⟨by kernel_rfl⟩
instance : Zr Tryd.prog 86 [.nilFunc] := ⟨by kernel_rfl⟩
instance : Sc Tryd.prog 87 := ⟨_, Tryd.underlying87, rfl⟩
instance : Sz Tryd.prog 87 1 := ⟨by kernel_rfl⟩
instance : Zr Tryd.prog 87 [.nilFunc] := ⟨by kernel_rfl⟩
instance : Sc Tryd.prog 88 := ⟨_, Tryd.underlying88, rfl⟩
instance : Sz Tryd.prog 88 1 := ⟨by kernel_rfl⟩
instance : Zr Tryd.prog 88 [.nilFunc] := ⟨by kernel_rfl⟩
instance : Sc Tryd.prog 89 := ⟨_, Tryd.underlying89, rfl⟩
instance : Sz Tryd.prog 89 1 := ⟨by kernel_rfl⟩
instance : Zr Tryd.prog 89 [.nilFunc] := ⟨by kernel_rfl⟩
instance : Sc Tryd.prog 90 := ⟨_, Tryd.underlying90, rfl⟩
instance : Sz Tryd.prog 90 1 := ⟨by kernel_rfl⟩
instance : Zr Tryd.prog 90 [.slice none 0 0] := ⟨by kernel_rfl⟩
instance : SlT Tryd.prog 90 3 1 := ⟨Tryd.underlying90, by kernel_rfl⟩
instance : Ag Tryd.prog 91 1 := ⟨⟨_, Tryd.underlying91, rfl⟩, by kernel_rfl⟩
instance : Sz Tryd.prog 91 1 := ⟨by kernel_rfl⟩
instance : Zr Tryd.prog 91 [.pointer none] := ⟨by kernel_rfl⟩
instance : Ag Tryd.prog 92 1 := ⟨⟨_, Tryd.underlying92, rfl⟩, by kernel_rfl⟩
instance : Sz Tryd.prog 92 1 := ⟨by kernel_rfl⟩
instance : Zr Tryd.prog 92 [.pointer none] := ⟨by kernel_rfl⟩
instance : Sc Tryd.prog 93 := ⟨_, Tryd.underlying93, rfl⟩
instance : Sz Tryd.prog 93 1 := ⟨by kernel_rfl⟩
instance : Zr Tryd.prog 93 [.pointer none] := ⟨by kernel_rfl⟩
instance : Sc Tryd.prog 94 := ⟨_, Tryd.underlying94, rfl⟩
instance : Sz Tryd.prog 94 1 := ⟨by kernel_rfl⟩
instance : Zr Tryd.prog 94 [.nilIface] := ⟨by kernel_rfl⟩
instance : Sc Tryd.prog 96 := ⟨_, Tryd.underlying96, rfl⟩
instance : Sz Tryd.prog 96 1 := ⟨by kernel_rfl⟩
instance : Zr Tryd.prog 96 [.nilFunc] := ⟨by kernel_rfl⟩
instance : Sc Tryd.prog 97 := ⟨_, Tryd.underlying97, rfl⟩
instance : Sz Tryd.prog 97 1 := ⟨by kernel_rfl⟩
instance : Zr Tryd.prog 97 [.nilIface] := ⟨by kernel_rfl⟩
instance : Sc Tryd.prog 98 := ⟨_, Tryd.underlying98, rfl⟩
instance : Sz Tryd.prog 98 1 := ⟨by kernel_rfl⟩
instance : Zr Tryd.prog 98 [.nilFunc] := ⟨by kernel_rfl⟩
instance : Sc Tryd.prog 99 := ⟨_, Tryd.underlying99, rfl⟩
instance : Sz Tryd.prog 99 1 := ⟨by kernel_rfl⟩
instance : Zr Tryd.prog 99 [.nilIface] := ⟨by kernel_rfl⟩
instance : Sc Tryd.prog 100 := ⟨_, Tryd.underlying100, rfl⟩
instance : Sz Tryd.prog 100 1 := ⟨by kernel_rfl⟩
instance : Zr Tryd.prog 100 [.slice none 0 0] := ⟨by kernel_rfl⟩
instance : SlT Tryd.prog 100 46 1 := ⟨Tryd.underlying100, by kernel_rfl⟩
instance : Sc Tryd.prog 101 := ⟨_, Tryd.underlying101, rfl⟩
instance : Sz Tryd.prog 101 1 := ⟨by kernel_rfl⟩
instance : Zr Tryd.prog 101 [.nilFunc] := ⟨by kernel_rfl⟩
instance : Sc Tryd.prog 102 := ⟨_, Tryd.underlying102, rfl⟩
instance : Sz Tryd.prog 102 1 := ⟨by kernel_rfl⟩
instance : Zr Tryd.prog 102 [.pointer none] := ⟨by kernel_rfl⟩
instance : Sc Tryd.prog 103 := ⟨_, Tryd.underlying103, rfl⟩
instance : Sz Tryd.prog 103 1 := ⟨by kernel_rfl⟩
instance : Zr Tryd.prog 103 [.nilFunc] := ⟨by kernel_rfl⟩
instance : Ag Tryd.prog 104 12 := ⟨⟨_, Tryd.underlying104, rfl⟩, by kernel_rfl⟩
instance : Sz Tryd.prog 104 12 := ⟨by kernel_rfl⟩
instance : Zr Tryd.prog 104 [.int .i64 0, .int .i64 0, .int .i64 0, .int .i64 0, .int .i64 0, .int .i64 0, .int .i64 0, .int .i64 0, .int .i64 0, .int .i64 0, .int .i64 0, .int .i64 0] := ⟨by kernel_rfl⟩
instance : Sc Tryd.prog 105 := ⟨_, Tryd.underlying105, rfl⟩
instance : Sz Tryd.prog 105 1 := ⟨by kernel_rfl⟩
instance : Zr Tryd.prog 105 [.pointer none] := ⟨by kernel_rfl⟩
instance : Sc Tryd.prog 106 := ⟨_, Tryd.underlying106, rfl⟩
instance : Sz Tryd.prog 106 1 := ⟨by kernel_rfl⟩
instance : Zr Tryd.prog 106 [.nilFunc] := ⟨by kernel_rfl⟩
instance : Ag Tryd.prog 107 4 := ⟨⟨_, Tryd.underlying107, rfl⟩, by kernel_rfl⟩
instance : Sz Tryd.prog 107 4 := ⟨by kernel_rfl⟩
instance : Zr Tryd.prog 107 [.pointer none, .pointer none, .pointer none, .string ByteArray.empty] := ⟨by kernel_rfl⟩
instance : Ag Tryd.prog 108 4 := ⟨⟨_, Tryd.underlying108, rfl⟩, by kernel_rfl⟩
instance : Sz Tryd.prog 108 4 := ⟨by kernel_rfl⟩
instance : Zr Tryd.prog 108 [.pointer none, .pointer none, .pointer none, .string ByteArray.empty] := ⟨by kernel_rfl⟩
instance : Sc Tryd.prog 112 := ⟨_, Tryd.underlying112, rfl⟩
instance : Sz Tryd.prog 112 1 := ⟨by kernel_rfl⟩
instance : Zr Tryd.prog 112 [.int .u32 0] := ⟨by kernel_rfl⟩
instance : Sc Tryd.prog 113 := ⟨_, Tryd.underlying113, rfl⟩
instance : Sz Tryd.prog 113 1 := ⟨by kernel_rfl⟩
instance : Zr Tryd.prog 113 [.int .u8 0] := ⟨by kernel_rfl⟩
instance : Sc Tryd.prog 114 := ⟨_, Tryd.underlying114, rfl⟩
instance : Sz Tryd.prog 114 1 := ⟨by kernel_rfl⟩
instance : Zr Tryd.prog 114 [.int .u8 0] := ⟨by kernel_rfl⟩
instance : Sc Tryd.prog 115 := ⟨_, Tryd.underlying115, rfl⟩
instance : Sz Tryd.prog 115 1 := ⟨by kernel_rfl⟩
instance : Zr Tryd.prog 115 [.nilFunc] := ⟨by kernel_rfl⟩
instance : Sc Tryd.prog 116 := ⟨_, Tryd.underlying116, rfl⟩
instance : Sz Tryd.prog 116 1 := ⟨by kernel_rfl⟩
instance : Zr Tryd.prog 116 [.pointer none] := ⟨by kernel_rfl⟩
instance : Sc Tryd.prog 117 := ⟨_, Tryd.underlying117, rfl⟩
instance : Sz Tryd.prog 117 1 := ⟨by kernel_rfl⟩
instance : Zr Tryd.prog 117 [.int .i32 0] := ⟨by kernel_rfl⟩
instance : Sc Tryd.prog 118 := ⟨_, Tryd.underlying118, rfl⟩
instance : Sz Tryd.prog 118 1 := ⟨by kernel_rfl⟩
instance : Zr Tryd.prog 118 [.int .i32 0] := ⟨by kernel_rfl⟩
instance : Ag Tryd.prog 119 11 := ⟨⟨_, Tryd.underlying119, rfl⟩, by kernel_rfl⟩
instance : Sz Tryd.prog 119 11 := ⟨by kernel_rfl⟩
instance : Zr Tryd.prog 119 [.int .u64 0, .int .u64 0, .int .u32 0, .int .u8 0, .int .u8 0, .int .u8 0, .int .u8 0, .nilFunc, .pointer none, .int .i32 0, .int .i32 0] := ⟨by kernel_rfl⟩
instance : Ag Tryd.prog 120 11 := ⟨⟨_, Tryd.underlying120, rfl⟩, by kernel_rfl⟩
instance : Sz Tryd.prog 120 11 := ⟨by kernel_rfl⟩
instance : Zr Tryd.prog 120 [.int .u64 0, .int .u64 0, .int .u32 0, .int .u8 0, .int .u8 0, .int .u8 0, .int .u8 0, .nilFunc, .pointer none, .int .i32 0, .int .i32 0] := ⟨by kernel_rfl⟩
instance : Sc Tryd.prog 121 := ⟨_, Tryd.underlying121, rfl⟩
instance : Sz Tryd.prog 121 1 := ⟨by kernel_rfl⟩
instance : Zr Tryd.prog 121 [.nilFunc] := ⟨by kernel_rfl⟩
instance : Sc Tryd.prog 122 := ⟨_, Tryd.underlying122, rfl⟩
instance : Sz Tryd.prog 122 1 := ⟨by kernel_rfl⟩
instance : Zr Tryd.prog 122 [.nilFunc] := ⟨by kernel_rfl⟩
instance : Sc Tryd.prog 123 := ⟨_, Tryd.underlying123, rfl⟩
instance : Sz Tryd.prog 123 1 := ⟨by kernel_rfl⟩
instance : Zr Tryd.prog 123 [.nilFunc] := ⟨by kernel_rfl⟩
instance : Sc Tryd.prog 124 := ⟨_, Tryd.underlying124, rfl⟩
instance : Sz Tryd.prog 124 1 := ⟨by kernel_rfl⟩
instance : Zr Tryd.prog 124 [.nilFunc] := ⟨by kernel_rfl⟩
instance : Sc Tryd.prog 125 := ⟨_, Tryd.underlying125, rfl⟩
instance : Sz Tryd.prog 125 1 := ⟨by kernel_rfl⟩
instance : Zr Tryd.prog 125 [.nilFunc] := ⟨by kernel_rfl⟩
instance : Sc Tryd.prog 126 := ⟨_, Tryd.underlying126, rfl⟩
instance : Sz Tryd.prog 126 1 := ⟨by kernel_rfl⟩
instance : Zr Tryd.prog 126 [.nilFunc] := ⟨by kernel_rfl⟩
instance : Ag Tryd.prog 127 2 := ⟨⟨_, Tryd.underlying127, rfl⟩, by kernel_rfl⟩
instance : Sz Tryd.prog 127 2 := ⟨by kernel_rfl⟩
instance : Zr Tryd.prog 127 [.string ByteArray.empty, .int .u8 0] := ⟨by kernel_rfl⟩
instance : Ag Tryd.prog 128 2 := ⟨⟨_, Tryd.underlying128, rfl⟩, by kernel_rfl⟩
instance : Sz Tryd.prog 128 2 := ⟨by kernel_rfl⟩
instance : Zr Tryd.prog 128 [.string ByteArray.empty, .int .u8 0] := ⟨by kernel_rfl⟩
instance : Ag Tryd.prog 129 1 := ⟨⟨_, Tryd.underlying129, rfl⟩, by kernel_rfl⟩
instance : Sz Tryd.prog 129 1 := ⟨by kernel_rfl⟩
instance : Zr Tryd.prog 129 [.string ByteArray.empty] := ⟨by kernel_rfl⟩
instance : Ag Tryd.prog 130 1 := ⟨⟨_, Tryd.underlying130, rfl⟩, by kernel_rfl⟩
instance : Sz Tryd.prog 130 1 := ⟨by kernel_rfl⟩
instance : Zr Tryd.prog 130 [.string ByteArray.empty] := ⟨by kernel_rfl⟩
instance : Sc Tryd.prog 132 := ⟨_, Tryd.underlying132, rfl⟩
instance : Sz Tryd.prog 132 1 := ⟨by kernel_rfl⟩
instance : Zr Tryd.prog 132 [.pointer none] := ⟨by kernel_rfl⟩
instance : Sc Tryd.prog 133 := ⟨_, Tryd.underlying133, rfl⟩
instance : Sz Tryd.prog 133 1 := ⟨by kernel_rfl⟩
instance : Zr Tryd.prog 133 [.nilFunc] := ⟨by kernel_rfl⟩
instance : Sc Tryd.prog 134 := ⟨_, Tryd.underlying134, rfl⟩
instance : Sz Tryd.prog 134 1 := ⟨by kernel_rfl⟩
instance : Zr Tryd.prog 134 [.int .u16 0] := ⟨by kernel_rfl⟩
instance : Ag Tryd.prog 135 5 := ⟨⟨_, Tryd.underlying135, rfl⟩, by kernel_rfl⟩
instance : Sz Tryd.prog 135 5 := ⟨by kernel_rfl⟩
instance : Zr Tryd.prog 135 [.int .i32 0, .int .u16 0, .int .u16 0, .int .u32 0, .int .u32 0] := ⟨by kernel_rfl⟩
instance : Ag Tryd.prog 136 5 := ⟨⟨_, Tryd.underlying136, rfl⟩, by kernel_rfl⟩
instance : Sz Tryd.prog 136 5 := ⟨by kernel_rfl⟩
instance : Zr Tryd.prog 136 [.int .i32 0, .int .u16 0, .int .u16 0, .int .u32 0, .int .u32 0] := ⟨by kernel_rfl⟩
instance : Sc Tryd.prog 137 := ⟨_, Tryd.underlying137, rfl⟩
instance : Sz Tryd.prog 137 1 := ⟨by kernel_rfl⟩
instance : Zr Tryd.prog 137 [.slice none 0 0] := ⟨by kernel_rfl⟩
instance : SlT Tryd.prog 137 140 4 := ⟨Tryd.underlying137, by kernel_rfl⟩
instance : Sc Tryd.prog 138 := ⟨_, Tryd.underlying138, rfl⟩
instance : Sz Tryd.prog 138 1 := ⟨by kernel_rfl⟩
instance : Zr Tryd.prog 138 [.int .i32 0] := ⟨by kernel_rfl⟩
instance : Ag Tryd.prog 139 4 := ⟨⟨_, Tryd.underlying139, rfl⟩, by kernel_rfl⟩
instance : Sz Tryd.prog 139 4 := ⟨by kernel_rfl⟩
instance : Zr Tryd.prog 139 [.int .i32 0, .int .i32 0, .int .i32 0, .int .i32 0] := ⟨by kernel_rfl⟩
instance : Ag Tryd.prog 140 4 := ⟨⟨_, Tryd.underlying140, rfl⟩, by kernel_rfl⟩
instance : Sz Tryd.prog 140 4 := ⟨by kernel_rfl⟩
instance : Zr Tryd.prog 140 [.int .i32 0, .int .i32 0, .int .i32 0, .int .i32 0] := ⟨by kernel_rfl⟩
instance : Sc Tryd.prog 141 := ⟨_, Tryd.underlying141, rfl⟩
instance : Sz Tryd.prog 141 1 := ⟨by kernel_rfl⟩
instance : Zr Tryd.prog 141 [.nilFunc] := ⟨by kernel_rfl⟩
instance : BS Tryd.prog 22 5 [.int .u8 0] := ⟨Tryd.underlying22, by kernel_rfl, by kernel_rfl⟩
instance : BS Tryd.prog 77 81 [.int .u8 0, .bool false, .pointer none] := ⟨Tryd.underlying77, by kernel_rfl, by kernel_rfl⟩
instance : BS Tryd.prog 90 3 [.int .i64 0] := ⟨Tryd.underlying90, by kernel_rfl, by kernel_rfl⟩
instance : BS Tryd.prog 100 46 [.nilIface] := ⟨Tryd.underlying100, by kernel_rfl, by kernel_rfl⟩
instance : BS Tryd.prog 137 140 [.int .i32 0, .int .i32 0, .int .i32 0, .int .i32 0] := ⟨Tryd.underlying137, by kernel_rfl, by kernel_rfl⟩
instance : Bd Tryd.prog 7 [(0, 1), (1, 1), (2, 1), (3, 1)] [.int .i64 0, .int .i64 0, .bool false, .int .u8 0] := ⟨fun _ => by kernel_rfl⟩
instance : FO Tryd.prog 7 0 0 := FO.of (k := 1) Tryd.underlying7 rfl rfl rfl (by kernel_rfl) (by decide)
instance : FV Tryd.prog 7 0 0 1 false := FV.of1 (ft := 2) Tryd.underlying7 rfl rfl rfl inferInstance
instance : FO Tryd.prog 7 1 1 := FO.of (k := 1) Tryd.underlying7 rfl rfl rfl (by kernel_rfl) (by decide)
instance : FV Tryd.prog 7 1 1 1 false := FV.of1 (ft := 3) Tryd.underlying7 rfl rfl rfl inferInstance
instance : FO Tryd.prog 7 2 2 := FO.of (k := 1) Tryd.underlying7 rfl rfl rfl (by kernel_rfl) (by decide)
instance : FV Tryd.prog 7 2 2 1 false := FV.of1 (ft := 4) Tryd.underlying7 rfl rfl rfl inferInstance
instance : FO Tryd.prog 7 3 3 := FO.of (k := 1) Tryd.underlying7 rfl rfl rfl (by kernel_rfl) (by decide)
instance : FV Tryd.prog 7 3 3 1 false := FV.of1 (ft := 6) Tryd.underlying7 rfl rfl rfl inferInstance
instance : Bd Tryd.prog 8 [(0, 1), (1, 1), (2, 1), (3, 1)] [.int .i64 0, .int .i64 0, .bool false, .int .u8 0] := ⟨fun _ => by kernel_rfl⟩
instance : FO Tryd.prog 8 0 0 := FO.of (k := 1) Tryd.underlying8 rfl rfl rfl (by kernel_rfl) (by decide)
instance : FV Tryd.prog 8 0 0 1 false := FV.of1 (ft := 2) Tryd.underlying8 rfl rfl rfl inferInstance
instance : FO Tryd.prog 8 1 1 := FO.of (k := 1) Tryd.underlying8 rfl rfl rfl (by kernel_rfl) (by decide)
instance : FV Tryd.prog 8 1 1 1 false := FV.of1 (ft := 3) Tryd.underlying8 rfl rfl rfl inferInstance
instance : FO Tryd.prog 8 2 2 := FO.of (k := 1) Tryd.underlying8 rfl rfl rfl (by kernel_rfl) (by decide)
instance : FV Tryd.prog 8 2 2 1 false := FV.of1 (ft := 4) Tryd.underlying8 rfl rfl rfl inferInstance
instance : FO Tryd.prog 8 3 3 := FO.of (k := 1) Tryd.underlying8 rfl rfl rfl (by kernel_rfl) (by decide)
instance : FV Tryd.prog 8 3 3 1 false := FV.of1 (ft := 6) Tryd.underlying8 rfl rfl rfl inferInstance
instance : Bd Tryd.prog 13 [(0, 1), (1, 1)] [.string ByteArray.empty, .int .u64 0] := ⟨fun _ => by kernel_rfl⟩
instance : FO Tryd.prog 13 0 0 := FO.of (k := 1) Tryd.underlying13 rfl rfl rfl (by kernel_rfl) (by decide)
instance : FV Tryd.prog 13 0 0 1 false := FV.of1 (ft := 9) Tryd.underlying13 rfl rfl rfl inferInstance
instance : FO Tryd.prog 13 1 1 := FO.of (k := 1) Tryd.underlying13 rfl rfl rfl (by kernel_rfl) (by decide)
instance : FV Tryd.prog 13 1 1 1 false := FV.of1 (ft := 12) Tryd.underlying13 rfl rfl rfl inferInstance
instance : Bd Tryd.prog 14 [(0, 1), (1, 1)] [.string ByteArray.empty, .int .u64 0] := ⟨fun _ => by kernel_rfl⟩
instance : FO Tryd.prog 14 0 0 := FO.of (k := 1) Tryd.underlying14 rfl rfl rfl (by kernel_rfl) (by decide)
instance : FV Tryd.prog 14 0 0 1 false := FV.of1 (ft := 9) Tryd.underlying14 rfl rfl rfl inferInstance
instance : FO Tryd.prog 14 1 1 := FO.of (k := 1) Tryd.underlying14 rfl rfl rfl (by kernel_rfl) (by decide)
instance : FV Tryd.prog 14 1 1 1 false := FV.of1 (ft := 12) Tryd.underlying14 rfl rfl rfl inferInstance
instance : Bd Tryd.prog 18 [(0, 1)] [.pointer none] := ⟨fun _ => by kernel_rfl⟩
instance : FO Tryd.prog 18 0 0 := FO.of (k := 1) Tryd.underlying18 rfl rfl rfl (by kernel_rfl) (by decide)
instance : FV Tryd.prog 18 0 0 1 false := FV.of1 (ft := 17) Tryd.underlying18 rfl rfl rfl inferInstance
instance : Bd Tryd.prog 19 [(0, 1)] [.pointer none] := ⟨fun _ => by kernel_rfl⟩
instance : FO Tryd.prog 19 0 0 := FO.of (k := 1) Tryd.underlying19 rfl rfl rfl (by kernel_rfl) (by decide)
instance : FV Tryd.prog 19 0 0 1 false := FV.of1 (ft := 17) Tryd.underlying19 rfl rfl rfl inferInstance
instance : Bd Tryd.prog 23 [(0, 1), (1, 1), (2, 1)] [.int .i64 0, .int .i64 0, .int .i64 0] := ⟨fun _ => by kernel_rfl⟩
instance : FO Tryd.prog 23 0 0 := FO.of (k := 1) Tryd.underlying23 rfl rfl rfl (by kernel_rfl) (by decide)
instance : FV Tryd.prog 23 0 0 1 false := FV.of1 (ft := 3) Tryd.underlying23 rfl rfl rfl inferInstance
instance : FO Tryd.prog 23 1 1 := FO.of (k := 1) Tryd.underlying23 rfl rfl rfl (by kernel_rfl) (by decide)
instance : FV Tryd.prog 23 1 1 1 false := FV.of1 (ft := 3) Tryd.underlying23 rfl rfl rfl inferInstance
instance : FO Tryd.prog 23 2 2 := FO.of (k := 1) Tryd.underlying23 rfl rfl rfl (by kernel_rfl) (by decide)
instance : FV Tryd.prog 23 2 2 1 false := FV.of1 (ft := 3) Tryd.underlying23 rfl rfl rfl inferInstance
instance : Bd Tryd.prog 24 [(0, 1), (1, 1), (2, 1)] [.int .i64 0, .int .i64 0, .int .i64 0] := ⟨fun _ => by kernel_rfl⟩
instance : FO Tryd.prog 24 0 0 := FO.of (k := 1) Tryd.underlying24 rfl rfl rfl (by kernel_rfl) (by decide)
instance : FV Tryd.prog 24 0 0 1 false := FV.of1 (ft := 3) Tryd.underlying24 rfl rfl rfl inferInstance
instance : FO Tryd.prog 24 1 1 := FO.of (k := 1) Tryd.underlying24 rfl rfl rfl (by kernel_rfl) (by decide)
instance : FV Tryd.prog 24 1 1 1 false := FV.of1 (ft := 3) Tryd.underlying24 rfl rfl rfl inferInstance
instance : FO Tryd.prog 24 2 2 := FO.of (k := 1) Tryd.underlying24 rfl rfl rfl (by kernel_rfl) (by decide)
instance : FV Tryd.prog 24 2 2 1 false := FV.of1 (ft := 3) Tryd.underlying24 rfl rfl rfl inferInstance
instance : Bd Tryd.prog 25 [(0, 1), (1, 1), (2, 1), (3, 1)] [.int .i64 0, .int .i64 0, .int .i64 0, .int .i64 0] := ⟨fun _ => by kernel_rfl⟩
instance : FO Tryd.prog 25 0 0 := FO.of (k := 1) Tryd.underlying25 rfl rfl rfl (by kernel_rfl) (by decide)
instance : FV Tryd.prog 25 0 0 1 false := FV.of1 (ft := 3) Tryd.underlying25 rfl rfl rfl inferInstance
instance : FO Tryd.prog 25 1 1 := FO.of (k := 1) Tryd.underlying25 rfl rfl rfl (by kernel_rfl) (by decide)
instance : FV Tryd.prog 25 1 1 1 false := FV.of1 (ft := 3) Tryd.underlying25 rfl rfl rfl inferInstance
instance : FO Tryd.prog 25 2 2 := FO.of (k := 1) Tryd.underlying25 rfl rfl rfl (by kernel_rfl) (by decide)
instance : FV Tryd.prog 25 2 2 1 false := FV.of1 (ft := 3) Tryd.underlying25 rfl rfl rfl inferInstance
instance : FO Tryd.prog 25 3 3 := FO.of (k := 1) Tryd.underlying25 rfl rfl rfl (by kernel_rfl) (by decide)
instance : FV Tryd.prog 25 3 3 1 false := FV.of1 (ft := 3) Tryd.underlying25 rfl rfl rfl inferInstance
instance : Bd Tryd.prog 26 [(0, 1), (1, 1), (2, 1), (3, 1)] [.int .i64 0, .int .i64 0, .int .i64 0, .int .i64 0] := ⟨fun _ => by kernel_rfl⟩
instance : FO Tryd.prog 26 0 0 := FO.of (k := 1) Tryd.underlying26 rfl rfl rfl (by kernel_rfl) (by decide)
instance : FV Tryd.prog 26 0 0 1 false := FV.of1 (ft := 3) Tryd.underlying26 rfl rfl rfl inferInstance
instance : FO Tryd.prog 26 1 1 := FO.of (k := 1) Tryd.underlying26 rfl rfl rfl (by kernel_rfl) (by decide)
instance : FV Tryd.prog 26 1 1 1 false := FV.of1 (ft := 3) Tryd.underlying26 rfl rfl rfl inferInstance
instance : FO Tryd.prog 26 2 2 := FO.of (k := 1) Tryd.underlying26 rfl rfl rfl (by kernel_rfl) (by decide)
instance : FV Tryd.prog 26 2 2 1 false := FV.of1 (ft := 3) Tryd.underlying26 rfl rfl rfl inferInstance
instance : FO Tryd.prog 26 3 3 := FO.of (k := 1) Tryd.underlying26 rfl rfl rfl (by kernel_rfl) (by decide)
instance : FV Tryd.prog 26 3 3 1 false := FV.of1 (ft := 3) Tryd.underlying26 rfl rfl rfl inferInstance
instance : Bd Tryd.prog 27 [(0, 3), (3, 4), (7, 1)] [.int .i64 0, .int .i64 0, .int .i64 0, .int .i64 0, .int .i64 0, .int .i64 0, .int .i64 0, .int .i64 0] := ⟨fun _ => by kernel_rfl⟩
instance : FO Tryd.prog 27 0 0 := FO.of (k := 3) Tryd.underlying27 rfl rfl rfl (by kernel_rfl) (by decide)
instance : FV Tryd.prog 27 0 0 3 true := FV.ofk (ft := 24) Tryd.underlying27 rfl rfl rfl inferInstance
instance : FO Tryd.prog 27 1 3 := FO.of (k := 4) Tryd.underlying27 rfl rfl rfl (by kernel_rfl) (by decide)
instance : FV Tryd.prog 27 1 3 4 true := FV.ofk (ft := 26) Tryd.underlying27 rfl rfl rfl inferInstance
instance : FO Tryd.prog 27 2 7 := FO.of (k := 1) Tryd.underlying27 rfl rfl rfl (by kernel_rfl) (by decide)
instance : FV Tryd.prog 27 2 7 1 false := FV.of1 (ft := 3) Tryd.underlying27 rfl rfl rfl inferInstance
instance : Bd Tryd.prog 28 [(0, 3), (3, 4), (7, 1)] [.int .i64 0, .int .i64 0, .int .i64 0, .int .i64 0, .int .i64 0, .int .i64 0, .int .i64 0, .int .i64 0] := ⟨fun _ => by kernel_rfl⟩
instance : FO Tryd.prog 28 0 0 := FO.of (k := 3) Tryd.underlying28 rfl rfl rfl (by kernel_rfl) (by decide)
instance : FV Tryd.prog 28 0 0 3 true := FV.ofk (ft := 24) Tryd.underlying28 rfl rfl rfl inferInstance
instance : FO Tryd.prog 28 1 3 := FO.of (k := 4) Tryd.underlying28 rfl rfl rfl (by kernel_rfl) (by decide)
instance : FV Tryd.prog 28 1 3 4 true := FV.ofk (ft := 26) Tryd.underlying28 rfl rfl rfl inferInstance
instance : FO Tryd.prog 28 2 7 := FO.of (k := 1) Tryd.underlying28 rfl rfl rfl (by kernel_rfl) (by decide)
instance : FV Tryd.prog 28 2 7 1 false := FV.of1 (ft := 3) Tryd.underlying28 rfl rfl rfl inferInstance
instance : Bd Tryd.prog 31 [(0, 1), (1, 1), (2, 1), (3, 1), (4, 1), (5, 1)] [.int .i64 0, .int .i64 0, .int .i64 0, .int .i64 0, .int .i64 0, .int .i64 0] := ⟨fun _ => by kernel_rfl⟩
instance : FO Tryd.prog 31 0 0 := FO.of (k := 1) Tryd.underlying31 rfl rfl rfl (by kernel_rfl) (by decide)
instance : FV Tryd.prog 31 0 0 1 false := FV.of1 (ft := 3) Tryd.underlying31 rfl rfl rfl inferInstance
instance : FO Tryd.prog 31 1 1 := FO.of (k := 1) Tryd.underlying31 rfl rfl rfl (by kernel_rfl) (by decide)
instance : FV Tryd.prog 31 1 1 1 false := FV.of1 (ft := 3) Tryd.underlying31 rfl rfl rfl inferInstance
instance : FO Tryd.prog 31 2 2 := FO.of (k := 1) Tryd.underlying31 rfl rfl rfl (by kernel_rfl) (by decide)
instance : FV Tryd.prog 31 2 2 1 false := FV.of1 (ft := 3) Tryd.underlying31 rfl rfl rfl inferInstance
instance : FO Tryd.prog 31 3 3 := FO.of (k := 1) Tryd.underlying31 rfl rfl rfl (by kernel_rfl) (by decide)
instance : FV Tryd.prog 31 3 3 1 false := FV.of1 (ft := 3) Tryd.underlying31 rfl rfl rfl inferInstance
instance : FO Tryd.prog 31 4 4 := FO.of (k := 1) Tryd.underlying31 rfl rfl rfl (by kernel_rfl) (by decide)
instance : FV Tryd.prog 31 4 4 1 false := FV.of1 (ft := 3) Tryd.underlying31 rfl rfl rfl inferInstance
instance : FO Tryd.prog 31 5 5 := FO.of (k := 1) Tryd.underlying31 rfl rfl rfl (by kernel_rfl) (by decide)
instance : FV Tryd.prog 31 5 5 1 false := FV.of1 (ft := 3) Tryd.underlying31 rfl rfl rfl inferInstance
instance : Bd Tryd.prog 32 [(0, 1), (1, 1), (2, 1), (3, 1), (4, 1), (5, 1)] [.int .i64 0, .int .i64 0, .int .i64 0, .int .i64 0, .int .i64 0, .int .i64 0] := ⟨fun _ => by kernel_rfl⟩
instance : FO Tryd.prog 32 0 0 := FO.of (k := 1) Tryd.underlying32 rfl rfl rfl (by kernel_rfl) (by decide)
instance : FV Tryd.prog 32 0 0 1 false := FV.of1 (ft := 3) Tryd.underlying32 rfl rfl rfl inferInstance
instance : FO Tryd.prog 32 1 1 := FO.of (k := 1) Tryd.underlying32 rfl rfl rfl (by kernel_rfl) (by decide)
instance : FV Tryd.prog 32 1 1 1 false := FV.of1 (ft := 3) Tryd.underlying32 rfl rfl rfl inferInstance
instance : FO Tryd.prog 32 2 2 := FO.of (k := 1) Tryd.underlying32 rfl rfl rfl (by kernel_rfl) (by decide)
instance : FV Tryd.prog 32 2 2 1 false := FV.of1 (ft := 3) Tryd.underlying32 rfl rfl rfl inferInstance
instance : FO Tryd.prog 32 3 3 := FO.of (k := 1) Tryd.underlying32 rfl rfl rfl (by kernel_rfl) (by decide)
instance : FV Tryd.prog 32 3 3 1 false := FV.of1 (ft := 3) Tryd.underlying32 rfl rfl rfl inferInstance
instance : FO Tryd.prog 32 4 4 := FO.of (k := 1) Tryd.underlying32 rfl rfl rfl (by kernel_rfl) (by decide)
instance : FV Tryd.prog 32 4 4 1 false := FV.of1 (ft := 3) Tryd.underlying32 rfl rfl rfl inferInstance
instance : FO Tryd.prog 32 5 5 := FO.of (k := 1) Tryd.underlying32 rfl rfl rfl (by kernel_rfl) (by decide)
instance : FV Tryd.prog 32 5 5 1 false := FV.of1 (ft := 3) Tryd.underlying32 rfl rfl rfl inferInstance
instance : Bd Tryd.prog 64 [(0, 1), (1, 1)] [.slice none 0 0, .int .i64 0] := ⟨fun _ => by kernel_rfl⟩
instance : FO Tryd.prog 64 0 0 := FO.of (k := 1) Tryd.underlying64 rfl rfl rfl (by kernel_rfl) (by decide)
instance : FV Tryd.prog 64 0 0 1 false := FV.of1 (ft := 22) Tryd.underlying64 rfl rfl rfl inferInstance
instance : FO Tryd.prog 64 1 1 := FO.of (k := 1) Tryd.underlying64 rfl rfl rfl (by kernel_rfl) (by decide)
instance : FV Tryd.prog 64 1 1 1 false := FV.of1 (ft := 3) Tryd.underlying64 rfl rfl rfl inferInstance
instance : Bd Tryd.prog 65 [(0, 1), (1, 1)] [.slice none 0 0, .int .i64 0] := ⟨fun _ => by kernel_rfl⟩
instance : FO Tryd.prog 65 0 0 := FO.of (k := 1) Tryd.underlying65 rfl rfl rfl (by kernel_rfl) (by decide)
instance : FV Tryd.prog 65 0 0 1 false := FV.of1 (ft := 22) Tryd.underlying65 rfl rfl rfl inferInstance
instance : FO Tryd.prog 65 1 1 := FO.of (k := 1) Tryd.underlying65 rfl rfl rfl (by kernel_rfl) (by decide)
instance : FV Tryd.prog 65 1 1 1 false := FV.of1 (ft := 3) Tryd.underlying65 rfl rfl rfl inferInstance
instance : Bd Tryd.prog 69 [(0, 3), (3, 1), (4, 4), (8, 1)] [.int .i64 0, .int .i64 0, .int .i64 0, .int .i64 0, .int .i64 0, .int .i64 0, .int .i64 0, .int .i64 0, .int .i64 0] := ⟨fun _ => by kernel_rfl⟩
instance : FO Tryd.prog 69 0 0 := FO.of (k := 3) Tryd.underlying69 rfl rfl rfl (by kernel_rfl) (by decide)
instance : FV Tryd.prog 69 0 0 3 true := FV.ofk (ft := 24) Tryd.underlying69 rfl rfl rfl inferInstance
instance : FO Tryd.prog 69 1 3 := FO.of (k := 1) Tryd.underlying69 rfl rfl rfl (by kernel_rfl) (by decide)
instance : FV Tryd.prog 69 1 3 1 false := FV.of1 (ft := 3) Tryd.underlying69 rfl rfl rfl inferInstance
instance : FO Tryd.prog 69 2 4 := FO.of (k := 4) Tryd.underlying69 rfl rfl rfl (by kernel_rfl) (by decide)
instance : FV Tryd.prog 69 2 4 4 true := FV.ofk (ft := 26) Tryd.underlying69 rfl rfl rfl inferInstance
instance : FO Tryd.prog 69 3 8 := FO.of (k := 1) Tryd.underlying69 rfl rfl rfl (by kernel_rfl) (by decide)
instance : FV Tryd.prog 69 3 8 1 false := FV.of1 (ft := 3) Tryd.underlying69 rfl rfl rfl inferInstance
instance : Bd Tryd.prog 70 [(0, 3), (3, 1), (4, 4), (8, 1)] [.int .i64 0, .int .i64 0, .int .i64 0, .int .i64 0, .int .i64 0, .int .i64 0, .int .i64 0, .int .i64 0, .int .i64 0] := ⟨fun _ => by kernel_rfl⟩
instance : FO Tryd.prog 70 0 0 := FO.of (k := 3) Tryd.underlying70 rfl rfl rfl (by kernel_rfl) (by decide)
instance : FV Tryd.prog 70 0 0 3 true := FV.ofk (ft := 24) Tryd.underlying70 rfl rfl rfl inferInstance
instance : FO Tryd.prog 70 1 3 := FO.of (k := 1) Tryd.underlying70 rfl rfl rfl (by kernel_rfl) (by decide)
instance : FV Tryd.prog 70 1 3 1 false := FV.of1 (ft := 3) Tryd.underlying70 rfl rfl rfl inferInstance
instance : FO Tryd.prog 70 2 4 := FO.of (k := 4) Tryd.underlying70 rfl rfl rfl (by kernel_rfl) (by decide)
instance : FV Tryd.prog 70 2 4 4 true := FV.ofk (ft := 26) Tryd.underlying70 rfl rfl rfl inferInstance
instance : FO Tryd.prog 70 3 8 := FO.of (k := 1) Tryd.underlying70 rfl rfl rfl (by kernel_rfl) (by decide)
instance : FV Tryd.prog 70 3 8 1 false := FV.of1 (ft := 3) Tryd.underlying70 rfl rfl rfl inferInstance
instance : Bd Tryd.prog 80 [(0, 1), (1, 1), (2, 1)] [.int .u8 0, .bool false, .pointer none] := ⟨fun _ => by kernel_rfl⟩
instance : FO Tryd.prog 80 0 0 := FO.of (k := 1) Tryd.underlying80 rfl rfl rfl (by kernel_rfl) (by decide)
instance : FV Tryd.prog 80 0 0 1 false := FV.of1 (ft := 5) Tryd.underlying80 rfl rfl rfl inferInstance
instance : FO Tryd.prog 80 1 1 := FO.of (k := 1) Tryd.underlying80 rfl rfl rfl (by kernel_rfl) (by decide)
instance : FV Tryd.prog 80 1 1 1 false := FV.of1 (ft := 4) Tryd.underlying80 rfl rfl rfl inferInstance
instance : FO Tryd.prog 80 2 2 := FO.of (k := 1) Tryd.underlying80 rfl rfl rfl (by kernel_rfl) (by decide)
instance : FV Tryd.prog 80 2 2 1 false := FV.of1 (ft := 79) Tryd.underlying80 rfl rfl rfl inferInstance
instance : Bd Tryd.prog 81 [(0, 1), (1, 1), (2, 1)] [.int .u8 0, .bool false, .pointer none] := ⟨fun _ => by kernel_rfl⟩
instance : FO Tryd.prog 81 0 0 := FO.of (k := 1) Tryd.underlying81 rfl rfl rfl (by kernel_rfl) (by decide)
instance : FV Tryd.prog 81 0 0 1 false := FV.of1 (ft := 5) Tryd.underlying81 rfl rfl rfl inferInstance
instance : FO Tryd.prog 81 1 1 := FO.of (k := 1) Tryd.underlying81 rfl rfl rfl (by kernel_rfl) (by decide)
instance : FV Tryd.prog 81 1 1 1 false := FV.of1 (ft := 4) Tryd.underlying81 rfl rfl rfl inferInstance
instance : FO Tryd.prog 81 2 2 := FO.of (k := 1) Tryd.underlying81 rfl rfl rfl (by kernel_rfl) (by decide)
instance : FV Tryd.prog 81 2 2 1 false := FV.of1 (ft := 79) Tryd.underlying81 rfl rfl rfl inferInstance
instance : Bd Tryd.prog 91 [(0, 1)] [.pointer none] := ⟨fun _ => by kernel_rfl⟩
instance : FO Tryd.prog 91 0 0 := FO.of (k := 1) Tryd.underlying91 rfl rfl rfl (by kernel_rfl) (by decide)
instance : FV Tryd.prog 91 0 0 1 false := FV.of1 (ft := 17) Tryd.underlying91 rfl rfl rfl inferInstance
instance : Bd Tryd.prog 92 [(0, 1)] [.pointer none] := ⟨fun _ => by kernel_rfl⟩
instance : FO Tryd.prog 92 0 0 := FO.of (k := 1) Tryd.underlying92 rfl rfl rfl (by kernel_rfl) (by decide)
instance : FV Tryd.prog 92 0 0 1 false := FV.of1 (ft := 17) Tryd.underlying92 rfl rfl rfl inferInstance
instance : ArT Tryd.prog 104 12 1 := ⟨_, Tryd.underlying104, by kernel_rfl⟩
instance : Bd Tryd.prog 107 [(0, 1), (1, 1), (2, 1), (3, 1)] [.pointer none, .pointer none, .pointer none, .string ByteArray.empty] := ⟨fun _ => by kernel_rfl⟩
instance : FO Tryd.prog 107 0 0 := FO.of (k := 1) Tryd.underlying107 rfl rfl rfl (by kernel_rfl) (by decide)
instance : FV Tryd.prog 107 0 0 1 false := FV.of1 (ft := 17) Tryd.underlying107 rfl rfl rfl inferInstance
instance : FO Tryd.prog 107 1 1 := FO.of (k := 1) Tryd.underlying107 rfl rfl rfl (by kernel_rfl) (by decide)
instance : FV Tryd.prog 107 1 1 1 false := FV.of1 (ft := 17) Tryd.underlying107 rfl rfl rfl inferInstance
instance : FO Tryd.prog 107 2 2 := FO.of (k := 1) Tryd.underlying107 rfl rfl rfl (by kernel_rfl) (by decide)
instance : FV Tryd.prog 107 2 2 1 false := FV.of1 (ft := 17) Tryd.underlying107 rfl rfl rfl inferInstance
instance : FO Tryd.prog 107 3 3 := FO.of (k := 1) Tryd.underlying107 rfl rfl rfl (by kernel_rfl) (by decide)
instance : FV Tryd.prog 107 3 3 1 false := FV.of1 (ft := 9) Tryd.underlying107 rfl rfl rfl inferInstance
instance : Bd Tryd.prog 108 [(0, 1), (1, 1), (2, 1), (3, 1)] [.pointer none, .pointer none, .pointer none, .string ByteArray.empty] := ⟨fun _ => by kernel_rfl⟩
instance : FO Tryd.prog 108 0 0 := FO.of (k := 1) Tryd.underlying108 rfl rfl rfl (by kernel_rfl) (by decide)
instance : FV Tryd.prog 108 0 0 1 false := FV.of1 (ft := 17) Tryd.underlying108 rfl rfl rfl inferInstance
instance : FO Tryd.prog 108 1 1 := FO.of (k := 1) Tryd.underlying108 rfl rfl rfl (by kernel_rfl) (by decide)
instance : FV Tryd.prog 108 1 1 1 false := FV.of1 (ft := 17) Tryd.underlying108 rfl rfl rfl inferInstance
instance : FO Tryd.prog 108 2 2 := FO.of (k := 1) Tryd.underlying108 rfl rfl rfl (by kernel_rfl) (by decide)
instance : FV Tryd.prog 108 2 2 1 false := FV.of1 (ft := 17) Tryd.underlying108 rfl rfl rfl inferInstance
instance : FO Tryd.prog 108 3 3 := FO.of (k := 1) Tryd.underlying108 rfl rfl rfl (by kernel_rfl) (by decide)
instance : FV Tryd.prog 108 3 3 1 false := FV.of1 (ft := 9) Tryd.underlying108 rfl rfl rfl inferInstance
instance : ArT Tryd.prog 109 0 1 := ⟨_, Tryd.underlying109, by kernel_rfl⟩
instance : Bd Tryd.prog 110 [(0, 0)] [] := ⟨fun _ => by kernel_rfl⟩
instance : Bd Tryd.prog 111 [(0, 0)] [] := ⟨fun _ => by kernel_rfl⟩
instance : Bd Tryd.prog 119 [(0, 1), (1, 1), (2, 1), (3, 1), (4, 1), (5, 1), (6, 1), (7, 1), (8, 1), (9, 1), (10, 1)] [.int .u64 0, .int .u64 0, .int .u32 0, .int .u8 0, .int .u8 0, .int .u8 0, .int .u8 0, .nilFunc, .pointer none, .int .i32 0, .int .i32 0] := ⟨fun _ => by kernel_rfl⟩
instance : FO Tryd.prog 119 0 0 := FO.of (k := 1) Tryd.underlying119 rfl rfl rfl (by kernel_rfl) (by decide)
instance : FV Tryd.prog 119 0 0 1 false := FV.of1 (ft := 12) Tryd.underlying119 rfl rfl rfl inferInstance
instance : FO Tryd.prog 119 1 1 := FO.of (k := 1) Tryd.underlying119 rfl rfl rfl (by kernel_rfl) (by decide)
instance : FV Tryd.prog 119 1 1 1 false := FV.of1 (ft := 12) Tryd.underlying119 rfl rfl rfl inferInstance
instance : FO Tryd.prog 119 2 2 := FO.of (k := 1) Tryd.underlying119 rfl rfl rfl (by kernel_rfl) (by decide)
instance : FV Tryd.prog 119 2 2 1 false := FV.of1 (ft := 112) Tryd.underlying119 rfl rfl rfl inferInstance
instance : FO Tryd.prog 119 3 3 := FO.of (k := 1) Tryd.underlying119 rfl rfl rfl (by kernel_rfl) (by decide)
instance : FV Tryd.prog 119 3 3 1 false := FV.of1 (ft := 113) Tryd.underlying119 rfl rfl rfl inferInstance
instance : FO Tryd.prog 119 4 4 := FO.of (k := 1) Tryd.underlying119 rfl rfl rfl (by kernel_rfl) (by decide)
instance : FV Tryd.prog 119 4 4 1 false := FV.of1 (ft := 5) Tryd.underlying119 rfl rfl rfl inferInstance
instance : FO Tryd.prog 119 5 5 := FO.of (k := 1) Tryd.underlying119 rfl rfl rfl (by kernel_rfl) (by decide)
instance : FV Tryd.prog 119 5 5 1 false := FV.of1 (ft := 5) Tryd.underlying119 rfl rfl rfl inferInstance
instance : FO Tryd.prog 119 6 6 := FO.of (k := 1) Tryd.underlying119 rfl rfl rfl (by kernel_rfl) (by decide)
instance : FV Tryd.prog 119 6 6 1 false := FV.of1 (ft := 114) Tryd.underlying119 rfl rfl rfl inferInstance
instance : FO Tryd.prog 119 7 7 := FO.of (k := 1) Tryd.underlying119 rfl rfl rfl (by kernel_rfl) (by decide)
instance : FV Tryd.prog 119 7 7 1 false := FV.of1 (ft := 115) Tryd.underlying119 rfl rfl rfl inferInstance
instance : FO Tryd.prog 119 8 8 := FO.of (k := 1) Tryd.underlying119 rfl rfl rfl (by kernel_rfl) (by decide)
instance : FV Tryd.prog 119 8 8 1 false := FV.of1 (ft := 116) Tryd.underlying119 rfl rfl rfl inferInstance
instance : FO Tryd.prog 119 9 9 := FO.of (k := 1) Tryd.underlying119 rfl rfl rfl (by kernel_rfl) (by decide)
instance : FV Tryd.prog 119 9 9 1 false := FV.of1 (ft := 117) Tryd.underlying119 rfl rfl rfl inferInstance
instance : FO Tryd.prog 119 10 10 := FO.of (k := 1) Tryd.underlying119 rfl rfl rfl (by kernel_rfl) (by decide)
instance : FV Tryd.prog 119 10 10 1 false := FV.of1 (ft := 118) Tryd.underlying119 rfl rfl rfl inferInstance
instance : Bd Tryd.prog 120 [(0, 1), (1, 1), (2, 1), (3, 1), (4, 1), (5, 1), (6, 1), (7, 1), (8, 1), (9, 1), (10, 1)] [.int .u64 0, .int .u64 0, .int .u32 0, .int .u8 0, .int .u8 0, .int .u8 0, .int .u8 0, .nilFunc, .pointer none, .int .i32 0, .int .i32 0] := ⟨fun _ => by kernel_rfl⟩
instance : FO Tryd.prog 120 0 0 := FO.of (k := 1) Tryd.underlying120 rfl rfl rfl (by kernel_rfl) (by decide)
instance : FV Tryd.prog 120 0 0 1 false := FV.of1 (ft := 12) Tryd.underlying120 rfl rfl rfl inferInstance
instance : FO Tryd.prog 120 1 1 := FO.of (k := 1) Tryd.underlying120 rfl rfl rfl (by kernel_rfl) (by decide)
instance : FV Tryd.prog 120 1 1 1 false := FV.of1 (ft := 12) Tryd.underlying120 rfl rfl rfl inferInstance
instance : FO Tryd.prog 120 2 2 := FO.of (k := 1) Tryd.underlying120 rfl rfl rfl (by kernel_rfl) (by decide)
instance : FV Tryd.prog 120 2 2 1 false := FV.of1 (ft := 112) Tryd.underlying120 rfl rfl rfl inferInstance
instance : FO Tryd.prog 120 3 3 := FO.of (k := 1) Tryd.underlying120 rfl rfl rfl (by kernel_rfl) (by decide)
instance : FV Tryd.prog 120 3 3 1 false := FV.of1 (ft := 113) Tryd.underlying120 rfl rfl rfl inferInstance
instance : FO Tryd.prog 120 4 4 := FO.of (k := 1) Tryd.underlying120 rfl rfl rfl (by kernel_rfl) (by decide)
instance : FV Tryd.prog 120 4 4 1 false := FV.of1 (ft := 5) Tryd.underlying120 rfl rfl rfl inferInstance
instance : FO Tryd.prog 120 5 5 := FO.of (k := 1) Tryd.underlying120 rfl rfl rfl (by kernel_rfl) (by decide)
instance : FV Tryd.prog 120 5 5 1 false := FV.of1 (ft := 5) Tryd.underlying120 rfl rfl rfl inferInstance
instance : FO Tryd.prog 120 6 6 := FO.of (k := 1) Tryd.underlying120 rfl rfl rfl (by kernel_rfl) (by decide)
instance : FV Tryd.prog 120 6 6 1 false := FV.of1 (ft := 114) Tryd.underlying120 rfl rfl rfl inferInstance
instance : FO Tryd.prog 120 7 7 := FO.of (k := 1) Tryd.underlying120 rfl rfl rfl (by kernel_rfl) (by decide)
instance : FV Tryd.prog 120 7 7 1 false := FV.of1 (ft := 115) Tryd.underlying120 rfl rfl rfl inferInstance
instance : FO Tryd.prog 120 8 8 := FO.of (k := 1) Tryd.underlying120 rfl rfl rfl (by kernel_rfl) (by decide)
instance : FV Tryd.prog 120 8 8 1 false := FV.of1 (ft := 116) Tryd.underlying120 rfl rfl rfl inferInstance
instance : FO Tryd.prog 120 9 9 := FO.of (k := 1) Tryd.underlying120 rfl rfl rfl (by kernel_rfl) (by decide)
instance : FV Tryd.prog 120 9 9 1 false := FV.of1 (ft := 117) Tryd.underlying120 rfl rfl rfl inferInstance
instance : FO Tryd.prog 120 10 10 := FO.of (k := 1) Tryd.underlying120 rfl rfl rfl (by kernel_rfl) (by decide)
instance : FV Tryd.prog 120 10 10 1 false := FV.of1 (ft := 118) Tryd.underlying120 rfl rfl rfl inferInstance
instance : Bd Tryd.prog 127 [(0, 1), (1, 1)] [.string ByteArray.empty, .int .u8 0] := ⟨fun _ => by kernel_rfl⟩
instance : FO Tryd.prog 127 0 0 := FO.of (k := 1) Tryd.underlying127 rfl rfl rfl (by kernel_rfl) (by decide)
instance : FV Tryd.prog 127 0 0 1 false := FV.of1 (ft := 9) Tryd.underlying127 rfl rfl rfl inferInstance
instance : FO Tryd.prog 127 1 1 := FO.of (k := 1) Tryd.underlying127 rfl rfl rfl (by kernel_rfl) (by decide)
instance : FV Tryd.prog 127 1 1 1 false := FV.of1 (ft := 114) Tryd.underlying127 rfl rfl rfl inferInstance
instance : Bd Tryd.prog 128 [(0, 1), (1, 1)] [.string ByteArray.empty, .int .u8 0] := ⟨fun _ => by kernel_rfl⟩
instance : FO Tryd.prog 128 0 0 := FO.of (k := 1) Tryd.underlying128 rfl rfl rfl (by kernel_rfl) (by decide)
instance : FV Tryd.prog 128 0 0 1 false := FV.of1 (ft := 9) Tryd.underlying128 rfl rfl rfl inferInstance
instance : FO Tryd.prog 128 1 1 := FO.of (k := 1) Tryd.underlying128 rfl rfl rfl (by kernel_rfl) (by decide)
instance : FV Tryd.prog 128 1 1 1 false := FV.of1 (ft := 114) Tryd.underlying128 rfl rfl rfl inferInstance
instance : Bd Tryd.prog 129 [(0, 1)] [.string ByteArray.empty] := ⟨fun _ => by kernel_rfl⟩
instance : FO Tryd.prog 129 0 0 := FO.of (k := 1) Tryd.underlying129 rfl rfl rfl (by kernel_rfl) (by decide)
instance : FV Tryd.prog 129 0 0 1 false := FV.of1 (ft := 9) Tryd.underlying129 rfl rfl rfl inferInstance
instance : Bd Tryd.prog 130 [(0, 1)] [.string ByteArray.empty] := ⟨fun _ => by kernel_rfl⟩
instance : FO Tryd.prog 130 0 0 := FO.of (k := 1) Tryd.underlying130 rfl rfl rfl (by kernel_rfl) (by decide)
instance : FV Tryd.prog 130 0 0 1 false := FV.of1 (ft := 9) Tryd.underlying130 rfl rfl rfl inferInstance
instance : Bd Tryd.prog 135 [(0, 1), (1, 1), (2, 1), (3, 1), (4, 1)] [.int .i32 0, .int .u16 0, .int .u16 0, .int .u32 0, .int .u32 0] := ⟨fun _ => by kernel_rfl⟩
instance : FO Tryd.prog 135 0 0 := FO.of (k := 1) Tryd.underlying135 rfl rfl rfl (by kernel_rfl) (by decide)
instance : FV Tryd.prog 135 0 0 1 false := FV.of1 (ft := 117) Tryd.underlying135 rfl rfl rfl inferInstance
instance : FO Tryd.prog 135 1 1 := FO.of (k := 1) Tryd.underlying135 rfl rfl rfl (by kernel_rfl) (by decide)
instance : FV Tryd.prog 135 1 1 1 false := FV.of1 (ft := 134) Tryd.underlying135 rfl rfl rfl inferInstance
instance : FO Tryd.prog 135 2 2 := FO.of (k := 1) Tryd.underlying135 rfl rfl rfl (by kernel_rfl) (by decide)
instance : FV Tryd.prog 135 2 2 1 false := FV.of1 (ft := 134) Tryd.underlying135 rfl rfl rfl inferInstance
instance : FO Tryd.prog 135 3 3 := FO.of (k := 1) Tryd.underlying135 rfl rfl rfl (by kernel_rfl) (by decide)
instance : FV Tryd.prog 135 3 3 1 false := FV.of1 (ft := 112) Tryd.underlying135 rfl rfl rfl inferInstance
instance : FO Tryd.prog 135 4 4 := FO.of (k := 1) Tryd.underlying135 rfl rfl rfl (by kernel_rfl) (by decide)
instance : FV Tryd.prog 135 4 4 1 false := FV.of1 (ft := 112) Tryd.underlying135 rfl rfl rfl inferInstance
instance : Bd Tryd.prog 136 [(0, 1), (1, 1), (2, 1), (3, 1), (4, 1)] [.int .i32 0, .int .u16 0, .int .u16 0, .int .u32 0, .int .u32 0] := ⟨fun _ => by kernel_rfl⟩
instance : FO Tryd.prog 136 0 0 := FO.of (k := 1) Tryd.underlying136 rfl rfl rfl (by kernel_rfl) (by decide)
instance : FV Tryd.prog 136 0 0 1 false := FV.of1 (ft := 117) Tryd.underlying136 rfl rfl rfl inferInstance
instance : FO Tryd.prog 136 1 1 := FO.of (k := 1) Tryd.underlying136 rfl rfl rfl (by kernel_rfl) (by decide)
instance : FV Tryd.prog 136 1 1 1 false := FV.of1 (ft := 134) Tryd.underlying136 rfl rfl rfl inferInstance
instance : FO Tryd.prog 136 2 2 := FO.of (k := 1) Tryd.underlying136 rfl rfl rfl (by kernel_rfl) (by decide)
instance : FV Tryd.prog 136 2 2 1 false := FV.of1 (ft := 134) Tryd.underlying136 rfl rfl rfl inferInstance
instance : FO Tryd.prog 136 3 3 := FO.of (k := 1) Tryd.underlying136 rfl rfl rfl (by kernel_rfl) (by decide)
instance : FV Tryd.prog 136 3 3 1 false := FV.of1 (ft := 112) Tryd.underlying136 rfl rfl rfl inferInstance
instance : FO Tryd.prog 136 4 4 := FO.of (k := 1) Tryd.underlying136 rfl rfl rfl (by kernel_rfl) (by decide)
instance : FV Tryd.prog 136 4 4 1 false := FV.of1 (ft := 112) Tryd.underlying136 rfl rfl rfl inferInstance
instance : Bd Tryd.prog 139 [(0, 1), (1, 1), (2, 1), (3, 1)] [.int .i32 0, .int .i32 0, .int .i32 0, .int .i32 0] := ⟨fun _ => by kernel_rfl⟩
instance : FO Tryd.prog 139 0 0 := FO.of (k := 1) Tryd.underlying139 rfl rfl rfl (by kernel_rfl) (by decide)
instance : FV Tryd.prog 139 0 0 1 false := FV.of1 (ft := 117) Tryd.underlying139 rfl rfl rfl inferInstance
instance : FO Tryd.prog 139 1 1 := FO.of (k := 1) Tryd.underlying139 rfl rfl rfl (by kernel_rfl) (by decide)
instance : FV Tryd.prog 139 1 1 1 false := FV.of1 (ft := 118) Tryd.underlying139 rfl rfl rfl inferInstance
instance : FO Tryd.prog 139 2 2 := FO.of (k := 1) Tryd.underlying139 rfl rfl rfl (by kernel_rfl) (by decide)
instance : FV Tryd.prog 139 2 2 1 false := FV.of1 (ft := 138) Tryd.underlying139 rfl rfl rfl inferInstance
instance : FO Tryd.prog 139 3 3 := FO.of (k := 1) Tryd.underlying139 rfl rfl rfl (by kernel_rfl) (by decide)
instance : FV Tryd.prog 139 3 3 1 false := FV.of1 (ft := 138) Tryd.underlying139 rfl rfl rfl inferInstance
instance : Bd Tryd.prog 140 [(0, 1), (1, 1), (2, 1), (3, 1)] [.int .i32 0, .int .i32 0, .int .i32 0, .int .i32 0] := ⟨fun _ => by kernel_rfl⟩
instance : FO Tryd.prog 140 0 0 := FO.of (k := 1) Tryd.underlying140 rfl rfl rfl (by kernel_rfl) (by decide)
instance : FV Tryd.prog 140 0 0 1 false := FV.of1 (ft := 117) Tryd.underlying140 rfl rfl rfl inferInstance
instance : FO Tryd.prog 140 1 1 := FO.of (k := 1) Tryd.underlying140 rfl rfl rfl (by kernel_rfl) (by decide)
instance : FV Tryd.prog 140 1 1 1 false := FV.of1 (ft := 118) Tryd.underlying140 rfl rfl rfl inferInstance
instance : FO Tryd.prog 140 2 2 := FO.of (k := 1) Tryd.underlying140 rfl rfl rfl (by kernel_rfl) (by decide)
instance : FV Tryd.prog 140 2 2 1 false := FV.of1 (ft := 138) Tryd.underlying140 rfl rfl rfl inferInstance
instance : FO Tryd.prog 140 3 3 := FO.of (k := 1) Tryd.underlying140 rfl rfl rfl (by kernel_rfl) (by decide)
instance : FV Tryd.prog 140 3 3 1 false := FV.of1 (ft := 138) Tryd.underlying140 rfl rfl rfl inferInstance
instance : Ent Tryd.prog 2 := .of Tryd.func2 (by kernel_rfl) rfl
instance : Ent Tryd.prog 3 := .of Tryd.func3 (by kernel_rfl) rfl
instance : Ent Tryd.prog 4 := .of Tryd.func4 (by kernel_rfl) rfl
instance : Ent Tryd.prog 5 := .of Tryd.func5 (by kernel_rfl) rfl
instance : Ent Tryd.prog 6 := .of Tryd.func6 (by kernel_rfl) rfl
instance : Ent Tryd.prog 7 := .of Tryd.func7 (by kernel_rfl) rfl
instance : Ent Tryd.prog 8 := .of Tryd.func8 (by kernel_rfl) rfl
instance : Ent Tryd.prog 9 := .of Tryd.func9 (by kernel_rfl) rfl
instance : Ent Tryd.prog 10 := .of Tryd.func10 (by kernel_rfl) rfl
instance : Ent Tryd.prog 11 := .of Tryd.func11 (by kernel_rfl) rfl
instance : Ent Tryd.prog 12 := .of Tryd.func12 (by kernel_rfl) rfl
instance : Ent Tryd.prog 13 := .of Tryd.func13 (by kernel_rfl) rfl
instance : Ent Tryd.prog 14 := .of Tryd.func14 (by kernel_rfl) rfl
instance : Ent Tryd.prog 15 := .of Tryd.func15 (by kernel_rfl) rfl
instance : Ent Tryd.prog 16 := .of Tryd.func16 (by kernel_rfl) rfl
instance : Ent Tryd.prog 17 := .of Tryd.func17 (by kernel_rfl) rfl
instance : Ent Tryd.prog 18 := .of Tryd.func18 (by kernel_rfl) rfl
instance : Ent Tryd.prog 19 := .of Tryd.func19 (by kernel_rfl) rfl
instance : Ent Tryd.prog 20 := .of Tryd.func20 (by kernel_rfl) rfl
instance : Ent Tryd.prog 21 := .of Tryd.func21 (by kernel_rfl) rfl
instance : Ent Tryd.prog 22 := .of Tryd.func22 (by kernel_rfl) rfl
instance : Ent Tryd.prog 23 := .of Tryd.func23 (by kernel_rfl) rfl
instance : Ent Tryd.prog 24 := .of Tryd.func24 (by kernel_rfl) rfl
instance : Ent Tryd.prog 25 := .of Tryd.func25 (by kernel_rfl) rfl
instance : Ent Tryd.prog 26 := .of Tryd.func26 (by kernel_rfl) rfl
instance : Ent Tryd.prog 27 := .of Tryd.func27 (by kernel_rfl) rfl
instance : Ent Tryd.prog 28 := .of Tryd.func28 (by kernel_rfl) rfl
instance : Ent Tryd.prog 29 := .of Tryd.func29 (by kernel_rfl) rfl
instance : Ent Tryd.prog 30 := .of Tryd.func30 (by kernel_rfl) rfl
instance : Ent Tryd.prog 31 := .of Tryd.func31 (by kernel_rfl) rfl
instance : Ent Tryd.prog 32 := .of Tryd.func32 (by kernel_rfl) rfl
instance : Ent Tryd.prog 33 := .of Tryd.func33 (by kernel_rfl) rfl
instance : Ent Tryd.prog 34 := .of Tryd.func34 (by kernel_rfl) rfl
instance : Ent Tryd.prog 36 := .of Tryd.func36 (by kernel_rfl) rfl
instance : Ent Tryd.prog 37 := .of Tryd.func37 (by kernel_rfl) rfl
instance : Ent Tryd.prog 38 := .of Tryd.func38 (by kernel_rfl) rfl
instance : Ent Tryd.prog 39 := .of Tryd.func39 (by kernel_rfl) rfl
instance : Ent Tryd.prog 40 := .of Tryd.func40 (by kernel_rfl) rfl
instance : Ent Tryd.prog 41 := .of Tryd.func41 (by kernel_rfl) rfl
instance : Ent Tryd.prog 42 := .of Tryd.func42 (by kernel_rfl) rfl
instance : Ent Tryd.prog 43 := .of Tryd.func43 (by kernel_rfl) rfl
instance : Ent Tryd.prog 44 := .of Tryd.func44 (by kernel_rfl) rfl
instance : Ent Tryd.prog 45 := .of Tryd.func45 (by kernel_rfl) rfl
instance : Ent Tryd.prog 46 := .of Tryd.func46 (by kernel_rfl) rfl
instance : Ent Tryd.prog 47 := .of Tryd.func47 (by kernel_rfl) rfl
instance : Ent Tryd.prog 48 := .of Tryd.func48 (by kernel_rfl) rfl
instance : Ent Tryd.prog 49 := .of Tryd.func49 (by kernel_rfl) rfl
instance : Ent Tryd.prog 50 := .of Tryd.func50 (by kernel_rfl) rfl
instance : Ent Tryd.prog 51 := .of Tryd.func51 (by kernel_rfl) rfl
instance : Ent Tryd.prog 52 := .of Tryd.func52 (by kernel_rfl) rfl
instance : Ent Tryd.prog 53 := .of Tryd.func53 (by kernel_rfl) rfl
instance : Ent Tryd.prog 54 := .of Tryd.func54 (by kernel_rfl) rfl
instance : Ent Tryd.prog 55 := .of Tryd.func55 (by kernel_rfl) rfl
instance : Ent Tryd.prog 56 := .of Tryd.func56 (by kernel_rfl) rfl
instance : Ent Tryd.prog 57 := .of Tryd.func57 (by kernel_rfl) rfl
instance : Ent Tryd.prog 58 := .of Tryd.func58 (by kernel_rfl) rfl
instance : Ent Tryd.prog 59 := .of Tryd.func59 (by kernel_rfl) rfl
instance : Ent Tryd.prog 60 := .of Tryd.func60 (by kernel_rfl) rfl
instance : Ent Tryd.prog 61 := .of Tryd.func61 (by kernel_rfl) rfl
instance : Ent Tryd.prog 62 := .of Tryd.func62 (by kernel_rfl) rfl
instance : Ent Tryd.prog 63 := .of Tryd.func63 (by kernel_rfl) rfl
instance : Ent Tryd.prog 64 := .of Tryd.func64 (by kernel_rfl) rfl
instance : Ent Tryd.prog 65 := .of Tryd.func65 (by kernel_rfl) rfl
instance : Ent Tryd.prog 66 := .of Tryd.func66 (by kernel_rfl) rfl
instance : Ent Tryd.prog 67 := .of Tryd.func67 (by kernel_rfl) rfl
instance : Ent Tryd.prog 68 := .of Tryd.func68 (by kernel_rfl) rfl
instance : Ent Tryd.prog 69 := .of Tryd.func69 (by kernel_rfl) rfl
instance : Ent Tryd.prog 70 := .of Tryd.func70 (by kernel_rfl) rfl
instance : Ent Tryd.prog 71 := .of Tryd.func71 (by kernel_rfl) rfl
instance : Ent Tryd.prog 72 := .of Tryd.func72 (by kernel_rfl) rfl
instance : Ent Tryd.prog 73 := .of Tryd.func73 (by kernel_rfl) rfl
instance : Ent Tryd.prog 74 := .of Tryd.func74 (by kernel_rfl) rfl
instance : Ent Tryd.prog 105 := .of Tryd.func105 (by kernel_rfl) rfl
instance : Ent Tryd.prog 110 := .of Tryd.func110 (by kernel_rfl) rfl

end D
end Go.Proofs.YtpodhahlbdlgeaaDoor
