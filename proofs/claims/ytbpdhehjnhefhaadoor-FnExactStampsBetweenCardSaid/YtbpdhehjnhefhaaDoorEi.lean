/- The engine, part 7: what the program's types and functions are (closed facts). -/
import Derived.Test.YtbpdhehjnhefhaaDoorEg
import Derived.Test.YtbpdhehjnhefhaaDoorProg
namespace Go.Proofs.YtbpdhehjnhefhaaDoor
set_option linter.unusedVariables false
set_option linter.unusedSimpArgs false
namespace D
open Go.RowKit

variable {P : Program}
theorem fieldPlace_run {fd : Field} {k : Nat} (hz : (P.info? fd.type).map (·.size) = some k) (hk : k ≠ 0) (b o : Nat) (w : World) : (fieldPlace ⟨b, o, none⟩ fd).run P w = .ok ⟨b, o + fd.offset, none⟩ w := by
  simp [fieldPlace, run_sizeOf hz, hk, add_plain]
theorem FO.of {s f off ft : Nat} {fs : Array Field} {fd : Field} {k : Nat} (hu : P.underlying s = some (.struct fs)) (hf : fs[f]? = some fd) (ho : fd.offset = off) (ht : fd.type = ft) (hz : (P.info? ft).map (·.size) = some k) (hk : k ≠ 0) : FO P s f off := by
  subst ho; subst ht
  exact ⟨fun b o w => by simp [Instr.fieldAt, run_underlying hu, hf, Instr.sureAddr, fieldPlace_run hz hk]⟩
theorem FV.of1 {s f off ft : Nat} {fs : Array Field} {fd : Field} (hu : P.underlying s = some (.struct fs)) (hf : fs[f]? = some fd) (ho : fd.offset = off) (ht : fd.type = ft) (i : Sc P ft) : FV P s f off 1 false := by
  subst ho; subst ht
  exact ⟨fun us w => by
    simp only [Instr.field, Sem.run_bind, run_underlying hu, Result.andThen_ok, hf, part, asAgg, run_isAgg_sc, Sem.run_pure]
    simp
    cases us[fd.offset]? <;> rfl⟩
theorem FV.ofk {s f off ft : Nat} {fs : Array Field} {fd : Field} {k : Nat} (hu : P.underlying s = some (.struct fs)) (hf : fs[f]? = some fd) (ho : fd.offset = off) (ht : fd.type = ft) (i : Ag P ft k) : FV P s f off k true := by
  subst ho; subst ht
  exact ⟨fun us w => by
    simp only [Instr.field, Sem.run_bind, run_underlying hu, Result.andThen_ok, hf, part, asAgg, run_isAgg_ag, Sem.run_pure, run_sizeOf i.sz]
    simp [run_sizeOf i.sz]⟩

instance : Sc Tryd.prog 1 := ⟨_, Tryd.underlying1, rfl⟩
instance : Sz Tryd.prog 1 1 := ⟨by kernel_rfl⟩
instance : Zr Tryd.prog 1 [.nilFunc] := ⟨by kernel_rfl⟩
instance : Sc Tryd.prog 2 := ⟨_, Tryd.underlying2, rfl⟩
instance : Sz Tryd.prog 2 1 := ⟨by kernel_rfl⟩
instance : Zr Tryd.prog 2 [.int .i64 0] := ⟨by kernel_rfl⟩
instance : Sc Tryd.prog 3 := ⟨_, Tryd.underlying3, rfl⟩
instance : Sz Tryd.prog 3 1 := ⟨by kernel_rfl⟩
instance : Zr Tryd.prog 3 [.int .i64 0] := ⟨by kernel_rfl⟩
instance : Sc Tryd.prog 4 := ⟨_, Tryd.underlying4, rfl⟩
instance : Sz Tryd.prog 4 1 := ⟨by kernel_rfl⟩
instance : Zr Tryd.prog 4 [.bool false] := ⟨by kernel_rfl⟩
instance : BoT Tryd.prog 4 := ⟨Tryd.underlying4⟩
instance : Sc Tryd.prog 5 := ⟨_, Tryd.underlying5, rfl⟩
instance : Sz Tryd.prog 5 1 := ⟨by kernel_rfl⟩
instance : Zr Tryd.prog 5 [.int .u8 0] := ⟨by kernel_rfl⟩
instance : Sc Tryd.prog 6 := ⟨_, Tryd.underlying6, rfl⟩
instance : Sz Tryd.prog 6 1 := ⟨by kernel_rfl⟩
instance : Zr Tryd.prog 6 [.int .u8 0] := ⟨by kernel_rfl⟩
instance : Ag Tryd.prog 7 4 := ⟨⟨_, Tryd.underlying7, rfl⟩, by kernel_rfl⟩
instance : Sz Tryd.prog 7 4 := ⟨by kernel_rfl⟩
instance : Zr Tryd.prog 7 [.int .i64 0, .int .i64 0, .bool false, .int .u8 0] := ⟨by kernel_rfl⟩
instance : Ag Tryd.prog 8 4 := ⟨⟨_, Tryd.underlying8, rfl⟩, by kernel_rfl⟩
instance : Sz Tryd.prog 8 4 := ⟨by kernel_rfl⟩
instance : Zr Tryd.prog 8 [.int .i64 0, .int .i64 0, .bool false, .int .u8 0] := ⟨by kernel_rfl⟩
instance : Sc Tryd.prog 9 := ⟨_, Tryd.underlying9, rfl⟩
instance : Sz Tryd.prog 9 1 := ⟨by kernel_rfl⟩
instance : Zr Tryd.prog 9 [.string ByteArray.empty] := ⟨by kernel_rfl⟩
instance : StT Tryd.prog 9 := ⟨Tryd.underlying9⟩
instance : Sc Tryd.prog 10 := ⟨_, Tryd.underlying10, rfl⟩
instance : Sz Tryd.prog 10 1 := ⟨by kernel_rfl⟩
instance : Zr Tryd.prog 10 [.string ByteArray.empty] := ⟨by kernel_rfl⟩
instance : StT Tryd.prog 10 := ⟨Tryd.underlying10⟩
instance : Sc Tryd.prog 11 := ⟨_, Tryd.underlying11, rfl⟩
instance : Sz Tryd.prog 11 1 := ⟨by kernel_rfl⟩
instance : Zr Tryd.prog 11 [.string ByteArray.empty] := ⟨by kernel_rfl⟩
instance : StT Tryd.prog 11 := ⟨Tryd.underlying11⟩
instance : Sc Tryd.prog 12 := ⟨_, Tryd.underlying12, rfl⟩
instance : Sz Tryd.prog 12 1 := ⟨by kernel_rfl⟩
instance : Zr Tryd.prog 12 [.int .u64 0] := ⟨by kernel_rfl⟩
instance : Ag Tryd.prog 13 2 := ⟨⟨_, Tryd.underlying13, rfl⟩, by kernel_rfl⟩
instance : Sz Tryd.prog 13 2 := ⟨by kernel_rfl⟩
instance : Zr Tryd.prog 13 [.string ByteArray.empty, .int .u64 0] := ⟨by kernel_rfl⟩
instance : Ag Tryd.prog 14 2 := ⟨⟨_, Tryd.underlying14, rfl⟩, by kernel_rfl⟩
instance : Sz Tryd.prog 14 2 := ⟨by kernel_rfl⟩
instance : Zr Tryd.prog 14 [.string ByteArray.empty, .int .u64 0] := ⟨by kernel_rfl⟩
instance : Sc Tryd.prog 15 := ⟨_, Tryd.underlying15, rfl⟩
instance : Sz Tryd.prog 15 1 := ⟨by kernel_rfl⟩
instance : Zr Tryd.prog 15 [.pointer none] := ⟨by kernel_rfl⟩
instance : Sc Tryd.prog 16 := ⟨_, Tryd.underlying16, rfl⟩
instance : Sz Tryd.prog 16 1 := ⟨by kernel_rfl⟩
instance : Zr Tryd.prog 16 [.pointer none] := ⟨by kernel_rfl⟩
instance : Sc Tryd.prog 17 := ⟨_, Tryd.underlying17, rfl⟩
instance : Sz Tryd.prog 17 1 := ⟨by kernel_rfl⟩
instance : Zr Tryd.prog 17 [.pointer none] := ⟨by kernel_rfl⟩
instance : Ag Tryd.prog 18 1 := ⟨⟨_, Tryd.underlying18, rfl⟩, by kernel_rfl⟩
instance : Sz Tryd.prog 18 1 := ⟨by kernel_rfl⟩
instance : Zr Tryd.prog 18 [.pointer none] := ⟨by kernel_rfl⟩
instance : Ag Tryd.prog 19 1 := ⟨⟨_, Tryd.underlying19, rfl⟩, by kernel_rfl⟩
instance : Sz Tryd.prog 19 1 := ⟨by kernel_rfl⟩
instance : Zr Tryd.prog 19 [.pointer none] := ⟨by kernel_rfl⟩
instance : Sc Tryd.prog 20 := ⟨_, Tryd.underlying20, rfl⟩
instance : Sz Tryd.prog 20 1 := ⟨by kernel_rfl⟩
instance : Zr Tryd.prog 20 [.nilIface] := ⟨by kernel_rfl⟩
instance : Sc Tryd.prog 21 := ⟨_, Tryd.underlying21, rfl⟩
instance : Sz Tryd.prog 21 1 := ⟨by kernel_rfl⟩
instance : Zr Tryd.prog 21 [.int .i32 0] := ⟨by kernel_rfl⟩
instance : Ag Tryd.prog 22 3 := ⟨⟨_, Tryd.underlying22, rfl⟩, by kernel_rfl⟩
instance : Sz Tryd.prog 22 3 := ⟨by kernel_rfl⟩
instance : Zr Tryd.prog 22 [.int .i64 0, .int .i64 0, .int .i64 0] := ⟨by kernel_rfl⟩
instance : Ag Tryd.prog 23 3 := ⟨⟨_, Tryd.underlying23, rfl⟩, by kernel_rfl⟩
instance : Sz Tryd.prog 23 3 := ⟨by kernel_rfl⟩
instance : Zr Tryd.prog 23 [.int .i64 0, .int .i64 0, .int .i64 0] := ⟨by kernel_rfl⟩
instance : Sc Tryd.prog 24 := ⟨_, Tryd.underlying24, rfl⟩
instance : Sz Tryd.prog 24 1 := ⟨by kernel_rfl⟩
instance : Zr Tryd.prog 24 [.nilFunc] := ⟨by kernel_rfl⟩
instance : Ag Tryd.prog 25 3 := ⟨⟨_, Tryd.underlying25, rfl⟩, by kernel_rfl⟩
instance : Sz Tryd.prog 25 3 := ⟨by kernel_rfl⟩
instance : Zr Tryd.prog 25 [.int .i64 0, .int .i64 0, .int .i64 0] := ⟨by kernel_rfl⟩
instance : Sc Tryd.prog 26 := ⟨_, Tryd.underlying26, rfl⟩
instance : Sz Tryd.prog 26 1 := ⟨by kernel_rfl⟩
instance : Zr Tryd.prog 26 [.nilFunc] := ⟨by kernel_rfl⟩
instance : Sc Tryd.prog 27 := ⟨_, Tryd.underlying27, rfl⟩
instance : Sz Tryd.prog 27 1 := ⟨by kernel_rfl⟩
instance : Zr Tryd.prog 27 [.nilFunc] := ⟨by kernel_rfl⟩
instance : Ag Tryd.prog 28 6 := ⟨⟨_, Tryd.underlying28, rfl⟩, by kernel_rfl⟩
instance : Sz Tryd.prog 28 6 := ⟨by kernel_rfl⟩
instance : Zr Tryd.prog 28 [.int .i64 0, .int .i64 0, .int .i64 0, .int .i64 0, .int .i64 0, .int .i64 0] := ⟨by kernel_rfl⟩
instance : Ag Tryd.prog 29 6 := ⟨⟨_, Tryd.underlying29, rfl⟩, by kernel_rfl⟩
instance : Sz Tryd.prog 29 6 := ⟨by kernel_rfl⟩
instance : Zr Tryd.prog 29 [.int .i64 0, .int .i64 0, .int .i64 0, .int .i64 0, .int .i64 0, .int .i64 0] := ⟨by kernel_rfl⟩
instance : Sc Tryd.prog 31 := ⟨_, Tryd.underlying31, rfl⟩
instance : Sz Tryd.prog 31 1 := ⟨by kernel_rfl⟩
instance : Zr Tryd.prog 31 [.nilFunc] := ⟨by kernel_rfl⟩
instance : Sc Tryd.prog 32 := ⟨_, Tryd.underlying32, rfl⟩
instance : Sz Tryd.prog 32 1 := ⟨by kernel_rfl⟩
instance : Zr Tryd.prog 32 [.nilFunc] := ⟨by kernel_rfl⟩
instance : Ag Tryd.prog 33 4 := ⟨⟨_, Tryd.underlying33, rfl⟩, by kernel_rfl⟩
instance : Sz Tryd.prog 33 4 := ⟨by kernel_rfl⟩
instance : Zr Tryd.prog 33 [.int .i64 0, .int .i64 0, .int .i64 0, .int .i64 0] := ⟨by kernel_rfl⟩
instance : Ag Tryd.prog 34 4 := ⟨⟨_, Tryd.underlying34, rfl⟩, by kernel_rfl⟩
instance : Sz Tryd.prog 34 4 := ⟨by kernel_rfl⟩
instance : Zr Tryd.prog 34 [.int .i64 0, .int .i64 0, .int .i64 0, .int .i64 0] := ⟨by kernel_rfl⟩
instance : Ag Tryd.prog 35 8 := ⟨⟨_, Tryd.underlying35, rfl⟩, by kernel_rfl⟩
instance : Sz Tryd.prog 35 8 := ⟨by kernel_rfl⟩
instance : Zr Tryd.prog 35 [.int .i64 0, .int .i64 0, .int .i64 0, .int .i64 0, .int .i64 0, .int .i64 0, .int .i64 0, .int .i64 0] := ⟨by kernel_rfl⟩
instance : Ag Tryd.prog 36 8 := ⟨⟨_, Tryd.underlying36, rfl⟩, by kernel_rfl⟩
instance : Sz Tryd.prog 36 8 := ⟨by kernel_rfl⟩
instance : Zr Tryd.prog 36 [.int .i64 0, .int .i64 0, .int .i64 0, .int .i64 0, .int .i64 0, .int .i64 0, .int .i64 0, .int .i64 0] := ⟨by kernel_rfl⟩
instance : Sc Tryd.prog 37 := ⟨_, Tryd.underlying37, rfl⟩
instance : Sz Tryd.prog 37 1 := ⟨by kernel_rfl⟩
instance : Zr Tryd.prog 37 [.nilFunc] := ⟨by kernel_rfl⟩
instance : Ag Tryd.prog 38 4 := ⟨⟨_, Tryd.underlying38, rfl⟩, by kernel_rfl⟩
instance : Sz Tryd.prog 38 4 := ⟨by kernel_rfl⟩
instance : Zr Tryd.prog 38 [.int .i64 0, .int .i64 0, .int .i64 0, .int .i64 0] := ⟨by kernel_rfl⟩
instance : Ag Tryd.prog 39 8 := ⟨⟨_, Tryd.underlying39, rfl⟩, by kernel_rfl⟩
instance : Sz Tryd.prog 39 8 := ⟨by kernel_rfl⟩
instance : Zr Tryd.prog 39 [.int .i64 0, .int .i64 0, .int .i64 0, .int .i64 0, .int .i64 0, .int .i64 0, .int .i64 0, .int .i64 0] := ⟨by kernel_rfl⟩
instance : Ag Tryd.prog 40 8 := ⟨⟨_, Tryd.underlying40, rfl⟩, by kernel_rfl⟩
instance : Sz Tryd.prog 40 8 := ⟨by kernel_rfl⟩
instance : Zr Tryd.prog 40 [.int .i64 0, .int .i64 0, .int .i64 0, .int .i64 0, .int .i64 0, .int .i64 0, .int .i64 0, .int .i64 0] := ⟨by kernel_rfl⟩
instance : Sc Tryd.prog 41 := ⟨_, Tryd.underlying41, rfl⟩
instance : Sz Tryd.prog 41 1 := ⟨by kernel_rfl⟩
instance : Zr Tryd.prog 41 [.nilFunc] := ⟨by kernel_rfl⟩
instance : Sc Tryd.prog 42 := ⟨_, Tryd.underlying42, rfl⟩
instance : Sz Tryd.prog 42 1 := ⟨by kernel_rfl⟩
instance : Zr Tryd.prog 42 [.nilFunc] := ⟨by kernel_rfl⟩
instance : Sc Tryd.prog 43 := ⟨_, Tryd.underlying43, rfl⟩
instance : Sz Tryd.prog 43 1 := ⟨by kernel_rfl⟩
instance : Zr Tryd.prog 43 [.nilFunc] := ⟨by kernel_rfl⟩
instance : Sc Tryd.prog 44 := ⟨_, Tryd.underlying44, rfl⟩
instance : Sz Tryd.prog 44 1 := ⟨by kernel_rfl⟩
instance : Zr Tryd.prog 44 [.nilFunc] := ⟨by kernel_rfl⟩
instance : Sc Tryd.prog 46 := ⟨_, Tryd.underlying46, rfl⟩
instance : Sz Tryd.prog 46 1 := ⟨by kernel_rfl⟩
instance : Zr Tryd.prog 46 [.nilFunc] := ⟨by kernel_rfl⟩
instance : Sc Tryd.prog 47 := ⟨_, Tryd.underlying47, rfl⟩
instance : Sz Tryd.prog 47 1 := ⟨by kernel_rfl⟩
instance : Zr Tryd.prog 47 [.nilIface] := ⟨by kernel_rfl⟩
instance : Sc Tryd.prog 48 := ⟨_, Tryd.underlying48, rfl⟩
instance : Sz Tryd.prog 48 1 := ⟨by kernel_rfl⟩
instance : Zr Tryd.prog 48 [.nilIface] := ⟨by kernel_rfl⟩
instance : Sc Tryd.prog 50 := ⟨_, Tryd.underlying50, rfl⟩
instance : Sz Tryd.prog 50 1 := ⟨by kernel_rfl⟩
instance : Zr Tryd.prog 50 [.nilFunc] := ⟨by kernel_rfl⟩
instance : Sc Tryd.prog 51 := ⟨_, Tryd.underlying51, rfl⟩
instance : Sz Tryd.prog 51 1 := ⟨by kernel_rfl⟩
instance : Zr Tryd.prog 51 [.nilFunc] := ⟨by kernel_rfl⟩
instance : Sc Tryd.prog 52 := ⟨_, Tryd.underlying52, rfl⟩
instance : Sz Tryd.prog 52 1 := ⟨by kernel_rfl⟩
instance : Zr Tryd.prog 52 [.nilFunc] := ⟨by kernel_rfl⟩
instance : Sc Tryd.prog 53 := ⟨_, Tryd.underlying53, rfl⟩
instance : Sz Tryd.prog 53 1 := ⟨by kernel_rfl⟩
instance : Zr Tryd.prog 53 [.nilFunc] := ⟨by kernel_rfl⟩
instance : Sc Tryd.prog 54 := ⟨_, Tryd.underlying54, rfl⟩
instance : Sz Tryd.prog 54 1 := ⟨by kernel_rfl⟩
instance : Zr Tryd.prog 54 [.nilFunc] := ⟨by kernel_rfl⟩
instance : Sc Tryd.prog 55 := ⟨_, Tryd.underlying55, rfl⟩
instance : Sz Tryd.prog 55 1 := ⟨by kernel_rfl⟩
instance : Zr Tryd.prog 55 [.nilFunc] := ⟨by kernel_rfl⟩
instance : Sc Tryd.prog 56 := ⟨_, Tryd.underlying56, rfl⟩
instance : Sz Tryd.prog 56 1 := ⟨by kernel_rfl⟩
instance : Zr Tryd.prog 56 [.nilFunc] := ⟨by kernel_rfl⟩
instance : Sc Tryd.prog 57 := ⟨_, Tryd.underlying57, rfl⟩
instance : Sz Tryd.prog 57 1 := ⟨by kernel_rfl⟩
instance : Zr Tryd.prog 57 [.nilFunc] := ⟨by kernel_rfl⟩
instance : Sc Tryd.prog 58 := ⟨_, Tryd.underlying58, rfl⟩
instance : Sz Tryd.prog 58 1 := ⟨by kernel_rfl⟩
instance : Zr Tryd.prog 58 [.nilFunc] := ⟨by kernel_rfl⟩
instance : Sc Tryd.prog 59 := ⟨_, Tryd.underlying59, rfl⟩
instance : Sz Tryd.prog 59 1 := ⟨by kernel_rfl⟩
instance : Zr Tryd.prog 59 [.nilFunc] := ⟨by kernel_rfl⟩
instance : Sc Tryd.prog 60 := ⟨_, Tryd.underlying60, rfl⟩
instance : Sz Tryd.prog 60 1 := ⟨by kernel_rfl⟩
instance : Zr Tryd.prog 60 [.nilFunc] := ⟨by kernel_rfl⟩
instance : Sc Tryd.prog 61 := ⟨_, Tryd.underlying61, rfl⟩
instance : Sz Tryd.prog 61 1 := ⟨by kernel_rfl⟩
instance : Zr Tryd.prog 61 [.nilFunc] := ⟨by kernel_rfl⟩
instance : Sc Tryd.prog 62 := ⟨_, Tryd.underlying62, rfl⟩
instance : Sz Tryd.prog 62 1 := ⟨by kernel_rfl⟩
instance : Zr Tryd.prog 62 [.nilIface] := ⟨by kernel_rfl⟩
instance : Sc Tryd.prog 63 := ⟨_, Tryd.underlying63, rfl⟩
instance : Sz Tryd.prog 63 1 := ⟨by kernel_rfl⟩
instance : Zr Tryd.prog 63 [.nilIface] := ⟨by kernel_rfl⟩
instance : Sc Tryd.prog 64 := ⟨_, Tryd.underlying64, rfl⟩
instance : Sz Tryd.prog 64 1 := ⟨by kernel_rfl⟩
instance : Zr Tryd.prog 64 [.nilFunc] := ⟨by kernel_rfl⟩
instance : Sc Tryd.prog 65 := ⟨_, Tryd.underlying65, rfl⟩
instance : Sz Tryd.prog 65 1 := ⟨by kernel_rfl⟩
instance : Zr Tryd.prog 65 [.nilFunc] := ⟨by kernel_rfl⟩
instance : Sc Tryd.prog 66 := ⟨_, Tryd.underlying66, rfl⟩
instance : Sz Tryd.prog 66 1 := ⟨by kernel_rfl⟩
instance : Zr Tryd.prog 66 [.nilFunc] := ⟨by kernel_rfl⟩
instance : Sc Tryd.prog 67 := ⟨_, Tryd.underlying67, rfl⟩
instance : Sz Tryd.prog 67 1 := ⟨by kernel_rfl⟩
instance : Zr Tryd.prog 67 [.nilFunc] := ⟨by kernel_rfl⟩
instance : Sc Tryd.prog 68 := ⟨_, Tryd.underlying68, rfl⟩
instance : Sz Tryd.prog 68 1 := ⟨by kernel_rfl⟩
instance : Zr Tryd.prog 68 [.nilFunc] := ⟨by kernel_rfl⟩
instance : Ag Tryd.prog 69 9 := ⟨⟨_, Tryd.underlying69, rfl⟩, by kernel_rfl⟩
instance : Sz Tryd.prog 69 9 := ⟨by kernel_rfl⟩
instance : Zr Tryd.prog 69 [.int .i64 0, .int .i64 0, .int .i64 0, .int .i64 0, .int .i64 0, .int .i64 0, .int .i64 0, .int .i64 0, .int .i64 0] := ⟨by kernel_rfl⟩
instance : Ag Tryd.prog 70 9 := ⟨⟨_, Tryd.underlying70, rfl⟩, by kernel_rfl⟩
instance : Sz Tryd.prog 70 9 := ⟨by kernel_rfl⟩
instance : Zr Tryd.prog 70 [.int .i64 0, .int .i64 0, .int .i64 0, .int .i64 0, .int .i64 0, .int .i64 0, .int .i64 0, .int .i64 0, .int .i64 0] := ⟨by kernel_rfl⟩
instance : Sc Tryd.prog 71 := ⟨_, Tryd.underlying71, rfl⟩
instance : Sz Tryd.prog 71 1 := ⟨by kernel_rfl⟩
instance : Zr Tryd.prog 71 [.nilFunc] := ⟨by kernel_rfl⟩
instance : Sc Tryd.prog 72 := ⟨_, Tryd.underlying72, rfl⟩
instance : Sz Tryd.prog 72 1 := ⟨by kernel_rfl⟩
instance : Zr Tryd.prog 72 [.slice none 0 0] := ⟨by kernel_rfl⟩
instance : SlT Tryd.prog 72 3 1 := ⟨Tryd.underlying72, by kernel_rfl⟩
instance : Ag Tryd.prog 73 12 := ⟨⟨_, Tryd.underlying73, rfl⟩, by kernel_rfl⟩
instance : Sz Tryd.prog 73 12 := ⟨by kernel_rfl⟩
instance : Zr Tryd.prog 73 [.int .i64 0, .int .i64 0, .int .i64 0, .int .i64 0, .int .i64 0, .int .i64 0, .int .i64 0, .int .i64 0, .int .i64 0, .int .i64 0, .int .i64 0, .int .i64 0] := ⟨by kernel_rfl⟩
instance : Ag Tryd.prog 74 1 := ⟨⟨_, Tryd.underlying74, rfl⟩, by kernel_rfl⟩
instance : Sz Tryd.prog 74 1 := ⟨by kernel_rfl⟩
instance : Zr Tryd.prog 74 [.pointer none] := ⟨by kernel_rfl⟩
instance : Ag Tryd.prog 75 1 := ⟨⟨_, Tryd.underlying75, rfl⟩, by kernel_rfl⟩
instance : Sz Tryd.prog 75 1 := ⟨by kernel_rfl⟩
instance : Zr Tryd.prog 75 [.pointer none] := ⟨by kernel_rfl⟩
instance : Sc Tryd.prog 76 := ⟨_, Tryd.underlying76, rfl⟩
instance : Sz Tryd.prog 76 1 := ⟨by kernel_rfl⟩
instance : Zr Tryd.prog 76 [.pointer none] := ⟨by kernel_rfl⟩
instance : Sc Tryd.prog 77 := ⟨_, Tryd.underlying77, rfl⟩
instance : Sz Tryd.prog 77 1 := ⟨by kernel_rfl⟩
instance : Zr Tryd.prog 77 [.nilIface] := ⟨by kernel_rfl⟩
instance : Sc Tryd.prog 79 := ⟨_, Tryd.underlying79, rfl⟩
instance : Sz Tryd.prog 79 1 := ⟨by kernel_rfl⟩
instance : Zr Tryd.prog 79 [.nilFunc] := ⟨by kernel_rfl⟩
instance : Sc Tryd.prog 80 := ⟨_, Tryd.underlying80, rfl⟩
instance : Sz Tryd.prog 80 1 := ⟨by kernel_rfl⟩
instance : Zr Tryd.prog 80 [.nilIface] := ⟨by kernel_rfl⟩
instance : Sc Tryd.prog 81 := ⟨_, Tryd.underlying81, rfl⟩
instance : Sz Tryd.prog 81 1 := ⟨by kernel_rfl⟩
instance : Zr Tryd.prog 81 [.nilFunc] := ⟨by kernel_rfl⟩
instance : Sc Tryd.prog 82 := ⟨_, Tryd.underlying82, rfl⟩
instance : Sz Tryd.prog 82 1 := ⟨by kernel_rfl⟩
instance : Zr Tryd.prog 82 [.nilIface] := ⟨by kernel_rfl⟩
instance : Sc Tryd.prog 83 := ⟨_, Tryd.underlying83, rfl⟩
instance : Sz Tryd.prog 83 1 := ⟨by kernel_rfl⟩
instance : Zr Tryd.prog 83 [.slice none 0 0] := ⟨by kernel_rfl⟩
instance : SlT Tryd.prog 83 48 1 := ⟨Tryd.underlying83, by kernel_rfl⟩
instance : Sc Tryd.prog 84 := ⟨_, Tryd.underlying84, rfl⟩
instance : Sz Tryd.prog 84 1 := ⟨by kernel_rfl⟩
instance : Zr Tryd.prog 84 [.nilFunc] := ⟨by kernel_rfl⟩
instance : Sc Tryd.prog 85 := ⟨_, Tryd.underlying85, rfl⟩
instance : Sz Tryd.prog 85 1 := ⟨by kernel_rfl⟩
instance : Zr Tryd.prog 85 [.nilFunc] := ⟨by kernel_rfl⟩
instance : Sc Tryd.prog 86 := ⟨_, Tryd.underlying86, rfl⟩
instance : Sz Tryd.prog 86 1 := ⟨by kernel_rfl⟩
instance : Zr Tryd.prog 86 [.pointer none] := ⟨by kernel_rfl⟩
instance : Sc Tryd.prog 87 := ⟨_, Tryd.underlying87, rfl⟩
instance : Sz Tryd.prog 87 1 := ⟨by kernel_rfl⟩
instance : Zr Tryd.prog 87 [.nilFunc] := ⟨by kernel_rfl⟩
instance : Ag Tryd.prog 88 4 := ⟨⟨_, Tryd.underlying88, rfl⟩, by kernel_rfl⟩
instance : Sz Tryd.prog 88 4 := ⟨by kernel_rfl⟩
instance : Zr Tryd.prog 88 [.pointer none, .pointer none, .pointer none, .string ByteArray.empty] := ⟨by kernel_rfl⟩
instance : Ag Tryd.prog 89 4 := ⟨⟨_, Tryd.underlying89, rfl⟩, by kernel_rfl⟩
instance : Sz Tryd.prog 89 4 := ⟨by kernel_rfl⟩
instance : Zr Tryd.prog 89 [.pointer none, .pointer none, .pointer none, .string ByteArray.empty] := ⟨by kernel_rfl⟩
instance : Sc Tryd.prog 93 := ⟨_, Tryd.underlying93, rfl⟩
instance : Sz Tryd.prog 93 1 := ⟨by kernel_rfl⟩
instance : Zr Tryd.prog 93 [.int .u32 0] := ⟨by kernel_rfl⟩
instance : Sc Tryd.prog 94 := ⟨_, Tryd.underlying94, rfl⟩
instance : Sz Tryd.prog 94 1 := ⟨by kernel_rfl⟩
instance : Zr Tryd.prog 94 [.int .u8 0] := ⟨by kernel_rfl⟩
instance : Sc Tryd.prog 95 := ⟨_, Tryd.underlying95, rfl⟩
instance : Sz Tryd.prog 95 1 := ⟨by kernel_rfl⟩
instance : Zr Tryd.prog 95 [.int .u8 0] := ⟨by kernel_rfl⟩
instance : Sc Tryd.prog 96 := ⟨_, Tryd.underlying96, rfl⟩
instance : Sz Tryd.prog 96 1 := ⟨by kernel_rfl⟩
instance : Zr Tryd.prog 96 [.nilFunc] := ⟨by kernel_rfl⟩
instance : Sc Tryd.prog 97 := ⟨_, Tryd.underlying97, rfl⟩
instance : Sz Tryd.prog 97 1 := ⟨by kernel_rfl⟩
instance : Zr Tryd.prog 97 [.pointer none] := ⟨by kernel_rfl⟩
instance : Sc Tryd.prog 98 := ⟨_, Tryd.underlying98, rfl⟩
instance : Sz Tryd.prog 98 1 := ⟨by kernel_rfl⟩
instance : Zr Tryd.prog 98 [.int .i32 0] := ⟨by kernel_rfl⟩
instance : Sc Tryd.prog 99 := ⟨_, Tryd.underlying99, rfl⟩
instance : Sz Tryd.prog 99 1 := ⟨by kernel_rfl⟩
instance : Zr Tryd.prog 99 [.int .i32 0] := ⟨by kernel_rfl⟩
instance : Ag Tryd.prog 100 11 := ⟨⟨_, Tryd.underlying100, rfl⟩, by kernel_rfl⟩
instance : Sz Tryd.prog 100 11 := ⟨by kernel_rfl⟩
instance : Zr Tryd.prog 100 [.int .u64 0, .int .u64 0, .int .u32 0, .int .u8 0, .int .u8 0, .int .u8 0, .int .u8 0, .nilFunc, .pointer none, .int .i32 0, .int .i32 0] := ⟨by kernel_rfl⟩
instance : Ag Tryd.prog 101 11 := ⟨⟨_, Tryd.underlying101, rfl⟩, by kernel_rfl⟩
instance : Sz Tryd.prog 101 11 := ⟨by kernel_rfl⟩
instance : Zr Tryd.prog 101 [.int .u64 0, .int .u64 0, .int .u32 0, .int .u8 0, .int .u8 0, .int .u8 0, .int .u8 0, .nilFunc, .pointer none, .int .i32 0, .int .i32 0] := ⟨by kernel_rfl⟩
instance : Sc Tryd.prog 102 := ⟨_, Tryd.underlying102, rfl⟩
instance : Sz Tryd.prog 102 1 := ⟨by kernel_rfl⟩
instance : Zr Tryd.prog 102 [.nilFunc] := ⟨by kernel_rfl⟩
instance : Sc Tryd.prog 103 := ⟨_, Tryd.underlying103, rfl⟩
instance : Sz Tryd.prog 103 1 := ⟨by kernel_rfl⟩
instance : Zr Tryd.prog 103 [.nilFunc] := ⟨by kernel_rfl⟩
instance : Sc Tryd.prog 104 := ⟨_, Tryd.underlying104, rfl⟩
instance : Sz Tryd.prog 104 1 := ⟨by kernel_rfl⟩
instance : Zr Tryd.prog 104 [.nilFunc] := ⟨by kernel_rfl⟩
instance : Sc Tryd.prog 105 := ⟨_, Tryd.underlying105, rfl⟩
instance : Sz Tryd.prog 105 1 := ⟨by kernel_rfl⟩
instance : Zr Tryd.prog 105 [.nilFunc] := ⟨by kernel_rfl⟩
instance : Sc Tryd.prog 106 := ⟨_, Tryd.underlying106, rfl⟩
instance : Sz Tryd.prog 106 1 := ⟨by kernel_rfl⟩
instance : Zr Tryd.prog 106 [.nilFunc] := ⟨by kernel_rfl⟩
instance : Sc Tryd.prog 107 := ⟨_, Tryd.underlying107, rfl⟩
instance : Sz Tryd.prog 107 1 := ⟨by kernel_rfl⟩
instance : Zr Tryd.prog 107 [.nilFunc] := ⟨by kernel_rfl⟩
instance : Ag Tryd.prog 108 2 := ⟨⟨_, Tryd.underlying108, rfl⟩, by kernel_rfl⟩
instance : Sz Tryd.prog 108 2 := ⟨by kernel_rfl⟩
instance : Zr Tryd.prog 108 [.string ByteArray.empty, .int .u8 0] := ⟨by kernel_rfl⟩
instance : Ag Tryd.prog 109 2 := ⟨⟨_, Tryd.underlying109, rfl⟩, by kernel_rfl⟩
instance : Sz Tryd.prog 109 2 := ⟨by kernel_rfl⟩
instance : Zr Tryd.prog 109 [.string ByteArray.empty, .int .u8 0] := ⟨by kernel_rfl⟩
instance : Ag Tryd.prog 110 1 := ⟨⟨_, Tryd.underlying110, rfl⟩, by kernel_rfl⟩
instance : Sz Tryd.prog 110 1 := ⟨by kernel_rfl⟩
instance : Zr Tryd.prog 110 [.string ByteArray.empty] := ⟨by kernel_rfl⟩
instance : Ag Tryd.prog 111 1 := ⟨⟨_, Tryd.underlying111, rfl⟩, by kernel_rfl⟩
instance : Sz Tryd.prog 111 1 := ⟨by kernel_rfl⟩
instance : Zr Tryd.prog 111 [.string ByteArray.empty] := ⟨by kernel_rfl⟩
instance : Sc Tryd.prog 113 := ⟨_, Tryd.underlying113, rfl⟩
instance : Sz Tryd.prog 113 1 := ⟨by kernel_rfl⟩
instance : Zr Tryd.prog 113 [.pointer none] := ⟨by kernel_rfl⟩
instance : Sc Tryd.prog 114 := ⟨_, Tryd.underlying114, rfl⟩
instance : Sz Tryd.prog 114 1 := ⟨by kernel_rfl⟩
instance : Zr Tryd.prog 114 [.nilFunc] := ⟨by kernel_rfl⟩
instance : Sc Tryd.prog 115 := ⟨_, Tryd.underlying115, rfl⟩
instance : Sz Tryd.prog 115 1 := ⟨by kernel_rfl⟩
instance : Zr Tryd.prog 115 [.int .u16 0] := ⟨by kernel_rfl⟩
instance : Ag Tryd.prog 116 5 := ⟨⟨_, Tryd.underlying116, rfl⟩, by kernel_rfl⟩
instance : Sz Tryd.prog 116 5 := ⟨by kernel_rfl⟩
instance : Zr Tryd.prog 116 [.int .i32 0, .int .u16 0, .int .u16 0, .int .u32 0, .int .u32 0] := ⟨by kernel_rfl⟩
instance : Ag Tryd.prog 117 5 := ⟨⟨_, Tryd.underlying117, rfl⟩, by kernel_rfl⟩
instance : Sz Tryd.prog 117 5 := ⟨by kernel_rfl⟩
instance : Zr Tryd.prog 117 [.int .i32 0, .int .u16 0, .int .u16 0, .int .u32 0, .int .u32 0] := ⟨by kernel_rfl⟩
instance : Sc Tryd.prog 118 := ⟨_, Tryd.underlying118, rfl⟩
instance : Sz Tryd.prog 118 1 := ⟨by kernel_rfl⟩
instance : Zr Tryd.prog 118 [.slice none 0 0] := ⟨by kernel_rfl⟩
instance : SlT Tryd.prog 118 121 4 := ⟨Tryd.underlying118, by kernel_rfl⟩
instance : Sc Tryd.prog 119 := ⟨_, Tryd.underlying119, rfl⟩
instance : Sz Tryd.prog 119 1 := ⟨by kernel_rfl⟩
instance : Zr Tryd.prog 119 [.int .i32 0] := ⟨by kernel_rfl⟩
instance : Ag Tryd.prog 120 4 := ⟨⟨_, Tryd.underlying120, rfl⟩, by kernel_rfl⟩
instance : Sz Tryd.prog 120 4 := ⟨by kernel_rfl⟩
instance : Zr Tryd.prog 120 [.int .i32 0, .int .i32 0, .int .i32 0, .int .i32 0] := ⟨by kernel_rfl⟩
instance : Ag Tryd.prog 121 4 := ⟨⟨_, Tryd.underlying121, rfl⟩, by kernel_rfl⟩
instance : Sz Tryd.prog 121 4 := ⟨by kernel_rfl⟩
instance : Zr Tryd.prog 121 [.int .i32 0, .int .i32 0, .int .i32 0, .int .i32 0] := ⟨by kernel_rfl⟩
instance : Sc Tryd.prog 122 := ⟨_, Tryd.underlying122, rfl⟩
instance : Sz Tryd.prog 122 1 := ⟨by kernel_rfl⟩
instance : Zr Tryd.prog 122 [.nilFunc] := ⟨by kernel_rfl⟩
instance : BS Tryd.prog 72 3 [.int .i64 0] := ⟨Tryd.underlying72, by kernel_rfl, by kernel_rfl⟩
instance : BS Tryd.prog 83 48 [.nilIface] := ⟨Tryd.underlying83, by kernel_rfl, by kernel_rfl⟩
instance : BS Tryd.prog 118 121 [.int .i32 0, .int .i32 0, .int .i32 0, .int .i32 0] := ⟨Tryd.underlying118, by kernel_rfl, by kernel_rfl⟩
instance : Bd Tryd.prog 7 [(0, 1), (1, 1), (2, 1), (3, 1)] [.int .i64 0, .int .i64 0, .bool false, .int .u8 0] := ⟨fun _ => by kernel_rfl⟩
instance : FO Tryd.prog 7 0 0 := FO.of (k := 1) Tryd.underlying7 rfl rfl rfl (by kernel_rfl) (by decide)
instance : FV Tryd.prog 7 0 0 1 false := FV.of1 (ft := 2) Tryd.underlying7 rfl rfl rfl inferInstance
instance : FO Tryd.prog 7 1 1 := FO.of (k := 1) Tryd.underlying7 rfl rfl rfl (by kernel_rfl) (by decide)
instance : FV Tryd.prog 7 1 1 1 false := FV.of1 (ft := 3) Tryd.underlying7 rfl rfl rfl inferInstance
instance : FO Tryd.prog 7 2 2 := FO.of (k := 1) Tryd.underlying7 rfl rfl rfl (by kernel_rfl) (by decide)
instance : FV Tryd.prog 7 2 2 1 false := FV.of1 (ft := 4) Tryd.underlying7 rfl rfl rfl inferInstance
instance : FO Tryd.prog 7 3 3 := FO.of (k := 1) Tryd.underlying7 rfl rfl rfl (by kernel_rfl) (by decide)
instance : FV Tryd.prog 7 3 3 1 false := FV.of1 (ft := 6) Tryd.underlying7 rfl rfl rfl inferInstance
instance : Bd Tryd.prog 8 [(0, 1), (1, 1), (2, 1), (3, 1)] [.int .i64 0, .int .i64 0, .bool false, .int .u8 0] := ⟨fun _ => by kernel_rfl⟩
instance : FO Tryd.prog 8 0 0 := FO.of (k := 1) Tryd.underlying8 rfl rfl rfl (by kernel_rfl) (by decide)
instance : FV Tryd.prog 8 0 0 1 false := FV.of1 (ft := 2) Tryd.underlying8 rfl rfl rfl inferInstance
instance : FO Tryd.prog 8 1 1 := FO.of (k := 1) Tryd.underlying8 rfl rfl rfl (by kernel_rfl) (by decide)
instance : FV Tryd.prog 8 1 1 1 false := FV.of1 (ft := 3) Tryd.underlying8 rfl rfl rfl inferInstance
instance : FO Tryd.prog 8 2 2 := FO.of (k := 1) Tryd.underlying8 rfl rfl rfl (by kernel_rfl) (by decide)
instance : FV Tryd.prog 8 2 2 1 false := FV.of1 (ft := 4) Tryd.underlying8 rfl rfl rfl inferInstance
instance : FO Tryd.prog 8 3 3 := FO.of (k := 1) Tryd.underlying8 rfl rfl rfl (by kernel_rfl) (by decide)
instance : FV Tryd.prog 8 3 3 1 false := FV.of1 (ft := 6) Tryd.underlying8 rfl rfl rfl inferInstance
instance : Bd Tryd.prog 13 [(0, 1), (1, 1)] [.string ByteArray.empty, .int .u64 0] := ⟨fun _ => by kernel_rfl⟩
instance : FO Tryd.prog 13 0 0 := FO.of (k := 1) Tryd.underlying13 rfl rfl rfl (by kernel_rfl) (by decide)
instance : FV Tryd.prog 13 0 0 1 false := FV.of1 (ft := 9) Tryd.underlying13 rfl rfl rfl inferInstance
instance : FO Tryd.prog 13 1 1 := FO.of (k := 1) Tryd.underlying13 rfl rfl rfl (by kernel_rfl) (by decide)
instance : FV Tryd.prog 13 1 1 1 false := FV.of1 (ft := 12) Tryd.underlying13 rfl rfl rfl inferInstance
instance : Bd Tryd.prog 14 [(0, 1), (1, 1)] [.string ByteArray.empty, .int .u64 0] := ⟨fun _ => by kernel_rfl⟩
instance : FO Tryd.prog 14 0 0 := FO.of (k := 1) Tryd.underlying14 rfl rfl rfl (by kernel_rfl) (by decide)
instance : FV Tryd.prog 14 0 0 1 false := FV.of1 (ft := 9) Tryd.underlying14 rfl rfl rfl inferInstance
instance : FO Tryd.prog 14 1 1 := FO.of (k := 1) Tryd.underlying14 rfl rfl rfl (by kernel_rfl) (by decide)
instance : FV Tryd.prog 14 1 1 1 false := FV.of1 (ft := 12) Tryd.underlying14 rfl rfl rfl inferInstance
instance : Bd Tryd.prog 18 [(0, 1)] [.pointer none] := ⟨fun _ => by kernel_rfl⟩
instance : FO Tryd.prog 18 0 0 := FO.of (k := 1) Tryd.underlying18 rfl rfl rfl (by kernel_rfl) (by decide)
instance : FV Tryd.prog 18 0 0 1 false := FV.of1 (ft := 17) Tryd.underlying18 rfl rfl rfl inferInstance
instance : Bd Tryd.prog 19 [(0, 1)] [.pointer none] := ⟨fun _ => by kernel_rfl⟩
instance : FO Tryd.prog 19 0 0 := FO.of (k := 1) Tryd.underlying19 rfl rfl rfl (by kernel_rfl) (by decide)
instance : FV Tryd.prog 19 0 0 1 false := FV.of1 (ft := 17) Tryd.underlying19 rfl rfl rfl inferInstance
instance : Bd Tryd.prog 22 [(0, 1), (1, 1), (2, 1)] [.int .i64 0, .int .i64 0, .int .i64 0] := ⟨fun _ => by kernel_rfl⟩
instance : FO Tryd.prog 22 0 0 := FO.of (k := 1) Tryd.underlying22 rfl rfl rfl (by kernel_rfl) (by decide)
instance : FV Tryd.prog 22 0 0 1 false := FV.of1 (ft := 3) Tryd.underlying22 rfl rfl rfl inferInstance
instance : FO Tryd.prog 22 1 1 := FO.of (k := 1) Tryd.underlying22 rfl rfl rfl (by kernel_rfl) (by decide)
instance : FV Tryd.prog 22 1 1 1 false := FV.of1 (ft := 3) Tryd.underlying22 rfl rfl rfl inferInstance
instance : FO Tryd.prog 22 2 2 := FO.of (k := 1) Tryd.underlying22 rfl rfl rfl (by kernel_rfl) (by decide)
instance : FV Tryd.prog 22 2 2 1 false := FV.of1 (ft := 3) Tryd.underlying22 rfl rfl rfl inferInstance
instance : Bd Tryd.prog 23 [(0, 1), (1, 1), (2, 1)] [.int .i64 0, .int .i64 0, .int .i64 0] := ⟨fun _ => by kernel_rfl⟩
instance : FO Tryd.prog 23 0 0 := FO.of (k := 1) Tryd.underlying23 rfl rfl rfl (by kernel_rfl) (by decide)
instance : FV Tryd.prog 23 0 0 1 false := FV.of1 (ft := 3) Tryd.underlying23 rfl rfl rfl inferInstance
instance : FO Tryd.prog 23 1 1 := FO.of (k := 1) Tryd.underlying23 rfl rfl rfl (by kernel_rfl) (by decide)
instance : FV Tryd.prog 23 1 1 1 false := FV.of1 (ft := 3) Tryd.underlying23 rfl rfl rfl inferInstance
instance : FO Tryd.prog 23 2 2 := FO.of (k := 1) Tryd.underlying23 rfl rfl rfl (by kernel_rfl) (by decide)
instance : FV Tryd.prog 23 2 2 1 false := FV.of1 (ft := 3) Tryd.underlying23 rfl rfl rfl inferInstance
instance : Bd Tryd.prog 25 [(0, 1), (1, 1), (2, 1)] [.int .i64 0, .int .i64 0, .int .i64 0] := ⟨fun _ => by kernel_rfl⟩
instance : FO Tryd.prog 25 0 0 := FO.of (k := 1) Tryd.underlying25 rfl rfl rfl (by kernel_rfl) (by decide)
instance : FV Tryd.prog 25 0 0 1 false := FV.of1 (ft := 3) Tryd.underlying25 rfl rfl rfl inferInstance
instance : FO Tryd.prog 25 1 1 := FO.of (k := 1) Tryd.underlying25 rfl rfl rfl (by kernel_rfl) (by decide)
instance : FV Tryd.prog 25 1 1 1 false := FV.of1 (ft := 3) Tryd.underlying25 rfl rfl rfl inferInstance
instance : FO Tryd.prog 25 2 2 := FO.of (k := 1) Tryd.underlying25 rfl rfl rfl (by kernel_rfl) (by decide)
instance : FV Tryd.prog 25 2 2 1 false := FV.of1 (ft := 3) Tryd.underlying25 rfl rfl rfl inferInstance
instance : Bd Tryd.prog 28 [(0, 1), (1, 1), (2, 1), (3, 1), (4, 1), (5, 1)] [.int .i64 0, .int .i64 0, .int .i64 0, .int .i64 0, .int .i64 0, .int .i64 0] := ⟨fun _ => by kernel_rfl⟩
instance : FO Tryd.prog 28 0 0 := FO.of (k := 1) Tryd.underlying28 rfl rfl rfl (by kernel_rfl) (by decide)
instance : FV Tryd.prog 28 0 0 1 false := FV.of1 (ft := 3) Tryd.underlying28 rfl rfl rfl inferInstance
instance : FO Tryd.prog 28 1 1 := FO.of (k := 1) Tryd.underlying28 rfl rfl rfl (by kernel_rfl) (by decide)
instance : FV Tryd.prog 28 1 1 1 false := FV.of1 (ft := 3) Tryd.underlying28 rfl rfl rfl inferInstance
instance : FO Tryd.prog 28 2 2 := FO.of (k := 1) Tryd.underlying28 rfl rfl rfl (by kernel_rfl) (by decide)
instance : FV Tryd.prog 28 2 2 1 false := FV.of1 (ft := 3) Tryd.underlying28 rfl rfl rfl inferInstance
instance : FO Tryd.prog 28 3 3 := FO.of (k := 1) Tryd.underlying28 rfl rfl rfl (by kernel_rfl) (by decide)
instance : FV Tryd.prog 28 3 3 1 false := FV.of1 (ft := 3) Tryd.underlying28 rfl rfl rfl inferInstance
instance : FO Tryd.prog 28 4 4 := FO.of (k := 1) Tryd.underlying28 rfl rfl rfl (by kernel_rfl) (by decide)
instance : FV Tryd.prog 28 4 4 1 false := FV.of1 (ft := 3) Tryd.underlying28 rfl rfl rfl inferInstance
instance : FO Tryd.prog 28 5 5 := FO.of (k := 1) Tryd.underlying28 rfl rfl rfl (by kernel_rfl) (by decide)
instance : FV Tryd.prog 28 5 5 1 false := FV.of1 (ft := 3) Tryd.underlying28 rfl rfl rfl inferInstance
instance : Bd Tryd.prog 29 [(0, 1), (1, 1), (2, 1), (3, 1), (4, 1), (5, 1)] [.int .i64 0, .int .i64 0, .int .i64 0, .int .i64 0, .int .i64 0, .int .i64 0] := ⟨fun _ => by kernel_rfl⟩
instance : FO Tryd.prog 29 0 0 := FO.of (k := 1) Tryd.underlying29 rfl rfl rfl (by kernel_rfl) (by decide)
instance : FV Tryd.prog 29 0 0 1 false := FV.of1 (ft := 3) Tryd.underlying29 rfl rfl rfl inferInstance
instance : FO Tryd.prog 29 1 1 := FO.of (k := 1) Tryd.underlying29 rfl rfl rfl (by kernel_rfl) (by decide)
instance : FV Tryd.prog 29 1 1 1 false := FV.of1 (ft := 3) Tryd.underlying29 rfl rfl rfl inferInstance
instance : FO Tryd.prog 29 2 2 := FO.of (k := 1) Tryd.underlying29 rfl rfl rfl (by kernel_rfl) (by decide)
instance : FV Tryd.prog 29 2 2 1 false := FV.of1 (ft := 3) Tryd.underlying29 rfl rfl rfl inferInstance
instance : FO Tryd.prog 29 3 3 := FO.of (k := 1) Tryd.underlying29 rfl rfl rfl (by kernel_rfl) (by decide)
instance : FV Tryd.prog 29 3 3 1 false := FV.of1 (ft := 3) Tryd.underlying29 rfl rfl rfl inferInstance
instance : FO Tryd.prog 29 4 4 := FO.of (k := 1) Tryd.underlying29 rfl rfl rfl (by kernel_rfl) (by decide)
instance : FV Tryd.prog 29 4 4 1 false := FV.of1 (ft := 3) Tryd.underlying29 rfl rfl rfl inferInstance
instance : FO Tryd.prog 29 5 5 := FO.of (k := 1) Tryd.underlying29 rfl rfl rfl (by kernel_rfl) (by decide)
instance : FV Tryd.prog 29 5 5 1 false := FV.of1 (ft := 3) Tryd.underlying29 rfl rfl rfl inferInstance
instance : Bd Tryd.prog 33 [(0, 1), (1, 1), (2, 1), (3, 1)] [.int .i64 0, .int .i64 0, .int .i64 0, .int .i64 0] := ⟨fun _ => by kernel_rfl⟩
instance : FO Tryd.prog 33 0 0 := FO.of (k := 1) Tryd.underlying33 rfl rfl rfl (by kernel_rfl) (by decide)
instance : FV Tryd.prog 33 0 0 1 false := FV.of1 (ft := 3) Tryd.underlying33 rfl rfl rfl inferInstance
instance : FO Tryd.prog 33 1 1 := FO.of (k := 1) Tryd.underlying33 rfl rfl rfl (by kernel_rfl) (by decide)
instance : FV Tryd.prog 33 1 1 1 false := FV.of1 (ft := 3) Tryd.underlying33 rfl rfl rfl inferInstance
instance : FO Tryd.prog 33 2 2 := FO.of (k := 1) Tryd.underlying33 rfl rfl rfl (by kernel_rfl) (by decide)
instance : FV Tryd.prog 33 2 2 1 false := FV.of1 (ft := 3) Tryd.underlying33 rfl rfl rfl inferInstance
instance : FO Tryd.prog 33 3 3 := FO.of (k := 1) Tryd.underlying33 rfl rfl rfl (by kernel_rfl) (by decide)
instance : FV Tryd.prog 33 3 3 1 false := FV.of1 (ft := 3) Tryd.underlying33 rfl rfl rfl inferInstance
instance : Bd Tryd.prog 34 [(0, 1), (1, 1), (2, 1), (3, 1)] [.int .i64 0, .int .i64 0, .int .i64 0, .int .i64 0] := ⟨fun _ => by kernel_rfl⟩
instance : FO Tryd.prog 34 0 0 := FO.of (k := 1) Tryd.underlying34 rfl rfl rfl (by kernel_rfl) (by decide)
instance : FV Tryd.prog 34 0 0 1 false := FV.of1 (ft := 3) Tryd.underlying34 rfl rfl rfl inferInstance
instance : FO Tryd.prog 34 1 1 := FO.of (k := 1) Tryd.underlying34 rfl rfl rfl (by kernel_rfl) (by decide)
instance : FV Tryd.prog 34 1 1 1 false := FV.of1 (ft := 3) Tryd.underlying34 rfl rfl rfl inferInstance
instance : FO Tryd.prog 34 2 2 := FO.of (k := 1) Tryd.underlying34 rfl rfl rfl (by kernel_rfl) (by decide)
instance : FV Tryd.prog 34 2 2 1 false := FV.of1 (ft := 3) Tryd.underlying34 rfl rfl rfl inferInstance
instance : FO Tryd.prog 34 3 3 := FO.of (k := 1) Tryd.underlying34 rfl rfl rfl (by kernel_rfl) (by decide)
instance : FV Tryd.prog 34 3 3 1 false := FV.of1 (ft := 3) Tryd.underlying34 rfl rfl rfl inferInstance
instance : Bd Tryd.prog 35 [(0, 3), (3, 4), (7, 1)] [.int .i64 0, .int .i64 0, .int .i64 0, .int .i64 0, .int .i64 0, .int .i64 0, .int .i64 0, .int .i64 0] := ⟨fun _ => by kernel_rfl⟩
instance : FO Tryd.prog 35 0 0 := FO.of (k := 3) Tryd.underlying35 rfl rfl rfl (by kernel_rfl) (by decide)
instance : FV Tryd.prog 35 0 0 3 true := FV.ofk (ft := 23) Tryd.underlying35 rfl rfl rfl inferInstance
instance : FO Tryd.prog 35 1 3 := FO.of (k := 4) Tryd.underlying35 rfl rfl rfl (by kernel_rfl) (by decide)
instance : FV Tryd.prog 35 1 3 4 true := FV.ofk (ft := 34) Tryd.underlying35 rfl rfl rfl inferInstance
instance : FO Tryd.prog 35 2 7 := FO.of (k := 1) Tryd.underlying35 rfl rfl rfl (by kernel_rfl) (by decide)
instance : FV Tryd.prog 35 2 7 1 false := FV.of1 (ft := 3) Tryd.underlying35 rfl rfl rfl inferInstance
instance : Bd Tryd.prog 36 [(0, 3), (3, 4), (7, 1)] [.int .i64 0, .int .i64 0, .int .i64 0, .int .i64 0, .int .i64 0, .int .i64 0, .int .i64 0, .int .i64 0] := ⟨fun _ => by kernel_rfl⟩
instance : FO Tryd.prog 36 0 0 := FO.of (k := 3) Tryd.underlying36 rfl rfl rfl (by kernel_rfl) (by decide)
instance : FV Tryd.prog 36 0 0 3 true := FV.ofk (ft := 23) Tryd.underlying36 rfl rfl rfl inferInstance
instance : FO Tryd.prog 36 1 3 := FO.of (k := 4) Tryd.underlying36 rfl rfl rfl (by kernel_rfl) (by decide)
instance : FV Tryd.prog 36 1 3 4 true := FV.ofk (ft := 34) Tryd.underlying36 rfl rfl rfl inferInstance
instance : FO Tryd.prog 36 2 7 := FO.of (k := 1) Tryd.underlying36 rfl rfl rfl (by kernel_rfl) (by decide)
instance : FV Tryd.prog 36 2 7 1 false := FV.of1 (ft := 3) Tryd.underlying36 rfl rfl rfl inferInstance
instance : Bd Tryd.prog 38 [(0, 1), (1, 1), (2, 1), (3, 1)] [.int .i64 0, .int .i64 0, .int .i64 0, .int .i64 0] := ⟨fun _ => by kernel_rfl⟩
instance : FO Tryd.prog 38 0 0 := FO.of (k := 1) Tryd.underlying38 rfl rfl rfl (by kernel_rfl) (by decide)
instance : FV Tryd.prog 38 0 0 1 false := FV.of1 (ft := 3) Tryd.underlying38 rfl rfl rfl inferInstance
instance : FO Tryd.prog 38 1 1 := FO.of (k := 1) Tryd.underlying38 rfl rfl rfl (by kernel_rfl) (by decide)
instance : FV Tryd.prog 38 1 1 1 false := FV.of1 (ft := 3) Tryd.underlying38 rfl rfl rfl inferInstance
instance : FO Tryd.prog 38 2 2 := FO.of (k := 1) Tryd.underlying38 rfl rfl rfl (by kernel_rfl) (by decide)
instance : FV Tryd.prog 38 2 2 1 false := FV.of1 (ft := 3) Tryd.underlying38 rfl rfl rfl inferInstance
instance : FO Tryd.prog 38 3 3 := FO.of (k := 1) Tryd.underlying38 rfl rfl rfl (by kernel_rfl) (by decide)
instance : FV Tryd.prog 38 3 3 1 false := FV.of1 (ft := 3) Tryd.underlying38 rfl rfl rfl inferInstance
instance : Bd Tryd.prog 39 [(0, 3), (3, 4), (7, 1)] [.int .i64 0, .int .i64 0, .int .i64 0, .int .i64 0, .int .i64 0, .int .i64 0, .int .i64 0, .int .i64 0] := ⟨fun _ => by kernel_rfl⟩
instance : FO Tryd.prog 39 0 0 := FO.of (k := 3) Tryd.underlying39 rfl rfl rfl (by kernel_rfl) (by decide)
instance : FV Tryd.prog 39 0 0 3 true := FV.ofk (ft := 25) Tryd.underlying39 rfl rfl rfl inferInstance
instance : FO Tryd.prog 39 1 3 := FO.of (k := 4) Tryd.underlying39 rfl rfl rfl (by kernel_rfl) (by decide)
instance : FV Tryd.prog 39 1 3 4 true := FV.ofk (ft := 38) Tryd.underlying39 rfl rfl rfl inferInstance
instance : FO Tryd.prog 39 2 7 := FO.of (k := 1) Tryd.underlying39 rfl rfl rfl (by kernel_rfl) (by decide)
instance : FV Tryd.prog 39 2 7 1 false := FV.of1 (ft := 3) Tryd.underlying39 rfl rfl rfl inferInstance
instance : Bd Tryd.prog 40 [(0, 3), (3, 4), (7, 1)] [.int .i64 0, .int .i64 0, .int .i64 0, .int .i64 0, .int .i64 0, .int .i64 0, .int .i64 0, .int .i64 0] := ⟨fun _ => by kernel_rfl⟩
instance : FO Tryd.prog 40 0 0 := FO.of (k := 3) Tryd.underlying40 rfl rfl rfl (by kernel_rfl) (by decide)
instance : FV Tryd.prog 40 0 0 3 true := FV.ofk (ft := 25) Tryd.underlying40 rfl rfl rfl inferInstance
instance : FO Tryd.prog 40 1 3 := FO.of (k := 4) Tryd.underlying40 rfl rfl rfl (by kernel_rfl) (by decide)
instance : FV Tryd.prog 40 1 3 4 true := FV.ofk (ft := 38) Tryd.underlying40 rfl rfl rfl inferInstance
instance : FO Tryd.prog 40 2 7 := FO.of (k := 1) Tryd.underlying40 rfl rfl rfl (by kernel_rfl) (by decide)
instance : FV Tryd.prog 40 2 7 1 false := FV.of1 (ft := 3) Tryd.underlying40 rfl rfl rfl inferInstance
instance : Bd Tryd.prog 69 [(0, 3), (3, 1), (4, 4), (8, 1)] [.int .i64 0, .int .i64 0, .int .i64 0, .int .i64 0, .int .i64 0, .int .i64 0, .int .i64 0, .int .i64 0, .int .i64 0] := ⟨fun _ => by kernel_rfl⟩
instance : FO Tryd.prog 69 0 0 := FO.of (k := 3) Tryd.underlying69 rfl rfl rfl (by kernel_rfl) (by decide)
instance : FV Tryd.prog 69 0 0 3 true := FV.ofk (ft := 25) Tryd.underlying69 rfl rfl rfl inferInstance
instance : FO Tryd.prog 69 1 3 := FO.of (k := 1) Tryd.underlying69 rfl rfl rfl (by kernel_rfl) (by decide)
instance : FV Tryd.prog 69 1 3 1 false := FV.of1 (ft := 3) Tryd.underlying69 rfl rfl rfl inferInstance
instance : FO Tryd.prog 69 2 4 := FO.of (k := 4) Tryd.underlying69 rfl rfl rfl (by kernel_rfl) (by decide)
instance : FV Tryd.prog 69 2 4 4 true := FV.ofk (ft := 38) Tryd.underlying69 rfl rfl rfl inferInstance
instance : FO Tryd.prog 69 3 8 := FO.of (k := 1) Tryd.underlying69 rfl rfl rfl (by kernel_rfl) (by decide)
instance : FV Tryd.prog 69 3 8 1 false := FV.of1 (ft := 3) Tryd.underlying69 rfl rfl rfl inferInstance
instance : Bd Tryd.prog 70 [(0, 3), (3, 1), (4, 4), (8, 1)] [.int .i64 0, .int .i64 0, .int .i64 0, .int .i64 0, .int .i64 0, .int .i64 0, .int .i64 0, .int .i64 0, .int .i64 0] := ⟨fun _ => by kernel_rfl⟩
instance : FO Tryd.prog 70 0 0 := FO.of (k := 3) Tryd.underlying70 rfl rfl rfl (by kernel_rfl) (by decide)
instance : FV Tryd.prog 70 0 0 3 true := FV.ofk (ft := 25) Tryd.underlying70 rfl rfl rfl inferInstance
instance : FO Tryd.prog 70 1 3 := FO.of (k := 1) Tryd.underlying70 rfl rfl rfl (by kernel_rfl) (by decide)
instance : FV Tryd.prog 70 1 3 1 false := FV.of1 (ft := 3) Tryd.underlying70 rfl rfl rfl inferInstance
instance : FO Tryd.prog 70 2 4 := FO.of (k := 4) Tryd.underlying70 rfl rfl rfl (by kernel_rfl) (by decide)
instance : FV Tryd.prog 70 2 4 4 true := FV.ofk (ft := 38) Tryd.underlying70 rfl rfl rfl inferInstance
instance : FO Tryd.prog 70 3 8 := FO.of (k := 1) Tryd.underlying70 rfl rfl rfl (by kernel_rfl) (by decide)
instance : FV Tryd.prog 70 3 8 1 false := FV.of1 (ft := 3) Tryd.underlying70 rfl rfl rfl inferInstance
instance : ArT Tryd.prog 73 12 1 := ⟨_, Tryd.underlying73, by kernel_rfl⟩
instance : Bd Tryd.prog 74 [(0, 1)] [.pointer none] := ⟨fun _ => by kernel_rfl⟩
instance : FO Tryd.prog 74 0 0 := FO.of (k := 1) Tryd.underlying74 rfl rfl rfl (by kernel_rfl) (by decide)
instance : FV Tryd.prog 74 0 0 1 false := FV.of1 (ft := 17) Tryd.underlying74 rfl rfl rfl inferInstance
instance : Bd Tryd.prog 75 [(0, 1)] [.pointer none] := ⟨fun _ => by kernel_rfl⟩
instance : FO Tryd.prog 75 0 0 := FO.of (k := 1) Tryd.underlying75 rfl rfl rfl (by kernel_rfl) (by decide)
instance : FV Tryd.prog 75 0 0 1 false := FV.of1 (ft := 17) Tryd.underlying75 rfl rfl rfl inferInstance
instance : Bd Tryd.prog 88 [(0, 1), (1, 1), (2, 1), (3, 1)] [.pointer none, .pointer none, .pointer none, .string ByteArray.empty] := ⟨fun _ => by kernel_rfl⟩
instance : FO Tryd.prog 88 0 0 := FO.of (k := 1) Tryd.underlying88 rfl rfl rfl (by kernel_rfl) (by decide)
instance : FV Tryd.prog 88 0 0 1 false := FV.of1 (ft := 17) Tryd.underlying88 rfl rfl rfl inferInstance
instance : FO Tryd.prog 88 1 1 := FO.of (k := 1) Tryd.underlying88 rfl rfl rfl (by kernel_rfl) (by decide)
instance : FV Tryd.prog 88 1 1 1 false := FV.of1 (ft := 17) Tryd.underlying88 rfl rfl rfl inferInstance
instance : FO Tryd.prog 88 2 2 := FO.of (k := 1) Tryd.underlying88 rfl rfl rfl (by kernel_rfl) (by decide)
instance : FV Tryd.prog 88 2 2 1 false := FV.of1 (ft := 17) Tryd.underlying88 rfl rfl rfl inferInstance
instance : FO Tryd.prog 88 3 3 := FO.of (k := 1) Tryd.underlying88 rfl rfl rfl (by kernel_rfl) (by decide)
instance : FV Tryd.prog 88 3 3 1 false := FV.of1 (ft := 9) Tryd.underlying88 rfl rfl rfl inferInstance
instance : Bd Tryd.prog 89 [(0, 1), (1, 1), (2, 1), (3, 1)] [.pointer none, .pointer none, .pointer none, .string ByteArray.empty] := ⟨fun _ => by kernel_rfl⟩
instance : FO Tryd.prog 89 0 0 := FO.of (k := 1) Tryd.underlying89 rfl rfl rfl (by kernel_rfl) (by decide)
instance : FV Tryd.prog 89 0 0 1 false := FV.of1 (ft := 17) Tryd.underlying89 rfl rfl rfl inferInstance
instance : FO Tryd.prog 89 1 1 := FO.of (k := 1) Tryd.underlying89 rfl rfl rfl (by kernel_rfl) (by decide)
instance : FV Tryd.prog 89 1 1 1 false := FV.of1 (ft := 17) Tryd.underlying89 rfl rfl rfl inferInstance
instance : FO Tryd.prog 89 2 2 := FO.of (k := 1) Tryd.underlying89 rfl rfl rfl (by kernel_rfl) (by decide)
instance : FV Tryd.prog 89 2 2 1 false := FV.of1 (ft := 17) Tryd.underlying89 rfl rfl rfl inferInstance
instance : FO Tryd.prog 89 3 3 := FO.of (k := 1) Tryd.underlying89 rfl rfl rfl (by kernel_rfl) (by decide)
instance : FV Tryd.prog 89 3 3 1 false := FV.of1 (ft := 9) Tryd.underlying89 rfl rfl rfl inferInstance
instance : ArT Tryd.prog 90 0 1 := ⟨_, Tryd.underlying90, by kernel_rfl⟩
instance : Bd Tryd.prog 91 [(0, 0)] [] := ⟨fun _ => by kernel_rfl⟩
instance : Bd Tryd.prog 92 [(0, 0)] [] := ⟨fun _ => by kernel_rfl⟩
instance : Bd Tryd.prog 100 [(0, 1), (1, 1), (2, 1), (3, 1), (4, 1), (5, 1), (6, 1), (7, 1), (8, 1), (9, 1), (10, 1)] [.int .u64 0, .int .u64 0, .int .u32 0, .int .u8 0, .int .u8 0, .int .u8 0, .int .u8 0, .nilFunc, .pointer none, .int .i32 0, .int .i32 0] := ⟨fun _ => by kernel_rfl⟩
instance : FO Tryd.prog 100 0 0 := FO.of (k := 1) Tryd.underlying100 rfl rfl rfl (by kernel_rfl) (by decide)
instance : FV Tryd.prog 100 0 0 1 false := FV.of1 (ft := 12) Tryd.underlying100 rfl rfl rfl inferInstance
instance : FO Tryd.prog 100 1 1 := FO.of (k := 1) Tryd.underlying100 rfl rfl rfl (by kernel_rfl) (by decide)
instance : FV Tryd.prog 100 1 1 1 false := FV.of1 (ft := 12) Tryd.underlying100 rfl rfl rfl inferInstance
instance : FO Tryd.prog 100 2 2 := FO.of (k := 1) Tryd.underlying100 rfl rfl rfl (by kernel_rfl) (by decide)
instance : FV Tryd.prog 100 2 2 1 false := FV.of1 (ft := 93) Tryd.underlying100 rfl rfl rfl inferInstance
instance : FO Tryd.prog 100 3 3 := FO.of (k := 1) Tryd.underlying100 rfl rfl rfl (by kernel_rfl) (by decide)
instance : FV Tryd.prog 100 3 3 1 false := FV.of1 (ft := 94) Tryd.underlying100 rfl rfl rfl inferInstance
instance : FO Tryd.prog 100 4 4 := FO.of (k := 1) Tryd.underlying100 rfl rfl rfl (by kernel_rfl) (by decide)
instance : FV Tryd.prog 100 4 4 1 false := FV.of1 (ft := 5) Tryd.underlying100 rfl rfl rfl inferInstance
instance : FO Tryd.prog 100 5 5 := FO.of (k := 1) Tryd.underlying100 rfl rfl rfl (by kernel_rfl) (by decide)
instance : FV Tryd.prog 100 5 5 1 false := FV.of1 (ft := 5) Tryd.underlying100 rfl rfl rfl inferInstance
instance : FO Tryd.prog 100 6 6 := FO.of (k := 1) Tryd.underlying100 rfl rfl rfl (by kernel_rfl) (by decide)
instance : FV Tryd.prog 100 6 6 1 false := FV.of1 (ft := 95) Tryd.underlying100 rfl rfl rfl inferInstance
instance : FO Tryd.prog 100 7 7 := FO.of (k := 1) Tryd.underlying100 rfl rfl rfl (by kernel_rfl) (by decide)
instance : FV Tryd.prog 100 7 7 1 false := FV.of1 (ft := 96) Tryd.underlying100 rfl rfl rfl inferInstance
instance : FO Tryd.prog 100 8 8 := FO.of (k := 1) Tryd.underlying100 rfl rfl rfl (by kernel_rfl) (by decide)
instance : FV Tryd.prog 100 8 8 1 false := FV.of1 (ft := 97) Tryd.underlying100 rfl rfl rfl inferInstance
instance : FO Tryd.prog 100 9 9 := FO.of (k := 1) Tryd.underlying100 rfl rfl rfl (by kernel_rfl) (by decide)
instance : FV Tryd.prog 100 9 9 1 false := FV.of1 (ft := 98) Tryd.underlying100 rfl rfl rfl inferInstance
instance : FO Tryd.prog 100 10 10 := FO.of (k := 1) Tryd.underlying100 rfl rfl rfl (by kernel_rfl) (by decide)
instance : FV Tryd.prog 100 10 10 1 false := FV.of1 (ft := 99) Tryd.underlying100 rfl rfl rfl inferInstance
instance : Bd Tryd.prog 101 [(0, 1), (1, 1), (2, 1), (3, 1), (4, 1), (5, 1), (6, 1), (7, 1), (8, 1), (9, 1), (10, 1)] [.int .u64 0, .int .u64 0, .int .u32 0, .int .u8 0, .int .u8 0, .int .u8 0, .int .u8 0, .nilFunc, .pointer none, .int .i32 0, .int .i32 0] := ⟨fun _ => by kernel_rfl⟩
instance : FO Tryd.prog 101 0 0 := FO.of (k := 1) Tryd.underlying101 rfl rfl rfl (by kernel_rfl) (by decide)
instance : FV Tryd.prog 101 0 0 1 false := FV.of1 (ft := 12) Tryd.underlying101 rfl rfl rfl inferInstance
instance : FO Tryd.prog 101 1 1 := FO.of (k := 1) Tryd.underlying101 rfl rfl rfl (by kernel_rfl) (by decide)
instance : FV Tryd.prog 101 1 1 1 false := FV.of1 (ft := 12) Tryd.underlying101 rfl rfl rfl inferInstance
instance : FO Tryd.prog 101 2 2 := FO.of (k := 1) Tryd.underlying101 rfl rfl rfl (by kernel_rfl) (by decide)
instance : FV Tryd.prog 101 2 2 1 false := FV.of1 (ft := 93) Tryd.underlying101 rfl rfl rfl inferInstance
instance : FO Tryd.prog 101 3 3 := FO.of (k := 1) Tryd.underlying101 rfl rfl rfl (by kernel_rfl) (by decide)
instance : FV Tryd.prog 101 3 3 1 false := FV.of1 (ft := 94) Tryd.underlying101 rfl rfl rfl inferInstance
instance : FO Tryd.prog 101 4 4 := FO.of (k := 1) Tryd.underlying101 rfl rfl rfl (by kernel_rfl) (by decide)
instance : FV Tryd.prog 101 4 4 1 false := FV.of1 (ft := 5) Tryd.underlying101 rfl rfl rfl inferInstance
instance : FO Tryd.prog 101 5 5 := FO.of (k := 1) Tryd.underlying101 rfl rfl rfl (by kernel_rfl) (by decide)
instance : FV Tryd.prog 101 5 5 1 false := FV.of1 (ft := 5) Tryd.underlying101 rfl rfl rfl inferInstance
instance : FO Tryd.prog 101 6 6 := FO.of (k := 1) Tryd.underlying101 rfl rfl rfl (by kernel_rfl) (by decide)
instance : FV Tryd.prog 101 6 6 1 false := FV.of1 (ft := 95) Tryd.underlying101 rfl rfl rfl inferInstance
instance : FO Tryd.prog 101 7 7 := FO.of (k := 1) Tryd.underlying101 rfl rfl rfl (by kernel_rfl) (by decide)
instance : FV Tryd.prog 101 7 7 1 false := FV.of1 (ft := 96) Tryd.underlying101 rfl rfl rfl inferInstance
instance : FO Tryd.prog 101 8 8 := FO.of (k := 1) Tryd.underlying101 rfl rfl rfl (by kernel_rfl) (by decide)
instance : FV Tryd.prog 101 8 8 1 false := FV.of1 (ft := 97) Tryd.underlying101 rfl rfl rfl inferInstance
instance : FO Tryd.prog 101 9 9 := FO.of (k := 1) Tryd.underlying101 rfl rfl rfl (by kernel_rfl) (by decide)
instance : FV Tryd.prog 101 9 9 1 false := FV.of1 (ft := 98) Tryd.underlying101 rfl rfl rfl inferInstance
instance : FO Tryd.prog 101 10 10 := FO.of (k := 1) Tryd.underlying101 rfl rfl rfl (by kernel_rfl) (by decide)
instance : FV Tryd.prog 101 10 10 1 false := FV.of1 (ft := 99) Tryd.underlying101 rfl rfl rfl inferInstance
instance : Bd Tryd.prog 108 [(0, 1), (1, 1)] [.string ByteArray.empty, .int .u8 0] := ⟨fun _ => by kernel_rfl⟩
instance : FO Tryd.prog 108 0 0 := FO.of (k := 1) Tryd.underlying108 rfl rfl rfl (by kernel_rfl) (by decide)
instance : FV Tryd.prog 108 0 0 1 false := FV.of1 (ft := 9) Tryd.underlying108 rfl rfl rfl inferInstance
instance : FO Tryd.prog 108 1 1 := FO.of (k := 1) Tryd.underlying108 rfl rfl rfl (by kernel_rfl) (by decide)
instance : FV Tryd.prog 108 1 1 1 false := FV.of1 (ft := 95) Tryd.underlying108 rfl rfl rfl inferInstance
instance : Bd Tryd.prog 109 [(0, 1), (1, 1)] [.string ByteArray.empty, .int .u8 0] := ⟨fun _ => by kernel_rfl⟩
instance : FO Tryd.prog 109 0 0 := FO.of (k := 1) Tryd.underlying109 rfl rfl rfl (by kernel_rfl) (by decide)
instance : FV Tryd.prog 109 0 0 1 false := FV.of1 (ft := 9) Tryd.underlying109 rfl rfl rfl inferInstance
instance : FO Tryd.prog 109 1 1 := FO.of (k := 1) Tryd.underlying109 rfl rfl rfl (by kernel_rfl) (by decide)
instance : FV Tryd.prog 109 1 1 1 false := FV.of1 (ft := 95) Tryd.underlying109 rfl rfl rfl inferInstance
instance : Bd Tryd.prog 110 [(0, 1)] [.string ByteArray.empty] := ⟨fun _ => by kernel_rfl⟩
instance : FO Tryd.prog 110 0 0 := FO.of (k := 1) Tryd.underlying110 rfl rfl rfl (by kernel_rfl) (by decide)
instance : FV Tryd.prog 110 0 0 1 false := FV.of1 (ft := 9) Tryd.underlying110 rfl rfl rfl inferInstance
instance : Bd Tryd.prog 111 [(0, 1)] [.string ByteArray.empty] := ⟨fun _ => by kernel_rfl⟩
instance : FO Tryd.prog 111 0 0 := FO.of (k := 1) Tryd.underlying111 rfl rfl rfl (by kernel_rfl) (by decide)
instance : FV Tryd.prog 111 0 0 1 false := FV.of1 (ft := 9) Tryd.underlying111 rfl rfl rfl inferInstance
instance : Bd Tryd.prog 116 [(0, 1), (1, 1), (2, 1), (3, 1), (4, 1)] [.int .i32 0, .int .u16 0, .int .u16 0, .int .u32 0, .int .u32 0] := ⟨fun _ => by kernel_rfl⟩
instance : FO Tryd.prog 116 0 0 := FO.of (k := 1) Tryd.underlying116 rfl rfl rfl (by kernel_rfl) (by decide)
instance : FV Tryd.prog 116 0 0 1 false := FV.of1 (ft := 98) Tryd.underlying116 rfl rfl rfl inferInstance
instance : FO Tryd.prog 116 1 1 := FO.of (k := 1) Tryd.underlying116 rfl rfl rfl (by kernel_rfl) (by decide)
instance : FV Tryd.prog 116 1 1 1 false := FV.of1 (ft := 115) Tryd.underlying116 rfl rfl rfl inferInstance
instance : FO Tryd.prog 116 2 2 := FO.of (k := 1) Tryd.underlying116 rfl rfl rfl (by kernel_rfl) (by decide)
instance : FV Tryd.prog 116 2 2 1 false := FV.of1 (ft := 115) Tryd.underlying116 rfl rfl rfl inferInstance
instance : FO Tryd.prog 116 3 3 := FO.of (k := 1) Tryd.underlying116 rfl rfl rfl (by kernel_rfl) (by decide)
instance : FV Tryd.prog 116 3 3 1 false := FV.of1 (ft := 93) Tryd.underlying116 rfl rfl rfl inferInstance
instance : FO Tryd.prog 116 4 4 := FO.of (k := 1) Tryd.underlying116 rfl rfl rfl (by kernel_rfl) (by decide)
instance : FV Tryd.prog 116 4 4 1 false := FV.of1 (ft := 93) Tryd.underlying116 rfl rfl rfl inferInstance
instance : Bd Tryd.prog 117 [(0, 1), (1, 1), (2, 1), (3, 1), (4, 1)] [.int .i32 0, .int .u16 0, .int .u16 0, .int .u32 0, .int .u32 0] := ⟨fun _ => by kernel_rfl⟩
instance : FO Tryd.prog 117 0 0 := FO.of (k := 1) Tryd.underlying117 rfl rfl rfl (by kernel_rfl) (by decide)
instance : FV Tryd.prog 117 0 0 1 false := FV.of1 (ft := 98) Tryd.underlying117 rfl rfl rfl inferInstance
instance : FO Tryd.prog 117 1 1 := FO.of (k := 1) Tryd.underlying117 rfl rfl rfl (by kernel_rfl) (by decide)
instance : FV Tryd.prog 117 1 1 1 false := FV.of1 (ft := 115) Tryd.underlying117 rfl rfl rfl inferInstance
instance : FO Tryd.prog 117 2 2 := FO.of (k := 1) Tryd.underlying117 rfl rfl rfl (by kernel_rfl) (by decide)
instance : FV Tryd.prog 117 2 2 1 false := FV.of1 (ft := 115) Tryd.underlying117 rfl rfl rfl inferInstance
instance : FO Tryd.prog 117 3 3 := FO.of (k := 1) Tryd.underlying117 rfl rfl rfl (by kernel_rfl) (by decide)
instance : FV Tryd.prog 117 3 3 1 false := FV.of1 (ft := 93) Tryd.underlying117 rfl rfl rfl inferInstance
instance : FO Tryd.prog 117 4 4 := FO.of (k := 1) Tryd.underlying117 rfl rfl rfl (by kernel_rfl) (by decide)
instance : FV Tryd.prog 117 4 4 1 false := FV.of1 (ft := 93) Tryd.underlying117 rfl rfl rfl inferInstance
instance : Bd Tryd.prog 120 [(0, 1), (1, 1), (2, 1), (3, 1)] [.int .i32 0, .int .i32 0, .int .i32 0, .int .i32 0] := ⟨fun _ => by kernel_rfl⟩
instance : FO Tryd.prog 120 0 0 := FO.of (k := 1) Tryd.underlying120 rfl rfl rfl (by kernel_rfl) (by decide)
instance : FV Tryd.prog 120 0 0 1 false := FV.of1 (ft := 98) Tryd.underlying120 rfl rfl rfl inferInstance
instance : FO Tryd.prog 120 1 1 := FO.of (k := 1) Tryd.underlying120 rfl rfl rfl (by kernel_rfl) (by decide)
instance : FV Tryd.prog 120 1 1 1 false := FV.of1 (ft := 99) Tryd.underlying120 rfl rfl rfl inferInstance
instance : FO Tryd.prog 120 2 2 := FO.of (k := 1) Tryd.underlying120 rfl rfl rfl (by kernel_rfl) (by decide)
instance : FV Tryd.prog 120 2 2 1 false := FV.of1 (ft := 119) Tryd.underlying120 rfl rfl rfl inferInstance
instance : FO Tryd.prog 120 3 3 := FO.of (k := 1) Tryd.underlying120 rfl rfl rfl (by kernel_rfl) (by decide)
instance : FV Tryd.prog 120 3 3 1 false := FV.of1 (ft := 119) Tryd.underlying120 rfl rfl rfl inferInstance
instance : Bd Tryd.prog 121 [(0, 1), (1, 1), (2, 1), (3, 1)] [.int .i32 0, .int .i32 0, .int .i32 0, .int .i32 0] := ⟨fun _ => by kernel_rfl⟩
instance : FO Tryd.prog 121 0 0 := FO.of (k := 1) Tryd.underlying121 rfl rfl rfl (by kernel_rfl) (by decide)
instance : FV Tryd.prog 121 0 0 1 false := FV.of1 (ft := 98) Tryd.underlying121 rfl rfl rfl inferInstance
instance : FO Tryd.prog 121 1 1 := FO.of (k := 1) Tryd.underlying121 rfl rfl rfl (by kernel_rfl) (by decide)
instance : FV Tryd.prog 121 1 1 1 false := FV.of1 (ft := 99) Tryd.underlying121 rfl rfl rfl inferInstance
instance : FO Tryd.prog 121 2 2 := FO.of (k := 1) Tryd.underlying121 rfl rfl rfl (by kernel_rfl) (by decide)
instance : FV Tryd.prog 121 2 2 1 false := FV.of1 (ft := 119) Tryd.underlying121 rfl rfl rfl inferInstance
instance : FO Tryd.prog 121 3 3 := FO.of (k := 1) Tryd.underlying121 rfl rfl rfl (by kernel_rfl) (by decide)
instance : FV Tryd.prog 121 3 3 1 false := FV.of1 (ft := 119) Tryd.underlying121 rfl rfl rfl inferInstance
instance : Ent Tryd.prog 2 := .of Tryd.func2 (by kernel_rfl) rfl
instance : Ent Tryd.prog 3 := .of Tryd.func3 (by kernel_rfl) rfl
instance : Ent Tryd.prog 4 := .of Tryd.func4 (by kernel_rfl) rfl
instance : Ent Tryd.prog 5 := .of Tryd.func5 (by kernel_rfl) rfl
instance : Ent Tryd.prog 6 := .of Tryd.func6 (by kernel_rfl) rfl
instance : Ent Tryd.prog 7 := .of Tryd.func7 (by kernel_rfl) rfl
instance : Ent Tryd.prog 8 := .of Tryd.func8 (by kernel_rfl) rfl
instance : Ent Tryd.prog 9 := .of Tryd.func9 (by kernel_rfl) rfl
instance : Ent Tryd.prog 10 := .of Tryd.func10 (by kernel_rfl) rfl
instance : Ent Tryd.prog 11 := .of Tryd.func11 (by kernel_rfl) rfl
instance : Ent Tryd.prog 12 := .of Tryd.func12 (by kernel_rfl) rfl
instance : Ent Tryd.prog 13 := .of Tryd.func13 (by kernel_rfl) rfl
instance : Ent Tryd.prog 14 := .of Tryd.func14 (by kernel_rfl) rfl
instance : Ent Tryd.prog 15 := .of Tryd.func15 (by kernel_rfl) rfl
instance : Ent Tryd.prog 16 := .of Tryd.func16 (by kernel_rfl) rfl
instance : Ent Tryd.prog 17 := .of Tryd.func17 (by kernel_rfl) rfl
instance : Ent Tryd.prog 18 := .of Tryd.func18 (by kernel_rfl) rfl
instance : Ent Tryd.prog 19 := .of Tryd.func19 (by kernel_rfl) rfl
instance : Ent Tryd.prog 20 := .of Tryd.func20 (by kernel_rfl) rfl
instance : Ent Tryd.prog 21 := .of Tryd.func21 (by kernel_rfl) rfl
instance : Ent Tryd.prog 22 := .of Tryd.func22 (by kernel_rfl) rfl
instance : Ent Tryd.prog 23 := .of Tryd.func23 (by kernel_rfl) rfl
instance : Ent Tryd.prog 24 := .of Tryd.func24 (by kernel_rfl) rfl
instance : Ent Tryd.prog 25 := .of Tryd.func25 (by kernel_rfl) rfl
instance : Ent Tryd.prog 26 := .of Tryd.func26 (by kernel_rfl) rfl
instance : Ent Tryd.prog 27 := .of Tryd.func27 (by kernel_rfl) rfl
instance : Ent Tryd.prog 28 := .of Tryd.func28 (by kernel_rfl) rfl
instance : Ent Tryd.prog 29 := .of Tryd.func29 (by kernel_rfl) rfl
instance : Ent Tryd.prog 30 := .of Tryd.func30 (by kernel_rfl) rfl
instance : Ent Tryd.prog 31 := .of Tryd.func31 (by kernel_rfl) rfl
instance : Ent Tryd.prog 32 := .of Tryd.func32 (by kernel_rfl) rfl
instance : Ent Tryd.prog 33 := .of Tryd.func33 (by kernel_rfl) rfl
instance : Ent Tryd.prog 34 := .of Tryd.func34 (by kernel_rfl) rfl
instance : Ent Tryd.prog 35 := .of Tryd.func35 (by kernel_rfl) rfl
instance : Ent Tryd.prog 36 := .of Tryd.func36 (by kernel_rfl) rfl
instance : Ent Tryd.prog 37 := .of Tryd.func37 (by kernel_rfl) rfl
instance : Ent Tryd.prog 38 := .of Tryd.func38 (by kernel_rfl) rfl
instance : Ent Tryd.prog 39 := .of Tryd.func39 (by kernel_rfl) rfl
instance : Ent Tryd.prog 41 := .of Tryd.func41 (by kernel_rfl) rfl
instance : Ent Tryd.prog 42 := .of Tryd.func42 (by kernel_rfl) rfl
instance : Ent Tryd.prog 43 := .of Tryd.func43 (by kernel_rfl) rfl
instance : Ent Tryd.prog 44 := .of Tryd.func44 (by kernel_rfl) rfl
instance : Ent Tryd.prog 45 := .of Tryd.func45 (by kernel_rfl) rfl
instance : Ent Tryd.prog 46 := .of Tryd.func46 (by kernel_rfl) rfl
instance : Ent Tryd.prog 47 := .of Tryd.func47 (by kernel_rfl) rfl
instance : Ent Tryd.prog 48 := .of Tryd.func48 (by kernel_rfl) rfl
instance : Ent Tryd.prog 49 := .of Tryd.func49 (by kernel_rfl) rfl
instance : Ent Tryd.prog 50 := .of Tryd.func50 (by kernel_rfl) rfl
instance : Ent Tryd.prog 51 := .of Tryd.func51 (by kernel_rfl) rfl
instance : Ent Tryd.prog 52 := .of Tryd.func52 (by kernel_rfl) rfl
instance : Ent Tryd.prog 53 := .of Tryd.func53 (by kernel_rfl) rfl
instance : Ent Tryd.prog 54 := .of Tryd.func54 (by kernel_rfl) rfl
instance : Ent Tryd.prog 55 := .of Tryd.func55 (by kernel_rfl) rfl
instance : Ent Tryd.prog 87 := .of Tryd.func87 (by kernel_rfl) rfl
instance : Ent Tryd.prog 92 := .of Tryd.func92 (by kernel_rfl) rfl

end D
end Go.Proofs.YtbpdhehjnhefhaaDoor
