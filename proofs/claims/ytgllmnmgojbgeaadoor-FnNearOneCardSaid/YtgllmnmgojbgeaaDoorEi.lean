/- The engine, part 7: what the program's types and functions are (closed facts). -/
import Derived.Test.YtgllmnmgojbgeaaDoorEw
import Derived.Test.YtgllmnmgojbgeaaDoorProg
namespace Go.Proofs.YtgllmnmgojbgeaaDoor
set_option linter.unusedVariables false
set_option linter.unusedSimpArgs false
namespace D
open Go.RowKit

variable {P : Program}
theorem fieldPlace_run {fd : Field} {k : Nat} (hz : (P.info? fd.type).map (·.size) = some k) (hk : k ≠ 0) (b o : Nat) (w : World) : (fieldPlace ⟨b, o, none⟩ fd).run P w = .ok ⟨b, o + fd.offset, none⟩ w := by
  simp [fieldPlace, run_sizeOf hz, hk, add_plain]
theorem FO.of {s f off ft : Nat} {fs : Array Field} {fd : Field} {k : Nat} (hu : P.underlying s = some (.struct fs)) (hf : fs[f]? = some fd) (ho : fd.offset = off) (ht : fd.type = ft) (hz : (P.info? ft).map (·.size) = some k) (hk : k ≠ 0) : FO P s f off := by
  subst ho; subst ht
  exact ⟨fun b o w => by simp [Instr.fieldAt, run_underlying hu, hf, Instr.sureAddr, fieldPlace_run hz hk]⟩
theorem FV.of1 {s f off ft : Nat} {fs : Array Field} {fd : Field} (hu : P.underlying s = some (.struct fs)) (hf : fs[f]? = some fd) (ho : fd.offset = off) (ht : fd.type = ft) (i : Sc P ft) : FV P s f off 1 false := by
  subst ho; subst ht
  exact ⟨fun us w => by
    simp only [Instr.field, Sem.run_bind, run_underlying hu, Result.andThen_ok, hf, part, asAgg, run_isAgg_sc, Sem.run_pure]
    simp
    cases us[fd.offset]? <;> rfl⟩
theorem FV.ofk {s f off ft : Nat} {fs : Array Field} {fd : Field} {k : Nat} (hu : P.underlying s = some (.struct fs)) (hf : fs[f]? = some fd) (ho : fd.offset = off) (ht : fd.type = ft) (i : Ag P ft k) : FV P s f off k true := by
  subst ho; subst ht
  exact ⟨fun us w => by
    simp only [Instr.field, Sem.run_bind, run_underlying hu, Result.andThen_ok, hf, part, asAgg, run_isAgg_ag, Sem.run_pure, run_sizeOf i.sz]
    simp [run_sizeOf i.sz]⟩

instance : Sc Tryd.prog 1 := ⟨_, Tryd.underlying1, rfl⟩
instance : Sz Tryd.prog 1 1 := ⟨by kernel_rfl⟩
instance : Zr Tryd.prog 1 [.nilFunc] := ⟨by kernel_rfl⟩
instance : Sc Tryd.prog 2 := ⟨_, Tryd.underlying2, rfl⟩
instance : Sz Tryd.prog 2 1 := ⟨by kernel_rfl⟩
instance : Zr Tryd.prog 2 [.int .i64 0] := ⟨by kernel_rfl⟩
instance : I64 Tryd.prog 2 := ⟨Tryd.underlying2⟩
instance : Sc Tryd.prog 3 := ⟨_, Tryd.underlying3, rfl⟩
instance : Sz Tryd.prog 3 1 := ⟨by kernel_rfl⟩
instance : Zr Tryd.prog 3 [.int .i64 0] := ⟨by kernel_rfl⟩
instance : I64 Tryd.prog 3 := ⟨Tryd.underlying3⟩
instance : Sc Tryd.prog 4 := ⟨_, Tryd.underlying4, rfl⟩
instance : Sz Tryd.prog 4 1 := ⟨by kernel_rfl⟩
instance : Zr Tryd.prog 4 [.bool false] := ⟨by kernel_rfl⟩
instance : BoT Tryd.prog 4 := ⟨Tryd.underlying4⟩
instance : Sc Tryd.prog 5 := ⟨_, Tryd.underlying5, rfl⟩
instance : Sz Tryd.prog 5 1 := ⟨by kernel_rfl⟩
instance : Zr Tryd.prog 5 [.int .u8 0] := ⟨by kernel_rfl⟩
instance : Sc Tryd.prog 6 := ⟨_, Tryd.underlying6, rfl⟩
instance : Sz Tryd.prog 6 1 := ⟨by kernel_rfl⟩
instance : Zr Tryd.prog 6 [.int .u8 0] := ⟨by kernel_rfl⟩
instance : Ag Tryd.prog 7 4 := ⟨⟨_, Tryd.underlying7, rfl⟩, by kernel_rfl⟩
instance : Sz Tryd.prog 7 4 := ⟨by kernel_rfl⟩
instance : Zr Tryd.prog 7 [.int .i64 0, .int .i64 0, .bool false, .int .u8 0] := ⟨by kernel_rfl⟩
instance : Ag Tryd.prog 8 4 := ⟨⟨_, Tryd.underlying8, rfl⟩, by kernel_rfl⟩
instance : Sz Tryd.prog 8 4 := ⟨by kernel_rfl⟩
instance : Zr Tryd.prog 8 [.int .i64 0, .int .i64 0, .bool false, .int .u8 0] := ⟨by kernel_rfl⟩
instance : Sc Tryd.prog 9 := ⟨_, Tryd.underlying9, rfl⟩
instance : Sz Tryd.prog 9 1 := ⟨by kernel_rfl⟩
instance : Zr Tryd.prog 9 [.string ByteArray.empty] := ⟨by kernel_rfl⟩
instance : StT Tryd.prog 9 := ⟨Tryd.underlying9⟩
instance : Sc Tryd.prog 10 := ⟨_, Tryd.underlying10, rfl⟩
instance : Sz Tryd.prog 10 1 := ⟨by kernel_rfl⟩
instance : Zr Tryd.prog 10 [.string ByteArray.empty] := ⟨by kernel_rfl⟩
instance : StT Tryd.prog 10 := ⟨Tryd.underlying10⟩
instance : Sc Tryd.prog 11 := ⟨_, Tryd.underlying11, rfl⟩
instance : Sz Tryd.prog 11 1 := ⟨by kernel_rfl⟩
instance : Zr Tryd.prog 11 [.string ByteArray.empty] := ⟨by kernel_rfl⟩
instance : StT Tryd.prog 11 := ⟨Tryd.underlying11⟩
instance : Sc Tryd.prog 12 := ⟨_, Tryd.underlying12, rfl⟩
instance : Sz Tryd.prog 12 1 := ⟨by kernel_rfl⟩
instance : Zr Tryd.prog 12 [.int .u64 0] := ⟨by kernel_rfl⟩
instance : Ag Tryd.prog 13 2 := ⟨⟨_, Tryd.underlying13, rfl⟩, by kernel_rfl⟩
instance : Sz Tryd.prog 13 2 := ⟨by kernel_rfl⟩
instance : Zr Tryd.prog 13 [.string ByteArray.empty, .int .u64 0] := ⟨by kernel_rfl⟩
instance : Ag Tryd.prog 14 2 := ⟨⟨_, Tryd.underlying14, rfl⟩, by kernel_rfl⟩
instance : Sz Tryd.prog 14 2 := ⟨by kernel_rfl⟩
instance : Zr Tryd.prog 14 [.string ByteArray.empty, .int .u64 0] := ⟨by kernel_rfl⟩
instance : Sc Tryd.prog 15 := ⟨_, Tryd.underlying15, rfl⟩
instance : Sz Tryd.prog 15 1 := ⟨by kernel_rfl⟩
instance : Zr Tryd.prog 15 [.pointer none] := ⟨by kernel_rfl⟩
instance : Sc Tryd.prog 16 := ⟨_, Tryd.underlying16, rfl⟩
instance : Sz Tryd.prog 16 1 := ⟨by kernel_rfl⟩
instance : Zr Tryd.prog 16 [.pointer none] := ⟨by kernel_rfl⟩
instance : Sc Tryd.prog 17 := ⟨_, Tryd.underlying17, rfl⟩
instance : Sz Tryd.prog 17 1 := ⟨by kernel_rfl⟩
instance : Zr Tryd.prog 17 [.pointer none] := ⟨by kernel_rfl⟩
instance : Ag Tryd.prog 18 1 := ⟨⟨_, Tryd.underlying18, rfl⟩, by kernel_rfl⟩
instance : Sz Tryd.prog 18 1 := ⟨by kernel_rfl⟩
instance : Zr Tryd.prog 18 [.pointer none] := ⟨by kernel_rfl⟩
instance : Ag Tryd.prog 19 1 := ⟨⟨_, Tryd.underlying19, rfl⟩, by kernel_rfl⟩
instance : Sz Tryd.prog 19 1 := ⟨by kernel_rfl⟩
instance : Zr Tryd.prog 19 [.pointer none] := ⟨by kernel_rfl⟩
instance : Sc Tryd.prog 20 := ⟨_, Tryd.underlying20, rfl⟩
instance : Sz Tryd.prog 20 1 := ⟨by kernel_rfl⟩
instance : Zr Tryd.prog 20 [.nilIface] := ⟨by kernel_rfl⟩
instance : Sc Tryd.prog 21 := ⟨_, Tryd.underlying21, rfl⟩
instance : Sz Tryd.prog 21 1 := ⟨by kernel_rfl⟩
instance : Zr Tryd.prog 21 [.int .i32 0] := ⟨by kernel_rfl⟩
instance : Sc Tryd.prog 22 := ⟨_, Tryd.underlying22, rfl⟩
instance : Sz Tryd.prog 22 1 := ⟨by kernel_rfl⟩
instance : Zr Tryd.prog 22 [.slice none 0 0] := ⟨by kernel_rfl⟩
instance : SlT Tryd.prog 22 5 1 := ⟨Tryd.underlying22, by kernel_rfl⟩
instance : Ag Tryd.prog 23 3 := ⟨⟨_, Tryd.underlying23, rfl⟩, by kernel_rfl⟩
instance : Sz Tryd.prog 23 3 := ⟨by kernel_rfl⟩
instance : Zr Tryd.prog 23 [.int .i64 0, .int .i64 0, .int .i64 0] := ⟨by kernel_rfl⟩
instance : Ag Tryd.prog 24 3 := ⟨⟨_, Tryd.underlying24, rfl⟩, by kernel_rfl⟩
instance : Sz Tryd.prog 24 3 := ⟨by kernel_rfl⟩
instance : Zr Tryd.prog 24 [.int .i64 0, .int .i64 0, .int .i64 0] := ⟨by kernel_rfl⟩
instance : Sc Tryd.prog 26 := ⟨_, Tryd.underlying26, rfl⟩
instance : Sz Tryd.prog 26 1 := ⟨by kernel_rfl⟩
instance : Zr Tryd.prog 26 [.nilFunc] := ⟨by kernel_rfl⟩
instance : Ag Tryd.prog 27 6 := ⟨⟨_, Tryd.underlying27, rfl⟩, by kernel_rfl⟩
instance : Sz Tryd.prog 27 6 := ⟨by kernel_rfl⟩
instance : Zr Tryd.prog 27 [.int .i64 0, .int .i64 0, .int .i64 0, .int .i64 0, .int .i64 0, .int .i64 0] := ⟨by kernel_rfl⟩
instance : Ag Tryd.prog 28 6 := ⟨⟨_, Tryd.underlying28, rfl⟩, by kernel_rfl⟩
instance : Sz Tryd.prog 28 6 := ⟨by kernel_rfl⟩
instance : Zr Tryd.prog 28 [.int .i64 0, .int .i64 0, .int .i64 0, .int .i64 0, .int .i64 0, .int .i64 0] := ⟨by kernel_rfl⟩
instance : Sc Tryd.prog 30 := ⟨_, Tryd.underlying30, rfl⟩
instance : Sz Tryd.prog 30 1 := ⟨by kernel_rfl⟩
instance : Zr Tryd.prog 30 [.nilFunc] := ⟨by kernel_rfl⟩
instance : Sc Tryd.prog 32 := ⟨_, Tryd.underlying32, rfl⟩
instance : Sz Tryd.prog 32 1 := ⟨by kernel_rfl⟩
instance : Zr Tryd.prog 32 [.nilFunc] := ⟨by kernel_rfl⟩
instance : Sc Tryd.prog 33 := ⟨_, Tryd.underlying33, rfl⟩
instance : Sz Tryd.prog 33 1 := ⟨by kernel_rfl⟩
instance : Zr Tryd.prog 33 [.nilFunc] := ⟨by kernel_rfl⟩
instance : Sc Tryd.prog 34 := ⟨_, Tryd.underlying34, rfl⟩
instance : Sz Tryd.prog 34 1 := ⟨by kernel_rfl⟩
instance : Zr Tryd.prog 34 [.nilFunc] := ⟨by kernel_rfl⟩
instance : Sc Tryd.prog 35 := ⟨_, Tryd.underlying35, rfl⟩
instance : Sz Tryd.prog 35 1 := ⟨by kernel_rfl⟩
instance : Zr Tryd.prog 35 [.nilFunc] := ⟨by kernel_rfl⟩
instance : Ag Tryd.prog 36 4 := ⟨⟨_, Tryd.underlying36, rfl⟩, by kernel_rfl⟩
instance : Sz Tryd.prog 36 4 := ⟨by kernel_rfl⟩
instance : Zr Tryd.prog 36 [.int .i64 0, .int .i64 0, .int .i64 0, .int .i64 0] := ⟨by kernel_rfl⟩
instance : Ag Tryd.prog 37 4 := ⟨⟨_, Tryd.underlying37, rfl⟩, by kernel_rfl⟩
instance : Sz Tryd.prog 37 4 := ⟨by kernel_rfl⟩
instance : Zr Tryd.prog 37 [.int .i64 0, .int .i64 0, .int .i64 0, .int .i64 0] := ⟨by kernel_rfl⟩
instance : Ag Tryd.prog 38 8 := ⟨⟨_, Tryd.underlying38, rfl⟩, by kernel_rfl⟩
instance : Sz Tryd.prog 38 8 := ⟨by kernel_rfl⟩
instance : Zr Tryd.prog 38 [.int .i64 0, .int .i64 0, .int .i64 0, .int .i64 0, .int .i64 0, .int .i64 0, .int .i64 0, .int .i64 0] := ⟨by kernel_rfl⟩
instance : Ag Tryd.prog 39 8 := ⟨⟨_, Tryd.underlying39, rfl⟩, by kernel_rfl⟩
instance : Sz Tryd.prog 39 8 := ⟨by kernel_rfl⟩
instance : Zr Tryd.prog 39 [.int .i64 0, .int .i64 0, .int .i64 0, .int .i64 0, .int .i64 0, .int .i64 0, .int .i64 0, .int .i64 0] := ⟨by kernel_rfl⟩
instance : Sc Tryd.prog 41 := ⟨_, Tryd.underlying41, rfl⟩
instance : Sz Tryd.prog 41 1 := ⟨by kernel_rfl⟩
instance : Zr Tryd.prog 41 [.nilFunc] := ⟨by kernel_rfl⟩
instance : Sc Tryd.prog 43 := ⟨_, Tryd.underlying43, rfl⟩
instance : Sz Tryd.prog 43 1 := ⟨by kernel_rfl⟩
instance : Zr Tryd.prog 43 [.nilFunc] := ⟨by kernel_rfl⟩
instance : Sc Tryd.prog 45 := ⟨_, Tryd.underlying45, rfl⟩
instance : Sz Tryd.prog 45 1 := ⟨by kernel_rfl⟩
instance : Zr Tryd.prog 45 [.nilFunc] := ⟨by kernel_rfl⟩
instance : Sc Tryd.prog 46 := ⟨_, Tryd.underlying46, rfl⟩
instance : Sz Tryd.prog 46 1 := ⟨by kernel_rfl⟩
instance : Zr Tryd.prog 46 [.nilFunc] := ⟨by kernel_rfl⟩
instance : Sc Tryd.prog 47 := ⟨_, Tryd.underlying47, rfl⟩
instance : Sz Tryd.prog 47 1 := ⟨by kernel_rfl⟩
instance : Zr Tryd.prog 47 [.nilFunc] := ⟨by kernel_rfl⟩
instance : Sc Tryd.prog 48 := ⟨_, Tryd.underlying48, rfl⟩
instance : Sz Tryd.prog 48 1 := ⟨by kernel_rfl⟩
instance : Zr Tryd.prog 48 [.nilFunc] := ⟨by kernel_rfl⟩
instance : Sc Tryd.prog 49 := ⟨_, Tryd.underlying49, rfl⟩
instance : Sz Tryd.prog 49 1 := ⟨by kernel_rfl⟩
instance : Zr Tryd.prog 49 [.nilFunc] := ⟨by kernel_rfl⟩
instance : Sc Tryd.prog 50 := ⟨_, Tryd.underlying50, rfl⟩
instance : Sz Tryd.prog 50 1 := ⟨by kernel_rfl⟩
instance : Zr Tryd.prog 50 [.pointer none] := ⟨by kernel_rfl⟩
instance : Sc Tryd.prog 51 := ⟨_, Tryd.underlying51, rfl⟩
instance : Sz Tryd.prog 51 1 := ⟨by kernel_rfl⟩
instance : Zr Tryd.prog 51 [.nilFunc] := ⟨by kernel_rfl⟩
instance : Sc Tryd.prog 52 := ⟨_, Tryd.underlying52, rfl⟩
instance : Sz Tryd.prog 52 1 := ⟨by kernel_rfl⟩
instance : Zr Tryd.prog 52 [.nilFunc] := ⟨by kernel_rfl⟩
instance : Sc Tryd.prog 53 := ⟨_, Tryd.underlying53, rfl⟩
instance : Sz Tryd.prog 53 1 := ⟨by kernel_rfl⟩
instance : Zr Tryd.prog 53 [.nilFunc] := ⟨by kernel_rfl⟩
instance : Sc Tryd.prog 54 := ⟨_, Tryd.underlying54, rfl⟩
instance : Sz Tryd.prog 54 1 := ⟨by kernel_rfl⟩
instance : Zr Tryd.prog 54 [.nilIface] := ⟨by kernel_rfl⟩
instance : Sc Tryd.prog 55 := ⟨_, Tryd.underlying55, rfl⟩
instance : Sz Tryd.prog 55 1 := ⟨by kernel_rfl⟩
instance : Zr Tryd.prog 55 [.nilIface] := ⟨by kernel_rfl⟩
instance : Sc Tryd.prog 57 := ⟨_, Tryd.underlying57, rfl⟩
instance : Sz Tryd.prog 57 1 := ⟨by kernel_rfl⟩
instance : Zr Tryd.prog 57 [.nilFunc] := ⟨by kernel_rfl⟩
instance : Sc Tryd.prog 58 := ⟨_, Tryd.underlying58, rfl⟩
instance : Sz Tryd.prog 58 1 := ⟨by kernel_rfl⟩
instance : Zr Tryd.prog 58 [.nilFunc] := ⟨by kernel_rfl⟩
instance : Sc Tryd.prog 59 := ⟨_, Tryd.underlying59, rfl⟩
instance : Sz Tryd.prog 59 1 := ⟨by kernel_rfl⟩
instance : Zr Tryd.prog 59 [.nilFunc] := ⟨by kernel_rfl⟩
instance : Sc Tryd.prog 60 := ⟨_, Tryd.underlying60, rfl⟩
instance : Sz Tryd.prog 60 1 := ⟨by kernel_rfl⟩
instance : Zr Tryd.prog 60 [.nilFunc] := ⟨by kernel_rfl⟩
instance : Sc Tryd.prog 61 := ⟨_, Tryd.underlying61, rfl⟩
instance : Sz Tryd.prog 61 1 := ⟨by kernel_rfl⟩
instance : Zr Tryd.prog 61 [.nilFunc] := ⟨by kernel_rfl⟩
instance : Sc Tryd.prog 62 := ⟨_, Tryd.underlying62, rfl⟩
instance : Sz Tryd.prog 62 1 := ⟨by kernel_rfl⟩
instance : Zr Tryd.prog 62 [.nilFunc] := ⟨by kernel_rfl⟩
instance : Sc Tryd.prog 63 := ⟨_, Tryd.underlying63, rfl⟩
instance : Sz Tryd.prog 63 1 := ⟨by kernel_rfl⟩
instance : Zr Tryd.prog 63 [.nilFunc] := ⟨by kernel_rfl⟩
instance : Sc Tryd.prog 64 := ⟨_, Tryd.underlying64, rfl⟩
instance : Sz Tryd.prog 64 1 := ⟨by kernel_rfl⟩
instance : Zr Tryd.prog 64 [.nilFunc] := ⟨by kernel_rfl⟩
instance : Sc Tryd.prog 65 := ⟨_, Tryd.underlying65, rfl⟩
instance : Sz Tryd.prog 65 1 := ⟨by kernel_rfl⟩
instance : Zr Tryd.prog 65 [.int .i64 0] := ⟨by kernel_rfl⟩
instance : I64 Tryd.prog 65 := ⟨Tryd.underlying65⟩
instance : Sc Tryd.prog 66 := ⟨_, Tryd.underlying66, rfl⟩
instance : Sz Tryd.prog 66 1 := ⟨by kernel_rfl⟩
instance : Zr Tryd.prog 66 [.nilFunc] := ⟨by kernel_rfl⟩
instance : Sc Tryd.prog 67 := ⟨_, Tryd.underlying67, rfl⟩
instance : Sz Tryd.prog 67 1 := ⟨by kernel_rfl⟩
instance : Zr Tryd.prog 67 [.nilFunc] := ⟨by kernel_rfl⟩
instance : Sc Tryd.prog 68 := ⟨_, Tryd.underlying68, rfl⟩
instance : Sz Tryd.prog 68 1 := ⟨by kernel_rfl⟩
instance : Zr Tryd.prog 68 [.nilFunc] := ⟨by kernel_rfl⟩
instance : Sc Tryd.prog 69 := ⟨_, Tryd.underlying69, rfl⟩
instance : Sz Tryd.prog 69 1 := ⟨by kernel_rfl⟩
instance : Zr Tryd.prog 69 [.nilFunc] := ⟨by kernel_rfl⟩
instance : Sc Tryd.prog 70 := ⟨_, Tryd.underlying70, rfl⟩
instance : Sz Tryd.prog 70 1 := ⟨by kernel_rfl⟩
instance : Zr Tryd.prog 70 [.nilFunc] := ⟨by kernel_rfl⟩
instance : Sc Tryd.prog 71 := ⟨_, Tryd.underlying71, rfl⟩
instance : Sz Tryd.prog 71 1 := ⟨by kernel_rfl⟩
instance : Zr Tryd.prog 71 [.slice none 0 0] := ⟨by kernel_rfl⟩
instance : SlT Tryd.prog 71 75 3 := ⟨Tryd.underlying71, by kernel_rfl⟩
instance : Sc Tryd.prog 72 := ⟨_, Tryd.underlying72, rfl⟩
instance : Sz Tryd.prog 72 1 := ⟨by kernel_rfl⟩
instance : Zr Tryd.prog 72 [.nilFunc] := ⟨by kernel_rfl⟩
instance : Sc Tryd.prog 73 := ⟨_, Tryd.underlying73, rfl⟩
instance : Sz Tryd.prog 73 1 := ⟨by kernel_rfl⟩
instance : Zr Tryd.prog 73 [.pointer none] := ⟨by kernel_rfl⟩
instance : Ag Tryd.prog 74 3 := ⟨⟨_, Tryd.underlying74, rfl⟩, by kernel_rfl⟩
instance : Sz Tryd.prog 74 3 := ⟨by kernel_rfl⟩
instance : Zr Tryd.prog 74 [.int .u8 0, .bool false, .pointer none] := ⟨by kernel_rfl⟩
instance : Ag Tryd.prog 75 3 := ⟨⟨_, Tryd.underlying75, rfl⟩, by kernel_rfl⟩
instance : Sz Tryd.prog 75 3 := ⟨by kernel_rfl⟩
instance : Zr Tryd.prog 75 [.int .u8 0, .bool false, .pointer none] := ⟨by kernel_rfl⟩
instance : Sc Tryd.prog 76 := ⟨_, Tryd.underlying76, rfl⟩
instance : Sz Tryd.prog 76 1 := ⟨by kernel_rfl⟩
instance : Zr Tryd.prog 76 [.nilFunc] := ⟨by kernel_rfl⟩
instance : Sc Tryd.prog 77 := ⟨_, Tryd.underlying77, rfl⟩
instance : Sz Tryd.prog 77 1 := ⟨by kernel_rfl⟩
instance : Zr Tryd.prog 77 [.nilFunc] := ⟨by kernel_rfl⟩
instance : Sc Tryd.prog 78 := ⟨_, Tryd.underlying78, rfl⟩
instance : Sz Tryd.prog 78 1 := ⟨by kernel_rfl⟩
instance : Zr Tryd.prog 78 [.nilFunc] := ⟨by kernel_rfl⟩
instance : Sc Tryd.prog 79 := ⟨_, Tryd.underlying79, rfl⟩
instance : Sz Tryd.prog 79 1 := ⟨by kernel_rfl⟩
instance : Zr Tryd.prog 79 [.nilFunc] := ⟨by kernel_rfl⟩
instance : Sc Tryd.prog 80 := ⟨_, Tryd.underlying80, rfl⟩
instance : Sz Tryd.prog 80 1 := ⟨by kernel_rfl⟩
instance : Zr Tryd.prog 80 [.nilFunc] := ⟨by kernel_rfl⟩
instance : Ag Tryd.prog 81 2 := ⟨⟨_, Tryd.underlying81, rfl⟩, by kernel_rfl⟩
instance : Sz Tryd.prog 81 2 := ⟨by kernel_rfl⟩
instance : Zr Tryd.prog 81 [.slice none 0 0, .int .i64 0] := ⟨by kernel_rfl⟩
instance : Ag Tryd.prog 82 2 := ⟨⟨_, Tryd.underlying82, rfl⟩, by kernel_rfl⟩
instance : Sz Tryd.prog 82 2 := ⟨by kernel_rfl⟩
instance : Zr Tryd.prog 82 [.slice none 0 0, .int .i64 0] := ⟨by kernel_rfl⟩
instance : Sc Tryd.prog 83 := ⟨_, Tryd.underlying83, rfl⟩
instance : Sz Tryd.prog 83 1 := ⟨by kernel_rfl⟩
instance : Zr Tryd.prog 83 [.slice none 0 0] := ⟨by kernel_rfl⟩
instance : SlT Tryd.prog 83 3 1 := ⟨Tryd.underlying83, by kernel_rfl⟩
instance : Sc Tryd.prog 84 := ⟨_, Tryd.underlying84, rfl⟩
instance : Sz Tryd.prog 84 1 := ⟨by kernel_rfl⟩
instance : Zr Tryd.prog 84 [.nilIface] := ⟨by kernel_rfl⟩
instance : Sc Tryd.prog 85 := ⟨_, Tryd.underlying85, rfl⟩
instance : Sz Tryd.prog 85 1 := ⟨by kernel_rfl⟩
instance : Zr Tryd.prog 85 [.nilIface] := ⟨by kernel_rfl⟩
instance : Sc Tryd.prog 86 := ⟨_, Tryd.underlying86, rfl⟩
instance : Sz Tryd.prog 86 1 := ⟨by kernel_rfl⟩
instance : Zr Tryd.prog 86 [.nilFunc] := ⟨by kernel_rfl⟩
instance : Sc Tryd.prog 87 := ⟨_, Tryd.underlying87, rfl⟩
instance : Sz Tryd.prog 87 1 := ⟨by kernel_rfl⟩
instance : Zr Tryd.prog 87 [.nilFunc] := ⟨by kernel_rfl⟩
instance : Sc Tryd.prog 88 := ⟨_, Tryd.underlying88, rfl⟩
instance : Sz Tryd.prog 88 1 := ⟨by kernel_rfl⟩
instance : Zr Tryd.prog 88 [.nilFunc] := ⟨by kernel_rfl⟩
instance : Sc Tryd.prog 89 := ⟨_, Tryd.underlying89, rfl⟩
instance : Sz Tryd.prog 89 1 := ⟨by kernel_rfl⟩
instance : Zr Tryd.prog 89 [.nilFunc] := ⟨by kernel_rfl⟩
instance : Ag Tryd.prog 90 12 := ⟨⟨_, Tryd.underlying90, rfl⟩, by kernel_rfl⟩
instance : Sz Tryd.prog 90 12 := ⟨by kernel_rfl⟩
instance : Zr Tryd.prog 90 [.int .i64 0, .int .i64 0, .int .i64 0, .int .i64 0, .int .i64 0, .int .i64 0, .int .i64 0, .int .i64 0, .int .i64 0, .int .i64 0, .int .i64 0, .int .i64 0] := ⟨by kernel_rfl⟩
instance : Sc Tryd.prog 91 := ⟨_, Tryd.underlying91, rfl⟩
instance : Sz Tryd.prog 91 1 := ⟨by kernel_rfl⟩
instance : Zr Tryd.prog 91 [.nilFunc] := ⟨by kernel_rfl⟩
instance : Ag Tryd.prog 92 9 := ⟨⟨_, Tryd.underlying92, rfl⟩, by kernel_rfl⟩
instance : Sz Tryd.prog 92 9 := ⟨by kernel_rfl⟩
instance : Zr Tryd.prog 92 [.int .i64 0, .int .i64 0, .int .i64 0, .int .i64 0, .int .i64 0, .int .i64 0, .int .i64 0, .int .i64 0, .int .i64 0] := ⟨by kernel_rfl⟩
instance : Ag Tryd.prog 93 9 := ⟨⟨_, Tryd.underlying93, rfl⟩, by kernel_rfl⟩
instance : Sz Tryd.prog 93 9 := ⟨by kernel_rfl⟩
instance : Zr Tryd.prog 93 [.int .i64 0, .int .i64 0, .int .i64 0, .int .i64 0, .int .i64 0, .int .i64 0, .int .i64 0, .int .i64 0, .int .i64 0] := ⟨by kernel_rfl⟩
instance : Sc Tryd.prog 94 := ⟨_, Tryd.underlying94, rfl⟩
instance : Sz Tryd.prog 94 1 := ⟨by kernel_rfl⟩
instance : Zr Tryd.prog 94 [.nilFunc] := ⟨by kernel_rfl⟩
instance : Sc Tryd.prog 95 := ⟨_, Tryd.underlying95, rfl⟩
instance : Sz Tryd.prog 95 1 := ⟨by kernel_rfl⟩
instance : Zr Tryd.prog 95 [.nilFunc] := ⟨by kernel_rfl⟩
instance : Sc Tryd.prog 96 := ⟨_, Tryd.underlying96, rfl⟩
instance : Sz Tryd.prog 96 1 := ⟨by kernel_rfl⟩
instance : Zr Tryd.prog 96 [.pointer none] := ⟨by kernel_rfl⟩
instance : Sc Tryd.prog 97 := ⟨_, Tryd.underlying97, rfl⟩
instance : Sz Tryd.prog 97 1 := ⟨by kernel_rfl⟩
instance : Zr Tryd.prog 97 [.nilFunc] := ⟨by kernel_rfl⟩
instance : Sc Tryd.prog 98 := ⟨_, Tryd.underlying98, rfl⟩
instance : Sz Tryd.prog 98 1 := ⟨by kernel_rfl⟩
instance : Zr Tryd.prog 98 [.nilFunc] := ⟨by kernel_rfl⟩
instance : Ag Tryd.prog 99 1 := ⟨⟨_, Tryd.underlying99, rfl⟩, by kernel_rfl⟩
instance : Sz Tryd.prog 99 1 := ⟨by kernel_rfl⟩
instance : Zr Tryd.prog 99 [.pointer none] := ⟨by kernel_rfl⟩
instance : Ag Tryd.prog 100 1 := ⟨⟨_, Tryd.underlying100, rfl⟩, by kernel_rfl⟩
instance : Sz Tryd.prog 100 1 := ⟨by kernel_rfl⟩
instance : Zr Tryd.prog 100 [.pointer none] := ⟨by kernel_rfl⟩
instance : Sc Tryd.prog 101 := ⟨_, Tryd.underlying101, rfl⟩
instance : Sz Tryd.prog 101 1 := ⟨by kernel_rfl⟩
instance : Zr Tryd.prog 101 [.pointer none] := ⟨by kernel_rfl⟩
instance : Sc Tryd.prog 102 := ⟨_, Tryd.underlying102, rfl⟩
instance : Sz Tryd.prog 102 1 := ⟨by kernel_rfl⟩
instance : Zr Tryd.prog 102 [.nilIface] := ⟨by kernel_rfl⟩
instance : Sc Tryd.prog 104 := ⟨_, Tryd.underlying104, rfl⟩
instance : Sz Tryd.prog 104 1 := ⟨by kernel_rfl⟩
instance : Zr Tryd.prog 104 [.nilFunc] := ⟨by kernel_rfl⟩
instance : Sc Tryd.prog 105 := ⟨_, Tryd.underlying105, rfl⟩
instance : Sz Tryd.prog 105 1 := ⟨by kernel_rfl⟩
instance : Zr Tryd.prog 105 [.nilIface] := ⟨by kernel_rfl⟩
instance : Sc Tryd.prog 106 := ⟨_, Tryd.underlying106, rfl⟩
instance : Sz Tryd.prog 106 1 := ⟨by kernel_rfl⟩
instance : Zr Tryd.prog 106 [.nilFunc] := ⟨by kernel_rfl⟩
instance : Sc Tryd.prog 107 := ⟨_, Tryd.underlying107, rfl⟩
instance : Sz Tryd.prog 107 1 := ⟨by kernel_rfl⟩
instance : Zr Tryd.prog 107 [.nilIface] := ⟨by kernel_rfl⟩
instance : Sc Tryd.prog 108 := ⟨_, Tryd.underlying108, rfl⟩
instance : Sz Tryd.prog 108 1 := ⟨by kernel_rfl⟩
instance : Zr Tryd.prog 108 [.slice none 0 0] := ⟨by kernel_rfl⟩
instance : SlT Tryd.prog 108 55 1 := ⟨Tryd.underlying108, by kernel_rfl⟩
instance : Sc Tryd.prog 109 := ⟨_, Tryd.underlying109, rfl⟩
instance : Sz Tryd.prog 109 1 := ⟨by kernel_rfl⟩
instance : Zr Tryd.prog 109 [.nilFunc] := ⟨by kernel_rfl⟩
instance : Sc Tryd.prog 110 := ⟨_, Tryd.underlying110, rfl⟩
instance : Sz Tryd.prog 110 1 := ⟨by kernel_rfl⟩
instance : Zr Tryd.prog 110 [.pointer none] := ⟨by kernel_rfl⟩
instance : Sc Tryd.prog 111 := ⟨_, Tryd.underlying111, rfl⟩
instance : Sz Tryd.prog 111 1 := ⟨by kernel_rfl⟩
instance : Zr Tryd.prog 111 [.nilFunc] := ⟨by kernel_rfl⟩
instance : Ag Tryd.prog 112 4 := ⟨⟨_, Tryd.underlying112, rfl⟩, by kernel_rfl⟩
instance : Sz Tryd.prog 112 4 := ⟨by kernel_rfl⟩
instance : Zr Tryd.prog 112 [.pointer none, .pointer none, .pointer none, .string ByteArray.empty] := ⟨by kernel_rfl⟩
instance : Ag Tryd.prog 113 4 := ⟨⟨_, Tryd.underlying113, rfl⟩, by kernel_rfl⟩
instance : Sz Tryd.prog 113 4 := ⟨by kernel_rfl⟩
instance : Zr Tryd.prog 113 [.pointer none, .pointer none, .pointer none, .string ByteArray.empty] := ⟨by kernel_rfl⟩
instance : Sc Tryd.prog 117 := ⟨_, Tryd.underlying117, rfl⟩
instance : Sz Tryd.prog 117 1 := ⟨by kernel_rfl⟩
instance : Zr Tryd.prog 117 [.int .u32 0] := ⟨by kernel_rfl⟩
instance : Sc Tryd.prog 118 := ⟨_, Tryd.underlying118, rfl⟩
instance : Sz Tryd.prog 118 1 := ⟨by kernel_rfl⟩
instance : Zr Tryd.prog 118 [.int .u8 0] := ⟨by kernel_rfl⟩
instance : Sc Tryd.prog 119 := ⟨_, Tryd.underlying119, rfl⟩
instance : Sz Tryd.prog 119 1 := ⟨by kernel_rfl⟩
instance : Zr Tryd.prog 119 [.int .u8 0] := ⟨by kernel_rfl⟩
instance : Sc Tryd.prog 120 := ⟨_, Tryd.underlying120, rfl⟩
instance : Sz Tryd.prog 120 1 := ⟨by kernel_rfl⟩
instance : Zr Tryd.prog 120 [.nilFunc] := ⟨by kernel_rfl⟩
instance : Sc Tryd.prog 121 := ⟨_, Tryd.underlying121, rfl⟩
instance : Sz Tryd.prog 121 1 := ⟨by kernel_rfl⟩
instance : Zr Tryd.prog 121 [.pointer none] := ⟨by kernel_rfl⟩
instance : Sc Tryd.prog 122 := ⟨_, Tryd.underlying122, rfl⟩
instance : Sz Tryd.prog 122 1 := ⟨by kernel_rfl⟩
instance : Zr Tryd.prog 122 [.int .i32 0] := ⟨by kernel_rfl⟩
instance : Sc Tryd.prog 123 := ⟨_, Tryd.underlying123, rfl⟩
instance : Sz Tryd.prog 123 1 := ⟨by kernel_rfl⟩
instance : Zr Tryd.prog 123 [.int .i32 0] := ⟨by kernel_rfl⟩
instance : Ag Tryd.prog 124 11 := ⟨⟨_, Tryd.underlying124, rfl⟩, by kernel_rfl⟩
instance : Sz Tryd.prog 124 11 := ⟨by kernel_rfl⟩
instance : Zr Tryd.prog 124 [.int .u64 0, .int .u64 0, .int .u32 0, .int .u8 0, .int .u8 0, .int .u8 0, .int .u8 0, .nilFunc, .pointer none, .int .i32 0, .int .i32 0] := ⟨by kernel_rfl⟩
instance : Ag Tryd.prog 125 11 := ⟨⟨_, Tryd.underlying125, rfl⟩, by kernel_rfl⟩
instance : Sz Tryd.prog 125 11 := ⟨by kernel_rfl⟩
instance : Zr Tryd.prog 125 [.int .u64 0, .int .u64 0, .int .u32 0, .int .u8 0, .int .u8 0, .int .u8 0, .int .u8 0, .nilFunc, .pointer none, .int .i32 0, .int .i32 0] := ⟨by kernel_rfl⟩
instance : Sc Tryd.prog 126 := ⟨_, Tryd.underlying126, rfl⟩
instance : Sz Tryd.prog 126 1 := ⟨by kernel_rfl⟩
instance : Zr Tryd.prog 126 [.nilFunc] := ⟨by kernel_rfl⟩
instance : Sc Tryd.prog 127 := ⟨_, Tryd.underlying127, rfl⟩
instance : Sz Tryd.prog 127 1 := ⟨by kernel_rfl⟩
instance : Zr Tryd.prog 127 [.nilFunc] := ⟨by kernel_rfl⟩
instance : Sc Tryd.prog 128 := ⟨_, Tryd.underlying128, rfl⟩
instance : Sz Tryd.prog 128 1 := ⟨by kernel_rfl⟩
instance : Zr Tryd.prog 128 [.nilFunc] := ⟨by kernel_rfl⟩
instance : Sc Tryd.prog 129 := ⟨_, Tryd.underlying129, rfl⟩
instance : Sz Tryd.prog 129 1 := ⟨by kernel_rfl⟩
instance : Zr Tryd.prog 129 [.nilFunc] := ⟨by kernel_rfl⟩
instance : Sc Tryd.prog 130 := ⟨_, Tryd.underlying130, rfl⟩
instance : Sz Tryd.prog 130 1 := ⟨by kernel_rfl⟩
instance : Zr Tryd.prog 130 [.nilFunc] := ⟨by kernel_rfl⟩
instance : Sc Tryd.prog 131 := ⟨_, Tryd.underlying131, rfl⟩
instance : Sz Tryd.prog 131 1 := ⟨by kernel_rfl⟩
instance : Zr Tryd.prog 131 [.nilFunc] := ⟨by kernel_rfl⟩
instance : Ag Tryd.prog 132 2 := ⟨⟨_, Tryd.underlying132, rfl⟩, by kernel_rfl⟩
instance : Sz Tryd.prog 132 2 := ⟨by kernel_rfl⟩
instance : Zr Tryd.prog 132 [.string ByteArray.empty, .int .u8 0] := ⟨by kernel_rfl⟩
instance : Ag Tryd.prog 133 2 := ⟨⟨_, Tryd.underlying133, rfl⟩, by kernel_rfl⟩
instance : Sz Tryd.prog 133 2 := ⟨by kernel_rfl⟩
instance : Zr Tryd.prog 133 [.string ByteArray.empty, .int .u8 0] := ⟨by kernel_rfl⟩
instance : Ag Tryd.prog 134 1 := ⟨⟨_, Tryd.underlying134, rfl⟩, by kernel_rfl⟩
instance : Sz Tryd.prog 134 1 := ⟨by kernel_rfl⟩
instance : Zr Tryd.prog 134 [.string ByteArray.empty] := ⟨by kernel_rfl⟩
instance : Ag Tryd.prog 135 1 := ⟨⟨_, Tryd.underlying135, rfl⟩, by kernel_rfl⟩
instance : Sz Tryd.prog 135 1 := ⟨by kernel_rfl⟩
instance : Zr Tryd.prog 135 [.string ByteArray.empty] := ⟨by kernel_rfl⟩
instance : Sc Tryd.prog 137 := ⟨_, Tryd.underlying137, rfl⟩
instance : Sz Tryd.prog 137 1 := ⟨by kernel_rfl⟩
instance : Zr Tryd.prog 137 [.pointer none] := ⟨by kernel_rfl⟩
instance : Sc Tryd.prog 138 := ⟨_, Tryd.underlying138, rfl⟩
instance : Sz Tryd.prog 138 1 := ⟨by kernel_rfl⟩
instance : Zr Tryd.prog 138 [.nilFunc] := ⟨by kernel_rfl⟩
instance : Sc Tryd.prog 139 := ⟨_, Tryd.underlying139, rfl⟩
instance : Sz Tryd.prog 139 1 := ⟨by kernel_rfl⟩
instance : Zr Tryd.prog 139 [.int .u16 0] := ⟨by kernel_rfl⟩
instance : Ag Tryd.prog 140 5 := ⟨⟨_, Tryd.underlying140, rfl⟩, by kernel_rfl⟩
instance : Sz Tryd.prog 140 5 := ⟨by kernel_rfl⟩
instance : Zr Tryd.prog 140 [.int .i32 0, .int .u16 0, .int .u16 0, .int .u32 0, .int .u32 0] := ⟨by kernel_rfl⟩
instance : Ag Tryd.prog 141 5 := ⟨⟨_, Tryd.underlying141, rfl⟩, by kernel_rfl⟩
instance : Sz Tryd.prog 141 5 := ⟨by kernel_rfl⟩
instance : Zr Tryd.prog 141 [.int .i32 0, .int .u16 0, .int .u16 0, .int .u32 0, .int .u32 0] := ⟨by kernel_rfl⟩
instance : Sc Tryd.prog 142 := ⟨_, Tryd.underlying142, rfl⟩
instance : Sz Tryd.prog 142 1 := ⟨by kernel_rfl⟩
instance : Zr Tryd.prog 142 [.slice none 0 0] := ⟨by kernel_rfl⟩
instance : SlT Tryd.prog 142 145 4 := ⟨Tryd.underlying142, by kernel_rfl⟩
instance : Sc Tryd.prog 143 := ⟨_, Tryd.underlying143, rfl⟩
instance : Sz Tryd.prog 143 1 := ⟨by kernel_rfl⟩
instance : Zr Tryd.prog 143 [.int .i32 0] := ⟨by kernel_rfl⟩
instance : Ag Tryd.prog 144 4 := ⟨⟨_, Tryd.underlying144, rfl⟩, by kernel_rfl⟩
instance : Sz Tryd.prog 144 4 := ⟨by kernel_rfl⟩
instance : Zr Tryd.prog 144 [.int .i32 0, .int .i32 0, .int .i32 0, .int .i32 0] := ⟨by kernel_rfl⟩
instance : Ag Tryd.prog 145 4 := ⟨⟨_, Tryd.underlying145, rfl⟩, by kernel_rfl⟩
instance : Sz Tryd.prog 145 4 := ⟨by kernel_rfl⟩
instance : Zr Tryd.prog 145 [.int .i32 0, .int .i32 0, .int .i32 0, .int .i32 0] := ⟨by kernel_rfl⟩
instance : Sc Tryd.prog 146 := ⟨_, Tryd.underlying146, rfl⟩
instance : Sz Tryd.prog 146 1 := ⟨by kernel_rfl⟩
instance : Zr Tryd.prog 146 [.nilFunc] := ⟨by kernel_rfl⟩
instance : BS Tryd.prog 22 5 [.int .u8 0] := ⟨Tryd.underlying22, by kernel_rfl, by kernel_rfl⟩
instance : BS Tryd.prog 71 75 [.int .u8 0, .bool false, .pointer none] := ⟨Tryd.underlying71, by kernel_rfl, by kernel_rfl⟩
instance : BS Tryd.prog 83 3 [.int .i64 0] := ⟨Tryd.underlying83, by kernel_rfl, by kernel_rfl⟩
instance : BS Tryd.prog 108 55 [.nilIface] := ⟨Tryd.underlying108, by kernel_rfl, by kernel_rfl⟩
instance : BS Tryd.prog 142 145 [.int .i32 0, .int .i32 0, .int .i32 0, .int .i32 0] := ⟨Tryd.underlying142, by kernel_rfl, by kernel_rfl⟩
instance : Bd Tryd.prog 7 [(0, 1), (1, 1), (2, 1), (3, 1)] [.int .i64 0, .int .i64 0, .bool false, .int .u8 0] := ⟨fun _ => by kernel_rfl⟩
instance : FO Tryd.prog 7 0 0 := FO.of (k := 1) Tryd.underlying7 rfl rfl rfl (by kernel_rfl) (by decide)
instance : FV Tryd.prog 7 0 0 1 false := FV.of1 (ft := 2) Tryd.underlying7 rfl rfl rfl inferInstance
instance : FO Tryd.prog 7 1 1 := FO.of (k := 1) Tryd.underlying7 rfl rfl rfl (by kernel_rfl) (by decide)
instance : FV Tryd.prog 7 1 1 1 false := FV.of1 (ft := 3) Tryd.underlying7 rfl rfl rfl inferInstance
instance : FO Tryd.prog 7 2 2 := FO.of (k := 1) Tryd.underlying7 rfl rfl rfl (by kernel_rfl) (by decide)
instance : FV Tryd.prog 7 2 2 1 false := FV.of1 (ft := 4) Tryd.underlying7 rfl rfl rfl inferInstance
instance : FO Tryd.prog 7 3 3 := FO.of (k := 1) Tryd.underlying7 rfl rfl rfl (by kernel_rfl) (by decide)
instance : FV Tryd.prog 7 3 3 1 false := FV.of1 (ft := 6) Tryd.underlying7 rfl rfl rfl inferInstance
instance : Bd Tryd.prog 8 [(0, 1), (1, 1), (2, 1), (3, 1)] [.int .i64 0, .int .i64 0, .bool false, .int .u8 0] := ⟨fun _ => by kernel_rfl⟩
instance : FO Tryd.prog 8 0 0 := FO.of (k := 1) Tryd.underlying8 rfl rfl rfl (by kernel_rfl) (by decide)
instance : FV Tryd.prog 8 0 0 1 false := FV.of1 (ft := 2) Tryd.underlying8 rfl rfl rfl inferInstance
instance : FO Tryd.prog 8 1 1 := FO.of (k := 1) Tryd.underlying8 rfl rfl rfl (by kernel_rfl) (by decide)
instance : FV Tryd.prog 8 1 1 1 false := FV.of1 (ft := 3) Tryd.underlying8 rfl rfl rfl inferInstance
instance : FO Tryd.prog 8 2 2 := FO.of (k := 1) Tryd.underlying8 rfl rfl rfl (by kernel_rfl) (by decide)
instance : FV Tryd.prog 8 2 2 1 false := FV.of1 (ft := 4) Tryd.underlying8 rfl rfl rfl inferInstance
instance : FO Tryd.prog 8 3 3 := FO.of (k := 1) Tryd.underlying8 rfl rfl rfl (by kernel_rfl) (by decide)
instance : FV Tryd.prog 8 3 3 1 false := FV.of1 (ft := 6) Tryd.underlying8 rfl rfl rfl inferInstance
instance : Bd Tryd.prog 13 [(0, 1), (1, 1)] [.string ByteArray.empty, .int .u64 0] := ⟨fun _ => by kernel_rfl⟩
instance : FO Tryd.prog 13 0 0 := FO.of (k := 1) Tryd.underlying13 rfl rfl rfl (by kernel_rfl) (by decide)
instance : FV Tryd.prog 13 0 0 1 false := FV.of1 (ft := 9) Tryd.underlying13 rfl rfl rfl inferInstance
instance : FO Tryd.prog 13 1 1 := FO.of (k := 1) Tryd.underlying13 rfl rfl rfl (by kernel_rfl) (by decide)
instance : FV Tryd.prog 13 1 1 1 false := FV.of1 (ft := 12) Tryd.underlying13 rfl rfl rfl inferInstance
instance : Bd Tryd.prog 14 [(0, 1), (1, 1)] [.string ByteArray.empty, .int .u64 0] := ⟨fun _ => by kernel_rfl⟩
instance : FO Tryd.prog 14 0 0 := FO.of (k := 1) Tryd.underlying14 rfl rfl rfl (by kernel_rfl) (by decide)
instance : FV Tryd.prog 14 0 0 1 false := FV.of1 (ft := 9) Tryd.underlying14 rfl rfl rfl inferInstance
instance : FO Tryd.prog 14 1 1 := FO.of (k := 1) Tryd.underlying14 rfl rfl rfl (by kernel_rfl) (by decide)
instance : FV Tryd.prog 14 1 1 1 false := FV.of1 (ft := 12) Tryd.underlying14 rfl rfl rfl inferInstance
instance : Bd Tryd.prog 18 [(0, 1)] [.pointer none] := ⟨fun _ => by kernel_rfl⟩
instance : FO Tryd.prog 18 0 0 := FO.of (k := 1) Tryd.underlying18 rfl rfl rfl (by kernel_rfl) (by decide)
instance : FV Tryd.prog 18 0 0 1 false := FV.of1 (ft := 17) Tryd.underlying18 rfl rfl rfl inferInstance
instance : Bd Tryd.prog 19 [(0, 1)] [.pointer none] := ⟨fun _ => by kernel_rfl⟩
instance : FO Tryd.prog 19 0 0 := FO.of (k := 1) Tryd.underlying19 rfl rfl rfl (by kernel_rfl) (by decide)
instance : FV Tryd.prog 19 0 0 1 false := FV.of1 (ft := 17) Tryd.underlying19 rfl rfl rfl inferInstance
instance : Bd Tryd.prog 23 [(0, 1), (1, 1), (2, 1)] [.int .i64 0, .int .i64 0, .int .i64 0] := ⟨fun _ => by kernel_rfl⟩
instance : FO Tryd.prog 23 0 0 := FO.of (k := 1) Tryd.underlying23 rfl rfl rfl (by kernel_rfl) (by decide)
instance : FV Tryd.prog 23 0 0 1 false := FV.of1 (ft := 3) Tryd.underlying23 rfl rfl rfl inferInstance
instance : FO Tryd.prog 23 1 1 := FO.of (k := 1) Tryd.underlying23 rfl rfl rfl (by kernel_rfl) (by decide)
instance : FV Tryd.prog 23 1 1 1 false := FV.of1 (ft := 3) Tryd.underlying23 rfl rfl rfl inferInstance
instance : FO Tryd.prog 23 2 2 := FO.of (k := 1) Tryd.underlying23 rfl rfl rfl (by kernel_rfl) (by decide)
instance : FV Tryd.prog 23 2 2 1 false := FV.of1 (ft := 3) Tryd.underlying23 rfl rfl rfl inferInstance
instance : Bd Tryd.prog 24 [(0, 1), (1, 1), (2, 1)] [.int .i64 0, .int .i64 0, .int .i64 0] := ⟨fun _ => by kernel_rfl⟩
instance : FO Tryd.prog 24 0 0 := FO.of (k := 1) Tryd.underlying24 rfl rfl rfl (by kernel_rfl) (by decide)
instance : FV Tryd.prog 24 0 0 1 false := FV.of1 (ft := 3) Tryd.underlying24 rfl rfl rfl inferInstance
instance : FO Tryd.prog 24 1 1 := FO.of (k := 1) Tryd.underlying24 rfl rfl rfl (by kernel_rfl) (by decide)
instance : FV Tryd.prog 24 1 1 1 false := FV.of1 (ft := 3) Tryd.underlying24 rfl rfl rfl inferInstance
instance : FO Tryd.prog 24 2 2 := FO.of (k := 1) Tryd.underlying24 rfl rfl rfl (by kernel_rfl) (by decide)
instance : FV Tryd.prog 24 2 2 1 false := FV.of1 (ft := 3) Tryd.underlying24 rfl rfl rfl inferInstance
instance : Bd Tryd.prog 27 [(0, 1), (1, 1), (2, 1), (3, 1), (4, 1), (5, 1)] [.int .i64 0, .int .i64 0, .int .i64 0, .int .i64 0, .int .i64 0, .int .i64 0] := ⟨fun _ => by kernel_rfl⟩
instance : FO Tryd.prog 27 0 0 := FO.of (k := 1) Tryd.underlying27 rfl rfl rfl (by kernel_rfl) (by decide)
instance : FV Tryd.prog 27 0 0 1 false := FV.of1 (ft := 3) Tryd.underlying27 rfl rfl rfl inferInstance
instance : FO Tryd.prog 27 1 1 := FO.of (k := 1) Tryd.underlying27 rfl rfl rfl (by kernel_rfl) (by decide)
instance : FV Tryd.prog 27 1 1 1 false := FV.of1 (ft := 3) Tryd.underlying27 rfl rfl rfl inferInstance
instance : FO Tryd.prog 27 2 2 := FO.of (k := 1) Tryd.underlying27 rfl rfl rfl (by kernel_rfl) (by decide)
instance : FV Tryd.prog 27 2 2 1 false := FV.of1 (ft := 3) Tryd.underlying27 rfl rfl rfl inferInstance
instance : FO Tryd.prog 27 3 3 := FO.of (k := 1) Tryd.underlying27 rfl rfl rfl (by kernel_rfl) (by decide)
instance : FV Tryd.prog 27 3 3 1 false := FV.of1 (ft := 3) Tryd.underlying27 rfl rfl rfl inferInstance
instance : FO Tryd.prog 27 4 4 := FO.of (k := 1) Tryd.underlying27 rfl rfl rfl (by kernel_rfl) (by decide)
instance : FV Tryd.prog 27 4 4 1 false := FV.of1 (ft := 3) Tryd.underlying27 rfl rfl rfl inferInstance
instance : FO Tryd.prog 27 5 5 := FO.of (k := 1) Tryd.underlying27 rfl rfl rfl (by kernel_rfl) (by decide)
instance : FV Tryd.prog 27 5 5 1 false := FV.of1 (ft := 3) Tryd.underlying27 rfl rfl rfl inferInstance
instance : Bd Tryd.prog 28 [(0, 1), (1, 1), (2, 1), (3, 1), (4, 1), (5, 1)] [.int .i64 0, .int .i64 0, .int .i64 0, .int .i64 0, .int .i64 0, .int .i64 0] := ⟨fun _ => by kernel_rfl⟩
instance : FO Tryd.prog 28 0 0 := FO.of (k := 1) Tryd.underlying28 rfl rfl rfl (by kernel_rfl) (by decide)
instance : FV Tryd.prog 28 0 0 1 false := FV.of1 (ft := 3) Tryd.underlying28 rfl rfl rfl inferInstance
instance : FO Tryd.prog 28 1 1 := FO.of (k := 1) Tryd.underlying28 rfl rfl rfl (by kernel_rfl) (by decide)
instance : FV Tryd.prog 28 1 1 1 false := FV.of1 (ft := 3) Tryd.underlying28 rfl rfl rfl inferInstance
instance : FO Tryd.prog 28 2 2 := FO.of (k := 1) Tryd.underlying28 rfl rfl rfl (by kernel_rfl) (by decide)
instance : FV Tryd.prog 28 2 2 1 false := FV.of1 (ft := 3) Tryd.underlying28 rfl rfl rfl inferInstance
instance : FO Tryd.prog 28 3 3 := FO.of (k := 1) Tryd.underlying28 rfl rfl rfl (by kernel_rfl) (by decide)
instance : FV Tryd.prog 28 3 3 1 false := FV.of1 (ft := 3) Tryd.underlying28 rfl rfl rfl inferInstance
instance : FO Tryd.prog 28 4 4 := FO.of (k := 1) Tryd.underlying28 rfl rfl rfl (by kernel_rfl) (by decide)
instance : FV Tryd.prog 28 4 4 1 false := FV.of1 (ft := 3) Tryd.underlying28 rfl rfl rfl inferInstance
instance : FO Tryd.prog 28 5 5 := FO.of (k := 1) Tryd.underlying28 rfl rfl rfl (by kernel_rfl) (by decide)
instance : FV Tryd.prog 28 5 5 1 false := FV.of1 (ft := 3) Tryd.underlying28 rfl rfl rfl inferInstance
instance : Bd Tryd.prog 36 [(0, 1), (1, 1), (2, 1), (3, 1)] [.int .i64 0, .int .i64 0, .int .i64 0, .int .i64 0] := ⟨fun _ => by kernel_rfl⟩
instance : FO Tryd.prog 36 0 0 := FO.of (k := 1) Tryd.underlying36 rfl rfl rfl (by kernel_rfl) (by decide)
instance : FV Tryd.prog 36 0 0 1 false := FV.of1 (ft := 3) Tryd.underlying36 rfl rfl rfl inferInstance
instance : FO Tryd.prog 36 1 1 := FO.of (k := 1) Tryd.underlying36 rfl rfl rfl (by kernel_rfl) (by decide)
instance : FV Tryd.prog 36 1 1 1 false := FV.of1 (ft := 3) Tryd.underlying36 rfl rfl rfl inferInstance
instance : FO Tryd.prog 36 2 2 := FO.of (k := 1) Tryd.underlying36 rfl rfl rfl (by kernel_rfl) (by decide)
instance : FV Tryd.prog 36 2 2 1 false := FV.of1 (ft := 3) Tryd.underlying36 rfl rfl rfl inferInstance
instance : FO Tryd.prog 36 3 3 := FO.of (k := 1) Tryd.underlying36 rfl rfl rfl (by kernel_rfl) (by decide)
instance : FV Tryd.prog 36 3 3 1 false := FV.of1 (ft := 3) Tryd.underlying36 rfl rfl rfl inferInstance
instance : Bd Tryd.prog 37 [(0, 1), (1, 1), (2, 1), (3, 1)] [.int .i64 0, .int .i64 0, .int .i64 0, .int .i64 0] := ⟨fun _ => by kernel_rfl⟩
instance : FO Tryd.prog 37 0 0 := FO.of (k := 1) Tryd.underlying37 rfl rfl rfl (by kernel_rfl) (by decide)
instance : FV Tryd.prog 37 0 0 1 false := FV.of1 (ft := 3) Tryd.underlying37 rfl rfl rfl inferInstance
instance : FO Tryd.prog 37 1 1 := FO.of (k := 1) Tryd.underlying37 rfl rfl rfl (by kernel_rfl) (by decide)
instance : FV Tryd.prog 37 1 1 1 false := FV.of1 (ft := 3) Tryd.underlying37 rfl rfl rfl inferInstance
instance : FO Tryd.prog 37 2 2 := FO.of (k := 1) Tryd.underlying37 rfl rfl rfl (by kernel_rfl) (by decide)
instance : FV Tryd.prog 37 2 2 1 false := FV.of1 (ft := 3) Tryd.underlying37 rfl rfl rfl inferInstance
instance : FO Tryd.prog 37 3 3 := FO.of (k := 1) Tryd.underlying37 rfl rfl rfl (by kernel_rfl) (by decide)
instance : FV Tryd.prog 37 3 3 1 false := FV.of1 (ft := 3) Tryd.underlying37 rfl rfl rfl inferInstance
instance : Bd Tryd.prog 38 [(0, 3), (3, 4), (7, 1)] [.int .i64 0, .int .i64 0, .int .i64 0, .int .i64 0, .int .i64 0, .int .i64 0, .int .i64 0, .int .i64 0] := ⟨fun _ => by kernel_rfl⟩
instance : FO Tryd.prog 38 0 0 := FO.of (k := 3) Tryd.underlying38 rfl rfl rfl (by kernel_rfl) (by decide)
instance : FV Tryd.prog 38 0 0 3 true := FV.ofk (ft := 24) Tryd.underlying38 rfl rfl rfl inferInstance
instance : FO Tryd.prog 38 1 3 := FO.of (k := 4) Tryd.underlying38 rfl rfl rfl (by kernel_rfl) (by decide)
instance : FV Tryd.prog 38 1 3 4 true := FV.ofk (ft := 37) Tryd.underlying38 rfl rfl rfl inferInstance
instance : FO Tryd.prog 38 2 7 := FO.of (k := 1) Tryd.underlying38 rfl rfl rfl (by kernel_rfl) (by decide)
instance : FV Tryd.prog 38 2 7 1 false := FV.of1 (ft := 3) Tryd.underlying38 rfl rfl rfl inferInstance
instance : Bd Tryd.prog 39 [(0, 3), (3, 4), (7, 1)] [.int .i64 0, .int .i64 0, .int .i64 0, .int .i64 0, .int .i64 0, .int .i64 0, .int .i64 0, .int .i64 0] := ⟨fun _ => by kernel_rfl⟩
instance : FO Tryd.prog 39 0 0 := FO.of (k := 3) Tryd.underlying39 rfl rfl rfl (by kernel_rfl) (by decide)
instance : FV Tryd.prog 39 0 0 3 true := FV.ofk (ft := 24) Tryd.underlying39 rfl rfl rfl inferInstance
instance : FO Tryd.prog 39 1 3 := FO.of (k := 4) Tryd.underlying39 rfl rfl rfl (by kernel_rfl) (by decide)
instance : FV Tryd.prog 39 1 3 4 true := FV.ofk (ft := 37) Tryd.underlying39 rfl rfl rfl inferInstance
instance : FO Tryd.prog 39 2 7 := FO.of (k := 1) Tryd.underlying39 rfl rfl rfl (by kernel_rfl) (by decide)
instance : FV Tryd.prog 39 2 7 1 false := FV.of1 (ft := 3) Tryd.underlying39 rfl rfl rfl inferInstance
instance : Bd Tryd.prog 74 [(0, 1), (1, 1), (2, 1)] [.int .u8 0, .bool false, .pointer none] := ⟨fun _ => by kernel_rfl⟩
instance : FO Tryd.prog 74 0 0 := FO.of (k := 1) Tryd.underlying74 rfl rfl rfl (by kernel_rfl) (by decide)
instance : FV Tryd.prog 74 0 0 1 false := FV.of1 (ft := 5) Tryd.underlying74 rfl rfl rfl inferInstance
instance : FO Tryd.prog 74 1 1 := FO.of (k := 1) Tryd.underlying74 rfl rfl rfl (by kernel_rfl) (by decide)
instance : FV Tryd.prog 74 1 1 1 false := FV.of1 (ft := 4) Tryd.underlying74 rfl rfl rfl inferInstance
instance : FO Tryd.prog 74 2 2 := FO.of (k := 1) Tryd.underlying74 rfl rfl rfl (by kernel_rfl) (by decide)
instance : FV Tryd.prog 74 2 2 1 false := FV.of1 (ft := 73) Tryd.underlying74 rfl rfl rfl inferInstance
instance : Bd Tryd.prog 75 [(0, 1), (1, 1), (2, 1)] [.int .u8 0, .bool false, .pointer none] := ⟨fun _ => by kernel_rfl⟩
instance : FO Tryd.prog 75 0 0 := FO.of (k := 1) Tryd.underlying75 rfl rfl rfl (by kernel_rfl) (by decide)
instance : FV Tryd.prog 75 0 0 1 false := FV.of1 (ft := 5) Tryd.underlying75 rfl rfl rfl inferInstance
instance : FO Tryd.prog 75 1 1 := FO.of (k := 1) Tryd.underlying75 rfl rfl rfl (by kernel_rfl) (by decide)
instance : FV Tryd.prog 75 1 1 1 false := FV.of1 (ft := 4) Tryd.underlying75 rfl rfl rfl inferInstance
instance : FO Tryd.prog 75 2 2 := FO.of (k := 1) Tryd.underlying75 rfl rfl rfl (by kernel_rfl) (by decide)
instance : FV Tryd.prog 75 2 2 1 false := FV.of1 (ft := 73) Tryd.underlying75 rfl rfl rfl inferInstance
instance : Bd Tryd.prog 81 [(0, 1), (1, 1)] [.slice none 0 0, .int .i64 0] := ⟨fun _ => by kernel_rfl⟩
instance : FO Tryd.prog 81 0 0 := FO.of (k := 1) Tryd.underlying81 rfl rfl rfl (by kernel_rfl) (by decide)
instance : FV Tryd.prog 81 0 0 1 false := FV.of1 (ft := 22) Tryd.underlying81 rfl rfl rfl inferInstance
instance : FO Tryd.prog 81 1 1 := FO.of (k := 1) Tryd.underlying81 rfl rfl rfl (by kernel_rfl) (by decide)
instance : FV Tryd.prog 81 1 1 1 false := FV.of1 (ft := 3) Tryd.underlying81 rfl rfl rfl inferInstance
instance : Bd Tryd.prog 82 [(0, 1), (1, 1)] [.slice none 0 0, .int .i64 0] := ⟨fun _ => by kernel_rfl⟩
instance : FO Tryd.prog 82 0 0 := FO.of (k := 1) Tryd.underlying82 rfl rfl rfl (by kernel_rfl) (by decide)
instance : FV Tryd.prog 82 0 0 1 false := FV.of1 (ft := 22) Tryd.underlying82 rfl rfl rfl inferInstance
instance : FO Tryd.prog 82 1 1 := FO.of (k := 1) Tryd.underlying82 rfl rfl rfl (by kernel_rfl) (by decide)
instance : FV Tryd.prog 82 1 1 1 false := FV.of1 (ft := 3) Tryd.underlying82 rfl rfl rfl inferInstance
instance : ArT Tryd.prog 90 12 1 := ⟨_, Tryd.underlying90, by kernel_rfl⟩
instance : Bd Tryd.prog 92 [(0, 3), (3, 1), (4, 4), (8, 1)] [.int .i64 0, .int .i64 0, .int .i64 0, .int .i64 0, .int .i64 0, .int .i64 0, .int .i64 0, .int .i64 0, .int .i64 0] := ⟨fun _ => by kernel_rfl⟩
instance : FO Tryd.prog 92 0 0 := FO.of (k := 3) Tryd.underlying92 rfl rfl rfl (by kernel_rfl) (by decide)
instance : FV Tryd.prog 92 0 0 3 true := FV.ofk (ft := 24) Tryd.underlying92 rfl rfl rfl inferInstance
instance : FO Tryd.prog 92 1 3 := FO.of (k := 1) Tryd.underlying92 rfl rfl rfl (by kernel_rfl) (by decide)
instance : FV Tryd.prog 92 1 3 1 false := FV.of1 (ft := 3) Tryd.underlying92 rfl rfl rfl inferInstance
instance : FO Tryd.prog 92 2 4 := FO.of (k := 4) Tryd.underlying92 rfl rfl rfl (by kernel_rfl) (by decide)
instance : FV Tryd.prog 92 2 4 4 true := FV.ofk (ft := 37) Tryd.underlying92 rfl rfl rfl inferInstance
instance : FO Tryd.prog 92 3 8 := FO.of (k := 1) Tryd.underlying92 rfl rfl rfl (by kernel_rfl) (by decide)
instance : FV Tryd.prog 92 3 8 1 false := FV.of1 (ft := 3) Tryd.underlying92 rfl rfl rfl inferInstance
instance : Bd Tryd.prog 93 [(0, 3), (3, 1), (4, 4), (8, 1)] [.int .i64 0, .int .i64 0, .int .i64 0, .int .i64 0, .int .i64 0, .int .i64 0, .int .i64 0, .int .i64 0, .int .i64 0] := ⟨fun _ => by kernel_rfl⟩
instance : FO Tryd.prog 93 0 0 := FO.of (k := 3) Tryd.underlying93 rfl rfl rfl (by kernel_rfl) (by decide)
instance : FV Tryd.prog 93 0 0 3 true := FV.ofk (ft := 24) Tryd.underlying93 rfl rfl rfl inferInstance
instance : FO Tryd.prog 93 1 3 := FO.of (k := 1) Tryd.underlying93 rfl rfl rfl (by kernel_rfl) (by decide)
instance : FV Tryd.prog 93 1 3 1 false := FV.of1 (ft := 3) Tryd.underlying93 rfl rfl rfl inferInstance
instance : FO Tryd.prog 93 2 4 := FO.of (k := 4) Tryd.underlying93 rfl rfl rfl (by kernel_rfl) (by decide)
instance : FV Tryd.prog 93 2 4 4 true := FV.ofk (ft := 37) Tryd.underlying93 rfl rfl rfl inferInstance
instance : FO Tryd.prog 93 3 8 := FO.of (k := 1) Tryd.underlying93 rfl rfl rfl (by kernel_rfl) (by decide)
instance : FV Tryd.prog 93 3 8 1 false := FV.of1 (ft := 3) Tryd.underlying93 rfl rfl rfl inferInstance
instance : Bd Tryd.prog 99 [(0, 1)] [.pointer none] := ⟨fun _ => by kernel_rfl⟩
instance : FO Tryd.prog 99 0 0 := FO.of (k := 1) Tryd.underlying99 rfl rfl rfl (by kernel_rfl) (by decide)
instance : FV Tryd.prog 99 0 0 1 false := FV.of1 (ft := 17) Tryd.underlying99 rfl rfl rfl inferInstance
instance : Bd Tryd.prog 100 [(0, 1)] [.pointer none] := ⟨fun _ => by kernel_rfl⟩
instance : FO Tryd.prog 100 0 0 := FO.of (k := 1) Tryd.underlying100 rfl rfl rfl (by kernel_rfl) (by decide)
instance : FV Tryd.prog 100 0 0 1 false := FV.of1 (ft := 17) Tryd.underlying100 rfl rfl rfl inferInstance
instance : Bd Tryd.prog 112 [(0, 1), (1, 1), (2, 1), (3, 1)] [.pointer none, .pointer none, .pointer none, .string ByteArray.empty] := ⟨fun _ => by kernel_rfl⟩
instance : FO Tryd.prog 112 0 0 := FO.of (k := 1) Tryd.underlying112 rfl rfl rfl (by kernel_rfl) (by decide)
instance : FV Tryd.prog 112 0 0 1 false := FV.of1 (ft := 17) Tryd.underlying112 rfl rfl rfl inferInstance
instance : FO Tryd.prog 112 1 1 := FO.of (k := 1) Tryd.underlying112 rfl rfl rfl (by kernel_rfl) (by decide)
instance : FV Tryd.prog 112 1 1 1 false := FV.of1 (ft := 17) Tryd.underlying112 rfl rfl rfl inferInstance
instance : FO Tryd.prog 112 2 2 := FO.of (k := 1) Tryd.underlying112 rfl rfl rfl (by kernel_rfl) (by decide)
instance : FV Tryd.prog 112 2 2 1 false := FV.of1 (ft := 17) Tryd.underlying112 rfl rfl rfl inferInstance
instance : FO Tryd.prog 112 3 3 := FO.of (k := 1) Tryd.underlying112 rfl rfl rfl (by kernel_rfl) (by decide)
instance : FV Tryd.prog 112 3 3 1 false := FV.of1 (ft := 9) Tryd.underlying112 rfl rfl rfl inferInstance
instance : Bd Tryd.prog 113 [(0, 1), (1, 1), (2, 1), (3, 1)] [.pointer none, .pointer none, .pointer none, .string ByteArray.empty] := ⟨fun _ => by kernel_rfl⟩
instance : FO Tryd.prog 113 0 0 := FO.of (k := 1) Tryd.underlying113 rfl rfl rfl (by kernel_rfl) (by decide)
instance : FV Tryd.prog 113 0 0 1 false := FV.of1 (ft := 17) Tryd.underlying113 rfl rfl rfl inferInstance
instance : FO Tryd.prog 113 1 1 := FO.of (k := 1) Tryd.underlying113 rfl rfl rfl (by kernel_rfl) (by decide)
instance : FV Tryd.prog 113 1 1 1 false := FV.of1 (ft := 17) Tryd.underlying113 rfl rfl rfl inferInstance
instance : FO Tryd.prog 113 2 2 := FO.of (k := 1) Tryd.underlying113 rfl rfl rfl (by kernel_rfl) (by decide)
instance : FV Tryd.prog 113 2 2 1 false := FV.of1 (ft := 17) Tryd.underlying113 rfl rfl rfl inferInstance
instance : FO Tryd.prog 113 3 3 := FO.of (k := 1) Tryd.underlying113 rfl rfl rfl (by kernel_rfl) (by decide)
instance : FV Tryd.prog 113 3 3 1 false := FV.of1 (ft := 9) Tryd.underlying113 rfl rfl rfl inferInstance
instance : ArT Tryd.prog 114 0 1 := ⟨_, Tryd.underlying114, by kernel_rfl⟩
instance : Bd Tryd.prog 115 [(0, 0)] [] := ⟨fun _ => by kernel_rfl⟩
instance : Bd Tryd.prog 116 [(0, 0)] [] := ⟨fun _ => by kernel_rfl⟩
instance : Bd Tryd.prog 124 [(0, 1), (1, 1), (2, 1), (3, 1), (4, 1), (5, 1), (6, 1), (7, 1), (8, 1), (9, 1), (10, 1)] [.int .u64 0, .int .u64 0, .int .u32 0, .int .u8 0, .int .u8 0, .int .u8 0, .int .u8 0, .nilFunc, .pointer none, .int .i32 0, .int .i32 0] := ⟨fun _ => by kernel_rfl⟩
instance : FO Tryd.prog 124 0 0 := FO.of (k := 1) Tryd.underlying124 rfl rfl rfl (by kernel_rfl) (by decide)
instance : FV Tryd.prog 124 0 0 1 false := FV.of1 (ft := 12) Tryd.underlying124 rfl rfl rfl inferInstance
instance : FO Tryd.prog 124 1 1 := FO.of (k := 1) Tryd.underlying124 rfl rfl rfl (by kernel_rfl) (by decide)
instance : FV Tryd.prog 124 1 1 1 false := FV.of1 (ft := 12) Tryd.underlying124 rfl rfl rfl inferInstance
instance : FO Tryd.prog 124 2 2 := FO.of (k := 1) Tryd.underlying124 rfl rfl rfl (by kernel_rfl) (by decide)
instance : FV Tryd.prog 124 2 2 1 false := FV.of1 (ft := 117) Tryd.underlying124 rfl rfl rfl inferInstance
instance : FO Tryd.prog 124 3 3 := FO.of (k := 1) Tryd.underlying124 rfl rfl rfl (by kernel_rfl) (by decide)
instance : FV Tryd.prog 124 3 3 1 false := FV.of1 (ft := 118) Tryd.underlying124 rfl rfl rfl inferInstance
instance : FO Tryd.prog 124 4 4 := FO.of (k := 1) Tryd.underlying124 rfl rfl rfl (by kernel_rfl) (by decide)
instance : FV Tryd.prog 124 4 4 1 false := FV.of1 (ft := 5) Tryd.underlying124 rfl rfl rfl inferInstance
instance : FO Tryd.prog 124 5 5 := FO.of (k := 1) Tryd.underlying124 rfl rfl rfl (by kernel_rfl) (by decide)
instance : FV Tryd.prog 124 5 5 1 false := FV.of1 (ft := 5) Tryd.underlying124 rfl rfl rfl inferInstance
instance : FO Tryd.prog 124 6 6 := FO.of (k := 1) Tryd.underlying124 rfl rfl rfl (by kernel_rfl) (by decide)
instance : FV Tryd.prog 124 6 6 1 false := FV.of1 (ft := 119) Tryd.underlying124 rfl rfl rfl inferInstance
instance : FO Tryd.prog 124 7 7 := FO.of (k := 1) Tryd.underlying124 rfl rfl rfl (by kernel_rfl) (by decide)
instance : FV Tryd.prog 124 7 7 1 false := FV.of1 (ft := 120) Tryd.underlying124 rfl rfl rfl inferInstance
instance : FO Tryd.prog 124 8 8 := FO.of (k := 1) Tryd.underlying124 rfl rfl rfl (by kernel_rfl) (by decide)
instance : FV Tryd.prog 124 8 8 1 false := FV.of1 (ft := 121) Tryd.underlying124 rfl rfl rfl inferInstance
instance : FO Tryd.prog 124 9 9 := FO.of (k := 1) Tryd.underlying124 rfl rfl rfl (by kernel_rfl) (by decide)
instance : FV Tryd.prog 124 9 9 1 false := FV.of1 (ft := 122) Tryd.underlying124 rfl rfl rfl inferInstance
instance : FO Tryd.prog 124 10 10 := FO.of (k := 1) Tryd.underlying124 rfl rfl rfl (by kernel_rfl) (by decide)
instance : FV Tryd.prog 124 10 10 1 false := FV.of1 (ft := 123) Tryd.underlying124 rfl rfl rfl inferInstance
instance : Bd Tryd.prog 125 [(0, 1), (1, 1), (2, 1), (3, 1), (4, 1), (5, 1), (6, 1), (7, 1), (8, 1), (9, 1), (10, 1)] [.int .u64 0, .int .u64 0, .int .u32 0, .int .u8 0, .int .u8 0, .int .u8 0, .int .u8 0, .nilFunc, .pointer none, .int .i32 0, .int .i32 0] := ⟨fun _ => by kernel_rfl⟩
instance : FO Tryd.prog 125 0 0 := FO.of (k := 1) Tryd.underlying125 rfl rfl rfl (by kernel_rfl) (by decide)
instance : FV Tryd.prog 125 0 0 1 false := FV.of1 (ft := 12) Tryd.underlying125 rfl rfl rfl inferInstance
instance : FO Tryd.prog 125 1 1 := FO.of (k := 1) Tryd.underlying125 rfl rfl rfl (by kernel_rfl) (by decide)
instance : FV Tryd.prog 125 1 1 1 false := FV.of1 (ft := 12) Tryd.underlying125 rfl rfl rfl inferInstance
instance : FO Tryd.prog 125 2 2 := FO.of (k := 1) Tryd.underlying125 rfl rfl rfl (by kernel_rfl) (by decide)
instance : FV Tryd.prog 125 2 2 1 false := FV.of1 (ft := 117) Tryd.underlying125 rfl rfl rfl inferInstance
instance : FO Tryd.prog 125 3 3 := FO.of (k := 1) Tryd.underlying125 rfl rfl rfl (by kernel_rfl) (by decide)
instance : FV Tryd.prog 125 3 3 1 false := FV.of1 (ft := 118) Tryd.underlying125 rfl rfl rfl inferInstance
instance : FO Tryd.prog 125 4 4 := FO.of (k := 1) Tryd.underlying125 rfl rfl rfl (by kernel_rfl) (by decide)
instance : FV Tryd.prog 125 4 4 1 false := FV.of1 (ft := 5) Tryd.underlying125 rfl rfl rfl inferInstance
instance : FO Tryd.prog 125 5 5 := FO.of (k := 1) Tryd.underlying125 rfl rfl rfl (by kernel_rfl) (by decide)
instance : FV Tryd.prog 125 5 5 1 false := FV.of1 (ft := 5) Tryd.underlying125 rfl rfl rfl inferInstance
instance : FO Tryd.prog 125 6 6 := FO.of (k := 1) Tryd.underlying125 rfl rfl rfl (by kernel_rfl) (by decide)
instance : FV Tryd.prog 125 6 6 1 false := FV.of1 (ft := 119) Tryd.underlying125 rfl rfl rfl inferInstance
instance : FO Tryd.prog 125 7 7 := FO.of (k := 1) Tryd.underlying125 rfl rfl rfl (by kernel_rfl) (by decide)
instance : FV Tryd.prog 125 7 7 1 false := FV.of1 (ft := 120) Tryd.underlying125 rfl rfl rfl inferInstance
instance : FO Tryd.prog 125 8 8 := FO.of (k := 1) Tryd.underlying125 rfl rfl rfl (by kernel_rfl) (by decide)
instance : FV Tryd.prog 125 8 8 1 false := FV.of1 (ft := 121) Tryd.underlying125 rfl rfl rfl inferInstance
instance : FO Tryd.prog 125 9 9 := FO.of (k := 1) Tryd.underlying125 rfl rfl rfl (by kernel_rfl) (by decide)
instance : FV Tryd.prog 125 9 9 1 false := FV.of1 (ft := 122) Tryd.underlying125 rfl rfl rfl inferInstance
instance : FO Tryd.prog 125 10 10 := FO.of (k := 1) Tryd.underlying125 rfl rfl rfl (by kernel_rfl) (by decide)
instance : FV Tryd.prog 125 10 10 1 false := FV.of1 (ft := 123) Tryd.underlying125 rfl rfl rfl inferInstance
instance : Bd Tryd.prog 132 [(0, 1), (1, 1)] [.string ByteArray.empty, .int .u8 0] := ⟨fun _ => by kernel_rfl⟩
instance : FO Tryd.prog 132 0 0 := FO.of (k := 1) Tryd.underlying132 rfl rfl rfl (by kernel_rfl) (by decide)
instance : FV Tryd.prog 132 0 0 1 false := FV.of1 (ft := 9) Tryd.underlying132 rfl rfl rfl inferInstance
instance : FO Tryd.prog 132 1 1 := FO.of (k := 1) Tryd.underlying132 rfl rfl rfl (by kernel_rfl) (by decide)
instance : FV Tryd.prog 132 1 1 1 false := FV.of1 (ft := 119) Tryd.underlying132 rfl rfl rfl inferInstance
instance : Bd Tryd.prog 133 [(0, 1), (1, 1)] [.string ByteArray.empty, .int .u8 0] := ⟨fun _ => by kernel_rfl⟩
instance : FO Tryd.prog 133 0 0 := FO.of (k := 1) Tryd.underlying133 rfl rfl rfl (by kernel_rfl) (by decide)
instance : FV Tryd.prog 133 0 0 1 false := FV.of1 (ft := 9) Tryd.underlying133 rfl rfl rfl inferInstance
instance : FO Tryd.prog 133 1 1 := FO.of (k := 1) Tryd.underlying133 rfl rfl rfl (by kernel_rfl) (by decide)
instance : FV Tryd.prog 133 1 1 1 false := FV.of1 (ft := 119) Tryd.underlying133 rfl rfl rfl inferInstance
instance : Bd Tryd.prog 134 [(0, 1)] [.string ByteArray.empty] := ⟨fun _ => by kernel_rfl⟩
instance : FO Tryd.prog 134 0 0 := FO.of (k := 1) Tryd.underlying134 rfl rfl rfl (by kernel_rfl) (by decide)
instance : FV Tryd.prog 134 0 0 1 false := FV.of1 (ft := 9) Tryd.underlying134 rfl rfl rfl inferInstance
instance : Bd Tryd.prog 135 [(0, 1)] [.string ByteArray.empty] := ⟨fun _ => by kernel_rfl⟩
instance : FO Tryd.prog 135 0 0 := FO.of (k := 1) Tryd.underlying135 rfl rfl rfl (by kernel_rfl) (by decide)
instance : FV Tryd.prog 135 0 0 1 false := FV.of1 (ft := 9) Tryd.underlying135 rfl rfl rfl inferInstance
instance : Bd Tryd.prog 140 [(0, 1), (1, 1), (2, 1), (3, 1), (4, 1)] [.int .i32 0, .int .u16 0, .int .u16 0, .int .u32 0, .int .u32 0] := ⟨fun _ => by kernel_rfl⟩
instance : FO Tryd.prog 140 0 0 := FO.of (k := 1) Tryd.underlying140 rfl rfl rfl (by kernel_rfl) (by decide)
instance : FV Tryd.prog 140 0 0 1 false := FV.of1 (ft := 122) Tryd.underlying140 rfl rfl rfl inferInstance
instance : FO Tryd.prog 140 1 1 := FO.of (k := 1) Tryd.underlying140 rfl rfl rfl (by kernel_rfl) (by decide)
instance : FV Tryd.prog 140 1 1 1 false := FV.of1 (ft := 139) Tryd.underlying140 rfl rfl rfl inferInstance
instance : FO Tryd.prog 140 2 2 := FO.of (k := 1) Tryd.underlying140 rfl rfl rfl (by kernel_rfl) (by decide)
instance : FV Tryd.prog 140 2 2 1 false := FV.of1 (ft := 139) Tryd.underlying140 rfl rfl rfl inferInstance
instance : FO Tryd.prog 140 3 3 := FO.of (k := 1) Tryd.underlying140 rfl rfl rfl (by kernel_rfl) (by decide)
instance : FV Tryd.prog 140 3 3 1 false := FV.of1 (ft := 117) Tryd.underlying140 rfl rfl rfl inferInstance
instance : FO Tryd.prog 140 4 4 := FO.of (k := 1) Tryd.underlying140 rfl rfl rfl (by kernel_rfl) (by decide)
instance : FV Tryd.prog 140 4 4 1 false := FV.of1 (ft := 117) Tryd.underlying140 rfl rfl rfl inferInstance
instance : Bd Tryd.prog 141 [(0, 1), (1, 1), (2, 1), (3, 1), (4, 1)] [.int .i32 0, .int .u16 0, .int .u16 0, .int .u32 0, .int .u32 0] := ⟨fun _ => by kernel_rfl⟩
instance : FO Tryd.prog 141 0 0 := FO.of (k := 1) Tryd.underlying141 rfl rfl rfl (by kernel_rfl) (by decide)
instance : FV Tryd.prog 141 0 0 1 false := FV.of1 (ft := 122) Tryd.underlying141 rfl rfl rfl inferInstance
instance : FO Tryd.prog 141 1 1 := FO.of (k := 1) Tryd.underlying141 rfl rfl rfl (by kernel_rfl) (by decide)
instance : FV Tryd.prog 141 1 1 1 false := FV.of1 (ft := 139) Tryd.underlying141 rfl rfl rfl inferInstance
instance : FO Tryd.prog 141 2 2 := FO.of (k := 1) Tryd.underlying141 rfl rfl rfl (by kernel_rfl) (by decide)
instance : FV Tryd.prog 141 2 2 1 false := FV.of1 (ft := 139) Tryd.underlying141 rfl rfl rfl inferInstance
instance : FO Tryd.prog 141 3 3 := FO.of (k := 1) Tryd.underlying141 rfl rfl rfl (by kernel_rfl) (by decide)
instance : FV Tryd.prog 141 3 3 1 false := FV.of1 (ft := 117) Tryd.underlying141 rfl rfl rfl inferInstance
instance : FO Tryd.prog 141 4 4 := FO.of (k := 1) Tryd.underlying141 rfl rfl rfl (by kernel_rfl) (by decide)
instance : FV Tryd.prog 141 4 4 1 false := FV.of1 (ft := 117) Tryd.underlying141 rfl rfl rfl inferInstance
instance : Bd Tryd.prog 144 [(0, 1), (1, 1), (2, 1), (3, 1)] [.int .i32 0, .int .i32 0, .int .i32 0, .int .i32 0] := ⟨fun _ => by kernel_rfl⟩
instance : FO Tryd.prog 144 0 0 := FO.of (k := 1) Tryd.underlying144 rfl rfl rfl (by kernel_rfl) (by decide)
instance : FV Tryd.prog 144 0 0 1 false := FV.of1 (ft := 122) Tryd.underlying144 rfl rfl rfl inferInstance
instance : FO Tryd.prog 144 1 1 := FO.of (k := 1) Tryd.underlying144 rfl rfl rfl (by kernel_rfl) (by decide)
instance : FV Tryd.prog 144 1 1 1 false := FV.of1 (ft := 123) Tryd.underlying144 rfl rfl rfl inferInstance
instance : FO Tryd.prog 144 2 2 := FO.of (k := 1) Tryd.underlying144 rfl rfl rfl (by kernel_rfl) (by decide)
instance : FV Tryd.prog 144 2 2 1 false := FV.of1 (ft := 143) Tryd.underlying144 rfl rfl rfl inferInstance
instance : FO Tryd.prog 144 3 3 := FO.of (k := 1) Tryd.underlying144 rfl rfl rfl (by kernel_rfl) (by decide)
instance : FV Tryd.prog 144 3 3 1 false := FV.of1 (ft := 143) Tryd.underlying144 rfl rfl rfl inferInstance
instance : Bd Tryd.prog 145 [(0, 1), (1, 1), (2, 1), (3, 1)] [.int .i32 0, .int .i32 0, .int .i32 0, .int .i32 0] := ⟨fun _ => by kernel_rfl⟩
instance : FO Tryd.prog 145 0 0 := FO.of (k := 1) Tryd.underlying145 rfl rfl rfl (by kernel_rfl) (by decide)
instance : FV Tryd.prog 145 0 0 1 false := FV.of1 (ft := 122) Tryd.underlying145 rfl rfl rfl inferInstance
instance : FO Tryd.prog 145 1 1 := FO.of (k := 1) Tryd.underlying145 rfl rfl rfl (by kernel_rfl) (by decide)
instance : FV Tryd.prog 145 1 1 1 false := FV.of1 (ft := 123) Tryd.underlying145 rfl rfl rfl inferInstance
instance : FO Tryd.prog 145 2 2 := FO.of (k := 1) Tryd.underlying145 rfl rfl rfl (by kernel_rfl) (by decide)
instance : FV Tryd.prog 145 2 2 1 false := FV.of1 (ft := 143) Tryd.underlying145 rfl rfl rfl inferInstance
instance : FO Tryd.prog 145 3 3 := FO.of (k := 1) Tryd.underlying145 rfl rfl rfl (by kernel_rfl) (by decide)
instance : FV Tryd.prog 145 3 3 1 false := FV.of1 (ft := 143) Tryd.underlying145 rfl rfl rfl inferInstance
instance : Ent Tryd.prog 2 := .of Tryd.func2 (by kernel_rfl) rfl
instance : Ent Tryd.prog 3 := .of Tryd.func3 (by kernel_rfl) rfl
instance : Ent Tryd.prog 4 := .of Tryd.func4 (by kernel_rfl) rfl
instance : Ent Tryd.prog 5 := .of Tryd.func5 (by kernel_rfl) rfl
instance : Ent Tryd.prog 6 := .of Tryd.func6 (by kernel_rfl) rfl
instance : Ent Tryd.prog 7 := .of Tryd.func7 (by kernel_rfl) rfl
instance : Ent Tryd.prog 8 := .of Tryd.func8 (by kernel_rfl) rfl
instance : Ent Tryd.prog 9 := .of Tryd.func9 (by kernel_rfl) rfl
instance : Ent Tryd.prog 10 := .of Tryd.func10 (by kernel_rfl) rfl
instance : Ent Tryd.prog 11 := .of Tryd.func11 (by kernel_rfl) rfl
instance : Ent Tryd.prog 12 := .of Tryd.func12 (by kernel_rfl) rfl
instance : Ent Tryd.prog 13 := .of Tryd.func13 (by kernel_rfl) rfl
instance : Ent Tryd.prog 14 := .of Tryd.func14 (by kernel_rfl) rfl
instance : Ent Tryd.prog 15 := .of Tryd.func15 (by kernel_rfl) rfl
instance : Ent Tryd.prog 16 := .of Tryd.func16 (by kernel_rfl) rfl
instance : Ent Tryd.prog 17 := .of Tryd.func17 (by kernel_rfl) rfl
instance : Ent Tryd.prog 18 := .of Tryd.func18 (by kernel_rfl) rfl
instance : Ent Tryd.prog 19 := .of Tryd.func19 (by kernel_rfl) rfl
instance : Ent Tryd.prog 20 := .of Tryd.func20 (by kernel_rfl) rfl
instance : Ent Tryd.prog 21 := .of Tryd.func21 (by kernel_rfl) rfl
instance : Ent Tryd.prog 22 := .of Tryd.func22 (by kernel_rfl) rfl
instance : Ent Tryd.prog 23 := .of Tryd.func23 (by kernel_rfl) rfl
instance : Ent Tryd.prog 24 := .of Tryd.func24 (by kernel_rfl) rfl
instance : Ent Tryd.prog 25 := .of Tryd.func25 (by kernel_rfl) rfl
instance : Ent Tryd.prog 26 := .of Tryd.func26 (by kernel_rfl) rfl
instance : Ent Tryd.prog 27 := .of Tryd.func27 (by kernel_rfl) rfl
instance : Ent Tryd.prog 28 := .of Tryd.func28 (by kernel_rfl) rfl
instance : Ent Tryd.prog 29 := .of Tryd.func29 (by kernel_rfl) rfl
instance : Ent Tryd.prog 30 := .of Tryd.func30 (by kernel_rfl) rfl
instance : Ent Tryd.prog 31 := .of Tryd.func31 (by kernel_rfl) rfl
instance : Ent Tryd.prog 32 := .of Tryd.func32 (by kernel_rfl) rfl
instance : Ent Tryd.prog 33 := .of Tryd.func33 (by kernel_rfl) rfl
instance : Ent Tryd.prog 34 := .of Tryd.func34 (by kernel_rfl) rfl
instance : Ent Tryd.prog 35 := .of Tryd.func35 (by kernel_rfl) rfl
instance : Ent Tryd.prog 36 := .of Tryd.func36 (by kernel_rfl) rfl
instance : Ent Tryd.prog 37 := .of Tryd.func37 (by kernel_rfl) rfl
instance : Ent Tryd.prog 38 := .of Tryd.func38 (by kernel_rfl) rfl
instance : Ent Tryd.prog 39 := .of Tryd.func39 (by kernel_rfl) rfl
instance : Ent Tryd.prog 40 := .of Tryd.func40 (by kernel_rfl) rfl
instance : Ent Tryd.prog 41 := .of Tryd.func41 (by kernel_rfl) rfl
instance : Ent Tryd.prog 42 := .of Tryd.func42 (by kernel_rfl) rfl
instance : Ent Tryd.prog 43 := .of Tryd.func43 (by kernel_rfl) rfl
instance : Ent Tryd.prog 44 := .of Tryd.func44 (by kernel_rfl) rfl
instance : Ent Tryd.prog 45 := .of Tryd.func45 (by kernel_rfl) rfl
instance : Ent Tryd.prog 46 := .of Tryd.func46 (by kernel_rfl) rfl
instance : Ent Tryd.prog 47 := .of Tryd.func47 (by kernel_rfl) rfl
instance : Ent Tryd.prog 48 := .of Tryd.func48 (by kernel_rfl) rfl
instance : Ent Tryd.prog 49 := .of Tryd.func49 (by kernel_rfl) rfl
instance : Ent Tryd.prog 50 := .of Tryd.func50 (by kernel_rfl) rfl
instance : Ent Tryd.prog 51 := .of Tryd.func51 (by kernel_rfl) rfl
instance : Ent Tryd.prog 52 := .of Tryd.func52 (by kernel_rfl) rfl
instance : Ent Tryd.prog 53 := .of Tryd.func53 (by kernel_rfl) rfl
instance : Ent Tryd.prog 54 := .of Tryd.func54 (by kernel_rfl) rfl
instance : Ent Tryd.prog 55 := .of Tryd.func55 (by kernel_rfl) rfl
instance : Ent Tryd.prog 56 := .of Tryd.func56 (by kernel_rfl) rfl
instance : Ent Tryd.prog 57 := .of Tryd.func57 (by kernel_rfl) rfl
instance : Ent Tryd.prog 58 := .of Tryd.func58 (by kernel_rfl) rfl
instance : Ent Tryd.prog 59 := .of Tryd.func59 (by kernel_rfl) rfl
instance : Ent Tryd.prog 60 := .of Tryd.func60 (by kernel_rfl) rfl
instance : Ent Tryd.prog 61 := .of Tryd.func61 (by kernel_rfl) rfl
instance : Ent Tryd.prog 62 := .of Tryd.func62 (by kernel_rfl) rfl
instance : Ent Tryd.prog 63 := .of Tryd.func63 (by kernel_rfl) rfl
instance : Ent Tryd.prog 64 := .of Tryd.func64 (by kernel_rfl) rfl
instance : Ent Tryd.prog 65 := .of Tryd.func65 (by kernel_rfl) rfl
instance : Ent Tryd.prog 66 := .of Tryd.func66 (by kernel_rfl) rfl
instance : Ent Tryd.prog 67 := .of Tryd.func67 (by kernel_rfl) rfl
instance : Ent Tryd.prog 68 := .of Tryd.func68 (by kernel_rfl) rfl
instance : Ent Tryd.prog 69 := .of Tryd.func69 (by kernel_rfl) rfl
instance : Ent Tryd.prog 70 := .of Tryd.func70 (by kernel_rfl) rfl
instance : Ent Tryd.prog 71 := .of Tryd.func71 (by kernel_rfl) rfl
instance : Ent Tryd.prog 72 := .of Tryd.func72 (by kernel_rfl) rfl
instance : Ent Tryd.prog 73 := .of Tryd.func73 (by kernel_rfl) rfl
instance : Ent Tryd.prog 74 := .of Tryd.func74 (by kernel_rfl) rfl
instance : Ent Tryd.prog 75 := .of Tryd.func75 (by kernel_rfl) rfl
instance : Ent Tryd.prog 77 := .of Tryd.func77 (by kernel_rfl) rfl
instance : Ent Tryd.prog 78 := .of Tryd.func78 (by kernel_rfl) rfl
instance : Ent Tryd.prog 79 := .of Tryd.func79 (by kernel_rfl) rfl
instance : Ent Tryd.prog 80 := .of Tryd.func80 (by kernel_rfl) rfl
instance : Ent Tryd.prog 81 := .of Tryd.func81 (by kernel_rfl) rfl
instance : Ent Tryd.prog 82 := .of Tryd.func82 (by kernel_rfl) rfl
instance : Ent Tryd.prog 83 := .of Tryd.func83 (by kernel_rfl) rfl
instance : Ent Tryd.prog 84 := .of Tryd.func84 (by kernel_rfl) rfl
instance : Ent Tryd.prog 85 := .of Tryd.func85 (by kernel_rfl) rfl
instance : Ent Tryd.prog 86 := .of Tryd.func86 (by kernel_rfl) rfl
instance : Ent Tryd.prog 87 := .of Tryd.func87 (by kernel_rfl) rfl
instance : Ent Tryd.prog 88 := .of Tryd.func88 (by kernel_rfl) rfl
instance : Ent Tryd.prog 89 := .of Tryd.func89 (by kernel_rfl) rfl
instance : Ent Tryd.prog 90 := .of Tryd.func90 (by kernel_rfl) rfl
instance : Ent Tryd.prog 91 := .of Tryd.func91 (by kernel_rfl) rfl
instance : Ent Tryd.prog 92 := .of Tryd.func92 (by kernel_rfl) rfl
instance : Ent Tryd.prog 93 := .of Tryd.func93 (by kernel_rfl) rfl
instance : Ent Tryd.prog 94 := .of Tryd.func94 (by kernel_rfl) rfl
instance : Ent Tryd.prog 95 := .of Tryd.func95 (by kernel_rfl) rfl
instance : Ent Tryd.prog 96 := .of Tryd.func96 (by kernel_rfl) rfl
instance : Ent Tryd.prog 97 := .of Tryd.func97 (by kernel_rfl) rfl
instance : Ent Tryd.prog 98 := .of Tryd.func98 (by kernel_rfl) rfl
instance : Ent Tryd.prog 99 := .of Tryd.func99 (by kernel_rfl) rfl
instance : Ent Tryd.prog 100 := .of Tryd.func100 (by kernel_rfl) rfl
instance : Ent Tryd.prog 101 := .of Tryd.func101 (by kernel_rfl) rfl
instance : Ent Tryd.prog 102 := .of Tryd.func102 (by kernel_rfl) rfl
instance : Ent Tryd.prog 103 := .of Tryd.func103 (by kernel_rfl) rfl
instance : Ent Tryd.prog 104 := .of Tryd.func104 (by kernel_rfl) rfl
instance : Ent Tryd.prog 105 := .of Tryd.func105 (by kernel_rfl) rfl
instance : Ent Tryd.prog 136 := .of Tryd.func136 (by kernel_rfl) rfl
instance : Ent Tryd.prog 141 := .of Tryd.func141 (by kernel_rfl) rfl

end D
end Go.Proofs.YtgllmnmgojbgeaaDoor
