/- The engine, part 7: what the program's types and functions are (closed facts). -/
import Derived.Test.YtmohggeeedncoaaE2
import Derived.Test.YtmohggeeedncoaaProg
import Derived.Test.YtmohggeeedncoaaE3m
namespace Go.Proofs.Ytmohggeeedncoaa
set_option linter.unusedVariables false
set_option linter.unusedSimpArgs false
namespace D
open Go.RowKit

variable {P : Program}
theorem fieldPlace_run {fd : Field} {k : Nat} (hz : (P.info? fd.type).map (·.size) = some k) (hk : k ≠ 0) (b o : Nat) (w : World) : (fieldPlace ⟨b, o, none⟩ fd).run P w = .ok ⟨b, o + fd.offset, none⟩ w := by
  simp [fieldPlace, run_sizeOf hz, hk, add_plain]
theorem FO.of {s f off ft : Nat} {fs : Array Field} {fd : Field} {k : Nat} (hu : P.underlying s = some (.struct fs)) (hf : fs[f]? = some fd) (ho : fd.offset = off) (ht : fd.type = ft) (hz : (P.info? ft).map (·.size) = some k) (hk : k ≠ 0) : FO P s f off := by
  subst ho; subst ht
  exact ⟨fun b o w => by simp [Instr.fieldAt, run_underlying hu, hf, Instr.sureAddr, fieldPlace_run hz hk]⟩
theorem FV.of1 {s f off ft : Nat} {fs : Array Field} {fd : Field} (hu : P.underlying s = some (.struct fs)) (hf : fs[f]? = some fd) (ho : fd.offset = off) (ht : fd.type = ft) (i : Sc P ft) : FV P s f off 1 false := by
  subst ho; subst ht
  exact ⟨fun us w => by
    simp only [Instr.field, Sem.run_bind, run_underlying hu, Result.andThen_ok, hf, part, asAgg, run_isAgg_sc, Sem.run_pure]
    simp
    cases us[fd.offset]? <;> rfl⟩
theorem FV.ofk {s f off ft : Nat} {fs : Array Field} {fd : Field} {k : Nat} (hu : P.underlying s = some (.struct fs)) (hf : fs[f]? = some fd) (ho : fd.offset = off) (ht : fd.type = ft) (i : Ag P ft k) : FV P s f off k true := by
  subst ho; subst ht
  exact ⟨fun us w => by
    simp only [Instr.field, Sem.run_bind, run_underlying hu, Result.andThen_ok, hf, part, asAgg, run_isAgg_ag, Sem.run_pure, run_sizeOf i.sz]
    simp [run_sizeOf i.sz]⟩

instance : Sc Try.prog 1 := ⟨_, Try.underlying1, rfl⟩
instance : Sz Try.prog 1 1 := ⟨by kernel_rfl⟩
instance : Zr Try.prog 1 [.nilFunc] := ⟨by kernel_rfl⟩
instance : Sc Try.prog 2 := ⟨_, Try.underlying2, rfl⟩
instance : Sz Try.prog 2 1 := ⟨by kernel_rfl⟩
instance : Zr Try.prog 2 [.int .i64 0] := ⟨by kernel_rfl⟩
instance : I64 Try.prog 2 := ⟨Try.underlying2⟩
instance : Sc Try.prog 3 := ⟨_, Try.underlying3, rfl⟩
instance : Sz Try.prog 3 1 := ⟨by kernel_rfl⟩
instance : Zr Try.prog 3 [.int .i64 0] := ⟨by kernel_rfl⟩
instance : I64 Try.prog 3 := ⟨Try.underlying3⟩
instance : Sc Try.prog 4 := ⟨_, Try.underlying4, rfl⟩
instance : Sz Try.prog 4 1 := ⟨by kernel_rfl⟩
instance : Zr Try.prog 4 [.bool false] := ⟨by kernel_rfl⟩
instance : BoT Try.prog 4 := ⟨Try.underlying4⟩
instance : Sc Try.prog 5 := ⟨_, Try.underlying5, rfl⟩
instance : Sz Try.prog 5 1 := ⟨by kernel_rfl⟩
instance : Zr Try.prog 5 [.int .u8 0] := ⟨by kernel_rfl⟩
instance : Sc Try.prog 6 := ⟨_, Try.underlying6, rfl⟩
instance : Sz Try.prog 6 1 := ⟨by kernel_rfl⟩
instance : Zr Try.prog 6 [.int .u8 0] := ⟨by kernel_rfl⟩
instance : Ag Try.prog 7 4 := ⟨⟨_, Try.underlying7, rfl⟩, by kernel_rfl⟩
instance : Sz Try.prog 7 4 := ⟨by kernel_rfl⟩
instance : Zr Try.prog 7 [.int .i64 0, .int .i64 0, .bool false, .int .u8 0] := ⟨by kernel_rfl⟩
instance : Ag Try.prog 8 4 := ⟨⟨_, Try.underlying8, rfl⟩, by kernel_rfl⟩
instance : Sz Try.prog 8 4 := ⟨by kernel_rfl⟩
instance : Zr Try.prog 8 [.int .i64 0, .int .i64 0, .bool false, .int .u8 0] := ⟨by kernel_rfl⟩
instance : Sc Try.prog 9 := ⟨_, Try.underlying9, rfl⟩
instance : Sz Try.prog 9 1 := ⟨by kernel_rfl⟩
instance : Zr Try.prog 9 [.string ByteArray.empty] := ⟨by kernel_rfl⟩
instance : StT Try.prog 9 := ⟨Try.underlying9⟩
instance : Sc Try.prog 10 := ⟨_, Try.underlying10, rfl⟩
instance : Sz Try.prog 10 1 := ⟨by kernel_rfl⟩
instance : Zr Try.prog 10 [.string ByteArray.empty] := ⟨by kernel_rfl⟩
instance : StT Try.prog 10 := ⟨Try.underlying10⟩
instance : Sc Try.prog 11 := ⟨_, Try.underlying11, rfl⟩
instance : Sz Try.prog 11 1 := ⟨by kernel_rfl⟩
instance : Zr Try.prog 11 [.string ByteArray.empty] := ⟨by kernel_rfl⟩
instance : StT Try.prog 11 := ⟨Try.underlying11⟩
instance : Sc Try.prog 12 := ⟨_, Try.underlying12, rfl⟩
instance : Sz Try.prog 12 1 := ⟨by kernel_rfl⟩
instance : Zr Try.prog 12 [.int .u64 0] := ⟨by kernel_rfl⟩
instance : Ag Try.prog 13 2 := ⟨⟨_, Try.underlying13, rfl⟩, by kernel_rfl⟩
instance : Sz Try.prog 13 2 := ⟨by kernel_rfl⟩
instance : Zr Try.prog 13 [.string ByteArray.empty, .int .u64 0] := ⟨by kernel_rfl⟩
instance : Ag Try.prog 14 2 := ⟨⟨_, Try.underlying14, rfl⟩, by kernel_rfl⟩
instance : Sz Try.prog 14 2 := ⟨by kernel_rfl⟩
instance : Zr Try.prog 14 [.string ByteArray.empty, .int .u64 0] := ⟨by kernel_rfl⟩
instance : Sc Try.prog 15 := ⟨_, Try.underlying15, rfl⟩
instance : Sz Try.prog 15 1 := ⟨by kernel_rfl⟩
instance : Zr Try.prog 15 [.pointer none] := ⟨by kernel_rfl⟩
instance : Sc Try.prog 16 := ⟨_, Try.underlying16, rfl⟩
instance : Sz Try.prog 16 1 := ⟨by kernel_rfl⟩
instance : Zr Try.prog 16 [.pointer none] := ⟨by kernel_rfl⟩
instance : Sc Try.prog 17 := ⟨_, Try.underlying17, rfl⟩
instance : Sz Try.prog 17 1 := ⟨by kernel_rfl⟩
instance : Zr Try.prog 17 [.pointer none] := ⟨by kernel_rfl⟩
instance : Ag Try.prog 18 1 := ⟨⟨_, Try.underlying18, rfl⟩, by kernel_rfl⟩
instance : Sz Try.prog 18 1 := ⟨by kernel_rfl⟩
instance : Zr Try.prog 18 [.pointer none] := ⟨by kernel_rfl⟩
instance : Ag Try.prog 19 1 := ⟨⟨_, Try.underlying19, rfl⟩, by kernel_rfl⟩
instance : Sz Try.prog 19 1 := ⟨by kernel_rfl⟩
instance : Zr Try.prog 19 [.pointer none] := ⟨by kernel_rfl⟩
instance : Sc Try.prog 20 := ⟨_, Try.underlying20, rfl⟩
instance : Sz Try.prog 20 1 := ⟨by kernel_rfl⟩
instance : Zr Try.prog 20 [.nilIface] := ⟨by kernel_rfl⟩
instance : Sc Try.prog 21 := ⟨_, Try.underlying21, rfl⟩
instance : Sz Try.prog 21 1 := ⟨by kernel_rfl⟩
instance : Zr Try.prog 21 [.int .i32 0] := ⟨by kernel_rfl⟩
instance : Sc Try.prog 22 := ⟨_, Try.underlying22, rfl⟩
instance : Sz Try.prog 22 1 := ⟨by kernel_rfl⟩
instance : Zr Try.prog 22 [.slice none 0 0] := ⟨by kernel_rfl⟩
instance : SlT Try.prog 22 41 2 := ⟨Try.underlying22, by kernel_rfl⟩
instance : Sc Try.prog 23 := ⟨_, Try.underlying23, rfl⟩
instance : Sz Try.prog 23 1 := ⟨by kernel_rfl⟩
instance : Zr Try.prog 23 [.nilFunc] := ⟨by kernel_rfl⟩
instance : Sc Try.prog 24 := ⟨_, Try.underlying24, rfl⟩
instance : Sz Try.prog 24 1 := ⟨by kernel_rfl⟩
instance : Zr Try.prog 24 [.slice none 0 0] := ⟨by kernel_rfl⟩
instance : SlT Try.prog 24 34 2 := ⟨Try.underlying24, by kernel_rfl⟩
instance : Sc Try.prog 25 := ⟨_, Try.underlying25, rfl⟩
instance : Sz Try.prog 25 1 := ⟨by kernel_rfl⟩
instance : Zr Try.prog 25 [.nilFunc] := ⟨by kernel_rfl⟩
instance : Sc Try.prog 26 := ⟨_, Try.underlying26, rfl⟩
instance : Sz Try.prog 26 1 := ⟨by kernel_rfl⟩
instance : Zr Try.prog 26 [.nilFunc] := ⟨by kernel_rfl⟩
instance : Sc Try.prog 27 := ⟨_, Try.underlying27, rfl⟩
instance : Sz Try.prog 27 1 := ⟨by kernel_rfl⟩
instance : Zr Try.prog 27 [.nilFunc] := ⟨by kernel_rfl⟩
instance : Sc Try.prog 28 := ⟨_, Try.underlying28, rfl⟩
instance : Sz Try.prog 28 1 := ⟨by kernel_rfl⟩
instance : Zr Try.prog 28 [.nilFunc] := ⟨by kernel_rfl⟩
instance : Sc Try.prog 29 := ⟨_, Try.underlying29, rfl⟩
instance : Sz Try.prog 29 1 := ⟨by kernel_rfl⟩
instance : Zr Try.prog 29 [.nilFunc] := ⟨by kernel_rfl⟩
instance : Sc Try.prog 30 := ⟨_, Try.underlying30, rfl⟩
instance : Sz Try.prog 30 1 := ⟨by kernel_rfl⟩
instance : Zr Try.prog 30 [.slice none 0 0] := ⟨by kernel_rfl⟩
instance : SlT Try.prog 30 5 1 := ⟨Try.underlying30, by kernel_rfl⟩
instance : Sc Try.prog 32 := ⟨_, Try.underlying32, rfl⟩
instance : Sz Try.prog 32 1 := ⟨by kernel_rfl⟩
instance : Zr Try.prog 32 [.nilFunc] := ⟨by kernel_rfl⟩
instance : Ag Try.prog 33 2 := ⟨⟨_, Try.underlying33, rfl⟩, by kernel_rfl⟩
instance : Sz Try.prog 33 2 := ⟨by kernel_rfl⟩
instance : Zr Try.prog 33 [.int .i64 0, .int .i64 0] := ⟨by kernel_rfl⟩
instance : Ag Try.prog 34 2 := ⟨⟨_, Try.underlying34, rfl⟩, by kernel_rfl⟩
instance : Sz Try.prog 34 2 := ⟨by kernel_rfl⟩
instance : Zr Try.prog 34 [.int .i64 0, .int .i64 0] := ⟨by kernel_rfl⟩
instance : Sc Try.prog 35 := ⟨_, Try.underlying35, rfl⟩
instance : Sz Try.prog 35 1 := ⟨by kernel_rfl⟩
instance : Zr Try.prog 35 [.nilFunc] := ⟨by kernel_rfl⟩
instance : Sc Try.prog 36 := ⟨_, Try.underlying36, rfl⟩
instance : Sz Try.prog 36 1 := ⟨by kernel_rfl⟩
instance : Zr Try.prog 36 [.nilFunc] := ⟨by kernel_rfl⟩
instance : Sc Try.prog 37 := ⟨_, Try.underlying37, rfl⟩
instance : Sz Try.prog 37 1 := ⟨by kernel_rfl⟩
instance : Zr Try.prog 37 [.nilFunc] := ⟨by kernel_rfl⟩
instance : Sc Try.prog 38 := ⟨_, Try.underlying38, rfl⟩
instance : Sz Try.prog 38 1 := ⟨by kernel_rfl⟩
instance : Zr Try.prog 38 [.nilFunc] := ⟨by kernel_rfl⟩
instance : Sc Try.prog 39 := ⟨_, Try.underlying39, rfl⟩
instance : Sz Try.prog 39 1 := ⟨by kernel_rfl⟩
instance : Zr Try.prog 39 [.nilFunc] := ⟨by kernel_rfl⟩
instance : Sc Try.prog 40 := ⟨_, Try.underlying40, rfl⟩
instance : Sz Try.prog 40 1 := ⟨by kernel_rfl⟩
instance : Zr Try.prog 40 [.nilFunc] := ⟨by kernel_rfl⟩
instance : Ag Try.prog 41 2 := ⟨⟨_, Try.underlying41, rfl⟩, by kernel_rfl⟩
instance : Sz Try.prog 41 2 := ⟨by kernel_rfl⟩
instance : Zr Try.prog 41 [.int .i64 0, .int .i64 0] := ⟨by kernel_rfl⟩
instance : Sc Try.prog 42 := ⟨_, Try.underlying42, rfl⟩
instance : Sz Try.prog 42 1 := ⟨by kernel_rfl⟩
instance : Zr Try.prog 42 [.pointer none] := ⟨by kernel_rfl⟩
instance : Sc Try.prog 43 := ⟨_, Try.underlying43, rfl⟩
instance : Sz Try.prog 43 1 := ⟨by kernel_rfl⟩
instance : Zr Try.prog 43 [.pointer none] := ⟨by kernel_rfl⟩
instance : Ag Try.prog 44 4 := ⟨⟨_, Try.underlying44, rfl⟩, by kernel_rfl⟩
instance : Sz Try.prog 44 4 := ⟨by kernel_rfl⟩
instance : Zr Try.prog 44 [.pointer none, .pointer none, .pointer none, .nilIface] := ⟨by kernel_rfl⟩
instance : Ag Try.prog 45 4 := ⟨⟨_, Try.underlying45, rfl⟩, by kernel_rfl⟩
instance : Sz Try.prog 45 4 := ⟨by kernel_rfl⟩
instance : Zr Try.prog 45 [.pointer none, .pointer none, .pointer none, .nilIface] := ⟨by kernel_rfl⟩
instance : Ag Try.prog 46 5 := ⟨⟨_, Try.underlying46, rfl⟩, by kernel_rfl⟩
instance : Sz Try.prog 46 5 := ⟨by kernel_rfl⟩
instance : Zr Try.prog 46 [.pointer none, .pointer none, .pointer none, .nilIface, .int .i64 0] := ⟨by kernel_rfl⟩
instance : Ag Try.prog 47 5 := ⟨⟨_, Try.underlying47, rfl⟩, by kernel_rfl⟩
instance : Sz Try.prog 47 5 := ⟨by kernel_rfl⟩
instance : Zr Try.prog 47 [.pointer none, .pointer none, .pointer none, .nilIface, .int .i64 0] := ⟨by kernel_rfl⟩
instance : Ag Try.prog 48 5 := ⟨⟨_, Try.underlying48, rfl⟩, by kernel_rfl⟩
instance : Sz Try.prog 48 5 := ⟨by kernel_rfl⟩
instance : Zr Try.prog 48 [.pointer none, .pointer none, .pointer none, .nilIface, .int .i64 0] := ⟨by kernel_rfl⟩
instance : Ag Try.prog 49 5 := ⟨⟨_, Try.underlying49, rfl⟩, by kernel_rfl⟩
instance : Sz Try.prog 49 5 := ⟨by kernel_rfl⟩
instance : Zr Try.prog 49 [.pointer none, .pointer none, .pointer none, .nilIface, .int .i64 0] := ⟨by kernel_rfl⟩
instance : Sc Try.prog 50 := ⟨_, Try.underlying50, rfl⟩
instance : Sz Try.prog 50 1 := ⟨by kernel_rfl⟩
instance : Zr Try.prog 50 [.nilFunc] := ⟨by kernel_rfl⟩
instance : Sc Try.prog 51 := ⟨_, Try.underlying51, rfl⟩
instance : Sz Try.prog 51 1 := ⟨by kernel_rfl⟩
instance : Zr Try.prog 51 [.nilFunc] := ⟨by kernel_rfl⟩
instance : Sc Try.prog 52 := ⟨_, Try.underlying52, rfl⟩
instance : Sz Try.prog 52 1 := ⟨by kernel_rfl⟩
instance : Zr Try.prog 52 [.nilFunc] := ⟨by kernel_rfl⟩
instance : Sc Try.prog 53 := ⟨_, Try.underlying53, rfl⟩
instance : Sz Try.prog 53 1 := ⟨by kernel_rfl⟩
instance : Zr Try.prog 53 [.pointer none] := ⟨by kernel_rfl⟩
instance : Sc Try.prog 54 := ⟨_, Try.underlying54, rfl⟩
instance : Sz Try.prog 54 1 := ⟨by kernel_rfl⟩
instance : Zr Try.prog 54 [.nilFunc] := ⟨by kernel_rfl⟩
instance : Sc Try.prog 55 := ⟨_, Try.underlying55, rfl⟩
instance : Sz Try.prog 55 1 := ⟨by kernel_rfl⟩
instance : Zr Try.prog 55 [.nilFunc] := ⟨by kernel_rfl⟩
instance : Sc Try.prog 56 := ⟨_, Try.underlying56, rfl⟩
instance : Sz Try.prog 56 1 := ⟨by kernel_rfl⟩
instance : Zr Try.prog 56 [.nilFunc] := ⟨by kernel_rfl⟩
instance : Sc Try.prog 57 := ⟨_, Try.underlying57, rfl⟩
instance : Sz Try.prog 57 1 := ⟨by kernel_rfl⟩
instance : Zr Try.prog 57 [.nilFunc] := ⟨by kernel_rfl⟩
instance : Sc Try.prog 58 := ⟨_, Try.underlying58, rfl⟩
instance : Sz Try.prog 58 1 := ⟨by kernel_rfl⟩
instance : Zr Try.prog 58 [.pointer none] := ⟨by kernel_rfl⟩
instance : Sc Try.prog 59 := ⟨_, Try.underlying59, rfl⟩
instance : Sz Try.prog 59 1 := ⟨by kernel_rfl⟩
instance : Zr Try.prog 59 [.nilFunc] := ⟨by kernel_rfl⟩
instance : Sc Try.prog 60 := ⟨_, Try.underlying60, rfl⟩
instance : Sz Try.prog 60 1 := ⟨by kernel_rfl⟩
instance : Zr Try.prog 60 [.nilFunc] := ⟨by kernel_rfl⟩
instance : Sc Try.prog 61 := ⟨_, Try.underlying61, rfl⟩
instance : Sz Try.prog 61 1 := ⟨by kernel_rfl⟩
instance : Zr Try.prog 61 [.nilFunc] := ⟨by kernel_rfl⟩
instance : Ag Try.prog 62 2 := ⟨⟨_, Try.underlying62, rfl⟩, by kernel_rfl⟩
instance : Sz Try.prog 62 2 := ⟨by kernel_rfl⟩
instance : Zr Try.prog 62 [.slice none 0 0, .int .i64 0] := ⟨by kernel_rfl⟩
instance : Ag Try.prog 63 2 := ⟨⟨_, Try.underlying63, rfl⟩, by kernel_rfl⟩
instance : Sz Try.prog 63 2 := ⟨by kernel_rfl⟩
instance : Zr Try.prog 63 [.slice none 0 0, .int .i64 0] := ⟨by kernel_rfl⟩
instance : Sc Try.prog 65 := ⟨_, Try.underlying65, rfl⟩
instance : Sz Try.prog 65 1 := ⟨by kernel_rfl⟩
instance : Zr Try.prog 65 [.nilFunc] := ⟨by kernel_rfl⟩
instance : Sc Try.prog 66 := ⟨_, Try.underlying66, rfl⟩
instance : Sz Try.prog 66 1 := ⟨by kernel_rfl⟩
instance : Zr Try.prog 66 [.nilFunc] := ⟨by kernel_rfl⟩
instance : Sc Try.prog 67 := ⟨_, Try.underlying67, rfl⟩
instance : Sz Try.prog 67 1 := ⟨by kernel_rfl⟩
instance : Zr Try.prog 67 [.nilFunc] := ⟨by kernel_rfl⟩
instance : Sc Try.prog 68 := ⟨_, Try.underlying68, rfl⟩
instance : Sz Try.prog 68 1 := ⟨by kernel_rfl⟩
instance : Zr Try.prog 68 [.nilFunc] := ⟨by kernel_rfl⟩
instance : Sc Try.prog 69 := ⟨_, Try.underlying69, rfl⟩
instance : Sz Try.prog 69 1 := ⟨by kernel_rfl⟩
instance : Zr Try.prog 69 [.nilFunc] := ⟨by kernel_rfl⟩
instance : Sc Try.prog 70 := ⟨_, Try.underlying70, rfl⟩
instance : Sz Try.prog 70 1 := ⟨by kernel_rfl⟩
instance : Zr Try.prog 70 [.nilFunc] := ⟨by kernel_rfl⟩
instance : Sc Try.prog 71 := ⟨_, Try.underlying71, rfl⟩
instance : Sz Try.prog 71 1 := ⟨by kernel_rfl⟩
instance : Zr Try.prog 71 [.nilFunc] := ⟨by kernel_rfl⟩
instance : Sc Try.prog 72 := ⟨_, Try.underlying72, rfl⟩
instance : Sz Try.prog 72 1 := ⟨by kernel_rfl⟩
instance : Zr Try.prog 72 [.nilFunc] := ⟨by kernel_rfl⟩
instance : Sc Try.prog 73 := ⟨_, Try.underlying73, rfl⟩
instance : Sz Try.prog 73 1 := ⟨by kernel_rfl⟩
instance : Zr Try.prog 73 [.nilFunc] := ⟨by kernel_rfl⟩
instance : Sc Try.prog 74 := ⟨_, Try.underlying74, rfl⟩
instance : Sz Try.prog 74 1 := ⟨by kernel_rfl⟩
instance : Zr Try.prog 74 [.nilFunc] := ⟨by kernel_rfl⟩
instance : Sc Try.prog 75 := ⟨_, Try.underlying75, rfl⟩
instance : Sz Try.prog 75 1 := ⟨by kernel_rfl⟩
instance : Zr Try.prog 75 [.nilFunc] := ⟨by kernel_rfl⟩
instance : Ag Try.prog 76 4 := ⟨⟨_, Try.underlying76, rfl⟩, by kernel_rfl⟩
instance : Sz Try.prog 76 4 := ⟨by kernel_rfl⟩
instance : Zr Try.prog 76 [.pointer none, .pointer none, .pointer none, .string ByteArray.empty] := ⟨by kernel_rfl⟩
instance : Ag Try.prog 77 4 := ⟨⟨_, Try.underlying77, rfl⟩, by kernel_rfl⟩
instance : Sz Try.prog 77 4 := ⟨by kernel_rfl⟩
instance : Zr Try.prog 77 [.pointer none, .pointer none, .pointer none, .string ByteArray.empty] := ⟨by kernel_rfl⟩
instance : Sc Try.prog 81 := ⟨_, Try.underlying81, rfl⟩
instance : Sz Try.prog 81 1 := ⟨by kernel_rfl⟩
instance : Zr Try.prog 81 [.int .u32 0] := ⟨by kernel_rfl⟩
instance : Sc Try.prog 82 := ⟨_, Try.underlying82, rfl⟩
instance : Sz Try.prog 82 1 := ⟨by kernel_rfl⟩
instance : Zr Try.prog 82 [.int .u8 0] := ⟨by kernel_rfl⟩
instance : Sc Try.prog 83 := ⟨_, Try.underlying83, rfl⟩
instance : Sz Try.prog 83 1 := ⟨by kernel_rfl⟩
instance : Zr Try.prog 83 [.int .u8 0] := ⟨by kernel_rfl⟩
instance : Sc Try.prog 84 := ⟨_, Try.underlying84, rfl⟩
instance : Sz Try.prog 84 1 := ⟨by kernel_rfl⟩
instance : Zr Try.prog 84 [.nilFunc] := ⟨by kernel_rfl⟩
instance : Sc Try.prog 85 := ⟨_, Try.underlying85, rfl⟩
instance : Sz Try.prog 85 1 := ⟨by kernel_rfl⟩
instance : Zr Try.prog 85 [.pointer none] := ⟨by kernel_rfl⟩
instance : Sc Try.prog 86 := ⟨_, Try.underlying86, rfl⟩
instance : Sz Try.prog 86 1 := ⟨by kernel_rfl⟩
instance : Zr Try.prog 86 [.int .i32 0] := ⟨by kernel_rfl⟩
instance : Sc Try.prog 87 := ⟨_, Try.underlying87, rfl⟩
instance : Sz Try.prog 87 1 := ⟨by kernel_rfl⟩
instance : Zr Try.prog 87 [.int .i32 0] := ⟨by kernel_rfl⟩
instance : Ag Try.prog 88 11 := ⟨⟨_, Try.underlying88, rfl⟩, by kernel_rfl⟩
instance : Sz Try.prog 88 11 := ⟨by kernel_rfl⟩
instance : Zr Try.prog 88 [.int .u64 0, .int .u64 0, .int .u32 0, .int .u8 0, .int .u8 0, .int .u8 0, .int .u8 0, .nilFunc, .pointer none, .int .i32 0, .int .i32 0] := ⟨by kernel_rfl⟩
instance : Ag Try.prog 89 11 := ⟨⟨_, Try.underlying89, rfl⟩, by kernel_rfl⟩
instance : Sz Try.prog 89 11 := ⟨by kernel_rfl⟩
instance : Zr Try.prog 89 [.int .u64 0, .int .u64 0, .int .u32 0, .int .u8 0, .int .u8 0, .int .u8 0, .int .u8 0, .nilFunc, .pointer none, .int .i32 0, .int .i32 0] := ⟨by kernel_rfl⟩
instance : Sc Try.prog 90 := ⟨_, Try.underlying90, rfl⟩
instance : Sz Try.prog 90 1 := ⟨by kernel_rfl⟩
instance : Zr Try.prog 90 [.pointer none] := ⟨by kernel_rfl⟩
instance : BS Try.prog 22 41 [.int .i64 0, .int .i64 0] := ⟨Try.underlying22, by kernel_rfl, by kernel_rfl⟩
instance : BS Try.prog 24 34 [.int .i64 0, .int .i64 0] := ⟨Try.underlying24, by kernel_rfl, by kernel_rfl⟩
instance : BS Try.prog 30 5 [.int .u8 0] := ⟨Try.underlying30, by kernel_rfl, by kernel_rfl⟩
instance : Bd Try.prog 7 [(0, 1), (1, 1), (2, 1), (3, 1)] [.int .i64 0, .int .i64 0, .bool false, .int .u8 0] := ⟨fun _ => by kernel_rfl⟩
instance : FO Try.prog 7 0 0 := FO.of (k := 1) Try.underlying7 rfl rfl rfl (by kernel_rfl) (by decide)
instance : FV Try.prog 7 0 0 1 false := FV.of1 (ft := 2) Try.underlying7 rfl rfl rfl inferInstance
instance : FO Try.prog 7 1 1 := FO.of (k := 1) Try.underlying7 rfl rfl rfl (by kernel_rfl) (by decide)
instance : FV Try.prog 7 1 1 1 false := FV.of1 (ft := 3) Try.underlying7 rfl rfl rfl inferInstance
instance : FO Try.prog 7 2 2 := FO.of (k := 1) Try.underlying7 rfl rfl rfl (by kernel_rfl) (by decide)
instance : FV Try.prog 7 2 2 1 false := FV.of1 (ft := 4) Try.underlying7 rfl rfl rfl inferInstance
instance : FO Try.prog 7 3 3 := FO.of (k := 1) Try.underlying7 rfl rfl rfl (by kernel_rfl) (by decide)
instance : FV Try.prog 7 3 3 1 false := FV.of1 (ft := 6) Try.underlying7 rfl rfl rfl inferInstance
instance : Bd Try.prog 8 [(0, 1), (1, 1), (2, 1), (3, 1)] [.int .i64 0, .int .i64 0, .bool false, .int .u8 0] := ⟨fun _ => by kernel_rfl⟩
instance : FO Try.prog 8 0 0 := FO.of (k := 1) Try.underlying8 rfl rfl rfl (by kernel_rfl) (by decide)
instance : FV Try.prog 8 0 0 1 false := FV.of1 (ft := 2) Try.underlying8 rfl rfl rfl inferInstance
instance : FO Try.prog 8 1 1 := FO.of (k := 1) Try.underlying8 rfl rfl rfl (by kernel_rfl) (by decide)
instance : FV Try.prog 8 1 1 1 false := FV.of1 (ft := 3) Try.underlying8 rfl rfl rfl inferInstance
instance : FO Try.prog 8 2 2 := FO.of (k := 1) Try.underlying8 rfl rfl rfl (by kernel_rfl) (by decide)
instance : FV Try.prog 8 2 2 1 false := FV.of1 (ft := 4) Try.underlying8 rfl rfl rfl inferInstance
instance : FO Try.prog 8 3 3 := FO.of (k := 1) Try.underlying8 rfl rfl rfl (by kernel_rfl) (by decide)
instance : FV Try.prog 8 3 3 1 false := FV.of1 (ft := 6) Try.underlying8 rfl rfl rfl inferInstance
instance : Bd Try.prog 13 [(0, 1), (1, 1)] [.string ByteArray.empty, .int .u64 0] := ⟨fun _ => by kernel_rfl⟩
instance : FO Try.prog 13 0 0 := FO.of (k := 1) Try.underlying13 rfl rfl rfl (by kernel_rfl) (by decide)
instance : FV Try.prog 13 0 0 1 false := FV.of1 (ft := 9) Try.underlying13 rfl rfl rfl inferInstance
instance : FO Try.prog 13 1 1 := FO.of (k := 1) Try.underlying13 rfl rfl rfl (by kernel_rfl) (by decide)
instance : FV Try.prog 13 1 1 1 false := FV.of1 (ft := 12) Try.underlying13 rfl rfl rfl inferInstance
instance : Bd Try.prog 14 [(0, 1), (1, 1)] [.string ByteArray.empty, .int .u64 0] := ⟨fun _ => by kernel_rfl⟩
instance : FO Try.prog 14 0 0 := FO.of (k := 1) Try.underlying14 rfl rfl rfl (by kernel_rfl) (by decide)
instance : FV Try.prog 14 0 0 1 false := FV.of1 (ft := 9) Try.underlying14 rfl rfl rfl inferInstance
instance : FO Try.prog 14 1 1 := FO.of (k := 1) Try.underlying14 rfl rfl rfl (by kernel_rfl) (by decide)
instance : FV Try.prog 14 1 1 1 false := FV.of1 (ft := 12) Try.underlying14 rfl rfl rfl inferInstance
instance : Bd Try.prog 18 [(0, 1)] [.pointer none] := ⟨fun _ => by kernel_rfl⟩
instance : FO Try.prog 18 0 0 := FO.of (k := 1) Try.underlying18 rfl rfl rfl (by kernel_rfl) (by decide)
instance : FV Try.prog 18 0 0 1 false := FV.of1 (ft := 17) Try.underlying18 rfl rfl rfl inferInstance
instance : Bd Try.prog 19 [(0, 1)] [.pointer none] := ⟨fun _ => by kernel_rfl⟩
instance : FO Try.prog 19 0 0 := FO.of (k := 1) Try.underlying19 rfl rfl rfl (by kernel_rfl) (by decide)
instance : FV Try.prog 19 0 0 1 false := FV.of1 (ft := 17) Try.underlying19 rfl rfl rfl inferInstance
instance : Bd Try.prog 33 [(0, 1), (1, 1)] [.int .i64 0, .int .i64 0] := ⟨fun _ => by kernel_rfl⟩
instance : FO Try.prog 33 0 0 := FO.of (k := 1) Try.underlying33 rfl rfl rfl (by kernel_rfl) (by decide)
instance : FV Try.prog 33 0 0 1 false := FV.of1 (ft := 3) Try.underlying33 rfl rfl rfl inferInstance
instance : FO Try.prog 33 1 1 := FO.of (k := 1) Try.underlying33 rfl rfl rfl (by kernel_rfl) (by decide)
instance : FV Try.prog 33 1 1 1 false := FV.of1 (ft := 3) Try.underlying33 rfl rfl rfl inferInstance
instance : Bd Try.prog 34 [(0, 1), (1, 1)] [.int .i64 0, .int .i64 0] := ⟨fun _ => by kernel_rfl⟩
instance : FO Try.prog 34 0 0 := FO.of (k := 1) Try.underlying34 rfl rfl rfl (by kernel_rfl) (by decide)
instance : FV Try.prog 34 0 0 1 false := FV.of1 (ft := 3) Try.underlying34 rfl rfl rfl inferInstance
instance : FO Try.prog 34 1 1 := FO.of (k := 1) Try.underlying34 rfl rfl rfl (by kernel_rfl) (by decide)
instance : FV Try.prog 34 1 1 1 false := FV.of1 (ft := 3) Try.underlying34 rfl rfl rfl inferInstance
instance : Bd Try.prog 41 [(0, 1), (1, 1)] [.int .i64 0, .int .i64 0] := ⟨fun _ => by kernel_rfl⟩
instance : FO Try.prog 41 0 0 := FO.of (k := 1) Try.underlying41 rfl rfl rfl (by kernel_rfl) (by decide)
instance : FV Try.prog 41 0 0 1 false := FV.of1 (ft := 3) Try.underlying41 rfl rfl rfl inferInstance
instance : FO Try.prog 41 1 1 := FO.of (k := 1) Try.underlying41 rfl rfl rfl (by kernel_rfl) (by decide)
instance : FV Try.prog 41 1 1 1 false := FV.of1 (ft := 3) Try.underlying41 rfl rfl rfl inferInstance
instance : Bd Try.prog 44 [(0, 1), (1, 1), (2, 1), (3, 1)] [.pointer none, .pointer none, .pointer none, .nilIface] := ⟨fun _ => by kernel_rfl⟩
instance : FO Try.prog 44 0 0 := FO.of (k := 1) Try.underlying44 rfl rfl rfl (by kernel_rfl) (by decide)
instance : FV Try.prog 44 0 0 1 false := FV.of1 (ft := 42) Try.underlying44 rfl rfl rfl inferInstance
instance : FO Try.prog 44 1 1 := FO.of (k := 1) Try.underlying44 rfl rfl rfl (by kernel_rfl) (by decide)
instance : FV Try.prog 44 1 1 1 false := FV.of1 (ft := 42) Try.underlying44 rfl rfl rfl inferInstance
instance : FO Try.prog 44 2 2 := FO.of (k := 1) Try.underlying44 rfl rfl rfl (by kernel_rfl) (by decide)
instance : FV Try.prog 44 2 2 1 false := FV.of1 (ft := 43) Try.underlying44 rfl rfl rfl inferInstance
instance : FO Try.prog 44 3 3 := FO.of (k := 1) Try.underlying44 rfl rfl rfl (by kernel_rfl) (by decide)
instance : FV Try.prog 44 3 3 1 false := FV.of1 (ft := 20) Try.underlying44 rfl rfl rfl inferInstance
instance : Bd Try.prog 45 [(0, 1), (1, 1), (2, 1), (3, 1)] [.pointer none, .pointer none, .pointer none, .nilIface] := ⟨fun _ => by kernel_rfl⟩
instance : FO Try.prog 45 0 0 := FO.of (k := 1) Try.underlying45 rfl rfl rfl (by kernel_rfl) (by decide)
instance : FV Try.prog 45 0 0 1 false := FV.of1 (ft := 42) Try.underlying45 rfl rfl rfl inferInstance
instance : FO Try.prog 45 1 1 := FO.of (k := 1) Try.underlying45 rfl rfl rfl (by kernel_rfl) (by decide)
instance : FV Try.prog 45 1 1 1 false := FV.of1 (ft := 42) Try.underlying45 rfl rfl rfl inferInstance
instance : FO Try.prog 45 2 2 := FO.of (k := 1) Try.underlying45 rfl rfl rfl (by kernel_rfl) (by decide)
instance : FV Try.prog 45 2 2 1 false := FV.of1 (ft := 43) Try.underlying45 rfl rfl rfl inferInstance
instance : FO Try.prog 45 3 3 := FO.of (k := 1) Try.underlying45 rfl rfl rfl (by kernel_rfl) (by decide)
instance : FV Try.prog 45 3 3 1 false := FV.of1 (ft := 20) Try.underlying45 rfl rfl rfl inferInstance
instance : Bd Try.prog 46 [(0, 4), (4, 1)] [.pointer none, .pointer none, .pointer none, .nilIface, .int .i64 0] := ⟨fun _ => by kernel_rfl⟩
instance : FO Try.prog 46 0 0 := FO.of (k := 4) Try.underlying46 rfl rfl rfl (by kernel_rfl) (by decide)
instance : FV Try.prog 46 0 0 4 true := FV.ofk (ft := 45) Try.underlying46 rfl rfl rfl inferInstance
instance : FO Try.prog 46 1 4 := FO.of (k := 1) Try.underlying46 rfl rfl rfl (by kernel_rfl) (by decide)
instance : FV Try.prog 46 1 4 1 false := FV.of1 (ft := 3) Try.underlying46 rfl rfl rfl inferInstance
instance : Bd Try.prog 47 [(0, 4), (4, 1)] [.pointer none, .pointer none, .pointer none, .nilIface, .int .i64 0] := ⟨fun _ => by kernel_rfl⟩
instance : FO Try.prog 47 0 0 := FO.of (k := 4) Try.underlying47 rfl rfl rfl (by kernel_rfl) (by decide)
instance : FV Try.prog 47 0 0 4 true := FV.ofk (ft := 45) Try.underlying47 rfl rfl rfl inferInstance
instance : FO Try.prog 47 1 4 := FO.of (k := 1) Try.underlying47 rfl rfl rfl (by kernel_rfl) (by decide)
instance : FV Try.prog 47 1 4 1 false := FV.of1 (ft := 3) Try.underlying47 rfl rfl rfl inferInstance
instance : Bd Try.prog 48 [(0, 5)] [.pointer none, .pointer none, .pointer none, .nilIface, .int .i64 0] := ⟨fun _ => by kernel_rfl⟩
instance : FO Try.prog 48 0 0 := FO.of (k := 5) Try.underlying48 rfl rfl rfl (by kernel_rfl) (by decide)
instance : FV Try.prog 48 0 0 5 true := FV.ofk (ft := 47) Try.underlying48 rfl rfl rfl inferInstance
instance : Bd Try.prog 49 [(0, 5)] [.pointer none, .pointer none, .pointer none, .nilIface, .int .i64 0] := ⟨fun _ => by kernel_rfl⟩
instance : FO Try.prog 49 0 0 := FO.of (k := 5) Try.underlying49 rfl rfl rfl (by kernel_rfl) (by decide)
instance : FV Try.prog 49 0 0 5 true := FV.ofk (ft := 47) Try.underlying49 rfl rfl rfl inferInstance
instance : Bd Try.prog 62 [(0, 1), (1, 1)] [.slice none 0 0, .int .i64 0] := ⟨fun _ => by kernel_rfl⟩
instance : FO Try.prog 62 0 0 := FO.of (k := 1) Try.underlying62 rfl rfl rfl (by kernel_rfl) (by decide)
instance : FV Try.prog 62 0 0 1 false := FV.of1 (ft := 30) Try.underlying62 rfl rfl rfl inferInstance
instance : FO Try.prog 62 1 1 := FO.of (k := 1) Try.underlying62 rfl rfl rfl (by kernel_rfl) (by decide)
instance : FV Try.prog 62 1 1 1 false := FV.of1 (ft := 3) Try.underlying62 rfl rfl rfl inferInstance
instance : Bd Try.prog 63 [(0, 1), (1, 1)] [.slice none 0 0, .int .i64 0] := ⟨fun _ => by kernel_rfl⟩
instance : FO Try.prog 63 0 0 := FO.of (k := 1) Try.underlying63 rfl rfl rfl (by kernel_rfl) (by decide)
instance : FV Try.prog 63 0 0 1 false := FV.of1 (ft := 30) Try.underlying63 rfl rfl rfl inferInstance
instance : FO Try.prog 63 1 1 := FO.of (k := 1) Try.underlying63 rfl rfl rfl (by kernel_rfl) (by decide)
instance : FV Try.prog 63 1 1 1 false := FV.of1 (ft := 3) Try.underlying63 rfl rfl rfl inferInstance
instance : Bd Try.prog 76 [(0, 1), (1, 1), (2, 1), (3, 1)] [.pointer none, .pointer none, .pointer none, .string ByteArray.empty] := ⟨fun _ => by kernel_rfl⟩
instance : FO Try.prog 76 0 0 := FO.of (k := 1) Try.underlying76 rfl rfl rfl (by kernel_rfl) (by decide)
instance : FV Try.prog 76 0 0 1 false := FV.of1 (ft := 17) Try.underlying76 rfl rfl rfl inferInstance
instance : FO Try.prog 76 1 1 := FO.of (k := 1) Try.underlying76 rfl rfl rfl (by kernel_rfl) (by decide)
instance : FV Try.prog 76 1 1 1 false := FV.of1 (ft := 17) Try.underlying76 rfl rfl rfl inferInstance
instance : FO Try.prog 76 2 2 := FO.of (k := 1) Try.underlying76 rfl rfl rfl (by kernel_rfl) (by decide)
instance : FV Try.prog 76 2 2 1 false := FV.of1 (ft := 17) Try.underlying76 rfl rfl rfl inferInstance
instance : FO Try.prog 76 3 3 := FO.of (k := 1) Try.underlying76 rfl rfl rfl (by kernel_rfl) (by decide)
instance : FV Try.prog 76 3 3 1 false := FV.of1 (ft := 9) Try.underlying76 rfl rfl rfl inferInstance
instance : Bd Try.prog 77 [(0, 1), (1, 1), (2, 1), (3, 1)] [.pointer none, .pointer none, .pointer none, .string ByteArray.empty] := ⟨fun _ => by kernel_rfl⟩
instance : FO Try.prog 77 0 0 := FO.of (k := 1) Try.underlying77 rfl rfl rfl (by kernel_rfl) (by decide)
instance : FV Try.prog 77 0 0 1 false := FV.of1 (ft := 17) Try.underlying77 rfl rfl rfl inferInstance
instance : FO Try.prog 77 1 1 := FO.of (k := 1) Try.underlying77 rfl rfl rfl (by kernel_rfl) (by decide)
instance : FV Try.prog 77 1 1 1 false := FV.of1 (ft := 17) Try.underlying77 rfl rfl rfl inferInstance
instance : FO Try.prog 77 2 2 := FO.of (k := 1) Try.underlying77 rfl rfl rfl (by kernel_rfl) (by decide)
instance : FV Try.prog 77 2 2 1 false := FV.of1 (ft := 17) Try.underlying77 rfl rfl rfl inferInstance
instance : FO Try.prog 77 3 3 := FO.of (k := 1) Try.underlying77 rfl rfl rfl (by kernel_rfl) (by decide)
instance : FV Try.prog 77 3 3 1 false := FV.of1 (ft := 9) Try.underlying77 rfl rfl rfl inferInstance
instance : ArT Try.prog 78 0 1 := ⟨_, Try.underlying78, by kernel_rfl⟩
instance : Bd Try.prog 79 [(0, 0)] [] := ⟨fun _ => by kernel_rfl⟩
instance : Bd Try.prog 80 [(0, 0)] [] := ⟨fun _ => by kernel_rfl⟩
instance : Bd Try.prog 88 [(0, 1), (1, 1), (2, 1), (3, 1), (4, 1), (5, 1), (6, 1), (7, 1), (8, 1), (9, 1), (10, 1)] [.int .u64 0, .int .u64 0, .int .u32 0, .int .u8 0, .int .u8 0, .int .u8 0, .int .u8 0, .nilFunc, .pointer none, .int .i32 0, .int .i32 0] := ⟨fun _ => by kernel_rfl⟩
instance : FO Try.prog 88 0 0 := FO.of (k := 1) Try.underlying88 rfl rfl rfl (by kernel_rfl) (by decide)
instance : FV Try.prog 88 0 0 1 false := FV.of1 (ft := 12) Try.underlying88 rfl rfl rfl inferInstance
instance : FO Try.prog 88 1 1 := FO.of (k := 1) Try.underlying88 rfl rfl rfl (by kernel_rfl) (by decide)
instance : FV Try.prog 88 1 1 1 false := FV.of1 (ft := 12) Try.underlying88 rfl rfl rfl inferInstance
instance : FO Try.prog 88 2 2 := FO.of (k := 1) Try.underlying88 rfl rfl rfl (by kernel_rfl) (by decide)
instance : FV Try.prog 88 2 2 1 false := FV.of1 (ft := 81) Try.underlying88 rfl rfl rfl inferInstance
instance : FO Try.prog 88 3 3 := FO.of (k := 1) Try.underlying88 rfl rfl rfl (by kernel_rfl) (by decide)
instance : FV Try.prog 88 3 3 1 false := FV.of1 (ft := 82) Try.underlying88 rfl rfl rfl inferInstance
instance : FO Try.prog 88 4 4 := FO.of (k := 1) Try.underlying88 rfl rfl rfl (by kernel_rfl) (by decide)
instance : FV Try.prog 88 4 4 1 false := FV.of1 (ft := 5) Try.underlying88 rfl rfl rfl inferInstance
instance : FO Try.prog 88 5 5 := FO.of (k := 1) Try.underlying88 rfl rfl rfl (by kernel_rfl) (by decide)
instance : FV Try.prog 88 5 5 1 false := FV.of1 (ft := 5) Try.underlying88 rfl rfl rfl inferInstance
instance : FO Try.prog 88 6 6 := FO.of (k := 1) Try.underlying88 rfl rfl rfl (by kernel_rfl) (by decide)
instance : FV Try.prog 88 6 6 1 false := FV.of1 (ft := 83) Try.underlying88 rfl rfl rfl inferInstance
instance : FO Try.prog 88 7 7 := FO.of (k := 1) Try.underlying88 rfl rfl rfl (by kernel_rfl) (by decide)
instance : FV Try.prog 88 7 7 1 false := FV.of1 (ft := 84) Try.underlying88 rfl rfl rfl inferInstance
instance : FO Try.prog 88 8 8 := FO.of (k := 1) Try.underlying88 rfl rfl rfl (by kernel_rfl) (by decide)
instance : FV Try.prog 88 8 8 1 false := FV.of1 (ft := 85) Try.underlying88 rfl rfl rfl inferInstance
instance : FO Try.prog 88 9 9 := FO.of (k := 1) Try.underlying88 rfl rfl rfl (by kernel_rfl) (by decide)
instance : FV Try.prog 88 9 9 1 false := FV.of1 (ft := 86) Try.underlying88 rfl rfl rfl inferInstance
instance : FO Try.prog 88 10 10 := FO.of (k := 1) Try.underlying88 rfl rfl rfl (by kernel_rfl) (by decide)
instance : FV Try.prog 88 10 10 1 false := FV.of1 (ft := 87) Try.underlying88 rfl rfl rfl inferInstance
instance : Bd Try.prog 89 [(0, 1), (1, 1), (2, 1), (3, 1), (4, 1), (5, 1), (6, 1), (7, 1), (8, 1), (9, 1), (10, 1)] [.int .u64 0, .int .u64 0, .int .u32 0, .int .u8 0, .int .u8 0, .int .u8 0, .int .u8 0, .nilFunc, .pointer none, .int .i32 0, .int .i32 0] := ⟨fun _ => by kernel_rfl⟩
instance : FO Try.prog 89 0 0 := FO.of (k := 1) Try.underlying89 rfl rfl rfl (by kernel_rfl) (by decide)
instance : FV Try.prog 89 0 0 1 false := FV.of1 (ft := 12) Try.underlying89 rfl rfl rfl inferInstance
instance : FO Try.prog 89 1 1 := FO.of (k := 1) Try.underlying89 rfl rfl rfl (by kernel_rfl) (by decide)
instance : FV Try.prog 89 1 1 1 false := FV.of1 (ft := 12) Try.underlying89 rfl rfl rfl inferInstance
instance : FO Try.prog 89 2 2 := FO.of (k := 1) Try.underlying89 rfl rfl rfl (by kernel_rfl) (by decide)
instance : FV Try.prog 89 2 2 1 false := FV.of1 (ft := 81) Try.underlying89 rfl rfl rfl inferInstance
instance : FO Try.prog 89 3 3 := FO.of (k := 1) Try.underlying89 rfl rfl rfl (by kernel_rfl) (by decide)
instance : FV Try.prog 89 3 3 1 false := FV.of1 (ft := 82) Try.underlying89 rfl rfl rfl inferInstance
instance : FO Try.prog 89 4 4 := FO.of (k := 1) Try.underlying89 rfl rfl rfl (by kernel_rfl) (by decide)
instance : FV Try.prog 89 4 4 1 false := FV.of1 (ft := 5) Try.underlying89 rfl rfl rfl inferInstance
instance : FO Try.prog 89 5 5 := FO.of (k := 1) Try.underlying89 rfl rfl rfl (by kernel_rfl) (by decide)
instance : FV Try.prog 89 5 5 1 false := FV.of1 (ft := 5) Try.underlying89 rfl rfl rfl inferInstance
instance : FO Try.prog 89 6 6 := FO.of (k := 1) Try.underlying89 rfl rfl rfl (by kernel_rfl) (by decide)
instance : FV Try.prog 89 6 6 1 false := FV.of1 (ft := 83) Try.underlying89 rfl rfl rfl inferInstance
instance : FO Try.prog 89 7 7 := FO.of (k := 1) Try.underlying89 rfl rfl rfl (by kernel_rfl) (by decide)
instance : FV Try.prog 89 7 7 1 false := FV.of1 (ft := 84) Try.underlying89 rfl rfl rfl inferInstance
instance : FO Try.prog 89 8 8 := FO.of (k := 1) Try.underlying89 rfl rfl rfl (by kernel_rfl) (by decide)
instance : FV Try.prog 89 8 8 1 false := FV.of1 (ft := 85) Try.underlying89 rfl rfl rfl inferInstance
instance : FO Try.prog 89 9 9 := FO.of (k := 1) Try.underlying89 rfl rfl rfl (by kernel_rfl) (by decide)
instance : FV Try.prog 89 9 9 1 false := FV.of1 (ft := 86) Try.underlying89 rfl rfl rfl inferInstance
instance : FO Try.prog 89 10 10 := FO.of (k := 1) Try.underlying89 rfl rfl rfl (by kernel_rfl) (by decide)
instance : FV Try.prog 89 10 10 1 false := FV.of1 (ft := 87) Try.underlying89 rfl rfl rfl inferInstance
instance : Ent Try.prog 2 := .of Try.func2 (by kernel_rfl) rfl
instance : Ent Try.prog 3 := .of Try.func3 (by kernel_rfl) rfl
instance : Ent Try.prog 4 := .of Try.func4 (by kernel_rfl) rfl
instance : Ent Try.prog 5 := .of Try.func5 (by kernel_rfl) rfl
instance : Ent Try.prog 6 := .of Try.func6 (by kernel_rfl) rfl
instance : Ent Try.prog 7 := .of Try.func7 (by kernel_rfl) rfl
instance : Ent Try.prog 8 := .of Try.func8 (by kernel_rfl) rfl
instance : Ent Try.prog 9 := .of Try.func9 (by kernel_rfl) rfl
instance : Ent Try.prog 10 := .of Try.func10 (by kernel_rfl) rfl
instance : Ent Try.prog 11 := .of Try.func11 (by kernel_rfl) rfl
instance : Ent Try.prog 12 := .of Try.func12 (by kernel_rfl) rfl
instance : Ent Try.prog 13 := .of Try.func13 (by kernel_rfl) rfl
instance : Ent Try.prog 14 := .of Try.func14 (by kernel_rfl) rfl
instance : Ent Try.prog 15 := .of Try.func15 (by kernel_rfl) rfl
instance : Ent Try.prog 16 := .of Try.func16 (by kernel_rfl) rfl
instance : Ent Try.prog 17 := .of Try.func17 (by kernel_rfl) rfl
instance : Ent Try.prog 18 := .of Try.func18 (by kernel_rfl) rfl
instance : Ent Try.prog 19 := .of Try.func19 (by kernel_rfl) rfl
instance : Ent Try.prog 20 := .of Try.func20 (by kernel_rfl) rfl
instance : Ent Try.prog 21 := .of Try.func21 (by kernel_rfl) rfl
instance : Ent Try.prog 22 := .of Try.func22 (by kernel_rfl) rfl
instance : Ent Try.prog 23 := .of Try.func23 (by kernel_rfl) rfl
instance : Ent Try.prog 24 := .of Try.func24 (by kernel_rfl) rfl
instance : Ent Try.prog 25 := .of Try.func25 (by kernel_rfl) rfl
instance : Ent Try.prog 26 := .of Try.func26 (by kernel_rfl) rfl
instance : Ent Try.prog 27 := .of Try.func27 (by kernel_rfl) rfl
instance : Ent Try.prog 28 := .of Try.func28 (by kernel_rfl) rfl
instance : Ent Try.prog 29 := .of Try.func29 (by kernel_rfl) rfl
instance : Ent Try.prog 30 := .of Try.func30 (by kernel_rfl) rfl
instance : Ent Try.prog 31 := .of Try.func31 (by kernel_rfl) rfl
instance : Ent Try.prog 32 := .of Try.func32 (by kernel_rfl) rfl
instance : Ent Try.prog 33 := .of Try.func33 (by kernel_rfl) rfl
instance : Ent Try.prog 34 := .of Try.func34 (by kernel_rfl) rfl
instance : Ent Try.prog 35 := .of Try.func35 (by kernel_rfl) rfl
instance : Ent Try.prog 36 := .of Try.func36 (by kernel_rfl) rfl
instance : Ent Try.prog 37 := .of Try.func37 (by kernel_rfl) rfl
instance : Ent Try.prog 38 := .of Try.func38 (by kernel_rfl) rfl
instance : Ent Try.prog 39 := .of Try.func39 (by kernel_rfl) rfl
instance : Ent Try.prog 40 := .of Try.func40 (by kernel_rfl) rfl
instance : Ent Try.prog 41 := .of Try.func41 (by kernel_rfl) rfl
instance : Ent Try.prog 42 := .of Try.func42 (by kernel_rfl) rfl
instance : Ent Try.prog 43 := .of Try.func43 (by kernel_rfl) rfl
instance : Ent Try.prog 44 := .of Try.func44 (by kernel_rfl) rfl
instance : Ent Try.prog 45 := .of Try.func45 (by kernel_rfl) rfl
instance : Ent Try.prog 46 := .of Try.func46 (by kernel_rfl) rfl
instance : Ent Try.prog 47 := .of Try.func47 (by kernel_rfl) rfl
instance : Ent Try.prog 48 := .of Try.func48 (by kernel_rfl) rfl
instance : Ent Try.prog 49 := .of Try.func49 (by kernel_rfl) rfl
instance : Ent Try.prog 50 := .of Try.func50 (by kernel_rfl) rfl
instance : Ent Try.prog 51 := .of Try.func51 (by kernel_rfl) rfl
instance : Ent Try.prog 52 := .of Try.func52 (by kernel_rfl) rfl
instance : Ent Try.prog 53 := .of Try.func53 (by kernel_rfl) rfl

end D
end Go.Proofs.Ytmohggeeedncoaa

namespace Go.Proofs.Ytmohggeeedncoaa
set_option linter.unusedVariables false
set_option linter.unusedSimpArgs false
namespace D
open Go.RowKit

instance : Ci Try.prog 1 := ⟨_, Try.underlying1, rfl⟩
instance : Zv Try.prog 1 (.nilFunc) := ⟨by kernel_rfl⟩
instance : Ci Try.prog 2 := ⟨_, Try.underlying2, rfl⟩
instance : Zv Try.prog 2 (.int .i64 0) := ⟨by kernel_rfl⟩
instance : Ci Try.prog 3 := ⟨_, Try.underlying3, rfl⟩
instance : Zv Try.prog 3 (.int .i64 0) := ⟨by kernel_rfl⟩
instance : Ci Try.prog 4 := ⟨_, Try.underlying4, rfl⟩
instance : Zv Try.prog 4 (.bool false) := ⟨by kernel_rfl⟩
instance : U8 Try.prog 5 := ⟨Try.underlying5⟩
instance : Ci Try.prog 5 := ⟨_, Try.underlying5, rfl⟩
instance : Zv Try.prog 5 (.int .u8 0) := ⟨by kernel_rfl⟩
instance : U8 Try.prog 6 := ⟨Try.underlying6⟩
instance : Ci Try.prog 6 := ⟨_, Try.underlying6, rfl⟩
instance : Zv Try.prog 6 (.int .u8 0) := ⟨by kernel_rfl⟩
instance : Ci Try.prog 7 := ⟨_, Try.underlying7, rfl⟩
instance : Zv Try.prog 7 (.agg #[.int .i64 0, .int .i64 0, .bool false, .int .u8 0]) := ⟨by kernel_rfl⟩
instance : Ci Try.prog 8 := ⟨_, Try.underlying8, rfl⟩
instance : Zv Try.prog 8 (.agg #[.int .i64 0, .int .i64 0, .bool false, .int .u8 0]) := ⟨by kernel_rfl⟩
instance : Ci Try.prog 9 := ⟨_, Try.underlying9, rfl⟩
instance : Zv Try.prog 9 (.string ByteArray.empty) := ⟨by kernel_rfl⟩
instance : Ci Try.prog 10 := ⟨_, Try.underlying10, rfl⟩
instance : Zv Try.prog 10 (.string ByteArray.empty) := ⟨by kernel_rfl⟩
instance : Ci Try.prog 11 := ⟨_, Try.underlying11, rfl⟩
instance : Zv Try.prog 11 (.string ByteArray.empty) := ⟨by kernel_rfl⟩
instance : Ci Try.prog 12 := ⟨_, Try.underlying12, rfl⟩
instance : Zv Try.prog 12 (.int .u64 0) := ⟨by kernel_rfl⟩
instance : Ci Try.prog 13 := ⟨_, Try.underlying13, rfl⟩
instance : Zv Try.prog 13 (.agg #[.string ByteArray.empty, .int .u64 0]) := ⟨by kernel_rfl⟩
instance : Ci Try.prog 14 := ⟨_, Try.underlying14, rfl⟩
instance : Zv Try.prog 14 (.agg #[.string ByteArray.empty, .int .u64 0]) := ⟨by kernel_rfl⟩
instance : Ci Try.prog 15 := ⟨_, Try.underlying15, rfl⟩
instance : Zv Try.prog 15 (.pointer none) := ⟨by kernel_rfl⟩
instance : Ci Try.prog 16 := ⟨_, Try.underlying16, rfl⟩
instance : Zv Try.prog 16 (.pointer none) := ⟨by kernel_rfl⟩
instance : Ci Try.prog 17 := ⟨_, Try.underlying17, rfl⟩
instance : Zv Try.prog 17 (.pointer none) := ⟨by kernel_rfl⟩
instance : Ci Try.prog 18 := ⟨_, Try.underlying18, rfl⟩
instance : Zv Try.prog 18 (.agg #[.pointer none]) := ⟨by kernel_rfl⟩
instance : Ci Try.prog 19 := ⟨_, Try.underlying19, rfl⟩
instance : Zv Try.prog 19 (.agg #[.pointer none]) := ⟨by kernel_rfl⟩
instance : Zv Try.prog 20 (.nilIface) := ⟨by kernel_rfl⟩
instance : Ci Try.prog 21 := ⟨_, Try.underlying21, rfl⟩
instance : Zv Try.prog 21 (.int .i32 0) := ⟨by kernel_rfl⟩
instance : Ap Try.prog 22 41 2 16 := ⟨Try.underlying22, by kernel_rfl, by decide⟩
instance : Ci Try.prog 22 := ⟨_, Try.underlying22, rfl⟩
instance : Zv Try.prog 22 (.slice none 0 0) := ⟨by kernel_rfl⟩
instance : Ci Try.prog 23 := ⟨_, Try.underlying23, rfl⟩
instance : Zv Try.prog 23 (.nilFunc) := ⟨by kernel_rfl⟩
instance : Ap Try.prog 24 34 2 16 := ⟨Try.underlying24, by kernel_rfl, by decide⟩
instance : Ci Try.prog 24 := ⟨_, Try.underlying24, rfl⟩
instance : Zv Try.prog 24 (.slice none 0 0) := ⟨by kernel_rfl⟩
instance : Ci Try.prog 25 := ⟨_, Try.underlying25, rfl⟩
instance : Zv Try.prog 25 (.nilFunc) := ⟨by kernel_rfl⟩
instance : Ci Try.prog 26 := ⟨_, Try.underlying26, rfl⟩
instance : Zv Try.prog 26 (.nilFunc) := ⟨by kernel_rfl⟩
instance : Ci Try.prog 27 := ⟨_, Try.underlying27, rfl⟩
instance : Zv Try.prog 27 (.nilFunc) := ⟨by kernel_rfl⟩
instance : Ci Try.prog 28 := ⟨_, Try.underlying28, rfl⟩
instance : Zv Try.prog 28 (.nilFunc) := ⟨by kernel_rfl⟩
instance : Ci Try.prog 29 := ⟨_, Try.underlying29, rfl⟩
instance : Zv Try.prog 29 (.nilFunc) := ⟨by kernel_rfl⟩
instance : Ap Try.prog 30 5 1 1 := ⟨Try.underlying30, by kernel_rfl, by decide⟩
instance : Ci Try.prog 30 := ⟨_, Try.underlying30, rfl⟩
instance : Zv Try.prog 30 (.slice none 0 0) := ⟨by kernel_rfl⟩
instance : Ci Try.prog 32 := ⟨_, Try.underlying32, rfl⟩
instance : Zv Try.prog 32 (.nilFunc) := ⟨by kernel_rfl⟩
instance : Ci Try.prog 33 := ⟨_, Try.underlying33, rfl⟩
instance : Zv Try.prog 33 (.agg #[.int .i64 0, .int .i64 0]) := ⟨by kernel_rfl⟩
instance : Ci Try.prog 34 := ⟨_, Try.underlying34, rfl⟩
instance : Zv Try.prog 34 (.agg #[.int .i64 0, .int .i64 0]) := ⟨by kernel_rfl⟩
instance : Ci Try.prog 35 := ⟨_, Try.underlying35, rfl⟩
instance : Zv Try.prog 35 (.nilFunc) := ⟨by kernel_rfl⟩
instance : Ci Try.prog 36 := ⟨_, Try.underlying36, rfl⟩
instance : Zv Try.prog 36 (.nilFunc) := ⟨by kernel_rfl⟩
instance : Ci Try.prog 37 := ⟨_, Try.underlying37, rfl⟩
instance : Zv Try.prog 37 (.nilFunc) := ⟨by kernel_rfl⟩
instance : Ci Try.prog 38 := ⟨_, Try.underlying38, rfl⟩
instance : Zv Try.prog 38 (.nilFunc) := ⟨by kernel_rfl⟩
instance : Ci Try.prog 39 := ⟨_, Try.underlying39, rfl⟩
instance : Zv Try.prog 39 (.nilFunc) := ⟨by kernel_rfl⟩
instance : Ci Try.prog 40 := ⟨_, Try.underlying40, rfl⟩
instance : Zv Try.prog 40 (.nilFunc) := ⟨by kernel_rfl⟩
instance : Ci Try.prog 41 := ⟨_, Try.underlying41, rfl⟩
instance : Zv Try.prog 41 (.agg #[.int .i64 0, .int .i64 0]) := ⟨by kernel_rfl⟩
instance : Ci Try.prog 42 := ⟨_, Try.underlying42, rfl⟩
instance : Zv Try.prog 42 (.pointer none) := ⟨by kernel_rfl⟩
instance : Ci Try.prog 43 := ⟨_, Try.underlying43, rfl⟩
instance : Zv Try.prog 43 (.pointer none) := ⟨by kernel_rfl⟩
instance : Ci Try.prog 44 := ⟨_, Try.underlying44, rfl⟩
instance : Zv Try.prog 44 (.agg #[.pointer none, .pointer none, .pointer none, .nilIface]) := ⟨by kernel_rfl⟩
instance : Ci Try.prog 45 := ⟨_, Try.underlying45, rfl⟩
instance : Zv Try.prog 45 (.agg #[.pointer none, .pointer none, .pointer none, .nilIface]) := ⟨by kernel_rfl⟩
instance : Ci Try.prog 46 := ⟨_, Try.underlying46, rfl⟩
instance : Zv Try.prog 46 (.agg #[.pointer none, .pointer none, .pointer none, .nilIface, .int .i64 0]) := ⟨by kernel_rfl⟩
instance : Ci Try.prog 47 := ⟨_, Try.underlying47, rfl⟩
instance : Zv Try.prog 47 (.agg #[.pointer none, .pointer none, .pointer none, .nilIface, .int .i64 0]) := ⟨by kernel_rfl⟩
instance : Ci Try.prog 48 := ⟨_, Try.underlying48, rfl⟩
instance : Zv Try.prog 48 (.agg #[.pointer none, .pointer none, .pointer none, .nilIface, .int .i64 0]) := ⟨by kernel_rfl⟩
instance : Ci Try.prog 49 := ⟨_, Try.underlying49, rfl⟩
instance : Zv Try.prog 49 (.agg #[.pointer none, .pointer none, .pointer none, .nilIface, .int .i64 0]) := ⟨by kernel_rfl⟩
instance : Ci Try.prog 50 := ⟨_, Try.underlying50, rfl⟩
instance : Zv Try.prog 50 (.nilFunc) := ⟨by kernel_rfl⟩
instance : Ci Try.prog 51 := ⟨_, Try.underlying51, rfl⟩
instance : Zv Try.prog 51 (.nilFunc) := ⟨by kernel_rfl⟩
instance : Ci Try.prog 52 := ⟨_, Try.underlying52, rfl⟩
instance : Zv Try.prog 52 (.nilFunc) := ⟨by kernel_rfl⟩
instance : Ci Try.prog 53 := ⟨_, Try.underlying53, rfl⟩
instance : Zv Try.prog 53 (.pointer none) := ⟨by kernel_rfl⟩
instance : Ci Try.prog 54 := ⟨_, Try.underlying54, rfl⟩
instance : Zv Try.prog 54 (.nilFunc) := ⟨by kernel_rfl⟩
instance : Ci Try.prog 55 := ⟨_, Try.underlying55, rfl⟩
instance : Zv Try.prog 55 (.nilFunc) := ⟨by kernel_rfl⟩
instance : Ci Try.prog 56 := ⟨_, Try.underlying56, rfl⟩
instance : Zv Try.prog 56 (.nilFunc) := ⟨by kernel_rfl⟩
instance : Ci Try.prog 57 := ⟨_, Try.underlying57, rfl⟩
instance : Zv Try.prog 57 (.nilFunc) := ⟨by kernel_rfl⟩
instance : Ci Try.prog 58 := ⟨_, Try.underlying58, rfl⟩
instance : Zv Try.prog 58 (.pointer none) := ⟨by kernel_rfl⟩
instance : Ci Try.prog 59 := ⟨_, Try.underlying59, rfl⟩
instance : Zv Try.prog 59 (.nilFunc) := ⟨by kernel_rfl⟩
instance : Ci Try.prog 60 := ⟨_, Try.underlying60, rfl⟩
instance : Zv Try.prog 60 (.nilFunc) := ⟨by kernel_rfl⟩
instance : Ci Try.prog 61 := ⟨_, Try.underlying61, rfl⟩
instance : Zv Try.prog 61 (.nilFunc) := ⟨by kernel_rfl⟩
instance : Ci Try.prog 62 := ⟨_, Try.underlying62, rfl⟩
instance : Zv Try.prog 62 (.agg #[.slice none 0 0, .int .i64 0]) := ⟨by kernel_rfl⟩
instance : Ci Try.prog 63 := ⟨_, Try.underlying63, rfl⟩
instance : Zv Try.prog 63 (.agg #[.slice none 0 0, .int .i64 0]) := ⟨by kernel_rfl⟩
instance : Ci Try.prog 65 := ⟨_, Try.underlying65, rfl⟩
instance : Zv Try.prog 65 (.nilFunc) := ⟨by kernel_rfl⟩
instance : Ci Try.prog 66 := ⟨_, Try.underlying66, rfl⟩
instance : Zv Try.prog 66 (.nilFunc) := ⟨by kernel_rfl⟩
instance : Ci Try.prog 67 := ⟨_, Try.underlying67, rfl⟩
instance : Zv Try.prog 67 (.nilFunc) := ⟨by kernel_rfl⟩
instance : Ci Try.prog 68 := ⟨_, Try.underlying68, rfl⟩
instance : Zv Try.prog 68 (.nilFunc) := ⟨by kernel_rfl⟩
instance : Ci Try.prog 69 := ⟨_, Try.underlying69, rfl⟩
instance : Zv Try.prog 69 (.nilFunc) := ⟨by kernel_rfl⟩
instance : Ci Try.prog 70 := ⟨_, Try.underlying70, rfl⟩
instance : Zv Try.prog 70 (.nilFunc) := ⟨by kernel_rfl⟩
instance : Ci Try.prog 71 := ⟨_, Try.underlying71, rfl⟩
instance : Zv Try.prog 71 (.nilFunc) := ⟨by kernel_rfl⟩
instance : Ci Try.prog 72 := ⟨_, Try.underlying72, rfl⟩
instance : Zv Try.prog 72 (.nilFunc) := ⟨by kernel_rfl⟩
instance : Ci Try.prog 73 := ⟨_, Try.underlying73, rfl⟩
instance : Zv Try.prog 73 (.nilFunc) := ⟨by kernel_rfl⟩
instance : Ci Try.prog 74 := ⟨_, Try.underlying74, rfl⟩
instance : Zv Try.prog 74 (.nilFunc) := ⟨by kernel_rfl⟩
instance : Ci Try.prog 75 := ⟨_, Try.underlying75, rfl⟩
instance : Zv Try.prog 75 (.nilFunc) := ⟨by kernel_rfl⟩
instance : Ci Try.prog 76 := ⟨_, Try.underlying76, rfl⟩
instance : Zv Try.prog 76 (.agg #[.pointer none, .pointer none, .pointer none, .string ByteArray.empty]) := ⟨by kernel_rfl⟩
instance : Ci Try.prog 77 := ⟨_, Try.underlying77, rfl⟩
instance : Zv Try.prog 77 (.agg #[.pointer none, .pointer none, .pointer none, .string ByteArray.empty]) := ⟨by kernel_rfl⟩
instance : Ci Try.prog 78 := ⟨_, Try.underlying78, rfl⟩
instance : Zv Try.prog 78 (.agg #[]) := ⟨by kernel_rfl⟩
instance : Ci Try.prog 79 := ⟨_, Try.underlying79, rfl⟩
instance : Zv Try.prog 79 (.agg #[]) := ⟨by kernel_rfl⟩
instance : Ci Try.prog 80 := ⟨_, Try.underlying80, rfl⟩
instance : Zv Try.prog 80 (.agg #[]) := ⟨by kernel_rfl⟩
instance : Ci Try.prog 81 := ⟨_, Try.underlying81, rfl⟩
instance : Zv Try.prog 81 (.int .u32 0) := ⟨by kernel_rfl⟩
instance : U8 Try.prog 82 := ⟨Try.underlying82⟩
instance : Ci Try.prog 82 := ⟨_, Try.underlying82, rfl⟩
instance : Zv Try.prog 82 (.int .u8 0) := ⟨by kernel_rfl⟩
instance : U8 Try.prog 83 := ⟨Try.underlying83⟩
instance : Ci Try.prog 83 := ⟨_, Try.underlying83, rfl⟩
instance : Zv Try.prog 83 (.int .u8 0) := ⟨by kernel_rfl⟩
instance : Ci Try.prog 84 := ⟨_, Try.underlying84, rfl⟩
instance : Zv Try.prog 84 (.nilFunc) := ⟨by kernel_rfl⟩
instance : Ci Try.prog 85 := ⟨_, Try.underlying85, rfl⟩
instance : Zv Try.prog 85 (.pointer none) := ⟨by kernel_rfl⟩
instance : Ci Try.prog 86 := ⟨_, Try.underlying86, rfl⟩
instance : Zv Try.prog 86 (.int .i32 0) := ⟨by kernel_rfl⟩
instance : Ci Try.prog 87 := ⟨_, Try.underlying87, rfl⟩
instance : Zv Try.prog 87 (.int .i32 0) := ⟨by kernel_rfl⟩
instance : Ci Try.prog 88 := ⟨_, Try.underlying88, rfl⟩
instance : Zv Try.prog 88 (.agg #[.int .u64 0, .int .u64 0, .int .u32 0, .int .u8 0, .int .u8 0, .int .u8 0, .int .u8 0, .nilFunc, .pointer none, .int .i32 0, .int .i32 0]) := ⟨by kernel_rfl⟩
instance : Ci Try.prog 89 := ⟨_, Try.underlying89, rfl⟩
instance : Zv Try.prog 89 (.agg #[.int .u64 0, .int .u64 0, .int .u32 0, .int .u8 0, .int .u8 0, .int .u8 0, .int .u8 0, .nilFunc, .pointer none, .int .i32 0, .int .i32 0]) := ⟨by kernel_rfl⟩
instance : Ci Try.prog 90 := ⟨_, Try.underlying90, rfl⟩
instance : Zv Try.prog 90 (.pointer none) := ⟨by kernel_rfl⟩

end D
end Go.Proofs.Ytmohggeeedncoaa
