/- The engine, part 7: what the program's types and functions are (closed facts). -/
import Derived.Test.YtboglbdhibcacaaGreatDoorVb
import Derived.Test.YtboglbdhibcacaaGreatDoorProg
import Derived.Test.YtboglbdhibcacaaGreatDoorVc
import Derived.Laws.Externs
namespace Go.Proofs.YtboglbdhibcacaaGreatDoor
set_option linter.unusedVariables false
set_option linter.unusedSimpArgs false
namespace D
open Go.RowKit

variable {P : Program}
theorem fieldPlace_run {fd : Field} {k : Nat} (hz : (P.info? fd.type).map (·.size) = some k) (hk : k ≠ 0) (b o : Nat) (w : World) : (fieldPlace ⟨b, o, none⟩ fd).run P w = .ok ⟨b, o + fd.offset, none⟩ w := by
  simp [fieldPlace, run_sizeOf hz, hk, add_plain]
theorem FO.of {s f off ft : Nat} {fs : Array Field} {fd : Field} {k : Nat} (hu : P.underlying s = some (.struct fs)) (hf : fs[f]? = some fd) (ho : fd.offset = off) (ht : fd.type = ft) (hz : (P.info? ft).map (·.size) = some k) (hk : k ≠ 0) : FO P s f off := by
  subst ho; subst ht
  exact ⟨fun b o w => by simp [Instr.fieldAt, run_underlying hu, hf, Instr.sureAddr, fieldPlace_run hz hk]⟩
theorem FV.of1 {s f off ft : Nat} {fs : Array Field} {fd : Field} (hu : P.underlying s = some (.struct fs)) (hf : fs[f]? = some fd) (ho : fd.offset = off) (ht : fd.type = ft) (i : Sc P ft) : FV P s f off 1 false := by
  subst ho; subst ht
  exact ⟨fun us w => by
    simp only [Instr.field, Sem.run_bind, run_underlying hu, Result.andThen_ok, hf, part, asAgg, run_isAgg_sc, Sem.run_pure]
    simp
    cases us[fd.offset]? <;> rfl⟩
instance : Sc Tryz.prog 2 := ⟨_, Tryz.underlying2, rfl⟩
instance : Sc Tryz.prog 3 := ⟨_, Tryz.underlying3, rfl⟩
instance : Sz Tryz.prog 3 1 := ⟨by kernel_rfl⟩
instance : Zr Tryz.prog 3 [.int .i64 0] := ⟨by kernel_rfl⟩
instance : I64 Tryz.prog 3 := ⟨Tryz.underlying3⟩
instance : Sc Tryz.prog 4 := ⟨_, Tryz.underlying4, rfl⟩
instance : BoT Tryz.prog 4 := ⟨Tryz.underlying4⟩
instance : Sc Tryz.prog 5 := ⟨_, Tryz.underlying5, rfl⟩
instance : Sz Tryz.prog 5 1 := ⟨by kernel_rfl⟩
instance : Sc Tryz.prog 9 := ⟨_, Tryz.underlying9, rfl⟩
instance : Sz Tryz.prog 9 1 := ⟨by kernel_rfl⟩
instance : Zr Tryz.prog 9 [.string ByteArray.empty] := ⟨by kernel_rfl⟩
instance : StT Tryz.prog 9 := ⟨Tryz.underlying9⟩
instance : Sc Tryz.prog 22 := ⟨_, Tryz.underlying22, rfl⟩
instance : Sz Tryz.prog 22 1 := ⟨by kernel_rfl⟩
instance : SlT Tryz.prog 22 5 1 := ⟨Tryz.underlying22, by kernel_rfl⟩
instance : Sc Tryz.prog 32 := ⟨_, Tryz.underlying32, rfl⟩
instance : Sz Tryz.prog 32 1 := ⟨by kernel_rfl⟩
instance : Zr Tryz.prog 34 [.pointer none, .slice none 0 0] := ⟨by kernel_rfl⟩
instance : SlT Tryz.prog 35 9 1 := ⟨Tryz.underlying35, by kernel_rfl⟩
instance : Sc Tryz.prog 38 := ⟨_, Tryz.underlying38, rfl⟩
instance : Sc Tryz.prog 47 := ⟨_, Tryz.underlying47, rfl⟩
instance : Ag Tryz.prog 52 2 := ⟨⟨_, Tryz.underlying52, rfl⟩, by kernel_rfl⟩
instance : Zr Tryz.prog 52 [.int .i64 0, .nilFunc] := ⟨by kernel_rfl⟩
instance : Ag Tryz.prog 63 3 := ⟨⟨_, Tryz.underlying63, rfl⟩, by kernel_rfl⟩
instance : Zr Tryz.prog 63 [.int .i64 0, .int .i64 0, .int .i64 0] := ⟨by kernel_rfl⟩
instance : Ag Tryz.prog 67 4 := ⟨⟨_, Tryz.underlying67, rfl⟩, by kernel_rfl⟩
instance : Zr Tryz.prog 67 [.int .i64 0, .int .i64 0, .int .i64 0, .int .i64 0] := ⟨by kernel_rfl⟩
instance : Ag Tryz.prog 69 8 := ⟨⟨_, Tryz.underlying69, rfl⟩, by kernel_rfl⟩
instance : Zr Tryz.prog 69 [.int .i64 0, .int .i64 0, .int .i64 0, .int .i64 0, .int .i64 0, .int .i64 0, .int .i64 0, .int .i64 0] := ⟨by kernel_rfl⟩
instance : Ag Tryz.prog 73 6 := ⟨⟨_, Tryz.underlying73, rfl⟩, by kernel_rfl⟩
instance : Zr Tryz.prog 73 [.int .i64 0, .int .i64 0, .int .i64 0, .int .i64 0, .int .i64 0, .int .i64 0] := ⟨by kernel_rfl⟩
instance : SlT Tryz.prog 81 84 1 := ⟨Tryz.underlying81, by kernel_rfl⟩
instance : Sc Tryz.prog 84 := ⟨_, Tryz.underlying84, rfl⟩
instance : Ag Tryz.prog 106 3 := ⟨⟨_, Tryz.underlying106, rfl⟩, by kernel_rfl⟩
instance : Zr Tryz.prog 106 [.int .i64 0, .int .i64 0, .int .i64 0] := ⟨by kernel_rfl⟩
instance : SlT Tryz.prog 113 3 1 := ⟨Tryz.underlying113, by kernel_rfl⟩
instance : SlT Tryz.prog 118 4 1 := ⟨Tryz.underlying118, by kernel_rfl⟩
instance : Ag Tryz.prog 135 2 := ⟨⟨_, Tryz.underlying135, rfl⟩, by kernel_rfl⟩
instance : Zr Tryz.prog 135 [.int .i64 0, .int .i64 0] := ⟨by kernel_rfl⟩
instance : SlT Tryz.prog 142 146 3 := ⟨Tryz.underlying142, by kernel_rfl⟩
instance : Sc Tryz.prog 144 := ⟨_, Tryz.underlying144, rfl⟩
instance : Ag Tryz.prog 146 3 := ⟨⟨_, Tryz.underlying146, rfl⟩, by kernel_rfl⟩
instance : Zr Tryz.prog 146 [.int .u8 0, .bool false, .pointer none] := ⟨by kernel_rfl⟩
instance : Zr Tryz.prog 147 [.int .u8 0, .int .u8 0, .int .u8 0, .int .u8 0, .int .u8 0, .int .u8 0, .int .u8 0, .int .u8 0, .int .u8 0, .int .u8 0, .int .u8 0, .int .u8 0, .int .u8 0, .int .u8 0, .int .u8 0, .int .u8 0, .int .u8 0, .int .u8 0, .int .u8 0, .int .u8 0, .int .u8 0, .int .u8 0, .int .u8 0, .int .u8 0] := ⟨by kernel_rfl⟩
instance : Sc Tryz.prog 148 := ⟨_, Tryz.underlying148, rfl⟩
instance : Sc Tryz.prog 177 := ⟨_, Tryz.underlying177, rfl⟩
instance : Sc Tryz.prog 190 := ⟨_, Tryz.underlying190, rfl⟩
instance : Zr Tryz.prog 209 [.pointer none] := ⟨by kernel_rfl⟩
instance : Ag Tryz.prog 216 9 := ⟨⟨_, Tryz.underlying216, rfl⟩, by kernel_rfl⟩
instance : Zr Tryz.prog 216 [.int .i64 0, .int .i64 0, .int .i64 0, .int .i64 0, .int .i64 0, .int .i64 0, .int .i64 0, .int .i64 0, .int .i64 0] := ⟨by kernel_rfl⟩
instance : Zr Tryz.prog 238 [.int .i64 0, .int .i64 0, .int .i64 0] := ⟨by kernel_rfl⟩
instance : BS Tryz.prog 22 5 [.int .u8 0] := ⟨Tryz.underlying22, by kernel_rfl, by kernel_rfl⟩
instance : BS Tryz.prog 35 9 [.string ByteArray.empty] := ⟨Tryz.underlying35, by kernel_rfl, by kernel_rfl⟩
instance : BS Tryz.prog 81 84 [.nilIface] := ⟨Tryz.underlying81, by kernel_rfl, by kernel_rfl⟩
instance : BS Tryz.prog 113 3 [.int .i64 0] := ⟨Tryz.underlying113, by kernel_rfl, by kernel_rfl⟩
instance : BS Tryz.prog 118 4 [.bool false] := ⟨Tryz.underlying118, by kernel_rfl, by kernel_rfl⟩
instance : BS Tryz.prog 142 146 [.int .u8 0, .bool false, .pointer none] := ⟨Tryz.underlying142, by kernel_rfl, by kernel_rfl⟩
instance : FO Tryz.prog 34 0 0 := FO.of (k := 1) Tryz.underlying34 rfl rfl rfl (by kernel_rfl) (by decide)
instance : FO Tryz.prog 34 1 1 := FO.of (k := 1) Tryz.underlying34 rfl rfl rfl (by kernel_rfl) (by decide)
instance : Bd Tryz.prog 44 [(0, 1), (1, 1)] [.slice none 0 0, .int .i64 0] := ⟨fun _ => by kernel_rfl⟩
instance : FO Tryz.prog 44 0 0 := FO.of (k := 1) Tryz.underlying44 rfl rfl rfl (by kernel_rfl) (by decide)
instance : FO Tryz.prog 44 1 1 := FO.of (k := 1) Tryz.underlying44 rfl rfl rfl (by kernel_rfl) (by decide)
instance : Bd Tryz.prog 52 [(0, 1), (1, 1)] [.int .i64 0, .nilFunc] := ⟨fun _ => by kernel_rfl⟩
instance : FO Tryz.prog 52 0 0 := FO.of (k := 1) Tryz.underlying52 rfl rfl rfl (by kernel_rfl) (by decide)
instance : FO Tryz.prog 52 1 1 := FO.of (k := 1) Tryz.underlying52 rfl rfl rfl (by kernel_rfl) (by decide)
instance : Bd Tryz.prog 63 [(0, 1), (1, 1), (2, 1)] [.int .i64 0, .int .i64 0, .int .i64 0] := ⟨fun _ => by kernel_rfl⟩
instance : FO Tryz.prog 63 0 0 := FO.of (k := 1) Tryz.underlying63 rfl rfl rfl (by kernel_rfl) (by decide)
instance : FV Tryz.prog 63 0 0 1 false := FV.of1 (ft := 3) Tryz.underlying63 rfl rfl rfl inferInstance
instance : FO Tryz.prog 63 1 1 := FO.of (k := 1) Tryz.underlying63 rfl rfl rfl (by kernel_rfl) (by decide)
instance : FO Tryz.prog 63 2 2 := FO.of (k := 1) Tryz.underlying63 rfl rfl rfl (by kernel_rfl) (by decide)
instance : Bd Tryz.prog 67 [(0, 1), (1, 1), (2, 1), (3, 1)] [.int .i64 0, .int .i64 0, .int .i64 0, .int .i64 0] := ⟨fun _ => by kernel_rfl⟩
instance : FO Tryz.prog 67 0 0 := FO.of (k := 1) Tryz.underlying67 rfl rfl rfl (by kernel_rfl) (by decide)
instance : FO Tryz.prog 67 1 1 := FO.of (k := 1) Tryz.underlying67 rfl rfl rfl (by kernel_rfl) (by decide)
instance : FO Tryz.prog 67 2 2 := FO.of (k := 1) Tryz.underlying67 rfl rfl rfl (by kernel_rfl) (by decide)
instance : FO Tryz.prog 67 3 3 := FO.of (k := 1) Tryz.underlying67 rfl rfl rfl (by kernel_rfl) (by decide)
instance : Bd Tryz.prog 69 [(0, 3), (3, 4), (7, 1)] [.int .i64 0, .int .i64 0, .int .i64 0, .int .i64 0, .int .i64 0, .int .i64 0, .int .i64 0, .int .i64 0] := ⟨fun _ => by kernel_rfl⟩
instance : FO Tryz.prog 69 0 0 := FO.of (k := 3) Tryz.underlying69 rfl rfl rfl (by kernel_rfl) (by decide)
instance : FO Tryz.prog 69 1 3 := FO.of (k := 4) Tryz.underlying69 rfl rfl rfl (by kernel_rfl) (by decide)
instance : FO Tryz.prog 69 2 7 := FO.of (k := 1) Tryz.underlying69 rfl rfl rfl (by kernel_rfl) (by decide)
instance : Bd Tryz.prog 73 [(0, 1), (1, 1), (2, 1), (3, 1), (4, 1), (5, 1)] [.int .i64 0, .int .i64 0, .int .i64 0, .int .i64 0, .int .i64 0, .int .i64 0] := ⟨fun _ => by kernel_rfl⟩
instance : FO Tryz.prog 73 0 0 := FO.of (k := 1) Tryz.underlying73 rfl rfl rfl (by kernel_rfl) (by decide)
instance : FO Tryz.prog 73 1 1 := FO.of (k := 1) Tryz.underlying73 rfl rfl rfl (by kernel_rfl) (by decide)
instance : FO Tryz.prog 73 2 2 := FO.of (k := 1) Tryz.underlying73 rfl rfl rfl (by kernel_rfl) (by decide)
instance : FO Tryz.prog 73 3 3 := FO.of (k := 1) Tryz.underlying73 rfl rfl rfl (by kernel_rfl) (by decide)
instance : FO Tryz.prog 73 4 4 := FO.of (k := 1) Tryz.underlying73 rfl rfl rfl (by kernel_rfl) (by decide)
instance : FO Tryz.prog 73 5 5 := FO.of (k := 1) Tryz.underlying73 rfl rfl rfl (by kernel_rfl) (by decide)
instance : Bd Tryz.prog 106 [(0, 1), (1, 1), (2, 1)] [.int .i64 0, .int .i64 0, .int .i64 0] := ⟨fun _ => by kernel_rfl⟩
instance : FO Tryz.prog 106 0 0 := FO.of (k := 1) Tryz.underlying106 rfl rfl rfl (by kernel_rfl) (by decide)
instance : FO Tryz.prog 106 1 1 := FO.of (k := 1) Tryz.underlying106 rfl rfl rfl (by kernel_rfl) (by decide)
instance : FO Tryz.prog 106 2 2 := FO.of (k := 1) Tryz.underlying106 rfl rfl rfl (by kernel_rfl) (by decide)
instance : Bd Tryz.prog 121 [(0, 1), (1, 1)] [.string ByteArray.empty, .int .i64 0] := ⟨fun _ => by kernel_rfl⟩
instance : FO Tryz.prog 121 0 0 := FO.of (k := 1) Tryz.underlying121 rfl rfl rfl (by kernel_rfl) (by decide)
instance : FO Tryz.prog 121 1 1 := FO.of (k := 1) Tryz.underlying121 rfl rfl rfl (by kernel_rfl) (by decide)
instance : Bd Tryz.prog 135 [(0, 1), (1, 1)] [.int .i64 0, .int .i64 0] := ⟨fun _ => by kernel_rfl⟩
instance : FO Tryz.prog 135 0 0 := FO.of (k := 1) Tryz.underlying135 rfl rfl rfl (by kernel_rfl) (by decide)
instance : FO Tryz.prog 135 1 1 := FO.of (k := 1) Tryz.underlying135 rfl rfl rfl (by kernel_rfl) (by decide)
instance : Bd Tryz.prog 146 [(0, 1), (1, 1), (2, 1)] [.int .u8 0, .bool false, .pointer none] := ⟨fun _ => by kernel_rfl⟩
instance : FO Tryz.prog 146 0 0 := FO.of (k := 1) Tryz.underlying146 rfl rfl rfl (by kernel_rfl) (by decide)
instance : FO Tryz.prog 146 1 1 := FO.of (k := 1) Tryz.underlying146 rfl rfl rfl (by kernel_rfl) (by decide)
instance : FO Tryz.prog 146 2 2 := FO.of (k := 1) Tryz.underlying146 rfl rfl rfl (by kernel_rfl) (by decide)
instance : ArT Tryz.prog 147 24 1 := ⟨_, Tryz.underlying147, by kernel_rfl⟩
instance : Bd Tryz.prog 181 [(0, 8), (8, 8)] [.int .i64 0, .int .i64 0, .int .i64 0, .int .i64 0, .int .i64 0, .int .i64 0, .int .i64 0, .int .i64 0, .int .i64 0, .int .i64 0, .int .i64 0, .int .i64 0, .int .i64 0, .int .i64 0, .int .i64 0, .int .i64 0] := ⟨fun _ => by kernel_rfl⟩
instance : FO Tryz.prog 181 0 0 := FO.of (k := 8) Tryz.underlying181 rfl rfl rfl (by kernel_rfl) (by decide)
instance : FO Tryz.prog 181 1 8 := FO.of (k := 8) Tryz.underlying181 rfl rfl rfl (by kernel_rfl) (by decide)
instance : ArT Tryz.prog 189 20 1 := ⟨_, Tryz.underlying189, by kernel_rfl⟩
instance : ArT Tryz.prog 212 12 1 := ⟨_, Tryz.underlying212, by kernel_rfl⟩
instance : Bd Tryz.prog 216 [(0, 3), (3, 1), (4, 4), (8, 1)] [.int .i64 0, .int .i64 0, .int .i64 0, .int .i64 0, .int .i64 0, .int .i64 0, .int .i64 0, .int .i64 0, .int .i64 0] := ⟨fun _ => by kernel_rfl⟩
instance : FO Tryz.prog 216 1 3 := FO.of (k := 1) Tryz.underlying216 rfl rfl rfl (by kernel_rfl) (by decide)
instance : FO Tryz.prog 216 2 4 := FO.of (k := 4) Tryz.underlying216 rfl rfl rfl (by kernel_rfl) (by decide)
instance : FO Tryz.prog 216 3 8 := FO.of (k := 1) Tryz.underlying216 rfl rfl rfl (by kernel_rfl) (by decide)
instance : ArT Tryz.prog 238 3 1 := ⟨_, Tryz.underlying238, by kernel_rfl⟩
instance : Bd Tryz.prog 240 [(0, 1)] [.int .i64 0] := ⟨fun _ => by kernel_rfl⟩
instance : Ent Tryz.prog 12 := .of Tryz.func12 (by kernel_rfl) rfl
instance : Ent Tryz.prog 13 := .of Tryz.func13 (by kernel_rfl) rfl
instance : Ent Tryz.prog 14 := .of Tryz.func14 (by kernel_rfl) rfl
instance : Ent Tryz.prog 15 := .of Tryz.func15 (by kernel_rfl) rfl
instance : Ent Tryz.prog 16 := .of Tryz.func16 (by kernel_rfl) rfl
instance : Ent Tryz.prog 17 := .of Tryz.func17 (by kernel_rfl) rfl
instance : Ent Tryz.prog 18 := .of Tryz.func18 (by kernel_rfl) rfl
instance : Ent Tryz.prog 19 := .of Tryz.func19 (by kernel_rfl) rfl
instance : Ent Tryz.prog 20 := .of Tryz.func20 (by kernel_rfl) rfl
instance : Ent Tryz.prog 21 := .of Tryz.func21 (by kernel_rfl) rfl
instance : Ent Tryz.prog 22 := .of Tryz.func22 (by kernel_rfl) rfl
instance : Ent Tryz.prog 23 := .of Tryz.func23 (by kernel_rfl) rfl
instance : Ent Tryz.prog 24 := .of Tryz.func24 (by kernel_rfl) rfl
instance : Ent Tryz.prog 25 := .of Tryz.func25 (by kernel_rfl) rfl
instance : Ent Tryz.prog 26 := .of Tryz.func26 (by kernel_rfl) rfl
instance : Ent Tryz.prog 27 := .of Tryz.func27 (by kernel_rfl) rfl
instance : Ent Tryz.prog 28 := .of Tryz.func28 (by kernel_rfl) rfl
instance : Ent Tryz.prog 29 := .of Tryz.func29 (by kernel_rfl) rfl
instance : Ent Tryz.prog 30 := .of Tryz.func30 (by kernel_rfl) rfl
instance : Ent Tryz.prog 31 := .of Tryz.func31 (by kernel_rfl) rfl
instance : Ent Tryz.prog 32 := .of Tryz.func32 (by kernel_rfl) rfl
instance : Ent Tryz.prog 33 := .of Tryz.func33 (by kernel_rfl) rfl
instance : Ent Tryz.prog 34 := .of Tryz.func34 (by kernel_rfl) rfl
instance : Ent Tryz.prog 35 := .of Tryz.func35 (by kernel_rfl) rfl
instance : Ent Tryz.prog 36 := .of Tryz.func36 (by kernel_rfl) rfl
instance : Ent Tryz.prog 37 := .of Tryz.func37 (by kernel_rfl) rfl
instance : Ent Tryz.prog 38 := .of Tryz.func38 (by kernel_rfl) rfl
instance : Ent Tryz.prog 39 := .of Tryz.func39 (by kernel_rfl) rfl
instance : Ent Tryz.prog 40 := .of Tryz.func40 (by kernel_rfl) rfl
instance : Ent Tryz.prog 41 := .of Tryz.func41 (by kernel_rfl) rfl
instance : Ent Tryz.prog 42 := .of Tryz.func42 (by kernel_rfl) rfl
instance : Ent Tryz.prog 43 := .of Tryz.func43 (by kernel_rfl) rfl
instance : Ent Tryz.prog 44 := .of Tryz.func44 (by kernel_rfl) rfl
instance : Ent Tryz.prog 45 := .of Tryz.func45 (by kernel_rfl) rfl
instance : Ent Tryz.prog 46 := .of Tryz.func46 (by kernel_rfl) rfl
instance : Ent Tryz.prog 47 := .of Tryz.func47 (by kernel_rfl) rfl
instance : Ent Tryz.prog 48 := .of Tryz.func48 (by kernel_rfl) rfl
instance : Ent Tryz.prog 49 := .of Tryz.func49 (by kernel_rfl) rfl
instance : Ent Tryz.prog 50 := .of Tryz.func50 (by kernel_rfl) rfl
instance : Ent Tryz.prog 51 := .of Tryz.func51 (by kernel_rfl) rfl
instance : Ent Tryz.prog 52 := .of Tryz.func52 (by kernel_rfl) rfl
instance : Ent Tryz.prog 53 := .of Tryz.func53 (by kernel_rfl) rfl
instance : Ent Tryz.prog 54 := .of Tryz.func54 (by kernel_rfl) rfl
instance : Ent Tryz.prog 55 := .of Tryz.func55 (by kernel_rfl) rfl
instance : Ent Tryz.prog 57 := .of Tryz.func57 (by kernel_rfl) rfl
instance : Ent Tryz.prog 58 := .of Tryz.func58 (by kernel_rfl) rfl
instance : Ent Tryz.prog 60 := .of Tryz.func60 (by kernel_rfl) rfl
instance : Ent Tryz.prog 61 := .of Tryz.func61 (by kernel_rfl) rfl
instance : Ent Tryz.prog 62 := .of Tryz.func62 (by kernel_rfl) rfl
instance : Ent Tryz.prog 63 := .of Tryz.func63 (by kernel_rfl) rfl
instance : Ent Tryz.prog 64 := .of Tryz.func64 (by kernel_rfl) rfl
instance : Ent Tryz.prog 65 := .of Tryz.func65 (by kernel_rfl) rfl
instance : Ent Tryz.prog 66 := .of Tryz.func66 (by kernel_rfl) rfl
instance : Ent Tryz.prog 67 := .of Tryz.func67 (by kernel_rfl) rfl
instance : Ent Tryz.prog 68 := .of Tryz.func68 (by kernel_rfl) rfl
instance : Ent Tryz.prog 69 := .of Tryz.func69 (by kernel_rfl) rfl
instance : Ent Tryz.prog 70 := .of Tryz.func70 (by kernel_rfl) rfl
instance : Ent Tryz.prog 71 := .of Tryz.func71 (by kernel_rfl) rfl
instance : Ent Tryz.prog 72 := .of Tryz.func72 (by kernel_rfl) rfl
instance : Ent Tryz.prog 73 := .of Tryz.func73 (by kernel_rfl) rfl
instance : Ent Tryz.prog 74 := .of Tryz.func74 (by kernel_rfl) rfl
instance : Ent Tryz.prog 75 := .of Tryz.func75 (by kernel_rfl) rfl
instance : Ent Tryz.prog 76 := .of Tryz.func76 (by kernel_rfl) rfl
instance : Ent Tryz.prog 77 := .of Tryz.func77 (by kernel_rfl) rfl
instance : Ent Tryz.prog 78 := .of Tryz.func78 (by kernel_rfl) rfl
instance : Ent Tryz.prog 79 := .of Tryz.func79 (by kernel_rfl) rfl
instance : Ent Tryz.prog 80 := .of Tryz.func80 (by kernel_rfl) rfl
instance : Ent Tryz.prog 81 := .of Tryz.func81 (by kernel_rfl) rfl
instance : Ent Tryz.prog 82 := .of Tryz.func82 (by kernel_rfl) rfl
instance : Ent Tryz.prog 83 := .of Tryz.func83 (by kernel_rfl) rfl
instance : Ent Tryz.prog 84 := .of Tryz.func84 (by kernel_rfl) rfl
instance : Ent Tryz.prog 85 := .of Tryz.func85 (by kernel_rfl) rfl
instance : Ent Tryz.prog 86 := .of Tryz.func86 (by kernel_rfl) rfl
instance : Ent Tryz.prog 87 := .of Tryz.func87 (by kernel_rfl) rfl
instance : Ent Tryz.prog 88 := .of Tryz.func88 (by kernel_rfl) rfl
instance : Ent Tryz.prog 89 := .of Tryz.func89 (by kernel_rfl) rfl
instance : Ent Tryz.prog 90 := .of Tryz.func90 (by kernel_rfl) rfl
instance : Ent Tryz.prog 91 := .of Tryz.func91 (by kernel_rfl) rfl
instance : Ent Tryz.prog 92 := .of Tryz.func92 (by kernel_rfl) rfl
instance : Ent Tryz.prog 93 := .of Tryz.func93 (by kernel_rfl) rfl
instance : Ent Tryz.prog 94 := .of Tryz.func94 (by kernel_rfl) rfl
instance : Ent Tryz.prog 98 := .of Tryz.func98 (by kernel_rfl) rfl
instance : Ent Tryz.prog 99 := .of Tryz.func99 (by kernel_rfl) rfl
instance : Ent Tryz.prog 100 := .of Tryz.func100 (by kernel_rfl) rfl
instance : Ent Tryz.prog 102 := .of Tryz.func102 (by kernel_rfl) rfl
instance : Ent Tryz.prog 103 := .of Tryz.func103 (by kernel_rfl) rfl
instance : Ent Tryz.prog 104 := .of Tryz.func104 (by kernel_rfl) rfl
instance : Ent Tryz.prog 105 := .of Tryz.func105 (by kernel_rfl) rfl
instance : Ent Tryz.prog 106 := .of Tryz.func106 (by kernel_rfl) rfl
instance : Ent Tryz.prog 107 := .of Tryz.func107 (by kernel_rfl) rfl
instance : Ent Tryz.prog 108 := .of Tryz.func108 (by kernel_rfl) rfl
instance : Ent Tryz.prog 109 := .of Tryz.func109 (by kernel_rfl) rfl
instance : Ent Tryz.prog 110 := .of Tryz.func110 (by kernel_rfl) rfl
instance : Ent Tryz.prog 111 := .of Tryz.func111 (by kernel_rfl) rfl
instance : Ent Tryz.prog 112 := .of Tryz.func112 (by kernel_rfl) rfl
instance : Ent Tryz.prog 113 := .of Tryz.func113 (by kernel_rfl) rfl
instance : Ent Tryz.prog 114 := .of Tryz.func114 (by kernel_rfl) rfl
instance : Ent Tryz.prog 115 := .of Tryz.func115 (by kernel_rfl) rfl
instance : Ent Tryz.prog 116 := .of Tryz.func116 (by kernel_rfl) rfl
instance : Ent Tryz.prog 117 := .of Tryz.func117 (by kernel_rfl) rfl
instance : Ent Tryz.prog 118 := .of Tryz.func118 (by kernel_rfl) rfl
instance : Ent Tryz.prog 119 := .of Tryz.func119 (by kernel_rfl) rfl
instance : Ent Tryz.prog 120 := .of Tryz.func120 (by kernel_rfl) rfl
instance : Ent Tryz.prog 121 := .of Tryz.func121 (by kernel_rfl) rfl
instance : Ent Tryz.prog 122 := .of Tryz.func122 (by kernel_rfl) rfl
instance : Ent Tryz.prog 124 := .of Tryz.func124 (by kernel_rfl) rfl
instance : Ent Tryz.prog 125 := .of Tryz.func125 (by kernel_rfl) rfl
instance : Ent Tryz.prog 126 := .of Tryz.func126 (by kernel_rfl) rfl
instance : Ent Tryz.prog 127 := .of Tryz.func127 (by kernel_rfl) rfl
instance : Ent Tryz.prog 128 := .of Tryz.func128 (by kernel_rfl) rfl
instance : Ent Tryz.prog 129 := .of Tryz.func129 (by kernel_rfl) rfl
instance : Ent Tryz.prog 130 := .of Tryz.func130 (by kernel_rfl) rfl
instance : Ent Tryz.prog 131 := .of Tryz.func131 (by kernel_rfl) rfl
instance : Ent Tryz.prog 132 := .of Tryz.func132 (by kernel_rfl) rfl
instance : Ent Tryz.prog 133 := .of Tryz.func133 (by kernel_rfl) rfl
instance : Ent Tryz.prog 134 := .of Tryz.func134 (by kernel_rfl) rfl
instance : Ent Tryz.prog 135 := .of Tryz.func135 (by kernel_rfl) rfl
instance : Ent Tryz.prog 136 := .of Tryz.func136 (by kernel_rfl) rfl
instance : Ent Tryz.prog 137 := .of Tryz.func137 (by kernel_rfl) rfl
instance : Ent Tryz.prog 138 := .of Tryz.func138 (by kernel_rfl) rfl
instance : Ent Tryz.prog 139 := .of Tryz.func139 (by kernel_rfl) rfl
instance : Ent Tryz.prog 140 := .of Tryz.func140 (by kernel_rfl) rfl
instance : Ent Tryz.prog 141 := .of Tryz.func141 (by kernel_rfl) rfl
instance : Ent Tryz.prog 142 := .of Tryz.func142 (by kernel_rfl) rfl
instance : Ent Tryz.prog 143 := .of Tryz.func143 (by kernel_rfl) rfl
instance : Ent Tryz.prog 144 := .of Tryz.func144 (by kernel_rfl) rfl
instance : Ent Tryz.prog 145 := .of Tryz.func145 (by kernel_rfl) rfl
instance : Ent Tryz.prog 146 := .of Tryz.func146 (by kernel_rfl) rfl
instance : Ent Tryz.prog 147 := .of Tryz.func147 (by kernel_rfl) rfl
instance : Ent Tryz.prog 148 := .of Tryz.func148 (by kernel_rfl) rfl
instance : Ent Tryz.prog 149 := .of Tryz.func149 (by kernel_rfl) rfl
instance : Ent Tryz.prog 150 := .of Tryz.func150 (by kernel_rfl) rfl
instance : Ent Tryz.prog 151 := .of Tryz.func151 (by kernel_rfl) rfl
instance : Ent Tryz.prog 153 := .of Tryz.func153 (by kernel_rfl) rfl
instance : Ent Tryz.prog 158 := .of Tryz.func158 (by kernel_rfl) rfl
instance : Ent Tryz.prog 159 := .of Tryz.func159 (by kernel_rfl) rfl
instance : Ent Tryz.prog 160 := .of Tryz.func160 (by kernel_rfl) rfl
instance : Ent Tryz.prog 161 := .of Tryz.func161 (by kernel_rfl) rfl
instance : Ent Tryz.prog 162 := .of Tryz.func162 (by kernel_rfl) rfl
instance : Ent Tryz.prog 163 := .of Tryz.func163 (by kernel_rfl) rfl
instance : Ent Tryz.prog 164 := .of Tryz.func164 (by kernel_rfl) rfl
instance : Ent Tryz.prog 165 := .of Tryz.func165 (by kernel_rfl) rfl
instance : Ent Tryz.prog 166 := .of Tryz.func166 (by kernel_rfl) rfl
instance : Ent Tryz.prog 167 := .of Tryz.func167 (by kernel_rfl) rfl
instance : Ent Tryz.prog 168 := .of Tryz.func168 (by kernel_rfl) rfl
instance : Ent Tryz.prog 169 := .of Tryz.func169 (by kernel_rfl) rfl
instance : Ent Tryz.prog 170 := .of Tryz.func170 (by kernel_rfl) rfl
instance : Ent Tryz.prog 171 := .of Tryz.func171 (by kernel_rfl) rfl
instance : Ent Tryz.prog 172 := .of Tryz.func172 (by kernel_rfl) rfl
instance : Ent Tryz.prog 173 := .of Tryz.func173 (by kernel_rfl) rfl
instance : Ent Tryz.prog 174 := .of Tryz.func174 (by kernel_rfl) rfl
instance : Ent Tryz.prog 175 := .of Tryz.func175 (by kernel_rfl) rfl
instance : Ent Tryz.prog 176 := .of Tryz.func176 (by kernel_rfl) rfl
instance : Ent Tryz.prog 177 := .of Tryz.func177 (by kernel_rfl) rfl
instance : Ent Tryz.prog 178 := .of Tryz.func178 (by kernel_rfl) rfl
instance : Ent Tryz.prog 181 := .of Tryz.func181 (by kernel_rfl) rfl
instance : Ent Tryz.prog 182 := .of Tryz.func182 (by kernel_rfl) rfl
instance : Ent Tryz.prog 183 := .of Tryz.func183 (by kernel_rfl) rfl
instance : Ent Tryz.prog 186 := .of Tryz.func186 (by kernel_rfl) rfl
instance : Ent Tryz.prog 187 := .of Tryz.func187 (by kernel_rfl) rfl
instance : Ent Tryz.prog 188 := .of Tryz.func188 (by kernel_rfl) rfl
instance : Ent Tryz.prog 189 := .of Tryz.func189 (by kernel_rfl) rfl
instance : Ent Tryz.prog 190 := .of Tryz.func190 (by kernel_rfl) rfl
instance : Ent Tryz.prog 191 := .of Tryz.func191 (by kernel_rfl) rfl
instance : Ent Tryz.prog 192 := .of Tryz.func192 (by kernel_rfl) rfl
instance : Ent Tryz.prog 193 := .of Tryz.func193 (by kernel_rfl) rfl
instance : Ent Tryz.prog 194 := .of Tryz.func194 (by kernel_rfl) rfl
instance : Ent Tryz.prog 195 := .of Tryz.func195 (by kernel_rfl) rfl
instance : Ent Tryz.prog 199 := .of Tryz.func199 (by kernel_rfl) rfl
instance : Ent Tryz.prog 200 := .of Tryz.func200 (by kernel_rfl) rfl
instance : Ent Tryz.prog 201 := .of Tryz.func201 (by kernel_rfl) rfl
instance : Ent Tryz.prog 202 := .of Tryz.func202 (by kernel_rfl) rfl
instance : Ent Tryz.prog 203 := .of Tryz.func203 (by kernel_rfl) rfl
instance : Ent Tryz.prog 204 := .of Tryz.func204 (by kernel_rfl) rfl
instance : Ent Tryz.prog 205 := .of Tryz.func205 (by kernel_rfl) rfl
instance : Ent Tryz.prog 206 := .of Tryz.func206 (by kernel_rfl) rfl
instance : Ent Tryz.prog 207 := .of Tryz.func207 (by kernel_rfl) rfl
instance : Ent Tryz.prog 208 := .of Tryz.func208 (by kernel_rfl) rfl
instance : Ent Tryz.prog 209 := .of Tryz.func209 (by kernel_rfl) rfl
instance : Ent Tryz.prog 210 := .of Tryz.func210 (by kernel_rfl) rfl
instance : Ent Tryz.prog 211 := .of Tryz.func211 (by kernel_rfl) rfl
instance : Ent Tryz.prog 212 := .of Tryz.func212 (by kernel_rfl) rfl
instance : Ent Tryz.prog 213 := .of Tryz.func213 (by kernel_rfl) rfl
instance : Ent Tryz.prog 214 := .of Tryz.func214 (by kernel_rfl) rfl
instance : Ent Tryz.prog 215 := .of Tryz.func215 (by kernel_rfl) rfl
instance : Ent Tryz.prog 216 := .of Tryz.func216 (by kernel_rfl) rfl
instance : Ent Tryz.prog 220 := .of Tryz.func220 (by kernel_rfl) rfl
instance : Ent Tryz.prog 223 := .of Tryz.func223 (by kernel_rfl) rfl
instance : Ent Tryz.prog 224 := .of Tryz.func224 (by kernel_rfl) rfl
instance : Ent Tryz.prog 225 := .of Tryz.func225 (by kernel_rfl) rfl
instance : Ent Tryz.prog 230 := .of Tryz.func230 (by kernel_rfl) rfl
instance : Ent Tryz.prog 231 := .of Tryz.func231 (by kernel_rfl) rfl
instance : Ent Tryz.prog 232 := .of Tryz.func232 (by kernel_rfl) rfl
instance : Ent Tryz.prog 238 := .of Tryz.func238 (by kernel_rfl) rfl
instance : Ent Tryz.prog 261 := .of Tryz.func261 (by kernel_rfl) rfl
instance : Ent Tryz.prog 262 := .of Tryz.func262 (by kernel_rfl) rfl
instance : Ent Tryz.prog 263 := .of Tryz.func263 (by kernel_rfl) rfl
instance : Ent Tryz.prog 264 := .of Tryz.func264 (by kernel_rfl) rfl
instance : Ent Tryz.prog 265 := .of Tryz.func265 (by kernel_rfl) rfl
instance : Ent Tryz.prog 266 := .of Tryz.func266 (by kernel_rfl) rfl
instance : Ent Tryz.prog 267 := .of Tryz.func267 (by kernel_rfl) rfl
instance : Ent Tryz.prog 268 := .of Tryz.func268 (by kernel_rfl) rfl
instance : Ent Tryz.prog 269 := .of Tryz.func269 (by kernel_rfl) rfl
instance : Ent Tryz.prog 270 := .of Tryz.func270 (by kernel_rfl) rfl
instance : Ent Tryz.prog 271 := .of Tryz.func271 (by kernel_rfl) rfl
instance : Ent Tryz.prog 272 := .of Tryz.func272 (by kernel_rfl) rfl
end D
end Go.Proofs.YtboglbdhibcacaaGreatDoor

namespace Go.Proofs.YtboglbdhibcacaaGreatDoor
set_option linter.unusedVariables false
set_option linter.unusedSimpArgs false
namespace D
open Go.RowKit

instance : U8 Tryz.prog 5 := ⟨Tryz.underlying5⟩
instance : Ap Tryz.prog 22 5 1 1 := ⟨Tryz.underlying22, by kernel_rfl, by decide⟩
instance : Ap Tryz.prog 35 9 1 16 := ⟨Tryz.underlying35, by kernel_rfl, by decide⟩
instance : Bd Tryz.prog 50 [] [] := ⟨fun _ => by kernel_rfl⟩
instance : Zv Tryz.prog 52 (.agg #[.int .i64 0, .nilFunc]) := ⟨by kernel_rfl⟩
instance : Bd Tryz.prog 54 [] [] := ⟨fun _ => by kernel_rfl⟩
instance : Ci Tryz.prog 54 := ⟨_, Tryz.underlying54, rfl⟩
instance : Ap Tryz.prog 113 3 1 8 := ⟨Tryz.underlying113, by kernel_rfl, by decide⟩
instance : Bd Tryz.prog 125 [] [] := ⟨fun _ => by kernel_rfl⟩
instance : Ci Tryz.prog 125 := ⟨_, Tryz.underlying125, rfl⟩
instance : Bd Tryz.prog 126 [] [] := ⟨fun _ => by kernel_rfl⟩
instance : Ci Tryz.prog 126 := ⟨_, Tryz.underlying126, rfl⟩
instance : Zv Tryz.prog 126 (.agg #[]) := ⟨by kernel_rfl⟩
instance : Bd Tryz.prog 127 [] [] := ⟨fun _ => by kernel_rfl⟩
instance : Ci Tryz.prog 127 := ⟨_, Tryz.underlying127, rfl⟩
instance : Zv Tryz.prog 127 (.agg #[]) := ⟨by kernel_rfl⟩
instance : Ci Tryz.prog 209 := ⟨_, Tryz.underlying209, rfl⟩
instance : Ci Tryz.prog 211 := ⟨_, Tryz.underlying211, rfl⟩
end D
end Go.Proofs.YtboglbdhibcacaaGreatDoor

namespace Go.Proofs.YtboglbdhibcacaaGreatDoor
set_option linter.unusedVariables false
set_option linter.unusedSimpArgs false
set_option maxRecDepth 100000
namespace D
open Go.RowKit

variable {P : Program} {e : Env} {w0 : World} {hs : SH} {d : Option Tmp} {ty : TypeId} {pos : String} {af : Array Edge} {g : Option (Nat × Bool)}
variable {n : Nat} {ds : List Deferred} {ops : List Oper} {Q : Exit → Act → World → Prop} {l : List Oper}

theorem L.perm' {hs' : SH} (hp : hs.Perm hs') (h : L P n ds w0 ops Q l e hs') : L P n ds w0 ops Q l e hs := .mk fun a w ha hst => h.ok a w ha (hst.perm hp)
theorem X.perm' {x : Exit} {hs' : SH} (hp : hs.Perm hs') (h : X n ds w0 Q x e hs') : X n ds w0 Q x e hs := .mk fun a w ha hst => h.ok a w ha (hst.perm hp)
theorem C.perm' {c : Code} {hs' : SH} (hp : hs.Perm hs') (h : C P n ds w0 Q c e hs') : C P n ds w0 Q c e hs := .mk fun a w ha hst => h.ok a w ha (hst.perm hp)

/-- Elements as cells. -/
structure El (α : Type) where
  T : TypeId
  sz : Nat
  fc : α → List Value
  dft : α
  len : ∀ x, (fc x).length = sz
  one : ∀ x, ∀ u ∈ fc x, u.oneCell' = true
variable {α : Type} (E : El α)

def El.at (M : List α) (i : Nat) : α := M.getD i E.dft
theorem El.at_some {M : List α} {i : Nat} (h : i < M.length) : M[i]? = some (E.at M i) := by simp [El.at, List.getD, h]
/-- A list that can be read. -/
def El.Rd (w : World) (p : Option Addr) (A : List α) : Prop := ∀ i x, A[i]? = some x → ∃ b o, p = some ⟨b, o, none⟩ ∧ ∀ j u, (E.fc x)[j]? = some u → w.cell? ⟨b, o + i * E.sz + j, none⟩ = some u
theorem El.Rd.keep {w w' : World} {p : Option Addr} {A : List α} (h : E.Rd w p A) (hb : Below w.heap.size w w') : E.Rd w' p A := fun i x hi => by
  obtain ⟨b, o, hp, h1⟩ := h i x hi
  exact ⟨b, o, hp, fun j u hj => (hb.cell (World.block_lt_of_cell? _ _ (h1 j u hj))).trans (h1 j u hj)⟩
theorem El.Rd.nil {w : World} {p : Option Addr} : E.Rd w p [] := fun i x h => by simp at h
theorem El.Rd.get {w : World} {p : Option Addr} {A : List α} (h : E.Rd w p A) {i : Int} (h0 : 0 ≤ i) (h1 : i < A.length) : ∃ b o, p = some ⟨b, o, none⟩ ∧ ∀ j u, (E.fc (E.at A i.toNat))[j]? = some u → w.cell? ⟨b, o + i.toNat * E.sz + j, none⟩ = some u :=
  h i.toNat _ (E.at_some (by omega))
abbrev El.blk (M : List α) (pad : List Value) : Blk := .cells E.T (flat E.fc M ++ pad)
theorem El.own {w : World} {hs : SH} {b : Nat} {A : List α} {pad : List Value} (hst : St w0 hs w) (hm : (b, E.blk A pad) ∈ hs) : E.Rd w (some ⟨b, 0, none⟩) A := fun i x hi => by
  have h := flat_get E.len A pad i x hi
  refine ⟨b, 0, rfl, fun j u hj => ?_⟩
  have := hst.cell hm (h j u hj)
  simpa using this
/-- What is to hold of a made slice's room. -/
structure El.Sf (M : List α) (c : Nat) (pad : List Value) : Prop where
  le : M.length ≤ c
  lt : c ≤ 9223372036854775807
  len : (flat E.fc M ++ pad).length = c * E.sz
/-- A made slice. -/
def El.S (M : List α) : Value → SH → Prop := fun v H => ∃ (b c : Nat) (pad : List Value), v = .slice (some ⟨b, 0, none⟩) M.length c ∧ H = [(b, E.blk M pad)] ∧ E.Sf M c pad
theorem El.Sf.nil : E.Sf [] 0 [] := ⟨Nat.le_refl _, by omega, by simp [flat]⟩
theorem El.Sf.sls {M : List α} {b c : Nat} {pad : List Value} (h : E.Sf M c pad) : SlS E.T E.sz M.length (flat E.fc M) (.slice (some ⟨b, 0, none⟩) M.length c) [(b, E.blk M pad)] :=
  .inr ⟨b, c, pad, rfl, rfl, h.le, h.lt, h.len, flat_length E.len M⟩
theorem El.of_sls {M : List α} {v : Value} {H : SH} (hL : M ≠ []) (h : SlS E.T E.sz M.length (flat E.fc M) v H) : E.S M v H := by
  rcases h with ⟨_, h, _, _⟩ | ⟨b, c, pad, rfl, rfl, h1, h2, h3, _⟩
  · exact (hL (List.eq_nil_of_length_eq_zero h)).elim
  · exact ⟨b, c, pad, rfl, rfl, h1, h2, h3⟩
theorem Tail.of' {H : SH} : ∀ F : SH, Tail H F (F ++ H)
  | [] => .nil
  | _ :: r => .cons (Tail.of' r)
/-- One element more, which lies in a block of its own. -/
theorem L.gapp {t bytes : Nat} [i : Ap P t E.T E.sz bytes] {M : List α} {x : α} {b c b1 c1 : Nat} {T' : TypeId} {F : SH} {pad : List Value} {xa : List Operand} (hS : E.Sf M c pad)
    (hp : Pull (b, E.blk M pad) hs F := by (repeat (first | exact Pull.here | apply Pull.there)))
    (hw : wantE ops e ⟨d, .call ⟨.builtin .append, xa.toArray, #[t, t]⟩, ty, pos, af, g⟩ = some true := by exact rfl) (hd : dstOk n d = true := by exact rfl) (hv : evs e xa = some [.slice (some ⟨b, 0, none⟩) M.length c, .slice (some ⟨b1, 0, none⟩) 1 c1] := by exact rfl)
    (hm : (b1, Blk.cells T' (E.fc x)) ∈ hs := by (repeat (first | exact List.Mem.head _ | apply List.Mem.tail))) (hb : (M.length + 1) * bytes ≤ 140737488355328) (hb2 : M.length ≤ 1000000000000)
    (kk : ∀ (b' c' : Nat) (pad' : List Value), E.Sf (M ++ [x]) c' pad' → L P n ds w0 ops Q l (consE d (.slice (some ⟨b', 0, none⟩) (M.length + 1) c') e) ((b', E.blk (M ++ [x]) pad') :: F)) : L P n ds w0 ops Q (⟨d, .call ⟨.builtin .append, xa.toArray, #[t, t]⟩, ty, pos, af, g⟩ :: l) e hs := by
  have hq : hs.Perm (F ++ [(b, E.blk M pad)]) := hp.perm.trans (List.perm_append_singleton _ _).symm
  have hm' := hq.mem_iff.1 hm
  refine L.perm' hq (L.app (us := E.fc x) (k := M.length) (xs := flat E.fc M) (H := [(b, E.blk M pad)]) (F := F) (c := c1) (b := b1) (o := 0) (m := 1) hS.sls hw hd hv (Tail.of' F) (fun w hst j u hj => by rw [Nat.zero_add]; exact hst.cell hm' hj) (by rw [E.len, Nat.one_mul]) (E.one x) hb (by omega) fun v' H' hS' => ?_)
  rw [show flat E.fc M ++ E.fc x = flat E.fc (M ++ [x]) from (flat_snoc E.fc M x).symm] at hS'
  have e1 : M.length + 1 = (M ++ [x]).length := by simp
  rw [e1] at hS'
  obtain ⟨b', c', pad', rfl, rfl, hR⟩ := E.of_sls (by simp) hS'
  have := kk b' c' pad' hR
  rw [e1] at this
  exact L.perm' (List.perm_append_singleton _ _) this
/-- A store at a place of a list. -/
theorem wr_flat (M : List α) (pad : List Value) (k : Nat) (x : α) (hk : k < M.length) : Wr (k * E.sz) (E.fc x) (flat E.fc M ++ pad) (flat E.fc (M.set k x) ++ pad) := by
  have hput : ∀ (us vs rest : List Value), us.length = vs.length → Wr 0 us (vs ++ rest) (us ++ rest) := by
    intro us
    induction us with
    | nil => intro vs rest h; have : vs = [] := List.eq_nil_of_length_eq_zero h.symm; subst this; exact .nil
    | cons u r ih =>
      intro vs rest h
      cases vs with
      | nil => simp at h
      | cons v t => exact .put (ih t rest (by simpa using h))
  have hskip : ∀ (vs us r r' : List Value) (o : Nat), Wr o us r r' → Wr (vs.length + o) us (vs ++ r) (vs ++ r') := by
    intro vs
    induction vs with
    | nil => intro us r r' o h; simpa using h
    | cons v t ih =>
      intro us r r' o h
      have := ih us r r' o h
      rw [List.length_cons, show t.length + 1 + o = (t.length + o) + 1 by omega]
      exact .skip this
  induction M generalizing k with
  | nil => simp at hk
  | cons y t ih =>
    cases k with
    | zero =>
      have := hput (E.fc x) (E.fc y) (flat E.fc t ++ pad) (by rw [E.len, E.len])
      simpa [flat] using this
    | succ k =>
      have := hskip (E.fc y) _ _ _ _ (ih k (by simpa using hk))
      rw [E.len, Nat.succ_mul, Nat.add_comm] at *
      rw [Nat.add_comm] at this
      simpa [flat, Nat.succ_mul, Nat.add_comm] using this
theorem El.Sf.set {M : List α} {c : Nat} {pad : List Value} (h : E.Sf M c pad) (k : Nat) (x : α) : E.Sf (M.set k x) c pad := by
  refine ⟨by simpa using h.le, h.lt, ?_⟩
  have h1 := h.len
  have h2 := flat_length E.len M
  have h3 := flat_length E.len (M.set k x)
  rw [List.length_set] at h3
  rw [List.length_append] at h1 ⊢
  omega

end D
end Go.Proofs.YtboglbdhibcacaaGreatDoor

namespace Go.Proofs.YtboglbdhibcacaaGreatDoor
set_option linter.unusedVariables false
set_option linter.unusedSimpArgs false
set_option maxRecDepth 100000
namespace D
open Go.RowKit

variable {P : Program} {e : Env} {w0 : World} {hs : SH} {d : Option Tmp} {ty : TypeId} {pos : String} {af : Array Edge} {g : Option (Nat × Bool)}
variable {n : Nat} {ds : List Deferred} {ops : List Oper} {Q : Exit → Act → World → Prop} {l : List Oper}

theorem OV.ext {f : FuncId} {xs : List Operand} {ts : Array TypeId} {vs : List Value} {v : Value} (hv : evs e xs = some vs) (h : ∀ w, (callFunc f vs.toArray).run P w = .ok (.value v) w) : OV P ⟨d, .call ⟨.value (.func f), xs.toArray, ts⟩, ty, pos, af, g⟩ e w0 hs v := .mk fun ρ w hf hst => by
  have := evs_map hf hv
  refine .of_value (w' := w) ?_ ⟨rfl, .refl _⟩
  have hfn : ρ (.func f) = .func (.func f) #[] #[] := hf _ _ rfl
  simp [execOp, resolve, Deferred.ofValue, invoke, hfn, this, h]
theorem L.ext {f : FuncId} {xs : List Operand} {ts : Array TypeId} {vs : List Value} {v : Value} (hw : wantE ops e ⟨d, .call ⟨.value (.func f), xs.toArray, ts⟩, ty, pos, af, g⟩ = some true := by exact rfl) (hd : dstOk n d = true := by exact rfl) (hv : evs e xs = some vs := by exact rfl)
    (h : ∀ w, (callFunc f vs.toArray).run P w = .ok (.value v) w) (k : L P n ds w0 ops Q l (consE d v e) hs) : L P n ds w0 ops Q (⟨d, .call ⟨.value (.func f), xs.toArray, ts⟩, ty, pos, af, g⟩ :: l) e hs := L.v hw hd (.ext hv h) k

theorem C.permy {c : Code} {hs' : SH} (hp : hs.Perm hs') (h : C P n ds w0 Q c e hs') : C P n ds w0 Q c e hs := .mk fun a w ha hst => h.ok a w ha (hst.perm hp)

theorem wr_sety : ∀ (vs : List Value) (o : Nat) (v : Value), o < vs.length → Wr o [v] vs (vs.set o v)
  | [], o, v, h => by simp at h
  | x :: r, 0, v, h => .put .nil
  | x :: r, o + 1, v, h => .skip (wr_sety r o v (by simpa using h))

theorem PV.sll {t el es b o n c : Nat} {x y : Operand} {k : IntKind} {q : Int} [i : SlT P t el es] (hx : ev e x = some (.slice (some ⟨b, o, none⟩) n c)) (hy : ev e y = some (.int k q)) (h0 : 0 ≤ q) (h1 : q ≤ n) (h2 : n ≤ c) :
    PV P ⟨d, .slice t x (some y) none none, ty, pos, af, g⟩ e (.slice (some ⟨b, if c = q.toNat then o else o + q.toNat * es, none⟩) (n - q.toNat) (c - q.toNat)) := .mk fun ρ hf w => by
  have h3 : q ≤ (c : Int) := by omega
  by_cases hc : c = q.toNat
  · simp [execOp, hf x _ hx, hf y _ hy, Instr.sliceAt, Instr.slice, run_underlying i.ok, run_sizeOf i.sz, Instr.sliceBounds, run_sliceBound, h0, h1, h2, h3, add_plain, hc]
  · simp [execOp, hf x _ hx, hf y _ hy, Instr.sliceAt, Instr.slice, run_underlying i.ok, run_sizeOf i.sz, Instr.sliceBounds, run_sliceBound, h0, h1, h2, h3, add_plain, hc]

end D
end Go.Proofs.YtboglbdhibcacaaGreatDoor
