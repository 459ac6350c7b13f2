/- Stamps that are read and written, by name (the sort's texts need no more of the spans'). -/
import Derived.Test.YtpgbmohocfcjpaaGreatDoorF6
import Derived.Test.YtpgbmohocfcjpaaGreatDoorDr
namespace Go.Proofs.YtpgbmohocfcjpaaGreatDoor
set_option linter.unusedVariables false
set_option linter.unusedSimpArgs false
set_option maxRecDepth 100000
set_option maxHeartbeats 1000000
namespace D
open Go.RowKit
open Go.PlainAid (bt bt_nonneg bt_le bt_end)
attribute [local irreducible] Calls

/-- A stamp, as a value. -/
abbrev sa (S : SR) : Value := .agg #[.int .i64 S.y, .int .i64 S.m, .int .i64 S.d, .int .i64 S.h, .int .i64 S.i, .int .i64 S.s, .int .i64 S.k, .int .i64 S.o]
def insS (S : SR) : Int := inst S.y S.m S.d S.h S.i S.s S.k S.o
def valS (S : SR) : Prop := sval S.y S.m S.d S.h S.i S.s S.k S.o = true
noncomputable def stampR (s : ByteArray) : SR := stR s (cutP s)
theorem stampR_ok {s : ByteArray} (h : (stampR s).ok = true) : valS (stampR s) := (stR_ok h).2
noncomputable abbrev txS (S : SR) : ByteArray := strOfNums (stL S.y S.m S.d S.h S.i S.s S.k S.o)
theorem txS_read {S : SR} (h : valS S) : stampR (txS S) = ⟨S.y, S.m, S.d, S.h, S.i, S.s, S.k, S.o, true⟩ := st_text h
theorem txS_ok {S : SR} (h : valS S) : (stampR (txS S)).ok = true := by rw [txS_read h]
theorem stT_of {S : SR} (h : valS S) : stT S.y S.m S.d S.h S.i S.s S.k S.o = txS S := if_pos h

theorem a_StampLess (A B : SR) (hA : valS A) (hB : valS B) (w : World) (hb : D.Base w) : Calls Tryz.prog 26 #[sa A, sa B] w fun e w' => e = .returned (.bool (decide (insS A < insS B))) ∧ Below w.heap.size w w' := by
  have h1 := a_StampValid A.y A.m A.d A.h A.i A.s A.k A.o
  have h2 := a_StampValid B.y B.m B.d B.h B.i B.s B.k B.o
  have h3 := a_instantOf _ _ _ _ _ _ _ _ hA
  have h4 := a_instantOf _ _ _ _ _ _ _ _ hB
  unfold valS at hA hB
  rw [hA] at h1
  rw [hB] at h2
  unfold insS
  generalize inst A.y A.m A.d A.h A.i A.s A.k A.o = ia at *
  generalize inst B.y B.m B.d B.h B.i B.s B.k B.o = ib at *
  refine enter Tryz.func26 rfl Tryz.ntmps26 rfl (by assumption) ?_
  (repeat' (first | intro (b : Nat) | refine go ?_ | (refine br ?_ ?_ <;> first | exact trivial | intro hq) | refine L.call (h := by intro W hW; first | apply h1 W hW.base | apply h2 W hW.base | apply h3 W hW.base | apply h4 W hW.base) (k := ?_) | refine gg ?_ | refine G.call (h := by intro W hW; first | apply h1 W hW.base | apply h2 W hW.base | apply h3 W hW.base | apply h4 W hW.base) (k := ?_) | (apply C.draww (id := 1) 14 [some _, some _, none, some _, some _, none, none, some _, some _, some _, some _, none, none, none])))
  (refine ret ?_; try exact rfl)

end D
end Go.Proofs.YtpgbmohocfcjpaaGreatDoor
