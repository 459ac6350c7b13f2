/- Walks: forms of dates of the program. -/
import Derived.Test.YtpgbmohocfcjpaaGreatDoorB1
namespace Go.Proofs.YtpgbmohocfcjpaaGreatDoor
set_option linter.unusedVariables false
set_option linter.unusedSimpArgs false
set_option maxRecDepth 100000
set_option maxHeartbeats 1000000
namespace D
open Go.RowKit
open Go.PlainAid (bt bt_nonneg bt_le bt_end)
attribute [local irreducible] Calls

theorem a_between_free (w0 : World) (F : SH) (r : Nat) (s : ByteArray) (p : Int) (w : World) (hst : St w0 ((r, rdB s p) :: F) w) :
    Calls Tryz.prog 117 #[.pointer (some ⟨r, 0, none⟩), .bool false] w (Turns w0 (.bool true) ((r, rdB s p) :: F)) := by
  refine enterl Tryz.func117 rfl Tryz.ntmps117 rfl hst ?_
  (repeat' (first | intro (b : Nat) | refine go ?_ | (refine br ?_ ?_ <;> first | exact trivial | intro hq)))
  (refine rett rfl)

theorem a_between_no (w0 : World) (F : SH) (r : Nat) (s : ByteArray) (p : Nat) (hs : s.size ≤ 1000000000000) (hp : p ≤ s.size) (h : isB s p 45 = false) (w : World) (hst : St w0 ((r, rdB s p) :: F) w) :
    Calls Tryz.prog 117 #[.pointer (some ⟨r, 0, none⟩), .bool true] w (Turns w0 (.bool false) ((r, rdB s p) :: F)) := by
  refine enterl Tryz.func117 rfl Tryz.ntmps117 rfl hst ?_
  (repeat (first | intro (b : Nat) | refine go ?_))
  (refine L.tcall (h := by intro W hW; exact a_take_no _ _ _ _ _ _ hs hp h W hW) (k := ?_))
  (repeat (first | intro (b : Nat) | refine go ?_))
  (refine rett rfl)

theorem a_between_yes (w0 : World) (F : SH) (r : Nat) (s : ByteArray) (p : Nat) (hs : s.size ≤ 1000000000000) (h : isB s p 45 = true) (w : World) (hst : St w0 ((r, rdB s p) :: F) w) :
    Calls Tryz.prog 117 #[.pointer (some ⟨r, 0, none⟩), .bool true] w (Turns w0 (.bool true) ((r, rdB s ((p : Int) + 1)) :: F)) := by
  refine enterl Tryz.func117 rfl Tryz.ntmps117 rfl hst ?_
  (repeat (first | intro (b : Nat) | refine go ?_))
  (refine L.tcall (h := by intro W hW; exact a_take_yes _ _ _ _ _ _ hs h W hW) (k := ?_))
  (repeat (first | intro (b : Nat) | refine go ?_))
  (refine rett rfl)

instance : Mth Tryz.prog 86 (.agg #[]) "loop.example/datenotation/impl.parts" 251 (.agg #[]) := ⟨fun w => by kernel_rfl⟩

instance : Mth Tryz.prog 86 (.agg #[]) "loop.example/datenotation/impl.read" 60 (.agg #[]) := ⟨fun w => by kernel_rfl⟩

theorem a_monthParts (y m d : Int) (h : dval y m d = true) (w : World) (hb : D.Base w) : Calls Tryz.prog 251 #[.agg #[], .agg #[.int .i64 y, .int .i64 m, .int .i64 d]] w (Ret w (NewSl 3 3 (.cells 9 [.string (strOfNums (digL y 4)), .string (strOfNums (digL m 2)), .string (strOfNums (digL d 2))]))) := by
  have hd := dval_bd h
  refine enter Tryz.func251 rfl Tryz.ntmps251 rfl (by assumption) ?_
  (repeat' (first | intro (b : Nat) | refine go ?_ | (refine br ?_ ?_ <;> first | exact trivial | intro hq) | refine L.call (h := by intro W hW; first | apply a_digits4 _ (by omega) W hW.base | apply a_digits2 _ (by omega) W hW.base) (k := ?_) | refine gg ?_ | refine G.call (h := by intro W hW; first | apply a_digits4 _ (by omega) W hW.base | apply a_digits2 _ (by omega) W hW.base) (k := ?_) | (apply C.draww (id := 1) 11 [none, some _, some _, none, some _, some _, none, some _, some _, some _, none])))
  exact retsl

end D
end Go.Proofs.YtpgbmohocfcjpaaGreatDoor
