/- Walks: forms of dates of the program. -/
import Derived.Test.YtodmpdcffnmmkaaDoorB1
namespace Go.Proofs.YtodmpdcffnmmkaaDoor
set_option linter.unusedVariables false
set_option linter.unusedSimpArgs false
set_option maxRecDepth 100000
set_option maxHeartbeats 1000000
namespace D
open Go.RowKit
open Go.PlainAid (bt bt_nonneg bt_le bt_end)
attribute [local irreducible] Calls

theorem a_between_free (w0 : World) (F : SH) (r : Nat) (s : ByteArray) (p : Int) (w : World) (hst : St w0 ((r, rdB s p) :: F) w) :
    Calls Tryd.prog 23 #[.pointer (some ⟨r, 0, none⟩), .bool false] w (Turns w0 (.bool true) ((r, rdB s p) :: F)) := by
  refine enterl Tryd.func23 rfl Tryd.ntmps23 rfl hst ?_
  (repeat' (first | intro (b : Nat) | refine go ?_ | (refine br ?_ ?_ <;> first | exact trivial | intro hq)))
  (refine rett rfl)

theorem a_between_no (w0 : World) (F : SH) (r : Nat) (s : ByteArray) (p : Nat) (hs : s.size ≤ 1000000000000) (hp : p ≤ s.size) (h : isB s p 45 = false) (w : World) (hst : St w0 ((r, rdB s p) :: F) w) :
    Calls Tryd.prog 23 #[.pointer (some ⟨r, 0, none⟩), .bool true] w (Turns w0 (.bool false) ((r, rdB s p) :: F)) := by
  refine enterl Tryd.func23 rfl Tryd.ntmps23 rfl hst ?_
  (repeat (first | intro (b : Nat) | refine go ?_))
  (refine L.tcall (h := by intro W hW; exact a_take_no _ _ _ _ _ _ hs hp h W hW) (k := ?_))
  (repeat (first | intro (b : Nat) | refine go ?_))
  (refine rett rfl)

theorem a_between_yes (w0 : World) (F : SH) (r : Nat) (s : ByteArray) (p : Nat) (hs : s.size ≤ 1000000000000) (h : isB s p 45 = true) (w : World) (hst : St w0 ((r, rdB s p) :: F) w) :
    Calls Tryd.prog 23 #[.pointer (some ⟨r, 0, none⟩), .bool true] w (Turns w0 (.bool true) ((r, rdB s ((p : Int) + 1)) :: F)) := by
  refine enterl Tryd.func23 rfl Tryd.ntmps23 rfl hst ?_
  (repeat (first | intro (b : Nat) | refine go ?_))
  (refine L.tcall (h := by intro W hW; exact a_take_yes _ _ _ _ _ _ hs h W hW) (k := ?_))
  (repeat (first | intro (b : Nat) | refine go ?_))
  (refine rett rfl)

instance : Mth Tryd.prog 44 (.agg #[]) "loop.example/datenotation/impl.parts" 88 (.agg #[]) := ⟨fun w => by kernel_rfl⟩

instance : Mth Tryd.prog 44 (.agg #[]) "loop.example/datenotation/impl.read" 11 (.agg #[]) := ⟨fun w => by kernel_rfl⟩

end D
end Go.Proofs.YtodmpdcffnmmkaaDoor
