/- Walks: texts of dates that are drawn. -/
import Derived.Test.YtdafjaimljhcaaaGreatDoorDr2
import Derived.Test.YtdafjaimljhcaaaGreatDoorC3
namespace Go.Proofs.YtdafjaimljhcaaaGreatDoor
set_option linter.unusedVariables false
set_option linter.unusedSimpArgs false
set_option maxRecDepth 100000
set_option maxHeartbeats 1000000
namespace D
open Go.RowKit

/-- A short string. -/
def StrIn (n : Nat) (v : Value) : Prop := ∃ t : ByteArray, v = .string t ∧ t.size ≤ n

/-- Short strings. -/
def AllS (n : Nat) (vs : List Value) : Prop := ∀ i, i < vs.length → ∃ t : ByteArray, vs[i]? = some (.string t) ∧ t.size ≤ n

theorem AllS.nil {n : Nat} : AllS n [] := fun i hi => by simp at hi

theorem AllS.cons {n : Nat} {t : ByteArray} {r : List Value} (ht : t.size ≤ n) (h : AllS n r) : AllS n (.string t :: r) := fun i hi => by
  cases i with
  | zero => exact ⟨t, rfl, ht⟩
  | succ i => exact h i (by simpa using hi)

theorem d_of (w0 : World) (F : SH) (s : Value) (r : Nat) (p : Int) (hc : CodeAt w0 s) (hp0 : 0 ≤ p) (hp : p ≤ 100000000000000) (b : Nat) (n m : Nat) (vs : List Value) (hl : vs.length = n) (hn : 1 ≤ n ∧ n ≤ 1000) (hm : (b, Blk.cells 9 vs) ∈ F) (ha : AllS m vs) (w : World) (hst : St w0 ((r, rb s p) :: F) w) :
    Calls Tryz.prog 61 #[.pointer (some ⟨r, 0, none⟩), .slice (some ⟨b, 0, none⟩) n n] w (LentV w0 r (rb s) p 1 F (StrIn m)) := by
  refine enterl Tryz.func61 rfl Tryz.ntmps61 rfl hst ?_
  (repeat (first | intro (b : Nat) | refine go ?_))
  (refine L.lcall (bs := rb s) (h := by intro W hW; exact d_pick1 _ _ _ _ _ _ hc (by omega) (by omega) (by omega) W hW) (k := ?_); intro v p1 hR hp1 hp2; obtain ⟨i, rfl, hi0, hi1⟩ := hR)
  (repeat (first | intro (b : Nat) | refine go ?_))
  obtain ⟨t, ht1, ht2⟩ := ha i.toNat (by omega)
  (apply L.v; (· exact rfl); (· exact rfl); (· apply OV.loadi (T := 9) (vs := vs); (· exact rfl); (· exact List.Mem.tail _ hm); (· rw [Nat.zero_add, Nat.mul_one]; exact ht1)))
  (repeat (first | intro (b : Nat) | refine go ?_))
  (refine retl ?_)
  exact ⟨t, rfl, ht2⟩

theorem dtL_len (y m d f : Int) (h : Bool) : (dtL y m d f h).length ≤ 20 := by
  unfold dtL hy1
  cases h <;> (split <;> (try split) <;> simp [digL_length])

theorem dtS_str (y m d f : Int) (h : Bool) : ∃ (t : ByteArray) (ok : Bool), dtS y m d f h = .tuple #[.string t, .bool ok] ∧ t.size ≤ 20 := by
  unfold dtS
  split
  · exact ⟨_, _, rfl, by rw [strOfNums_size]; exact dtL_len y m d f h⟩
  · exact ⟨_, _, rfl, by decide⟩

def SomeText (v : Value) : Prop := ∃ (y m d f : Int) (h : Bool), v = .tuple #[.agg #[.int .i64 y, .int .i64 m, .int .i64 d], .int .i64 f, .bool h]

end D
end Go.Proofs.YtdafjaimljhcaaaGreatDoor
