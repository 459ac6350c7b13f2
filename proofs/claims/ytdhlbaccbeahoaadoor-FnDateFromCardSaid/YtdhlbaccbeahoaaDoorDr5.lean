/- Walks: texts of dates that are drawn. -/
import Derived.Test.YtdhlbaccbeahoaaDoorDr2
import Derived.Test.YtdhlbaccbeahoaaDoorC3
namespace Go.Proofs.YtdhlbaccbeahoaaDoor
set_option linter.unusedVariables false
set_option linter.unusedSimpArgs false
set_option maxRecDepth 100000
set_option maxHeartbeats 1000000
namespace D
open Go.RowKit

/-- A short string. -/
def StrIn (n : Nat) (v : Value) : Prop := ∃ t : ByteArray, v = .string t ∧ t.size ≤ n

/-- Short strings. -/
def AllS (n : Nat) (vs : List Value) : Prop := ∀ i, i < vs.length → ∃ t : ByteArray, vs[i]? = some (.string t) ∧ t.size ≤ n

theorem AllS.nil {n : Nat} : AllS n [] := fun i hi => by simp at hi

theorem AllS.cons {n : Nat} {t : ByteArray} {r : List Value} (ht : t.size ≤ n) (h : AllS n r) : AllS n (.string t :: r) := fun i hi => by
  cases i with
  | zero => exact ⟨t, rfl, ht⟩
  | succ i => exact h i (by simpa using hi)

theorem d_of (w0 : World) (F : SH) (s : Value) (r : Nat) (p : Int) (hc : CodeAt w0 s) (hp0 : 0 ≤ p) (hp : p ≤ 100000000000000) (b : Nat) (n m : Nat) (vs : List Value) (hl : vs.length = n) (hn : 1 ≤ n ∧ n ≤ 1000) (hm : (b, Blk.cells 9 vs) ∈ F) (ha : AllS m vs) (w : World) (hst : St w0 ((r, rb s p) :: F) w) :
    Calls Tryd.prog 37 #[.pointer (some ⟨r, 0, none⟩), .slice (some ⟨b, 0, none⟩) n n] w (LentV w0 r (rb s) p 1 F (StrIn m)) := by
  refine enterl Tryd.func37 rfl Tryd.ntmps37 rfl hst ?_
  (repeat (first | intro (b : Nat) | refine go ?_))
  (refine L.lcall (bs := rb s) (h := by intro W hW; exact d_pick1 _ _ _ _ _ _ hc (by omega) (by omega) (by omega) W hW) (k := ?_); intro v p1 hR hp1 hp2; obtain ⟨i, rfl, hi0, hi1⟩ := hR)
  (repeat (first | intro (b : Nat) | refine go ?_))
  obtain ⟨t, ht1, ht2⟩ := ha i.toNat (by omega)
  (apply L.v; (· exact rfl); (· exact rfl); (· apply OV.loadi (T := 9) (vs := vs); (· exact rfl); (· exact List.Mem.tail _ hm); (· rw [Nat.zero_add, Nat.mul_one]; exact ht1)))
  (repeat (first | intro (b : Nat) | refine go ?_))
  (refine retl ?_)
  exact ⟨t, rfl, ht2⟩

theorem dtL_len (y m d f : Int) (h : Bool) : (dtL y m d f h).length ≤ 20 := by
  unfold dtL hy1
  cases h <;> (split <;> (try split) <;> simp [digL_length])

theorem dtS_str (y m d f : Int) (h : Bool) : ∃ (t : ByteArray) (ok : Bool), dtS y m d f h = .tuple #[.string t, .bool ok] ∧ t.size ≤ 20 := by
  unfold dtS
  split
  · exact ⟨_, _, rfl, by rw [strOfNums_size]; exact dtL_len y m d f h⟩
  · exact ⟨_, _, rfl, by decide⟩

theorem d_DateTextT (w0 : World) (F : SH) (s : Value) (r : Nat) (p : Int) (hc : CodeAt w0 s) (hp0 : 0 ≤ p) (hp : p ≤ 1000000000) (w : World) (hst : St w0 ((r, rb s p) :: F) w) :
    Calls Tryd.prog 25 #[.pointer (some ⟨r, 0, none⟩)] w (LentV w0 r (rb s) p 20 F (StrIn 100)) := by
  refine enterl Tryd.func25 rfl Tryd.ntmps25 rfl hst ?_
  (repeat (first | intro (b : Nat) | refine go ?_))
  (refine L.lcall (bs := rb s) (h := by intro W hW; exact d_good _ _ _ _ _ hc (by omega) (by omega) W hW) (k := ?_); intro v p1 hR hp1 hp2)
  obtain ⟨y, m, d, rfl⟩ := hR
  (repeat (first | intro (b : Nat) | refine go ?_))
  (refine L.lcall (bs := rb s) (h := by intro W hW; exact d_pick1 _ _ _ _ _ _ hc (by omega) (by omega) (by omega) W hW) (k := ?_); intro v p1 hR hp1 hp2; obtain ⟨f, rfl, hf0, hf1⟩ := hR)
  (repeat (first | intro (b : Nat) | refine go ?_))
  (refine L.lcall (bs := rb s) (h := by intro W hW; exact d_pick1 _ _ _ _ _ _ hc (by omega) (by omega) (by omega) W hW) (k := ?_); intro v p1 hR hp1 hp2; obtain ⟨g, rfl, hg0, hg1⟩ := hR)
  obtain ⟨t, ok, e1, ht⟩ := dtS_str y m d f (decide (g = 0))
  (repeat (first | intro (b : Nat) | refine go ?_))
  (refine L.call (h := by intro W hW; exact e1 ▸ b_DateText y m d f (decide (g = 0)) W hW.base) (k := ?_))
  (repeat (first | intro (b : Nat) | refine go ?_))
  (refine L.lcall (bs := rb s) (h := by intro W hW; exact d_pick1 _ _ _ _ _ _ hc (by omega) (by omega) (by omega) W hW) (k := ?_); intro v p1 hR hp1 hp2; obtain ⟨m, rfl, hm0, hm1⟩ := hR)
  (repeat' (first | intro (b : Nat) | refine go ?_ | (refine br ?_ ?_ <;> first | exact trivial | intro hq)))
  · (refine L.lcall (bs := rb s) (h := by intro W hW; exact d_of _ _ s r _ hc (by omega) (by omega) _ 4 10 _ rfl (by omega) (List.Mem.head _) (by repeat (first | exact AllS.nil | (refine AllS.cons (by decide) ?_))) W hW) (k := ?_); intro v p1 hR hp1 hp2)
    obtain ⟨u, rfl, hu⟩ := hR
    (repeat (first | intro (b : Nat) | refine go ?_))
    (refine retl ?_)
    exact ⟨_, rfl, by rw [ByteArray.size_append]; omega⟩
  · (refine L.lcall (bs := rb s) (h := by intro W hW; exact d_of _ _ s r _ hc (by omega) (by omega) _ 10 10 _ rfl (by omega) (List.Mem.head _) (by repeat (first | exact AllS.nil | (refine AllS.cons (by decide) ?_))) W hW) (k := ?_); intro v p1 hR hp1 hp2)
    obtain ⟨u, rfl, hu⟩ := hR
    (repeat (first | intro (b : Nat) | refine go ?_))
    (refine retl ?_)
    exact ⟨_, rfl, by omega⟩
  · (refine retl ?_)
    exact ⟨_, rfl, by omega⟩

theorem d_DateFromS (s0 : Value) (w : World) (hc0 : CodeAt w s0) (hb : D.Base w) : Calls Tryd.prog 9 #[s0] w (RetV w (StrIn 200)) := by
  refine enter Tryd.func9 rfl Tryd.ntmps9 rfl (by assumption) ?_
  (repeat (first | intro (b : Nat) | refine go ?_))
  (apply L.nw; (· exact rfl); (· exact rfl); (· apply ON.call; (· exact rfl); (intro W hW; exact d_open w s0 hc0 W hW.base)); intro v H hR)
  obtain ⟨r, s, rfl, rfl, hc⟩ := hR
  simp only [List.cons_append, List.nil_append]
  (repeat (first | intro (b : Nat) | refine go ?_))
  (refine L.lcall (bs := rb s) (h := by intro W hW; exact d_DateTextT _ _ _ _ _ hc (by omega) (by omega) W hW) (k := ?_); intro v p1 hR hp1 hp2)
  obtain ⟨t, rfl, ht⟩ := hR
  (repeat (first | intro (b : Nat) | refine go ?_))
  (refine retw ?_)
  exact ⟨t, rfl, by omega⟩

def SomeText (v : Value) : Prop := ∃ (y m d f : Int) (h : Bool), v = .tuple #[.agg #[.int .i64 y, .int .i64 m, .int .i64 d], .int .i64 f, .bool h]

theorem d_DateTextA (s0 : Value) (w : World) (hc0 : CodeAt w s0) (hb : D.Base w) : Calls Tryd.prog 5 #[s0] w (RetV w SomeText) := by
  refine enter Tryd.func5 rfl Tryd.ntmps5 rfl (by assumption) ?_
  (repeat (first | intro (b : Nat) | refine go ?_))
  (apply L.nw; (· exact rfl); (· exact rfl); (· apply ON.call; (· exact rfl); (intro W hW; exact d_open w s0 hc0 W hW.base)); intro v H hR)
  obtain ⟨r, s, rfl, rfl, hc⟩ := hR
  simp only [List.cons_append, List.nil_append]
  (repeat (first | intro (b : Nat) | refine go ?_))
  (refine L.lcall (bs := rb s) (h := by intro W hW; exact d_date _ _ _ _ _ hc (by omega) (by omega) W hW) (k := ?_); intro v p1 hR hp1 hp2)
  obtain ⟨y, m, d, rfl⟩ := hR
  (repeat (first | intro (b : Nat) | refine go ?_))
  ((repeat (refine C.seq ?_)); apply C.drawlw (rb s) 1 18 15 [some _, none, some _, none, some _, none, none, none, some _, none, none, none, none, some _, none])
  (repeat (first | intro (b : Nat) | refine gg ?_ | (refine G.lcall (h := by intro p F W hlo hhi hW; exact d_pick1 _ _ _ _ _ _ hc (by omega) (by omega) (by omega) W hW) (k := ?_); intro v hR; obtain ⟨m, rfl, hm0, hm1⟩ := hR)))
  intro p2 hq1 hq2
  (repeat (first | intro (b : Nat) | refine go ?_))
  (refine retw ?_)
  exact ⟨_, _, _, _, _, rfl⟩

end D
end Go.Proofs.YtdhlbaccbeahoaaDoor
