/- Walks: the reader of a code, and what is drawn from it. -/
import Derived.Test.YtboglbdhibcacaaGreatDoorVEI
import Derived.Test.YtboglbdhibcacaaGreatDoorVS3
import Derived.Test.YtboglbdhibcacaaGreatDoorVC2
import Derived.Test.YtboglbdhibcacaaGreatDoorVc
import Derived.Test.YtboglbdhibcacaaGreatDoorVk
namespace Go.Proofs.YtboglbdhibcacaaGreatDoor
set_option linter.unusedVariables false
set_option linter.unusedSimpArgs false
set_option maxRecDepth 100000
set_option maxHeartbeats 1000000
namespace D
open Go.RowKit

/-- A reader: its code and its place. -/
abbrev rb (s : Value) (p : Int) : Blk := .cells 44 [s, .int .i64 p]
/-- An int from 0 to n - 1, or 0. -/
def Pick (n : Int) (v : Value) : Prop := ∃ m : Int, v = .int .i64 m ∧ 0 ≤ m ∧ (m < n ∨ m = 0)

theorem d_pick (w0 : World) (F : SH) (s : Value) (r : Nat) (p n : Int) (hc : CodeAt w0 s) (hp0 : 0 ≤ p) (hp : p ≤ 1000000000000000) (w : World) (hst : St w0 ((r, rb s p) :: F) w) :
    Calls Tryz.prog 18 #[.pointer (some ⟨r, 0, none⟩), .int .i64 n] w (LentV w0 r (rb s) p 1 F (Pick n)) := by
  rcases hc with ⟨a, c, rfl⟩ | ⟨b, o, k, c, rfl, hkc, hk, hcell⟩
  · refine enterl Tryz.func18 rfl Tryz.ntmps18 rfl hst ?_
    (repeat' (first | intro (b : Nat) | refine go ?_ | (refine br ?_ ?_ <;> first | exact trivial | intro hq)))
    all_goals (refine retl ?_)
    all_goals exact ⟨0, rfl, by omega, by omega⟩
  · refine enterl Tryz.func18 rfl Tryz.ntmps18 rfl hst ?_
    (repeat' (first | intro (b : Nat) | refine go ?_ | (refine br ?_ ?_ <;> first | exact trivial | intro hq)))
    · (refine retl ?_)
      exact ⟨0, rfl, by omega, by omega⟩
    · (refine retl ?_)
      exact ⟨0, rfl, by omega, by omega⟩
    · obtain ⟨y, hy0, hy1, hy⟩ := hcell (p + 1 - 1).toNat (by omega)
      (apply L.v; (· exact rfl); (· exact rfl); (· apply OV.load0i; (· exact rfl); (· exact congrArg (o + ·) (Nat.mul_one _)); (· exact hy)))
      (repeat (first | intro (b : Nat) | refine go ?_))
      (refine retl ?_)
      have := Int.emod_nonneg y (show n ≠ 0 by omega)
      have := Int.emod_lt_of_pos y (show 0 < n by omega)
      exact ⟨_, rfl, by omega, by omega⟩
    · have hk1 := Int.emod_nonneg (p + 1 - 1) (show (k : Int) ≠ 0 by omega)
      have hk2 := Int.emod_lt_of_pos (p + 1 - 1) (show (0 : Int) < k by omega)
      have hk3 := Int.emod_nonneg ((p + 1 - 1) * 7 + 3) (show (k : Int) ≠ 0 by omega)
      have hk4 := Int.emod_lt_of_pos ((p + 1 - 1) * 7 + 3) (show (0 : Int) < k by omega)
      have hk5 := Int.ediv_nonneg (show 0 ≤ p + 1 - 1 by omega) (show (0 : Int) ≤ k by omega)
      have hk6 := Int.ediv_le_self (k : Int) (show 0 ≤ p + 1 - 1 by omega)
      obtain ⟨y, hy0, hy1, hy⟩ := hcell ((p + 1 - 1) % (k : Int)).toNat (by omega)
      obtain ⟨z, hz0, hz1, hz⟩ := hcell (((p + 1 - 1) * 7 + 3) % (k : Int)).toNat (by omega)
      ((repeat (refine C.seq ?_)); apply C.draww 46 [none, none, none, some _, none, none, none, none, some _, none, none, none, some _, none, none, none, none, none, some _, none, none, none, none, none, none, some _, none, none, none, some _, none, none, none, none, none, none, none, none, none, none, some _, none, none, none, none, none])
      (repeat (first | intro (b : Nat) | refine gg ?_))
      (apply G.va; (· exact rfl); (· exact rfl); (· apply OV.load0i; (· exact rfl); (· exact congrArg (o + ·) (Nat.mul_one _)); (· exact hy)))
      (repeat (first | intro (b : Nat) | refine gg ?_))
      (apply G.va; (· exact rfl); (· exact rfl); (· apply OV.load0i; (· exact rfl); (· exact congrArg (o + ·) (Nat.mul_one _)); (· exact hz)))
      (repeat (first | intro (b : Nat) | refine gg ?_))
      (repeat (first | intro (b : Nat) | refine go ?_))
      obtain ⟨x, hx, hx0, hx1⟩ := bits_xor_bd (m := y * 131 + z * 1117 + (p + 1 - 1) * 29 + (p + 1 - 1) / k * 53) (n := (y * 131 + z * 1117 + (p + 1 - 1) * 29 + (p + 1 - 1) / k * 53) / 64) (by omega) (by omega) (by omega) (by omega)
      (apply L.p; (· exact rfl); (· exact rfl); (· apply PV.xor; (· exact rfl); (· exact rfl); (· exact hx)))
      (repeat (first | intro (b : Nat) | refine go ?_))
      (refine retl ?_)
      have := Int.emod_nonneg x (show n ≠ 0 by omega)
      have := Int.emod_lt_of_pos x (show 0 < n by omega)
      exact ⟨_, rfl, by omega, by omega⟩

theorem d_pick1 (w0 : World) (F : SH) (s : Value) (r : Nat) (p n : Int) (hc : CodeAt w0 s) (hp0 : 0 ≤ p) (hp : p ≤ 1000000000000000) (hn : 1 ≤ n) (w : World) (hst : St w0 ((r, rb s p) :: F) w) :
    Calls Tryz.prog 18 #[.pointer (some ⟨r, 0, none⟩), .int .i64 n] w (LentV w0 r (rb s) p 1 F (fun v => ∃ m : Int, v = .int .i64 m ∧ 0 ≤ m ∧ m < n)) := by
  refine (d_pick w0 F s r p n hc hp0 hp w hst).mono fun e w' ⟨v, p', h1, ⟨m, h2, h3, h4⟩, h5⟩ => ⟨v, p', h1, ⟨m, h2, h3, by omega⟩, h5⟩

theorem d_year (w0 : World) (F : SH) (s : Value) (r : Nat) (p : Int) (hc : CodeAt w0 s) (hp0 : 0 ≤ p) (hp : p ≤ 100000000000000) (w : World) (hst : St w0 ((r, rb s p) :: F) w) :
    Calls Tryz.prog 147 #[.pointer (some ⟨r, 0, none⟩)] w (LentV w0 r (rb s) p 2 F (IntIn (-100000000) 100000000)) := by
  refine enterl Tryz.func147 rfl Tryz.ntmps147 rfl hst ?_
  (repeat' (first | intro (b : Nat) | refine go ?_ | (refine br ?_ ?_ <;> first | exact trivial | intro hq) | (refine L.lcall (bs := rb s) (h := by intro W hW; exact d_pick1 _ _ _ _ _ _ hc (by omega) (by omega) (by omega) W hW) (k := ?_); intro v p1 hR hp1 hp2; obtain ⟨m, rfl, hm0, hm1⟩ := hR) | (apply L.li (lo := -100000000) (hi := 100000000); exact rfl; exact rfl; exact rfl; (· (repeat (first | exact List.Mem.head _ | apply List.Mem.tail))); (· simp <;> omega); (· (repeat (first | exact AllI.nil | (apply AllI.cons; omega; omega)))); intro m hm0 hm1)))
  all_goals (refine retl ?_)
  all_goals exact ⟨_, rfl, by omega, by omega⟩

/-- A reader begins. -/
theorem CodeAt.keep {w w' : World} {s : Value} (h : CodeAt w s) (hb : Below w.heap.size w w') : CodeAt w' s := by
  rcases h with h | ⟨b, o, n, c, h1, h2, h3, h4⟩
  · exact .inl h
  · refine .inr ⟨b, o, n, c, h1, h2, h3, fun j hj => ?_⟩
    obtain ⟨k, k1, k2, k3⟩ := h4 j hj
    exact ⟨k, k1, k2, (hb.cell (World.block_lt_of_cell? _ _ k3)).trans k3⟩

def OpenR (w0 : World) (v : Value) (H : SH) : Prop := ∃ (r : Nat) (s : Value), v = .pointer (some ⟨r, 0, none⟩) ∧ H = [(r, rb s 0)] ∧ CodeAt w0 s

theorem d_open (w0 : World) (s : Value) (hc : CodeAt w0 s) (w : World) (hb : D.Base w) : Calls Tryz.prog 17 #[s] w (Ret w (OpenR w0)) := by
  rcases hc with ⟨a, c, rfl⟩ | ⟨b, o, n, c, rfl, h1, h2, h3⟩
  · refine enter Tryz.func17 rfl Tryz.ntmps17 rfl (by assumption) ?_
    (repeat (first | intro (b : Nat) | refine go ?_))
    (apply X.retr [(b, rb (.slice a 0 c) 0)]; (· exact rfl); (· (repeat (first | exact RVs.nil | (apply RVs.cons; (· first | exact RV.tmp rfl | (apply RV.cellk; exact rfl; (· (repeat (first | exact List.Mem.head _ | apply List.Mem.tail))); (· (repeat (first | exact Rd.nil | apply Rd.take | apply Rd.skip)))) | (apply RV.cell1; exact rfl; (· (repeat (first | exact List.Mem.head _ | apply List.Mem.tail))); (· (repeat (first | exact Rd.nil | apply Rd.take | apply Rd.skip))))))))); (· (repeat (first | exact SubH.nil | (apply SubH.cons; (· first | with_reducible rfl | (simp only [List.cons.injEq, Value.int.injEq, and_true, true_and] <;> omega) | rfl)) | apply SubH.skip | exact SubH.refl))))
    exact ⟨b, .slice a 0 c, rfl, rfl, .inl ⟨_, _, rfl⟩⟩
  · refine enter Tryz.func17 rfl Tryz.ntmps17 rfl (by assumption) ?_
    (repeat' (first | intro (b : Nat) | refine go ?_ | (refine br ?_ ?_ <;> first | exact trivial | intro hq)))
    · (apply L.p; (· exact rfl); (· exact rfl); (· apply PV.slh; (· exact rfl); (· exact rfl); (· omega); (· omega)))
      (repeat (first | intro (b : Nat) | refine go ?_))
      revert b; intro b1
      (apply X.retr [(b1, rb (.slice (some ⟨b, o, none⟩) 2000 c) 0)]; (· exact rfl); (· (repeat (first | exact RVs.nil | (apply RVs.cons; (· first | exact RV.tmp rfl | (apply RV.cellk; exact rfl; (· (repeat (first | exact List.Mem.head _ | apply List.Mem.tail))); (· (repeat (first | exact Rd.nil | apply Rd.take | apply Rd.skip)))) | (apply RV.cell1; exact rfl; (· (repeat (first | exact List.Mem.head _ | apply List.Mem.tail))); (· (repeat (first | exact Rd.nil | apply Rd.take | apply Rd.skip))))))))); (· (repeat (first | exact SubH.nil | (apply SubH.cons; (· first | with_reducible rfl | (simp only [List.cons.injEq, Value.int.injEq, and_true, true_and] <;> omega) | rfl)) | apply SubH.skip | exact SubH.refl))))
      exact ⟨b1, _, rfl, rfl, .inr ⟨b, o, 2000, c, rfl, by omega, by omega, fun j hj => h3 j (by omega)⟩⟩
    · revert b; intro b1
      (apply X.retr [(b1, rb (.slice (some ⟨b, o, none⟩) n c) 0)]; (· exact rfl); (· (repeat (first | exact RVs.nil | (apply RVs.cons; (· first | exact RV.tmp rfl | (apply RV.cellk; exact rfl; (· (repeat (first | exact List.Mem.head _ | apply List.Mem.tail))); (· (repeat (first | exact Rd.nil | apply Rd.take | apply Rd.skip)))) | (apply RV.cell1; exact rfl; (· (repeat (first | exact List.Mem.head _ | apply List.Mem.tail))); (· (repeat (first | exact Rd.nil | apply Rd.take | apply Rd.skip))))))))); (· (repeat (first | exact SubH.nil | (apply SubH.cons; (· first | with_reducible rfl | (simp only [List.cons.injEq, Value.int.injEq, and_true, true_and] <;> omega) | rfl)) | apply SubH.skip | exact SubH.refl))))
      exact ⟨b1, _, rfl, rfl, .inr ⟨b, o, n, c, rfl, h1, h2, h3⟩⟩

/-- Some date. -/
def SomeDate (v : Value) : Prop := ∃ y m d : Int, v = .agg #[.int .i64 y, .int .i64 m, .int .i64 d]

theorem d_date (w0 : World) (F : SH) (s : Value) (r : Nat) (p : Int) (hc : CodeAt w0 s) (hp0 : 0 ≤ p) (hp : p ≤ 10000000000000) (w : World) (hst : St w0 ((r, rb s p) :: F) w) :
    Calls Tryz.prog 89 #[.pointer (some ⟨r, 0, none⟩)] w (LentV w0 r (rb s) p 9 F SomeDate) := by
  refine enterl Tryz.func89 rfl Tryz.ntmps89 rfl hst ?_
  (repeat (first | intro (b : Nat) | refine go ?_))
  (refine L.lcall (bs := rb s) (h := by intro W hW; exact d_year _ _ _ _ _ hc (by omega) (by omega) W hW) (k := ?_); intro v p1 hR hp1 hp2)
  obtain ⟨y, rfl, hy0, hy1⟩ := hR
  (repeat' (first | intro (b : Nat) | refine go ?_ | (refine br ?_ ?_ <;> first | exact trivial | intro hq) | (refine L.lcall (bs := rb s) (h := by intro W hW; exact d_pick1 _ _ _ _ _ _ hc (by omega) (by omega) (by omega) W hW) (k := ?_); intro v p1 hR hp1 hp2; obtain ⟨m, rfl, hm0, hm1⟩ := hR) | (apply L.li (lo := -100000000) (hi := 100000000); exact rfl; exact rfl; exact rfl; (· (repeat (first | exact List.Mem.head _ | apply List.Mem.tail))); (· simp <;> omega); (· (repeat (first | exact AllI.nil | (apply AllI.cons; omega; omega)))); intro m hm0 hm1)))
  all_goals (refine retl ?_)
  all_goals exact ⟨_, _, _, rfl⟩

end D
end Go.Proofs.YtboglbdhibcacaaGreatDoor

namespace Go.Proofs.YtboglbdhibcacaaGreatDoor
set_option linter.unusedVariables false
set_option linter.unusedSimpArgs false
set_option maxRecDepth 100000
set_option maxHeartbeats 1000000
namespace D
open Go.RowKit

theorem d_good (w0 : World) (F : SH) (s : Value) (r : Nat) (p : Int) (hc : CodeAt w0 s) (hp0 : 0 ≤ p) (hp : p ≤ 1000000000000) (w : World) (hst : St w0 ((r, rb s p) :: F) w) :
    Calls Tryz.prog 51 #[.pointer (some ⟨r, 0, none⟩)] w (LentV w0 r (rb s) p 9 F SomeDate) := by
  refine enterl Tryz.func51 rfl Tryz.ntmps51 rfl hst ?_
  (repeat (first | intro (b : Nat) | refine go ?_))
  (refine L.lcall (bs := rb s) (h := by intro W hW; exact d_date _ _ _ _ _ hc (by omega) (by omega) W hW) (k := ?_); intro v p1 hR hp1 hp2)
  obtain ⟨y, m, d, rfl⟩ := hR
  (repeat (first | intro (b : Nat) | refine go ?_))
  (refine L.call (h := by intro W hW; exact b_DateValid _ _ _ W hW.base) (k := ?_))
  (repeat' (first | intro (b : Nat) | refine go ?_ | (refine br ?_ ?_ <;> first | exact trivial | intro hq)))
  all_goals (refine retl ?_)
  all_goals exact ⟨_, _, _, rfl⟩

end D
end Go.Proofs.YtboglbdhibcacaaGreatDoor

namespace Go.Proofs.YtboglbdhibcacaaGreatDoor
set_option linter.unusedVariables false
set_option linter.unusedSimpArgs false
set_option maxRecDepth 100000
set_option maxHeartbeats 1000000
namespace D
open Go.RowKit

/-- A short string. -/
def StrIn (n : Nat) (v : Value) : Prop := ∃ t : ByteArray, v = .string t ∧ t.size ≤ n

/-- Short strings. -/
def AllS (n : Nat) (vs : List Value) : Prop := ∀ i, i < vs.length → ∃ t : ByteArray, vs[i]? = some (.string t) ∧ t.size ≤ n

theorem AllS.nil {n : Nat} : AllS n [] := fun i hi => by simp at hi

theorem AllS.cons {n : Nat} {t : ByteArray} {r : List Value} (ht : t.size ≤ n) (h : AllS n r) : AllS n (.string t :: r) := fun i hi => by
  cases i with
  | zero => exact ⟨t, rfl, ht⟩
  | succ i => exact h i (by simpa using hi)

theorem d_of (w0 : World) (F : SH) (s : Value) (r : Nat) (p : Int) (hc : CodeAt w0 s) (hp0 : 0 ≤ p) (hp : p ≤ 100000000000000) (b : Nat) (n m : Nat) (vs : List Value) (hl : vs.length = n) (hn : 1 ≤ n ∧ n ≤ 1000) (hm : (b, Blk.cells 9 vs) ∈ F) (ha : AllS m vs) (w : World) (hst : St w0 ((r, rb s p) :: F) w) :
    Calls Tryz.prog 30 #[.pointer (some ⟨r, 0, none⟩), .slice (some ⟨b, 0, none⟩) n n] w (LentV w0 r (rb s) p 1 F (StrIn m)) := by
  refine enterl Tryz.func30 rfl Tryz.ntmps30 rfl hst ?_
  (repeat (first | intro (b : Nat) | refine go ?_))
  (refine L.lcall (bs := rb s) (h := by intro W hW; exact d_pick1 _ _ _ _ _ _ hc (by omega) (by omega) (by omega) W hW) (k := ?_); intro v p1 hR hp1 hp2; obtain ⟨i, rfl, hi0, hi1⟩ := hR)
  (repeat (first | intro (b : Nat) | refine go ?_))
  obtain ⟨t, ht1, ht2⟩ := ha i.toNat (by omega)
  (apply L.v; (· exact rfl); (· exact rfl); (· apply OV.loadi (T := 9) (vs := vs); (· exact rfl); (· exact List.Mem.tail _ hm); (· rw [Nat.zero_add, Nat.mul_one]; exact ht1)))
  (repeat (first | intro (b : Nat) | refine go ?_))
  (refine retl ?_)
  exact ⟨t, rfl, ht2⟩

theorem dtL_len (y m d f : Int) (h : Bool) : (dtL y m d f h).length ≤ 20 := by
  unfold dtL hy1
  cases h <;> (split <;> (try split) <;> simp [digL_length])

theorem dtS_str (y m d f : Int) (h : Bool) : ∃ (t : ByteArray) (ok : Bool), dtS y m d f h = .tuple #[.string t, .bool ok] ∧ t.size ≤ 20 := by
  unfold dtS
  split
  · exact ⟨_, _, rfl, by rw [strOfNums_size]; exact dtL_len y m d f h⟩
  · exact ⟨_, _, rfl, by decide⟩

theorem d_DateTextT (w0 : World) (F : SH) (s : Value) (r : Nat) (p : Int) (hc : CodeAt w0 s) (hp0 : 0 ≤ p) (hp : p ≤ 1000000000) (w : World) (hst : St w0 ((r, rb s p) :: F) w) :
    Calls Tryz.prog 28 #[.pointer (some ⟨r, 0, none⟩)] w (LentV w0 r (rb s) p 20 F (StrIn 100)) := by
  refine enterl Tryz.func28 rfl Tryz.ntmps28 rfl hst ?_
  (repeat (first | intro (b : Nat) | refine go ?_))
  (refine L.lcall (bs := rb s) (h := by intro W hW; exact d_good _ _ _ _ _ hc (by omega) (by omega) W hW) (k := ?_); intro v p1 hR hp1 hp2)
  obtain ⟨y, m, d, rfl⟩ := hR
  (repeat (first | intro (b : Nat) | refine go ?_))
  (refine L.lcall (bs := rb s) (h := by intro W hW; exact d_pick1 _ _ _ _ _ _ hc (by omega) (by omega) (by omega) W hW) (k := ?_); intro v p1 hR hp1 hp2; obtain ⟨f, rfl, hf0, hf1⟩ := hR)
  (repeat (first | intro (b : Nat) | refine go ?_))
  (refine L.lcall (bs := rb s) (h := by intro W hW; exact d_pick1 _ _ _ _ _ _ hc (by omega) (by omega) (by omega) W hW) (k := ?_); intro v p1 hR hp1 hp2; obtain ⟨g, rfl, hg0, hg1⟩ := hR)
  obtain ⟨t, ok, e1, ht⟩ := dtS_str y m d f (decide (g = 0))
  (repeat (first | intro (b : Nat) | refine go ?_))
  (refine L.call (h := by intro W hW; exact e1 ▸ b_DateText y m d f (decide (g = 0)) W hW.base) (k := ?_))
  (repeat (first | intro (b : Nat) | refine go ?_))
  (refine L.lcall (bs := rb s) (h := by intro W hW; exact d_pick1 _ _ _ _ _ _ hc (by omega) (by omega) (by omega) W hW) (k := ?_); intro v p1 hR hp1 hp2; obtain ⟨m, rfl, hm0, hm1⟩ := hR)
  (repeat' (first | intro (b : Nat) | refine go ?_ | (refine br ?_ ?_ <;> first | exact trivial | intro hq)))
  · (refine L.lcall (bs := rb s) (h := by intro W hW; exact d_of _ _ s r _ hc (by omega) (by omega) _ 4 10 _ rfl (by omega) (List.Mem.head _) (by repeat (first | exact AllS.nil | (refine AllS.cons (by decide) ?_))) W hW) (k := ?_); intro v p1 hR hp1 hp2)
    obtain ⟨u, rfl, hu⟩ := hR
    (repeat (first | intro (b : Nat) | refine go ?_))
    (refine retl ?_)
    exact ⟨_, rfl, by rw [ByteArray.size_append]; omega⟩
  · (refine L.lcall (bs := rb s) (h := by intro W hW; exact d_of _ _ s r _ hc (by omega) (by omega) _ 10 10 _ rfl (by omega) (List.Mem.head _) (by repeat (first | exact AllS.nil | (refine AllS.cons (by decide) ?_))) W hW) (k := ?_); intro v p1 hR hp1 hp2)
    obtain ⟨u, rfl, hu⟩ := hR
    (repeat (first | intro (b : Nat) | refine go ?_))
    (refine retl ?_)
    exact ⟨_, rfl, by omega⟩
  · (refine retl ?_)
    exact ⟨_, rfl, by omega⟩

end D
end Go.Proofs.YtboglbdhibcacaaGreatDoor

namespace Go.Proofs.YtboglbdhibcacaaGreatDoor
set_option linter.unusedVariables false
set_option linter.unusedSimpArgs false
set_option maxRecDepth 100000
set_option maxHeartbeats 1000000
namespace D
open Go.RowKit
attribute [local irreducible] Calls

def SomeClock (v : Value) : Prop := ∃ h i s k : Int, v = .agg #[.int .i64 h, .int .i64 i, .int .i64 s, .int .i64 k]

def SomeStamp (v : Value) : Prop := ∃ y m d h i s k o : Int, v = .agg #[.int .i64 y, .int .i64 m, .int .i64 d, .int .i64 h, .int .i64 i, .int .i64 s, .int .i64 k, .int .i64 o]

theorem d_clock (w0 : World) (F : SH) (s : Value) (r : Nat) (p : Int) (hc : CodeAt w0 s) (hp0 : 0 ≤ p) (hp : p ≤ 100000000000) (w : World) (hst : St w0 ((r, rb s p) :: F) w) :
    Calls Tryz.prog 149 #[.pointer (some ⟨r, 0, none⟩)] w (LentV w0 r (rb s) p 20 F SomeClock) := by
  refine enterl Tryz.func149 rfl Tryz.ntmps149 rfl hst ?_
  (repeat' (first | intro (b : Nat) | refine go ?_ | (refine br ?_ ?_ <;> first | exact trivial | intro hq) | (refine L.lcall (bs := rb s) (h := by intro W hW; exact d_pick1 _ _ _ _ _ _ hc (by omega) (by omega) (by omega) W hW) (k := ?_); intro v p1 hR hp1 hp2; obtain ⟨m, rfl, hm0, hm1⟩ := hR) | (apply L.li (lo := -100000000) (hi := 100000000); exact rfl; exact rfl; exact rfl; (· (repeat (first | exact List.Mem.head _ | apply List.Mem.tail))); (· simp <;> omega); (· (repeat (first | exact AllI.nil | (apply AllI.cons; omega; omega)))); intro m hm0 hm1)))
  all_goals (refine retl ?_)
  all_goals exact ⟨_, _, _, _, rfl⟩

theorem d_offset (w0 : World) (F : SH) (s : Value) (r : Nat) (p : Int) (hc : CodeAt w0 s) (hp0 : 0 ≤ p) (hp : p ≤ 100000000000) (w : World) (hst : St w0 ((r, rb s p) :: F) w) :
    Calls Tryz.prog 150 #[.pointer (some ⟨r, 0, none⟩)] w (LentV w0 r (rb s) p 4 F (IntIn (-100000000) 100000000)) := by
  refine enterl Tryz.func150 rfl Tryz.ntmps150 rfl hst ?_
  (repeat' (first | intro (b : Nat) | refine go ?_ | (refine br ?_ ?_ <;> first | exact trivial | intro hq) | (refine L.lcall (bs := rb s) (h := by intro W hW; exact d_pick1 _ _ _ _ _ _ hc (by omega) (by omega) (by omega) W hW) (k := ?_); intro v p1 hR hp1 hp2; obtain ⟨m, rfl, hm0, hm1⟩ := hR) | (apply L.li (lo := -100000000) (hi := 100000000); exact rfl; exact rfl; exact rfl; (· (repeat (first | exact List.Mem.head _ | apply List.Mem.tail))); (· simp <;> omega); (· (repeat (first | exact AllI.nil | (apply AllI.cons; omega; omega)))); intro m hm0 hm1)))
  all_goals (refine retl ?_)
  all_goals exact ⟨_, rfl, by omega, by omega⟩

theorem d_stamp (w0 : World) (F : SH) (s : Value) (r : Nat) (p : Int) (hc : CodeAt w0 s) (hp0 : 0 ≤ p) (hp : p ≤ 10000000000) (w : World) (hst : St w0 ((r, rb s p) :: F) w) :
    Calls Tryz.prog 92 #[.pointer (some ⟨r, 0, none⟩)] w (LentV w0 r (rb s) p 40 F SomeStamp) := by
  refine enterl Tryz.func92 rfl Tryz.ntmps92 rfl hst ?_
  (repeat (first | intro (b : Nat) | refine go ?_))
  (refine L.lcall (bs := rb s) (h := by intro W hW; exact d_date _ _ _ _ _ hc (by omega) (by omega) W hW) (k := ?_); intro v p1 hR hp1 hp2)
  obtain ⟨y, m, d, rfl⟩ := hR
  (repeat (first | intro (b : Nat) | refine go ?_))
  (refine L.lcall (bs := rb s) (h := by intro W hW; exact d_clock _ _ _ _ _ hc (by omega) (by omega) W hW) (k := ?_); intro v p1 hR hp1 hp2)
  obtain ⟨h, i, s', k, rfl⟩ := hR
  (repeat (first | intro (b : Nat) | refine go ?_))
  (refine L.lcall (bs := rb s) (h := by intro W hW; exact d_offset _ _ _ _ _ hc (by omega) (by omega) W hW) (k := ?_); intro v p1 hR hp1 hp2)
  obtain ⟨o, rfl, ho1, ho2⟩ := hR
  (repeat (first | intro (b : Nat) | refine go ?_))
  (refine retl ?_)
  exact ⟨_, _, _, _, _, _, _, _, rfl⟩

end D
end Go.Proofs.YtboglbdhibcacaaGreatDoor

namespace Go.Proofs.YtboglbdhibcacaaGreatDoor
set_option linter.unusedVariables false
set_option linter.unusedSimpArgs false
set_option maxRecDepth 100000
set_option maxHeartbeats 1000000
namespace D
open Go.RowKit
attribute [local irreducible] Calls

/-- A date that exists. -/
def GoodDate (v : Value) : Prop := ∃ y m d : Int, v = .agg #[.int .i64 y, .int .i64 m, .int .i64 d] ∧ dval y m d = true

theorem d_goodV (w0 : World) (F : SH) (s : Value) (r : Nat) (p : Int) (hc : CodeAt w0 s) (hp0 : 0 ≤ p) (hp : p ≤ 1000000000000) (w : World) (hst : St w0 ((r, rb s p) :: F) w) :
    Calls Tryz.prog 51 #[.pointer (some ⟨r, 0, none⟩)] w (LentV w0 r (rb s) p 9 F GoodDate) := by
  refine enterl Tryz.func51 rfl Tryz.ntmps51 rfl hst ?_
  (repeat (first | intro (b : Nat) | refine go ?_))
  (refine L.lcall (bs := rb s) (h := by intro W hW; exact d_date _ _ _ _ _ hc (by omega) (by omega) W hW) (k := ?_); intro v p1 hR hp1 hp2)
  obtain ⟨y, m, d, rfl⟩ := hR
  (repeat (first | intro (b : Nat) | refine go ?_))
  (refine L.call (h := by intro W hW; exact b_DateValid _ _ _ W hW.base) (k := ?_))
  (repeat' (first | intro (b : Nat) | refine go ?_ | (refine br ?_ ?_ <;> first | exact trivial | intro hq)))
  all_goals (refine retl ?_)
  · exact ⟨_, _, _, rfl, hq⟩
  · exact ⟨_, _, _, rfl, by decide⟩

/-- A stamp that exists. -/
def GoodStamp (v : Value) : Prop := ∃ y m d h i s k o : Int, v = .agg #[.int .i64 y, .int .i64 m, .int .i64 d, .int .i64 h, .int .i64 i, .int .i64 s, .int .i64 k, .int .i64 o] ∧ sval y m d h i s k o = true

theorem d_sound (w0 : World) (F : SH) (s : Value) (r : Nat) (p : Int) (hc : CodeAt w0 s) (hp0 : 0 ≤ p) (hp : p ≤ 1000000000) (w : World) (hst : St w0 ((r, rb s p) :: F) w) :
    Calls Tryz.prog 53 #[.pointer (some ⟨r, 0, none⟩)] w (LentV w0 r (rb s) p 60 F GoodStamp) := by
  refine enterl Tryz.func53 rfl Tryz.ntmps53 rfl hst ?_
  (repeat (first | intro (b : Nat) | refine go ?_))
  (refine L.lcall (bs := rb s) (h := by intro W hW; exact d_stamp _ _ _ _ _ hc (by omega) (by omega) W hW) (k := ?_); intro v p1 hR hp1 hp2)
  obtain ⟨y, m, d, h, i, s', k, o, rfl⟩ := hR
  (repeat (first | intro (b : Nat) | refine go ?_))
  (refine L.call (h := by intro W hW; exact b_StampValid _ _ _ _ _ _ _ _ W hW.base) (k := ?_))
  (repeat' (first | intro (b : Nat) | refine go ?_ | (refine br ?_ ?_ <;> first | exact trivial | intro hq)))
  · (refine retl ?_)
    exact ⟨_, _, _, _, _, _, _, _, rfl, hq⟩
  · (refine L.lcall (bs := rb s) (h := by intro W hW; exact d_goodV _ _ _ _ _ hc (by omega) (by omega) W hW) (k := ?_); intro v p1 hR hp1 hp2)
    obtain ⟨y, m, d, rfl, hd⟩ := hR
    (repeat (first | intro (b : Nat) | refine go ?_))
    (refine L.lcall (bs := rb s) (h := by intro W hW; exact d_pick1 _ _ _ _ _ _ hc (by omega) (by omega) (by omega) W hW) (k := ?_); intro v p1 hR hp1 hp2; obtain ⟨m, rfl, hm0, hm1⟩ := hR)
    (repeat (first | intro (b : Nat) | refine go ?_))
    (refine retl ?_)
    exact ⟨_, _, _, _, _, _, _, _, rfl, by simp [sval, cval, inR, hd]; omega⟩

end D
end Go.Proofs.YtboglbdhibcacaaGreatDoor

namespace Go.Proofs.YtboglbdhibcacaaGreatDoor
set_option linter.unusedVariables false
set_option linter.unusedSimpArgs false
set_option maxRecDepth 100000
set_option maxHeartbeats 1000000
namespace D
open Go.RowKit

section
variable {P : Program} {e : Env} {w0 : World} {hs : SH} {d : Option Tmp} {ty : TypeId} {pos : String} {af : Array Edge} {g : Option (Nat × Bool)}
variable {n : Nat} {ops : List Oper} {l : List Oper} {Rs : List Sp} {K : Env → SH → Prop} {i : Nat} {acc : List (Nat × SH)} {own : SH}
/-- A call that a block is lent to, and that looks at memory that the region itself has made. -/
theorem G.lcalld (X : SH) {r : Nat} {bs : Int → Blk} {c : Nat} {lo hi : Int} {f : FuncId} {xs : List Operand} {ts : Array TypeId} {vs : List Value} {R : Value → Prop} [j : Ent P f]
    (hX : sel ops i acc = X := by kernel_rfl) (hw : wantE ops e ⟨d, .call ⟨.value (.func f), xs.toArray, ts⟩, ty, pos, af, g⟩ = some true := by exact rfl) (hd : dstOk n d = true := by exact rfl) (hv : evs e xs = some vs := by exact rfl)
    (h : ∀ p F w, lo ≤ p → p + c ≤ hi → St w0 ((r, bs p) :: ((X ++ hs) ++ F)) w → Calls P f vs.toArray w (LentV w0 r bs p c ((X ++ hs) ++ F) R))
    (k : ∀ v, R v → G P n w0 ⟨fun p => [(r, bs p)], fun _ => c, lo, hi⟩ ops hs K (i + 1) l Rs (consE d v e) acc own) :
    G P n w0 ⟨fun p => [(r, bs p)], fun _ => c, lo, hi⟩ ops hs K i (⟨d, .call ⟨.value (.func f), xs.toArray, ts⟩, ty, pos, af, g⟩ :: l) (some (JustV R) :: Rs) e acc own :=
  .mk ⟨hd, .inl ⟨hw, by
    rw [hX]
    exact .mk fun ρ w p F hf h1 h2 hst => by
      unfold Does
      rw [run_call hf rfl hv]
      simpa using Calls.mono (h p F w h1 h2 (by simpa using hst)) fun e' w' ⟨v, p', he, hR, h3, h4, hn⟩ => ⟨v, he, [], ⟨rfl, hR⟩, p', h3, h4, by simpa using hn⟩⟩, fun v H ⟨hH, hR⟩ => by subst hH; exact (k v hR).ok⟩
end

theorem stL_size {y m d h i s k o : Int} : 19 ≤ (strOfNums (stL y m d h i s k o)).size ∧ (strOfNums (stL y m d h i s k o)).size ≤ 40 := by
  have l1 : (dtL y m d 0 true).length = 10 := by simp [dtL, hy1, digL_length]
  have l2 := clL_len h i s k
  have l3 := frL_len k
  have l4 := ofL_len o
  rw [strOfNums_size]
  simp only [stL, List.length_append, List.length_cons, List.length_nil]
  omega

theorem d_StampTextT (w0 : World) (F : SH) (s : Value) (r : Nat) (p : Int) (hc : CodeAt w0 s) (hp0 : 0 ≤ p) (hp : p ≤ 1000000000) (w : World) (hst : St w0 ((r, rb s p) :: F) w) :
    Calls Tryz.prog 29 #[.pointer (some ⟨r, 0, none⟩)] w (LentV w0 r (rb s) p 80 F (StrIn 300)) := by
  refine enterl Tryz.func29 rfl Tryz.ntmps29 rfl hst ?_
  (repeat (first | intro (b : Nat) | refine go ?_))
  (refine L.lcall (bs := rb s) (h := by intro W hW; exact d_sound _ _ _ _ _ hc (by omega) (by omega) W hW) (k := ?_); intro v p1 hR hp1 hp2)
  obtain ⟨y, m, d, h, i, s', k, o, rfl, hv⟩ := hR
  have hz := stL_size (y := y) (m := m) (d := d) (h := h) (i := i) (s := s') (k := k) (o := o)
  have hT := b_l13Text y m d h i s' k o hv
  generalize strOfNums (stL y m d h i s' k o) = t at *
  have z1 : (t.extract 0 (10 : Int).toNat).size ≤ 40 := by rw [ByteArray.size_extract]; omega
  have z2 : (t.extract (11 : Int).toNat t.size).size ≤ 40 := by rw [ByteArray.size_extract]; omega
  (repeat (first | intro (b : Nat) | refine go ?_))
  (refine L.call (h := by intro W hW; exact hT W hW.base) (k := ?_))
  (repeat (first | intro (b : Nat) | refine go ?_))
  (refine L.lcall (bs := rb s) (h := by intro W hW; exact d_pick1 _ _ _ _ _ _ hc (by omega) (by omega) (by omega) W hW) (k := ?_); intro v p1 hR hp1 hp2; obtain ⟨m, rfl, hm0, hm1⟩ := hR)
  (repeat' (first | intro (b : Nat) | refine go ?_ | (refine br ?_ ?_ <;> first | exact trivial | intro hq)))
  · ((repeat (refine C.seq ?_)); apply C.drawlw (rb s) 1 10 10 [none, none, none, some _, some _, none, none, none, none, none])
    (repeat (first | intro (b : Nat) | refine gg ?_))
    rename_i bq
    (refine G.lcalld [(b, .cells 9 [.string ⟨#[116]⟩, .string ⟨#[32]⟩, .string ⟨#[95]⟩, .string ⟨#[]⟩])] (h := by intro p F W hlo hhi hW; exact d_of _ _ s r _ hc (by omega) (by omega) b 4 60 _ rfl (by omega) (List.mem_append_left _ (List.mem_append_left _ (List.Mem.head _))) (by repeat (first | exact AllS.nil | (refine AllS.cons (by decide) ?_))) W hW) (k := ?_); intro v hR)
    obtain ⟨u, rfl, hu⟩ := hR
    (repeat (first | intro (b : Nat) | refine gg ?_))
    intro p2 hq1 hq2
    (repeat (first | intro (b : Nat) | refine go ?_))
    (refine retl ?_)
    exact ⟨_, rfl, by simp only [ByteArray.size_append, ByteArray.size_extract]; omega⟩
  · (refine L.lcall (bs := rb s) (h := by intro W hW; exact d_of _ _ s r _ hc (by omega) (by omega) _ 3 60 _ rfl (by omega) (List.Mem.head _) (by repeat (first | exact AllS.nil | (refine AllS.cons (by decide) ?_))) W hW) (k := ?_); intro v p1 hR hp1 hp2)
    obtain ⟨u, rfl, hu⟩ := hR
    (repeat (first | intro (b : Nat) | refine go ?_))
    (refine retl ?_)
    exact ⟨_, rfl, by simp only [ByteArray.size_append]; omega⟩
  · (refine L.lcall (bs := rb s) (h := by intro W hW; exact d_of _ _ s r _ hc (by omega) (by omega) _ 8 60 _ rfl (by omega) (List.Mem.head _) (by repeat (first | exact AllS.nil | (refine AllS.cons (by decide) ?_))) W hW) (k := ?_); intro v p1 hR hp1 hp2)
    obtain ⟨u, rfl, hu⟩ := hR
    (repeat (first | intro (b : Nat) | refine go ?_))
    (refine retl ?_)
    exact ⟨_, rfl, by omega⟩
  · (refine retl ?_)
    exact ⟨_, rfl, by omega⟩

end D
end Go.Proofs.YtboglbdhibcacaaGreatDoor
