/- Walks: the reader of a code, and what is drawn from it. -/
import Derived.Test.YtdafjaimljhcaaaGreatDoorEI
namespace Go.Proofs.YtdafjaimljhcaaaGreatDoor
set_option linter.unusedVariables false
set_option linter.unusedSimpArgs false
set_option maxRecDepth 100000
set_option maxHeartbeats 1000000
namespace D
open Go.RowKit

/-- A reader: its code and its place. -/
abbrev rb (s : Value) (p : Int) : Blk := .cells 86 [s, .int .i64 p]
/-- An int from 0 to n - 1, or 0. -/
def Pick (n : Int) (v : Value) : Prop := ∃ m : Int, v = .int .i64 m ∧ 0 ≤ m ∧ (m < n ∨ m = 0)

theorem d_pick (w0 : World) (F : SH) (s : Value) (r : Nat) (p n : Int) (hc : CodeAt w0 s) (hp0 : 0 ≤ p) (hp : p ≤ 1000000000000000) (w : World) (hst : St w0 ((r, rb s p) :: F) w) :
    Calls Tryz.prog 57 #[.pointer (some ⟨r, 0, none⟩), .int .i64 n] w (LentV w0 r (rb s) p 1 F (Pick n)) := by
  rcases hc with ⟨a, c, rfl⟩ | ⟨b, o, k, c, rfl, hkc, hk, hcell⟩
  · refine enterl Tryz.func57 rfl Tryz.ntmps57 rfl hst ?_
    (repeat' (first | intro (b : Nat) | refine go ?_ | (refine br ?_ ?_ <;> first | exact trivial | intro hq)))
    all_goals (refine retl ?_)
    all_goals exact ⟨0, rfl, by omega, by omega⟩
  · refine enterl Tryz.func57 rfl Tryz.ntmps57 rfl hst ?_
    (repeat' (first | intro (b : Nat) | refine go ?_ | (refine br ?_ ?_ <;> first | exact trivial | intro hq)))
    · (refine retl ?_)
      exact ⟨0, rfl, by omega, by omega⟩
    · (refine retl ?_)
      exact ⟨0, rfl, by omega, by omega⟩
    · obtain ⟨y, hy0, hy1, hy⟩ := hcell (p + 1 - 1).toNat (by omega)
      (apply L.v; (· exact rfl); (· exact rfl); (· apply OV.load0i; (· exact rfl); (· exact congrArg (o + ·) (Nat.mul_one _)); (· exact hy)))
      (repeat (first | intro (b : Nat) | refine go ?_))
      (refine retl ?_)
      have := Int.emod_nonneg y (show n ≠ 0 by omega)
      have := Int.emod_lt_of_pos y (show 0 < n by omega)
      exact ⟨_, rfl, by omega, by omega⟩
    · have hk1 := Int.emod_nonneg (p + 1 - 1) (show (k : Int) ≠ 0 by omega)
      have hk2 := Int.emod_lt_of_pos (p + 1 - 1) (show (0 : Int) < k by omega)
      have hk3 := Int.emod_nonneg ((p + 1 - 1) * 7 + 3) (show (k : Int) ≠ 0 by omega)
      have hk4 := Int.emod_lt_of_pos ((p + 1 - 1) * 7 + 3) (show (0 : Int) < k by omega)
      have hk5 := Int.ediv_nonneg (show 0 ≤ p + 1 - 1 by omega) (show (0 : Int) ≤ k by omega)
      have hk6 := Int.ediv_le_self (k : Int) (show 0 ≤ p + 1 - 1 by omega)
      obtain ⟨y, hy0, hy1, hy⟩ := hcell ((p + 1 - 1) % (k : Int)).toNat (by omega)
      obtain ⟨z, hz0, hz1, hz⟩ := hcell (((p + 1 - 1) * 7 + 3) % (k : Int)).toNat (by omega)
      ((repeat (refine C.seq ?_)); apply C.draww 46 [none, none, none, some _, none, none, none, none, some _, none, none, none, some _, none, none, none, none, none, some _, none, none, none, none, none, none, some _, none, none, none, some _, none, none, none, none, none, none, none, none, none, none, some _, none, none, none, none, none])
      (repeat (first | intro (b : Nat) | refine gg ?_))
      (apply G.va; (· exact rfl); (· exact rfl); (· apply OV.load0i; (· exact rfl); (· exact congrArg (o + ·) (Nat.mul_one _)); (· exact hy)))
      (repeat (first | intro (b : Nat) | refine gg ?_))
      (apply G.va; (· exact rfl); (· exact rfl); (· apply OV.load0i; (· exact rfl); (· exact congrArg (o + ·) (Nat.mul_one _)); (· exact hz)))
      (repeat (first | intro (b : Nat) | refine gg ?_))
      (repeat (first | intro (b : Nat) | refine go ?_))
      obtain ⟨x, hx, hx0, hx1⟩ := bits_xor_bd (m := y * 131 + z * 1117 + (p + 1 - 1) * 29 + (p + 1 - 1) / k * 53) (n := (y * 131 + z * 1117 + (p + 1 - 1) * 29 + (p + 1 - 1) / k * 53) / 64) (by omega) (by omega) (by omega) (by omega)
      (apply L.p; (· exact rfl); (· exact rfl); (· apply PV.xor; (· exact rfl); (· exact rfl); (· exact hx)))
      (repeat (first | intro (b : Nat) | refine go ?_))
      (refine retl ?_)
      have := Int.emod_nonneg x (show n ≠ 0 by omega)
      have := Int.emod_lt_of_pos x (show 0 < n by omega)
      exact ⟨_, rfl, by omega, by omega⟩

theorem d_pick1 (w0 : World) (F : SH) (s : Value) (r : Nat) (p n : Int) (hc : CodeAt w0 s) (hp0 : 0 ≤ p) (hp : p ≤ 1000000000000000) (hn : 1 ≤ n) (w : World) (hst : St w0 ((r, rb s p) :: F) w) :
    Calls Tryz.prog 57 #[.pointer (some ⟨r, 0, none⟩), .int .i64 n] w (LentV w0 r (rb s) p 1 F (fun v => ∃ m : Int, v = .int .i64 m ∧ 0 ≤ m ∧ m < n)) := by
  refine (d_pick w0 F s r p n hc hp0 hp w hst).mono fun e w' ⟨v, p', h1, ⟨m, h2, h3, h4⟩, h5⟩ => ⟨v, p', h1, ⟨m, h2, h3, by omega⟩, h5⟩

theorem d_year (w0 : World) (F : SH) (s : Value) (r : Nat) (p : Int) (hc : CodeAt w0 s) (hp0 : 0 ≤ p) (hp : p ≤ 100000000000000) (w : World) (hst : St w0 ((r, rb s p) :: F) w) :
    Calls Tryz.prog 105 #[.pointer (some ⟨r, 0, none⟩)] w (LentV w0 r (rb s) p 2 F (IntIn (-100000000) 100000000)) := by
  refine enterl Tryz.func105 rfl Tryz.ntmps105 rfl hst ?_
  (repeat' (first | intro (b : Nat) | refine go ?_ | (refine br ?_ ?_ <;> first | exact trivial | intro hq) | (refine L.lcall (bs := rb s) (h := by intro W hW; exact d_pick1 _ _ _ _ _ _ hc (by omega) (by omega) (by omega) W hW) (k := ?_); intro v p1 hR hp1 hp2; obtain ⟨m, rfl, hm0, hm1⟩ := hR) | (apply L.li (lo := -100000000) (hi := 100000000); exact rfl; exact rfl; exact rfl; (· (repeat (first | exact List.Mem.head _ | apply List.Mem.tail))); (· simp <;> omega); (· (repeat (first | exact AllI.nil | (apply AllI.cons; omega; omega)))); intro m hm0 hm1)))
  all_goals (refine retl ?_)
  all_goals exact ⟨_, rfl, by omega, by omega⟩

/-- Some date. -/
def SomeDate (v : Value) : Prop := ∃ y m d : Int, v = .agg #[.int .i64 y, .int .i64 m, .int .i64 d]

theorem d_date (w0 : World) (F : SH) (s : Value) (r : Nat) (p : Int) (hc : CodeAt w0 s) (hp0 : 0 ≤ p) (hp : p ≤ 10000000000000) (w : World) (hst : St w0 ((r, rb s p) :: F) w) :
    Calls Tryz.prog 72 #[.pointer (some ⟨r, 0, none⟩)] w (LentV w0 r (rb s) p 9 F SomeDate) := by
  refine enterl Tryz.func72 rfl Tryz.ntmps72 rfl hst ?_
  (repeat (first | intro (b : Nat) | refine go ?_))
  (refine L.lcall (bs := rb s) (h := by intro W hW; exact d_year _ _ _ _ _ hc (by omega) (by omega) W hW) (k := ?_); intro v p1 hR hp1 hp2)
  obtain ⟨y, rfl, hy0, hy1⟩ := hR
  (repeat' (first | intro (b : Nat) | refine go ?_ | (refine br ?_ ?_ <;> first | exact trivial | intro hq) | (refine L.lcall (bs := rb s) (h := by intro W hW; exact d_pick1 _ _ _ _ _ _ hc (by omega) (by omega) (by omega) W hW) (k := ?_); intro v p1 hR hp1 hp2; obtain ⟨m, rfl, hm0, hm1⟩ := hR) | (apply L.li (lo := -100000000) (hi := 100000000); exact rfl; exact rfl; exact rfl; (· (repeat (first | exact List.Mem.head _ | apply List.Mem.tail))); (· simp <;> omega); (· (repeat (first | exact AllI.nil | (apply AllI.cons; omega; omega)))); intro m hm0 hm1)))
  all_goals (refine retl ?_)
  all_goals exact ⟨_, _, _, rfl⟩

end D
end Go.Proofs.YtdafjaimljhcaaaGreatDoor
