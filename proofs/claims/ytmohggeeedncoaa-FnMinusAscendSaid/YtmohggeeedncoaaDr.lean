/- Walks: the reader of a code, and what is drawn from it. -/
import Derived.Test.YtmohggeeedncoaaEI
namespace Go.Proofs.Ytmohggeeedncoaa
set_option linter.unusedVariables false
set_option linter.unusedSimpArgs false
set_option maxRecDepth 100000
set_option maxHeartbeats 1000000
namespace D
open Go.RowKit

/-- A reader: its code and its place. -/
abbrev rb (s : Value) (p : Int) : Blk := .cells 63 [s, .int .i64 p]
/-- An int from 0 to n - 1, or 0. -/
def Pick (n : Int) (v : Value) : Prop := ∃ m : Int, v = .int .i64 m ∧ 0 ≤ m ∧ (m < n ∨ m = 0)

theorem d_pick (w0 : World) (F : SH) (s : Value) (r : Nat) (p n : Int) (hc : CodeAt w0 s) (hp0 : 0 ≤ p) (hp : p ≤ 1000000000000000) (w : World) (hst : St w0 ((r, rb s p) :: F) w) :
    Calls Try.prog 41 #[.pointer (some ⟨r, 0, none⟩), .int .i64 n] w (LentV w0 r (rb s) p 1 F (Pick n)) := by
  rcases hc with ⟨a, c, rfl⟩ | ⟨b, o, k, c, rfl, hkc, hk, hcell⟩
  · refine enterl Try.func41 rfl Try.ntmps41 rfl hst ?_
    (repeat' (first | intro (b : Nat) | refine go ?_ | (refine br ?_ ?_ <;> first | exact trivial | intro hq)))
    all_goals (refine retl ?_)
    all_goals exact ⟨0, rfl, by omega, by omega⟩
  · refine enterl Try.func41 rfl Try.ntmps41 rfl hst ?_
    (repeat' (first | intro (b : Nat) | refine go ?_ | (refine br ?_ ?_ <;> first | exact trivial | intro hq)))
    · (refine retl ?_)
      exact ⟨0, rfl, by omega, by omega⟩
    · (refine retl ?_)
      exact ⟨0, rfl, by omega, by omega⟩
    · obtain ⟨y, hy0, hy1, hy⟩ := hcell (p + 1 - 1).toNat (by omega)
      (apply L.v; (· exact rfl); (· exact rfl); (· apply OV.load0i; (· exact rfl); (· exact congrArg (o + ·) (Nat.mul_one _)); (· exact hy)))
      (repeat (first | intro (b : Nat) | refine go ?_))
      (refine retl ?_)
      have := Int.emod_nonneg y (show n ≠ 0 by omega)
      have := Int.emod_lt_of_pos y (show 0 < n by omega)
      exact ⟨_, rfl, by omega, by omega⟩
    · have hk1 := Int.emod_nonneg (p + 1 - 1) (show (k : Int) ≠ 0 by omega)
      have hk2 := Int.emod_lt_of_pos (p + 1 - 1) (show (0 : Int) < k by omega)
      have hk3 := Int.emod_nonneg ((p + 1 - 1) * 7 + 3) (show (k : Int) ≠ 0 by omega)
      have hk4 := Int.emod_lt_of_pos ((p + 1 - 1) * 7 + 3) (show (0 : Int) < k by omega)
      have hk5 := Int.ediv_nonneg (show 0 ≤ p + 1 - 1 by omega) (show (0 : Int) ≤ k by omega)
      have hk6 := Int.ediv_le_self (k : Int) (show 0 ≤ p + 1 - 1 by omega)
      obtain ⟨y, hy0, hy1, hy⟩ := hcell ((p + 1 - 1) % (k : Int)).toNat (by omega)
      obtain ⟨z, hz0, hz1, hz⟩ := hcell (((p + 1 - 1) * 7 + 3) % (k : Int)).toNat (by omega)
      ((repeat (refine C.seq ?_)); apply C.draww 46 [none, none, none, some _, none, none, none, none, some _, none, none, none, some _, none, none, none, none, none, some _, none, none, none, none, none, none, some _, none, none, none, some _, none, none, none, none, none, none, none, none, none, none, some _, none, none, none, none, none])
      (repeat (first | intro (b : Nat) | refine gg ?_))
      (apply G.va; (· exact rfl); (· exact rfl); (· apply OV.load0i; (· exact rfl); (· exact congrArg (o + ·) (Nat.mul_one _)); (· exact hy)))
      (repeat (first | intro (b : Nat) | refine gg ?_))
      (apply G.va; (· exact rfl); (· exact rfl); (· apply OV.load0i; (· exact rfl); (· exact congrArg (o + ·) (Nat.mul_one _)); (· exact hz)))
      (repeat (first | intro (b : Nat) | refine gg ?_))
      (repeat (first | intro (b : Nat) | refine go ?_))
      obtain ⟨x, hx, hx0, hx1⟩ := bits_xor_bd (m := y * 131 + z * 1117 + (p + 1 - 1) * 29 + (p + 1 - 1) / k * 53) (n := (y * 131 + z * 1117 + (p + 1 - 1) * 29 + (p + 1 - 1) / k * 53) / 64) (by omega) (by omega) (by omega) (by omega)
      (apply L.p; (· exact rfl); (· exact rfl); (· apply PV.xor; (· exact rfl); (· exact rfl); (· exact hx)))
      (repeat (first | intro (b : Nat) | refine go ?_))
      (refine retl ?_)
      have := Int.emod_nonneg x (show n ≠ 0 by omega)
      have := Int.emod_lt_of_pos x (show 0 < n by omega)
      exact ⟨_, rfl, by omega, by omega⟩

theorem d_pick1 (w0 : World) (F : SH) (s : Value) (r : Nat) (p n : Int) (hc : CodeAt w0 s) (hp0 : 0 ≤ p) (hp : p ≤ 1000000000000000) (hn : 1 ≤ n) (w : World) (hst : St w0 ((r, rb s p) :: F) w) :
    Calls Try.prog 41 #[.pointer (some ⟨r, 0, none⟩), .int .i64 n] w (LentV w0 r (rb s) p 1 F (fun v => ∃ m : Int, v = .int .i64 m ∧ 0 ≤ m ∧ m < n)) := by
  refine (d_pick w0 F s r p n hc hp0 hp w hst).mono fun e w' ⟨v, p', h1, ⟨m, h2, h3, h4⟩, h5⟩ => ⟨v, p', h1, ⟨m, h2, h3, by omega⟩, h5⟩

/-- A reader begins. -/
theorem CodeAt.keep {w w' : World} {s : Value} (h : CodeAt w s) (hb : Below w.heap.size w w') : CodeAt w' s := by
  rcases h with h | ⟨b, o, n, c, h1, h2, h3, h4⟩
  · exact .inl h
  · refine .inr ⟨b, o, n, c, h1, h2, h3, fun j hj => ?_⟩
    obtain ⟨k, k1, k2, k3⟩ := h4 j hj
    exact ⟨k, k1, k2, (hb.cell (World.block_lt_of_cell? _ _ k3)).trans k3⟩

def OpenR (w0 : World) (v : Value) (H : SH) : Prop := ∃ (r : Nat) (s : Value), v = .pointer (some ⟨r, 0, none⟩) ∧ H = [(r, rb s 0)] ∧ CodeAt w0 s

theorem d_open (w0 : World) (s : Value) (hc : CodeAt w0 s) (w : World) (hb : D.Base w) : Calls Try.prog 28 #[s] w (Ret w (OpenR w0)) := by
  rcases hc with ⟨a, c, rfl⟩ | ⟨b, o, n, c, rfl, h1, h2, h3⟩
  · refine enter Try.func28 rfl Try.ntmps28 rfl (by assumption) ?_
    (repeat (first | intro (b : Nat) | refine go ?_))
    (apply X.retr [(b, rb (.slice a 0 c) 0)]; (· exact rfl); (· (repeat (first | exact RVs.nil | (apply RVs.cons; (· first | exact RV.tmp rfl | (apply RV.cellk; exact rfl; (· (repeat (first | exact List.Mem.head _ | apply List.Mem.tail))); (· (repeat (first | exact Rd.nil | apply Rd.take | apply Rd.skip)))) | (apply RV.cell1; exact rfl; (· (repeat (first | exact List.Mem.head _ | apply List.Mem.tail))); (· (repeat (first | exact Rd.nil | apply Rd.take | apply Rd.skip))))))))); (· (repeat (first | exact SubH.nil | (apply SubH.cons; (· first | with_reducible rfl | (simp only [List.cons.injEq, Value.int.injEq, and_true, true_and] <;> omega) | rfl)) | apply SubH.skip | exact SubH.refl))))
    exact ⟨b, .slice a 0 c, rfl, rfl, .inl ⟨_, _, rfl⟩⟩
  · refine enter Try.func28 rfl Try.ntmps28 rfl (by assumption) ?_
    (repeat' (first | intro (b : Nat) | refine go ?_ | (refine br ?_ ?_ <;> first | exact trivial | intro hq)))
    · (apply L.p; (· exact rfl); (· exact rfl); (· apply PV.slh; (· exact rfl); (· exact rfl); (· omega); (· omega)))
      (repeat (first | intro (b : Nat) | refine go ?_))
      revert b; intro b1
      (apply X.retr [(b1, rb (.slice (some ⟨b, o, none⟩) 2000 c) 0)]; (· exact rfl); (· (repeat (first | exact RVs.nil | (apply RVs.cons; (· first | exact RV.tmp rfl | (apply RV.cellk; exact rfl; (· (repeat (first | exact List.Mem.head _ | apply List.Mem.tail))); (· (repeat (first | exact Rd.nil | apply Rd.take | apply Rd.skip)))) | (apply RV.cell1; exact rfl; (· (repeat (first | exact List.Mem.head _ | apply List.Mem.tail))); (· (repeat (first | exact Rd.nil | apply Rd.take | apply Rd.skip))))))))); (· (repeat (first | exact SubH.nil | (apply SubH.cons; (· first | with_reducible rfl | (simp only [List.cons.injEq, Value.int.injEq, and_true, true_and] <;> omega) | rfl)) | apply SubH.skip | exact SubH.refl))))
      exact ⟨b1, _, rfl, rfl, .inr ⟨b, o, 2000, c, rfl, by omega, by omega, fun j hj => h3 j (by omega)⟩⟩
    · revert b; intro b1
      (apply X.retr [(b1, rb (.slice (some ⟨b, o, none⟩) n c) 0)]; (· exact rfl); (· (repeat (first | exact RVs.nil | (apply RVs.cons; (· first | exact RV.tmp rfl | (apply RV.cellk; exact rfl; (· (repeat (first | exact List.Mem.head _ | apply List.Mem.tail))); (· (repeat (first | exact Rd.nil | apply Rd.take | apply Rd.skip)))) | (apply RV.cell1; exact rfl; (· (repeat (first | exact List.Mem.head _ | apply List.Mem.tail))); (· (repeat (first | exact Rd.nil | apply Rd.take | apply Rd.skip))))))))); (· (repeat (first | exact SubH.nil | (apply SubH.cons; (· first | with_reducible rfl | (simp only [List.cons.injEq, Value.int.injEq, and_true, true_and] <;> omega) | rfl)) | apply SubH.skip | exact SubH.refl))))
      exact ⟨b1, _, rfl, rfl, .inr ⟨b, o, n, c, rfl, h1, h2, h3⟩⟩

/-- Some date. -/
def SomeDate (v : Value) : Prop := ∃ y m d : Int, v = .agg #[.int .i64 y, .int .i64 m, .int .i64 d]

end D
end Go.Proofs.Ytmohggeeedncoaa
