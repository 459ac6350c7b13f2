/- Walks: dates that are drawn. -/
import Derived.Test.YtdafjaimljhcaaaGreatDoorDr
import Derived.Test.YtdafjaimljhcaaaGreatDoorS3
namespace Go.Proofs.YtdafjaimljhcaaaGreatDoor
set_option linter.unusedVariables false
set_option linter.unusedSimpArgs false
set_option maxRecDepth 100000
set_option maxHeartbeats 1000000
namespace D
open Go.RowKit

theorem d_good (w0 : World) (F : SH) (s : Value) (r : Nat) (p : Int) (hc : CodeAt w0 s) (hp0 : 0 ≤ p) (hp : p ≤ 1000000000000) (w : World) (hst : St w0 ((r, rb s p) :: F) w) :
    Calls Tryz.prog 89 #[.pointer (some ⟨r, 0, none⟩)] w (LentV w0 r (rb s) p 9 F SomeDate) := by
  refine enterl Tryz.func89 rfl Tryz.ntmps89 rfl hst ?_
  (repeat (first | intro (b : Nat) | refine go ?_))
  (refine L.lcall (bs := rb s) (h := by intro W hW; exact d_date _ _ _ _ _ hc (by omega) (by omega) W hW) (k := ?_); intro v p1 hR hp1 hp2)
  obtain ⟨y, m, d, rfl⟩ := hR
  (repeat (first | intro (b : Nat) | refine go ?_))
  (refine L.call (h := by intro W hW; exact b_DateValid _ _ _ W hW.base) (k := ?_))
  (repeat' (first | intro (b : Nat) | refine go ?_ | (refine br ?_ ?_ <;> first | exact trivial | intro hq)))
  all_goals (refine retl ?_)
  all_goals exact ⟨_, _, _, rfl⟩

/-- A reader begins. -/
theorem CodeAt.keep {w w' : World} {s : Value} (h : CodeAt w s) (hb : Below w.heap.size w w') : CodeAt w' s := by
  rcases h with h | ⟨b, o, n, c, h1, h2, h3, h4⟩
  · exact .inl h
  · refine .inr ⟨b, o, n, c, h1, h2, h3, fun j hj => ?_⟩
    obtain ⟨k, k1, k2, k3⟩ := h4 j hj
    exact ⟨k, k1, k2, (hb.cell (World.block_lt_of_cell? _ _ k3)).trans k3⟩

def OpenR (w0 : World) (v : Value) (H : SH) : Prop := ∃ (r : Nat) (s : Value), v = .pointer (some ⟨r, 0, none⟩) ∧ H = [(r, rb s 0)] ∧ CodeAt w0 s

theorem d_open (w0 : World) (s : Value) (hc : CodeAt w0 s) (w : World) (hb : D.Base w) : Calls Tryz.prog 33 #[s] w (Ret w (OpenR w0)) := by
  rcases hc with ⟨a, c, rfl⟩ | ⟨b, o, n, c, rfl, h1, h2, h3⟩
  · refine enter Tryz.func33 rfl Tryz.ntmps33 rfl (by assumption) ?_
    (repeat (first | intro (b : Nat) | refine go ?_))
    (apply X.retr [(b, rb (.slice a 0 c) 0)]; (· exact rfl); (· (repeat (first | exact RVs.nil | (apply RVs.cons; (· first | exact RV.tmp rfl | (apply RV.cellk; exact rfl; (· (repeat (first | exact List.Mem.head _ | apply List.Mem.tail))); (· (repeat (first | exact Rd.nil | apply Rd.take | apply Rd.skip)))) | (apply RV.cell1; exact rfl; (· (repeat (first | exact List.Mem.head _ | apply List.Mem.tail))); (· (repeat (first | exact Rd.nil | apply Rd.take | apply Rd.skip))))))))); (· (repeat (first | exact SubH.nil | (apply SubH.cons; (· first | with_reducible rfl | (simp only [List.cons.injEq, Value.int.injEq, and_true, true_and] <;> omega) | rfl)) | apply SubH.skip | exact SubH.refl))))
    exact ⟨b, .slice a 0 c, rfl, rfl, .inl ⟨_, _, rfl⟩⟩
  · refine enter Tryz.func33 rfl Tryz.ntmps33 rfl (by assumption) ?_
    (repeat' (first | intro (b : Nat) | refine go ?_ | (refine br ?_ ?_ <;> first | exact trivial | intro hq)))
    · (apply L.p; (· exact rfl); (· exact rfl); (· apply PV.slh; (· exact rfl); (· exact rfl); (· omega); (· omega)))
      (repeat (first | intro (b : Nat) | refine go ?_))
      revert b; intro b1
      (apply X.retr [(b1, rb (.slice (some ⟨b, o, none⟩) 2000 c) 0)]; (· exact rfl); (· (repeat (first | exact RVs.nil | (apply RVs.cons; (· first | exact RV.tmp rfl | (apply RV.cellk; exact rfl; (· (repeat (first | exact List.Mem.head _ | apply List.Mem.tail))); (· (repeat (first | exact Rd.nil | apply Rd.take | apply Rd.skip)))) | (apply RV.cell1; exact rfl; (· (repeat (first | exact List.Mem.head _ | apply List.Mem.tail))); (· (repeat (first | exact Rd.nil | apply Rd.take | apply Rd.skip))))))))); (· (repeat (first | exact SubH.nil | (apply SubH.cons; (· first | with_reducible rfl | (simp only [List.cons.injEq, Value.int.injEq, and_true, true_and] <;> omega) | rfl)) | apply SubH.skip | exact SubH.refl))))
      exact ⟨b1, _, rfl, rfl, .inr ⟨b, o, 2000, c, rfl, by omega, by omega, fun j hj => h3 j (by omega)⟩⟩
    · revert b; intro b1
      (apply X.retr [(b1, rb (.slice (some ⟨b, o, none⟩) n c) 0)]; (· exact rfl); (· (repeat (first | exact RVs.nil | (apply RVs.cons; (· first | exact RV.tmp rfl | (apply RV.cellk; exact rfl; (· (repeat (first | exact List.Mem.head _ | apply List.Mem.tail))); (· (repeat (first | exact Rd.nil | apply Rd.take | apply Rd.skip)))) | (apply RV.cell1; exact rfl; (· (repeat (first | exact List.Mem.head _ | apply List.Mem.tail))); (· (repeat (first | exact Rd.nil | apply Rd.take | apply Rd.skip))))))))); (· (repeat (first | exact SubH.nil | (apply SubH.cons; (· first | with_reducible rfl | (simp only [List.cons.injEq, Value.int.injEq, and_true, true_and] <;> omega) | rfl)) | apply SubH.skip | exact SubH.refl))))
      exact ⟨b1, _, rfl, rfl, .inr ⟨b, o, n, c, rfl, h1, h2, h3⟩⟩

def TwoDates (v : Value) : Prop := ∃ y m d y' m' d' : Int, v = .tuple #[.agg #[.int .i64 y, .int .i64 m, .int .i64 d], .agg #[.int .i64 y', .int .i64 m', .int .i64 d']]

end D
end Go.Proofs.YtdafjaimljhcaaaGreatDoor
