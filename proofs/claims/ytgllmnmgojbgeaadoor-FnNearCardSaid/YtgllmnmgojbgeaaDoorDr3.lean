/- Walks: stamps and units that are drawn. -/
import Derived.Test.YtgllmnmgojbgeaaDoorDr2
namespace Go.Proofs.YtgllmnmgojbgeaaDoor
set_option linter.unusedVariables false
set_option linter.unusedSimpArgs false
set_option maxRecDepth 100000
set_option maxHeartbeats 1000000
namespace D
open Go.RowKit
attribute [local irreducible] Calls

def SomeClock (v : Value) : Prop := ∃ h i s k : Int, v = .agg #[.int .i64 h, .int .i64 i, .int .i64 s, .int .i64 k]

def SomeStamp (v : Value) : Prop := ∃ y m d h i s k o : Int, v = .agg #[.int .i64 y, .int .i64 m, .int .i64 d, .int .i64 h, .int .i64 i, .int .i64 s, .int .i64 k, .int .i64 o]

theorem d_clock (w0 : World) (F : SH) (s : Value) (r : Nat) (p : Int) (hc : CodeAt w0 s) (hp0 : 0 ≤ p) (hp : p ≤ 100000000000) (w : World) (hst : St w0 ((r, rb s p) :: F) w) :
    Calls Tryd.prog 83 #[.pointer (some ⟨r, 0, none⟩)] w (LentV w0 r (rb s) p 20 F SomeClock) := by
  refine enterl Tryd.func83 rfl Tryd.ntmps83 rfl hst ?_
  (repeat' (first | intro (b : Nat) | refine go ?_ | (refine br ?_ ?_ <;> first | exact trivial | intro hq) | (refine L.lcall (bs := rb s) (h := by intro W hW; exact d_pick1 _ _ _ _ _ _ hc (by omega) (by omega) (by omega) W hW) (k := ?_); intro v p1 hR hp1 hp2; obtain ⟨m, rfl, hm0, hm1⟩ := hR) | (apply L.li (lo := -100000000) (hi := 100000000); exact rfl; exact rfl; exact rfl; (· (repeat (first | exact List.Mem.head _ | apply List.Mem.tail))); (· simp <;> omega); (· (repeat (first | exact AllI.nil | (apply AllI.cons; omega; omega)))); intro m hm0 hm1)))
  all_goals (refine retl ?_)
  all_goals exact ⟨_, _, _, _, rfl⟩

theorem d_offset (w0 : World) (F : SH) (s : Value) (r : Nat) (p : Int) (hc : CodeAt w0 s) (hp0 : 0 ≤ p) (hp : p ≤ 100000000000) (w : World) (hst : St w0 ((r, rb s p) :: F) w) :
    Calls Tryd.prog 84 #[.pointer (some ⟨r, 0, none⟩)] w (LentV w0 r (rb s) p 4 F (IntIn (-100000000) 100000000)) := by
  refine enterl Tryd.func84 rfl Tryd.ntmps84 rfl hst ?_
  (repeat' (first | intro (b : Nat) | refine go ?_ | (refine br ?_ ?_ <;> first | exact trivial | intro hq) | (refine L.lcall (bs := rb s) (h := by intro W hW; exact d_pick1 _ _ _ _ _ _ hc (by omega) (by omega) (by omega) W hW) (k := ?_); intro v p1 hR hp1 hp2; obtain ⟨m, rfl, hm0, hm1⟩ := hR) | (apply L.li (lo := -100000000) (hi := 100000000); exact rfl; exact rfl; exact rfl; (· (repeat (first | exact List.Mem.head _ | apply List.Mem.tail))); (· simp <;> omega); (· (repeat (first | exact AllI.nil | (apply AllI.cons; omega; omega)))); intro m hm0 hm1)))
  all_goals (refine retl ?_)
  all_goals exact ⟨_, rfl, by omega, by omega⟩

theorem d_stamp (w0 : World) (F : SH) (s : Value) (r : Nat) (p : Int) (hc : CodeAt w0 s) (hp0 : 0 ≤ p) (hp : p ≤ 10000000000) (w : World) (hst : St w0 ((r, rb s p) :: F) w) :
    Calls Tryd.prog 52 #[.pointer (some ⟨r, 0, none⟩)] w (LentV w0 r (rb s) p 40 F SomeStamp) := by
  refine enterl Tryd.func52 rfl Tryd.ntmps52 rfl hst ?_
  (repeat (first | intro (b : Nat) | refine go ?_))
  (refine L.lcall (bs := rb s) (h := by intro W hW; exact d_date _ _ _ _ _ hc (by omega) (by omega) W hW) (k := ?_); intro v p1 hR hp1 hp2)
  obtain ⟨y, m, d, rfl⟩ := hR
  (repeat (first | intro (b : Nat) | refine go ?_))
  (refine L.lcall (bs := rb s) (h := by intro W hW; exact d_clock _ _ _ _ _ hc (by omega) (by omega) W hW) (k := ?_); intro v p1 hR hp1 hp2)
  obtain ⟨h, i, s', k, rfl⟩ := hR
  (repeat (first | intro (b : Nat) | refine go ?_))
  (refine L.lcall (bs := rb s) (h := by intro W hW; exact d_offset _ _ _ _ _ hc (by omega) (by omega) W hW) (k := ?_); intro v p1 hR hp1 hp2)
  obtain ⟨o, rfl, ho1, ho2⟩ := hR
  (repeat (first | intro (b : Nat) | refine go ?_))
  (refine retl ?_)
  exact ⟨_, _, _, _, _, _, _, _, rfl⟩

theorem d_unit (w0 : World) (F : SH) (s : Value) (r : Nat) (p : Int) (hc : CodeAt w0 s) (hp0 : 0 ≤ p) (hp : p ≤ 100000000000) (w : World) (hst : St w0 ((r, rb s p) :: F) w) :
    Calls Tryd.prog 53 #[.pointer (some ⟨r, 0, none⟩)] w (LentV w0 r (rb s) p 3 F (IntIn (-100000000) 100000000)) := by
  refine enterl Tryd.func53 rfl Tryd.ntmps53 rfl hst ?_
  (repeat' (first | intro (b : Nat) | refine go ?_ | (refine br ?_ ?_ <;> first | exact trivial | intro hq) | (refine L.lcall (bs := rb s) (h := by intro W hW; exact d_pick1 _ _ _ _ _ _ hc (by omega) (by omega) (by omega) W hW) (k := ?_); intro v p1 hR hp1 hp2; obtain ⟨m, rfl, hm0, hm1⟩ := hR) | (apply L.li (lo := -100000000) (hi := 100000000); exact rfl; exact rfl; exact rfl; (· (repeat (first | exact List.Mem.head _ | apply List.Mem.tail))); (· simp <;> omega); (· (repeat (first | exact AllI.nil | (apply AllI.cons; omega; omega)))); intro m hm0 hm1)))
  all_goals (refine retl ?_)
  all_goals exact ⟨_, rfl, by omega, by omega⟩

def StampUnit (v : Value) : Prop := ∃ y m d h i s k o u : Int, v = .tuple #[.agg #[.int .i64 y, .int .i64 m, .int .i64 d, .int .i64 h, .int .i64 i, .int .i64 s, .int .i64 k, .int .i64 o], .int .i64 u] ∧ -100000000 ≤ u ∧ u ≤ 100000000

theorem d_RoundDown (s0 : Value) (w : World) (hc0 : CodeAt w s0) (hb : D.Base w) : Calls Tryd.prog 20 #[s0] w (RetV w StampUnit) := by
  refine enter Tryd.func20 rfl Tryd.ntmps20 rfl (by assumption) ?_
  (repeat (first | intro (b : Nat) | refine go ?_))
  (refine L.ncall (h := by intro W hW; exact d_open w s0 hc0 W hW.base) (k := ?_); intro v H hR)
  obtain ⟨r, s, rfl, rfl, hc⟩ := hR
  simp only [List.cons_append, List.nil_append]
  (repeat (first | intro (b : Nat) | refine go ?_))
  (refine L.lcall (bs := rb s) (h := by intro W hW; exact d_stamp _ _ _ _ _ hc (by omega) (by omega) W hW) (k := ?_); intro v p1 hR hp1 hp2)
  obtain ⟨y, m, d, h, i, s', k, o, rfl⟩ := hR
  (repeat (first | intro (b : Nat) | refine go ?_))
  ((repeat (refine C.seq ?_)); apply C.drawlw (rb s) 3 15 3 [some _, none, some _])
  (repeat (first | intro (b : Nat) | refine gg ?_))
  (refine G.lcall (h := by intro p F W hlo hhi hW; exact d_unit _ _ _ _ _ hc (by omega) (by omega) W hW) (k := ?_); intro v hR)
  obtain ⟨u, rfl, hu0, hu1⟩ := hR
  (repeat (first | intro (b : Nat) | refine gg ?_))
  intro p2 hq1 hq2
  (repeat (first | intro (b : Nat) | refine go ?_))
  (refine retw ?_)
  exact ⟨_, _, _, _, _, _, _, _, _, rfl, hu0, hu1⟩

theorem d_RoundUp (s0 : Value) (w : World) (hc0 : CodeAt w s0) (hb : D.Base w) : Calls Tryd.prog 25 #[s0] w (RetV w StampUnit) := by
  refine enter Tryd.func25 rfl Tryd.ntmps25 rfl (by assumption) ?_
  (repeat (first | intro (b : Nat) | refine go ?_))
  (refine L.vcall (h := by intro W hW; exact d_RoundDown _ W (hc0.keep hW.low) hW.base) (k := ?_); intro v hR)
  obtain ⟨y, m, d, h, i, s', k, o, u, rfl, hu0, hu1⟩ := hR
  (repeat (first | intro (b : Nat) | refine go ?_))
  (refine retw ?_)
  exact ⟨_, _, _, _, _, _, _, _, _, rfl, hu0, hu1⟩

theorem d_RoundNear (s0 : Value) (w : World) (hc0 : CodeAt w s0) (hb : D.Base w) : Calls Tryd.prog 32 #[s0] w (RetV w StampUnit) := by
  refine enter Tryd.func32 rfl Tryd.ntmps32 rfl (by assumption) ?_
  (repeat (first | intro (b : Nat) | refine go ?_))
  (refine L.vcall (h := by intro W hW; exact d_RoundDown _ W (hc0.keep hW.low) hW.base) (k := ?_); intro v hR)
  obtain ⟨y, m, d, h, i, s', k, o, u, rfl, hu0, hu1⟩ := hR
  (repeat (first | intro (b : Nat) | refine go ?_))
  (refine retw ?_)
  exact ⟨_, _, _, _, _, _, _, _, _, rfl, hu0, hu1⟩

end D
end Go.Proofs.YtgllmnmgojbgeaaDoor
