/- Walks: stamps and units that are drawn. -/
import Derived.Test.YtdafjaimljhcaaaGreatDoorDr2
import Derived.Test.YtdafjaimljhcaaaGreatDoorS5
import Derived.Test.YtdafjaimljhcaaaGreatDoorE3m
namespace Go.Proofs.YtdafjaimljhcaaaGreatDoor
set_option linter.unusedVariables false
set_option linter.unusedSimpArgs false
set_option maxRecDepth 100000
set_option maxHeartbeats 1000000
namespace D
open Go.RowKit
attribute [local irreducible] Calls

def SomeClock (v : Value) : Prop := ∃ h i s k : Int, v = .agg #[.int .i64 h, .int .i64 i, .int .i64 s, .int .i64 k]

def SomeStamp (v : Value) : Prop := ∃ y m d h i s k o : Int, v = .agg #[.int .i64 y, .int .i64 m, .int .i64 d, .int .i64 h, .int .i64 i, .int .i64 s, .int .i64 k, .int .i64 o]

theorem d_clock (w0 : World) (F : SH) (s : Value) (r : Nat) (p : Int) (hc : CodeAt w0 s) (hp0 : 0 ≤ p) (hp : p ≤ 100000000000) (w : World) (hst : St w0 ((r, rb s p) :: F) w) :
    Calls Tryz.prog 73 #[.pointer (some ⟨r, 0, none⟩)] w (LentV w0 r (rb s) p 20 F SomeClock) := by
  refine enterl Tryz.func73 rfl Tryz.ntmps73 rfl hst ?_
  (repeat' (first | intro (b : Nat) | refine go ?_ | (refine br ?_ ?_ <;> first | exact trivial | intro hq) | (refine L.lcall (bs := rb s) (h := by intro W hW; exact d_pick1 _ _ _ _ _ _ hc (by omega) (by omega) (by omega) W hW) (k := ?_); intro v p1 hR hp1 hp2; obtain ⟨m, rfl, hm0, hm1⟩ := hR) | (apply L.li (lo := -100000000) (hi := 100000000); exact rfl; exact rfl; exact rfl; (· (repeat (first | exact List.Mem.head _ | apply List.Mem.tail))); (· simp <;> omega); (· (repeat (first | exact AllI.nil | (apply AllI.cons; omega; omega)))); intro m hm0 hm1)))
  all_goals (refine retl ?_)
  all_goals exact ⟨_, _, _, _, rfl⟩

theorem d_offset (w0 : World) (F : SH) (s : Value) (r : Nat) (p : Int) (hc : CodeAt w0 s) (hp0 : 0 ≤ p) (hp : p ≤ 100000000000) (w : World) (hst : St w0 ((r, rb s p) :: F) w) :
    Calls Tryz.prog 60 #[.pointer (some ⟨r, 0, none⟩)] w (LentV w0 r (rb s) p 4 F (IntIn (-100000000) 100000000)) := by
  refine enterl Tryz.func60 rfl Tryz.ntmps60 rfl hst ?_
  (repeat' (first | intro (b : Nat) | refine go ?_ | (refine br ?_ ?_ <;> first | exact trivial | intro hq) | (refine L.lcall (bs := rb s) (h := by intro W hW; exact d_pick1 _ _ _ _ _ _ hc (by omega) (by omega) (by omega) W hW) (k := ?_); intro v p1 hR hp1 hp2; obtain ⟨m, rfl, hm0, hm1⟩ := hR) | (apply L.li (lo := -100000000) (hi := 100000000); exact rfl; exact rfl; exact rfl; (· (repeat (first | exact List.Mem.head _ | apply List.Mem.tail))); (· simp <;> omega); (· (repeat (first | exact AllI.nil | (apply AllI.cons; omega; omega)))); intro m hm0 hm1)))
  all_goals (refine retl ?_)
  all_goals exact ⟨_, rfl, by omega, by omega⟩

theorem d_stamp (w0 : World) (F : SH) (s : Value) (r : Nat) (p : Int) (hc : CodeAt w0 s) (hp0 : 0 ≤ p) (hp : p ≤ 10000000000) (w : World) (hst : St w0 ((r, rb s p) :: F) w) :
    Calls Tryz.prog 42 #[.pointer (some ⟨r, 0, none⟩)] w (LentV w0 r (rb s) p 40 F SomeStamp) := by
  refine enterl Tryz.func42 rfl Tryz.ntmps42 rfl hst ?_
  (repeat (first | intro (b : Nat) | refine go ?_))
  (refine L.lcall (bs := rb s) (h := by intro W hW; exact d_date _ _ _ _ _ hc (by omega) (by omega) W hW) (k := ?_); intro v p1 hR hp1 hp2)
  obtain ⟨y, m, d, rfl⟩ := hR
  (repeat (first | intro (b : Nat) | refine go ?_))
  (refine L.lcall (bs := rb s) (h := by intro W hW; exact d_clock _ _ _ _ _ hc (by omega) (by omega) W hW) (k := ?_); intro v p1 hR hp1 hp2)
  obtain ⟨h, i, s', k, rfl⟩ := hR
  (repeat (first | intro (b : Nat) | refine go ?_))
  (refine L.lcall (bs := rb s) (h := by intro W hW; exact d_offset _ _ _ _ _ hc (by omega) (by omega) W hW) (k := ?_); intro v p1 hR hp1 hp2)
  obtain ⟨o, rfl, ho1, ho2⟩ := hR
  (repeat (first | intro (b : Nat) | refine go ?_))
  (refine retl ?_)
  exact ⟨_, _, _, _, _, _, _, _, rfl⟩

def StampUnit (v : Value) : Prop := ∃ y m d h i s k o u : Int, v = .tuple #[.agg #[.int .i64 y, .int .i64 m, .int .i64 d, .int .i64 h, .int .i64 i, .int .i64 s, .int .i64 k, .int .i64 o], .int .i64 u] ∧ -100000000 ≤ u ∧ u ≤ 100000000

end D
end Go.Proofs.YtdafjaimljhcaaaGreatDoor

namespace Go.Proofs.YtdafjaimljhcaaaGreatDoor
set_option linter.unusedVariables false
set_option linter.unusedSimpArgs false
set_option maxRecDepth 100000
set_option maxHeartbeats 1000000
namespace D
open Go.RowKit
attribute [local irreducible] Calls

/-- A date that exists. -/
def GoodDate (v : Value) : Prop := ∃ y m d : Int, v = .agg #[.int .i64 y, .int .i64 m, .int .i64 d] ∧ dval y m d = true

theorem d_goodV (w0 : World) (F : SH) (s : Value) (r : Nat) (p : Int) (hc : CodeAt w0 s) (hp0 : 0 ≤ p) (hp : p ≤ 1000000000000) (w : World) (hst : St w0 ((r, rb s p) :: F) w) :
    Calls Tryz.prog 89 #[.pointer (some ⟨r, 0, none⟩)] w (LentV w0 r (rb s) p 9 F GoodDate) := by
  refine enterl Tryz.func89 rfl Tryz.ntmps89 rfl hst ?_
  (repeat (first | intro (b : Nat) | refine go ?_))
  (refine L.lcall (bs := rb s) (h := by intro W hW; exact d_date _ _ _ _ _ hc (by omega) (by omega) W hW) (k := ?_); intro v p1 hR hp1 hp2)
  obtain ⟨y, m, d, rfl⟩ := hR
  (repeat (first | intro (b : Nat) | refine go ?_))
  (refine L.call (h := by intro W hW; exact b_DateValid _ _ _ W hW.base) (k := ?_))
  (repeat' (first | intro (b : Nat) | refine go ?_ | (refine br ?_ ?_ <;> first | exact trivial | intro hq)))
  all_goals (refine retl ?_)
  · exact ⟨_, _, _, rfl, hq⟩
  · exact ⟨_, _, _, rfl, by decide⟩

/-- A stamp that exists. -/
def GoodStamp (v : Value) : Prop := ∃ y m d h i s k o : Int, v = .agg #[.int .i64 y, .int .i64 m, .int .i64 d, .int .i64 h, .int .i64 i, .int .i64 s, .int .i64 k, .int .i64 o] ∧ sval y m d h i s k o = true

theorem d_sound (w0 : World) (F : SH) (s : Value) (r : Nat) (p : Int) (hc : CodeAt w0 s) (hp0 : 0 ≤ p) (hp : p ≤ 1000000000) (w : World) (hst : St w0 ((r, rb s p) :: F) w) :
    Calls Tryz.prog 58 #[.pointer (some ⟨r, 0, none⟩)] w (LentV w0 r (rb s) p 60 F GoodStamp) := by
  refine enterl Tryz.func58 rfl Tryz.ntmps58 rfl hst ?_
  (repeat (first | intro (b : Nat) | refine go ?_))
  (refine L.lcall (bs := rb s) (h := by intro W hW; exact d_stamp _ _ _ _ _ hc (by omega) (by omega) W hW) (k := ?_); intro v p1 hR hp1 hp2)
  obtain ⟨y, m, d, h, i, s', k, o, rfl⟩ := hR
  (repeat (first | intro (b : Nat) | refine go ?_))
  (refine L.call (h := by intro W hW; exact b_StampValid _ _ _ _ _ _ _ _ W hW.base) (k := ?_))
  (repeat' (first | intro (b : Nat) | refine go ?_ | (refine br ?_ ?_ <;> first | exact trivial | intro hq)))
  · (refine retl ?_)
    exact ⟨_, _, _, _, _, _, _, _, rfl, hq⟩
  · (refine L.lcall (bs := rb s) (h := by intro W hW; exact d_goodV _ _ _ _ _ hc (by omega) (by omega) W hW) (k := ?_); intro v p1 hR hp1 hp2)
    obtain ⟨y, m, d, rfl, hd⟩ := hR
    (repeat (first | intro (b : Nat) | refine go ?_))
    (refine L.lcall (bs := rb s) (h := by intro W hW; exact d_pick1 _ _ _ _ _ _ hc (by omega) (by omega) (by omega) W hW) (k := ?_); intro v p1 hR hp1 hp2; obtain ⟨m, rfl, hm0, hm1⟩ := hR)
    (repeat (first | intro (b : Nat) | refine go ?_))
    (refine retl ?_)
    exact ⟨_, _, _, _, _, _, _, _, rfl, by simp [sval, cval, inR, hd]; omega⟩

def StampBool (v : Value) : Prop := ∃ y m d h i s k o : Int, ∃ ok : Bool, v = .tuple #[.agg #[.int .i64 y, .int .i64 m, .int .i64 d, .int .i64 h, .int .i64 i, .int .i64 s, .int .i64 k, .int .i64 o], .bool ok]

theorem b_StampAt_some (n o : Int) (w : World) (hb : D.Base w) : Calls Tryz.prog 90 #[.int .i64 n, .int .i64 o] w (RetV w StampBool) :=
  (b_StampAt n o w hb).mono fun e w' ⟨he, hw⟩ => ⟨_, he, ⟨_, _, _, _, _, _, _, _, _, rfl⟩, hw⟩

def TwoStamps (v : Value) : Prop := ∃ y m d h i s k o y' m' d' h' i' s' k' o' : Int, v = .tuple #[.agg #[.int .i64 y, .int .i64 m, .int .i64 d, .int .i64 h, .int .i64 i, .int .i64 s, .int .i64 k, .int .i64 o], .agg #[.int .i64 y', .int .i64 m', .int .i64 d', .int .i64 h', .int .i64 i', .int .i64 s', .int .i64 k', .int .i64 o']]

end D
end Go.Proofs.YtdafjaimljhcaaaGreatDoor
