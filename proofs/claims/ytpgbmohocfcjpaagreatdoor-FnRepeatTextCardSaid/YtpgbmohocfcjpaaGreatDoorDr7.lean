/- Walks: spans, periods and repeats that are drawn. -/
import Derived.Test.YtpgbmohocfcjpaaGreatDoorDr
import Derived.Test.YtpgbmohocfcjpaaGreatDoorPx
import Derived.Test.YtpgbmohocfcjpaaGreatDoorSp4
namespace Go.Proofs.YtpgbmohocfcjpaaGreatDoor
set_option linter.unusedVariables false
set_option linter.unusedSimpArgs false
set_option maxRecDepth 100000
set_option maxHeartbeats 1000000
namespace D
open Go.RowKit
attribute [local irreducible] Calls

theorem d_SpanTextD (s0 : Value) (w : World) (hc0 : CodeAt w s0) (hb : D.Base w) : Calls Tryz.prog 30 #[s0] w (RetV w TwoStamps) := by
  refine enter Tryz.func30 rfl Tryz.ntmps30 rfl (by assumption) ?_
  (repeat (first | intro (b : Nat) | refine go ?_))
  (refine L.ncall (h := by intro W hW; exact d_open w s0 hc0 W hW.base) (k := ?_); intro v H hR)
  obtain ⟨r, s, rfl, rfl, hc⟩ := hR
  simp only [List.cons_append, List.nil_append]
  (repeat (first | intro (b : Nat) | refine go ?_))
  (refine L.lcall (bs := rb s) (h := by intro W hW; exact d_two _ _ _ _ _ hc (by omega) (by omega) W hW) (k := ?_); intro v p1 hR hp1 hp2)
  obtain ⟨y, m, d, h, i, s', k, o, y2, m2, d2, h2, i2, s2, k2, o2, rfl⟩ := hR
  (repeat (first | intro (b : Nat) | refine go ?_))
  (refine retw ?_)
  exact ⟨_, _, _, _, _, _, _, _, _, _, _, _, _, _, _, _, rfl⟩

def SomePeriod (v : Value) : Prop := ∃ p : P6, v = .agg #[.int .i64 p.a, .int .i64 p.b, .int .i64 p.c, .int .i64 p.d, .int .i64 p.e, .int .i64 p.f]

theorem d_period (w0 : World) (F : SH) (s : Value) (r : Nat) (p : Int) (hc : CodeAt w0 s) (hp0 : 0 ≤ p) (hp : p ≤ 100000000000) (w : World) (hst : St w0 ((r, rb s p) :: F) w) :
    Calls Tryz.prog 127 #[.pointer (some ⟨r, 0, none⟩)] w (LentV w0 r (rb s) p 20 F SomePeriod) := by
  refine enterl Tryz.func127 rfl Tryz.ntmps127 rfl hst ?_
  (repeat' (first | intro (b : Nat) | refine go ?_ | (refine br ?_ ?_ <;> first | exact trivial | intro hq) | (refine L.lcall (bs := rb s) (h := by intro W hW; exact d_pick1 _ _ _ _ _ _ hc (by omega) (by omega) (by omega) W hW) (k := ?_); intro v p1 hR hp1 hp2; obtain ⟨m, rfl, hm0, hm1⟩ := hR) | (apply L.li (lo := -100000000) (hi := 100000000); exact rfl; exact rfl; exact rfl; (· (repeat (first | exact List.Mem.head _ | apply List.Mem.tail))); (· simp <;> omega); (· (repeat (first | exact AllI.nil | (apply AllI.cons; omega; omega)))); intro m hm0 hm1)))
  all_goals (refine retl ?_)
  all_goals exact ⟨⟨_, _, _, _, _, _⟩, rfl⟩

theorem perX_size (p : P6) : (perX p).size ≤ 40 := by
  unfold perX
  split
  · rw [strOfNums_size]
    cases h : pzero p with
    | true => rw [perL_z p h]; decide
    | false => rw [← preP_end p h]; exact preP_len p 6
  · decide

theorem d_PeriodTextT (w0 : World) (F : SH) (s : Value) (r : Nat) (p : Int) (hc : CodeAt w0 s) (hp0 : 0 ≤ p) (hp : p ≤ 10000000000) (w : World) (hst : St w0 ((r, rb s p) :: F) w) :
    Calls Tryz.prog 74 #[.pointer (some ⟨r, 0, none⟩)] w (LentV w0 r (rb s) p 40 F (StrIn 100)) := by
  refine enterl Tryz.func74 rfl Tryz.ntmps74 rfl hst ?_
  (repeat (first | intro (b : Nat) | refine go ?_))
  (refine L.lcall (bs := rb s) (h := by intro W hW; exact d_pick1 _ _ _ _ _ _ hc (by omega) (by omega) (by omega) W hW) (k := ?_); intro v p1 hR hp1 hp2; obtain ⟨m, rfl, hm0, hm1⟩ := hR)
  (repeat' (first | intro (b : Nat) | refine go ?_ | (refine br ?_ ?_ <;> first | exact trivial | intro hq)))
  · (refine L.lcall (bs := rb s) (h := by intro W hW; exact d_of _ _ s r _ hc (by omega) (by omega) _ 19 60 _ rfl (by omega) (List.Mem.head _) (by repeat (first | exact AllS.nil | (refine AllS.cons (by decide) ?_))) W hW) (k := ?_); intro v p1 hR hp1 hp2)
    obtain ⟨u, rfl, hu⟩ := hR
    (repeat (first | intro (b : Nat) | refine go ?_))
    (refine retl ?_)
    exact ⟨_, rfl, by omega⟩
  · (refine L.lcall (bs := rb s) (h := by intro W hW; exact d_period _ _ _ _ _ hc (by omega) (by omega) W hW) (k := ?_); intro v p1 hR hp1 hp2)
    obtain ⟨q, rfl⟩ := hR
    have hz := perX_size q
    have hT := b_PeriodText q
    generalize perX q = t at *
    (repeat (first | intro (b : Nat) | refine go ?_))
    (refine L.call (h := by intro W hW; exact hT W hW.base) (k := ?_))
    (repeat (first | intro (b : Nat) | refine go ?_))
    (refine L.lcall (bs := rb s) (h := by intro W hW; exact d_of _ _ s r _ hc (by omega) (by omega) _ 4 10 _ rfl (by omega) (List.Mem.head _) (by repeat (first | exact AllS.nil | (refine AllS.cons (by decide) ?_))) W hW) (k := ?_); intro v p1 hR hp1 hp2)
    obtain ⟨u, rfl, hu⟩ := hR
    (repeat (first | intro (b : Nat) | refine go ?_))
    (refine retl ?_)
    exact ⟨_, rfl, by simp only [ByteArray.size_append]; omega⟩
  · (refine L.lcall (bs := rb s) (h := by intro W hW; exact d_period _ _ _ _ _ hc (by omega) (by omega) W hW) (k := ?_); intro v p1 hR hp1 hp2)
    obtain ⟨q, rfl⟩ := hR
    have hz := perX_size q
    have hT := b_PeriodText q
    generalize perX q = t at *
    (repeat (first | intro (b : Nat) | refine go ?_))
    (refine L.call (h := by intro W hW; exact hT W hW.base) (k := ?_))
    (repeat (first | intro (b : Nat) | refine go ?_))
    (refine retl ?_)
    exact ⟨_, rfl, by omega⟩

theorem stT_size (y m d h i s k o : Int) : (stT y m d h i s k o).size ≤ 40 := by
  unfold stT
  split
  · exact stL_size.2
  · decide

theorem d_SpanFromD (s0 : Value) (w : World) (hc0 : CodeAt w s0) (hb : D.Base w) : Calls Tryz.prog 33 #[s0] w (RetV w (StrIn 1000)) := by
  refine enter Tryz.func33 rfl Tryz.ntmps33 rfl (by assumption) ?_
  (repeat (first | intro (b : Nat) | refine go ?_))
  (refine L.ncall (h := by intro W hW; exact d_open w s0 hc0 W hW.base) (k := ?_); intro v H hR)
  obtain ⟨r, s, rfl, rfl, hc⟩ := hR
  simp only [List.cons_append, List.nil_append]
  (repeat (first | intro (b : Nat) | refine go ?_))
  (refine L.lcall (bs := rb s) (h := by intro W hW; exact d_two _ _ _ _ _ hc (by omega) (by omega) W hW) (k := ?_); intro v p1 hR hp1 hp2)
  obtain ⟨y, m, d, h, i, s', k, o, y2, m2, d2, h2, i2, s2, k2, o2, rfl⟩ := hR
  have z1 := stT_size y m d h i s' k o
  have z2 := stT_size y2 m2 d2 h2 i2 s2 k2 o2
  have hX := b_StampText y m d h i s' k o
  have hY := b_StampText y2 m2 d2 h2 i2 s2 k2 o2
  generalize stT y m d h i s' k o = t at *
  generalize stT y2 m2 d2 h2 i2 s2 k2 o2 = u at *
  (repeat (first | intro (b : Nat) | refine go ?_))
  (refine L.call (h := by intro W hW; exact hX W hW.base) (k := ?_))
  (repeat (first | intro (b : Nat) | refine go ?_))
  (refine L.call (h := by intro W hW; exact hY W hW.base) (k := ?_))
  (repeat (first | intro (b : Nat) | refine go ?_))
  (refine L.lcall (bs := rb s) (h := by intro W hW; exact d_pick1 _ _ _ _ _ _ hc (by omega) (by omega) (by omega) W hW) (k := ?_); intro v p1 hR hp1 hp2; obtain ⟨m, rfl, hm0, hm1⟩ := hR)
  (repeat' (first | intro (b : Nat) | refine go ?_ | (refine br ?_ ?_ <;> first | exact trivial | intro hq)))
  all_goals first
    | ((refine L.lcall (bs := rb s) (h := by intro W hW; exact d_PeriodTextT _ _ _ _ _ hc (by omega) (by omega) W hW) (k := ?_); intro v p1 hR hp1 hp2)
       obtain ⟨v1, rfl, hv1⟩ := hR
       (repeat (first | intro (b : Nat) | refine go ?_))
       (refine retw ?_)
       exact ⟨_, rfl, by simp only [ByteArray.size_append, strOfNums_size, List.length_cons, List.length_nil, size_lit]; omega⟩)
    | ((refine L.lcall (bs := rb s) (h := by intro W hW; exact d_of _ _ s r _ hc (by omega) (by omega) _ 6 200 _ rfl (by omega) (List.Mem.head _) (by repeat (first | exact AllS.nil | (refine AllS.cons (by first | omega | (simp only [ByteArray.size_append, strOfNums_size, List.length_cons, List.length_nil, size_lit]; omega)) ?_))) W hW) (k := ?_); intro v p1 hR hp1 hp2)
       obtain ⟨v1, rfl, hv1⟩ := hR
       (repeat (first | intro (b : Nat) | refine go ?_))
       (refine retw ?_)
       exact ⟨_, rfl, by omega⟩)
    | ((refine retw ?_)
       exact ⟨_, rfl, by simp only [ByteArray.size_append, strOfNums_size, List.length_cons, List.length_nil, size_lit]; omega⟩)

end D
end Go.Proofs.YtpgbmohocfcjpaaGreatDoor
