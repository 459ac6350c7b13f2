/- Walks: two stamps that are drawn. -/
import Derived.Test.YtpodhahlbdlgeaaDoorDr3
import Derived.Test.YtpodhahlbdlgeaaDoorS5
import Derived.Test.YtpodhahlbdlgeaaDoorEx
namespace Go.Proofs.YtpodhahlbdlgeaaDoor
set_option linter.unusedVariables false
set_option linter.unusedSimpArgs false
set_option maxRecDepth 100000
set_option maxHeartbeats 1000000
namespace D
open Go.RowKit
attribute [local irreducible] Calls

/-- A date that exists. -/
def GoodDate (v : Value) : Prop := ∃ y m d : Int, v = .agg #[.int .i64 y, .int .i64 m, .int .i64 d] ∧ dval y m d = true

theorem d_goodV (w0 : World) (F : SH) (s : Value) (r : Nat) (p : Int) (hc : CodeAt w0 s) (hp0 : 0 ≤ p) (hp : p ≤ 1000000000000) (w : World) (hst : St w0 ((r, rb s p) :: F) w) :
    Calls Tryd.prog 52 #[.pointer (some ⟨r, 0, none⟩)] w (LentV w0 r (rb s) p 9 F GoodDate) := by
  refine enterl Tryd.func52 rfl Tryd.ntmps52 rfl hst ?_
  (repeat (first | intro (b : Nat) | refine go ?_))
  (refine L.lcall (bs := rb s) (h := by intro W hW; exact d_date _ _ _ _ _ hc (by omega) (by omega) W hW) (k := ?_); intro v p1 hR hp1 hp2)
  obtain ⟨y, m, d, rfl⟩ := hR
  (repeat (first | intro (b : Nat) | refine go ?_))
  (refine L.call (h := by intro W hW; exact b_DateValid _ _ _ W hW.base) (k := ?_))
  (repeat' (first | intro (b : Nat) | refine go ?_ | (refine br ?_ ?_ <;> first | exact trivial | intro hq)))
  all_goals (refine retl ?_)
  · exact ⟨_, _, _, rfl, hq⟩
  · exact ⟨_, _, _, rfl, by decide⟩

/-- A stamp that exists. -/
def GoodStamp (v : Value) : Prop := ∃ y m d h i s k o : Int, v = .agg #[.int .i64 y, .int .i64 m, .int .i64 d, .int .i64 h, .int .i64 i, .int .i64 s, .int .i64 k, .int .i64 o] ∧ sval y m d h i s k o = true

theorem d_sound (w0 : World) (F : SH) (s : Value) (r : Nat) (p : Int) (hc : CodeAt w0 s) (hp0 : 0 ≤ p) (hp : p ≤ 1000000000) (w : World) (hst : St w0 ((r, rb s p) :: F) w) :
    Calls Tryd.prog 24 #[.pointer (some ⟨r, 0, none⟩)] w (LentV w0 r (rb s) p 60 F GoodStamp) := by
  refine enterl Tryd.func24 rfl Tryd.ntmps24 rfl hst ?_
  (repeat (first | intro (b : Nat) | refine go ?_))
  (refine L.lcall (bs := rb s) (h := by intro W hW; exact d_stamp _ _ _ _ _ hc (by omega) (by omega) W hW) (k := ?_); intro v p1 hR hp1 hp2)
  obtain ⟨y, m, d, h, i, s', k, o, rfl⟩ := hR
  (repeat (first | intro (b : Nat) | refine go ?_))
  (refine L.call (h := by intro W hW; exact b_StampValid _ _ _ _ _ _ _ _ W hW.base) (k := ?_))
  (repeat' (first | intro (b : Nat) | refine go ?_ | (refine br ?_ ?_ <;> first | exact trivial | intro hq)))
  · (refine retl ?_)
    exact ⟨_, _, _, _, _, _, _, _, rfl, hq⟩
  · (refine L.lcall (bs := rb s) (h := by intro W hW; exact d_goodV _ _ _ _ _ hc (by omega) (by omega) W hW) (k := ?_); intro v p1 hR hp1 hp2)
    obtain ⟨y, m, d, rfl, hd⟩ := hR
    (repeat (first | intro (b : Nat) | refine go ?_))
    (refine L.lcall (bs := rb s) (h := by intro W hW; exact d_pick1 _ _ _ _ _ _ hc (by omega) (by omega) (by omega) W hW) (k := ?_); intro v p1 hR hp1 hp2; obtain ⟨m, rfl, hm0, hm1⟩ := hR)
    (repeat (first | intro (b : Nat) | refine go ?_))
    (refine retl ?_)
    exact ⟨_, _, _, _, _, _, _, _, rfl, by simp [sval, cval, inR, hd]; omega⟩

def StampBool (v : Value) : Prop := ∃ y m d h i s k o : Int, ∃ ok : Bool, v = .tuple #[.agg #[.int .i64 y, .int .i64 m, .int .i64 d, .int .i64 h, .int .i64 i, .int .i64 s, .int .i64 k, .int .i64 o], .bool ok]

theorem b_StampAt_some (n o : Int) (w : World) (hb : D.Base w) : Calls Tryd.prog 27 #[.int .i64 n, .int .i64 o] w (RetV w StampBool) :=
  (b_StampAt n o w hb).mono fun e w' ⟨he, hw⟩ => ⟨_, he, ⟨_, _, _, _, _, _, _, _, _, rfl⟩, hw⟩

def TwoStamps (v : Value) : Prop := ∃ y m d h i s k o y' m' d' h' i' s' k' o' : Int, v = .tuple #[.agg #[.int .i64 y, .int .i64 m, .int .i64 d, .int .i64 h, .int .i64 i, .int .i64 s, .int .i64 k, .int .i64 o], .agg #[.int .i64 y', .int .i64 m', .int .i64 d', .int .i64 h', .int .i64 i', .int .i64 s', .int .i64 k', .int .i64 o']]

theorem d_two (w0 : World) (F : SH) (s : Value) (r : Nat) (p : Int) (hc : CodeAt w0 s) (hp0 : 0 ≤ p) (hp : p ≤ 100000000) (w : World) (hst : St w0 ((r, rb s p) :: F) w) :
    Calls Tryd.prog 10 #[.pointer (some ⟨r, 0, none⟩)] w (LentV w0 r (rb s) p 200 F TwoStamps) := by
  refine enterl Tryd.func10 rfl Tryd.ntmps10 rfl hst ?_
  (repeat (first | intro (b : Nat) | refine go ?_))
  (refine L.lcall (bs := rb s) (h := by intro W hW; exact d_sound _ _ _ _ _ hc (by omega) (by omega) W hW) (k := ?_); intro v p1 hR hp1 hp2)
  obtain ⟨y, m, d, h, i, s', k, o, rfl, hv⟩ := hR
  (repeat (first | intro (b : Nat) | refine go ?_))
  (refine L.lcall (bs := rb s) (h := by intro W hW; exact d_pick1 _ _ _ _ _ _ hc (by omega) (by omega) (by omega) W hW) (k := ?_); intro v p1 hR hp1 hp2; obtain ⟨m, rfl, hm0, hm1⟩ := hR)
  (repeat' (first | intro (b : Nat) | refine go ?_ | (refine br ?_ ?_ <;> first | exact trivial | intro hq)))
  · (refine C.any (h := ?_))
    (repeat' (first | intro (b : Nat) | refine go ?_ | refine X.then_any ?_ | refine A.done (k := ?_) | refine A.r1 (h := ?_) | refine A.r2 (h := ?_) (h' := ?_) | refine A.r3 (h := ?_) (h' := ?_) (h'' := ?_)))
    all_goals ((refine L.lcall (bs := rb s) (h := by intro W hW; exact d_stamp _ _ _ _ _ hc (by omega) (by omega) W hW) (k := ?_); intro v p1 hR hp1 hp2))
    all_goals (obtain ⟨y2, m2, d2, h2, i2, s2, k2, o2, rfl⟩ := hR)
    all_goals (repeat' (first | intro (b : Nat) | refine go ?_ | refine X.then_any ?_ | refine A.done (k := ?_) | refine A.r1 (h := ?_) | refine A.r2 (h := ?_) (h' := ?_) | refine A.r3 (h := ?_) (h' := ?_) (h'' := ?_)))
    all_goals (refine retl ?_)
    all_goals exact ⟨_, _, _, _, _, _, _, _, _, _, _, _, _, _, _, _, rfl⟩
  · have hi := inst_bd hv
    (refine L.call (h := by intro W hW; exact b_l12 _ _ _ _ _ _ _ _ hv W hW.base) (k := ?_))
    (repeat (first | intro (b : Nat) | refine go ?_))
    (refine L.lcall (bs := rb s) (h := by intro W hW; exact d_pick1 _ _ _ _ _ _ hc (by omega) (by omega) (by omega) W hW) (k := ?_); intro v p1 hR hp1 hp2; obtain ⟨m, rfl, hm0, hm1⟩ := hR)
    rename_i m1 _ _
    (repeat (first | intro (b : Nat) | refine go ?_))
    (refine L.lcall (bs := rb s) (h := by intro W hW; exact d_pick1 _ _ _ _ _ _ hc (by omega) (by omega) (by omega) W hW) (k := ?_); intro v p1 hR hp1 hp2; obtain ⟨m, rfl, hm0, hm1⟩ := hR)
    rename_i m2 hm20 hm21
    have hmm := Int.mul_le_mul_of_nonneg_right (show m1 - 60 ≤ 190 by omega) (show 0 ≤ 1 + m2 by omega)
    have hmm2 := Int.mul_le_mul_of_nonneg_right (show -60 ≤ m1 - 60 by omega) (show 0 ≤ 1 + m2 by omega)
    (repeat (first | intro (b : Nat) | refine go ?_))
    (refine L.lcall (bs := rb s) (h := by intro W hW; exact d_offset _ _ _ _ _ hc (by omega) (by omega) W hW) (k := ?_); intro v p1 hR hp1 hp2)
    obtain ⟨o3, rfl, ho1, ho2⟩ := hR
    (repeat (first | intro (b : Nat) | refine go ?_))
    (refine L.vcall (h := by intro W hW; exact b_StampAt_some _ _ W hW.base) (k := ?_); intro v hR)
    obtain ⟨y3, m3, d3, h3, i3, s3, k3, o4, ok, rfl⟩ := hR
    (repeat' (first | intro (b : Nat) | refine go ?_ | (refine br ?_ ?_ <;> first | exact trivial | intro hq)))
    · (refine C.any (h := ?_))
      (repeat' (first | intro (b : Nat) | refine go ?_ | refine X.then_any ?_ | refine A.done (k := ?_) | refine A.r1 (h := ?_) | refine A.r2 (h := ?_) (h' := ?_) | refine A.r3 (h := ?_) (h' := ?_) (h'' := ?_)))
      all_goals ((refine L.lcall (bs := rb s) (h := by intro W hW; exact d_stamp _ _ _ _ _ hc (by omega) (by omega) W hW) (k := ?_); intro v p1 hR hp1 hp2))
      all_goals (obtain ⟨y2, m2, d2, h2, i2, s2, k2, o2, rfl⟩ := hR)
      all_goals (repeat' (first | intro (b : Nat) | refine go ?_ | refine X.then_any ?_ | refine A.done (k := ?_) | refine A.r1 (h := ?_) | refine A.r2 (h := ?_) (h' := ?_) | refine A.r3 (h := ?_) (h' := ?_) (h'' := ?_)))
      all_goals (refine retl ?_)
      all_goals exact ⟨_, _, _, _, _, _, _, _, _, _, _, _, _, _, _, _, rfl⟩
    · (refine C.any (h := ?_))
      (repeat' (first | intro (b : Nat) | refine go ?_ | refine X.then_any ?_ | refine A.done (k := ?_) | refine A.r1 (h := ?_) | refine A.r2 (h := ?_) (h' := ?_) | refine A.r3 (h := ?_) (h' := ?_) (h'' := ?_)))
      all_goals (refine retl ?_)
      all_goals exact ⟨_, _, _, _, _, _, _, _, _, _, _, _, _, _, _, _, rfl⟩

theorem d_StampsBetween (s0 : Value) (w : World) (hc0 : CodeAt w s0) (hb : D.Base w) : Calls Tryd.prog 4 #[s0] w (RetV w TwoStamps) := by
  refine enter Tryd.func4 rfl Tryd.ntmps4 rfl (by assumption) ?_
  (repeat (first | intro (b : Nat) | refine go ?_))
  (refine L.ncall (h := by intro W hW; exact d_open w s0 hc0 W hW.base) (k := ?_); intro v H hR)
  obtain ⟨r, s, rfl, rfl, hc⟩ := hR
  simp only [List.cons_append, List.nil_append]
  (repeat (first | intro (b : Nat) | refine go ?_))
  (refine L.lcall (bs := rb s) (h := by intro W hW; exact d_two _ _ _ _ _ hc (by omega) (by omega) W hW) (k := ?_); intro v p1 hR hp1 hp2)
  obtain ⟨y, m, d, h, i, s', k, o, y2, m2, d2, h2, i2, s2, k2, o2, rfl⟩ := hR
  (repeat (first | intro (b : Nat) | refine go ?_))
  (refine retw ?_)
  exact ⟨_, _, _, _, _, _, _, _, _, _, _, _, _, _, _, _, rfl⟩

end D
end Go.Proofs.YtpodhahlbdlgeaaDoor
