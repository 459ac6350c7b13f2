/- Walks: stamps a period later. -/
import Derived.Test.YtpgbmohocfcjpaaGreatDoorA8
namespace Go.Proofs.YtpgbmohocfcjpaaGreatDoor
set_option linter.unusedVariables false
set_option linter.unusedSimpArgs false
set_option maxRecDepth 100000
set_option maxHeartbeats 1000000
namespace D
open Go.RowKit
attribute [local irreducible] Calls

theorem dateOf_ok {n : Int} (h : (dateOf n).ok = true) : ∃ y m d : Int, dateOf n = ⟨y, m, d, true⟩ ∧ dval y m d = true ∧ num y m d = n := by
  cases hr : inR n 0 3652058 with
  | true =>
    obtain ⟨y, m, d, h1, h2, h3⟩ := dateOf_yes hr
    exact ⟨y, m, d, h3, h1, h2⟩
  | false => rw [dateOf_no hr] at h; cases h

theorem dshift_ok {y m d n k : Int} (h : (dshift y m d n k).ok = true) : ∃ y' m' d' : Int, dshift y m d n k = ⟨y', m', d', true⟩ ∧ dval y' m' d' = true := by
  unfold dshift at h ⊢
  split at h
  · rename_i h1
    rw [if_pos h1]
    unfold dayp at h ⊢
    split at h
    · rename_i h2
      rw [if_pos h2]
      obtain ⟨y', m', d', k1, k2, _⟩ := dateOf_ok h
      exact ⟨y', m', d', k1, k2⟩
    · cases h
  · cases h

/-- A stamp a period later. -/
noncomputable def splus (y m d h i s k o a x c d' f g : Int) (back : Bool) : SR :=
  if sval y m d h i s k o = true ∧ perV a x c d' f g = true ∧ (dshift y m d (sgn back * (12 * a + x)) (sgn back * c)).ok = true then
    stampAt (inst (dshift y m d (sgn back * (12 * a + x)) (sgn back * c)).y (dshift y m d (sgn back * (12 * a + x)) (sgn back * c)).m (dshift y m d (sgn back * (12 * a + x)) (sgn back * c)).d h i s k o + sgn back * (1000 * ((d' * 60 + f) * 60 + g))) o
  else SR.no

theorem a_StampPlus (y m d h i s k o a x c d' f g : Int) (back : Bool) (w : World) (hb : D.Base w) :
    Calls Tryz.prog 37 #[.agg #[.int .i64 y, .int .i64 m, .int .i64 d, .int .i64 h, .int .i64 i, .int .i64 s, .int .i64 k, .int .i64 o], .agg #[.int .i64 a, .int .i64 x, .int .i64 c, .int .i64 d', .int .i64 f, .int .i64 g], .bool back] w fun e w' => e = .returned (srV (splus y m d h i s k o a x c d' f g back)) ∧ Below w.heap.size w w' := by
  cases h1 : sval y m d h i s k o
  · have e : splus y m d h i s k o a x c d' f g back = SR.no := if_neg (by simp [h1])
    rw [e]
    refine enter Tryz.func37 rfl Tryz.ntmps37 rfl (by assumption) ?_
    (repeat' (first | intro (b : Nat) | refine go ?_ | (refine br ?_ ?_ <;> first | exact trivial | intro hq) | refine L.call (h := by intro W hW; apply rvb h1 (a_StampValid _ _ _ _ _ _ _ _ W hW.base)) (k := ?_) | refine L.callx (h := by intro W hW; apply rvb h1 (a_StampValid _ _ _ _ _ _ _ _ W hW.base)) (k := ?_) | refine gg ?_ | refine G.call (h := by intro W hW; apply rvb h1 (a_StampValid _ _ _ _ _ _ _ _ W hW.base)) (k := ?_) | refine G.callx (h := by intro W hW; apply rvb h1 (a_StampValid _ _ _ _ _ _ _ _ W hW.base)) (k := ?_) | (apply C.draww (id := 3) 10 [some _, none, some _, none, some _, some _, none, none, none, some _]) | (apply C.draww (id := 10) 9 [some _, some _, none, none, none, some _, some _, none, none])))
    (refine ret ?_; try exact rfl)
  cases h2 : perV a x c d' f g
  · have e : splus y m d h i s k o a x c d' f g back = SR.no := if_neg (by simp [h2])
    rw [e]
    refine enter Tryz.func37 rfl Tryz.ntmps37 rfl (by assumption) ?_
    (repeat' (first | intro (b : Nat) | refine go ?_ | (refine br ?_ ?_ <;> first | exact trivial | intro hq) | refine L.call (h := by intro W hW; first | apply rvb h1 (a_StampValid _ _ _ _ _ _ _ _ W hW.base) | apply rvb h2 (a_PeriodValid _ _ _ _ _ _ W hW.base)) (k := ?_) | refine L.callx (h := by intro W hW; first | apply rvb h1 (a_StampValid _ _ _ _ _ _ _ _ W hW.base) | apply rvb h2 (a_PeriodValid _ _ _ _ _ _ W hW.base)) (k := ?_) | refine gg ?_ | refine G.call (h := by intro W hW; first | apply rvb h1 (a_StampValid _ _ _ _ _ _ _ _ W hW.base) | apply rvb h2 (a_PeriodValid _ _ _ _ _ _ W hW.base)) (k := ?_) | refine G.callx (h := by intro W hW; first | apply rvb h1 (a_StampValid _ _ _ _ _ _ _ _ W hW.base) | apply rvb h2 (a_PeriodValid _ _ _ _ _ _ W hW.base)) (k := ?_) | (apply C.draww (id := 3) 10 [some _, none, some _, none, some _, some _, none, none, none, some _]) | (apply C.draww (id := 10) 9 [some _, some _, none, none, none, some _, some _, none, none])))
    (refine ret ?_; try exact rfl)
  have hv := perV_iff.1 h2
  obtain ⟨q1, q2, q3, q4⟩ := sval_parts h1
  have hsg : sgn back = 1 ∨ sgn back = -1 := by cases back <;> simp [sgn]
  have hT := fun b2 b3 s p W hs hp k2 k3 hb => a_then1 b2 b3 s p y m d a x c d' f g (sgn back) hsg (by omega) W hs hp k2 k3 hb
  have hS := a_shiftOf a x c d' f g back
  cases h3 : (dshift y m d (sgn back * (12 * a + x)) (sgn back * c)).ok
  · have e : splus y m d h i s k o a x c d' f g back = SR.no := if_neg (by simp [h3])
    rw [e]
    generalize dshift y m d (sgn back * (12 * a + x)) (sgn back * c) = S at hT h3
    obtain ⟨s1, s2, s3, s4⟩ := S
    simp only at h3
    subst h3
    simp only [drV] at hT
    generalize sgn back = sg at *
    refine enter Tryz.func37 rfl Tryz.ntmps37 rfl (by assumption) ?_
    (repeat' (first | intro (b : Nat) | refine go ?_ | (refine br ?_ ?_ <;> first | exact trivial | intro hq) | refine L.call (h := by intro W hW; first | apply rvb h1 (a_StampValid _ _ _ _ _ _ _ _ W hW.base) | apply rvb h2 (a_PeriodValid _ _ _ _ _ _ W hW.base)) (k := ?_) | refine L.callx (h := by intro W hW; first | apply rvb h1 (a_StampValid _ _ _ _ _ _ _ _ W hW.base) | apply rvb h2 (a_PeriodValid _ _ _ _ _ _ W hW.base)) (k := ?_) | refine gg ?_ | refine G.call (h := by intro W hW; first | apply rvb h1 (a_StampValid _ _ _ _ _ _ _ _ W hW.base) | apply rvb h2 (a_PeriodValid _ _ _ _ _ _ W hW.base)) (k := ?_) | refine G.callx (h := by intro W hW; first | apply rvb h1 (a_StampValid _ _ _ _ _ _ _ _ W hW.base) | apply rvb h2 (a_PeriodValid _ _ _ _ _ _ W hW.base)) (k := ?_) | (apply C.draww (id := 3) 10 [some _, none, some _, none, some _, some _, none, none, none, some _]) | (apply C.draww (id := 10) 9 [some _, some _, none, none, none, some _, some _, none, none])))
    (refine G.ncall (h := by intro W hW; exact hS W hW.base) (k := ?_); intro v H hR)
    obtain ⟨b2, b3, s9, p, rfl, rfl⟩ := hR
    (repeat (first | intro (b : Nat) | refine gg ?_))
    (refine G.callxd (X := shiftH b2 b3 s9 p a x c d' f g sg) (h := by intro W hW; exact hT b2 b3 s9 p W (hW.cell (by (repeat (first | exact List.Mem.head _ | apply List.Mem.tail))) rfl) (perAt_of hW (by (repeat (first | exact List.Mem.head _ | apply List.Mem.tail)))) (hW.cell (by (repeat (first | exact List.Mem.head _ | apply List.Mem.tail))) rfl) (hW.cell (by (repeat (first | exact List.Mem.head _ | apply List.Mem.tail))) rfl) hW.base) (k := ?_))
    (repeat (first | intro (b : Nat) | refine gg ?_))
    (repeat' (first | intro (b : Nat) | refine go ?_ | (refine br ?_ ?_ <;> first | exact trivial | intro hq)))
    (refine ret ?_; try exact rfl)
  · obtain ⟨y', m', d2, h4, h5⟩ := dshift_ok h3
    have e : splus y m d h i s k o a x c d' f g back = stampAt (inst y' m' d2 h i s k o + sgn back * (1000 * ((d' * 60 + f) * 60 + g))) o := by
      unfold splus
      rw [if_pos ⟨h1, h2, h3⟩, h4]
    rw [e]
    rw [h4] at hT
    simp only [drV] at hT
    have h6 : sval y' m' d2 h i s k o = true := by simp [sval, h5, q2, inR_true.2 ⟨q3, q4⟩]
    have hi := inst_bd h6
    have hA := a_StampAt (inst y' m' d2 h i s k o + sgn back * (1000 * ((d' * 60 + f) * 60 + g))) o
    generalize stampAt (inst y' m' d2 h i s k o + sgn back * (1000 * ((d' * 60 + f) * 60 + g))) o = S at hA ⊢
    obtain ⟨s1, s2, s3, s4, s5, s6, s7, s8, s9⟩ := S
    simp only [srV] at hA ⊢
    cases back
    all_goals
      simp only [sgn, Bool.false_eq_true, if_false, if_true, Int.one_mul, Int.neg_mul] at hA hT hS
      refine enter Tryz.func37 rfl Tryz.ntmps37 rfl (by assumption) ?_
      (repeat' (first | intro (b : Nat) | refine go ?_ | (refine br ?_ ?_ <;> first | exact trivial | intro hq) | refine L.call (h := by intro W hW; first | apply rvb h1 (a_StampValid _ _ _ _ _ _ _ _ W hW.base) | apply rvb h2 (a_PeriodValid _ _ _ _ _ _ W hW.base)) (k := ?_) | refine L.callx (h := by intro W hW; first | apply rvb h1 (a_StampValid _ _ _ _ _ _ _ _ W hW.base) | apply rvb h2 (a_PeriodValid _ _ _ _ _ _ W hW.base)) (k := ?_) | refine gg ?_ | refine G.call (h := by intro W hW; first | apply rvb h1 (a_StampValid _ _ _ _ _ _ _ _ W hW.base) | apply rvb h2 (a_PeriodValid _ _ _ _ _ _ W hW.base)) (k := ?_) | refine G.callx (h := by intro W hW; first | apply rvb h1 (a_StampValid _ _ _ _ _ _ _ _ W hW.base) | apply rvb h2 (a_PeriodValid _ _ _ _ _ _ W hW.base)) (k := ?_) | (apply C.draww (id := 3) 10 [some _, none, some _, none, some _, some _, none, none, none, some _]) | (apply C.draww (id := 10) 9 [some _, some _, none, none, none, some _, some _, none, none])))
      (refine G.ncall (h := by intro W hW; exact hS W hW.base) (k := ?_); intro v H hR)
      obtain ⟨b2, b3, s9, p, rfl, rfl⟩ := hR
      (repeat (first | intro (b : Nat) | refine gg ?_))
      (refine G.callxd (X := shiftH b2 b3 s9 p a x c d' f g _) (h := by intro W hW; exact hT b2 b3 s9 p W (hW.cell (by (repeat (first | exact List.Mem.head _ | apply List.Mem.tail))) rfl) (perAt_of hW (by (repeat (first | exact List.Mem.head _ | apply List.Mem.tail)))) (hW.cell (by (repeat (first | exact List.Mem.head _ | apply List.Mem.tail))) rfl) (hW.cell (by (repeat (first | exact List.Mem.head _ | apply List.Mem.tail))) rfl) hW.base) (k := ?_))
      (repeat' (first | intro (b : Nat) | refine go ?_ | (refine br ?_ ?_ <;> first | exact trivial | intro hq) | refine L.call (h := by intro W hW; first | apply a_secondsOf _ _ _ _ _ _ (by omega) W hW.base | apply a_instantOf _ _ _ _ _ _ _ _ h6 W hW.base | apply hA W hW.base) (k := ?_) | refine L.callx (h := by intro W hW; first | apply a_secondsOf _ _ _ _ _ _ (by omega) W hW.base | apply a_instantOf _ _ _ _ _ _ _ _ h6 W hW.base | apply hA W hW.base) (k := ?_) | refine gg ?_ | refine G.call (h := by intro W hW; first | apply a_secondsOf _ _ _ _ _ _ (by omega) W hW.base | apply a_instantOf _ _ _ _ _ _ _ _ h6 W hW.base | apply hA W hW.base) (k := ?_) | refine G.callx (h := by intro W hW; first | apply a_secondsOf _ _ _ _ _ _ (by omega) W hW.base | apply a_instantOf _ _ _ _ _ _ _ _ h6 W hW.base | apply hA W hW.base) (k := ?_) | (apply C.draww (id := 3) 10 [some _, none, some _, none, some _, some _, none, none, none, some _]) | (apply C.draww (id := 10) 9 [some _, some _, none, none, none, some _, some _, none, none])))
      (refine ret ?_; try exact rfl)

end D
end Go.Proofs.YtpgbmohocfcjpaaGreatDoor
