/- Walks: the date of any day, shifts by days, stamps of instants, rounding. -/
import Derived.Test.YtboglbdhibcacaaGreatDoorVf
import Derived.Test.YtboglbdhibcacaaGreatDoorVj
import Derived.Test.YtboglbdhibcacaaGreatDoorVe
namespace Go.Proofs.YtboglbdhibcacaaGreatDoor
set_option linter.unusedVariables false
set_option linter.unusedSimpArgs false
set_option maxRecDepth 100000
set_option maxHeartbeats 1000000
namespace D
open Go.RowKit
attribute [local irreducible] Calls

/-- A stamp and whether there is one, as values. -/
def srV (r : SR) : Value := .tuple #[.agg #[.int .i64 r.y, .int .i64 r.m, .int .i64 r.d, .int .i64 r.h, .int .i64 r.i, .int .i64 r.s, .int .i64 r.k, .int .i64 r.o], .bool r.ok]

theorem a_DateOfG (n : Int) (w : World) (hb : D.Base w) : Calls Tryz.prog 212 #[.int .i64 n] w fun e w' => e = .returned (drV (dateOf n)) ∧ Below w.heap.size w w' := by
  cases h : inR n 0 3652058 with
  | true =>
    obtain ⟨y, m, d, h1, rfl, h2⟩ := dateOf_yes h
    rw [h2]
    exact a_DateOf y m d h1 w hb
  | false =>
    rw [dateOf_no h]
    exact a_DateOf_no n h w hb

theorem a_DayPlusG (y m d n : Int) (w : World) (hb : D.Base w) : Calls Tryz.prog 210 #[.agg #[.int .i64 y, .int .i64 m, .int .i64 d], .int .i64 n] w fun e w' => e = .returned (drV (dayp y m d n)) ∧ Below w.heap.size w w' := by
  by_cases h : dval y m d = true ∧ inR n (-3652058) 3652058 = true
  · rw [dayp, if_pos h]
    cases hr : inR (num y m d + n) 0 3652058 with
    | true =>
      obtain ⟨y', m', d', h1, h2, h3⟩ := dateOf_yes hr
      rw [h3]
      exact a_DayPlus y m d n y' m' d' h.1 h1 h2.symm w hb
    | false =>
      rw [dateOf_no hr]
      exact a_DayPlus_no y m d n (fun k => by rw [hr] at k; cases k.2.2) w hb
  · rw [dayp, if_neg h]
    exact a_DayPlus_no y m d n (fun k => h ⟨k.1, k.2.1⟩) w hb

theorem a_clockAt (n : Int) (h0 : 0 ≤ n ∧ n ≤ 9223372036854775807) (w : World) (hb : D.Base w) : Calls Tryz.prog 213 #[.int .i64 n] w fun e w' => e = .returned (.agg #[.int .i64 (n / 3600000), .int .i64 (n / 60000 % 60), .int .i64 (n / 1000 % 60), .int .i64 (n % 1000)]) ∧ Below w.heap.size w w' := by
  refine enter Tryz.func213 rfl Tryz.ntmps213 rfl (by assumption) ?_
  (repeat' (first | intro (b : Nat) | refine go ?_ | (refine br ?_ ?_ <;> first | exact trivial | intro hq)))
  (refine ret ?_; try exact rfl)

theorem a_instantValid (n : Int) (w : World) (hb : D.Base w) : Calls Tryz.prog 211 #[.int .i64 n] w fun e w' => e = .returned (.bool (inR n (-86400000) 315537984000000)) ∧ Below w.heap.size w w' := by
  refine enter Tryz.func211 rfl Tryz.ntmps211 rfl (by assumption) ?_
  (repeat' (first | intro (b : Nat) | refine go ?_ | (refine br ?_ ?_ <;> first | exact trivial | intro hq) | refine L.call (h := by intro W hW; apply a_within _ _ _ W hW.base) (k := ?_)))
  (refine ret ?_; try exact rfl)

theorem a_StampAt (n o : Int) (w : World) (hb : D.Base w) : Calls Tryz.prog 168 #[.int .i64 n, .int .i64 o] w fun e w' => e = .returned (srV (stampAt n o)) ∧ Below w.heap.size w w' := by
  cases h1 : inR n (-86400000) 315537984000000
  · have e : stampAt n o = SR.no := if_neg (by simp [h1])
    rw [e]
    refine enter Tryz.func168 rfl Tryz.ntmps168 rfl (by assumption) ?_
    (repeat' (first | intro (b : Nat) | refine go ?_ | (refine br ?_ ?_ <;> first | exact trivial | intro hq) | refine L.call (h := by intro W hW; apply rvb h1 (a_instantValid _ W hW.base)) (k := ?_) | refine gg ?_ | refine G.call (h := by intro W hW; apply rvb h1 (a_instantValid _ W hW.base)) (k := ?_) | (apply C.draww (id := 9) 6 [some _, none, none, some _, none, none])))
    (refine ret ?_; try exact rfl)
  cases h2 : inR o (-1439) 1439
  · have e : stampAt n o = SR.no := if_neg (by simp [h2])
    rw [e]
    refine enter Tryz.func168 rfl Tryz.ntmps168 rfl (by assumption) ?_
    (repeat' (first | intro (b : Nat) | refine go ?_ | (refine br ?_ ?_ <;> first | exact trivial | intro hq) | refine L.call (h := by intro W hW; first | apply rvb h1 (a_instantValid _ W hW.base) | apply rvb h2 (a_offsetValid _ W hW.base)) (k := ?_) | refine gg ?_ | refine G.call (h := by intro W hW; first | apply rvb h1 (a_instantValid _ W hW.base) | apply rvb h2 (a_offsetValid _ W hW.base)) (k := ?_) | (apply C.draww (id := 9) 6 [some _, none, none, some _, none, none])))
    (refine ret ?_; try exact rfl)
  have hn := inR_true.1 h1
  have ho := inR_true.1 h2
  by_cases hL : 0 ≤ n + 60000 * o
  · have e : stampAt n o = stampL (n + 60000 * o) o := if_pos ⟨h1, h2, hL⟩
    rw [e]
    cases hr : inR ((n + 60000 * o) / 86400000) 0 3652058 with
    | true =>
      obtain ⟨y, m, d, k1, k2, k3⟩ := stampL_yes o hr
      rw [k3, srV]
      have k4 := a_DateOf y m d k1
      rw [k2] at k4
      refine enter Tryz.func168 rfl Tryz.ntmps168 rfl (by assumption) ?_
      (repeat' (first | intro (b : Nat) | refine go ?_ | (refine br ?_ ?_ <;> first | exact trivial | intro hq) | refine L.call (h := by intro W hW; first | apply rvb h1 (a_instantValid _ W hW.base) | apply rvb h2 (a_offsetValid _ W hW.base) | apply k4 W hW.base | apply a_clockAt _ (by omega) W hW.base) (k := ?_) | refine gg ?_ | refine G.call (h := by intro W hW; first | apply rvb h1 (a_instantValid _ W hW.base) | apply rvb h2 (a_offsetValid _ W hW.base) | apply k4 W hW.base | apply a_clockAt _ (by omega) W hW.base) (k := ?_) | (apply C.draww (id := 9) 6 [some _, none, none, some _, none, none])))
      (refine ret ?_; try exact rfl)
    | false =>
      rw [stampL_no o hr]
      refine enter Tryz.func168 rfl Tryz.ntmps168 rfl (by assumption) ?_
      (repeat' (first | intro (b : Nat) | refine go ?_ | (refine br ?_ ?_ <;> first | exact trivial | intro hq) | refine L.call (h := by intro W hW; first | apply rvb h1 (a_instantValid _ W hW.base) | apply rvb h2 (a_offsetValid _ W hW.base) | apply a_DateOf_no _ hr W hW.base) (k := ?_) | refine gg ?_ | refine G.call (h := by intro W hW; first | apply rvb h1 (a_instantValid _ W hW.base) | apply rvb h2 (a_offsetValid _ W hW.base) | apply a_DateOf_no _ hr W hW.base) (k := ?_) | (apply C.draww (id := 9) 6 [some _, none, none, some _, none, none])))
      (refine ret ?_; try exact rfl)
  · have e : stampAt n o = SR.no := if_neg (fun k => hL k.2.2)
    rw [e]
    refine enter Tryz.func168 rfl Tryz.ntmps168 rfl (by assumption) ?_
    (repeat' (first | intro (b : Nat) | refine go ?_ | (refine br ?_ ?_ <;> first | exact trivial | intro hq) | refine L.call (h := by intro W hW; first | apply rvb h1 (a_instantValid _ W hW.base) | apply rvb h2 (a_offsetValid _ W hW.base)) (k := ?_) | refine gg ?_ | refine G.call (h := by intro W hW; first | apply rvb h1 (a_instantValid _ W hW.base) | apply rvb h2 (a_offsetValid _ W hW.base)) (k := ?_) | (apply C.draww (id := 9) 6 [some _, none, none, some _, none, none])))
    (refine ret ?_; try exact rfl)

end D
end Go.Proofs.YtboglbdhibcacaaGreatDoor

namespace Go.Proofs.YtboglbdhibcacaaGreatDoor
set_option linter.unusedVariables false
set_option linter.unusedSimpArgs false
set_option maxRecDepth 100000
set_option maxHeartbeats 1000000
namespace D
open Go.RowKit
attribute [local irreducible] Calls

def sgn (back : Bool) : Int := if back then -1 else 1

theorem a_monthsOf (a x c d f g : Int) (h : 0 ≤ a ∧ a ≤ 9999 ∧ 0 ≤ x ∧ x ≤ 9999) (w : World) (hb : D.Base w) :
    Calls Tryz.prog 207 #[.agg #[.int .i64 a, .int .i64 x, .int .i64 c, .int .i64 d, .int .i64 f, .int .i64 g]] w fun e w' => e = .returned (.int .i64 (12 * a + x)) ∧ Below w.heap.size w w' := by
  refine enter Tryz.func207 rfl Tryz.ntmps207 rfl (by assumption) ?_
  (repeat' (first | intro (b : Nat) | refine go ?_ | (refine br ?_ ?_ <;> first | exact trivial | intro hq)))
  (refine ret ?_; try exact rfl)

theorem a_secondsOf (a x c d f g : Int) (h : 0 ≤ d ∧ d ≤ 9999 ∧ 0 ≤ f ∧ f ≤ 9999 ∧ 0 ≤ g ∧ g ≤ 9999) (w : World) (hb : D.Base w) :
    Calls Tryz.prog 167 #[.agg #[.int .i64 a, .int .i64 x, .int .i64 c, .int .i64 d, .int .i64 f, .int .i64 g]] w fun e w' => e = .returned (.int .i64 ((d * 60 + f) * 60 + g)) ∧ Below w.heap.size w w' := by
  refine enter Tryz.func167 rfl Tryz.ntmps167 rfl (by assumption) ?_
  (repeat' (first | intro (b : Nat) | refine go ?_ | (refine br ?_ ?_ <;> first | exact trivial | intro hq)))
  (refine ret ?_; try exact rfl)

/-- A period that lies in a block. -/
def PerAt (w : World) (p : Nat) (a x c d f g : Int) : Prop := ∀ j v, [Value.int .i64 a, .int .i64 x, .int .i64 c, .int .i64 d, .int .i64 f, .int .i64 g][j]? = some v → w.cell? ⟨p, 0 + j, none⟩ = some v

theorem a_shift1 (s p : Nat) (y m d a x c e' f g sg : Int) (hsg : sg = 1 ∨ sg = -1) (h : 0 ≤ a ∧ a ≤ 9999 ∧ 0 ≤ x ∧ x ≤ 9999) (w : World) (hs : w.cell? ⟨s, 0, none⟩ = some (.int .i64 sg)) (hp : PerAt w p a x c e' f g) (hb : D.Base w) :
    Calls Tryz.prog 206 #[.agg #[.int .i64 y, .int .i64 m, .int .i64 d], .pointer (some ⟨s, 0, none⟩), .pointer (some ⟨p, 0, none⟩)] w fun e w' => e = .returned (drV (mplus y m d (sg * (12 * a + x)))) ∧ Below w.heap.size w w' := by
  unfold PerAt at hp
  have hM := a_MonthPlus y m d (sg * (12 * a + x))
  generalize mplus y m d (sg * (12 * a + x)) = S at hM ⊢
  obtain ⟨s1, s2, s3, s4⟩ := S
  simp only [drV] at hM ⊢
  rcases hsg with rfl | rfl
  all_goals
    refine enter Tryz.func206 rfl Tryz.ntmps206 rfl (by assumption) ?_
    (repeat' (first | intro (b : Nat) | refine go ?_ | (refine br ?_ ?_ <;> first | exact trivial | intro hq) | refine L.call (h := by intro W hW; first | apply a_monthsOf _ _ _ _ _ _ h W hW.base | apply hM W hW.base) (k := ?_) | refine gg ?_ | refine G.call (h := by intro W hW; first | apply a_monthsOf _ _ _ _ _ _ h W hW.base | apply hM W hW.base) (k := ?_) | (apply C.draww (id := 1) 8 [some _, some _, some _, some _, none, some _, none, none])))
    (refine ret ?_; try exact rfl)

theorem a_shift2 (s p : Nat) (y m d a x c e' f g sg : Int) (hsg : sg = 1 ∨ sg = -1) (h : 0 ≤ c ∧ c ≤ 9999) (w : World) (hs : w.cell? ⟨s, 0, none⟩ = some (.int .i64 sg)) (hp : PerAt w p a x c e' f g) (hb : D.Base w) :
    Calls Tryz.prog 209 #[.agg #[.int .i64 y, .int .i64 m, .int .i64 d], .pointer (some ⟨s, 0, none⟩), .pointer (some ⟨p, 0, none⟩)] w fun e w' => e = .returned (drV (dayp y m d (sg * c))) ∧ Below w.heap.size w w' := by
  have hp2 : w.cell? ⟨p, 0 + 2, none⟩ = some (.int .i64 c) := hp 2 _ rfl
  have hM := a_DayPlusG y m d (sg * c)
  generalize dayp y m d (sg * c) = S at hM ⊢
  obtain ⟨s1, s2, s3, s4⟩ := S
  simp only [drV] at hM ⊢
  rcases hsg with rfl | rfl
  all_goals
    refine enter Tryz.func209 rfl Tryz.ntmps209 rfl (by assumption) ?_
    (repeat' (first | intro (b : Nat) | refine go ?_ | (refine br ?_ ?_ <;> first | exact trivial | intro hq) | refine L.call (h := by intro W hW; apply hM W hW.base) (k := ?_)))
    (refine ret ?_; try exact rfl)

/-- Months, and then days. -/
noncomputable def dshift (y m d n k : Int) : DR := if (mplus y m d n).ok = true then dayp (mplus y m d n).y (mplus y m d n).m (mplus y m d n).d k else DR.no

theorem PerAt.keep {w w' : World} {p : Nat} {a x c d f g : Int} (h : PerAt w p a x c d f g) (hb : Below w.heap.size w w') : PerAt w' p a x c d f g := fun j v hj => (hb.cell (World.block_lt_of_cell? _ _ (h j v hj))).trans (h j v hj)

theorem cell_keep {w w' : World} {b o : Nat} {v : Value} (h : w.cell? ⟨b, o, none⟩ = some v) (hb : Below w.heap.size w w') : w'.cell? ⟨b, o, none⟩ = some v := (hb.cell (World.block_lt_of_cell? _ _ h)).trans h

theorem a_then1 (b2 b3 s p : Nat) (y m d a x c e' f g sg : Int) (hsg : sg = 1 ∨ sg = -1) (h : 0 ≤ a ∧ a ≤ 9999 ∧ 0 ≤ x ∧ x ≤ 9999 ∧ 0 ≤ c ∧ c ≤ 9999) (w : World) (hs : w.cell? ⟨s, 0, none⟩ = some (.int .i64 sg)) (hp : PerAt w p a x c e' f g)
    (h2 : w.cell? ⟨b2, 0, none⟩ = some (.func (.func 206) #[] #[.pointer (some ⟨s, 0, none⟩), .pointer (some ⟨p, 0, none⟩)])) (h3 : w.cell? ⟨b3, 0, none⟩ = some (.func (.func 209) #[] #[.pointer (some ⟨s, 0, none⟩), .pointer (some ⟨p, 0, none⟩)])) (hb : D.Base w) :
    Calls Tryz.prog 230 #[.agg #[.int .i64 y, .int .i64 m, .int .i64 d], .pointer (some ⟨b2, 0, none⟩), .pointer (some ⟨b3, 0, none⟩)] w fun e w' => e = .returned (drV (dshift y m d (sg * (12 * a + x)) (sg * c))) ∧ Below w.heap.size w w' := by
  have hA := fun W hs hp hb => a_shift1 s p y m d a x c e' f g sg hsg ⟨h.1, h.2.1, h.2.2.1, h.2.2.2.1⟩ W hs hp hb
  have hB := fun y' m' d' W hs hp hb => a_shift2 s p y' m' d' a x c e' f g sg hsg ⟨h.2.2.2.2.1, h.2.2.2.2.2⟩ W hs hp hb
  unfold dshift
  generalize mplus y m d (sg * (12 * a + x)) = S at hA ⊢
  obtain ⟨s1, s2, s3, s4⟩ := S
  cases s4
  · simp only [Bool.false_eq_true, if_false, drV, DR.no] at hA ⊢
    refine enter Tryz.func230 rfl Tryz.ntmps230 rfl (by assumption) ?_
    (repeat' (first | intro (b : Nat) | refine go ?_ | (refine br ?_ ?_ <;> first | exact trivial | intro hq) | refine L.call (h := by intro W hW; apply hA W (cell_keep hs hW.low) (hp.keep hW.low) hW.base) (k := ?_) | refine L.callx (h := by intro W hW; apply hA W (cell_keep hs hW.low) (hp.keep hW.low) hW.base) (k := ?_)))
    (refine ret ?_; try exact rfl)
  · have hB := hB s1 s2 s3
    simp only [if_true] at hA ⊢
    generalize dayp s1 s2 s3 (sg * c) = T at hB ⊢
    obtain ⟨t1, t2, t3, t4⟩ := T
    simp only [drV] at hA hB ⊢
    refine enter Tryz.func230 rfl Tryz.ntmps230 rfl (by assumption) ?_
    (repeat' (first | intro (b : Nat) | refine go ?_ | (refine br ?_ ?_ <;> first | exact trivial | intro hq) | refine L.call (h := by intro W hW; first | apply hA W (cell_keep hs hW.low) (hp.keep hW.low) hW.base | apply hB W (cell_keep hs hW.low) (hp.keep hW.low) hW.base) (k := ?_) | refine L.callx (h := by intro W hW; first | apply hA W (cell_keep hs hW.low) (hp.keep hW.low) hW.base | apply hB W (cell_keep hs hW.low) (hp.keep hW.low) hW.base) (k := ?_)))
    (refine ret ?_; try exact rfl)

/-- A shift as a function value, and the blocks that it holds. -/
abbrev shiftH (b2 b3 s p : Nat) (a x c d f g sg : Int) : SH := [(b3, .cells 177 [.func (.func 209) #[] #[.pointer (some ⟨s, 0, none⟩), .pointer (some ⟨p, 0, none⟩)]]), (b2, .cells 177 [.func (.func 206) #[] #[.pointer (some ⟨s, 0, none⟩), .pointer (some ⟨p, 0, none⟩)]]), (s, .cells 3 [.int .i64 sg]), (p, .cells 73 [.int .i64 a, .int .i64 x, .int .i64 c, .int .i64 d, .int .i64 f, .int .i64 g])]

def ShiftV (a x c d f g sg : Int) (v : Value) (H : SH) : Prop := ∃ b2 b3 s p : Nat, v = .func (.func 230) #[] #[.pointer (some ⟨b2, 0, none⟩), .pointer (some ⟨b3, 0, none⟩)] ∧ H = shiftH b2 b3 s p a x c d f g sg

/-- Two functions behind each other, as a function value. -/
def ThenV (u v : Value) (r : Value) (H : SH) : Prop := ∃ b2 b3 : Nat, r = .func (.func 230) #[] #[.pointer (some ⟨b2, 0, none⟩), .pointer (some ⟨b3, 0, none⟩)] ∧ H = [(b3, .cells 177 [v]), (b2, .cells 177 [u])]

theorem a_then (g1 g2 : FuncId) (c1 c2 : Array Value) (w : World) (hb : D.Base w) : Calls Tryz.prog 208 #[.func (.func g1) #[] c1, .func (.func g2) #[] c2] w (Ret w (ThenV (.func (.func g1) #[] c1) (.func (.func g2) #[] c2))) := by
  refine enter Tryz.func208 rfl Tryz.ntmps208 rfl (by assumption) ?_
  (repeat (first | intro (b : Nat) | refine go ?_))
  rename_i b1
  (apply X.retr [(b, .cells 177 [.func (.func g2) #[] c2]), (b1, .cells 177 [.func (.func g1) #[] c1])]; (· exact rfl); (· (repeat (first | exact RVs.nil | (apply RVs.cons; (· first | exact RV.tmp rfl | (apply RV.cellk; exact rfl; (· (repeat (first | exact List.Mem.head _ | apply List.Mem.tail))); (· (repeat (first | exact Rd.nil | apply Rd.take | apply Rd.skip)))) | (apply RV.cell1; exact rfl; (· (repeat (first | exact List.Mem.head _ | apply List.Mem.tail))); (· (repeat (first | exact Rd.nil | apply Rd.take | apply Rd.skip))))))))); (· (repeat (first | exact SubH.nil | (apply SubH.cons; (· first | with_reducible rfl | (simp only [List.cons.injEq, Value.int.injEq, and_true, true_and] <;> omega) | rfl)) | apply SubH.skip | exact SubH.refl))))
  exact ⟨b1, b, rfl, rfl⟩

theorem a_shiftOf (a x c d f g : Int) (back : Bool) (w : World) (hb : D.Base w) : Calls Tryz.prog 166 #[.agg #[.int .i64 a, .int .i64 x, .int .i64 c, .int .i64 d, .int .i64 f, .int .i64 g], .bool back] w (Ret w (ShiftV a x c d f g (sgn back))) := by
  cases back
  all_goals
    refine enter Tryz.func166 rfl Tryz.ntmps166 rfl (by assumption) ?_
    (repeat (first | intro (b : Nat) | refine go ?_))
    rename_i bp
    (refine L.ncall (h := by intro W hW; exact a_then _ _ _ _ W hW.base) (k := ?_); intro v H hR)
    obtain ⟨b2, b3, rfl, rfl⟩ := hR
    simp only [List.cons_append, List.nil_append]
    (repeat (first | intro (b : Nat) | refine go ?_))
    (apply X.retr [(b3, .cells 177 [.func (.func 209) #[] #[.pointer (some ⟨b, 0, none⟩), .pointer (some ⟨bp, 0, none⟩)]]), (b2, .cells 177 [.func (.func 206) #[] #[.pointer (some ⟨b, 0, none⟩), .pointer (some ⟨bp, 0, none⟩)]]), (b, .cells 3 [_]), (bp, .cells 73 [.int .i64 a, .int .i64 x, .int .i64 c, .int .i64 d, .int .i64 f, .int .i64 g])]; (· exact rfl); (· (repeat (first | exact RVs.nil | (apply RVs.cons; (· first | exact RV.tmp rfl | (apply RV.cellk; exact rfl; (· (repeat (first | exact List.Mem.head _ | apply List.Mem.tail))); (· (repeat (first | exact Rd.nil | apply Rd.take | apply Rd.skip)))) | (apply RV.cell1; exact rfl; (· (repeat (first | exact List.Mem.head _ | apply List.Mem.tail))); (· (repeat (first | exact Rd.nil | apply Rd.take | apply Rd.skip))))))))); (· (repeat (first | exact SubH.nil | (apply SubH.cons; (· first | with_reducible rfl | (simp only [List.cons.injEq, Value.int.injEq, and_true, true_and] <;> omega) | rfl)) | apply SubH.skip | exact SubH.refl))))
    exact ⟨b2, b3, b, bp, rfl, rfl⟩

theorem perAt_of {w0 w : World} {hs : SH} (hW : St w0 hs w) {p : Nat} {T : TypeId} {a x c d f g : Int} (hm : (p, Blk.cells T [.int .i64 a, .int .i64 x, .int .i64 c, .int .i64 d, .int .i64 f, .int .i64 g]) ∈ hs) : PerAt w p a x c d f g := fun j v hj => by
  have := hW.cell hm hj
  simpa using this

end D
end Go.Proofs.YtboglbdhibcacaaGreatDoor

namespace Go.Proofs.YtboglbdhibcacaaGreatDoor
set_option linter.unusedVariables false
set_option linter.unusedSimpArgs false
set_option maxRecDepth 100000
set_option maxHeartbeats 1000000
namespace D
open Go.RowKit
attribute [local irreducible] Calls

theorem dateOf_ok {n : Int} (h : (dateOf n).ok = true) : ∃ y m d : Int, dateOf n = ⟨y, m, d, true⟩ ∧ dval y m d = true ∧ num y m d = n := by
  cases hr : inR n 0 3652058 with
  | true =>
    obtain ⟨y, m, d, h1, h2, h3⟩ := dateOf_yes hr
    exact ⟨y, m, d, h3, h1, h2⟩
  | false => rw [dateOf_no hr] at h; cases h

theorem dshift_ok {y m d n k : Int} (h : (dshift y m d n k).ok = true) : ∃ y' m' d' : Int, dshift y m d n k = ⟨y', m', d', true⟩ ∧ dval y' m' d' = true := by
  unfold dshift at h ⊢
  split at h
  · rename_i h1
    rw [if_pos h1]
    unfold dayp at h ⊢
    split at h
    · rename_i h2
      rw [if_pos h2]
      obtain ⟨y', m', d', k1, k2, _⟩ := dateOf_ok h
      exact ⟨y', m', d', k1, k2⟩
    · cases h
  · cases h

/-- A stamp a period later. -/
noncomputable def splus (y m d h i s k o a x c d' f g : Int) (back : Bool) : SR :=
  if sval y m d h i s k o = true ∧ perV a x c d' f g = true ∧ (dshift y m d (sgn back * (12 * a + x)) (sgn back * c)).ok = true then
    stampAt (inst (dshift y m d (sgn back * (12 * a + x)) (sgn back * c)).y (dshift y m d (sgn back * (12 * a + x)) (sgn back * c)).m (dshift y m d (sgn back * (12 * a + x)) (sgn back * c)).d h i s k o + sgn back * (1000 * ((d' * 60 + f) * 60 + g))) o
  else SR.no

theorem a_StampPlus (y m d h i s k o a x c d' f g : Int) (back : Bool) (w : World) (hb : D.Base w) :
    Calls Tryz.prog 108 #[.agg #[.int .i64 y, .int .i64 m, .int .i64 d, .int .i64 h, .int .i64 i, .int .i64 s, .int .i64 k, .int .i64 o], .agg #[.int .i64 a, .int .i64 x, .int .i64 c, .int .i64 d', .int .i64 f, .int .i64 g], .bool back] w fun e w' => e = .returned (srV (splus y m d h i s k o a x c d' f g back)) ∧ Below w.heap.size w w' := by
  cases h1 : sval y m d h i s k o
  · have e : splus y m d h i s k o a x c d' f g back = SR.no := if_neg (by simp [h1])
    rw [e]
    refine enter Tryz.func108 rfl Tryz.ntmps108 rfl (by assumption) ?_
    (repeat' (first | intro (b : Nat) | refine go ?_ | (refine br ?_ ?_ <;> first | exact trivial | intro hq) | refine L.call (h := by intro W hW; apply rvb h1 (a_StampValid _ _ _ _ _ _ _ _ W hW.base)) (k := ?_) | refine L.callx (h := by intro W hW; apply rvb h1 (a_StampValid _ _ _ _ _ _ _ _ W hW.base)) (k := ?_) | refine gg ?_ | refine G.call (h := by intro W hW; apply rvb h1 (a_StampValid _ _ _ _ _ _ _ _ W hW.base)) (k := ?_) | refine G.callx (h := by intro W hW; apply rvb h1 (a_StampValid _ _ _ _ _ _ _ _ W hW.base)) (k := ?_) | (apply C.draww (id := 3) 10 [some _, none, some _, none, some _, some _, none, none, none, some _]) | (apply C.draww (id := 10) 9 [some _, some _, none, none, none, some _, some _, none, none])))
    (refine ret ?_; try exact rfl)
  cases h2 : perV a x c d' f g
  · have e : splus y m d h i s k o a x c d' f g back = SR.no := if_neg (by simp [h2])
    rw [e]
    refine enter Tryz.func108 rfl Tryz.ntmps108 rfl (by assumption) ?_
    (repeat' (first | intro (b : Nat) | refine go ?_ | (refine br ?_ ?_ <;> first | exact trivial | intro hq) | refine L.call (h := by intro W hW; first | apply rvb h1 (a_StampValid _ _ _ _ _ _ _ _ W hW.base) | apply rvb h2 (a_PeriodValid _ _ _ _ _ _ W hW.base)) (k := ?_) | refine L.callx (h := by intro W hW; first | apply rvb h1 (a_StampValid _ _ _ _ _ _ _ _ W hW.base) | apply rvb h2 (a_PeriodValid _ _ _ _ _ _ W hW.base)) (k := ?_) | refine gg ?_ | refine G.call (h := by intro W hW; first | apply rvb h1 (a_StampValid _ _ _ _ _ _ _ _ W hW.base) | apply rvb h2 (a_PeriodValid _ _ _ _ _ _ W hW.base)) (k := ?_) | refine G.callx (h := by intro W hW; first | apply rvb h1 (a_StampValid _ _ _ _ _ _ _ _ W hW.base) | apply rvb h2 (a_PeriodValid _ _ _ _ _ _ W hW.base)) (k := ?_) | (apply C.draww (id := 3) 10 [some _, none, some _, none, some _, some _, none, none, none, some _]) | (apply C.draww (id := 10) 9 [some _, some _, none, none, none, some _, some _, none, none])))
    (refine ret ?_; try exact rfl)
  have hv := perV_iff.1 h2
  obtain ⟨q1, q2, q3, q4⟩ := sval_parts h1
  have hsg : sgn back = 1 ∨ sgn back = -1 := by cases back <;> simp [sgn]
  have hT := fun b2 b3 s p W hs hp k2 k3 hb => a_then1 b2 b3 s p y m d a x c d' f g (sgn back) hsg (by omega) W hs hp k2 k3 hb
  have hS := a_shiftOf a x c d' f g back
  cases h3 : (dshift y m d (sgn back * (12 * a + x)) (sgn back * c)).ok
  · have e : splus y m d h i s k o a x c d' f g back = SR.no := if_neg (by simp [h3])
    rw [e]
    generalize dshift y m d (sgn back * (12 * a + x)) (sgn back * c) = S at hT h3
    obtain ⟨s1, s2, s3, s4⟩ := S
    simp only at h3
    subst h3
    simp only [drV] at hT
    generalize sgn back = sg at *
    refine enter Tryz.func108 rfl Tryz.ntmps108 rfl (by assumption) ?_
    (repeat' (first | intro (b : Nat) | refine go ?_ | (refine br ?_ ?_ <;> first | exact trivial | intro hq) | refine L.call (h := by intro W hW; first | apply rvb h1 (a_StampValid _ _ _ _ _ _ _ _ W hW.base) | apply rvb h2 (a_PeriodValid _ _ _ _ _ _ W hW.base)) (k := ?_) | refine L.callx (h := by intro W hW; first | apply rvb h1 (a_StampValid _ _ _ _ _ _ _ _ W hW.base) | apply rvb h2 (a_PeriodValid _ _ _ _ _ _ W hW.base)) (k := ?_) | refine gg ?_ | refine G.call (h := by intro W hW; first | apply rvb h1 (a_StampValid _ _ _ _ _ _ _ _ W hW.base) | apply rvb h2 (a_PeriodValid _ _ _ _ _ _ W hW.base)) (k := ?_) | refine G.callx (h := by intro W hW; first | apply rvb h1 (a_StampValid _ _ _ _ _ _ _ _ W hW.base) | apply rvb h2 (a_PeriodValid _ _ _ _ _ _ W hW.base)) (k := ?_) | (apply C.draww (id := 3) 10 [some _, none, some _, none, some _, some _, none, none, none, some _]) | (apply C.draww (id := 10) 9 [some _, some _, none, none, none, some _, some _, none, none])))
    (refine G.ncall (h := by intro W hW; exact hS W hW.base) (k := ?_); intro v H hR)
    obtain ⟨b2, b3, s9, p, rfl, rfl⟩ := hR
    (repeat (first | intro (b : Nat) | refine gg ?_))
    (refine G.callxd (X := shiftH b2 b3 s9 p a x c d' f g sg) (h := by intro W hW; exact hT b2 b3 s9 p W (hW.cell (by (repeat (first | exact List.Mem.head _ | apply List.Mem.tail))) rfl) (perAt_of hW (by (repeat (first | exact List.Mem.head _ | apply List.Mem.tail)))) (hW.cell (by (repeat (first | exact List.Mem.head _ | apply List.Mem.tail))) rfl) (hW.cell (by (repeat (first | exact List.Mem.head _ | apply List.Mem.tail))) rfl) hW.base) (k := ?_))
    (repeat (first | intro (b : Nat) | refine gg ?_))
    (repeat' (first | intro (b : Nat) | refine go ?_ | (refine br ?_ ?_ <;> first | exact trivial | intro hq)))
    (refine ret ?_; try exact rfl)
  · obtain ⟨y', m', d2, h4, h5⟩ := dshift_ok h3
    have e : splus y m d h i s k o a x c d' f g back = stampAt (inst y' m' d2 h i s k o + sgn back * (1000 * ((d' * 60 + f) * 60 + g))) o := by
      unfold splus
      rw [if_pos ⟨h1, h2, h3⟩, h4]
    rw [e]
    rw [h4] at hT
    simp only [drV] at hT
    have h6 : sval y' m' d2 h i s k o = true := by simp [sval, h5, q2, inR_true.2 ⟨q3, q4⟩]
    have hi := inst_bd h6
    have hA := a_StampAt (inst y' m' d2 h i s k o + sgn back * (1000 * ((d' * 60 + f) * 60 + g))) o
    generalize stampAt (inst y' m' d2 h i s k o + sgn back * (1000 * ((d' * 60 + f) * 60 + g))) o = S at hA ⊢
    obtain ⟨s1, s2, s3, s4, s5, s6, s7, s8, s9⟩ := S
    simp only [srV] at hA ⊢
    cases back
    all_goals
      simp only [sgn, Bool.false_eq_true, if_false, if_true, Int.one_mul, Int.neg_mul] at hA hT hS
      refine enter Tryz.func108 rfl Tryz.ntmps108 rfl (by assumption) ?_
      (repeat' (first | intro (b : Nat) | refine go ?_ | (refine br ?_ ?_ <;> first | exact trivial | intro hq) | refine L.call (h := by intro W hW; first | apply rvb h1 (a_StampValid _ _ _ _ _ _ _ _ W hW.base) | apply rvb h2 (a_PeriodValid _ _ _ _ _ _ W hW.base)) (k := ?_) | refine L.callx (h := by intro W hW; first | apply rvb h1 (a_StampValid _ _ _ _ _ _ _ _ W hW.base) | apply rvb h2 (a_PeriodValid _ _ _ _ _ _ W hW.base)) (k := ?_) | refine gg ?_ | refine G.call (h := by intro W hW; first | apply rvb h1 (a_StampValid _ _ _ _ _ _ _ _ W hW.base) | apply rvb h2 (a_PeriodValid _ _ _ _ _ _ W hW.base)) (k := ?_) | refine G.callx (h := by intro W hW; first | apply rvb h1 (a_StampValid _ _ _ _ _ _ _ _ W hW.base) | apply rvb h2 (a_PeriodValid _ _ _ _ _ _ W hW.base)) (k := ?_) | (apply C.draww (id := 3) 10 [some _, none, some _, none, some _, some _, none, none, none, some _]) | (apply C.draww (id := 10) 9 [some _, some _, none, none, none, some _, some _, none, none])))
      (refine G.ncall (h := by intro W hW; exact hS W hW.base) (k := ?_); intro v H hR)
      obtain ⟨b2, b3, s9, p, rfl, rfl⟩ := hR
      (repeat (first | intro (b : Nat) | refine gg ?_))
      (refine G.callxd (X := shiftH b2 b3 s9 p a x c d' f g _) (h := by intro W hW; exact hT b2 b3 s9 p W (hW.cell (by (repeat (first | exact List.Mem.head _ | apply List.Mem.tail))) rfl) (perAt_of hW (by (repeat (first | exact List.Mem.head _ | apply List.Mem.tail)))) (hW.cell (by (repeat (first | exact List.Mem.head _ | apply List.Mem.tail))) rfl) (hW.cell (by (repeat (first | exact List.Mem.head _ | apply List.Mem.tail))) rfl) hW.base) (k := ?_))
      (repeat' (first | intro (b : Nat) | refine go ?_ | (refine br ?_ ?_ <;> first | exact trivial | intro hq) | refine L.call (h := by intro W hW; first | apply a_secondsOf _ _ _ _ _ _ (by omega) W hW.base | apply a_instantOf _ _ _ _ _ _ _ _ h6 W hW.base | apply hA W hW.base) (k := ?_) | refine L.callx (h := by intro W hW; first | apply a_secondsOf _ _ _ _ _ _ (by omega) W hW.base | apply a_instantOf _ _ _ _ _ _ _ _ h6 W hW.base | apply hA W hW.base) (k := ?_) | refine gg ?_ | refine G.call (h := by intro W hW; first | apply a_secondsOf _ _ _ _ _ _ (by omega) W hW.base | apply a_instantOf _ _ _ _ _ _ _ _ h6 W hW.base | apply hA W hW.base) (k := ?_) | refine G.callx (h := by intro W hW; first | apply a_secondsOf _ _ _ _ _ _ (by omega) W hW.base | apply a_instantOf _ _ _ _ _ _ _ _ h6 W hW.base | apply hA W hW.base) (k := ?_) | (apply C.draww (id := 3) 10 [some _, none, some _, none, some _, some _, none, none, none, some _]) | (apply C.draww (id := 10) 9 [some _, some _, none, none, none, some _, some _, none, none])))
      (refine ret ?_; try exact rfl)

end D
end Go.Proofs.YtboglbdhibcacaaGreatDoor
