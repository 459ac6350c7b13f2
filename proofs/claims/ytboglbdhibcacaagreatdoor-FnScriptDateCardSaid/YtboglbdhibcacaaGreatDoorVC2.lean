/- Walks of the reference: weeks, days of years, texts of dates. -/
import Derived.Test.YtboglbdhibcacaaGreatDoorVi
import Derived.Test.YtboglbdhibcacaaGreatDoorVS3
import Derived.Test.YtboglbdhibcacaaGreatDoorVe
import Derived.Test.YtboglbdhibcacaaGreatDoorVc
namespace Go.Proofs.YtboglbdhibcacaaGreatDoor
set_option linter.unusedVariables false
set_option linter.unusedSimpArgs false
set_option maxRecDepth 100000
set_option maxHeartbeats 1000000
namespace D
open Go.RowKit
open Go.PlainAid (bt bt_nonneg bt_le bt_end)
attribute [local irreducible] Calls

theorem b_First (y : Int) (h : 1 ≤ y ∧ y ≤ 10000) (w : World) (hb : D.Base w) : Calls Tryz.prog 145 #[.int .i64 y] w fun e w' => e = .returned (.int .i64 (fmon y)) ∧ Below w.heap.size w w' := by
  have hn := ny_bd y h.1 h.2
  have e : fmon y = ny y + 3 - (ny y + 3) % 7 := rfl
  generalize fmon y = f at *
  refine enter Tryz.func145 rfl Tryz.ntmps145 rfl (by assumption) ?_
  (repeat' (first | intro (b : Nat) | refine go ?_ | (refine br ?_ ?_ <;> first | exact trivial | intro hq) | refine L.call (h := by intro W hW; apply b_years _ (by omega) (by omega) W hW.base) (k := ?_)))
  all_goals (refine ret ?_; try exact rfl)
  all_goals (refine congrArg (Value.int .i64) ?_; omega)

theorem b_WeeksOf (y : Int) (w : World) (hb : D.Base w) : Calls Tryz.prog 223 #[.int .i64 y] w fun e w' => e = .returned (.int .i64 (wks y)) ∧ Below w.heap.size w w' := by
  cases h : inR y 1 9999 with
  | true =>
    have hb := inR_true.1 h
    have e : wks y = (fmon (y + 1) - fmon y) / 7 := if_pos h
    have h1 := fmon_bd (y := y) (by omega)
    have h2 := fmon_bd (y := y + 1) (by omega)
    have h3 : 0 ≤ fmon (y + 1) - fmon y := by
      have := wks_bd y
      rw [e] at this
      omega
    rw [e]
    refine enter Tryz.func223 rfl Tryz.ntmps223 rfl (by assumption) ?_
    (repeat' (first | intro (b : Nat) | refine go ?_ | (refine br ?_ ?_ <;> first | exact trivial | intro hq) | refine L.call (h := by intro W hW; first | apply rvb h (b_in _ _ _ W hW.base) | apply b_First _ (by omega) W hW.base) (k := ?_)))
    (refine ret ?_; try exact rfl)
  | false =>
    have e : wks y = 0 := if_neg (by simp [h])
    rw [e]
    refine enter Tryz.func223 rfl Tryz.ntmps223 rfl (by assumption) ?_
    (repeat' (first | intro (b : Nat) | refine go ?_ | (refine br ?_ ?_ <;> first | exact trivial | intro hq) | refine L.call (h := by intro W hW; apply rvb h (b_in _ _ _ W hW.base)) (k := ?_)))
    (refine ret ?_; try exact rfl)

theorem b_WeekDate (y k d : Int) (w : World) (hb : D.Base w) : Calls Tryz.prog 186 #[.agg #[.int .i64 y, .int .i64 k, .int .i64 d]] w fun e w' => e = .returned (drV (wkD y k d)) ∧ Below w.heap.size w w' := by
  cases h1 : inR k 1 (wks y) with
  | false =>
    have e : wkD y k d = DR.no := if_neg (by simp [h1])
    rw [e]
    refine enter Tryz.func186 rfl Tryz.ntmps186 rfl (by assumption) ?_
    (repeat' (first | intro (b : Nat) | refine go ?_ | (refine br ?_ ?_ <;> first | exact trivial | intro hq) | refine L.call (h := by intro W hW; first | apply b_WeeksOf _ W hW.base | apply rvb h1 (b_in _ _ _ W hW.base) | apply b_in _ _ _ W hW.base) (k := ?_) | refine gg ?_ | refine G.call (h := by intro W hW; first | apply b_WeeksOf _ W hW.base | apply rvb h1 (b_in _ _ _ W hW.base) | apply b_in _ _ _ W hW.base) (k := ?_) | (apply C.draww (id := 1) 13 [none, some _, none, some _, some _, some _, none, none, none, some _, some _, none, none]) | (apply C.draww (id := 3) 14 [none, some _, some _, none, some _, none, none, none, some _, none, none, some _, none, none])))
    all_goals (refine ret ?_; try exact rfl)
  | true =>
    have hy := wks_yes h1
    cases h2 : inR d 1 7 with
    | false =>
      have e : wkD y k d = DR.no := if_neg (by simp [h2])
      rw [e]
      refine enter Tryz.func186 rfl Tryz.ntmps186 rfl (by assumption) ?_
      (repeat' (first | intro (b : Nat) | refine go ?_ | (refine br ?_ ?_ <;> first | exact trivial | intro hq) | refine L.call (h := by intro W hW; first | apply b_WeeksOf _ W hW.base | apply rvb h1 (b_in _ _ _ W hW.base) | apply rvb h2 (b_in _ _ _ W hW.base)) (k := ?_) | refine gg ?_ | refine G.call (h := by intro W hW; first | apply b_WeeksOf _ W hW.base | apply rvb h1 (b_in _ _ _ W hW.base) | apply rvb h2 (b_in _ _ _ W hW.base)) (k := ?_) | (apply C.draww (id := 1) 13 [none, some _, none, some _, some _, some _, none, none, none, some _, some _, none, none]) | (apply C.draww (id := 3) 14 [none, some _, some _, none, some _, none, none, none, some _, none, none, some _, none, none])))
      all_goals (refine ret ?_; try exact rfl)
    | true =>
      have e : wkD y k d = dateOf (fmon y + 7 * (k - 1) + d - 1) := if_pos ⟨h1, h2⟩
      have hd := inR_true.1 h2
      have hf := fmon_bd (y := y) (by omega)
      have e3 : fmon y + 7 * (k - 1) + d - 1 = fmon y + 7 * k + d - 8 := by omega
      rw [e, e3]
      refine enter Tryz.func186 rfl Tryz.ntmps186 rfl (by assumption) ?_
      (repeat' (first | intro (b : Nat) | refine go ?_ | (refine br ?_ ?_ <;> first | exact trivial | intro hq) | refine L.call (h := by intro W hW; first | apply b_WeeksOf _ W hW.base | apply rvb h1 (b_in _ _ _ W hW.base) | apply rvb h2 (b_in _ _ _ W hW.base) | apply b_First _ (by omega) W hW.base | apply b_DateOfG _ W hW.base) (k := ?_) | refine gg ?_ | refine G.call (h := by intro W hW; first | apply b_WeeksOf _ W hW.base | apply rvb h1 (b_in _ _ _ W hW.base) | apply rvb h2 (b_in _ _ _ W hW.base) | apply b_First _ (by omega) W hW.base | apply b_DateOfG _ W hW.base) (k := ?_) | (apply C.draww (id := 1) 13 [none, some _, none, some _, some _, some _, none, none, none, some _, some _, none, none]) | (apply C.draww (id := 3) 14 [none, some _, some _, none, some _, none, none, none, some _, none, none, some _, none, none])))
      all_goals (refine ret ?_; try exact rfl)

theorem b_Days (y : Int) (w : World) (hb : D.Base w) : Calls Tryz.prog 224 #[.int .i64 y] w fun e w' => e = .returned (.int .i64 (cum y 13)) ∧ Below w.heap.size w w' := by
  have h0 := cum_one y
  refine enter Tryz.func224 rfl Tryz.ntmps224 rfl (by assumption) ?_
  (repeat (first | intro (b : Nat) | refine go ?_))
  refine C.loopw (Y := Int) (fun k => [(0, .int .i64 y), (3, .int .i64 (cum y k)), (4, .int .i64 k)]) (fun k => []) (fun k => 1 ≤ k ∧ k ≤ 13) (fun k => (13 - k).toNat) 1 (by omega) (fun k hy => ?_)
  have hc := cum_bd y k (by omega)
  have hs := cum_succ y k hy.1
  have hmd := md_bd y k
  (repeat' (first | intro (b : Nat) | refine go ?_ | (refine br ?_ ?_ <;> first | exact trivial | intro hq)))
  · (refine L.call (h := by intro W hW; exact b_MonthDays _ _ W hW.base) (k := ?_))
    (repeat (first | intro (b : Nat) | refine go ?_))
    refine X.roundw (k + 1) (⟨by omega, by omega⟩) (by omega)
  · (refine ret ?_; try exact rfl)
    have : k = 13 := by omega
    rw [this]; rfl

theorem cum_off {y : Int} (h : inR y 1 9999 = false) : cum y 13 = 0 := by
  have : ∀ m, md y m = 0 := fun m => by simp [md, h]
  simp [cum, cumN, this]

theorem b_OrdinalDate (y k : Int) (w : World) (hb : D.Base w) : Calls Tryz.prog 187 #[.int .i64 y, .int .i64 k] w fun e w' => e = .returned (drV (orD y k)) ∧ Below w.heap.size w w' := by
  cases h1 : inR y 1 9999 with
  | false =>
    have e : orD y k = DR.no := if_neg (by simp [h1])
    have hc := cum_off h1
    have hr : inR k 1 (cum y 13) = false := inR_false.2 (by omega)
    rw [e]
    refine enter Tryz.func187 rfl Tryz.ntmps187 rfl (by assumption) ?_
    (repeat' (first | intro (b : Nat) | refine go ?_ | (refine br ?_ ?_ <;> first | exact trivial | intro hq) | refine L.call (h := by intro W hW; first | apply b_Days _ W hW.base | apply rvb hr (b_in _ _ _ W hW.base)) (k := ?_)))
    all_goals (refine ret ?_; try exact rfl)
  | true =>
    have hy := inR_true.1 h1
    have hn := ny_bd y (by omega) (by omega)
    have hn2 := ny_bd (y + 1) (by omega) (by omega)
    have hca : cum y 13 = ny (y + 1) - ny y := by
      have := cum_all y hy.1 hy.2
      have := ny_succ y hy.1 hy.2
      omega
    cases h2 : inR k 1 (ny (y + 1) - ny y) with
    | false =>
      have e : orD y k = DR.no := if_neg (by simp [h2])
      rw [e]
      rw [← hca] at h2
      refine enter Tryz.func187 rfl Tryz.ntmps187 rfl (by assumption) ?_
      (repeat' (first | intro (b : Nat) | refine go ?_ | (refine br ?_ ?_ <;> first | exact trivial | intro hq) | refine L.call (h := by intro W hW; first | apply b_Days _ W hW.base | apply rvb h2 (b_in _ _ _ W hW.base)) (k := ?_)))
      all_goals (refine ret ?_; try exact rfl)
    | true =>
      have hk := inR_true.1 h2
      have e : orD y k = dateOf (ny y + k - 1) := if_pos ⟨h1, h2⟩
      rw [e]
      rw [← hca] at h2
      refine enter Tryz.func187 rfl Tryz.ntmps187 rfl (by assumption) ?_
      (repeat' (first | intro (b : Nat) | refine go ?_ | (refine br ?_ ?_ <;> first | exact trivial | intro hq) | refine L.call (h := by intro W hW; first | apply b_Days _ W hW.base | apply rvb h2 (b_in _ _ _ W hW.base) | apply b_years _ (by omega) (by omega) W hW.base | apply b_DateOfG _ W hW.base) (k := ?_)))
      all_goals (refine ret ?_; try exact rfl)

/-- The week of a day. -/
theorem b_WeekOf (y m d : Int) (h : dval y m d = true) (w : World) (hb : D.Base w) : Calls Tryz.prog 87 #[.agg #[.int .i64 y, .int .i64 m, .int .i64 d]] w fun e w' => e = .returned (.tuple #[.agg #[.int .i64 (wyr (num y m d)), .int .i64 (wno (num y m d)), .int .i64 (num y m d % 7 + 1)], .bool true]) ∧ Below w.heap.size w w' := by
  have hd := dval_bd h
  have hn := num_in h
  have hb3 := num_bd h
  have hy := wyr_in (n := num y m d) hb3
  have hr : inR (wyr (num y m d)) 1 9999 = true := inR_true.2 ⟨hy.1, hy.2.1⟩
  have hg : ∀ Y, (fmon Y ≤ num y m d ↔ ny Y ≤ thu (num y m d)) := fun Y => thu_ge Y hb3.1
  have hfb := fmon_bd (y := wyr (num y m d)) (by omega)
  have e1 := wno_eq (n := num y m d) hb3
  have e2 := wda_eq (n := num y m d) hb3
  have hge := (hg (wyr (num y m d))).2 hy.2.2.1
  rw [e1, ← e2]
  have hv : dnum y m d = num y m d := if_pos h
  have hfy := fmon_bd (y := y) (by omega)
  have hfy1 := fmon_bd (y := y + 1) (by omega)
  have hor : (wyr (num y m d) = y - 1 ∧ num y m d < fmon y) ∨ (wyr (num y m d) = y ∧ fmon y ≤ num y m d ∧ num y m d < fmon (y + 1)) ∨ (wyr (num y m d) = y + 1 ∧ fmon y ≤ num y m d ∧ fmon (y + 1) ≤ num y m d) := wyr_or hb3 ⟨hd.1, hd.2.1⟩ hn
  generalize wyr (num y m d) = Y at *
  generalize num y m d = n at *
  clear e1 e2 hg hn
  rcases hor with ⟨rfl, h1⟩ | ⟨rfl, h1, h2⟩ | ⟨rfl, h1, h2⟩
  · have hlt : ¬ fmon (y - 1 + 1) ≤ n := by rw [show y - 1 + 1 = y by omega]; omega
    refine enter Tryz.func87 rfl Tryz.ntmps87 rfl (by assumption) ?_
    (repeat' (first | intro (b : Nat) | refine go ?_ | (refine br ?_ ?_ <;> first | exact trivial | intro hq) | refine L.call (h := by intro W hW; first | apply rvb h (b_DateValid _ _ _ W hW.base) | apply rvi hv (b_DayNumber _ _ _ W hW.base) | apply b_First _ (by omega) W hW.base | apply rvb hr (b_in _ _ _ W hW.base)) (k := ?_)))
    all_goals (refine ret ?_; try exact rfl)
  · refine enter Tryz.func87 rfl Tryz.ntmps87 rfl (by assumption) ?_
    (repeat' (first | intro (b : Nat) | refine go ?_ | (refine br ?_ ?_ <;> first | exact trivial | intro hq) | refine L.call (h := by intro W hW; first | apply rvb h (b_DateValid _ _ _ W hW.base) | apply rvi hv (b_DayNumber _ _ _ W hW.base) | apply b_First _ (by omega) W hW.base | apply rvb hr (b_in _ _ _ W hW.base)) (k := ?_)))
    all_goals (refine ret ?_; try exact rfl)
  · refine enter Tryz.func87 rfl Tryz.ntmps87 rfl (by assumption) ?_
    (repeat' (first | intro (b : Nat) | refine go ?_ | (refine br ?_ ?_ <;> first | exact trivial | intro hq) | refine L.call (h := by intro W hW; first | apply rvb h (b_DateValid _ _ _ W hW.base) | apply rvi hv (b_DayNumber _ _ _ W hW.base) | apply b_First _ (by omega) W hW.base | apply rvb hr (b_in _ _ _ W hW.base)) (k := ?_)))
    all_goals (refine ret ?_; try exact rfl)

theorem b_OrdinalOf (y m d : Int) (h : dval y m d = true) (w : World) (hb : D.Base w) : Calls Tryz.prog 88 #[.agg #[.int .i64 y, .int .i64 m, .int .i64 d]] w fun e w' => e = .returned (.int .i64 (ord y m d)) ∧ Below w.heap.size w w' := by
  have hd := dval_bd h
  have hc := cum_bd y m (by omega)
  refine enter Tryz.func88 rfl Tryz.ntmps88 rfl (by assumption) ?_
  (repeat' (first | intro (b : Nat) | refine go ?_ | (refine br ?_ ?_ <;> first | exact trivial | intro hq) | refine L.call (h := by intro W hW; first | apply rvb h (b_DateValid _ _ _ W hW.base) | apply b_months _ _ (by omega) (by omega) W hW.base) (k := ?_) | refine gg ?_ | refine G.call (h := by intro W hW; first | apply rvb h (b_DateValid _ _ _ W hW.base) | apply b_months _ _ (by omega) (by omega) W hW.base) (k := ?_) | (apply C.draww (id := 3) 9 [none, some _, none, some _, some _, none, some _, none, none])))
  all_goals (refine ret ?_; try exact rfl)

theorem b_Join3 (b n c : Nat) (x y z : List Int) (h : Bool) (hx : x.length ≤ 9) (hy : y.length ≤ 9) (hz : z.length ≤ 9) (w : World) (c0 : w.cell? ⟨b, 0, none⟩ = some (.string (strOfNums x))) (c1 : w.cell? ⟨b, 1, none⟩ = some (.string (strOfNums y))) (c2 : w.cell? ⟨b, 2, none⟩ = some (.string (strOfNums z))) (hb : D.Base w) :
    Calls Tryz.prog 85 #[.slice (some ⟨b, 0, none⟩) 3 3, .bool h] w fun e w' => e = .returned (.string (strOfNums (x ++ hy1 h ++ y ++ hy1 h ++ z))) ∧ Below w.heap.size w w' := by
  cases h
  all_goals
    refine enter Tryz.func85 rfl Tryz.ntmps85 rfl (by assumption) ?_
    (repeat (first | intro (b : Nat) | refine go ?_))
    refine C.rounds 6 ?_
    (repeat' (first | intro (b : Nat) | refine go ?_ | (refine br ?_ ?_ <;> first | exact trivial | intro hq)))
    (refine ret ?_)
    refine congrArg Value.string ?_
    rw [show (⟨#[]⟩ : ByteArray) = strOfNums [] from rfl]
    try rw [show (⟨#[45]⟩ : ByteArray) = strOfNums [45] from rfl]
    simp only [strOfNums_append]
    simp [hy1]

theorem b_Join2 (b n c : Nat) (x y : List Int) (h : Bool) (hx : x.length ≤ 9) (hy : y.length ≤ 9) (w : World) (c0 : w.cell? ⟨b, 0, none⟩ = some (.string (strOfNums x))) (c1 : w.cell? ⟨b, 1, none⟩ = some (.string (strOfNums y))) (hb : D.Base w) :
    Calls Tryz.prog 85 #[.slice (some ⟨b, 0, none⟩) 2 2, .bool h] w fun e w' => e = .returned (.string (strOfNums (x ++ hy1 h ++ y))) ∧ Below w.heap.size w w' := by
  cases h
  all_goals
    refine enter Tryz.func85 rfl Tryz.ntmps85 rfl (by assumption) ?_
    (repeat (first | intro (b : Nat) | refine go ?_))
    refine C.rounds 6 ?_
    (repeat' (first | intro (b : Nat) | refine go ?_ | (refine br ?_ ?_ <;> first | exact trivial | intro hq)))
    (refine ret ?_)
    refine congrArg Value.string ?_
    rw [show (⟨#[]⟩ : ByteArray) = strOfNums [] from rfl]
    try rw [show (⟨#[45]⟩ : ByteArray) = strOfNums [45] from rfl]
    simp only [strOfNums_append]
    simp [hy1]

end D
end Go.Proofs.YtboglbdhibcacaaGreatDoor

namespace Go.Proofs.YtboglbdhibcacaaGreatDoor
set_option linter.unusedVariables false
set_option linter.unusedSimpArgs false
set_option maxRecDepth 100000
set_option maxHeartbeats 1000000
namespace D
open Go.RowKit
open Go.PlainAid (bt bt_nonneg bt_le bt_end)
attribute [local irreducible] Calls

theorem b_DateText (y m d f : Int) (h : Bool) (w : World) (hb : D.Base w) : Calls Tryz.prog 50 #[.agg #[.int .i64 y, .int .i64 m, .int .i64 d], .int .i64 f, .bool h] w fun e w' => e = .returned (dtS y m d f h) ∧ Below w.heap.size w w' := by
  cases h1 : dval y m d with
  | false =>
    have e : dtS y m d f h = .tuple #[.string ⟨#[]⟩, .bool false] := if_neg (by simp [h1])
    rw [e]
    refine enter Tryz.func50 rfl Tryz.ntmps50 rfl (by assumption) ?_
    (repeat' (first | intro (b : Nat) | refine go ?_ | (refine br ?_ ?_ <;> first | exact trivial | intro hq) | refine L.call (h := by intro W hW; exact rvb h1 (b_DateValid _ _ _ W hW.base)) (k := ?_)))
    all_goals (refine ret ?_; try exact rfl)
  | true =>
    have hd := dval_bd h1
    cases h2 : inR f 0 2 with
    | false =>
      have e : dtS y m d f h = .tuple #[.string ⟨#[]⟩, .bool false] := if_neg (by simp [h2])
      have h3 := inR_false.1 h2
      have hf0 : ¬ f = 0 := by omega
      have hf1 : ¬ f = 1 := by omega
      have hf2 : ¬ f = 2 := by omega
      rw [e]
      refine enter Tryz.func50 rfl Tryz.ntmps50 rfl (by assumption) ?_
      (repeat' (first | intro (b : Nat) | refine go ?_ | (refine br ?_ ?_ <;> first | exact trivial | intro hq) | refine L.call (h := by intro W hW; exact rvb h1 (b_DateValid _ _ _ W hW.base)) (k := ?_)))
      all_goals (refine ret ?_; try exact rfl)
    | true =>
      have e : dtS y m d f h = .tuple #[.string (strOfNums (dtL y m d f h)), .bool true] := if_pos ⟨h1, h2⟩
      have h3 := inR_true.1 h2
      rw [e]
      have hn := num_bd h1
      rcases (by omega : f = 0 ∨ f = 1 ∨ f = 2) with rfl | rfl | rfl
      · have es : strOfNums (dtL y m d 0 h) = strOfNums (digL y 4 ++ hy1 h ++ digL m 2 ++ hy1 h ++ digL d 2) := rfl
        have l1 := digL_length y 4
        have l2 := digL_length m 2
        have l3 := digL_length d 2
        rw [es]
        refine enter Tryz.func50 rfl Tryz.ntmps50 rfl (by assumption) ?_
        (repeat' (first | intro (b : Nat) | refine go ?_ | (refine br ?_ ?_ <;> first | exact trivial | intro hq) | refine L.call (h := by intro W hW; exact rvb h1 (b_DateValid _ _ _ W hW.base)) (k := ?_)))
        (apply C.draww (id := 5) 14 [none, some _, some _, none, some _, some _, none, some _, some _, some _, none, some _, none, none])
        (repeat' (first | refine gg ?_ | refine G.call (h := by intro W hW; first | apply b_Put4 _ (by omega) W hW.base | apply b_Put2 _ (by omega) W hW.base) (k := ?_)))
        intro bj
        (repeat (first | intro (b : Nat) | refine gg ?_))
        (refine G.calld [(bj, .cells 9 [.string (strOfNums (digL y 4)), .string (strOfNums (digL m 2)), .string (strOfNums (digL d 2))])] (h := by intro W hW; exact b_Join3 bj 3 3 (digL y 4) (digL m 2) (digL d 2) h (by omega) (by omega) (by omega) W (hW.cell (by (repeat (first | exact List.Mem.head _ | apply List.Mem.tail))) rfl) (hW.cell (by (repeat (first | exact List.Mem.head _ | apply List.Mem.tail))) rfl) (hW.cell (by (repeat (first | exact List.Mem.head _ | apply List.Mem.tail))) rfl) hW.base) (k := ?_))
        (repeat (first | intro (b : Nat) | refine gg ?_))
        (repeat (first | intro (b : Nat) | refine go ?_))
        (refine ret ?_; try exact rfl)
      · have es : strOfNums (dtL y m d 1 h) = strOfNums (digL (wyr (num y m d)) 4 ++ hy1 h ++ (87 :: digL (wno (num y m d)) 2) ++ hy1 h ++ digL (num y m d % 7 + 1) 1) := rfl
        have eW : ∀ l : List Int, strOfNums (87 :: l) = (⟨#[87]⟩ : ByteArray) ++ strOfNums l := fun l => by
          rw [show (⟨#[87]⟩ : ByteArray) = strOfNums [87] from rfl, strOfNums_append]
          rfl
        have hW3 := b_WeekOf y m d h1
        have hwy := wyr_in hn
        have hwn := wno_bd hn
        have hw53 := wks_bd (wyr (num y m d))
        rw [es]
        generalize wyr (num y m d) = Y at *
        generalize wno (num y m d) = K at *
        generalize num y m d = N at *
        have l1 := digL_length Y 4
        have l2 := digL_length K 2
        have l3 := digL_length (N % 7 + 1) 1
        have l2' : (87 :: digL K 2).length = 3 := by rw [List.length_cons, l2]
        refine enter Tryz.func50 rfl Tryz.ntmps50 rfl (by assumption) ?_
        (repeat' (first | intro (b : Nat) | refine go ?_ | (refine br ?_ ?_ <;> first | exact trivial | intro hq) | refine L.call (h := by intro W hW; first | apply rvb h1 (b_DateValid _ _ _ W hW.base) | apply hW3 W hW.base) (k := ?_)))
        (apply C.draww (id := 10) 15 [none, some _, some _, none, some _, some _, none, none, some _, some _, some _, none, some _, none, none])
        (repeat' (first | refine gg ?_ | refine G.call (h := by intro W hW; first | apply b_Put4 _ (by omega) W hW.base | apply b_Put2 _ (by omega) W hW.base | apply b_Put1 _ (by omega) W hW.base) (k := ?_)))
        intro bj
        (repeat (first | intro (b : Nat) | refine gg ?_))
        (refine G.calld [(bj, .cells 9 [.string (strOfNums (digL Y 4)), .string ((⟨#[87]⟩ : ByteArray) ++ strOfNums (digL K 2)), .string (strOfNums (digL (N % 7 + 1) 1))])] (h := by intro W hW; exact b_Join3 bj 3 3 (digL Y 4) (87 :: digL K 2) (digL (N % 7 + 1) 1) h (by omega) (by omega) (by omega) W (hW.cell (by (repeat (first | exact List.Mem.head _ | apply List.Mem.tail))) rfl) (by rw [eW]; exact hW.cell (by (repeat (first | exact List.Mem.head _ | apply List.Mem.tail))) rfl) (hW.cell (by (repeat (first | exact List.Mem.head _ | apply List.Mem.tail))) rfl) hW.base) (k := ?_))
        (repeat (first | intro (b : Nat) | refine gg ?_))
        (repeat (first | intro (b : Nat) | refine go ?_))
        (refine ret ?_; try exact rfl)
      · have es : strOfNums (dtL y m d 2 h) = strOfNums (digL y 4 ++ hy1 h ++ digL (ord y m d) 3) := rfl
        have ho := ord_bd y m d (by omega) (by omega) (by omega)
        have l1 := digL_length y 4
        have l2 := digL_length (ord y m d) 3
        have hO := b_OrdinalOf y m d h1
        rw [es]
        generalize ord y m d = N at *
        refine enter Tryz.func50 rfl Tryz.ntmps50 rfl (by assumption) ?_
        (repeat' (first | intro (b : Nat) | refine go ?_ | (refine br ?_ ?_ <;> first | exact trivial | intro hq) | refine L.call (h := by intro W hW; exact rvb h1 (b_DateValid _ _ _ W hW.base)) (k := ?_)))
        (apply C.draww (id := 12) 11 [none, some _, some _, some _, some _, some _, some _, none, some _, none, none])
        (repeat' (first | refine gg ?_ | refine G.call (h := by intro W hW; first | apply b_Put4 _ (by omega) W hW.base | apply b_Put3 _ (by omega) W hW.base | apply hO W hW.base) (k := ?_)))
        intro bj
        (repeat (first | intro (b : Nat) | refine gg ?_))
        (refine G.calld [(bj, .cells 9 [.string (strOfNums (digL y 4)), .string (strOfNums (digL N 3))])] (h := by intro W hW; exact b_Join2 bj 2 2 (digL y 4) (digL N 3) h (by omega) (by omega) W (hW.cell (by (repeat (first | exact List.Mem.head _ | apply List.Mem.tail))) rfl) (hW.cell (by (repeat (first | exact List.Mem.head _ | apply List.Mem.tail))) rfl) hW.base) (k := ?_))
        (repeat (first | intro (b : Nat) | refine gg ?_))
        (repeat (first | intro (b : Nat) | refine go ?_))
        (refine ret ?_; try exact rfl)

end D
end Go.Proofs.YtboglbdhibcacaaGreatDoor

namespace Go.Proofs.YtboglbdhibcacaaGreatDoor
set_option linter.unusedVariables false
set_option linter.unusedSimpArgs false
set_option maxRecDepth 100000
set_option maxHeartbeats 1000000
namespace D
open Go.RowKit
open Go.PlainAid (bt bt_nonneg bt_le bt_end)
attribute [local irreducible] Calls

theorem b_dg (s : ByteArray) (q : Int) (p m : Nat) (k : Int) (hq : q = (p : Int)) (hk : k = (m : Int)) (hs : s.size ≤ 1000000000000) (hp : p ≤ 1000000000000) (hm : 1 ≤ m ∧ m ≤ 6) (w : World) (hb : D.Base w) :
    Calls Tryz.prog 76 #[.string s, .int .i64 q, .int .i64 k] w fun e w' => e = .returned (.tuple #[.int .i64 (numV s p m), .bool (allD s p m)]) ∧ Below w.heap.size w w' := by
  subst hq
  subst hk
  exact b_DigitsGet s p m hs hp hm w hb

theorem b_l4Read0 (s : ByteArray) (hs : s.size ≤ 1000000000000) (w : World) (hb : D.Base w) : Calls Tryz.prog 124 #[.string s, .int .i64 0, .bool true] w fun e w' => e = .returned (drV (dS s 0)) ∧ Below w.heap.size w w' := by
  have h1 : ∀ W, D.Base W → Calls Tryz.prog 76 #[.string s, .int .i64 0, .int .i64 4] W fun e w' => e = .returned (.tuple #[.int .i64 (numV s 0 4), .bool (allD s 0 4)]) ∧ Below W.heap.size W w' := fun W hW => b_dg s 0 0 4 4 rfl rfl hs (by omega) (by omega) W hW
  have h2 : ∀ W, D.Base W → Calls Tryz.prog 76 #[.string s, .int .i64 5, .int .i64 2] W fun e w' => e = .returned (.tuple #[.int .i64 (numV s 5 2), .bool (allD s 5 2)]) ∧ Below W.heap.size W w' := fun W hW => b_dg s 5 5 2 2 rfl rfl hs (by omega) (by omega) W hW
  have h3 : ∀ W, D.Base W → Calls Tryz.prog 76 #[.string s, .int .i64 8, .int .i64 2] W fun e w' => e = .returned (.tuple #[.int .i64 (numV s 8 2), .bool (allD s 8 2)]) ∧ Below W.heap.size W w' := fun W hW => b_dg s 8 8 2 2 rfl rfl hs (by omega) (by omega) W hW
  have e : l4M s 5 8 = if allD s 0 4 = true then ⟨numV s 0 4, numV s 5 2, numV s 8 2, allD s 5 2 && allD s 8 2⟩ else DR.no := rfl
  show Calls Tryz.prog 124 _ w fun e w' => e = .returned (drV (l4M s 5 8)) ∧ Below w.heap.size w w'
  rw [e]
  clear e
  generalize numV s 0 4 = n1 at *
  generalize allD s 0 4 = x1 at *
  generalize numV s 5 2 = n2 at *
  generalize numV s 8 2 = n3 at *
  generalize allD s 5 2 = x2 at *
  generalize allD s 8 2 = x3 at *
  cases x1 <;> cases x2 <;> cases x3
  all_goals
    refine enter Tryz.func124 rfl Tryz.ntmps124 rfl (by assumption) ?_
    (repeat' (first | intro (b : Nat) | refine go ?_ | (refine br ?_ ?_ <;> first | exact trivial | intro hq) | refine L.call (h := by intro W hW; first | apply h1 W hW.base | apply h2 W hW.base | apply h3 W hW.base) (k := ?_)))
    all_goals (refine ret ?_; try exact rfl)

theorem b_l4Read1 (s : ByteArray) (hs : s.size ≤ 1000000000000) (w : World) (hb : D.Base w) : Calls Tryz.prog 124 #[.string s, .int .i64 0, .bool false] w fun e w' => e = .returned (drV (dS s 1)) ∧ Below w.heap.size w w' := by
  have h1 : ∀ W, D.Base W → Calls Tryz.prog 76 #[.string s, .int .i64 0, .int .i64 4] W fun e w' => e = .returned (.tuple #[.int .i64 (numV s 0 4), .bool (allD s 0 4)]) ∧ Below W.heap.size W w' := fun W hW => b_dg s 0 0 4 4 rfl rfl hs (by omega) (by omega) W hW
  have h2 : ∀ W, D.Base W → Calls Tryz.prog 76 #[.string s, .int .i64 4, .int .i64 2] W fun e w' => e = .returned (.tuple #[.int .i64 (numV s 4 2), .bool (allD s 4 2)]) ∧ Below W.heap.size W w' := fun W hW => b_dg s 4 4 2 2 rfl rfl hs (by omega) (by omega) W hW
  have h3 : ∀ W, D.Base W → Calls Tryz.prog 76 #[.string s, .int .i64 6, .int .i64 2] W fun e w' => e = .returned (.tuple #[.int .i64 (numV s 6 2), .bool (allD s 6 2)]) ∧ Below W.heap.size W w' := fun W hW => b_dg s 6 6 2 2 rfl rfl hs (by omega) (by omega) W hW
  have e : l4M s 4 6 = if allD s 0 4 = true then ⟨numV s 0 4, numV s 4 2, numV s 6 2, allD s 4 2 && allD s 6 2⟩ else DR.no := rfl
  show Calls Tryz.prog 124 _ w fun e w' => e = .returned (drV (l4M s 4 6)) ∧ Below w.heap.size w w'
  rw [e]
  clear e
  generalize numV s 0 4 = n1 at *
  generalize allD s 0 4 = x1 at *
  generalize numV s 4 2 = n2 at *
  generalize numV s 6 2 = n3 at *
  generalize allD s 4 2 = x2 at *
  generalize allD s 6 2 = x3 at *
  cases x1 <;> cases x2 <;> cases x3
  all_goals
    refine enter Tryz.func124 rfl Tryz.ntmps124 rfl (by assumption) ?_
    (repeat' (first | intro (b : Nat) | refine go ?_ | (refine br ?_ ?_ <;> first | exact trivial | intro hq) | refine L.call (h := by intro W hW; first | apply h1 W hW.base | apply h2 W hW.base | apply h3 W hW.base) (k := ?_)))
    all_goals (refine ret ?_; try exact rfl)

theorem b_l4Read2 (s : ByteArray) (hs : s.size ≤ 1000000000000) (w : World) (hb : D.Base w) : Calls Tryz.prog 124 #[.string s, .int .i64 1, .bool true] w fun e w' => e = .returned (drV (dS s 2)) ∧ Below w.heap.size w w' := by
  have h1 : ∀ W, D.Base W → Calls Tryz.prog 76 #[.string s, .int .i64 0, .int .i64 4] W fun e w' => e = .returned (.tuple #[.int .i64 (numV s 0 4), .bool (allD s 0 4)]) ∧ Below W.heap.size W w' := fun W hW => b_dg s 0 0 4 4 rfl rfl hs (by omega) (by omega) W hW
  have h2 : ∀ W, D.Base W → Calls Tryz.prog 76 #[.string s, .int .i64 6, .int .i64 2] W fun e w' => e = .returned (.tuple #[.int .i64 (numV s 6 2), .bool (allD s 6 2)]) ∧ Below W.heap.size W w' := fun W hW => b_dg s 6 6 2 2 rfl rfl hs (by omega) (by omega) W hW
  have h3 : ∀ W, D.Base W → Calls Tryz.prog 76 #[.string s, .int .i64 9, .int .i64 1] W fun e w' => e = .returned (.tuple #[.int .i64 (numV s 9 1), .bool (allD s 9 1)]) ∧ Below W.heap.size W w' := fun W hW => b_dg s 9 9 1 1 rfl rfl hs (by omega) (by omega) W hW
  have e : l4K s 6 9 = if (allD s 0 4 && allD s 6 2 && allD s 9 1) = true then wkD (numV s 0 4) (numV s 6 2) (numV s 9 1) else DR.no := rfl
  show Calls Tryz.prog 124 _ w fun e w' => e = .returned (drV (l4K s 6 9)) ∧ Below w.heap.size w w'
  rw [e]
  clear e
  generalize numV s 0 4 = n1 at *
  generalize allD s 0 4 = x1 at *
  generalize numV s 6 2 = n2 at *
  generalize numV s 9 1 = n3 at *
  generalize allD s 6 2 = x2 at *
  generalize allD s 9 1 = x3 at *
  cases x1 <;> cases x2 <;> cases x3
  all_goals
    refine enter Tryz.func124 rfl Tryz.ntmps124 rfl (by assumption) ?_
    (repeat' (first | intro (b : Nat) | refine go ?_ | (refine br ?_ ?_ <;> first | exact trivial | intro hq) | refine L.call (h := by intro W hW; first | apply h1 W hW.base | apply h2 W hW.base | apply h3 W hW.base | apply b_WeekDate _ _ _ W hW.base) (k := ?_)))
    all_goals (refine ret ?_; try exact rfl)

theorem b_l4Read3 (s : ByteArray) (hs : s.size ≤ 1000000000000) (w : World) (hb : D.Base w) : Calls Tryz.prog 124 #[.string s, .int .i64 1, .bool false] w fun e w' => e = .returned (drV (dS s 3)) ∧ Below w.heap.size w w' := by
  have h1 : ∀ W, D.Base W → Calls Tryz.prog 76 #[.string s, .int .i64 0, .int .i64 4] W fun e w' => e = .returned (.tuple #[.int .i64 (numV s 0 4), .bool (allD s 0 4)]) ∧ Below W.heap.size W w' := fun W hW => b_dg s 0 0 4 4 rfl rfl hs (by omega) (by omega) W hW
  have h2 : ∀ W, D.Base W → Calls Tryz.prog 76 #[.string s, .int .i64 5, .int .i64 2] W fun e w' => e = .returned (.tuple #[.int .i64 (numV s 5 2), .bool (allD s 5 2)]) ∧ Below W.heap.size W w' := fun W hW => b_dg s 5 5 2 2 rfl rfl hs (by omega) (by omega) W hW
  have h3 : ∀ W, D.Base W → Calls Tryz.prog 76 #[.string s, .int .i64 7, .int .i64 1] W fun e w' => e = .returned (.tuple #[.int .i64 (numV s 7 1), .bool (allD s 7 1)]) ∧ Below W.heap.size W w' := fun W hW => b_dg s 7 7 1 1 rfl rfl hs (by omega) (by omega) W hW
  have e : l4K s 5 7 = if (allD s 0 4 && allD s 5 2 && allD s 7 1) = true then wkD (numV s 0 4) (numV s 5 2) (numV s 7 1) else DR.no := rfl
  show Calls Tryz.prog 124 _ w fun e w' => e = .returned (drV (l4K s 5 7)) ∧ Below w.heap.size w w'
  rw [e]
  clear e
  generalize numV s 0 4 = n1 at *
  generalize allD s 0 4 = x1 at *
  generalize numV s 5 2 = n2 at *
  generalize numV s 7 1 = n3 at *
  generalize allD s 5 2 = x2 at *
  generalize allD s 7 1 = x3 at *
  cases x1 <;> cases x2 <;> cases x3
  all_goals
    refine enter Tryz.func124 rfl Tryz.ntmps124 rfl (by assumption) ?_
    (repeat' (first | intro (b : Nat) | refine go ?_ | (refine br ?_ ?_ <;> first | exact trivial | intro hq) | refine L.call (h := by intro W hW; first | apply h1 W hW.base | apply h2 W hW.base | apply h3 W hW.base | apply b_WeekDate _ _ _ W hW.base) (k := ?_)))
    all_goals (refine ret ?_; try exact rfl)

theorem b_l4Read4 (s : ByteArray) (hs : s.size ≤ 1000000000000) (w : World) (hb : D.Base w) : Calls Tryz.prog 124 #[.string s, .int .i64 2, .bool true] w fun e w' => e = .returned (drV (dS s 4)) ∧ Below w.heap.size w w' := by
  have h1 : ∀ W, D.Base W → Calls Tryz.prog 76 #[.string s, .int .i64 0, .int .i64 4] W fun e w' => e = .returned (.tuple #[.int .i64 (numV s 0 4), .bool (allD s 0 4)]) ∧ Below W.heap.size W w' := fun W hW => b_dg s 0 0 4 4 rfl rfl hs (by omega) (by omega) W hW
  have h2 : ∀ W, D.Base W → Calls Tryz.prog 76 #[.string s, .int .i64 5, .int .i64 3] W fun e w' => e = .returned (.tuple #[.int .i64 (numV s 5 3), .bool (allD s 5 3)]) ∧ Below W.heap.size W w' := fun W hW => b_dg s 5 5 3 3 rfl rfl hs (by omega) (by omega) W hW
  have e : l4O s 5 = if (allD s 0 4 && allD s 5 3) = true then orD (numV s 0 4) (numV s 5 3) else DR.no := rfl
  show Calls Tryz.prog 124 _ w fun e w' => e = .returned (drV (l4O s 5)) ∧ Below w.heap.size w w'
  rw [e]
  clear e
  generalize numV s 0 4 = n1 at *
  generalize allD s 0 4 = x1 at *
  generalize numV s 5 3 = n2 at *
  generalize allD s 5 3 = x2 at *
  cases x1 <;> cases x2
  all_goals
    refine enter Tryz.func124 rfl Tryz.ntmps124 rfl (by assumption) ?_
    (repeat' (first | intro (b : Nat) | refine go ?_ | (refine br ?_ ?_ <;> first | exact trivial | intro hq) | refine L.call (h := by intro W hW; first | apply h1 W hW.base | apply h2 W hW.base | apply b_OrdinalDate _ _ W hW.base) (k := ?_)))
    all_goals (refine ret ?_; try exact rfl)

theorem b_l4Read5 (s : ByteArray) (hs : s.size ≤ 1000000000000) (w : World) (hb : D.Base w) : Calls Tryz.prog 124 #[.string s, .int .i64 2, .bool false] w fun e w' => e = .returned (drV (dS s 5)) ∧ Below w.heap.size w w' := by
  have h1 : ∀ W, D.Base W → Calls Tryz.prog 76 #[.string s, .int .i64 0, .int .i64 4] W fun e w' => e = .returned (.tuple #[.int .i64 (numV s 0 4), .bool (allD s 0 4)]) ∧ Below W.heap.size W w' := fun W hW => b_dg s 0 0 4 4 rfl rfl hs (by omega) (by omega) W hW
  have h2 : ∀ W, D.Base W → Calls Tryz.prog 76 #[.string s, .int .i64 4, .int .i64 3] W fun e w' => e = .returned (.tuple #[.int .i64 (numV s 4 3), .bool (allD s 4 3)]) ∧ Below W.heap.size W w' := fun W hW => b_dg s 4 4 3 3 rfl rfl hs (by omega) (by omega) W hW
  have e : l4O s 4 = if (allD s 0 4 && allD s 4 3) = true then orD (numV s 0 4) (numV s 4 3) else DR.no := rfl
  show Calls Tryz.prog 124 _ w fun e w' => e = .returned (drV (l4O s 4)) ∧ Below w.heap.size w w'
  rw [e]
  clear e
  generalize numV s 0 4 = n1 at *
  generalize allD s 0 4 = x1 at *
  generalize numV s 4 3 = n2 at *
  generalize allD s 4 3 = x2 at *
  cases x1 <;> cases x2
  all_goals
    refine enter Tryz.func124 rfl Tryz.ntmps124 rfl (by assumption) ?_
    (repeat' (first | intro (b : Nat) | refine go ?_ | (refine br ?_ ?_ <;> first | exact trivial | intro hq) | refine L.call (h := by intro W hW; first | apply h1 W hW.base | apply h2 W hW.base | apply b_OrdinalDate _ _ W hW.base) (k := ?_)))
    all_goals (refine ret ?_; try exact rfl)

theorem b_DateFrom (s : ByteArray) (hs : s.size ≤ 1000000000000) (w : World) (hb : D.Base w) : Calls Tryz.prog 74 #[.string s] w fun e w' => e = .returned (dfV (okS s) (dS s)) ∧ Below w.heap.size w w' := by
  refine enter Tryz.func74 rfl Tryz.ntmps74 rfl (by assumption) ?_
  (repeat (first | intro (b : Nat) | refine go ?_))
  revert b; intro b2
  refine C.loopw (Y := Nat) (fun k => [(0, .string s), (2, .pointer (some ⟨b2, 0, none⟩)), (3, .int .i64 0), (4, .bool false), (5, .bool false), (6, .int .i64 (k : Int))]) (fun k => [(b2, .cells 63 [.int .i64 0, .int .i64 0, .int .i64 0])]) (fun k => k ≤ 6 ∧ ∀ j, j < k → okS s j = false) (fun k => 6 - k) 0 ⟨by omega, fun j hj => by omega⟩ (fun k hy => ?_)
  obtain ⟨hk, hno⟩ := hy
  by_cases hlt : k < 6
  · rcases (by omega : k = 0 ∨ k = 1 ∨ k = 2 ∨ k = 3 ∨ k = 4 ∨ k = 5) with rfl | rfl | rfl | rfl | rfl | rfl
    · have hread : ∀ W, D.Base W → Calls Tryz.prog 124 #[.string s, .int .i64 0, .bool true] W fun e w' => e = .returned (drV (dS s 0)) ∧ Below W.heap.size W w' := fun W hW => b_l4Read0 s hs W hW
      have e0 : okS s 0 = ((dS s 0).ok && dval (dS s 0).y (dS s 0).m (dS s 0).d && decide (strOfNums (dtL (dS s 0).y (dS s 0).m (dS s 0).d 0 true) = s)) := rfl
      obtain ⟨x, e1⟩ : ∃ x, dS s 0 = x := ⟨_, rfl⟩
      rw [e1] at hread e0
      obtain ⟨y, m, d, ok⟩ := x
      cases dv : dval y m d
      · have hT : ∀ W, D.Base W → Calls Tryz.prog 50 #[.agg #[.int .i64 y, .int .i64 m, .int .i64 d], .int .i64 0, .bool true] W fun e w' => e = .returned (.tuple #[.string ⟨#[]⟩, .bool false]) ∧ Below W.heap.size W w' := fun W hW => rv (if_neg (by simp [dv])) (b_DateText y m d 0 true W hW)
        have e2 : okS s 0 = false := by rw [e0]; simp [dv]
        cases ok
        all_goals
          (repeat' (first | intro (b : Nat) | refine go ?_ | (refine br ?_ ?_ <;> first | exact trivial | intro hq) | refine L.call (h := by intro W hW; first | apply hread W hW.base | apply hT W hW.base) (k := ?_)))
          refine X.roundw (1) (⟨by omega, fun j hj => by
            by_cases e : j = 0
            · rw [e, e2]
            · exact hno j (by omega)⟩) (by omega)
      · have hT : ∀ W, D.Base W → Calls Tryz.prog 50 #[.agg #[.int .i64 y, .int .i64 m, .int .i64 d], .int .i64 0, .bool true] W fun e w' => e = .returned (.tuple #[.string (strOfNums (dtL y m d 0 true)), .bool true]) ∧ Below W.heap.size W w' := fun W hW => rv (if_pos ⟨dv, rfl⟩) (b_DateText y m d 0 true W hW)
        generalize strOfNums (dtL y m d 0 true) = t at *
        cases ok
        · have e2 : okS s 0 = false := by rw [e0]; simp
          (repeat' (first | intro (b : Nat) | refine go ?_ | (refine br ?_ ?_ <;> first | exact trivial | intro hq) | refine L.call (h := by intro W hW; first | apply hread W hW.base | apply hT W hW.base) (k := ?_)))
          refine X.roundw (1) (⟨by omega, fun j hj => by
            by_cases e : j = 0
            · rw [e, e2]
            · exact hno j (by omega)⟩) (by omega)
        · by_cases hne : t = s
          · have e2 : okS s 0 = true := by rw [e0]; simp [dv, hne]
            (repeat' (first | intro (b : Nat) | refine go ?_ | (refine br ?_ ?_ <;> first | exact trivial | intro hq) | refine L.call (h := by intro W hW; first | apply hread W hW.base | apply hT W hW.base) (k := ?_)))
            all_goals (try (exfalso; contradiction))
            (refine ret ?_)
            rw [dfV_at (k := 0) (by omega) hno e2, e1]
            rfl
          · have e2 : okS s 0 = false := by rw [e0]; simp [hne]
            (repeat' (first | intro (b : Nat) | refine go ?_ | (refine br ?_ ?_ <;> first | exact trivial | intro hq) | refine L.call (h := by intro W hW; first | apply hread W hW.base | apply hT W hW.base) (k := ?_)))
            all_goals (try (exfalso; contradiction))
            refine X.roundw (1) (⟨by omega, fun j hj => by
              by_cases e : j = 0
              · rw [e, e2]
              · exact hno j (by omega)⟩) (by omega)
    · have hread : ∀ W, D.Base W → Calls Tryz.prog 124 #[.string s, .int .i64 0, .bool false] W fun e w' => e = .returned (drV (dS s 1)) ∧ Below W.heap.size W w' := fun W hW => b_l4Read1 s hs W hW
      have e0 : okS s 1 = ((dS s 1).ok && dval (dS s 1).y (dS s 1).m (dS s 1).d && decide (strOfNums (dtL (dS s 1).y (dS s 1).m (dS s 1).d 0 false) = s)) := rfl
      obtain ⟨x, e1⟩ : ∃ x, dS s 1 = x := ⟨_, rfl⟩
      rw [e1] at hread e0
      obtain ⟨y, m, d, ok⟩ := x
      cases dv : dval y m d
      · have hT : ∀ W, D.Base W → Calls Tryz.prog 50 #[.agg #[.int .i64 y, .int .i64 m, .int .i64 d], .int .i64 0, .bool false] W fun e w' => e = .returned (.tuple #[.string ⟨#[]⟩, .bool false]) ∧ Below W.heap.size W w' := fun W hW => rv (if_neg (by simp [dv])) (b_DateText y m d 0 false W hW)
        have e2 : okS s 1 = false := by rw [e0]; simp [dv]
        cases ok
        all_goals
          (repeat' (first | intro (b : Nat) | refine go ?_ | (refine br ?_ ?_ <;> first | exact trivial | intro hq) | refine L.call (h := by intro W hW; first | apply hread W hW.base | apply hT W hW.base) (k := ?_)))
          refine X.roundw (2) (⟨by omega, fun j hj => by
            by_cases e : j = 1
            · rw [e, e2]
            · exact hno j (by omega)⟩) (by omega)
      · have hT : ∀ W, D.Base W → Calls Tryz.prog 50 #[.agg #[.int .i64 y, .int .i64 m, .int .i64 d], .int .i64 0, .bool false] W fun e w' => e = .returned (.tuple #[.string (strOfNums (dtL y m d 0 false)), .bool true]) ∧ Below W.heap.size W w' := fun W hW => rv (if_pos ⟨dv, rfl⟩) (b_DateText y m d 0 false W hW)
        generalize strOfNums (dtL y m d 0 false) = t at *
        cases ok
        · have e2 : okS s 1 = false := by rw [e0]; simp
          (repeat' (first | intro (b : Nat) | refine go ?_ | (refine br ?_ ?_ <;> first | exact trivial | intro hq) | refine L.call (h := by intro W hW; first | apply hread W hW.base | apply hT W hW.base) (k := ?_)))
          refine X.roundw (2) (⟨by omega, fun j hj => by
            by_cases e : j = 1
            · rw [e, e2]
            · exact hno j (by omega)⟩) (by omega)
        · by_cases hne : t = s
          · have e2 : okS s 1 = true := by rw [e0]; simp [dv, hne]
            (repeat' (first | intro (b : Nat) | refine go ?_ | (refine br ?_ ?_ <;> first | exact trivial | intro hq) | refine L.call (h := by intro W hW; first | apply hread W hW.base | apply hT W hW.base) (k := ?_)))
            all_goals (try (exfalso; contradiction))
            (refine ret ?_)
            rw [dfV_at (k := 1) (by omega) hno e2, e1]
            rfl
          · have e2 : okS s 1 = false := by rw [e0]; simp [hne]
            (repeat' (first | intro (b : Nat) | refine go ?_ | (refine br ?_ ?_ <;> first | exact trivial | intro hq) | refine L.call (h := by intro W hW; first | apply hread W hW.base | apply hT W hW.base) (k := ?_)))
            all_goals (try (exfalso; contradiction))
            refine X.roundw (2) (⟨by omega, fun j hj => by
              by_cases e : j = 1
              · rw [e, e2]
              · exact hno j (by omega)⟩) (by omega)
    · have hread : ∀ W, D.Base W → Calls Tryz.prog 124 #[.string s, .int .i64 1, .bool true] W fun e w' => e = .returned (drV (dS s 2)) ∧ Below W.heap.size W w' := fun W hW => b_l4Read2 s hs W hW
      have e0 : okS s 2 = ((dS s 2).ok && dval (dS s 2).y (dS s 2).m (dS s 2).d && decide (strOfNums (dtL (dS s 2).y (dS s 2).m (dS s 2).d 1 true) = s)) := rfl
      obtain ⟨x, e1⟩ : ∃ x, dS s 2 = x := ⟨_, rfl⟩
      rw [e1] at hread e0
      obtain ⟨y, m, d, ok⟩ := x
      cases dv : dval y m d
      · have hT : ∀ W, D.Base W → Calls Tryz.prog 50 #[.agg #[.int .i64 y, .int .i64 m, .int .i64 d], .int .i64 1, .bool true] W fun e w' => e = .returned (.tuple #[.string ⟨#[]⟩, .bool false]) ∧ Below W.heap.size W w' := fun W hW => rv (if_neg (by simp [dv])) (b_DateText y m d 1 true W hW)
        have e2 : okS s 2 = false := by rw [e0]; simp [dv]
        cases ok
        all_goals
          (repeat' (first | intro (b : Nat) | refine go ?_ | (refine br ?_ ?_ <;> first | exact trivial | intro hq) | refine L.call (h := by intro W hW; first | apply hread W hW.base | apply hT W hW.base) (k := ?_)))
          refine X.roundw (3) (⟨by omega, fun j hj => by
            by_cases e : j = 2
            · rw [e, e2]
            · exact hno j (by omega)⟩) (by omega)
      · have hT : ∀ W, D.Base W → Calls Tryz.prog 50 #[.agg #[.int .i64 y, .int .i64 m, .int .i64 d], .int .i64 1, .bool true] W fun e w' => e = .returned (.tuple #[.string (strOfNums (dtL y m d 1 true)), .bool true]) ∧ Below W.heap.size W w' := fun W hW => rv (if_pos ⟨dv, rfl⟩) (b_DateText y m d 1 true W hW)
        generalize strOfNums (dtL y m d 1 true) = t at *
        cases ok
        · have e2 : okS s 2 = false := by rw [e0]; simp
          (repeat' (first | intro (b : Nat) | refine go ?_ | (refine br ?_ ?_ <;> first | exact trivial | intro hq) | refine L.call (h := by intro W hW; first | apply hread W hW.base | apply hT W hW.base) (k := ?_)))
          refine X.roundw (3) (⟨by omega, fun j hj => by
            by_cases e : j = 2
            · rw [e, e2]
            · exact hno j (by omega)⟩) (by omega)
        · by_cases hne : t = s
          · have e2 : okS s 2 = true := by rw [e0]; simp [dv, hne]
            (repeat' (first | intro (b : Nat) | refine go ?_ | (refine br ?_ ?_ <;> first | exact trivial | intro hq) | refine L.call (h := by intro W hW; first | apply hread W hW.base | apply hT W hW.base) (k := ?_)))
            all_goals (try (exfalso; contradiction))
            (refine ret ?_)
            rw [dfV_at (k := 2) (by omega) hno e2, e1]
            rfl
          · have e2 : okS s 2 = false := by rw [e0]; simp [hne]
            (repeat' (first | intro (b : Nat) | refine go ?_ | (refine br ?_ ?_ <;> first | exact trivial | intro hq) | refine L.call (h := by intro W hW; first | apply hread W hW.base | apply hT W hW.base) (k := ?_)))
            all_goals (try (exfalso; contradiction))
            refine X.roundw (3) (⟨by omega, fun j hj => by
              by_cases e : j = 2
              · rw [e, e2]
              · exact hno j (by omega)⟩) (by omega)
    · have hread : ∀ W, D.Base W → Calls Tryz.prog 124 #[.string s, .int .i64 1, .bool false] W fun e w' => e = .returned (drV (dS s 3)) ∧ Below W.heap.size W w' := fun W hW => b_l4Read3 s hs W hW
      have e0 : okS s 3 = ((dS s 3).ok && dval (dS s 3).y (dS s 3).m (dS s 3).d && decide (strOfNums (dtL (dS s 3).y (dS s 3).m (dS s 3).d 1 false) = s)) := rfl
      obtain ⟨x, e1⟩ : ∃ x, dS s 3 = x := ⟨_, rfl⟩
      rw [e1] at hread e0
      obtain ⟨y, m, d, ok⟩ := x
      cases dv : dval y m d
      · have hT : ∀ W, D.Base W → Calls Tryz.prog 50 #[.agg #[.int .i64 y, .int .i64 m, .int .i64 d], .int .i64 1, .bool false] W fun e w' => e = .returned (.tuple #[.string ⟨#[]⟩, .bool false]) ∧ Below W.heap.size W w' := fun W hW => rv (if_neg (by simp [dv])) (b_DateText y m d 1 false W hW)
        have e2 : okS s 3 = false := by rw [e0]; simp [dv]
        cases ok
        all_goals
          (repeat' (first | intro (b : Nat) | refine go ?_ | (refine br ?_ ?_ <;> first | exact trivial | intro hq) | refine L.call (h := by intro W hW; first | apply hread W hW.base | apply hT W hW.base) (k := ?_)))
          refine X.roundw (4) (⟨by omega, fun j hj => by
            by_cases e : j = 3
            · rw [e, e2]
            · exact hno j (by omega)⟩) (by omega)
      · have hT : ∀ W, D.Base W → Calls Tryz.prog 50 #[.agg #[.int .i64 y, .int .i64 m, .int .i64 d], .int .i64 1, .bool false] W fun e w' => e = .returned (.tuple #[.string (strOfNums (dtL y m d 1 false)), .bool true]) ∧ Below W.heap.size W w' := fun W hW => rv (if_pos ⟨dv, rfl⟩) (b_DateText y m d 1 false W hW)
        generalize strOfNums (dtL y m d 1 false) = t at *
        cases ok
        · have e2 : okS s 3 = false := by rw [e0]; simp
          (repeat' (first | intro (b : Nat) | refine go ?_ | (refine br ?_ ?_ <;> first | exact trivial | intro hq) | refine L.call (h := by intro W hW; first | apply hread W hW.base | apply hT W hW.base) (k := ?_)))
          refine X.roundw (4) (⟨by omega, fun j hj => by
            by_cases e : j = 3
            · rw [e, e2]
            · exact hno j (by omega)⟩) (by omega)
        · by_cases hne : t = s
          · have e2 : okS s 3 = true := by rw [e0]; simp [dv, hne]
            (repeat' (first | intro (b : Nat) | refine go ?_ | (refine br ?_ ?_ <;> first | exact trivial | intro hq) | refine L.call (h := by intro W hW; first | apply hread W hW.base | apply hT W hW.base) (k := ?_)))
            all_goals (try (exfalso; contradiction))
            (refine ret ?_)
            rw [dfV_at (k := 3) (by omega) hno e2, e1]
            rfl
          · have e2 : okS s 3 = false := by rw [e0]; simp [hne]
            (repeat' (first | intro (b : Nat) | refine go ?_ | (refine br ?_ ?_ <;> first | exact trivial | intro hq) | refine L.call (h := by intro W hW; first | apply hread W hW.base | apply hT W hW.base) (k := ?_)))
            all_goals (try (exfalso; contradiction))
            refine X.roundw (4) (⟨by omega, fun j hj => by
              by_cases e : j = 3
              · rw [e, e2]
              · exact hno j (by omega)⟩) (by omega)
    · have hread : ∀ W, D.Base W → Calls Tryz.prog 124 #[.string s, .int .i64 2, .bool true] W fun e w' => e = .returned (drV (dS s 4)) ∧ Below W.heap.size W w' := fun W hW => b_l4Read4 s hs W hW
      have e0 : okS s 4 = ((dS s 4).ok && dval (dS s 4).y (dS s 4).m (dS s 4).d && decide (strOfNums (dtL (dS s 4).y (dS s 4).m (dS s 4).d 2 true) = s)) := rfl
      obtain ⟨x, e1⟩ : ∃ x, dS s 4 = x := ⟨_, rfl⟩
      rw [e1] at hread e0
      obtain ⟨y, m, d, ok⟩ := x
      cases dv : dval y m d
      · have hT : ∀ W, D.Base W → Calls Tryz.prog 50 #[.agg #[.int .i64 y, .int .i64 m, .int .i64 d], .int .i64 2, .bool true] W fun e w' => e = .returned (.tuple #[.string ⟨#[]⟩, .bool false]) ∧ Below W.heap.size W w' := fun W hW => rv (if_neg (by simp [dv])) (b_DateText y m d 2 true W hW)
        have e2 : okS s 4 = false := by rw [e0]; simp [dv]
        cases ok
        all_goals
          (repeat' (first | intro (b : Nat) | refine go ?_ | (refine br ?_ ?_ <;> first | exact trivial | intro hq) | refine L.call (h := by intro W hW; first | apply hread W hW.base | apply hT W hW.base) (k := ?_)))
          refine X.roundw (5) (⟨by omega, fun j hj => by
            by_cases e : j = 4
            · rw [e, e2]
            · exact hno j (by omega)⟩) (by omega)
      · have hT : ∀ W, D.Base W → Calls Tryz.prog 50 #[.agg #[.int .i64 y, .int .i64 m, .int .i64 d], .int .i64 2, .bool true] W fun e w' => e = .returned (.tuple #[.string (strOfNums (dtL y m d 2 true)), .bool true]) ∧ Below W.heap.size W w' := fun W hW => rv (if_pos ⟨dv, rfl⟩) (b_DateText y m d 2 true W hW)
        generalize strOfNums (dtL y m d 2 true) = t at *
        cases ok
        · have e2 : okS s 4 = false := by rw [e0]; simp
          (repeat' (first | intro (b : Nat) | refine go ?_ | (refine br ?_ ?_ <;> first | exact trivial | intro hq) | refine L.call (h := by intro W hW; first | apply hread W hW.base | apply hT W hW.base) (k := ?_)))
          refine X.roundw (5) (⟨by omega, fun j hj => by
            by_cases e : j = 4
            · rw [e, e2]
            · exact hno j (by omega)⟩) (by omega)
        · by_cases hne : t = s
          · have e2 : okS s 4 = true := by rw [e0]; simp [dv, hne]
            (repeat' (first | intro (b : Nat) | refine go ?_ | (refine br ?_ ?_ <;> first | exact trivial | intro hq) | refine L.call (h := by intro W hW; first | apply hread W hW.base | apply hT W hW.base) (k := ?_)))
            all_goals (try (exfalso; contradiction))
            (refine ret ?_)
            rw [dfV_at (k := 4) (by omega) hno e2, e1]
            rfl
          · have e2 : okS s 4 = false := by rw [e0]; simp [hne]
            (repeat' (first | intro (b : Nat) | refine go ?_ | (refine br ?_ ?_ <;> first | exact trivial | intro hq) | refine L.call (h := by intro W hW; first | apply hread W hW.base | apply hT W hW.base) (k := ?_)))
            all_goals (try (exfalso; contradiction))
            refine X.roundw (5) (⟨by omega, fun j hj => by
              by_cases e : j = 4
              · rw [e, e2]
              · exact hno j (by omega)⟩) (by omega)
    · have hread : ∀ W, D.Base W → Calls Tryz.prog 124 #[.string s, .int .i64 2, .bool false] W fun e w' => e = .returned (drV (dS s 5)) ∧ Below W.heap.size W w' := fun W hW => b_l4Read5 s hs W hW
      have e0 : okS s 5 = ((dS s 5).ok && dval (dS s 5).y (dS s 5).m (dS s 5).d && decide (strOfNums (dtL (dS s 5).y (dS s 5).m (dS s 5).d 2 false) = s)) := rfl
      obtain ⟨x, e1⟩ : ∃ x, dS s 5 = x := ⟨_, rfl⟩
      rw [e1] at hread e0
      obtain ⟨y, m, d, ok⟩ := x
      cases dv : dval y m d
      · have hT : ∀ W, D.Base W → Calls Tryz.prog 50 #[.agg #[.int .i64 y, .int .i64 m, .int .i64 d], .int .i64 2, .bool false] W fun e w' => e = .returned (.tuple #[.string ⟨#[]⟩, .bool false]) ∧ Below W.heap.size W w' := fun W hW => rv (if_neg (by simp [dv])) (b_DateText y m d 2 false W hW)
        have e2 : okS s 5 = false := by rw [e0]; simp [dv]
        cases ok
        all_goals
          (repeat' (first | intro (b : Nat) | refine go ?_ | (refine br ?_ ?_ <;> first | exact trivial | intro hq) | refine L.call (h := by intro W hW; first | apply hread W hW.base | apply hT W hW.base) (k := ?_)))
          refine X.roundw (6) (⟨by omega, fun j hj => by
            by_cases e : j = 5
            · rw [e, e2]
            · exact hno j (by omega)⟩) (by omega)
      · have hT : ∀ W, D.Base W → Calls Tryz.prog 50 #[.agg #[.int .i64 y, .int .i64 m, .int .i64 d], .int .i64 2, .bool false] W fun e w' => e = .returned (.tuple #[.string (strOfNums (dtL y m d 2 false)), .bool true]) ∧ Below W.heap.size W w' := fun W hW => rv (if_pos ⟨dv, rfl⟩) (b_DateText y m d 2 false W hW)
        generalize strOfNums (dtL y m d 2 false) = t at *
        cases ok
        · have e2 : okS s 5 = false := by rw [e0]; simp
          (repeat' (first | intro (b : Nat) | refine go ?_ | (refine br ?_ ?_ <;> first | exact trivial | intro hq) | refine L.call (h := by intro W hW; first | apply hread W hW.base | apply hT W hW.base) (k := ?_)))
          refine X.roundw (6) (⟨by omega, fun j hj => by
            by_cases e : j = 5
            · rw [e, e2]
            · exact hno j (by omega)⟩) (by omega)
        · by_cases hne : t = s
          · have e2 : okS s 5 = true := by rw [e0]; simp [dv, hne]
            (repeat' (first | intro (b : Nat) | refine go ?_ | (refine br ?_ ?_ <;> first | exact trivial | intro hq) | refine L.call (h := by intro W hW; first | apply hread W hW.base | apply hT W hW.base) (k := ?_)))
            all_goals (try (exfalso; contradiction))
            (refine ret ?_)
            rw [dfV_at (k := 5) (by omega) hno e2, e1]
            rfl
          · have e2 : okS s 5 = false := by rw [e0]; simp [hne]
            (repeat' (first | intro (b : Nat) | refine go ?_ | (refine br ?_ ?_ <;> first | exact trivial | intro hq) | refine L.call (h := by intro W hW; first | apply hread W hW.base | apply hT W hW.base) (k := ?_)))
            all_goals (try (exfalso; contradiction))
            refine X.roundw (6) (⟨by omega, fun j hj => by
              by_cases e : j = 5
              · rw [e, e2]
              · exact hno j (by omega)⟩) (by omega)
  · obtain rfl : k = 6 := by omega
    (repeat' (first | intro (b : Nat) | refine go ?_ | (refine br ?_ ?_ <;> first | exact trivial | intro hq)))
    (refine ret ?_; try exact rfl)
    exact (dfV_no hno).symm

end D
end Go.Proofs.YtboglbdhibcacaaGreatDoor
