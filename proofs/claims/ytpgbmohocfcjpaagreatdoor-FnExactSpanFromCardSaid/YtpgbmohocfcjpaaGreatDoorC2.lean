/- Walks of the reference: weeks, days of years, texts of dates. -/
import Derived.Test.YtpgbmohocfcjpaaGreatDoorC1
import Derived.Test.YtpgbmohocfcjpaaGreatDoorS5
import Derived.Test.YtpgbmohocfcjpaaGreatDoorPT
namespace Go.Proofs.YtpgbmohocfcjpaaGreatDoor
set_option linter.unusedVariables false
set_option linter.unusedSimpArgs false
set_option maxRecDepth 100000
set_option maxHeartbeats 1000000
namespace D
open Go.RowKit
open Go.PlainAid (bt bt_nonneg bt_le bt_end)
attribute [local irreducible] Calls

theorem b_First (y : Int) (h : 1 ≤ y ∧ y ≤ 10000) (w : World) (hb : D.Base w) : Calls Tryz.prog 189 #[.int .i64 y] w fun e w' => e = .returned (.int .i64 (fmon y)) ∧ Below w.heap.size w w' := by
  have hn := ny_bd y h.1 h.2
  have e : fmon y = ny y + 3 - (ny y + 3) % 7 := rfl
  generalize fmon y = f at *
  refine enter Tryz.func189 rfl Tryz.ntmps189 rfl (by assumption) ?_
  (repeat' (first | intro (b : Nat) | refine go ?_ | (refine br ?_ ?_ <;> first | exact trivial | intro hq) | refine L.call (h := by intro W hW; apply b_years _ (by omega) (by omega) W hW.base) (k := ?_)))
  all_goals (refine ret ?_; try exact rfl)
  all_goals (refine congrArg (Value.int .i64) ?_; omega)

theorem b_WeeksOf (y : Int) (w : World) (hb : D.Base w) : Calls Tryz.prog 210 #[.int .i64 y] w fun e w' => e = .returned (.int .i64 (wks y)) ∧ Below w.heap.size w w' := by
  cases h : inR y 1 9999 with
  | true =>
    have hb := inR_true.1 h
    have e : wks y = (fmon (y + 1) - fmon y) / 7 := if_pos h
    have h1 := fmon_bd (y := y) (by omega)
    have h2 := fmon_bd (y := y + 1) (by omega)
    have h3 : 0 ≤ fmon (y + 1) - fmon y := by
      have := wks_bd y
      rw [e] at this
      omega
    rw [e]
    refine enter Tryz.func210 rfl Tryz.ntmps210 rfl (by assumption) ?_
    (repeat' (first | intro (b : Nat) | refine go ?_ | (refine br ?_ ?_ <;> first | exact trivial | intro hq) | refine L.call (h := by intro W hW; first | apply rvb h (b_in _ _ _ W hW.base) | apply b_First _ (by omega) W hW.base) (k := ?_)))
    (refine ret ?_; try exact rfl)
  | false =>
    have e : wks y = 0 := if_neg (by simp [h])
    rw [e]
    refine enter Tryz.func210 rfl Tryz.ntmps210 rfl (by assumption) ?_
    (repeat' (first | intro (b : Nat) | refine go ?_ | (refine br ?_ ?_ <;> first | exact trivial | intro hq) | refine L.call (h := by intro W hW; apply rvb h (b_in _ _ _ W hW.base)) (k := ?_)))
    (refine ret ?_; try exact rfl)

theorem b_WeekDate (y k d : Int) (w : World) (hb : D.Base w) : Calls Tryz.prog 184 #[.agg #[.int .i64 y, .int .i64 k, .int .i64 d]] w fun e w' => e = .returned (drV (wkD y k d)) ∧ Below w.heap.size w w' := by
  cases h1 : inR k 1 (wks y) with
  | false =>
    have e : wkD y k d = DR.no := if_neg (by simp [h1])
    rw [e]
    refine enter Tryz.func184 rfl Tryz.ntmps184 rfl (by assumption) ?_
    (repeat' (first | intro (b : Nat) | refine go ?_ | (refine br ?_ ?_ <;> first | exact trivial | intro hq) | refine L.call (h := by intro W hW; first | apply b_WeeksOf _ W hW.base | apply rvb h1 (b_in _ _ _ W hW.base) | apply b_in _ _ _ W hW.base) (k := ?_) | refine gg ?_ | refine G.call (h := by intro W hW; first | apply b_WeeksOf _ W hW.base | apply rvb h1 (b_in _ _ _ W hW.base) | apply b_in _ _ _ W hW.base) (k := ?_) | (apply C.draww (id := 1) 13 [none, some _, none, some _, some _, some _, none, none, none, some _, some _, none, none]) | (apply C.draww (id := 3) 14 [none, some _, some _, none, some _, none, none, none, some _, none, none, some _, none, none])))
    all_goals (refine ret ?_; try exact rfl)
  | true =>
    have hy := wks_yes h1
    cases h2 : inR d 1 7 with
    | false =>
      have e : wkD y k d = DR.no := if_neg (by simp [h2])
      rw [e]
      refine enter Tryz.func184 rfl Tryz.ntmps184 rfl (by assumption) ?_
      (repeat' (first | intro (b : Nat) | refine go ?_ | (refine br ?_ ?_ <;> first | exact trivial | intro hq) | refine L.call (h := by intro W hW; first | apply b_WeeksOf _ W hW.base | apply rvb h1 (b_in _ _ _ W hW.base) | apply rvb h2 (b_in _ _ _ W hW.base)) (k := ?_) | refine gg ?_ | refine G.call (h := by intro W hW; first | apply b_WeeksOf _ W hW.base | apply rvb h1 (b_in _ _ _ W hW.base) | apply rvb h2 (b_in _ _ _ W hW.base)) (k := ?_) | (apply C.draww (id := 1) 13 [none, some _, none, some _, some _, some _, none, none, none, some _, some _, none, none]) | (apply C.draww (id := 3) 14 [none, some _, some _, none, some _, none, none, none, some _, none, none, some _, none, none])))
      all_goals (refine ret ?_; try exact rfl)
    | true =>
      have e : wkD y k d = dateOf (fmon y + 7 * (k - 1) + d - 1) := if_pos ⟨h1, h2⟩
      have hd := inR_true.1 h2
      have hf := fmon_bd (y := y) (by omega)
      have e3 : fmon y + 7 * (k - 1) + d - 1 = fmon y + 7 * k + d - 8 := by omega
      rw [e, e3]
      refine enter Tryz.func184 rfl Tryz.ntmps184 rfl (by assumption) ?_
      (repeat' (first | intro (b : Nat) | refine go ?_ | (refine br ?_ ?_ <;> first | exact trivial | intro hq) | refine L.call (h := by intro W hW; first | apply b_WeeksOf _ W hW.base | apply rvb h1 (b_in _ _ _ W hW.base) | apply rvb h2 (b_in _ _ _ W hW.base) | apply b_First _ (by omega) W hW.base | apply b_DateOfG _ W hW.base) (k := ?_) | refine gg ?_ | refine G.call (h := by intro W hW; first | apply b_WeeksOf _ W hW.base | apply rvb h1 (b_in _ _ _ W hW.base) | apply rvb h2 (b_in _ _ _ W hW.base) | apply b_First _ (by omega) W hW.base | apply b_DateOfG _ W hW.base) (k := ?_) | (apply C.draww (id := 1) 13 [none, some _, none, some _, some _, some _, none, none, none, some _, some _, none, none]) | (apply C.draww (id := 3) 14 [none, some _, some _, none, some _, none, none, none, some _, none, none, some _, none, none])))
      all_goals (refine ret ?_; try exact rfl)

theorem b_Days (y : Int) (w : World) (hb : D.Base w) : Calls Tryz.prog 211 #[.int .i64 y] w fun e w' => e = .returned (.int .i64 (cum y 13)) ∧ Below w.heap.size w w' := by
  have h0 := cum_one y
  refine enter Tryz.func211 rfl Tryz.ntmps211 rfl (by assumption) ?_
  (repeat (first | intro (b : Nat) | refine go ?_))
  refine C.loopw (Y := Int) (fun k => [(0, .int .i64 y), (3, .int .i64 (cum y k)), (4, .int .i64 k)]) (fun k => []) (fun k => 1 ≤ k ∧ k ≤ 13) (fun k => (13 - k).toNat) 1 (by omega) (fun k hy => ?_)
  have hc := cum_bd y k (by omega)
  have hs := cum_succ y k hy.1
  have hmd := md_bd y k
  (repeat' (first | intro (b : Nat) | refine go ?_ | (refine br ?_ ?_ <;> first | exact trivial | intro hq)))
  · (refine L.call (h := by intro W hW; exact b_MonthDays _ _ W hW.base) (k := ?_))
    (repeat (first | intro (b : Nat) | refine go ?_))
    refine X.roundw (k + 1) (⟨by omega, by omega⟩) (by omega)
  · (refine ret ?_; try exact rfl)
    have : k = 13 := by omega
    rw [this]; rfl

theorem cum_off {y : Int} (h : inR y 1 9999 = false) : cum y 13 = 0 := by
  have : ∀ m, md y m = 0 := fun m => by simp [md, h]
  simp [cum, cumN, this]

theorem b_OrdinalDate (y k : Int) (w : World) (hb : D.Base w) : Calls Tryz.prog 185 #[.int .i64 y, .int .i64 k] w fun e w' => e = .returned (drV (orD y k)) ∧ Below w.heap.size w w' := by
  cases h1 : inR y 1 9999 with
  | false =>
    have e : orD y k = DR.no := if_neg (by simp [h1])
    have hc := cum_off h1
    have hr : inR k 1 (cum y 13) = false := inR_false.2 (by omega)
    rw [e]
    refine enter Tryz.func185 rfl Tryz.ntmps185 rfl (by assumption) ?_
    (repeat' (first | intro (b : Nat) | refine go ?_ | (refine br ?_ ?_ <;> first | exact trivial | intro hq) | refine L.call (h := by intro W hW; first | apply b_Days _ W hW.base | apply rvb hr (b_in _ _ _ W hW.base)) (k := ?_)))
    all_goals (refine ret ?_; try exact rfl)
  | true =>
    have hy := inR_true.1 h1
    have hn := ny_bd y (by omega) (by omega)
    have hn2 := ny_bd (y + 1) (by omega) (by omega)
    have hca : cum y 13 = ny (y + 1) - ny y := by
      have := cum_all y hy.1 hy.2
      have := ny_succ y hy.1 hy.2
      omega
    cases h2 : inR k 1 (ny (y + 1) - ny y) with
    | false =>
      have e : orD y k = DR.no := if_neg (by simp [h2])
      rw [e]
      rw [← hca] at h2
      refine enter Tryz.func185 rfl Tryz.ntmps185 rfl (by assumption) ?_
      (repeat' (first | intro (b : Nat) | refine go ?_ | (refine br ?_ ?_ <;> first | exact trivial | intro hq) | refine L.call (h := by intro W hW; first | apply b_Days _ W hW.base | apply rvb h2 (b_in _ _ _ W hW.base)) (k := ?_)))
      all_goals (refine ret ?_; try exact rfl)
    | true =>
      have hk := inR_true.1 h2
      have e : orD y k = dateOf (ny y + k - 1) := if_pos ⟨h1, h2⟩
      rw [e]
      rw [← hca] at h2
      refine enter Tryz.func185 rfl Tryz.ntmps185 rfl (by assumption) ?_
      (repeat' (first | intro (b : Nat) | refine go ?_ | (refine br ?_ ?_ <;> first | exact trivial | intro hq) | refine L.call (h := by intro W hW; first | apply b_Days _ W hW.base | apply rvb h2 (b_in _ _ _ W hW.base) | apply b_years _ (by omega) (by omega) W hW.base | apply b_DateOfG _ W hW.base) (k := ?_)))
      all_goals (refine ret ?_; try exact rfl)

/-- The week of a day. -/
theorem b_WeekOf (y m d : Int) (h : dval y m d = true) (w : World) (hb : D.Base w) : Calls Tryz.prog 157 #[.agg #[.int .i64 y, .int .i64 m, .int .i64 d]] w fun e w' => e = .returned (.tuple #[.agg #[.int .i64 (wyr (num y m d)), .int .i64 (wno (num y m d)), .int .i64 (num y m d % 7 + 1)], .bool true]) ∧ Below w.heap.size w w' := by
  have hd := dval_bd h
  have hn := num_in h
  have hb3 := num_bd h
  have hy := wyr_in (n := num y m d) hb3
  have hr : inR (wyr (num y m d)) 1 9999 = true := inR_true.2 ⟨hy.1, hy.2.1⟩
  have hg : ∀ Y, (fmon Y ≤ num y m d ↔ ny Y ≤ thu (num y m d)) := fun Y => thu_ge Y hb3.1
  have hfb := fmon_bd (y := wyr (num y m d)) (by omega)
  have e1 := wno_eq (n := num y m d) hb3
  have e2 := wda_eq (n := num y m d) hb3
  have hge := (hg (wyr (num y m d))).2 hy.2.2.1
  rw [e1, ← e2]
  have hv : dnum y m d = num y m d := if_pos h
  have hfy := fmon_bd (y := y) (by omega)
  have hfy1 := fmon_bd (y := y + 1) (by omega)
  have hor : (wyr (num y m d) = y - 1 ∧ num y m d < fmon y) ∨ (wyr (num y m d) = y ∧ fmon y ≤ num y m d ∧ num y m d < fmon (y + 1)) ∨ (wyr (num y m d) = y + 1 ∧ fmon y ≤ num y m d ∧ fmon (y + 1) ≤ num y m d) := wyr_or hb3 ⟨hd.1, hd.2.1⟩ hn
  generalize wyr (num y m d) = Y at *
  generalize num y m d = n at *
  clear e1 e2 hg hn
  rcases hor with ⟨rfl, h1⟩ | ⟨rfl, h1, h2⟩ | ⟨rfl, h1, h2⟩
  · have hlt : ¬ fmon (y - 1 + 1) ≤ n := by rw [show y - 1 + 1 = y by omega]; omega
    refine enter Tryz.func157 rfl Tryz.ntmps157 rfl (by assumption) ?_
    (repeat' (first | intro (b : Nat) | refine go ?_ | (refine br ?_ ?_ <;> first | exact trivial | intro hq) | refine L.call (h := by intro W hW; first | apply rvb h (b_DateValid _ _ _ W hW.base) | apply rvi hv (b_DayNumber _ _ _ W hW.base) | apply b_First _ (by omega) W hW.base | apply rvb hr (b_in _ _ _ W hW.base)) (k := ?_)))
    all_goals (refine ret ?_; try exact rfl)
  · refine enter Tryz.func157 rfl Tryz.ntmps157 rfl (by assumption) ?_
    (repeat' (first | intro (b : Nat) | refine go ?_ | (refine br ?_ ?_ <;> first | exact trivial | intro hq) | refine L.call (h := by intro W hW; first | apply rvb h (b_DateValid _ _ _ W hW.base) | apply rvi hv (b_DayNumber _ _ _ W hW.base) | apply b_First _ (by omega) W hW.base | apply rvb hr (b_in _ _ _ W hW.base)) (k := ?_)))
    all_goals (refine ret ?_; try exact rfl)
  · refine enter Tryz.func157 rfl Tryz.ntmps157 rfl (by assumption) ?_
    (repeat' (first | intro (b : Nat) | refine go ?_ | (refine br ?_ ?_ <;> first | exact trivial | intro hq) | refine L.call (h := by intro W hW; first | apply rvb h (b_DateValid _ _ _ W hW.base) | apply rvi hv (b_DayNumber _ _ _ W hW.base) | apply b_First _ (by omega) W hW.base | apply rvb hr (b_in _ _ _ W hW.base)) (k := ?_)))
    all_goals (refine ret ?_; try exact rfl)

theorem b_OrdinalOf (y m d : Int) (h : dval y m d = true) (w : World) (hb : D.Base w) : Calls Tryz.prog 158 #[.agg #[.int .i64 y, .int .i64 m, .int .i64 d]] w fun e w' => e = .returned (.int .i64 (ord y m d)) ∧ Below w.heap.size w w' := by
  have hd := dval_bd h
  have hc := cum_bd y m (by omega)
  refine enter Tryz.func158 rfl Tryz.ntmps158 rfl (by assumption) ?_
  (repeat' (first | intro (b : Nat) | refine go ?_ | (refine br ?_ ?_ <;> first | exact trivial | intro hq) | refine L.call (h := by intro W hW; first | apply rvb h (b_DateValid _ _ _ W hW.base) | apply b_months _ _ (by omega) (by omega) W hW.base) (k := ?_) | refine gg ?_ | refine G.call (h := by intro W hW; first | apply rvb h (b_DateValid _ _ _ W hW.base) | apply b_months _ _ (by omega) (by omega) W hW.base) (k := ?_) | (apply C.draww (id := 3) 9 [none, some _, none, some _, some _, none, some _, none, none])))
  all_goals (refine ret ?_; try exact rfl)

theorem b_Join3 (b n c : Nat) (x y z : List Int) (h : Bool) (hx : x.length ≤ 9) (hy : y.length ≤ 9) (hz : z.length ≤ 9) (w : World) (c0 : w.cell? ⟨b, 0, none⟩ = some (.string (strOfNums x))) (c1 : w.cell? ⟨b, 1, none⟩ = some (.string (strOfNums y))) (c2 : w.cell? ⟨b, 2, none⟩ = some (.string (strOfNums z))) (hb : D.Base w) :
    Calls Tryz.prog 155 #[.slice (some ⟨b, 0, none⟩) 3 3, .bool h] w fun e w' => e = .returned (.string (strOfNums (x ++ hy1 h ++ y ++ hy1 h ++ z))) ∧ Below w.heap.size w w' := by
  cases h
  all_goals
    refine enter Tryz.func155 rfl Tryz.ntmps155 rfl (by assumption) ?_
    (repeat (first | intro (b : Nat) | refine go ?_))
    refine C.rounds 6 ?_
    (repeat' (first | intro (b : Nat) | refine go ?_ | (refine br ?_ ?_ <;> first | exact trivial | intro hq)))
    (refine ret ?_)
    refine congrArg Value.string ?_
    rw [show (⟨#[]⟩ : ByteArray) = strOfNums [] from rfl]
    try rw [show (⟨#[45]⟩ : ByteArray) = strOfNums [45] from rfl]
    simp only [strOfNums_append]
    simp [hy1]

theorem b_Join2 (b n c : Nat) (x y : List Int) (h : Bool) (hx : x.length ≤ 9) (hy : y.length ≤ 9) (w : World) (c0 : w.cell? ⟨b, 0, none⟩ = some (.string (strOfNums x))) (c1 : w.cell? ⟨b, 1, none⟩ = some (.string (strOfNums y))) (hb : D.Base w) :
    Calls Tryz.prog 155 #[.slice (some ⟨b, 0, none⟩) 2 2, .bool h] w fun e w' => e = .returned (.string (strOfNums (x ++ hy1 h ++ y))) ∧ Below w.heap.size w w' := by
  cases h
  all_goals
    refine enter Tryz.func155 rfl Tryz.ntmps155 rfl (by assumption) ?_
    (repeat (first | intro (b : Nat) | refine go ?_))
    refine C.rounds 6 ?_
    (repeat' (first | intro (b : Nat) | refine go ?_ | (refine br ?_ ?_ <;> first | exact trivial | intro hq)))
    (refine ret ?_)
    refine congrArg Value.string ?_
    rw [show (⟨#[]⟩ : ByteArray) = strOfNums [] from rfl]
    try rw [show (⟨#[45]⟩ : ByteArray) = strOfNums [45] from rfl]
    simp only [strOfNums_append]
    simp [hy1]

end D
end Go.Proofs.YtpgbmohocfcjpaaGreatDoor
