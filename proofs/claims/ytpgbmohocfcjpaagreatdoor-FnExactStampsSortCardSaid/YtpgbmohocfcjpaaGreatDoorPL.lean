/- The plain mathematics of what is between dates. -/
import Derived.Test.YtpgbmohocfcjpaaGreatDoorPlain
namespace Go.Proofs.YtpgbmohocfcjpaaGreatDoor
set_option linter.unusedVariables false
set_option linter.unusedSimpArgs false
namespace D

theorem leap_y {y : Int} (h1 : 1 ≤ y) (h2 : y ≤ 9999) : leap y = ((y % 4 == 0) && (!(y % 100 == 0) || (y % 400 == 0))) := by
  have : inR y 1 9999 = true := inR_true.2 ⟨h1, h2⟩
  simp [leap, this]
def lp (y : Int) : Int := if leap y = true then 1 else 0
theorem lp_bd (y : Int) : 0 ≤ lp y ∧ lp y ≤ 1 := by unfold lp; split <;> omega
theorem ny_succ (y : Int) (h1 : 1 ≤ y) (h2 : y ≤ 9999) : ny (y + 1) = ny y + 365 + lp y := by
  unfold lp
  rw [leap_y h1 h2]
  unfold ny
  by_cases h4 : y % 4 = 0 <;> by_cases h100 : y % 100 = 0 <;> by_cases h400 : y % 400 = 0 <;> simp [h4, h100, h400] <;> omega
theorem md_known (y : Int) (h1 : 1 ≤ y) (h2 : y ≤ 9999) : md y 1 = 31 ∧ md y 2 = 28 + lp y ∧ md y 3 = 31 ∧ md y 4 = 30 ∧ md y 5 = 31 ∧ md y 6 = 30 ∧ md y 7 = 31 ∧ md y 8 = 31 ∧ md y 9 = 30 ∧ md y 10 = 31 ∧ md y 11 = 30 ∧ md y 12 = 31 := by
  have a : inR 1 1 12 = true := by decide
  have b : inR 2 1 12 = true := by decide
  refine ⟨?_, ?_, ?_, ?_, ?_, ?_, ?_, ?_, ?_, ?_, ?_, ?_⟩
  case refine_2 => unfold lp; by_cases hl : leap y = true <;> simp [md, inR, mdTab, hl, h1, h2]
  all_goals (simp [md, inR, mdTab, h1, h2])
theorem md_ge (y m : Int) (h1 : 1 ≤ y) (h2 : y ≤ 9999) (h3 : 1 ≤ m) (h4 : m ≤ 12) : 28 ≤ md y m := by
  have h := md_known y h1 h2
  have hl := lp_bd y
  have : m = 1 ∨ m = 2 ∨ m = 3 ∨ m = 4 ∨ m = 5 ∨ m = 6 ∨ m = 7 ∨ m = 8 ∨ m = 9 ∨ m = 10 ∨ m = 11 ∨ m = 12 := by omega
  rcases this with rfl | rfl | rfl | rfl | rfl | rfl | rfl | rfl | rfl | rfl | rfl | rfl <;> omega
theorem cum_all (y : Int) (h1 : 1 ≤ y) (h2 : y ≤ 9999) : cum y 13 = 365 + lp y := by
  have h := md_known y h1 h2
  have e : cum y 13 = 0 + md y 1 + md y 2 + md y 3 + md y 4 + md y 5 + md y 6 + md y 7 + md y 8 + md y 9 + md y 10 + md y 11 + md y 12 := rfl
  omega
theorem cum_le (y : Int) {a b : Int} (h1 : 1 ≤ a) (h : a ≤ b) : cum y a ≤ cum y b := by
  obtain ⟨k, rfl⟩ : ∃ k : Nat, b = a + k := ⟨(b - a).toNat, by omega⟩
  clear h
  induction k with
  | zero => simp
  | succ k ih =>
    have e := cum_succ y (a + k) (by omega)
    have m := md_bd y (a + k)
    have e2 : a + ((k + 1 : Nat) : Int) = a + k + 1 := by omega
    rw [e2, e]
    omega
/-- A day lies in its year and in its month. -/
theorem num_in {y m d : Int} (h : dval y m d = true) : ny y ≤ num y m d ∧ num y m d < ny (y + 1) := by
  have hd := dval_bd h
  have e := cum_succ y m (by omega)
  have c := cum_le y (a := m + 1) (b := 13) (by omega) (by omega)
  have c0 := cum_bd y m (by omega)
  have a := cum_all y (by omega) (by omega)
  have n := ny_succ y (by omega) (by omega)
  unfold num ord
  omega
theorem ny_le {a b : Int} (h1 : 1 ≤ a) (h : a ≤ b) : ny a ≤ ny b := by unfold ny; omega
/-- An earlier month: an earlier day. -/
theorem num_lt {y m d y' m' d' : Int} (h : dval y m d = true) (h' : dval y' m' d' = true) (hlt : 12 * y + m < 12 * y' + m') : num y m d < num y' m' d' := by
  have hd := dval_bd h
  have hd' := dval_bd h'
  have a := num_in h
  have a' := num_in h'
  by_cases e : y = y'
  · subst e
    have e := cum_succ y m (by omega)
    have c := cum_le y (a := m + 1) (b := m') (by omega) (by omega)
    unfold num ord
    omega
  · have := ny_le (a := y + 1) (b := y') (by omega) (by omega)
    omega
theorem num_bd {y m d : Int} (h : dval y m d = true) : 0 ≤ num y m d ∧ num y m d ≤ 3652058 := by
  have hd := dval_bd h
  have a := num_in h
  have b := ny_bd y (by omega) (by omega)
  have c := ny_bd (y + 1) (by omega) (by omega)
  omega
theorem num_inj {y m d y' m' d' : Int} (h : dval y m d = true) (h' : dval y' m' d' = true) (e : num y m d = num y' m' d') : y = y' ∧ m = m' ∧ d = d' := by
  have hd := dval_bd h
  have hd' := dval_bd h'
  have e1 : 12 * y + m = 12 * y' + m' := by
    rcases Int.lt_trichotomy (12 * y + m) (12 * y' + m') with l | l | l
    · have := num_lt h h' l; omega
    · exact l
    · have := num_lt h' h l; omega
  obtain rfl : y = y' := by omega
  obtain rfl : m = m' := by omega
  unfold num ord at e
  omega
theorem mplus_ok {y m d n : Int} (h : dval y m d = true) (h1 : 12 ≤ 12 * y + m - 1 + n) (h2 : 12 * y + m - 1 + n ≤ 119999) :
    mplus y m d n = ⟨(12 * y + m - 1 + n) / 12, (12 * y + m - 1 + n) % 12 + 1, min d (md ((12 * y + m - 1 + n) / 12) ((12 * y + m - 1 + n) % 12 + 1)), true⟩ := by
  have hd := dval_bd h
  have e1 : mpT y m n / 12 + 1 = (12 * y + m - 1 + n) / 12 := by unfold mpT; omega
  have e2 : mpT y m n % 12 + 1 = (12 * y + m - 1 + n) % 12 + 1 := by unfold mpT; omega
  rw [mplus_in h (inR_true.2 (by omega)) (by unfold mpT; omega), e1, e2]
/-- What is some months later is a date. -/
theorem mplus_val {y m d n : Int} (h : dval y m d = true) (h1 : 12 ≤ 12 * y + m - 1 + n) (h2 : 12 * y + m - 1 + n ≤ 119999) :
    (mplus y m d n).ok = true ∧ dval (mplus y m d n).y (mplus y m d n).m (mplus y m d n).d = true ∧ 12 * (mplus y m d n).y + (mplus y m d n).m = 12 * y + m + n := by
  rw [mplus_ok h h1 h2]
  have hd := dval_bd h
  have g := md_ge ((12 * y + m - 1 + n) / 12) ((12 * y + m - 1 + n) % 12 + 1) (by omega) (by omega) (by omega) (by omega)
  refine ⟨rfl, inR_true.2 ⟨?_, ?_⟩, ?_⟩
  · show 1 ≤ min d _
    omega
  · exact Int.min_le_right _ _
  · show 12 * ((12 * y + m - 1 + n) / 12) + ((12 * y + m - 1 + n) % 12 + 1) = 12 * y + m + n
    omega

/-! What is between two dates. -/
def n0 (y m y' m' : Int) : Int := 12 * (y' - y) + m' - m
def numR (r : DR) : Int := num r.y r.m r.d
def bn (y m d y' m' d' : Int) : Int := if num y' m' d' < numR (mplus y m d (n0 y m y' m')) then n0 y m y' m' - 1 else n0 y m y' m'
def bd (y m d y' m' d' : Int) : Int := num y' m' d' - numR (mplus y m d (bn y m d y' m' d'))
def ms (y m : Int) : Int := ny y + cum y m
theorem num_ms (y m d : Int) : num y m d = ms y m + d - 1 := by unfold num ord ms; omega
/-- The month behind. -/
theorem ms_prev {y m : Int} (h1 : 1 ≤ y) (h2 : y ≤ 9999) (h3 : 1 ≤ m) (h4 : m ≤ 12) (h5 : 12 ≤ 12 * y + m - 2) :
    ms y m = ms ((12 * y + m - 2) / 12) ((12 * y + m - 2) % 12 + 1) + md ((12 * y + m - 2) / 12) ((12 * y + m - 2) % 12 + 1) := by
  by_cases e : m = 1
  · subst e
    have e1 : (12 * y + 1 - 2) / 12 = y - 1 := by omega
    have e2 : (12 * y + 1 - 2) % 12 + 1 = 12 := by omega
    rw [e1, e2]
    have a := ny_succ (y - 1) (by omega) (by omega)
    have b := cum_all (y - 1) (by omega) (by omega)
    have c := cum_succ (y - 1) 12 (by omega)
    have z : cum y 1 = 0 := rfl
    have w : y - 1 + 1 = y := by omega
    have w2 : (12 : Int) + 1 = 13 := rfl
    rw [w] at a
    rw [w2] at c
    unfold ms
    omega
  · have e1 : (12 * y + m - 2) / 12 = y := by omega
    have e2 : (12 * y + m - 2) % 12 + 1 = m - 1 := by omega
    rw [e1, e2]
    have c := cum_succ y (m - 1) (by omega)
    have w : m - 1 + 1 = m := by omega
    rw [w] at c
    unfold ms
    omega
theorem btw {y m d y' m' d' : Int} (h : dval y m d = true) (h' : dval y' m' d' = true) (hle : num y m d ≤ num y' m' d') :
    0 ≤ n0 y m y' m' ∧ n0 y m y' m' ≤ 119988 ∧ 12 ≤ 12 * y + m - 1 + n0 y m y' m' ∧ 12 * y + m - 1 + n0 y m y' m' ≤ 119999 ∧
    0 ≤ bn y m d y' m' d' ∧ bn y m d y' m' d' ≤ 119988 ∧ 12 ≤ 12 * y + m - 1 + bn y m d y' m' d' ∧ 12 * y + m - 1 + bn y m d y' m' d' ≤ 119999 ∧ 0 ≤ bd y m d y' m' d' ∧ bd y m d y' m' d' < 31 ∧
    n0 y m y' m' - 1 ≤ bn y m d y' m' d' ∧ bn y m d y' m' d' ≤ n0 y m y' m' := by
  have hd := dval_bd h
  have hd' := dval_bd h'
  have hm : 12 * y + m ≤ 12 * y' + m' := by
    rcases (by omega : 12 * y' + m' < 12 * y + m ∨ 12 * y + m ≤ 12 * y' + m') with l | l
    · have := num_lt h' h l; omega
    · exact l
  have a0 : 0 ≤ n0 y m y' m' := by unfold n0; omega
  have a1 : n0 y m y' m' ≤ 119988 := by unfold n0; omega
  have a2 : 12 ≤ 12 * y + m - 1 + n0 y m y' m' := by unfold n0; omega
  have a3 : 12 * y + m - 1 + n0 y m y' m' ≤ 119999 := by unfold n0; omega
  have v := mplus_val h a2 a3
  by_cases c : num y' m' d' < numR (mplus y m d (n0 y m y' m'))
  · have e : bn y m d y' m' d' = n0 y m y' m' - 1 := by unfold bn; rw [if_pos c]
    have p : 1 ≤ n0 y m y' m' := by
      rcases (by omega : n0 y m y' m' < 1 ∨ 1 ≤ n0 y m y' m') with l | l
      · exfalso
        have z : n0 y m y' m' = 0 := by omega
        rw [z, mplus_ok h (by omega) (by omega)] at c
        unfold numR at c
        have e1 : (12 * y + m - 1 + 0) / 12 = y := by omega
        have e2 : (12 * y + m - 1 + 0) % 12 + 1 = m := by omega
        simp only [e1, e2] at c
        rw [Int.min_eq_left (by omega)] at c
        omega
      · exact l
    have v1 := mplus_val (n := n0 y m y' m' - 1) h (by omega) (by omega)
    have l1 := num_lt v1.2.1 h' (by rw [v1.2.2]; unfold n0; omega)
    have k1 : 12 * y + m - 1 + n0 y m y' m' = 12 * y' + m' - 1 := by unfold n0; omega
    have k2 : (12 * y' + m' - 1) / 12 = y' := by omega
    have k3 : (12 * y' + m' - 1) % 12 + 1 = m' := by omega
    have k4 : 12 * y + m - 1 + (n0 y m y' m' - 1) = 12 * y' + m' - 2 := by unfold n0; omega
    have x0 := mplus_ok h a2 a3
    have x1 := mplus_ok (n := n0 y m y' m' - 1) h (by omega) (by omega)
    rw [k1, k2, k3] at x0
    rw [k4] at x1
    have pr := ms_prev (y := y') (m := m') (by omega) (by omega) (by omega) (by omega) (by omega)
    have mb := md_bd ((12 * y' + m' - 2) / 12) ((12 * y' + m' - 2) % 12 + 1)
    have mb' := md_bd y' m'
    have u : num y' m' d' - numR (mplus y m d (n0 y m y' m' - 1)) < 31 := by
      rw [x0] at c
      rw [x1]
      unfold numR at c ⊢
      simp only [num_ms] at c ⊢
      omega
    have hb : bd y m d y' m' d' = num y' m' d' - numR (mplus y m d (n0 y m y' m' - 1)) := by unfold bd; rw [e]
    rw [e, hb]
    unfold numR at *
    omega
  · have e : bn y m d y' m' d' = n0 y m y' m' := by unfold bn; rw [if_neg c]
    have hb : bd y m d y' m' d' = num y' m' d' - numR (mplus y m d (n0 y m y' m')) := by unfold bd; rw [e]
    have u : num y' m' d' - numR (mplus y m d (n0 y m y' m')) < 31 := by
      have k1 : 12 * y + m - 1 + n0 y m y' m' = 12 * y' + m' - 1 := by unfold n0; omega
      have k2 : (12 * y' + m' - 1) / 12 = y' := by omega
      have k3 : (12 * y' + m' - 1) % 12 + 1 = m' := by omega
      have x0 := mplus_ok h a2 a3
      rw [k1, k2, k3] at x0
      have mb' := md_bd y' m'
      rw [x0] at c ⊢
      unfold numR at c ⊢
      simp only [num_ms] at c ⊢
      omega
    rw [e, hb]
    omega

end D
end Go.Proofs.YtpgbmohocfcjpaaGreatDoor

namespace Go.Proofs.YtpgbmohocfcjpaaGreatDoor
set_option linter.unusedVariables false
set_option linter.unusedSimpArgs false
namespace D

/-- The years from a date to another one, or -1. -/
def age (y m d y' m' d' : Int) : Int := if dval y m d = true ∧ dval y' m' d' = true ∧ num y m d ≤ num y' m' d' then bn y m d y' m' d' / 12 else -1
theorem age_yes {y m d y' m' d' : Int} (h : dval y m d = true ∧ dval y' m' d' = true ∧ num y m d ≤ num y' m' d') : age y m d y' m' d' = bn y m d y' m' d' / 12 := if_pos h
theorem age_no {y m d y' m' d' : Int} (h : ¬ (dval y m d = true ∧ dval y' m' d' = true ∧ num y m d ≤ num y' m' d')) : age y m d y' m' d' = -1 := if_neg h

end D
end Go.Proofs.YtpgbmohocfcjpaaGreatDoor

namespace Go.Proofs.YtpgbmohocfcjpaaGreatDoor
set_option linter.unusedVariables false
set_option linter.unusedSimpArgs false
namespace D

/-- A date and whether there is one, as values. -/
def drV (r : DR) : Value := .tuple #[.agg #[.int .i64 r.y, .int .i64 r.m, .int .i64 r.d], .bool r.ok]
theorem ny_mono {a b : Int} (h : a ≤ b) : ny a ≤ ny b := by unfold ny; omega
theorem year_ex {n : Int} (h1 : 0 ≤ n) (h2 : n ≤ 3652058) : ∃ y : Int, 1 ≤ y ∧ y ≤ 9999 ∧ ny y ≤ n ∧ n < ny (y + 1) := by
  have key : ∀ k : Nat, (k : Int) ≤ 9999 → n < ny (k + 1) → ∃ y : Int, 1 ≤ y ∧ y ≤ k ∧ ny y ≤ n ∧ n < ny (y + 1) := by
    intro k
    induction k with
    | zero => intro _ h; simp [ny] at h; omega
    | succ k ih =>
      intro hk h
      by_cases hc : n < ny ((k : Int) + 1)
      · obtain ⟨y, a, b, c⟩ := ih (by omega) hc
        exact ⟨y, a, by omega, c⟩
      · exact ⟨(k : Int) + 1, by omega, by omega, by omega, by simpa using h⟩
  obtain ⟨y, a, b, c⟩ := key 9999 (by omega) (by simp [ny]; omega)
  exact ⟨y, a, b, c⟩
theorem month_ex {y k : Int} (hy1 : 1 ≤ y) (hy2 : y ≤ 9999) (h1 : 0 ≤ k) (h2 : k < 365 + lp y) : ∃ m : Int, 1 ≤ m ∧ m ≤ 12 ∧ cum y m ≤ k ∧ k < cum y (m + 1) := by
  have ha := cum_all y hy1 hy2
  have key : ∀ j : Nat, (j : Int) ≤ 12 → k < cum y (j + 1) → ∃ m : Int, 1 ≤ m ∧ m ≤ j ∧ cum y m ≤ k ∧ k < cum y (m + 1) := by
    intro j
    induction j with
    | zero => intro _ h; have : cum y 1 = 0 := rfl; simp at h; omega
    | succ j ih =>
      intro hj h
      by_cases hc : k < cum y ((j : Int) + 1)
      · obtain ⟨y, a, b, c⟩ := ih (by omega) hc
        exact ⟨y, a, by omega, c⟩
      · exact ⟨(j : Int) + 1, by omega, by omega, by omega, by simpa using h⟩
  obtain ⟨m, a, b, c⟩ := key 12 (by omega) (by simp; omega)
  exact ⟨m, a, b, c⟩
/-- Every day of the range has its date. -/
theorem date_ex {n : Int} (h1 : 0 ≤ n) (h2 : n ≤ 3652058) : ∃ y m d : Int, dval y m d = true ∧ num y m d = n := by
  obtain ⟨y, y1, y2, y3, y4⟩ := year_ex h1 h2
  have hs := ny_succ y y1 y2
  obtain ⟨m, m1, m2, m3, m4⟩ := month_ex (k := n - ny y) y1 y2 (by omega) (by omega)
  have hc := cum_succ y m m1
  refine ⟨y, m, n - ny y - cum y m + 1, inR_true.2 (by omega), ?_⟩
  unfold num ord
  omega
/-- A date's own limits. -/
theorem date_in {y m d : Int} (h : dval y m d = true) : 0 ≤ num y m d ∧ num y m d ≤ 3652058 := num_bd h
theorem lp_eq (y : Int) : 365 + lp y = cum y 13 ∨ ¬ (1 ≤ y ∧ y ≤ 9999) := by
  by_cases h : 1 ≤ y ∧ y ≤ 9999
  · exact .inl (cum_all y h.1 h.2).symm
  · exact .inr h

end D
end Go.Proofs.YtpgbmohocfcjpaaGreatDoor

namespace Go.Proofs.YtpgbmohocfcjpaaGreatDoor
set_option linter.unusedVariables false
set_option linter.unusedSimpArgs false
namespace D

/-- There is such a time. -/
def cval (h i s k : Int) : Bool := inR h 0 24 && inR i 0 59 && inR s 0 59 && inR k 0 999 && (decide (h < 24) || (i == 0 && s == 0 && k == 0))
/-- The thousandths of a second ahead of a time. -/
def cms (h i s k : Int) : Int := ((h * 60 + i) * 60 + s) * 1000 + k

theorem cval_bd {h i s k : Int} (hv : cval h i s k = true) : 0 ≤ h ∧ h ≤ 24 ∧ 0 ≤ i ∧ i ≤ 59 ∧ 0 ≤ s ∧ s ≤ 59 ∧ 0 ≤ k ∧ k ≤ 999 := by
  simp only [cval, Bool.and_eq_true, inR_true] at hv
  omega

theorem cms_bd {h i s k : Int} (hv : cval h i s k = true) : 0 ≤ cms h i s k ∧ cms h i s k ≤ 86400000 := by
  have hv' := hv
  simp only [cval, Bool.and_eq_true, Bool.or_eq_true, decide_eq_true_eq, beq_iff_eq, inR_true] at hv'
  unfold cms
  omega

/-- There is such a stamp. -/
def sval (y m d h i s k o : Int) : Bool := dval y m d && cval h i s k && inR o (-1439) 1439
/-- The instant of a stamp. -/
def inst (y m d h i s k o : Int) : Int := 86400000 * num y m d + cms h i s k - 60000 * o

theorem sval_parts {y m d h i s k o : Int} (hv : sval y m d h i s k o = true) : dval y m d = true ∧ cval h i s k = true ∧ -1439 ≤ o ∧ o ≤ 1439 := by
  simp only [sval, Bool.and_eq_true, inR_true] at hv
  exact ⟨hv.1.1, hv.1.2, hv.2.1, hv.2.2⟩

theorem inst_bd {y m d h i s k o : Int} (hv : sval y m d h i s k o = true) : -86400000 ≤ inst y m d h i s k o ∧ inst y m d h i s k o ≤ 315537984000000 ∧ 0 ≤ 86400000 * num y m d + cms h i s k ∧ 86400000 * num y m d + cms h i s k ≤ 315537897600000 ∧ inst y m d h i s k o = 86400000 * num y m d + cms h i s k - 60000 * o := by
  obtain ⟨h1, h2, h3, h4⟩ := sval_parts hv
  have a := num_bd h1
  have b := cms_bd h2
  unfold inst
  omega

/-! What is between two stamps. -/
def sbOk (y m d h i s k o y' m' d' h' i' s' k' o' : Int) : Bool :=
  sval y m d h i s k o && sval y' m' d' h' i' s' k' o' && decide (inst y m d h i s k o ≤ inst y' m' d' h' i' s' k' o') && decide ((inst y' m' d' h' i' s' k' o' - inst y m d h i s k o) / 86400000 ≤ 9999)

end D
end Go.Proofs.YtpgbmohocfcjpaaGreatDoor

namespace Go.Proofs.YtpgbmohocfcjpaaGreatDoor
set_option linter.unusedVariables false
set_option linter.unusedSimpArgs false
namespace D

theorem mplus_zero {y m d : Int} (h : dval y m d = true) : mplus y m d 0 = ⟨y, m, d, true⟩ := by
  have hd := dval_bd h
  rw [mplus_ok h (by omega) (by omega)]
  have e1 : (12 * y + m - 1 + 0) / 12 = y := by omega
  have e2 : (12 * y + m - 1 + 0) % 12 + 1 = m := by omega
  rw [e1, e2, Int.min_eq_left (by omega)]

theorem bn_cases {y m d y' m' d' : Int} : (bn y m d y' m' d' = n0 y m y' m' - 1 ∧ num y' m' d' < numR (mplus y m d (n0 y m y' m'))) ∨ (bn y m d y' m' d' = n0 y m y' m' ∧ numR (mplus y m d (n0 y m y' m')) ≤ num y' m' d') := by
  unfold bn
  split
  · exact .inl ⟨rfl, by assumption⟩
  · exact .inr ⟨rfl, by omega⟩

/-- One month more is too many. -/
theorem btw_most {y m d y' m' d' : Int} (h : dval y m d = true) (h' : dval y' m' d' = true) (hle : num y m d ≤ num y' m' d') (hok : 12 * y + m - 1 + (bn y m d y' m' d' + 1) ≤ 119999) :
    (mplus y m d (bn y m d y' m' d' + 1)).ok = true ∧ dval (mplus y m d (bn y m d y' m' d' + 1)).y (mplus y m d (bn y m d y' m' d' + 1)).m (mplus y m d (bn y m d y' m' d' + 1)).d = true ∧ num y' m' d' < numR (mplus y m d (bn y m d y' m' d' + 1)) := by
  have hB := btw h h' hle
  have hv := mplus_val (n := bn y m d y' m' d' + 1) h (by omega) (by omega)
  refine ⟨hv.1, hv.2.1, ?_⟩
  rcases bn_cases (y := y) (m := m) (d := d) (y' := y') (m' := m') (d' := d') with ⟨e, l⟩ | ⟨e, l⟩
  · rw [e, Int.sub_add_cancel]; exact l
  · exact num_lt h' hv.2.1 (by rw [hv.2.2, e]; unfold n0; omega)

/-- Nothing is between two dates if they are one. -/
theorem btw_same {y m d y' m' d' : Int} (h : dval y m d = true) (h' : dval y' m' d' = true) (hle : num y m d ≤ num y' m' d') : (bn y m d y' m' d' = 0 ∧ bd y m d y' m' d' = 0) ↔ (y = y' ∧ m = m' ∧ d = d') := by
  constructor
  · rintro ⟨h1, h2⟩
    unfold bd at h2
    rw [h1, mplus_zero h] at h2
    simp only [numR] at h2
    exact num_inj h h' (by omega)
  · rintro ⟨rfl, rfl, rfl⟩
    have e0 : n0 y m y m = 0 := by unfold n0; omega
    have e1 : bn y m d y m d = 0 := by
      unfold bn
      rw [e0, mplus_zero h]
      simp [numR]
    refine ⟨e1, ?_⟩
    unfold bd
    rw [e1, mplus_zero h]
    simp [numR]

/-- A day later: as many months, or one more. -/
theorem btw_next {y m d y' m' d' x z t : Int} (h : dval y m d = true) (h' : dval y' m' d' = true) (hle : num y m d ≤ num y' m' d') (hx : dval x z t = true) (hn : num x z t = num y' m' d' + 1) :
    bn y m d x z t = bn y m d y' m' d' ∨ bn y m d x z t = bn y m d y' m' d' + 1 := by
  have hd' := dval_bd h'
  have hdx := dval_bd hx
  have hB := btw h h' hle
  have hBx := btw h hx (by omega)
  have h1 : 12 * y' + m' ≤ 12 * x + z := by
    refine Int.not_lt.1 fun hl => ?_
    have := num_lt hx h' hl
    omega
  have h2 : 12 * x + z ≤ 12 * y' + m' + 1 := by
    refine Int.not_lt.1 fun hl => ?_
    have hv := mplus_val (n := 1) h' (by omega) (by omega)
    have := num_lt h' hv.2.1 (by omega)
    have := num_lt hv.2.1 hx (by omega)
    omega
  rcases (by omega : 12 * x + z = 12 * y' + m' ∨ 12 * x + z = 12 * y' + m' + 1) with e | e
  · have en : n0 y m x z = n0 y m y' m' := by unfold n0; omega
    rcases bn_cases (y := y) (m := m) (d := d) (y' := y') (m' := m') (d' := d') with ⟨e1, l⟩ | ⟨e1, l⟩
    · omega
    · rcases bn_cases (y := y) (m := m) (d := d) (y' := x) (m' := z) (d' := t) with ⟨e2, l2⟩ | ⟨e2, l2⟩
      · rw [en] at l2; omega
      · omega
  · have en : n0 y m x z = n0 y m y' m' + 1 := by unfold n0; omega
    have hv := mplus_val (n := n0 y m y' m') h (by omega) (by omega)
    have hl := num_lt hv.2.1 hx (by rw [hv.2.2]; unfold n0; omega)
    rcases bn_cases (y := y) (m := m) (d := d) (y' := y') (m' := m') (d' := d') with ⟨e1, l⟩ | ⟨e1, l⟩
    · unfold numR at l; omega
    · omega

/-- The months and then the days lead to the second date. -/
theorem btw_sum {y m d y' m' d' : Int} (h : dval y m d = true) (h' : dval y' m' d' = true) (hle : num y m d ≤ num y' m' d') :
    (mplus y m d (bn y m d y' m' d')).ok = true ∧ dval (mplus y m d (bn y m d y' m' d')).y (mplus y m d (bn y m d y' m' d')).m (mplus y m d (bn y m d y' m' d')).d = true ∧ numR (mplus y m d (bn y m d y' m' d')) + bd y m d y' m' d' = num y' m' d' := by
  have hB := btw h h' hle
  have hv := mplus_val (n := bn y m d y' m' d') h (by omega) (by omega)
  exact ⟨hv.1, hv.2.1, by unfold bd; omega⟩

end D
end Go.Proofs.YtpgbmohocfcjpaaGreatDoor

namespace Go.Proofs.YtpgbmohocfcjpaaGreatDoor
set_option linter.unusedVariables false
set_option linter.unusedSimpArgs false
namespace D

/-- The date of a day, or none. -/
noncomputable def dateOf (n : Int) : DR := open Classical in
  if h : ∃ x : Int × Int × Int, dval x.1 x.2.1 x.2.2 = true ∧ num x.1 x.2.1 x.2.2 = n then ⟨h.choose.1, h.choose.2.1, h.choose.2.2, true⟩ else DR.no

theorem dateOf_num {y m d : Int} (h : dval y m d = true) : dateOf (num y m d) = ⟨y, m, d, true⟩ := by
  have hx : ∃ x : Int × Int × Int, dval x.1 x.2.1 x.2.2 = true ∧ num x.1 x.2.1 x.2.2 = num y m d := ⟨(y, m, d), h, rfl⟩
  unfold dateOf
  rw [dif_pos hx]
  obtain ⟨h1, h2, h3⟩ := num_inj hx.choose_spec.1 h hx.choose_spec.2
  rw [h1, h2, h3]

theorem dateOf_yes {n : Int} (h : inR n 0 3652058 = true) : ∃ y m d : Int, dval y m d = true ∧ num y m d = n ∧ dateOf n = ⟨y, m, d, true⟩ := by
  have hb := inR_true.1 h
  obtain ⟨y, m, d, h1, rfl⟩ := date_ex hb.1 hb.2
  exact ⟨y, m, d, h1, rfl, dateOf_num h1⟩

theorem dateOf_no {n : Int} (h : inR n 0 3652058 = false) : dateOf n = DR.no := by
  unfold dateOf
  rw [dif_neg]
  rintro ⟨x, h1, h2⟩
  have := num_bd h1
  rw [h2] at this
  exact inR_false.1 h this

/-- Some days later. -/
noncomputable def dayp (y m d n : Int) : DR := if dval y m d = true ∧ inR n (-3652058) 3652058 = true then dateOf (num y m d + n) else DR.no

/-- A stamp, or none. -/
structure SR where
  y : Int
  m : Int
  d : Int
  h : Int
  i : Int
  s : Int
  k : Int
  o : Int
  ok : Bool

def SR.no : SR := ⟨0, 0, 0, 0, 0, 0, 0, 0, false⟩

/-- The stamp with a time by the clock and an offset. -/
noncomputable def stampL (L o : Int) : SR := if (dateOf (L / 86400000)).ok = true then ⟨(dateOf (L / 86400000)).y, (dateOf (L / 86400000)).m, (dateOf (L / 86400000)).d, L % 86400000 / 3600000, L % 86400000 / 60000 % 60, L % 86400000 / 1000 % 60, L % 86400000 % 1000, o, true⟩ else SR.no

/-- The stamp with an instant and an offset. -/
noncomputable def stampAt (n o : Int) : SR := if inR n (-86400000) 315537984000000 = true ∧ inR o (-1439) 1439 = true ∧ 0 ≤ n + 60000 * o then stampL (n + 60000 * o) o else SR.no

theorem stampL_yes {L : Int} (o : Int) (h : inR (L / 86400000) 0 3652058 = true) : ∃ y m d : Int, dval y m d = true ∧ num y m d = L / 86400000 ∧ stampL L o = ⟨y, m, d, L % 86400000 / 3600000, L % 86400000 / 60000 % 60, L % 86400000 / 1000 % 60, L % 86400000 % 1000, o, true⟩ := by
  obtain ⟨y, m, d, h1, h2, h3⟩ := dateOf_yes h
  exact ⟨y, m, d, h1, h2, by simp [stampL, h3]⟩

theorem stampL_no {L : Int} (o : Int) (h : inR (L / 86400000) 0 3652058 = false) : stampL L o = SR.no := by
  simp [stampL, dateOf_no h, DR.no]

theorem cms_of (q : Int) : cms (q / 3600000) (q / 60000 % 60) (q / 1000 % 60) (q % 1000) = q := by unfold cms; omega

theorem cval_of {q : Int} (h1 : 0 ≤ q) (h2 : q < 86400000) : cval (q / 3600000) (q / 60000 % 60) (q / 1000 % 60) (q % 1000) = true := by
  simp only [cval, inR, Bool.and_eq_true, decide_eq_true_eq, Bool.or_eq_true]
  omega

/-- What there is of a stamp that is made of a time by the clock. -/
theorem stampL_ok {L o : Int} (ho : inR o (-1439) 1439 = true) (h : (stampL L o).ok = true) : ∃ y m d h i s k : Int, stampL L o = ⟨y, m, d, h, i, s, k, o, true⟩ ∧ sval y m d h i s k o = true ∧ inst y m d h i s k o = L - 60000 * o ∧ cms h i s k = L % 86400000 ∧ inR (L / 86400000) 0 3652058 = true := by
  cases hr : inR (L / 86400000) 0 3652058 with
  | false => rw [stampL_no o hr] at h; cases h
  | true =>
    obtain ⟨y, m, d, h1, h2, h3⟩ := stampL_yes o hr
    have hb := inR_true.1 hr
    refine ⟨y, m, d, _, _, _, _, h3, ?_, ?_, cms_of _, rfl⟩
    · have hc := cval_of (q := L % 86400000) (by omega) (by omega)
      simp only [sval, h1, hc, ho, Bool.and_self]
    · unfold inst
      rw [h2, cms_of]
      omega

def isUnit (u : Int) : Bool := u == 1000 || u == 60000 || u == 3600000 || u == 86400000

theorem isUnit_iff {u : Int} : isUnit u = true ↔ u = 1000 ∨ u = 60000 ∨ u = 3600000 ∨ u = 86400000 := by simp [isUnit, or_assoc]

/-! Whole units. -/
def rdL (l u : Int) : Int := l - l % u
def ruL (l u : Int) : Int := l + u - 1 - (l + u - 1) % u
def rnL (l u : Int) : Int := l + u / 2 - (l + u / 2) % u

theorem rdL_eq {n c u : Int} (hu : isUnit u = true) : rdL (86400000 * n + c) u = 86400000 * n + c - c % u := by
  unfold rdL
  rcases isUnit_iff.1 hu with rfl | rfl | rfl | rfl <;> omega

theorem ruL_eq {n c u : Int} (hu : isUnit u = true) : ruL (86400000 * n + c) u = 86400000 * n + c + (u - c % u) % u := by
  unfold ruL
  rcases isUnit_iff.1 hu with rfl | rfl | rfl | rfl <;> omega

theorem rnL_eq {n c u : Int} (hu : isUnit u = true) : rnL (86400000 * n + c) u = if 2 * (c % u) < u then rdL (86400000 * n + c) u else ruL (86400000 * n + c) u := by
  unfold rnL rdL ruL
  rcases isUnit_iff.1 hu with rfl | rfl | rfl | rfl <;> (split <;> omega)

/-- What a way to round leaves of a stamp. -/
noncomputable def roundV (ok : Bool) (L o : Int) : SR := if ok = true then stampAt (L - 60000 * o) o else SR.no

theorem stampAt_ok {n o : Int} (h : (stampAt n o).ok = true) : ∃ y m d h i s k : Int, stampAt n o = ⟨y, m, d, h, i, s, k, o, true⟩ ∧ sval y m d h i s k o = true ∧ inst y m d h i s k o = n ∧ cms h i s k = (n + 60000 * o) % 86400000 ∧ 0 ≤ n + 60000 * o ∧ (n + 60000 * o) / 86400000 ≤ 3652058 ∧ inR o (-1439) 1439 = true := by
  by_cases c : inR n (-86400000) 315537984000000 = true ∧ inR o (-1439) 1439 = true ∧ 0 ≤ n + 60000 * o
  · have e : stampAt n o = stampL (n + 60000 * o) o := if_pos c
    rw [e] at h ⊢
    obtain ⟨y, m, d, h', i, s, k, h1, h2, h3, h4, h5⟩ := stampL_ok c.2.1 h
    exact ⟨y, m, d, h', i, s, k, h1, h2, by omega, h4, c.2.2, (inR_true.1 h5).2, c.2.1⟩
  · have e : stampAt n o = SR.no := if_neg c
    rw [e] at h
    cases h

theorem stampAt_yes {n o : Int} (h1 : inR o (-1439) 1439 = true) (h2 : 0 ≤ n + 60000 * o) (h3 : (n + 60000 * o) / 86400000 ≤ 3652058) : (stampAt n o).ok = true := by
  have ho := inR_true.1 h1
  have e : stampAt n o = stampL (n + 60000 * o) o := if_pos ⟨inR_true.2 (by omega), h1, h2⟩
  obtain ⟨y, m, d, _, _, h6⟩ := stampL_yes (L := n + 60000 * o) o (inR_true.2 (by omega))
  rw [e, h6]

theorem rd_bd {l u : Int} (hu : isUnit u = true) (hl : 0 ≤ l) : 0 ≤ rdL l u ∧ rdL l u ≤ l ∧ l - rdL l u < u := by
  unfold rdL
  rcases isUnit_iff.1 hu with rfl | rfl | rfl | rfl <;> omega

theorem ru_bd {l u : Int} (hu : isUnit u = true) (hl : 0 ≤ l) : l ≤ ruL l u ∧ ruL l u - l < u ∧ ruL l u % 86400000 % u = 0 ∧ (ruL l u = rdL l u ∨ ruL l u = rdL l u + u) := by
  unfold ruL rdL
  rcases isUnit_iff.1 hu with rfl | rfl | rfl | rfl <;> omega

theorem rn_bd {l u : Int} (hu : isUnit u = true) (hl : 0 ≤ l) : 2 * (rnL l u - l) ≤ u ∧ 2 * (l - rnL l u) < u ∧ (rnL l u = rdL l u ∨ rnL l u = ruL l u) := by
  unfold rnL ruL rdL
  rcases isUnit_iff.1 hu with rfl | rfl | rfl | rfl <;> omega

end D
end Go.Proofs.YtpgbmohocfcjpaaGreatDoor
