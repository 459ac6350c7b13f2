/- The plain mathematics of what is between dates. -/
import Derived.Test.YtboglbdhibcacaaGreatDoorVa
import Derived.Test.YtboglbdhibcacaaGreatDoorVc
namespace Go.Proofs.YtboglbdhibcacaaGreatDoor
set_option linter.unusedVariables false
set_option linter.unusedSimpArgs false
namespace D

theorem leap_y {y : Int} (h1 : 1 ≤ y) (h2 : y ≤ 9999) : leap y = ((y % 4 == 0) && (!(y % 100 == 0) || (y % 400 == 0))) := by
  have : inR y 1 9999 = true := inR_true.2 ⟨h1, h2⟩
  simp [leap, this]
def lp (y : Int) : Int := if leap y = true then 1 else 0
theorem lp_bd (y : Int) : 0 ≤ lp y ∧ lp y ≤ 1 := by unfold lp; split <;> omega
theorem ny_succ (y : Int) (h1 : 1 ≤ y) (h2 : y ≤ 9999) : ny (y + 1) = ny y + 365 + lp y := by
  unfold lp
  rw [leap_y h1 h2]
  unfold ny
  by_cases h4 : y % 4 = 0 <;> by_cases h100 : y % 100 = 0 <;> by_cases h400 : y % 400 = 0 <;> simp [h4, h100, h400] <;> omega
theorem md_known (y : Int) (h1 : 1 ≤ y) (h2 : y ≤ 9999) : md y 1 = 31 ∧ md y 2 = 28 + lp y ∧ md y 3 = 31 ∧ md y 4 = 30 ∧ md y 5 = 31 ∧ md y 6 = 30 ∧ md y 7 = 31 ∧ md y 8 = 31 ∧ md y 9 = 30 ∧ md y 10 = 31 ∧ md y 11 = 30 ∧ md y 12 = 31 := by
  have a : inR 1 1 12 = true := by decide
  have b : inR 2 1 12 = true := by decide
  refine ⟨?_, ?_, ?_, ?_, ?_, ?_, ?_, ?_, ?_, ?_, ?_, ?_⟩
  case refine_2 => unfold lp; by_cases hl : leap y = true <;> simp [md, inR, mdTab, hl, h1, h2]
  all_goals (simp [md, inR, mdTab, h1, h2])
theorem md_ge (y m : Int) (h1 : 1 ≤ y) (h2 : y ≤ 9999) (h3 : 1 ≤ m) (h4 : m ≤ 12) : 28 ≤ md y m := by
  have h := md_known y h1 h2
  have hl := lp_bd y
  have : m = 1 ∨ m = 2 ∨ m = 3 ∨ m = 4 ∨ m = 5 ∨ m = 6 ∨ m = 7 ∨ m = 8 ∨ m = 9 ∨ m = 10 ∨ m = 11 ∨ m = 12 := by omega
  rcases this with rfl | rfl | rfl | rfl | rfl | rfl | rfl | rfl | rfl | rfl | rfl | rfl <;> omega
theorem cum_all (y : Int) (h1 : 1 ≤ y) (h2 : y ≤ 9999) : cum y 13 = 365 + lp y := by
  have h := md_known y h1 h2
  have e : cum y 13 = 0 + md y 1 + md y 2 + md y 3 + md y 4 + md y 5 + md y 6 + md y 7 + md y 8 + md y 9 + md y 10 + md y 11 + md y 12 := rfl
  omega
theorem cum_le (y : Int) {a b : Int} (h1 : 1 ≤ a) (h : a ≤ b) : cum y a ≤ cum y b := by
  obtain ⟨k, rfl⟩ : ∃ k : Nat, b = a + k := ⟨(b - a).toNat, by omega⟩
  clear h
  induction k with
  | zero => simp
  | succ k ih =>
    have e := cum_succ y (a + k) (by omega)
    have m := md_bd y (a + k)
    have e2 : a + ((k + 1 : Nat) : Int) = a + k + 1 := by omega
    rw [e2, e]
    omega
/-- A day lies in its year and in its month. -/
theorem num_in {y m d : Int} (h : dval y m d = true) : ny y ≤ num y m d ∧ num y m d < ny (y + 1) := by
  have hd := dval_bd h
  have e := cum_succ y m (by omega)
  have c := cum_le y (a := m + 1) (b := 13) (by omega) (by omega)
  have c0 := cum_bd y m (by omega)
  have a := cum_all y (by omega) (by omega)
  have n := ny_succ y (by omega) (by omega)
  unfold num ord
  omega
theorem ny_le {a b : Int} (h1 : 1 ≤ a) (h : a ≤ b) : ny a ≤ ny b := by unfold ny; omega
/-- An earlier month: an earlier day. -/
theorem num_lt {y m d y' m' d' : Int} (h : dval y m d = true) (h' : dval y' m' d' = true) (hlt : 12 * y + m < 12 * y' + m') : num y m d < num y' m' d' := by
  have hd := dval_bd h
  have hd' := dval_bd h'
  have a := num_in h
  have a' := num_in h'
  by_cases e : y = y'
  · subst e
    have e := cum_succ y m (by omega)
    have c := cum_le y (a := m + 1) (b := m') (by omega) (by omega)
    unfold num ord
    omega
  · have := ny_le (a := y + 1) (b := y') (by omega) (by omega)
    omega
theorem num_bd {y m d : Int} (h : dval y m d = true) : 0 ≤ num y m d ∧ num y m d ≤ 3652058 := by
  have hd := dval_bd h
  have a := num_in h
  have b := ny_bd y (by omega) (by omega)
  have c := ny_bd (y + 1) (by omega) (by omega)
  omega
theorem num_inj {y m d y' m' d' : Int} (h : dval y m d = true) (h' : dval y' m' d' = true) (e : num y m d = num y' m' d') : y = y' ∧ m = m' ∧ d = d' := by
  have hd := dval_bd h
  have hd' := dval_bd h'
  have e1 : 12 * y + m = 12 * y' + m' := by
    rcases Int.lt_trichotomy (12 * y + m) (12 * y' + m') with l | l | l
    · have := num_lt h h' l; omega
    · exact l
    · have := num_lt h' h l; omega
  obtain rfl : y = y' := by omega
  obtain rfl : m = m' := by omega
  unfold num ord at e
  omega
theorem mplus_ok {y m d n : Int} (h : dval y m d = true) (h1 : 12 ≤ 12 * y + m - 1 + n) (h2 : 12 * y + m - 1 + n ≤ 119999) :
    mplus y m d n = ⟨(12 * y + m - 1 + n) / 12, (12 * y + m - 1 + n) % 12 + 1, min d (md ((12 * y + m - 1 + n) / 12) ((12 * y + m - 1 + n) % 12 + 1)), true⟩ := by
  have hd := dval_bd h
  have e1 : mpT y m n / 12 + 1 = (12 * y + m - 1 + n) / 12 := by unfold mpT; omega
  have e2 : mpT y m n % 12 + 1 = (12 * y + m - 1 + n) % 12 + 1 := by unfold mpT; omega
  rw [mplus_in h (inR_true.2 (by omega)) (by unfold mpT; omega), e1, e2]
/-- What is some months later is a date. -/
theorem mplus_val {y m d n : Int} (h : dval y m d = true) (h1 : 12 ≤ 12 * y + m - 1 + n) (h2 : 12 * y + m - 1 + n ≤ 119999) :
    (mplus y m d n).ok = true ∧ dval (mplus y m d n).y (mplus y m d n).m (mplus y m d n).d = true ∧ 12 * (mplus y m d n).y + (mplus y m d n).m = 12 * y + m + n := by
  rw [mplus_ok h h1 h2]
  have hd := dval_bd h
  have g := md_ge ((12 * y + m - 1 + n) / 12) ((12 * y + m - 1 + n) % 12 + 1) (by omega) (by omega) (by omega) (by omega)
  refine ⟨rfl, inR_true.2 ⟨?_, ?_⟩, ?_⟩
  · show 1 ≤ min d _
    omega
  · exact Int.min_le_right _ _
  · show 12 * ((12 * y + m - 1 + n) / 12) + ((12 * y + m - 1 + n) % 12 + 1) = 12 * y + m + n
    omega

/-! What is between two dates. -/
def n0 (y m y' m' : Int) : Int := 12 * (y' - y) + m' - m
def numR (r : DR) : Int := num r.y r.m r.d
def bn (y m d y' m' d' : Int) : Int := if num y' m' d' < numR (mplus y m d (n0 y m y' m')) then n0 y m y' m' - 1 else n0 y m y' m'
def bd (y m d y' m' d' : Int) : Int := num y' m' d' - numR (mplus y m d (bn y m d y' m' d'))
def ms (y m : Int) : Int := ny y + cum y m
theorem num_ms (y m d : Int) : num y m d = ms y m + d - 1 := by unfold num ord ms; omega
/-- The month behind. -/
theorem ms_prev {y m : Int} (h1 : 1 ≤ y) (h2 : y ≤ 9999) (h3 : 1 ≤ m) (h4 : m ≤ 12) (h5 : 12 ≤ 12 * y + m - 2) :
    ms y m = ms ((12 * y + m - 2) / 12) ((12 * y + m - 2) % 12 + 1) + md ((12 * y + m - 2) / 12) ((12 * y + m - 2) % 12 + 1) := by
  by_cases e : m = 1
  · subst e
    have e1 : (12 * y + 1 - 2) / 12 = y - 1 := by omega
    have e2 : (12 * y + 1 - 2) % 12 + 1 = 12 := by omega
    rw [e1, e2]
    have a := ny_succ (y - 1) (by omega) (by omega)
    have b := cum_all (y - 1) (by omega) (by omega)
    have c := cum_succ (y - 1) 12 (by omega)
    have z : cum y 1 = 0 := rfl
    have w : y - 1 + 1 = y := by omega
    have w2 : (12 : Int) + 1 = 13 := rfl
    rw [w] at a
    rw [w2] at c
    unfold ms
    omega
  · have e1 : (12 * y + m - 2) / 12 = y := by omega
    have e2 : (12 * y + m - 2) % 12 + 1 = m - 1 := by omega
    rw [e1, e2]
    have c := cum_succ y (m - 1) (by omega)
    have w : m - 1 + 1 = m := by omega
    rw [w] at c
    unfold ms
    omega
theorem btw {y m d y' m' d' : Int} (h : dval y m d = true) (h' : dval y' m' d' = true) (hle : num y m d ≤ num y' m' d') :
    0 ≤ n0 y m y' m' ∧ n0 y m y' m' ≤ 119988 ∧ 12 ≤ 12 * y + m - 1 + n0 y m y' m' ∧ 12 * y + m - 1 + n0 y m y' m' ≤ 119999 ∧
    0 ≤ bn y m d y' m' d' ∧ bn y m d y' m' d' ≤ 119988 ∧ 12 ≤ 12 * y + m - 1 + bn y m d y' m' d' ∧ 12 * y + m - 1 + bn y m d y' m' d' ≤ 119999 ∧ 0 ≤ bd y m d y' m' d' ∧ bd y m d y' m' d' < 31 ∧
    n0 y m y' m' - 1 ≤ bn y m d y' m' d' ∧ bn y m d y' m' d' ≤ n0 y m y' m' := by
  have hd := dval_bd h
  have hd' := dval_bd h'
  have hm : 12 * y + m ≤ 12 * y' + m' := by
    rcases (by omega : 12 * y' + m' < 12 * y + m ∨ 12 * y + m ≤ 12 * y' + m') with l | l
    · have := num_lt h' h l; omega
    · exact l
  have a0 : 0 ≤ n0 y m y' m' := by unfold n0; omega
  have a1 : n0 y m y' m' ≤ 119988 := by unfold n0; omega
  have a2 : 12 ≤ 12 * y + m - 1 + n0 y m y' m' := by unfold n0; omega
  have a3 : 12 * y + m - 1 + n0 y m y' m' ≤ 119999 := by unfold n0; omega
  have v := mplus_val h a2 a3
  by_cases c : num y' m' d' < numR (mplus y m d (n0 y m y' m'))
  · have e : bn y m d y' m' d' = n0 y m y' m' - 1 := by unfold bn; rw [if_pos c]
    have p : 1 ≤ n0 y m y' m' := by
      rcases (by omega : n0 y m y' m' < 1 ∨ 1 ≤ n0 y m y' m') with l | l
      · exfalso
        have z : n0 y m y' m' = 0 := by omega
        rw [z, mplus_ok h (by omega) (by omega)] at c
        unfold numR at c
        have e1 : (12 * y + m - 1 + 0) / 12 = y := by omega
        have e2 : (12 * y + m - 1 + 0) % 12 + 1 = m := by omega
        simp only [e1, e2] at c
        rw [Int.min_eq_left (by omega)] at c
        omega
      · exact l
    have v1 := mplus_val (n := n0 y m y' m' - 1) h (by omega) (by omega)
    have l1 := num_lt v1.2.1 h' (by rw [v1.2.2]; unfold n0; omega)
    have k1 : 12 * y + m - 1 + n0 y m y' m' = 12 * y' + m' - 1 := by unfold n0; omega
    have k2 : (12 * y' + m' - 1) / 12 = y' := by omega
    have k3 : (12 * y' + m' - 1) % 12 + 1 = m' := by omega
    have k4 : 12 * y + m - 1 + (n0 y m y' m' - 1) = 12 * y' + m' - 2 := by unfold n0; omega
    have x0 := mplus_ok h a2 a3
    have x1 := mplus_ok (n := n0 y m y' m' - 1) h (by omega) (by omega)
    rw [k1, k2, k3] at x0
    rw [k4] at x1
    have pr := ms_prev (y := y') (m := m') (by omega) (by omega) (by omega) (by omega) (by omega)
    have mb := md_bd ((12 * y' + m' - 2) / 12) ((12 * y' + m' - 2) % 12 + 1)
    have mb' := md_bd y' m'
    have u : num y' m' d' - numR (mplus y m d (n0 y m y' m' - 1)) < 31 := by
      rw [x0] at c
      rw [x1]
      unfold numR at c ⊢
      simp only [num_ms] at c ⊢
      omega
    have hb : bd y m d y' m' d' = num y' m' d' - numR (mplus y m d (n0 y m y' m' - 1)) := by unfold bd; rw [e]
    rw [e, hb]
    unfold numR at *
    omega
  · have e : bn y m d y' m' d' = n0 y m y' m' := by unfold bn; rw [if_neg c]
    have hb : bd y m d y' m' d' = num y' m' d' - numR (mplus y m d (n0 y m y' m')) := by unfold bd; rw [e]
    have u : num y' m' d' - numR (mplus y m d (n0 y m y' m')) < 31 := by
      have k1 : 12 * y + m - 1 + n0 y m y' m' = 12 * y' + m' - 1 := by unfold n0; omega
      have k2 : (12 * y' + m' - 1) / 12 = y' := by omega
      have k3 : (12 * y' + m' - 1) % 12 + 1 = m' := by omega
      have x0 := mplus_ok h a2 a3
      rw [k1, k2, k3] at x0
      have mb' := md_bd y' m'
      rw [x0] at c ⊢
      unfold numR at c ⊢
      simp only [num_ms] at c ⊢
      omega
    rw [e, hb]
    omega

end D
end Go.Proofs.YtboglbdhibcacaaGreatDoor

namespace Go.Proofs.YtboglbdhibcacaaGreatDoor
set_option linter.unusedVariables false
set_option linter.unusedSimpArgs false
namespace D

end D
end Go.Proofs.YtboglbdhibcacaaGreatDoor

namespace Go.Proofs.YtboglbdhibcacaaGreatDoor
set_option linter.unusedVariables false
set_option linter.unusedSimpArgs false
namespace D

/-- A date and whether there is one, as values. -/
def drV (r : DR) : Value := .tuple #[.agg #[.int .i64 r.y, .int .i64 r.m, .int .i64 r.d], .bool r.ok]
theorem ny_mono {a b : Int} (h : a ≤ b) : ny a ≤ ny b := by unfold ny; omega
theorem year_ex {n : Int} (h1 : 0 ≤ n) (h2 : n ≤ 3652058) : ∃ y : Int, 1 ≤ y ∧ y ≤ 9999 ∧ ny y ≤ n ∧ n < ny (y + 1) := by
  have key : ∀ k : Nat, (k : Int) ≤ 9999 → n < ny (k + 1) → ∃ y : Int, 1 ≤ y ∧ y ≤ k ∧ ny y ≤ n ∧ n < ny (y + 1) := by
    intro k
    induction k with
    | zero => intro _ h; simp [ny] at h; omega
    | succ k ih =>
      intro hk h
      by_cases hc : n < ny ((k : Int) + 1)
      · obtain ⟨y, a, b, c⟩ := ih (by omega) hc
        exact ⟨y, a, by omega, c⟩
      · exact ⟨(k : Int) + 1, by omega, by omega, by omega, by simpa using h⟩
  obtain ⟨y, a, b, c⟩ := key 9999 (by omega) (by simp [ny]; omega)
  exact ⟨y, a, b, c⟩
theorem month_ex {y k : Int} (hy1 : 1 ≤ y) (hy2 : y ≤ 9999) (h1 : 0 ≤ k) (h2 : k < 365 + lp y) : ∃ m : Int, 1 ≤ m ∧ m ≤ 12 ∧ cum y m ≤ k ∧ k < cum y (m + 1) := by
  have ha := cum_all y hy1 hy2
  have key : ∀ j : Nat, (j : Int) ≤ 12 → k < cum y (j + 1) → ∃ m : Int, 1 ≤ m ∧ m ≤ j ∧ cum y m ≤ k ∧ k < cum y (m + 1) := by
    intro j
    induction j with
    | zero => intro _ h; have : cum y 1 = 0 := rfl; simp at h; omega
    | succ j ih =>
      intro hj h
      by_cases hc : k < cum y ((j : Int) + 1)
      · obtain ⟨y, a, b, c⟩ := ih (by omega) hc
        exact ⟨y, a, by omega, c⟩
      · exact ⟨(j : Int) + 1, by omega, by omega, by omega, by simpa using h⟩
  obtain ⟨m, a, b, c⟩ := key 12 (by omega) (by simp; omega)
  exact ⟨m, a, b, c⟩
/-- Every day of the range has its date. -/
theorem date_ex {n : Int} (h1 : 0 ≤ n) (h2 : n ≤ 3652058) : ∃ y m d : Int, dval y m d = true ∧ num y m d = n := by
  obtain ⟨y, y1, y2, y3, y4⟩ := year_ex h1 h2
  have hs := ny_succ y y1 y2
  obtain ⟨m, m1, m2, m3, m4⟩ := month_ex (k := n - ny y) y1 y2 (by omega) (by omega)
  have hc := cum_succ y m m1
  refine ⟨y, m, n - ny y - cum y m + 1, inR_true.2 (by omega), ?_⟩
  unfold num ord
  omega
end D
end Go.Proofs.YtboglbdhibcacaaGreatDoor

namespace Go.Proofs.YtboglbdhibcacaaGreatDoor
set_option linter.unusedVariables false
set_option linter.unusedSimpArgs false
namespace D

/-- There is such a time. -/
def cval (h i s k : Int) : Bool := inR h 0 24 && inR i 0 59 && inR s 0 59 && inR k 0 999 && (decide (h < 24) || (i == 0 && s == 0 && k == 0))
/-- The thousandths of a second ahead of a time. -/
def cms (h i s k : Int) : Int := ((h * 60 + i) * 60 + s) * 1000 + k

theorem cval_bd {h i s k : Int} (hv : cval h i s k = true) : 0 ≤ h ∧ h ≤ 24 ∧ 0 ≤ i ∧ i ≤ 59 ∧ 0 ≤ s ∧ s ≤ 59 ∧ 0 ≤ k ∧ k ≤ 999 := by
  simp only [cval, Bool.and_eq_true, inR_true] at hv
  omega

theorem cms_bd {h i s k : Int} (hv : cval h i s k = true) : 0 ≤ cms h i s k ∧ cms h i s k ≤ 86400000 := by
  have hv' := hv
  simp only [cval, Bool.and_eq_true, Bool.or_eq_true, decide_eq_true_eq, beq_iff_eq, inR_true] at hv'
  unfold cms
  omega

/-- There is such a stamp. -/
def sval (y m d h i s k o : Int) : Bool := dval y m d && cval h i s k && inR o (-1439) 1439
/-- The instant of a stamp. -/
def inst (y m d h i s k o : Int) : Int := 86400000 * num y m d + cms h i s k - 60000 * o

theorem sval_parts {y m d h i s k o : Int} (hv : sval y m d h i s k o = true) : dval y m d = true ∧ cval h i s k = true ∧ -1439 ≤ o ∧ o ≤ 1439 := by
  simp only [sval, Bool.and_eq_true, inR_true] at hv
  exact ⟨hv.1.1, hv.1.2, hv.2.1, hv.2.2⟩

theorem inst_bd {y m d h i s k o : Int} (hv : sval y m d h i s k o = true) : -86400000 ≤ inst y m d h i s k o ∧ inst y m d h i s k o ≤ 315537984000000 ∧ 0 ≤ 86400000 * num y m d + cms h i s k ∧ 86400000 * num y m d + cms h i s k ≤ 315537897600000 ∧ inst y m d h i s k o = 86400000 * num y m d + cms h i s k - 60000 * o := by
  obtain ⟨h1, h2, h3, h4⟩ := sval_parts hv
  have a := num_bd h1
  have b := cms_bd h2
  unfold inst
  omega

/-! What is between two stamps. -/
end D
end Go.Proofs.YtboglbdhibcacaaGreatDoor

namespace Go.Proofs.YtboglbdhibcacaaGreatDoor
set_option linter.unusedVariables false
set_option linter.unusedSimpArgs false
namespace D

theorem mplus_zero {y m d : Int} (h : dval y m d = true) : mplus y m d 0 = ⟨y, m, d, true⟩ := by
  have hd := dval_bd h
  rw [mplus_ok h (by omega) (by omega)]
  have e1 : (12 * y + m - 1 + 0) / 12 = y := by omega
  have e2 : (12 * y + m - 1 + 0) % 12 + 1 = m := by omega
  rw [e1, e2, Int.min_eq_left (by omega)]

end D
end Go.Proofs.YtboglbdhibcacaaGreatDoor

namespace Go.Proofs.YtboglbdhibcacaaGreatDoor
set_option linter.unusedVariables false
set_option linter.unusedSimpArgs false
namespace D

/-- The date of a day, or none. -/
noncomputable def dateOf (n : Int) : DR := open Classical in
  if h : ∃ x : Int × Int × Int, dval x.1 x.2.1 x.2.2 = true ∧ num x.1 x.2.1 x.2.2 = n then ⟨h.choose.1, h.choose.2.1, h.choose.2.2, true⟩ else DR.no

theorem dateOf_num {y m d : Int} (h : dval y m d = true) : dateOf (num y m d) = ⟨y, m, d, true⟩ := by
  have hx : ∃ x : Int × Int × Int, dval x.1 x.2.1 x.2.2 = true ∧ num x.1 x.2.1 x.2.2 = num y m d := ⟨(y, m, d), h, rfl⟩
  unfold dateOf
  rw [dif_pos hx]
  obtain ⟨h1, h2, h3⟩ := num_inj hx.choose_spec.1 h hx.choose_spec.2
  rw [h1, h2, h3]

theorem dateOf_yes {n : Int} (h : inR n 0 3652058 = true) : ∃ y m d : Int, dval y m d = true ∧ num y m d = n ∧ dateOf n = ⟨y, m, d, true⟩ := by
  have hb := inR_true.1 h
  obtain ⟨y, m, d, h1, rfl⟩ := date_ex hb.1 hb.2
  exact ⟨y, m, d, h1, rfl, dateOf_num h1⟩

theorem dateOf_no {n : Int} (h : inR n 0 3652058 = false) : dateOf n = DR.no := by
  unfold dateOf
  rw [dif_neg]
  rintro ⟨x, h1, h2⟩
  have := num_bd h1
  rw [h2] at this
  exact inR_false.1 h this

/-- Some days later. -/
noncomputable def dayp (y m d n : Int) : DR := if dval y m d = true ∧ inR n (-3652058) 3652058 = true then dateOf (num y m d + n) else DR.no

/-- A stamp, or none. -/
structure SR where
  y : Int
  m : Int
  d : Int
  h : Int
  i : Int
  s : Int
  k : Int
  o : Int
  ok : Bool

def SR.no : SR := ⟨0, 0, 0, 0, 0, 0, 0, 0, false⟩

/-- The stamp with a time by the clock and an offset. -/
noncomputable def stampL (L o : Int) : SR := if (dateOf (L / 86400000)).ok = true then ⟨(dateOf (L / 86400000)).y, (dateOf (L / 86400000)).m, (dateOf (L / 86400000)).d, L % 86400000 / 3600000, L % 86400000 / 60000 % 60, L % 86400000 / 1000 % 60, L % 86400000 % 1000, o, true⟩ else SR.no

/-- The stamp with an instant and an offset. -/
noncomputable def stampAt (n o : Int) : SR := if inR n (-86400000) 315537984000000 = true ∧ inR o (-1439) 1439 = true ∧ 0 ≤ n + 60000 * o then stampL (n + 60000 * o) o else SR.no

theorem stampL_yes {L : Int} (o : Int) (h : inR (L / 86400000) 0 3652058 = true) : ∃ y m d : Int, dval y m d = true ∧ num y m d = L / 86400000 ∧ stampL L o = ⟨y, m, d, L % 86400000 / 3600000, L % 86400000 / 60000 % 60, L % 86400000 / 1000 % 60, L % 86400000 % 1000, o, true⟩ := by
  obtain ⟨y, m, d, h1, h2, h3⟩ := dateOf_yes h
  exact ⟨y, m, d, h1, h2, by simp [stampL, h3]⟩

theorem stampL_no {L : Int} (o : Int) (h : inR (L / 86400000) 0 3652058 = false) : stampL L o = SR.no := by
  simp [stampL, dateOf_no h, DR.no]

theorem cms_of (q : Int) : cms (q / 3600000) (q / 60000 % 60) (q / 1000 % 60) (q % 1000) = q := by unfold cms; omega

theorem cval_of {q : Int} (h1 : 0 ≤ q) (h2 : q < 86400000) : cval (q / 3600000) (q / 60000 % 60) (q / 1000 % 60) (q % 1000) = true := by
  simp only [cval, inR, Bool.and_eq_true, decide_eq_true_eq, Bool.or_eq_true]
  omega

/-- What there is of a stamp that is made of a time by the clock. -/
theorem stampL_ok {L o : Int} (ho : inR o (-1439) 1439 = true) (h : (stampL L o).ok = true) : ∃ y m d h i s k : Int, stampL L o = ⟨y, m, d, h, i, s, k, o, true⟩ ∧ sval y m d h i s k o = true ∧ inst y m d h i s k o = L - 60000 * o ∧ cms h i s k = L % 86400000 ∧ inR (L / 86400000) 0 3652058 = true := by
  cases hr : inR (L / 86400000) 0 3652058 with
  | false => rw [stampL_no o hr] at h; cases h
  | true =>
    obtain ⟨y, m, d, h1, h2, h3⟩ := stampL_yes o hr
    have hb := inR_true.1 hr
    refine ⟨y, m, d, _, _, _, _, h3, ?_, ?_, cms_of _, rfl⟩
    · have hc := cval_of (q := L % 86400000) (by omega) (by omega)
      simp only [sval, h1, hc, ho, Bool.and_self]
    · unfold inst
      rw [h2, cms_of]
      omega

/-! Whole units. -/
theorem stampAt_ok {n o : Int} (h : (stampAt n o).ok = true) : ∃ y m d h i s k : Int, stampAt n o = ⟨y, m, d, h, i, s, k, o, true⟩ ∧ sval y m d h i s k o = true ∧ inst y m d h i s k o = n ∧ cms h i s k = (n + 60000 * o) % 86400000 ∧ 0 ≤ n + 60000 * o ∧ (n + 60000 * o) / 86400000 ≤ 3652058 ∧ inR o (-1439) 1439 = true := by
  by_cases c : inR n (-86400000) 315537984000000 = true ∧ inR o (-1439) 1439 = true ∧ 0 ≤ n + 60000 * o
  · have e : stampAt n o = stampL (n + 60000 * o) o := if_pos c
    rw [e] at h ⊢
    obtain ⟨y, m, d, h', i, s, k, h1, h2, h3, h4, h5⟩ := stampL_ok c.2.1 h
    exact ⟨y, m, d, h', i, s, k, h1, h2, by omega, h4, c.2.2, (inR_true.1 h5).2, c.2.1⟩
  · have e : stampAt n o = SR.no := if_neg c
    rw [e] at h
    cases h

end D
end Go.Proofs.YtboglbdhibcacaaGreatDoor

namespace Go.Proofs.YtboglbdhibcacaaGreatDoor
set_option linter.unusedVariables false
set_option linter.unusedSimpArgs false
namespace D
open Go.PlainAid (bt bt_nonneg bt_le bt_end)

/-- Is there a digit at a place? -/
def isD (s : ByteArray) (k : Nat) : Bool := decide (48 ≤ bt s k ∧ bt s k ≤ 57)

theorem isD_iff {s : ByteArray} {k : Nat} : isD s k = true ↔ 48 ≤ bt s k ∧ bt s k ≤ 57 := by simp [isD]

theorem isD_lt {s : ByteArray} {k : Nat} (h : isD s k = true) : k < s.size := by
  refine Nat.lt_of_not_le fun hle => ?_
  have := bt_end s hle
  have := isD_iff.1 h
  omega

/-- Digits at so many places. -/
def allD (s : ByteArray) (p : Nat) : Nat → Bool
  | 0 => true
  | m + 1 => allD s p m && isD s (p + m)

theorem allD_iff {s : ByteArray} {p : Nat} : ∀ {m : Nat}, allD s p m = true ↔ ∀ i, i < m → isD s (p + i) = true
  | 0 => by simp [allD]
  | m + 1 => by
    simp only [allD, Bool.and_eq_true, allD_iff (m := m)]
    constructor
    · rintro ⟨h1, h2⟩ i hi
      by_cases e : i = m
      · subst e; exact h2
      · exact h1 i (by omega)
    · exact fun h => ⟨fun i hi => h i (by omega), h m (by omega)⟩

/-- The number of so many digits. -/
def numL (s : ByteArray) (p : Nat) : Nat → Int
  | 0 => 0
  | m + 1 => 10 * numL s p m + (bt s (p + m) - 48)

def p10 : Nat → Int
  | 0 => 1
  | m + 1 => 10 * p10 m

theorem numL_bd {s : ByteArray} {p : Nat} : ∀ {m : Nat}, allD s p m = true → 0 ≤ numL s p m ∧ numL s p m < p10 m
  | 0, _ => by simp [numL, p10]
  | m + 1, h => by
    simp only [allD, Bool.and_eq_true] at h
    have h1 := numL_bd h.1
    have h2 := isD_iff.1 h.2
    simp only [numL, p10]
    omega

/-- A number's digits, as bytes. -/
def digL : Int → Nat → List Int
  | _, 0 => []
  | n, k + 1 => digL (n / 10) k ++ [48 + n % 10]

theorem digL_length : ∀ (n : Int) (k : Nat), (digL n k).length = k
  | _, 0 => rfl
  | n, k + 1 => by simp [digL, digL_length (n / 10) k]

theorem digL_in : ∀ (n : Int) (k : Nat), ∀ x ∈ digL n k, 48 ≤ x ∧ x ≤ 57
  | _, 0, x, h => by simp [digL] at h
  | n, k + 1, x, h => by
    simp only [digL, List.mem_append, List.mem_singleton] at h
    rcases h with h | rfl
    · exact digL_in (n / 10) k x h
    · omega

/-- The digits of a number that was read are those that were read. -/
theorem digL_num {s : ByteArray} {p : Nat} : ∀ {m : Nat}, allD s p m = true → digL (numL s p m) m = (List.range m).map fun i => bt s (p + i)
  | 0, _ => rfl
  | m + 1, h => by
    simp only [allD, Bool.and_eq_true] at h
    have h1 := numL_bd h.1
    have h2 := isD_iff.1 h.2
    have e1 : numL s p (m + 1) / 10 = numL s p m := by simp only [numL]; omega
    have e2 : 48 + numL s p (m + 1) % 10 = bt s (p + m) := by simp only [numL]; omega
    rw [digL, e1, e2, digL_num h.1, List.range_succ, List.map_append]
    rfl

theorem strOfNums_append (a b : List Int) : strOfNums a ++ strOfNums b = strOfNums (a ++ b) := by
  unfold strOfNums
  rw [ByteArray.mk_append_mk, List.map_append]

theorem bt_strOf (l : List Int) (k : Nat) (h : ∀ x ∈ l, 0 ≤ x ∧ x ≤ 255) : bt (strOfNums l) k = l.getD k 0 := by
  unfold bt
  by_cases hk : k < l.length
  · rw [dif_pos (by rw [strOfNums_size]; exact hk)]
    have hx := h l[k] (List.getElem_mem hk)
    have e : (strOfNums l)[k]'(by rw [strOfNums_size]; exact hk) = UInt8.ofNat (l[k]).toNat := by
      show (strOfNums l).data[k]'_ = _
      simp [strOfNums]
    rw [e]
    simp only [List.getD, List.getElem?_eq_getElem hk, Option.getD_some]
    have : (UInt8.ofNat (l[k]).toNat).toNat = (l[k]).toNat := by
      rw [UInt8.toNat_ofNat']
      omega
    rw [this]
    omega
  · rw [dif_neg (by rw [strOfNums_size]; exact hk)]
    simp [List.getD, List.getElem?_eq_none (Nat.le_of_not_lt hk)]

theorem bt_ext {s t : ByteArray} (hs : s.size = t.size) (h : ∀ k, k < s.size → bt s k = bt t k) : s = t := by
  refine ByteArray.ext (Array.ext hs fun k h1 h2 => ?_)
  have h1' : k < s.size := h1
  have h2' : k < t.size := h2
  have := h k h1'
  unfold bt at this
  rw [dif_pos h1', dif_pos h2'] at this
  exact UInt8.toNat_inj.1 (Int.ofNat.inj this)

/-- When a string is that of some bytes. -/
theorem eq_strOf {s : ByteArray} {l : List Int} (hl : ∀ x ∈ l, 0 ≤ x ∧ x ≤ 255) : s = strOfNums l ↔ s.size = l.length ∧ ∀ i, i < l.length → bt s i = l.getD i 0 := by
  constructor
  · rintro rfl
    exact ⟨strOfNums_size l, fun i _ => bt_strOf l i hl⟩
  · rintro ⟨h1, h2⟩
    exact bt_ext (by rw [h1, strOfNums_size]) fun k hk => by rw [bt_strOf l k hl]; exact h2 k (by omega)

end D
end Go.Proofs.YtboglbdhibcacaaGreatDoor

namespace Go.Proofs.YtboglbdhibcacaaGreatDoor
set_option linter.unusedVariables false
set_option linter.unusedSimpArgs false
namespace D
open Go.PlainAid (bt bt_nonneg bt_le bt_end)

/-- The number of digits, if they are there. -/
def numV (s : ByteArray) (p m : Nat) : Int := if allD s p m = true then numL s p m else 0

/-- The place behind digits, if they are there. -/
def nxt (s : ByteArray) (p m : Nat) : Nat := if allD s p m = true then p + m else p

/-- Is a byte there? -/
def isB (s : ByteArray) (p : Nat) (c : Int) : Bool := decide (p < s.size ∧ bt s p = c)

/-- The place behind a byte, if it is there. -/
def takN (s : ByteArray) (p : Nat) (c : Int) : Nat := if isB s p c = true then p + 1 else p

def btV (s : ByteArray) (p : Nat) (h : Bool) : Bool := !h || isB s p 45
def btN (s : ByteArray) (p : Nat) (h : Bool) : Nat := if h = true ∧ isB s p 45 = true then p + 1 else p

theorem nxt_le {s : ByteArray} {p m : Nat} (hm : 0 < m) (h : p ≤ s.size) : nxt s p m ≤ s.size := by
  unfold nxt
  split
  · rename_i h1
    have := isD_lt (allD_iff.1 h1 (m - 1) (by omega))
    omega
  · exact h

theorem takN_le {s : ByteArray} {p : Nat} {c : Int} (h : p ≤ s.size) : takN s p c ≤ s.size := by
  unfold takN
  split
  · rename_i h1
    simp only [isB, decide_eq_true_eq] at h1
    omega
  · exact h

theorem btN_le {s : ByteArray} {p : Nat} {b : Bool} (h : p ≤ s.size) : btN s p b ≤ s.size := by
  unfold btN
  split
  · rename_i h1
    have h2 := h1.2
    simp only [isB, decide_eq_true_eq] at h2
    omega
  · exact h

theorem p10_le {k : Nat} (h : k ≤ 6) : p10 k ≤ 1000000 := by
  rcases (by omega : k = 0 ∨ k = 1 ∨ k = 2 ∨ k = 3 ∨ k = 4 ∨ k = 5 ∨ k = 6) with rfl | rfl | rfl | rfl | rfl | rfl | rfl <;> decide

theorem numV_bd (s : ByteArray) (p : Nat) {m : Nat} (h : m ≤ 6) : 0 ≤ numV s p m ∧ numV s p m < p10 m := by
  unfold numV
  split
  · rename_i h1
    exact numL_bd h1
  · rcases (by omega : m = 0 ∨ m = 1 ∨ m = 2 ∨ m = 3 ∨ m = 4 ∨ m = 5 ∨ m = 6) with rfl | rfl | rfl | rfl | rfl | rfl | rfl <;> decide

/-! ### Weeks -/
def fmon (y : Int) : Int := ny y + 3 - (ny y + 3) % 7
def wks (y : Int) : Int := if inR y 1 9999 = true then (fmon (y + 1) - fmon y) / 7 else 0

theorem fmon_bd {y : Int} (h : 1 ≤ y ∧ y ≤ 10000) : 0 ≤ fmon y ∧ fmon y ≤ 3652062 := by
  have hn := ny_bd y h.1 h.2
  unfold fmon
  omega

theorem wks_bd (y : Int) : 0 ≤ wks y ∧ wks y ≤ 53 := by
  unfold wks
  split
  · rename_i h
    have h1 := inR_true.1 h
    have h2 := ny_succ y h1.1 h1.2
    have h3 := lp_bd y
    unfold fmon
    omega
  · omega

theorem wks_yes {y w : Int} (h : inR w 1 (wks y) = true) : 1 ≤ y ∧ y ≤ 9999 ∧ 1 ≤ w ∧ w ≤ 53 ∧ fmon y + 7 * (w - 1) ≤ fmon (y + 1) - 7 := by
  have h1 := inR_true.1 h
  have h2 := wks_bd y
  cases h3 : inR y 1 9999 with
  | true =>
    have e : wks y = (fmon (y + 1) - fmon y) / 7 := if_pos h3
    have h4 := inR_true.1 h3
    have h5 : fmon (y + 1) % 7 = 0 ∧ fmon y % 7 = 0 := by unfold fmon; omega
    omega
  | false =>
    have e : wks y = 0 := if_neg (by simp [h3])
    omega

/-- The date of a day of a week. -/
noncomputable def wkD (y w d : Int) : DR := if inR w 1 (wks y) = true ∧ inR d 1 7 = true then dateOf (fmon y + 7 * (w - 1) + d - 1) else DR.no

/-- The date of a day of a year. -/
noncomputable def orD (y k : Int) : DR := if inR y 1 9999 = true ∧ inR k 1 (ny (y + 1) - ny y) = true then dateOf (ny y + k - 1) else DR.no

/-- The Thursday of a day's week. -/
def thu (n : Int) : Int := n - n % 7 + 3

theorem thu_in {n : Int} (h : 0 ≤ n ∧ n ≤ 3652058) : 0 ≤ thu n ∧ thu n ≤ 3652058 := by unfold thu; omega

/-! ### What the forms read -/
def m1 (s : ByteArray) : Nat := nxt s 0 4
def m2 (s : ByteArray) (h : Bool) : Nat := btN s (m1 s) h
def m3 (s : ByteArray) (h : Bool) : Nat := nxt s (m2 s h) 2
def m4 (s : ByteArray) (h : Bool) : Nat := btN s (m3 s h) h
def m5 (s : ByteArray) (h : Bool) : Nat := nxt s (m4 s h) 2
def rdM (s : ByteArray) (h : Bool) : DR := ⟨numV s 0 4, numV s (m2 s h) 2, numV s (m4 s h) 2, allD s 0 4 && allD s (m2 s h) 2 && allD s (m4 s h) 2 && btV s (m1 s) h && btV s (m3 s h) h && dval (numV s 0 4) (numV s (m2 s h) 2) (numV s (m4 s h) 2)⟩

def k2 (s : ByteArray) (h : Bool) : Nat := if btV s (m1 s) h = true then takN s (m2 s h) 87 else m2 s h
def k3 (s : ByteArray) (h : Bool) : Nat := nxt s (k2 s h) 2
def k4 (s : ByteArray) (h : Bool) : Nat := btN s (k3 s h) h
def k5 (s : ByteArray) (h : Bool) : Nat := nxt s (k4 s h) 1
noncomputable def rdKd (s : ByteArray) (h : Bool) : DR := wkD (numV s 0 4) (numV s (k2 s h) 2) (numV s (k4 s h) 1)
noncomputable def rdK (s : ByteArray) (h : Bool) : DR := ⟨(rdKd s h).y, (rdKd s h).m, (rdKd s h).d, allD s 0 4 && allD s (k2 s h) 2 && allD s (k4 s h) 1 && (btV s (m1 s) h && isB s (m2 s h) 87) && btV s (k3 s h) h && (rdKd s h).ok⟩

def o3 (s : ByteArray) (h : Bool) : Nat := nxt s (m2 s h) 3
noncomputable def rdOd (s : ByteArray) (h : Bool) : DR := orD (numV s 0 4) (numV s (m2 s h) 3)
noncomputable def rdO (s : ByteArray) (h : Bool) : DR := ⟨(rdOd s h).y, (rdOd s h).m, (rdOd s h).d, allD s 0 4 && allD s (m2 s h) 3 && btV s (m1 s) h && (rdOd s h).ok⟩

end D
end Go.Proofs.YtboglbdhibcacaaGreatDoor

namespace Go.Proofs.YtboglbdhibcacaaGreatDoor
set_option linter.unusedVariables false
set_option linter.unusedSimpArgs false
namespace D
open Go.PlainAid (bt bt_nonneg bt_le bt_end)

/-- The year of a day's week. -/
noncomputable def wyr (n : Int) : Int := (dateOf (thu n)).y

/-- The number of a day's week. -/
noncomputable def wno (n : Int) : Int := (thu n - ny (wyr n)) / 7 + 1

theorem wyr_date {n : Int} (h : 0 ≤ n ∧ n ≤ 3652058) : ∃ m d : Int, dval (wyr n) m d = true ∧ num (wyr n) m d = thu n := by
  obtain ⟨y, m, d, h1, h2, h3⟩ := dateOf_yes (n := thu n) (inR_true.2 (thu_in h))
  have e : wyr n = y := by unfold wyr; rw [h3]
  rw [e]
  exact ⟨m, d, h1, h2⟩

theorem wyr_in {n : Int} (h : 0 ≤ n ∧ n ≤ 3652058) : 1 ≤ wyr n ∧ wyr n ≤ 9999 ∧ ny (wyr n) ≤ thu n ∧ thu n < ny (wyr n + 1) := by
  obtain ⟨m, d, h1, h2⟩ := wyr_date h
  have h3 := dval_bd h1
  have h4 := num_in h1
  omega

theorem thu_ge {n : Int} (Y : Int) (h : 0 ≤ n) : fmon Y ≤ n ↔ ny Y ≤ thu n := by
  unfold fmon thu
  omega

theorem wyr_or {n y : Int} (h : 0 ≤ n ∧ n ≤ 3652058) (hy : 1 ≤ y ∧ y ≤ 9999) (hn : ny y ≤ n ∧ n < ny (y + 1)) : (wyr n = y - 1 ∧ n < fmon y) ∨ (wyr n = y ∧ fmon y ≤ n ∧ n < fmon (y + 1)) ∨ (wyr n = y + 1 ∧ fmon y ≤ n ∧ fmon (y + 1) ≤ n) := by
  have h1 := wyr_in h
  have g1 := thu_ge y h.1
  have g2 := thu_ge (y + 1) h.1
  have ht : n - 3 ≤ thu n ∧ thu n ≤ n + 3 := by unfold thu; omega
  have s1 : ny (y - 1) + 365 ≤ ny y := by unfold ny; omega
  have s2 : ny (y + 1) + 365 ≤ ny (y + 2) := by unfold ny; omega
  have k1 : ¬ wyr n < y - 1 := fun hlt => by
    have := ny_mono (a := wyr n + 1) (b := y - 1) (by omega)
    omega
  have k2 : ¬ y + 1 < wyr n := fun hlt => by
    have := ny_mono (a := y + 2) (b := wyr n) (by omega)
    omega
  have k3 : wyr n = y - 1 → n < fmon y := fun e => by
    have := h1.2.2.2
    rw [e, show y - 1 + 1 = y by omega] at this
    omega
  have k4 : wyr n = y → fmon y ≤ n ∧ n < fmon (y + 1) := fun e => by
    rw [e] at h1
    omega
  have k5 : wyr n = y + 1 → fmon y ≤ n ∧ fmon (y + 1) ≤ n := fun e => by
    rw [e] at h1
    omega
  rcases (by omega : wyr n = y - 1 ∨ wyr n = y ∨ wyr n = y + 1) with e | e | e
  · exact .inl ⟨e, k3 e⟩
  · exact .inr (.inl ⟨e, k4 e⟩)
  · exact .inr (.inr ⟨e, k5 e⟩)

theorem wno_eq {n : Int} (h : 0 ≤ n ∧ n ≤ 3652058) : wno n = (n - fmon (wyr n)) / 7 + 1 := by
  unfold wno fmon thu
  omega

theorem wda_eq {n : Int} (h : 0 ≤ n ∧ n ≤ 3652058) : (n - fmon (wyr n)) % 7 + 1 = n % 7 + 1 := by
  unfold fmon
  omega

theorem wno_bd {n : Int} (h : 0 ≤ n ∧ n ≤ 3652058) : 1 ≤ wno n ∧ wno n ≤ wks (wyr n) := by
  have h1 := wyr_in h
  have h2 : wks (wyr n) = (fmon (wyr n + 1) - fmon (wyr n)) / 7 := if_pos (inR_true.2 ⟨h1.1, h1.2.1⟩)
  have g1 := (thu_ge (wyr n) h.1).2 h1.2.2.1
  have g2 : n < fmon (wyr n + 1) := by
    have := thu_ge (wyr n + 1) h.1
    omega
  have k1 : fmon (wyr n + 1) % 7 = 0 ∧ fmon (wyr n) % 7 = 0 := by unfold fmon; omega
  rw [h2, wno_eq h]
  omega

def hy1 (h : Bool) : List Int := if h = true then [45] else []

/-- A date in a form, as bytes. -/
noncomputable def dtL (y m d f : Int) (h : Bool) : List Int :=
  if f = 0 then digL y 4 ++ hy1 h ++ digL m 2 ++ hy1 h ++ digL d 2
  else if f = 1 then digL (wyr (num y m d)) 4 ++ hy1 h ++ (87 :: digL (wno (num y m d)) 2) ++ hy1 h ++ digL (num y m d % 7 + 1) 1
  else digL y 4 ++ hy1 h ++ digL (ord y m d) 3

end D
end Go.Proofs.YtboglbdhibcacaaGreatDoor

namespace Go.Proofs.YtboglbdhibcacaaGreatDoor
set_option linter.unusedVariables false
set_option linter.unusedSimpArgs false
namespace D
open Go.RowKit
open Go.PlainAid (bt bt_nonneg bt_le bt_end)

/-- Which of six ways to read a text serves (the program). -/
noncomputable def okP (s : ByteArray) : Nat → Bool
  | 0 => (rdM s true).ok && decide ((m5 s true : Int) = s.size)
  | 1 => (rdM s false).ok && decide ((m5 s false : Int) = s.size)
  | 2 => (rdK s true).ok && decide ((k5 s true : Int) = s.size)
  | 3 => (rdK s false).ok && decide ((k5 s false : Int) = s.size)
  | 4 => (rdO s true).ok && decide ((o3 s true : Int) = s.size)
  | 5 => (rdO s false).ok && decide ((o3 s false : Int) = s.size)
  | _ => false

noncomputable def dP (s : ByteArray) : Nat → DR
  | 0 => rdM s true
  | 1 => rdM s false
  | 2 => rdK s true
  | 3 => rdK s false
  | 4 => rdO s true
  | 5 => rdO s false
  | _ => DR.no

/-- A date, its form, and whether there are hyphens. -/
def dfT (r : DR) (k : Nat) : Value := .tuple #[.agg #[.int .i64 r.y, .int .i64 r.m, .int .i64 r.d], .int .i64 (k / 2 : Nat), .bool (decide (k % 2 = 0)), .bool true]

def dfNo : Value := .tuple #[.agg #[.int .i64 0, .int .i64 0, .int .i64 0], .int .i64 0, .bool false, .bool false]

def dfV (ok : Nat → Bool) (d : Nat → DR) : Value :=
  if ok 0 = true then dfT (d 0) 0 else if ok 1 = true then dfT (d 1) 1 else if ok 2 = true then dfT (d 2) 2 else if ok 3 = true then dfT (d 3) 3 else if ok 4 = true then dfT (d 4) 4 else if ok 5 = true then dfT (d 5) 5 else dfNo

theorem dfV_at {ok : Nat → Bool} {d : Nat → DR} {k : Nat} (hk : k < 6) (h : ∀ j, j < k → ok j = false) (hy : ok k = true) : dfV ok d = dfT (d k) k := by
  rcases (by omega : k = 0 ∨ k = 1 ∨ k = 2 ∨ k = 3 ∨ k = 4 ∨ k = 5) with rfl | rfl | rfl | rfl | rfl | rfl
  · simp [dfV, hy]
  · simp [dfV, hy, h 0 (by omega)]
  · simp [dfV, hy, h 0 (by omega), h 1 (by omega)]
  · simp [dfV, hy, h 0 (by omega), h 1 (by omega), h 2 (by omega)]
  · simp [dfV, hy, h 0 (by omega), h 1 (by omega), h 2 (by omega), h 3 (by omega)]
  · simp [dfV, hy, h 0 (by omega), h 1 (by omega), h 2 (by omega), h 3 (by omega), h 4 (by omega)]

theorem dfV_no {ok : Nat → Bool} {d : Nat → DR} (h : ∀ j, j < 6 → ok j = false) : dfV ok d = dfNo := by
  simp [dfV, h 0 (by omega), h 1 (by omega), h 2 (by omega), h 3 (by omega), h 4 (by omega), h 5 (by omega)]

theorem dfV_or (ok : Nat → Bool) (d : Nat → DR) : (∃ k, k < 6 ∧ (∀ j, j < k → ok j = false) ∧ ok k = true ∧ dfV ok d = dfT (d k) k) ∨ ((∀ j, j < 6 → ok j = false) ∧ dfV ok d = dfNo) := by
  have step : ∀ n, n ≤ 6 → (∃ k, k < n ∧ (∀ j, j < k → ok j = false) ∧ ok k = true) ∨ (∀ j, j < n → ok j = false) := by
    intro n
    induction n with
    | zero => exact fun _ => .inr fun j hj => by omega
    | succ n ih =>
      intro hn
      rcases ih (by omega) with ⟨k, h1, h2, h3⟩ | h
      · exact .inl ⟨k, by omega, h2, h3⟩
      · cases hk : ok n with
        | true => exact .inl ⟨n, by omega, h, hk⟩
        | false =>
          refine .inr fun j hj => ?_
          by_cases e : j = n
          · rw [e]; exact hk
          · exact h j (by omega)
  rcases step 6 (by omega) with ⟨k, h1, h2, h3⟩ | h
  · exact .inl ⟨k, h1, h2, h3, dfV_at h1 h2 h3⟩
  · exact .inr ⟨h, dfV_no h⟩

/-! ### The reference -/
def l4M (s : ByteArray) (a b : Nat) : DR := if allD s 0 4 = true then ⟨numV s 0 4, numV s a 2, numV s b 2, allD s a 2 && allD s b 2⟩ else DR.no
noncomputable def l4K (s : ByteArray) (a b : Nat) : DR := if (allD s 0 4 && allD s a 2 && allD s b 1) = true then wkD (numV s 0 4) (numV s a 2) (numV s b 1) else DR.no
noncomputable def l4O (s : ByteArray) (a : Nat) : DR := if (allD s 0 4 && allD s a 3) = true then orD (numV s 0 4) (numV s a 3) else DR.no

noncomputable def dS (s : ByteArray) : Nat → DR
  | 0 => l4M s 5 8
  | 1 => l4M s 4 6
  | 2 => l4K s 6 9
  | 3 => l4K s 5 7
  | 4 => l4O s 5
  | 5 => l4O s 4
  | _ => DR.no

/-- Which of six ways to read a text serves (the reference). -/
noncomputable def okS (s : ByteArray) (k : Nat) : Bool :=
  (dS s k).ok && dval (dS s k).y (dS s k).m (dS s k).d && decide (strOfNums (dtL (dS s k).y (dS s k).m (dS s k).d (k / 2 : Nat) (decide (k % 2 = 0))) = s)

/-- The text of a date in a form, or none. -/
noncomputable def dtS (y m d f : Int) (h : Bool) : Value := if dval y m d = true ∧ inR f 0 2 = true then .tuple #[.string (strOfNums (dtL y m d f h)), .bool true] else .tuple #[.string ⟨#[]⟩, .bool false]

end D
end Go.Proofs.YtboglbdhibcacaaGreatDoor

namespace Go.Proofs.YtboglbdhibcacaaGreatDoor
set_option linter.unusedVariables false
set_option linter.unusedSimpArgs false
namespace D
open Go.PlainAid (bt bt_nonneg bt_le bt_end)

theorem isB_iff {s : ByteArray} {p : Nat} {c : Int} : isB s p c = true ↔ p < s.size ∧ bt s p = c := by simp [isB]

theorem numV_eq {s : ByteArray} {p m : Nat} (h : allD s p m = true) : numV s p m = numL s p m := if_pos h

theorem nxt_eq {s : ByteArray} {p m : Nat} (h : allD s p m = true) : nxt s p m = p + m := if_pos h

theorem takN_eq {s : ByteArray} {p : Nat} {c : Int} (h : isB s p c = true) : takN s p c = p + 1 := if_pos h

theorem btN_t {s : ByteArray} {p : Nat} (h : isB s p 45 = true) : btN s p true = p + 1 := if_pos ⟨rfl, h⟩

theorem btN_f (s : ByteArray) (p : Nat) : btN s p false = p := if_neg (by simp)

theorem btV_t (s : ByteArray) (p : Nat) : btV s p true = isB s p 45 := by simp [btV]

theorem btV_f (s : ByteArray) (p : Nat) : btV s p false = true := by simp [btV]

theorem bt_in (s : ByteArray) (p : Nat) : 0 ≤ bt s p ∧ bt s p ≤ 255 := ⟨bt_nonneg s p, bt_le s p⟩

theorem wyr_eq {n y : Int} (hn : 0 ≤ n ∧ n ≤ 3652058) (h1 : ny y ≤ thu n) (h2 : thu n < ny (y + 1)) : wyr n = y := by
  have h := wyr_in hn
  rcases (by omega : wyr n < y ∨ wyr n = y ∨ y < wyr n) with e | e | e
  · have := ny_mono (a := wyr n + 1) (b := y) (by omega)
    omega
  · exact e
  · have := ny_mono (a := y + 1) (b := wyr n) (by omega)
    omega

/-- The date of a day of a week has that week. -/
theorem wk_back {y w d : Int} (h : (wkD y w d).ok = true) : dval (wkD y w d).y (wkD y w d).m (wkD y w d).d = true ∧ wyr (num (wkD y w d).y (wkD y w d).m (wkD y w d).d) = y ∧ wno (num (wkD y w d).y (wkD y w d).m (wkD y w d).d) = w ∧ num (wkD y w d).y (wkD y w d).m (wkD y w d).d % 7 + 1 = d := by
  by_cases c : inR w 1 (wks y) = true ∧ inR d 1 7 = true
  · have e : wkD y w d = dateOf (fmon y + 7 * (w - 1) + d - 1) := if_pos c
    rw [e] at h ⊢
    have hy := wks_yes c.1
    have hd := inR_true.1 c.2
    cases hr : inR (fmon y + 7 * (w - 1) + d - 1) 0 3652058 with
    | false => rw [dateOf_no hr] at h; cases h
    | true =>
      obtain ⟨y', m', d', g1, g2, g3⟩ := dateOf_yes hr
      rw [g3]
      simp only [g2]
      have hn := inR_true.1 hr
      have k1 : fmon y = ny y + 3 - (ny y + 3) % 7 := rfl
      have k2 : fmon (y + 1) = ny (y + 1) + 3 - (ny (y + 1) + 3) % 7 := rfl
      have k3 : thu (fmon y + 7 * (w - 1) + d - 1) = fmon y + 7 * (w - 1) + d - 1 - (fmon y + 7 * (w - 1) + d - 1) % 7 + 3 := rfl
      have k0 : fmon y % 7 = 0 := by omega
      have k4 : thu (fmon y + 7 * (w - 1) + d - 1) = fmon y + 7 * (w - 1) + 3 := by omega
      have k5 := wyr_eq (y := y) hn (by omega) (by omega)
      refine ⟨g1, k5, ?_, by omega⟩
      rw [wno_eq hn, k5]
      omega
  · have e : wkD y w d = DR.no := if_neg c
    rw [e] at h
    cases h

/-- The date of a day of a year has that day. -/
theorem or_back {y k : Int} (h : (orD y k).ok = true) : dval (orD y k).y (orD y k).m (orD y k).d = true ∧ (orD y k).y = y ∧ ord (orD y k).y (orD y k).m (orD y k).d = k := by
  by_cases c : inR y 1 9999 = true ∧ inR k 1 (ny (y + 1) - ny y) = true
  · have e : orD y k = dateOf (ny y + k - 1) := if_pos c
    rw [e] at h ⊢
    have hy := inR_true.1 c.1
    have hk := inR_true.1 c.2
    have hn1 := ny_bd y (by omega) (by omega)
    have hn2 := ny_bd (y + 1) (by omega) (by omega)
    obtain ⟨y', m', d', g1, g2, g3⟩ := dateOf_yes (n := ny y + k - 1) (inR_true.2 (by omega))
    rw [g3]
    have hin := num_in g1
    have e2 : y' = y := by
      rcases (by omega : y' < y ∨ y' = y ∨ y < y') with e | e | e
      · have := ny_mono (a := y' + 1) (b := y) (by omega)
        omega
      · exact e
      · have := ny_mono (a := y + 1) (b := y') (by omega)
        omega
    refine ⟨g1, e2, ?_⟩
    have : num y' m' d' = ny y' + ord y' m' d' - 1 := rfl
    rw [e2] at this g2 ⊢
    show ord y m' d' = k
    omega
  · have e : orD y k = DR.no := if_neg c
    rw [e] at h
    cases h

theorem okP0 (s : ByteArray) : okP s 0 = true ↔ allD s 0 4 = true ∧ bt s 4 = 45 ∧ allD s 5 2 = true ∧ bt s 7 = 45 ∧ allD s 8 2 = true ∧ s.size = 10 ∧ dval (numL s 0 4) (numL s 5 2) (numL s 8 2) = true := by
  constructor
  · intro hk
    simp only [okP, rdM, Bool.and_eq_true, decide_eq_true_eq] at hk
    obtain ⟨⟨⟨⟨⟨⟨a1, a2⟩, a3⟩, a4⟩, a5⟩, a6⟩, a7⟩ := hk
    have e1 : m1 s = 4 := nxt_eq a1
    rw [e1, btV_t] at a4
    have e2 : m2 s true = 5 := by show btN s (m1 s) true = _; rw [e1]; exact btN_t a4
    rw [e2] at a2
    have e3 : m3 s true = 7 := by show nxt s (m2 s true) 2 = _; rw [e2]; exact nxt_eq a2
    rw [e3, btV_t] at a5
    have e4 : m4 s true = 8 := by show btN s (m3 s true) true = _; rw [e3]; exact btN_t a5
    rw [e4] at a3
    have e5 : m5 s true = 10 := by show nxt s (m4 s true) 2 = _; rw [e4]; exact nxt_eq a3
    rw [e2, e4, numV_eq a1, numV_eq a2, numV_eq a3] at a6
    rw [e5] at a7
    exact ⟨a1, (isB_iff.1 a4).2, a2, (isB_iff.1 a5).2, a3, by omega, a6⟩
  · rintro ⟨a1, b1, a2, b2, a3, hz, a6⟩
    have e1 : m1 s = 4 := nxt_eq a1
    have a4 : isB s 4 45 = true := isB_iff.2 ⟨by omega, b1⟩
    have e2 : m2 s true = 5 := by show btN s (m1 s) true = _; rw [e1]; exact btN_t a4
    have e3 : m3 s true = 7 := by show nxt s (m2 s true) 2 = _; rw [e2]; exact nxt_eq a2
    have a5 : isB s 7 45 = true := isB_iff.2 ⟨by omega, b2⟩
    have e4 : m4 s true = 8 := by show btN s (m3 s true) true = _; rw [e3]; exact btN_t a5
    have e5 : m5 s true = 10 := by show nxt s (m4 s true) 2 = _; rw [e4]; exact nxt_eq a3
    simp only [okP, rdM, Bool.and_eq_true, decide_eq_true_eq]
    rw [e1, e2, e3, e4, e5, btV_t, btV_t, numV_eq a1, numV_eq a2, numV_eq a3]
    exact ⟨⟨⟨⟨⟨⟨a1, a2⟩, a3⟩, a4⟩, a5⟩, a6⟩, by omega⟩

theorem dP0 (s : ByteArray) (hk : allD s 0 4 = true ∧ bt s 4 = 45 ∧ allD s 5 2 = true ∧ bt s 7 = 45 ∧ allD s 8 2 = true ∧ s.size = 10 ∧ dval (numL s 0 4) (numL s 5 2) (numL s 8 2) = true) : dP s 0 = ⟨numL s 0 4, numL s 5 2, numL s 8 2, true⟩ := by
  have h0 := (okP0 s).2 hk
  obtain ⟨a1, b1, a2, b2, a3, hz, a6⟩ := hk
  have e1 : m1 s = 4 := nxt_eq a1
  have a4 : isB s 4 45 = true := isB_iff.2 ⟨by omega, b1⟩
  have e2 : m2 s true = 5 := by show btN s (m1 s) true = _; rw [e1]; exact btN_t a4
  have e3 : m3 s true = 7 := by show nxt s (m2 s true) 2 = _; rw [e2]; exact nxt_eq a2
  have a5 : isB s 7 45 = true := isB_iff.2 ⟨by omega, b2⟩
  have e4 : m4 s true = 8 := by show btN s (m3 s true) true = _; rw [e3]; exact btN_t a5
  have h1 : (rdM s true).ok = true := by
    simp only [okP, Bool.and_eq_true] at h0
    exact h0.1
  show rdM s true = _
  have h2 : (rdM s true) = ⟨numV s 0 4, numV s (m2 s true) 2, numV s (m4 s true) 2, (rdM s true).ok⟩ := rfl
  rw [h2, h1, e2, e4, numV_eq a1, numV_eq a2, numV_eq a3]

theorem tx0 (s : ByteArray) (a1 : allD s 0 4 = true) (a2 : allD s 5 2 = true) (a3 : allD s 8 2 = true) : strOfNums (dtL (numL s 0 4) (numL s 5 2) (numL s 8 2) 0 true) = s ↔ s.size = 10 ∧ bt s 4 = 45 ∧ bt s 7 = 45 := by
  have e : dtL (numL s 0 4) (numL s 5 2) (numL s 8 2) 0 true = [bt s 0, bt s 1, bt s 2, bt s 3, 45, bt s 5, bt s 6, 45, bt s 8, bt s 9] := by rw [dtL, if_pos rfl, digL_num a1, digL_num a2, digL_num a3]; rfl
  rw [e, eq_comm, eq_strOf (l := [bt s 0, bt s 1, bt s 2, bt s 3, 45, bt s 5, bt s 6, 45, bt s 8, bt s 9]) (by
    intro x hx
    simp only [List.mem_cons, List.not_mem_nil, or_false] at hx
    rcases hx with rfl | rfl | rfl | rfl | rfl | rfl | rfl | rfl | rfl | rfl <;> first | exact bt_in _ _ | omega)]
  constructor
  · rintro ⟨h1, h2⟩
    exact ⟨h1, h2 4 (by simp), h2 7 (by simp)⟩
  · rintro ⟨h1, c4, c7⟩
    refine ⟨h1, fun i hi => ?_⟩
    have hi' : i < 10 := hi
    rcases (by omega : i = 0 ∨ i = 1 ∨ i = 2 ∨ i = 3 ∨ i = 4 ∨ i = 5 ∨ i = 6 ∨ i = 7 ∨ i = 8 ∨ i = 9) with rfl | rfl | rfl | rfl | rfl | rfl | rfl | rfl | rfl | rfl <;> first | rfl | assumption

theorem okS0 (s : ByteArray) : okS s 0 = true ↔ allD s 0 4 = true ∧ bt s 4 = 45 ∧ allD s 5 2 = true ∧ bt s 7 = 45 ∧ allD s 8 2 = true ∧ s.size = 10 ∧ dval (numL s 0 4) (numL s 5 2) (numL s 8 2) = true := by
  have e0 : okS s 0 = ((l4M s 5 8).ok && dval (l4M s 5 8).y (l4M s 5 8).m (l4M s 5 8).d && decide (strOfNums (dtL (l4M s 5 8).y (l4M s 5 8).m (l4M s 5 8).d 0 true) = s)) := rfl
  by_cases a1 : allD s 0 4 = true
  · have e1 : l4M s 5 8 = ⟨numV s 0 4, numV s 5 2, numV s 8 2, allD s 5 2 && allD s 8 2⟩ := if_pos a1
    rw [e0, e1]
    by_cases a2 : allD s 5 2 = true
    · by_cases a3 : allD s 8 2 = true
      · have ht := tx0 s a1 a2 a3
        rw [numV_eq a1, numV_eq a2, numV_eq a3]
        simp only [Bool.and_eq_true, decide_eq_true_eq, ht, a1, a2, a3]
        simp only [true_and, and_true, and_assoc, and_comm, and_left_comm]
      · simp [a3]
    · simp [a2]
  · have e1 : l4M s 5 8 = DR.no := if_neg a1
    rw [e0, e1]
    simp [DR.no, a1]

theorem dS0 (s : ByteArray) (hk : allD s 0 4 = true ∧ bt s 4 = 45 ∧ allD s 5 2 = true ∧ bt s 7 = 45 ∧ allD s 8 2 = true ∧ s.size = 10 ∧ dval (numL s 0 4) (numL s 5 2) (numL s 8 2) = true) : dS s 0 = ⟨numL s 0 4, numL s 5 2, numL s 8 2, true⟩ := by
  obtain ⟨a1, b1, a2, b2, a3, hz, a6⟩ := hk
  have e1 : l4M s 5 8 = ⟨numV s 0 4, numV s 5 2, numV s 8 2, allD s 5 2 && allD s 8 2⟩ := if_pos a1
  show l4M s 5 8 = _
  rw [e1, numV_eq a1, numV_eq a2, numV_eq a3, a2, a3]
  rfl

theorem okP1 (s : ByteArray) : okP s 1 = true ↔ allD s 0 4 = true ∧ allD s 4 2 = true ∧ allD s 6 2 = true ∧ s.size = 8 ∧ dval (numL s 0 4) (numL s 4 2) (numL s 6 2) = true := by
  constructor
  · intro hk
    simp only [okP, rdM, Bool.and_eq_true, decide_eq_true_eq] at hk
    obtain ⟨⟨⟨⟨⟨⟨a1, a2⟩, a3⟩, a4⟩, a5⟩, a6⟩, a7⟩ := hk
    have e1 : m1 s = 4 := nxt_eq a1
    rw [e1, btV_f] at a4
    have e2 : m2 s false = 4 := by show btN s (m1 s) false = _; rw [e1]; exact btN_f s 4
    rw [e2] at a2
    have e3 : m3 s false = 6 := by show nxt s (m2 s false) 2 = _; rw [e2]; exact nxt_eq a2
    rw [e3, btV_f] at a5
    have e4 : m4 s false = 6 := by show btN s (m3 s false) false = _; rw [e3]; exact btN_f s 6
    rw [e4] at a3
    have e5 : m5 s false = 8 := by show nxt s (m4 s false) 2 = _; rw [e4]; exact nxt_eq a3
    rw [e2, e4, numV_eq a1, numV_eq a2, numV_eq a3] at a6
    rw [e5] at a7
    exact ⟨a1, a2, a3, by omega, a6⟩
  · rintro ⟨a1, a2, a3, hz, a6⟩
    have e1 : m1 s = 4 := nxt_eq a1
    have e2 : m2 s false = 4 := by show btN s (m1 s) false = _; rw [e1]; exact btN_f s 4
    have e3 : m3 s false = 6 := by show nxt s (m2 s false) 2 = _; rw [e2]; exact nxt_eq a2
    have e4 : m4 s false = 6 := by show btN s (m3 s false) false = _; rw [e3]; exact btN_f s 6
    have e5 : m5 s false = 8 := by show nxt s (m4 s false) 2 = _; rw [e4]; exact nxt_eq a3
    simp only [okP, rdM, Bool.and_eq_true, decide_eq_true_eq]
    rw [e1, e2, e3, e4, e5, btV_f, btV_f, numV_eq a1, numV_eq a2, numV_eq a3]
    exact ⟨⟨⟨⟨⟨⟨a1, a2⟩, a3⟩, rfl⟩, rfl⟩, a6⟩, by omega⟩

theorem dP1 (s : ByteArray) (hk : allD s 0 4 = true ∧ allD s 4 2 = true ∧ allD s 6 2 = true ∧ s.size = 8 ∧ dval (numL s 0 4) (numL s 4 2) (numL s 6 2) = true) : dP s 1 = ⟨numL s 0 4, numL s 4 2, numL s 6 2, true⟩ := by
  have h0 := (okP1 s).2 hk
  obtain ⟨a1, a2, a3, hz, a6⟩ := hk
  have e1 : m1 s = 4 := nxt_eq a1
  have e2 : m2 s false = 4 := by show btN s (m1 s) false = _; rw [e1]; exact btN_f s 4
  have e3 : m3 s false = 6 := by show nxt s (m2 s false) 2 = _; rw [e2]; exact nxt_eq a2
  have e4 : m4 s false = 6 := by show btN s (m3 s false) false = _; rw [e3]; exact btN_f s 6
  have h1 : (rdM s false).ok = true := by
    simp only [okP, Bool.and_eq_true] at h0
    exact h0.1
  show rdM s false = _
  have h2 : (rdM s false) = ⟨numV s 0 4, numV s (m2 s false) 2, numV s (m4 s false) 2, (rdM s false).ok⟩ := rfl
  rw [h2, h1, e2, e4, numV_eq a1, numV_eq a2, numV_eq a3]

theorem tx1 (s : ByteArray) (a1 : allD s 0 4 = true) (a2 : allD s 4 2 = true) (a3 : allD s 6 2 = true) : strOfNums (dtL (numL s 0 4) (numL s 4 2) (numL s 6 2) 0 false) = s ↔ s.size = 8 := by
  have e : dtL (numL s 0 4) (numL s 4 2) (numL s 6 2) 0 false = [bt s 0, bt s 1, bt s 2, bt s 3, bt s 4, bt s 5, bt s 6, bt s 7] := by rw [dtL, if_pos rfl, digL_num a1, digL_num a2, digL_num a3]; rfl
  rw [e, eq_comm, eq_strOf (l := [bt s 0, bt s 1, bt s 2, bt s 3, bt s 4, bt s 5, bt s 6, bt s 7]) (by
    intro x hx
    simp only [List.mem_cons, List.not_mem_nil, or_false] at hx
    rcases hx with rfl | rfl | rfl | rfl | rfl | rfl | rfl | rfl <;> first | exact bt_in _ _ | omega)]
  constructor
  · rintro ⟨h1, h2⟩
    exact h1
  · intro h1
    refine ⟨h1, fun i hi => ?_⟩
    have hi' : i < 8 := hi
    rcases (by omega : i = 0 ∨ i = 1 ∨ i = 2 ∨ i = 3 ∨ i = 4 ∨ i = 5 ∨ i = 6 ∨ i = 7) with rfl | rfl | rfl | rfl | rfl | rfl | rfl | rfl <;> first | rfl | assumption

theorem okS1 (s : ByteArray) : okS s 1 = true ↔ allD s 0 4 = true ∧ allD s 4 2 = true ∧ allD s 6 2 = true ∧ s.size = 8 ∧ dval (numL s 0 4) (numL s 4 2) (numL s 6 2) = true := by
  have e0 : okS s 1 = ((l4M s 4 6).ok && dval (l4M s 4 6).y (l4M s 4 6).m (l4M s 4 6).d && decide (strOfNums (dtL (l4M s 4 6).y (l4M s 4 6).m (l4M s 4 6).d 0 false) = s)) := rfl
  by_cases a1 : allD s 0 4 = true
  · have e1 : l4M s 4 6 = ⟨numV s 0 4, numV s 4 2, numV s 6 2, allD s 4 2 && allD s 6 2⟩ := if_pos a1
    rw [e0, e1]
    by_cases a2 : allD s 4 2 = true
    · by_cases a3 : allD s 6 2 = true
      · have ht := tx1 s a1 a2 a3
        rw [numV_eq a1, numV_eq a2, numV_eq a3]
        simp only [Bool.and_eq_true, decide_eq_true_eq, ht, a1, a2, a3]
        simp only [true_and, and_true, and_assoc, and_comm, and_left_comm]
      · simp [a3]
    · simp [a2]
  · have e1 : l4M s 4 6 = DR.no := if_neg a1
    rw [e0, e1]
    simp [DR.no, a1]

theorem dS1 (s : ByteArray) (hk : allD s 0 4 = true ∧ allD s 4 2 = true ∧ allD s 6 2 = true ∧ s.size = 8 ∧ dval (numL s 0 4) (numL s 4 2) (numL s 6 2) = true) : dS s 1 = ⟨numL s 0 4, numL s 4 2, numL s 6 2, true⟩ := by
  obtain ⟨a1, a2, a3, hz, a6⟩ := hk
  have e1 : l4M s 4 6 = ⟨numV s 0 4, numV s 4 2, numV s 6 2, allD s 4 2 && allD s 6 2⟩ := if_pos a1
  show l4M s 4 6 = _
  rw [e1, numV_eq a1, numV_eq a2, numV_eq a3, a2, a3]
  rfl

theorem okP2 (s : ByteArray) : okP s 2 = true ↔ allD s 0 4 = true ∧ bt s 4 = 45 ∧ bt s 5 = 87 ∧ allD s 6 2 = true ∧ bt s 8 = 45 ∧ allD s 9 1 = true ∧ s.size = 10 ∧ (wkD (numL s 0 4) (numL s 6 2) (numL s 9 1)).ok = true := by
  constructor
  · intro hk
    simp only [okP, rdK, Bool.and_eq_true, decide_eq_true_eq] at hk
    obtain ⟨⟨⟨⟨⟨⟨a1, a2⟩, a3⟩, a4, a4'⟩, a5⟩, a6⟩, a7⟩ := hk
    have e1 : m1 s = 4 := nxt_eq a1
    rw [e1, btV_t] at a4
    have e2 : m2 s true = 5 := by show btN s (m1 s) true = _; rw [e1]; exact btN_t a4
    rw [e2] at a4'
    have e2' : k2 s true = 6 := by
      have hh : btV s (m1 s) true = true := by rw [e1, btV_t]; exact a4
      have : k2 s true = takN s (m2 s true) 87 := if_pos hh
      rw [this, e2]; exact takN_eq a4'
    rw [e2'] at a2
    have e3 : k3 s true = 8 := by show nxt s (k2 s true) 2 = _; rw [e2']; exact nxt_eq a2
    rw [e3, btV_t] at a5
    have e4 : k4 s true = 9 := by show btN s (k3 s true) true = _; rw [e3]; exact btN_t a5
    rw [e4] at a3
    have e5 : k5 s true = 10 := by show nxt s (k4 s true) 1 = _; rw [e4]; exact nxt_eq a3
    have e6 : rdKd s true = wkD (numL s 0 4) (numL s 6 2) (numL s 9 1) := by show wkD (numV s 0 4) (numV s (k2 s true) 2) (numV s (k4 s true) 1) = _; rw [e2', e4, numV_eq a1, numV_eq a2, numV_eq a3]
    rw [e6] at a6
    rw [e5] at a7
    exact ⟨a1, (isB_iff.1 a4).2, (isB_iff.1 a4').2, a2, (isB_iff.1 a5).2, a3, by omega, a6⟩
  · rintro ⟨a1, b1, c1, a2, b2, a3, hz, a6⟩
    have e1 : m1 s = 4 := nxt_eq a1
    have a4 : isB s 4 45 = true := isB_iff.2 ⟨by omega, b1⟩
    have e2 : m2 s true = 5 := by show btN s (m1 s) true = _; rw [e1]; exact btN_t a4
    have a4' : isB s 5 87 = true := isB_iff.2 ⟨by omega, c1⟩
    have e2' : k2 s true = 6 := by
      have hh : btV s (m1 s) true = true := by rw [e1, btV_t]; exact a4
      have : k2 s true = takN s (m2 s true) 87 := if_pos hh
      rw [this, e2]; exact takN_eq a4'
    have e3 : k3 s true = 8 := by show nxt s (k2 s true) 2 = _; rw [e2']; exact nxt_eq a2
    have a5 : isB s 8 45 = true := isB_iff.2 ⟨by omega, b2⟩
    have e4 : k4 s true = 9 := by show btN s (k3 s true) true = _; rw [e3]; exact btN_t a5
    have e5 : k5 s true = 10 := by show nxt s (k4 s true) 1 = _; rw [e4]; exact nxt_eq a3
    have e6 : rdKd s true = wkD (numL s 0 4) (numL s 6 2) (numL s 9 1) := by show wkD (numV s 0 4) (numV s (k2 s true) 2) (numV s (k4 s true) 1) = _; rw [e2', e4, numV_eq a1, numV_eq a2, numV_eq a3]
    simp only [okP, rdK, Bool.and_eq_true, decide_eq_true_eq]
    rw [e1, e2, e2', e3, e4, e5, e6, btV_t, btV_t]
    exact ⟨⟨⟨⟨⟨⟨a1, a2⟩, a3⟩, a4, a4'⟩, a5⟩, a6⟩, by omega⟩

theorem dP2 (s : ByteArray) (hk : allD s 0 4 = true ∧ bt s 4 = 45 ∧ bt s 5 = 87 ∧ allD s 6 2 = true ∧ bt s 8 = 45 ∧ allD s 9 1 = true ∧ s.size = 10 ∧ (wkD (numL s 0 4) (numL s 6 2) (numL s 9 1)).ok = true) : dP s 2 = wkD (numL s 0 4) (numL s 6 2) (numL s 9 1) := by
  have h0 := (okP2 s).2 hk
  obtain ⟨a1, b1, c1, a2, b2, a3, hz, a6⟩ := hk
  have e1 : m1 s = 4 := nxt_eq a1
  have a4 : isB s 4 45 = true := isB_iff.2 ⟨by omega, b1⟩
  have e2 : m2 s true = 5 := by show btN s (m1 s) true = _; rw [e1]; exact btN_t a4
  have a4' : isB s 5 87 = true := isB_iff.2 ⟨by omega, c1⟩
  have e2' : k2 s true = 6 := by
    have hh : btV s (m1 s) true = true := by rw [e1, btV_t]; exact a4
    have : k2 s true = takN s (m2 s true) 87 := if_pos hh
    rw [this, e2]; exact takN_eq a4'
  have e3 : k3 s true = 8 := by show nxt s (k2 s true) 2 = _; rw [e2']; exact nxt_eq a2
  have a5 : isB s 8 45 = true := isB_iff.2 ⟨by omega, b2⟩
  have e4 : k4 s true = 9 := by show btN s (k3 s true) true = _; rw [e3]; exact btN_t a5
  have e5 : k5 s true = 10 := by show nxt s (k4 s true) 1 = _; rw [e4]; exact nxt_eq a3
  have e6 : rdKd s true = wkD (numL s 0 4) (numL s 6 2) (numL s 9 1) := by show wkD (numV s 0 4) (numV s (k2 s true) 2) (numV s (k4 s true) 1) = _; rw [e2', e4, numV_eq a1, numV_eq a2, numV_eq a3]
  have h1 : (rdK s true).ok = true := by
    simp only [okP, Bool.and_eq_true] at h0
    exact h0.1
  show rdK s true = _
  have h2 : (rdK s true) = ⟨(rdKd s true).y, (rdKd s true).m, (rdKd s true).d, (rdK s true).ok⟩ := rfl
  rw [h2, h1, e6, ← a6]

theorem tx2 (s : ByteArray) (a1 : allD s 0 4 = true) (a2 : allD s 6 2 = true) (a3 : allD s 9 1 = true) (a6 : (wkD (numL s 0 4) (numL s 6 2) (numL s 9 1)).ok = true) : strOfNums (dtL (wkD (numL s 0 4) (numL s 6 2) (numL s 9 1)).y (wkD (numL s 0 4) (numL s 6 2) (numL s 9 1)).m (wkD (numL s 0 4) (numL s 6 2) (numL s 9 1)).d 1 true) = s ↔ s.size = 10 ∧ bt s 4 = 45 ∧ bt s 5 = 87 ∧ bt s 8 = 45 := by
  obtain ⟨w1, w2, w3, w4⟩ := wk_back a6
  have e : dtL (wkD (numL s 0 4) (numL s 6 2) (numL s 9 1)).y (wkD (numL s 0 4) (numL s 6 2) (numL s 9 1)).m (wkD (numL s 0 4) (numL s 6 2) (numL s 9 1)).d 1 true = [bt s 0, bt s 1, bt s 2, bt s 3, 45, 87, bt s 6, bt s 7, 45, bt s 9] := by rw [dtL, if_neg (by decide), if_pos rfl, w2, w3, w4, digL_num a1, digL_num a2, digL_num a3]; rfl
  rw [e, eq_comm, eq_strOf (l := [bt s 0, bt s 1, bt s 2, bt s 3, 45, 87, bt s 6, bt s 7, 45, bt s 9]) (by
    intro x hx
    simp only [List.mem_cons, List.not_mem_nil, or_false] at hx
    rcases hx with rfl | rfl | rfl | rfl | rfl | rfl | rfl | rfl | rfl | rfl <;> first | exact bt_in _ _ | omega)]
  constructor
  · rintro ⟨h1, h2⟩
    exact ⟨h1, h2 4 (by simp), h2 5 (by simp), h2 8 (by simp)⟩
  · rintro ⟨h1, c4, c5, c8⟩
    refine ⟨h1, fun i hi => ?_⟩
    have hi' : i < 10 := hi
    rcases (by omega : i = 0 ∨ i = 1 ∨ i = 2 ∨ i = 3 ∨ i = 4 ∨ i = 5 ∨ i = 6 ∨ i = 7 ∨ i = 8 ∨ i = 9) with rfl | rfl | rfl | rfl | rfl | rfl | rfl | rfl | rfl | rfl <;> first | rfl | assumption

theorem okS2 (s : ByteArray) : okS s 2 = true ↔ allD s 0 4 = true ∧ bt s 4 = 45 ∧ bt s 5 = 87 ∧ allD s 6 2 = true ∧ bt s 8 = 45 ∧ allD s 9 1 = true ∧ s.size = 10 ∧ (wkD (numL s 0 4) (numL s 6 2) (numL s 9 1)).ok = true := by
  have e0 : okS s 2 = ((l4K s 6 9).ok && dval (l4K s 6 9).y (l4K s 6 9).m (l4K s 6 9).d && decide (strOfNums (dtL (l4K s 6 9).y (l4K s 6 9).m (l4K s 6 9).d 1 true) = s)) := rfl
  by_cases ha : (allD s 0 4 && allD s 6 2 && allD s 9 1) = true
  · have e1 : (l4K s 6 9) = wkD (numV s 0 4) (numV s 6 2) (numV s 9 1) := if_pos ha
    simp only [Bool.and_eq_true] at ha
    obtain ⟨⟨a1, a2⟩, a3⟩ := ha
    rw [e0, e1, numV_eq a1, numV_eq a2, numV_eq a3]
    by_cases a6 : (wkD (numL s 0 4) (numL s 6 2) (numL s 9 1)).ok = true
    · have ht := tx2 s a1 a2 a3 a6
      have hv := (wk_back a6).1
      simp only [Bool.and_eq_true, decide_eq_true_eq, ht, a1, a2, a3, a6, hv]
      simp only [true_and, and_true, and_assoc, and_comm, and_left_comm]
    · simp [a6]
  · have e1 : (l4K s 6 9) = DR.no := if_neg ha
    rw [e0, e1]
    simp only [DR.no, Bool.false_and, Bool.and_false, Bool.false_eq_true, false_iff]
    intro hk
    refine ha ?_
    simp only [Bool.and_eq_true]
    simp only [hk, and_self]

theorem dS2 (s : ByteArray) (hk : allD s 0 4 = true ∧ bt s 4 = 45 ∧ bt s 5 = 87 ∧ allD s 6 2 = true ∧ bt s 8 = 45 ∧ allD s 9 1 = true ∧ s.size = 10 ∧ (wkD (numL s 0 4) (numL s 6 2) (numL s 9 1)).ok = true) : dS s 2 = (wkD (numL s 0 4) (numL s 6 2) (numL s 9 1)) := by
  have ha : (allD s 0 4 && allD s 6 2 && allD s 9 1) = true := by
    simp only [Bool.and_eq_true]
    simp only [hk, and_self]
  have e1 : (l4K s 6 9) = wkD (numV s 0 4) (numV s 6 2) (numV s 9 1) := if_pos ha
  simp only [Bool.and_eq_true] at ha
  obtain ⟨⟨a1, a2⟩, a3⟩ := ha
  show (l4K s 6 9) = _
  rw [e1, numV_eq a1, numV_eq a2, numV_eq a3]

theorem okP3 (s : ByteArray) : okP s 3 = true ↔ allD s 0 4 = true ∧ bt s 4 = 87 ∧ allD s 5 2 = true ∧ allD s 7 1 = true ∧ s.size = 8 ∧ (wkD (numL s 0 4) (numL s 5 2) (numL s 7 1)).ok = true := by
  constructor
  · intro hk
    simp only [okP, rdK, Bool.and_eq_true, decide_eq_true_eq] at hk
    obtain ⟨⟨⟨⟨⟨⟨a1, a2⟩, a3⟩, a4, a4'⟩, a5⟩, a6⟩, a7⟩ := hk
    have e1 : m1 s = 4 := nxt_eq a1
    rw [e1, btV_f] at a4
    have e2 : m2 s false = 4 := by show btN s (m1 s) false = _; rw [e1]; exact btN_f s 4
    rw [e2] at a4'
    have e2' : k2 s false = 5 := by
      have hh : btV s (m1 s) false = true := by rw [e1, btV_f]
      have : k2 s false = takN s (m2 s false) 87 := if_pos hh
      rw [this, e2]; exact takN_eq a4'
    rw [e2'] at a2
    have e3 : k3 s false = 7 := by show nxt s (k2 s false) 2 = _; rw [e2']; exact nxt_eq a2
    rw [e3, btV_f] at a5
    have e4 : k4 s false = 7 := by show btN s (k3 s false) false = _; rw [e3]; exact btN_f s 7
    rw [e4] at a3
    have e5 : k5 s false = 8 := by show nxt s (k4 s false) 1 = _; rw [e4]; exact nxt_eq a3
    have e6 : rdKd s false = wkD (numL s 0 4) (numL s 5 2) (numL s 7 1) := by show wkD (numV s 0 4) (numV s (k2 s false) 2) (numV s (k4 s false) 1) = _; rw [e2', e4, numV_eq a1, numV_eq a2, numV_eq a3]
    rw [e6] at a6
    rw [e5] at a7
    exact ⟨a1, (isB_iff.1 a4').2, a2, a3, by omega, a6⟩
  · rintro ⟨a1, c1, a2, a3, hz, a6⟩
    have e1 : m1 s = 4 := nxt_eq a1
    have e2 : m2 s false = 4 := by show btN s (m1 s) false = _; rw [e1]; exact btN_f s 4
    have a4' : isB s 4 87 = true := isB_iff.2 ⟨by omega, c1⟩
    have e2' : k2 s false = 5 := by
      have hh : btV s (m1 s) false = true := by rw [e1, btV_f]
      have : k2 s false = takN s (m2 s false) 87 := if_pos hh
      rw [this, e2]; exact takN_eq a4'
    have e3 : k3 s false = 7 := by show nxt s (k2 s false) 2 = _; rw [e2']; exact nxt_eq a2
    have e4 : k4 s false = 7 := by show btN s (k3 s false) false = _; rw [e3]; exact btN_f s 7
    have e5 : k5 s false = 8 := by show nxt s (k4 s false) 1 = _; rw [e4]; exact nxt_eq a3
    have e6 : rdKd s false = wkD (numL s 0 4) (numL s 5 2) (numL s 7 1) := by show wkD (numV s 0 4) (numV s (k2 s false) 2) (numV s (k4 s false) 1) = _; rw [e2', e4, numV_eq a1, numV_eq a2, numV_eq a3]
    simp only [okP, rdK, Bool.and_eq_true, decide_eq_true_eq]
    rw [e1, e2, e2', e3, e4, e5, e6, btV_f, btV_f]
    exact ⟨⟨⟨⟨⟨⟨a1, a2⟩, a3⟩, rfl, a4'⟩, rfl⟩, a6⟩, by omega⟩

theorem dP3 (s : ByteArray) (hk : allD s 0 4 = true ∧ bt s 4 = 87 ∧ allD s 5 2 = true ∧ allD s 7 1 = true ∧ s.size = 8 ∧ (wkD (numL s 0 4) (numL s 5 2) (numL s 7 1)).ok = true) : dP s 3 = wkD (numL s 0 4) (numL s 5 2) (numL s 7 1) := by
  have h0 := (okP3 s).2 hk
  obtain ⟨a1, c1, a2, a3, hz, a6⟩ := hk
  have e1 : m1 s = 4 := nxt_eq a1
  have e2 : m2 s false = 4 := by show btN s (m1 s) false = _; rw [e1]; exact btN_f s 4
  have a4' : isB s 4 87 = true := isB_iff.2 ⟨by omega, c1⟩
  have e2' : k2 s false = 5 := by
    have hh : btV s (m1 s) false = true := by rw [e1, btV_f]
    have : k2 s false = takN s (m2 s false) 87 := if_pos hh
    rw [this, e2]; exact takN_eq a4'
  have e3 : k3 s false = 7 := by show nxt s (k2 s false) 2 = _; rw [e2']; exact nxt_eq a2
  have e4 : k4 s false = 7 := by show btN s (k3 s false) false = _; rw [e3]; exact btN_f s 7
  have e5 : k5 s false = 8 := by show nxt s (k4 s false) 1 = _; rw [e4]; exact nxt_eq a3
  have e6 : rdKd s false = wkD (numL s 0 4) (numL s 5 2) (numL s 7 1) := by show wkD (numV s 0 4) (numV s (k2 s false) 2) (numV s (k4 s false) 1) = _; rw [e2', e4, numV_eq a1, numV_eq a2, numV_eq a3]
  have h1 : (rdK s false).ok = true := by
    simp only [okP, Bool.and_eq_true] at h0
    exact h0.1
  show rdK s false = _
  have h2 : (rdK s false) = ⟨(rdKd s false).y, (rdKd s false).m, (rdKd s false).d, (rdK s false).ok⟩ := rfl
  rw [h2, h1, e6, ← a6]

theorem tx3 (s : ByteArray) (a1 : allD s 0 4 = true) (a2 : allD s 5 2 = true) (a3 : allD s 7 1 = true) (a6 : (wkD (numL s 0 4) (numL s 5 2) (numL s 7 1)).ok = true) : strOfNums (dtL (wkD (numL s 0 4) (numL s 5 2) (numL s 7 1)).y (wkD (numL s 0 4) (numL s 5 2) (numL s 7 1)).m (wkD (numL s 0 4) (numL s 5 2) (numL s 7 1)).d 1 false) = s ↔ s.size = 8 ∧ bt s 4 = 87 := by
  obtain ⟨w1, w2, w3, w4⟩ := wk_back a6
  have e : dtL (wkD (numL s 0 4) (numL s 5 2) (numL s 7 1)).y (wkD (numL s 0 4) (numL s 5 2) (numL s 7 1)).m (wkD (numL s 0 4) (numL s 5 2) (numL s 7 1)).d 1 false = [bt s 0, bt s 1, bt s 2, bt s 3, 87, bt s 5, bt s 6, bt s 7] := by rw [dtL, if_neg (by decide), if_pos rfl, w2, w3, w4, digL_num a1, digL_num a2, digL_num a3]; rfl
  rw [e, eq_comm, eq_strOf (l := [bt s 0, bt s 1, bt s 2, bt s 3, 87, bt s 5, bt s 6, bt s 7]) (by
    intro x hx
    simp only [List.mem_cons, List.not_mem_nil, or_false] at hx
    rcases hx with rfl | rfl | rfl | rfl | rfl | rfl | rfl | rfl <;> first | exact bt_in _ _ | omega)]
  constructor
  · rintro ⟨h1, h2⟩
    exact ⟨h1, h2 4 (by simp)⟩
  · rintro ⟨h1, c4⟩
    refine ⟨h1, fun i hi => ?_⟩
    have hi' : i < 8 := hi
    rcases (by omega : i = 0 ∨ i = 1 ∨ i = 2 ∨ i = 3 ∨ i = 4 ∨ i = 5 ∨ i = 6 ∨ i = 7) with rfl | rfl | rfl | rfl | rfl | rfl | rfl | rfl <;> first | rfl | assumption

theorem okS3 (s : ByteArray) : okS s 3 = true ↔ allD s 0 4 = true ∧ bt s 4 = 87 ∧ allD s 5 2 = true ∧ allD s 7 1 = true ∧ s.size = 8 ∧ (wkD (numL s 0 4) (numL s 5 2) (numL s 7 1)).ok = true := by
  have e0 : okS s 3 = ((l4K s 5 7).ok && dval (l4K s 5 7).y (l4K s 5 7).m (l4K s 5 7).d && decide (strOfNums (dtL (l4K s 5 7).y (l4K s 5 7).m (l4K s 5 7).d 1 false) = s)) := rfl
  by_cases ha : (allD s 0 4 && allD s 5 2 && allD s 7 1) = true
  · have e1 : (l4K s 5 7) = wkD (numV s 0 4) (numV s 5 2) (numV s 7 1) := if_pos ha
    simp only [Bool.and_eq_true] at ha
    obtain ⟨⟨a1, a2⟩, a3⟩ := ha
    rw [e0, e1, numV_eq a1, numV_eq a2, numV_eq a3]
    by_cases a6 : (wkD (numL s 0 4) (numL s 5 2) (numL s 7 1)).ok = true
    · have ht := tx3 s a1 a2 a3 a6
      have hv := (wk_back a6).1
      simp only [Bool.and_eq_true, decide_eq_true_eq, ht, a1, a2, a3, a6, hv]
      simp only [true_and, and_true, and_assoc, and_comm, and_left_comm]
    · simp [a6]
  · have e1 : (l4K s 5 7) = DR.no := if_neg ha
    rw [e0, e1]
    simp only [DR.no, Bool.false_and, Bool.and_false, Bool.false_eq_true, false_iff]
    intro hk
    refine ha ?_
    simp only [Bool.and_eq_true]
    simp only [hk, and_self]

theorem dS3 (s : ByteArray) (hk : allD s 0 4 = true ∧ bt s 4 = 87 ∧ allD s 5 2 = true ∧ allD s 7 1 = true ∧ s.size = 8 ∧ (wkD (numL s 0 4) (numL s 5 2) (numL s 7 1)).ok = true) : dS s 3 = (wkD (numL s 0 4) (numL s 5 2) (numL s 7 1)) := by
  have ha : (allD s 0 4 && allD s 5 2 && allD s 7 1) = true := by
    simp only [Bool.and_eq_true]
    simp only [hk, and_self]
  have e1 : (l4K s 5 7) = wkD (numV s 0 4) (numV s 5 2) (numV s 7 1) := if_pos ha
  simp only [Bool.and_eq_true] at ha
  obtain ⟨⟨a1, a2⟩, a3⟩ := ha
  show (l4K s 5 7) = _
  rw [e1, numV_eq a1, numV_eq a2, numV_eq a3]

theorem okP4 (s : ByteArray) : okP s 4 = true ↔ allD s 0 4 = true ∧ bt s 4 = 45 ∧ allD s 5 3 = true ∧ s.size = 8 ∧ (orD (numL s 0 4) (numL s 5 3)).ok = true := by
  constructor
  · intro hk
    simp only [okP, rdO, Bool.and_eq_true, decide_eq_true_eq] at hk
    obtain ⟨⟨⟨⟨a1, a2⟩, a4⟩, a6⟩, a7⟩ := hk
    have e1 : m1 s = 4 := nxt_eq a1
    rw [e1, btV_t] at a4
    have e2 : m2 s true = 5 := by show btN s (m1 s) true = _; rw [e1]; exact btN_t a4
    rw [e2] at a2
    have e3 : o3 s true = 8 := by show nxt s (m2 s true) 3 = _; rw [e2]; exact nxt_eq a2
    have e6 : rdOd s true = orD (numL s 0 4) (numL s 5 3) := by show orD (numV s 0 4) (numV s (m2 s true) 3) = _; rw [e2, numV_eq a1, numV_eq a2]
    rw [e6] at a6
    rw [e3] at a7
    exact ⟨a1, (isB_iff.1 a4).2, a2, by omega, a6⟩
  · rintro ⟨a1, b1, a2, hz, a6⟩
    have e1 : m1 s = 4 := nxt_eq a1
    have a4 : isB s 4 45 = true := isB_iff.2 ⟨by omega, b1⟩
    have e2 : m2 s true = 5 := by show btN s (m1 s) true = _; rw [e1]; exact btN_t a4
    have e3 : o3 s true = 8 := by show nxt s (m2 s true) 3 = _; rw [e2]; exact nxt_eq a2
    have e6 : rdOd s true = orD (numL s 0 4) (numL s 5 3) := by show orD (numV s 0 4) (numV s (m2 s true) 3) = _; rw [e2, numV_eq a1, numV_eq a2]
    simp only [okP, rdO, Bool.and_eq_true, decide_eq_true_eq]
    rw [e1, e2, e3, e6, btV_t]
    exact ⟨⟨⟨⟨a1, a2⟩, a4⟩, a6⟩, by omega⟩

theorem dP4 (s : ByteArray) (hk : allD s 0 4 = true ∧ bt s 4 = 45 ∧ allD s 5 3 = true ∧ s.size = 8 ∧ (orD (numL s 0 4) (numL s 5 3)).ok = true) : dP s 4 = orD (numL s 0 4) (numL s 5 3) := by
  have h0 := (okP4 s).2 hk
  obtain ⟨a1, b1, a2, hz, a6⟩ := hk
  have e1 : m1 s = 4 := nxt_eq a1
  have a4 : isB s 4 45 = true := isB_iff.2 ⟨by omega, b1⟩
  have e2 : m2 s true = 5 := by show btN s (m1 s) true = _; rw [e1]; exact btN_t a4
  have e3 : o3 s true = 8 := by show nxt s (m2 s true) 3 = _; rw [e2]; exact nxt_eq a2
  have e6 : rdOd s true = orD (numL s 0 4) (numL s 5 3) := by show orD (numV s 0 4) (numV s (m2 s true) 3) = _; rw [e2, numV_eq a1, numV_eq a2]
  have h1 : (rdO s true).ok = true := by
    simp only [okP, Bool.and_eq_true] at h0
    exact h0.1
  show rdO s true = _
  have h2 : (rdO s true) = ⟨(rdOd s true).y, (rdOd s true).m, (rdOd s true).d, (rdO s true).ok⟩ := rfl
  rw [h2, h1, e6, ← a6]

theorem tx4 (s : ByteArray) (a1 : allD s 0 4 = true) (a2 : allD s 5 3 = true) (a6 : (orD (numL s 0 4) (numL s 5 3)).ok = true) : strOfNums (dtL (orD (numL s 0 4) (numL s 5 3)).y (orD (numL s 0 4) (numL s 5 3)).m (orD (numL s 0 4) (numL s 5 3)).d 2 true) = s ↔ s.size = 8 ∧ bt s 4 = 45 := by
  obtain ⟨w1, w2, w3⟩ := or_back a6
  have e : dtL (orD (numL s 0 4) (numL s 5 3)).y (orD (numL s 0 4) (numL s 5 3)).m (orD (numL s 0 4) (numL s 5 3)).d 2 true = [bt s 0, bt s 1, bt s 2, bt s 3, 45, bt s 5, bt s 6, bt s 7] := by rw [dtL, if_neg (by decide), if_neg (by decide), w3, w2, digL_num a1, digL_num a2]; rfl
  rw [e, eq_comm, eq_strOf (l := [bt s 0, bt s 1, bt s 2, bt s 3, 45, bt s 5, bt s 6, bt s 7]) (by
    intro x hx
    simp only [List.mem_cons, List.not_mem_nil, or_false] at hx
    rcases hx with rfl | rfl | rfl | rfl | rfl | rfl | rfl | rfl <;> first | exact bt_in _ _ | omega)]
  constructor
  · rintro ⟨h1, h2⟩
    exact ⟨h1, h2 4 (by simp)⟩
  · rintro ⟨h1, c4⟩
    refine ⟨h1, fun i hi => ?_⟩
    have hi' : i < 8 := hi
    rcases (by omega : i = 0 ∨ i = 1 ∨ i = 2 ∨ i = 3 ∨ i = 4 ∨ i = 5 ∨ i = 6 ∨ i = 7) with rfl | rfl | rfl | rfl | rfl | rfl | rfl | rfl <;> first | rfl | assumption

theorem okS4 (s : ByteArray) : okS s 4 = true ↔ allD s 0 4 = true ∧ bt s 4 = 45 ∧ allD s 5 3 = true ∧ s.size = 8 ∧ (orD (numL s 0 4) (numL s 5 3)).ok = true := by
  have e0 : okS s 4 = ((l4O s 5).ok && dval (l4O s 5).y (l4O s 5).m (l4O s 5).d && decide (strOfNums (dtL (l4O s 5).y (l4O s 5).m (l4O s 5).d 2 true) = s)) := rfl
  by_cases ha : (allD s 0 4 && allD s 5 3) = true
  · have e1 : (l4O s 5) = orD (numV s 0 4) (numV s 5 3) := if_pos ha
    simp only [Bool.and_eq_true] at ha
    obtain ⟨a1, a2⟩ := ha
    rw [e0, e1, numV_eq a1, numV_eq a2]
    by_cases a6 : (orD (numL s 0 4) (numL s 5 3)).ok = true
    · have ht := tx4 s a1 a2 a6
      have hv := (or_back a6).1
      simp only [Bool.and_eq_true, decide_eq_true_eq, ht, a1, a2, a6, hv]
      simp only [true_and, and_true, and_assoc, and_comm, and_left_comm]
    · simp [a6]
  · have e1 : (l4O s 5) = DR.no := if_neg ha
    rw [e0, e1]
    simp only [DR.no, Bool.false_and, Bool.and_false, Bool.false_eq_true, false_iff]
    intro hk
    refine ha ?_
    simp only [Bool.and_eq_true]
    simp only [hk, and_self]

theorem dS4 (s : ByteArray) (hk : allD s 0 4 = true ∧ bt s 4 = 45 ∧ allD s 5 3 = true ∧ s.size = 8 ∧ (orD (numL s 0 4) (numL s 5 3)).ok = true) : dS s 4 = (orD (numL s 0 4) (numL s 5 3)) := by
  have ha : (allD s 0 4 && allD s 5 3) = true := by
    simp only [Bool.and_eq_true]
    simp only [hk, and_self]
  have e1 : (l4O s 5) = orD (numV s 0 4) (numV s 5 3) := if_pos ha
  simp only [Bool.and_eq_true] at ha
  obtain ⟨a1, a2⟩ := ha
  show (l4O s 5) = _
  rw [e1, numV_eq a1, numV_eq a2]

theorem okP5 (s : ByteArray) : okP s 5 = true ↔ allD s 0 4 = true ∧ allD s 4 3 = true ∧ s.size = 7 ∧ (orD (numL s 0 4) (numL s 4 3)).ok = true := by
  constructor
  · intro hk
    simp only [okP, rdO, Bool.and_eq_true, decide_eq_true_eq] at hk
    obtain ⟨⟨⟨⟨a1, a2⟩, a4⟩, a6⟩, a7⟩ := hk
    have e1 : m1 s = 4 := nxt_eq a1
    rw [e1, btV_f] at a4
    have e2 : m2 s false = 4 := by show btN s (m1 s) false = _; rw [e1]; exact btN_f s 4
    rw [e2] at a2
    have e3 : o3 s false = 7 := by show nxt s (m2 s false) 3 = _; rw [e2]; exact nxt_eq a2
    have e6 : rdOd s false = orD (numL s 0 4) (numL s 4 3) := by show orD (numV s 0 4) (numV s (m2 s false) 3) = _; rw [e2, numV_eq a1, numV_eq a2]
    rw [e6] at a6
    rw [e3] at a7
    exact ⟨a1, a2, by omega, a6⟩
  · rintro ⟨a1, a2, hz, a6⟩
    have e1 : m1 s = 4 := nxt_eq a1
    have e2 : m2 s false = 4 := by show btN s (m1 s) false = _; rw [e1]; exact btN_f s 4
    have e3 : o3 s false = 7 := by show nxt s (m2 s false) 3 = _; rw [e2]; exact nxt_eq a2
    have e6 : rdOd s false = orD (numL s 0 4) (numL s 4 3) := by show orD (numV s 0 4) (numV s (m2 s false) 3) = _; rw [e2, numV_eq a1, numV_eq a2]
    simp only [okP, rdO, Bool.and_eq_true, decide_eq_true_eq]
    rw [e1, e2, e3, e6, btV_f]
    exact ⟨⟨⟨⟨a1, a2⟩, rfl⟩, a6⟩, by omega⟩

theorem dP5 (s : ByteArray) (hk : allD s 0 4 = true ∧ allD s 4 3 = true ∧ s.size = 7 ∧ (orD (numL s 0 4) (numL s 4 3)).ok = true) : dP s 5 = orD (numL s 0 4) (numL s 4 3) := by
  have h0 := (okP5 s).2 hk
  obtain ⟨a1, a2, hz, a6⟩ := hk
  have e1 : m1 s = 4 := nxt_eq a1
  have e2 : m2 s false = 4 := by show btN s (m1 s) false = _; rw [e1]; exact btN_f s 4
  have e3 : o3 s false = 7 := by show nxt s (m2 s false) 3 = _; rw [e2]; exact nxt_eq a2
  have e6 : rdOd s false = orD (numL s 0 4) (numL s 4 3) := by show orD (numV s 0 4) (numV s (m2 s false) 3) = _; rw [e2, numV_eq a1, numV_eq a2]
  have h1 : (rdO s false).ok = true := by
    simp only [okP, Bool.and_eq_true] at h0
    exact h0.1
  show rdO s false = _
  have h2 : (rdO s false) = ⟨(rdOd s false).y, (rdOd s false).m, (rdOd s false).d, (rdO s false).ok⟩ := rfl
  rw [h2, h1, e6, ← a6]

theorem tx5 (s : ByteArray) (a1 : allD s 0 4 = true) (a2 : allD s 4 3 = true) (a6 : (orD (numL s 0 4) (numL s 4 3)).ok = true) : strOfNums (dtL (orD (numL s 0 4) (numL s 4 3)).y (orD (numL s 0 4) (numL s 4 3)).m (orD (numL s 0 4) (numL s 4 3)).d 2 false) = s ↔ s.size = 7 := by
  obtain ⟨w1, w2, w3⟩ := or_back a6
  have e : dtL (orD (numL s 0 4) (numL s 4 3)).y (orD (numL s 0 4) (numL s 4 3)).m (orD (numL s 0 4) (numL s 4 3)).d 2 false = [bt s 0, bt s 1, bt s 2, bt s 3, bt s 4, bt s 5, bt s 6] := by rw [dtL, if_neg (by decide), if_neg (by decide), w3, w2, digL_num a1, digL_num a2]; rfl
  rw [e, eq_comm, eq_strOf (l := [bt s 0, bt s 1, bt s 2, bt s 3, bt s 4, bt s 5, bt s 6]) (by
    intro x hx
    simp only [List.mem_cons, List.not_mem_nil, or_false] at hx
    rcases hx with rfl | rfl | rfl | rfl | rfl | rfl | rfl <;> first | exact bt_in _ _ | omega)]
  constructor
  · rintro ⟨h1, h2⟩
    exact h1
  · intro h1
    refine ⟨h1, fun i hi => ?_⟩
    have hi' : i < 7 := hi
    rcases (by omega : i = 0 ∨ i = 1 ∨ i = 2 ∨ i = 3 ∨ i = 4 ∨ i = 5 ∨ i = 6) with rfl | rfl | rfl | rfl | rfl | rfl | rfl <;> first | rfl | assumption

theorem okS5 (s : ByteArray) : okS s 5 = true ↔ allD s 0 4 = true ∧ allD s 4 3 = true ∧ s.size = 7 ∧ (orD (numL s 0 4) (numL s 4 3)).ok = true := by
  have e0 : okS s 5 = ((l4O s 4).ok && dval (l4O s 4).y (l4O s 4).m (l4O s 4).d && decide (strOfNums (dtL (l4O s 4).y (l4O s 4).m (l4O s 4).d 2 false) = s)) := rfl
  by_cases ha : (allD s 0 4 && allD s 4 3) = true
  · have e1 : (l4O s 4) = orD (numV s 0 4) (numV s 4 3) := if_pos ha
    simp only [Bool.and_eq_true] at ha
    obtain ⟨a1, a2⟩ := ha
    rw [e0, e1, numV_eq a1, numV_eq a2]
    by_cases a6 : (orD (numL s 0 4) (numL s 4 3)).ok = true
    · have ht := tx5 s a1 a2 a6
      have hv := (or_back a6).1
      simp only [Bool.and_eq_true, decide_eq_true_eq, ht, a1, a2, a6, hv]
      simp only [true_and, and_true, and_assoc, and_comm, and_left_comm]
    · simp [a6]
  · have e1 : (l4O s 4) = DR.no := if_neg ha
    rw [e0, e1]
    simp only [DR.no, Bool.false_and, Bool.and_false, Bool.false_eq_true, false_iff]
    intro hk
    refine ha ?_
    simp only [Bool.and_eq_true]
    simp only [hk, and_self]

theorem dS5 (s : ByteArray) (hk : allD s 0 4 = true ∧ allD s 4 3 = true ∧ s.size = 7 ∧ (orD (numL s 0 4) (numL s 4 3)).ok = true) : dS s 5 = (orD (numL s 0 4) (numL s 4 3)) := by
  have ha : (allD s 0 4 && allD s 4 3) = true := by
    simp only [Bool.and_eq_true]
    simp only [hk, and_self]
  have e1 : (l4O s 4) = orD (numV s 0 4) (numV s 4 3) := if_pos ha
  simp only [Bool.and_eq_true] at ha
  obtain ⟨a1, a2⟩ := ha
  show (l4O s 4) = _
  rw [e1, numV_eq a1, numV_eq a2]

theorem ok_eq (s : ByteArray) {k : Nat} (hk : k < 6) : okP s k = okS s k := by
  rw [Bool.eq_iff_iff]
  rcases (by omega : k = 0 ∨ k = 1 ∨ k = 2 ∨ k = 3 ∨ k = 4 ∨ k = 5) with rfl | rfl | rfl | rfl | rfl | rfl
  · rw [okP0, okS0]
  · rw [okP1, okS1]
  · rw [okP2, okS2]
  · rw [okP3, okS3]
  · rw [okP4, okS4]
  · rw [okP5, okS5]

theorem d_eq (s : ByteArray) {k : Nat} (hk : k < 6) (h : okP s k = true) : dP s k = dS s k := by
  rcases (by omega : k = 0 ∨ k = 1 ∨ k = 2 ∨ k = 3 ∨ k = 4 ∨ k = 5) with rfl | rfl | rfl | rfl | rfl | rfl
  · have := (okP0 s).1 h
    rw [dP0 s this, dS0 s this]
  · have := (okP1 s).1 h
    rw [dP1 s this, dS1 s this]
  · have := (okP2 s).1 h
    rw [dP2 s this, dS2 s this]
  · have := (okP3 s).1 h
    rw [dP3 s this, dS3 s this]
  · have := (okP4 s).1 h
    rw [dP4 s this, dS4 s this]
  · have := (okP5 s).1 h
    rw [dP5 s this, dS5 s this]

/-- **The program and the reference read the same dates of texts.** -/
theorem df_eq (s : ByteArray) : dfV (okP s) (dP s) = dfV (okS s) (dS s) := by
  rcases dfV_or (okP s) (dP s) with ⟨k, h1, h2, h3, h4⟩ | ⟨h1, h2⟩
  · rw [h4, d_eq s h1 h3]
    exact (dfV_at h1 (fun j hj => by rw [← ok_eq s (by omega)]; exact h2 j hj) (by rw [← ok_eq s h1]; exact h3)).symm
  · rw [h2]
    exact (dfV_no fun j hj => by rw [← ok_eq s hj]; exact h1 j hj).symm

end D
end Go.Proofs.YtboglbdhibcacaaGreatDoor

namespace Go.Proofs.YtboglbdhibcacaaGreatDoor
set_option linter.unusedVariables false
set_option linter.unusedSimpArgs false
namespace D
open Go.RowKit
open Go.PlainAid (bt bt_nonneg bt_le bt_end)

theorem dig1 (n : Int) : digL n 1 = [48 + n % 10] := by simp [digL]

theorem dig2 (n : Int) : digL n 2 = [48 + n / 10 % 10, 48 + n % 10] := by simp [digL]

theorem dig3 (n : Int) : digL n 3 = [48 + n / 100 % 10, 48 + n / 10 % 10, 48 + n % 10] := by
  have e : n / 10 / 10 = n / 100 := by omega
  simp [digL, e]

theorem dig4 (n : Int) : digL n 4 = [48 + n / 1000 % 10, 48 + n / 100 % 10, 48 + n / 10 % 10, 48 + n % 10] := by
  have e : n / 10 / 10 = n / 100 := by omega
  have e2 : n / 100 / 10 = n / 1000 := by omega
  simp [digL, e, e2]

theorem rd2 {s : ByteArray} {p : Nat} {n : Int} (h : 0 ≤ n ∧ n ≤ 99) (b0 : bt s p = 48 + n / 10 % 10) (b1 : bt s (p + 1) = 48 + n % 10) : allD s p 2 = true ∧ numL s p 2 = n := by
  refine ⟨allD_iff.2 fun i hi => isD_iff.2 ?_, ?_⟩
  · rcases (by omega : i = 0 ∨ i = 1) with rfl | rfl
    · rw [Nat.add_zero, b0]
      omega
    · rw [b1]
      omega
  · simp only [numL, Nat.add_zero, b0, b1]
    omega

theorem allD_at {s : ByteArray} {p m : Nat} (h : allD s p m = true) (i : Nat) (hi : i < m) : 48 ≤ bt s (p + i) ∧ bt s (p + i) ≤ 57 := isD_iff.1 (allD_iff.1 h i hi)

theorem bool_no {b : Bool} (h : b = true → False) : b = false := by
  cases b with
  | false => rfl
  | true => exact (h rfl).elim

end D
end Go.Proofs.YtboglbdhibcacaaGreatDoor

namespace Go.Proofs.YtboglbdhibcacaaGreatDoor
set_option linter.unusedVariables false
set_option linter.unusedSimpArgs false
namespace D
open Go.RowKit
open Go.PlainAid (bt bt_nonneg bt_le bt_end)

/-- A time, or none. -/
structure CR where
  h : Int
  i : Int
  s : Int
  k : Int
  ok : Bool

def CR.no : CR := ⟨0, 0, 0, 0, false⟩

/-- One place more, if there are colons. -/
def b2 (h : Bool) : Nat := if h = true then 1 else 0

def coV (s : ByteArray) (p : Nat) (h : Bool) : Bool := !h || isB s p 58

/-- Is there a fraction from a place on, or nothing? -/
def frOk (s : ByteArray) (q : Nat) : Bool := decide (s.size = q) || (isB s q 46 && decide (q + 2 ≤ s.size ∧ s.size ≤ q + 4) && allD s (q + 1) (s.size - q - 1))
def frK (s : ByteArray) (q : Nat) : Int := if s.size = q then 0 else numL s (q + 1) (s.size - q - 1) * p10 (3 - (s.size - q - 1))

def clkOk (s : ByteArray) (h : Bool) : Bool :=
  allD s 0 2 && coV s 2 h && allD s (2 + b2 h) 2 && coV s (4 + b2 h) h && allD s (4 + 2 * b2 h) 2 && frOk s (6 + 2 * b2 h) && cval (numL s 0 2) (numL s (2 + b2 h) 2) (numL s (4 + 2 * b2 h) 2) (frK s (6 + 2 * b2 h))

/-- A fraction, as bytes. -/
def frL (k : Int) : List Int := if k = 0 then [] else if k % 100 = 0 then 46 :: digL (k / 100) 1 else if k % 10 = 0 then 46 :: digL (k / 10) 2 else 46 :: digL k 3

/-- A time, as bytes. -/
def clL (h i s k : Int) : List Int := digL h 2 ++ [58] ++ digL i 2 ++ [58] ++ digL s 2 ++ frL k

/-- An offset, as bytes. -/
def ofP (o n : Int) : List Int := (if o < 0 then 45 else 43) :: (digL (n / 60) 2 ++ [58] ++ digL (n % 60) 2)
def ofL (o : Int) : List Int := if o = 0 then [90] else ofP o (if o < 0 then -o else o)

/-- Is a text an offset? -/
def ofOk (s : ByteArray) : Bool :=
  decide (s.size = 1 ∧ (bt s 0 = 90 ∨ bt s 0 = 122)) ||
  (decide (s.size = 6) && isB s 3 58 && allD s 1 2 && allD s 4 2 && decide (numL s 1 2 ≤ 23 ∧ numL s 4 2 ≤ 59 ∧ (bt s 0 = 43 ∨ (bt s 0 = 45 ∧ 0 < 60 * numL s 1 2 + numL s 4 2))))

def ofN (s : ByteArray) : Int := if s.size = 1 then 0 else if bt s 0 = 45 then -(60 * numL s 1 2 + numL s 4 2) else 60 * numL s 1 2 + numL s 4 2

/-- The offset of a text. -/
def ofV (s : ByteArray) : Value := if ofOk s = true then .tuple #[.int .i64 (ofN s), .bool true] else .tuple #[.int .i64 0, .bool false]

theorem fr_run {s : ByteArray} {q j : Nat} (hd : isB s q 46 = true) (hj1 : ∀ i, i < j → isD s (q + 1 + i) = true) (hj2 : isD s (q + 1 + j) = false) : frOk s q = decide (1 ≤ j ∧ j ≤ 3 ∧ q + 1 + j = s.size) := by
  have hb := isB_iff.1 hd
  have hle : q + 1 + j ≤ s.size := by
    by_cases h0 : j = 0
    · omega
    · have := isD_lt (hj1 (j - 1) (by omega))
      omega
  rw [Bool.eq_iff_iff]
  simp only [frOk, hd, Bool.true_and, Bool.or_eq_true, Bool.and_eq_true, decide_eq_true_eq]
  constructor
  · rintro (h | ⟨h1, h2⟩)
    · omega
    · have hm : s.size - q - 1 ≤ j := Nat.le_of_not_lt fun hlt => by
        have := allD_iff.1 h2 j hlt
        rw [hj2] at this
        cases this
      omega
  · rintro ⟨h1, h2, h3⟩
    refine .inr ⟨by omega, ?_⟩
    rw [show s.size - q - 1 = j by omega]
    exact allD_iff.2 hj1

theorem frK_run {s : ByteArray} {q j : Nat} (h1 : 1 ≤ j) (h3 : q + 1 + j = s.size) : frK s q = numL s (q + 1) j * p10 (3 - j) := by
  unfold frK
  rw [if_neg (by omega), show s.size - q - 1 = j by omega]

theorem ofN_bd {s : ByteArray} (h : ofOk s = true) : inR (ofN s) (-1439) 1439 = true := by
  simp only [ofOk, Bool.or_eq_true, Bool.and_eq_true, decide_eq_true_eq] at h
  refine inR_true.2 ?_
  rcases h with ⟨h1, _⟩ | ⟨⟨⟨⟨h1, h2⟩, h3⟩, h4⟩, h5, h6, h7⟩
  · simp [ofN, h1]
  · have h8 := numL_bd h3
    have h9 := numL_bd h4
    unfold ofN
    rw [if_neg (by omega)]
    split <;> omega

theorem frL_len (k : Int) : (frL k).length ≤ 4 := by
  unfold frL
  repeat' split
  all_goals simp [digL_length]

theorem clL_len (h i s k : Int) : (clL h i s k).length = 8 + (frL k).length := by simp [clL, digL_length]; omega

theorem ofL_len (o : Int) : (ofL o).length = 1 ∨ (ofL o).length = 6 := by
  unfold ofL
  split
  · exact .inl rfl
  · right
    simp [ofP, digL_length]

theorem str43 : (⟨#[43]⟩ : ByteArray) = strOfNums [43] := rfl

theorem str45 : (⟨#[45]⟩ : ByteArray) = strOfNums [45] := rfl

theorem str46 : (⟨#[46]⟩ : ByteArray) = strOfNums [46] := rfl

theorem str58 : (⟨#[58]⟩ : ByteArray) = strOfNums [58] := rfl

theorem str84 : (⟨#[84]⟩ : ByteArray) = strOfNums [84] := rfl

/-- The text of an offset, or none. -/
def ofT (o : Int) : ByteArray := if inR o (-1439) 1439 = true then strOfNums (ofL o) else ⟨#[]⟩

theorem one_byte {s : ByteArray} {c : Int} (hc : 0 ≤ c ∧ c ≤ 255) (hz : s.size = 1) (h : bt s 0 = c) : s = strOfNums [c] := by
  rw [eq_strOf (by intro x hx; simp only [List.mem_singleton] at hx; omega)]
  refine ⟨hz, fun i hi => ?_⟩
  have hi' : i < 1 := hi
  obtain rfl : i = 0 := by omega
  exact h

end D
end Go.Proofs.YtboglbdhibcacaaGreatDoor

namespace Go.Proofs.YtboglbdhibcacaaGreatDoor
set_option linter.unusedVariables false
set_option linter.unusedSimpArgs false
namespace D
open Go.RowKit
open Go.PlainAid (bt bt_nonneg bt_le bt_end)

theorem bt_extract {s : ByteArray} {a b i : Nat} (hb : b ≤ s.size) (hi : a + i < b) : bt (s.extract a b) i = bt s (a + i) := by
  have h1 : i < (s.extract a b).size := by rw [ByteArray.size_extract]; omega
  have h2 : a + i < s.size := by omega
  unfold bt
  rw [dif_pos h1, dif_pos h2, ByteArray.getElem_extract]

theorem size_ext {s : ByteArray} {a b : Nat} (hb : b ≤ s.size) : (s.extract a b).size = b - a := by
  rw [ByteArray.size_extract]
  omega

theorem isD_congr {s t : ByteArray} {p q : Nat} (h : bt s p = bt t q) : isD s p = isD t q := by simp [isD, h]

theorem allD_ext {s t : ByteArray} {p q : Nat} : ∀ {m : Nat}, (∀ i, i < m → bt s (p + i) = bt t (q + i)) → allD s p m = allD t q m ∧ numL s p m = numL t q m
  | 0, _ => ⟨rfl, rfl⟩
  | m + 1, h => by
    have ih := allD_ext (m := m) fun i hi => h i (by omega)
    have e := h m (by omega)
    exact ⟨by simp only [allD, ih.1, isD_congr e], by simp only [numL, ih.2, e]⟩

/-- Begins a text with a date by its month and hyphens? -/
def dOk (s : ByteArray) : Bool := allD s 0 4 && isB s 4 45 && allD s 5 2 && isB s 7 45 && allD s 8 2 && dval (numL s 0 4) (numL s 5 2) (numL s 8 2)

theorem dOk_iff {s : ByteArray} : dOk s = true ↔ allD s 0 4 = true ∧ isB s 4 45 = true ∧ allD s 5 2 = true ∧ isB s 7 45 = true ∧ allD s 8 2 = true ∧ dval (numL s 0 4) (numL s 5 2) (numL s 8 2) = true := by
  simp only [dOk, Bool.and_eq_true, and_assoc]

theorem dOk_size {s : ByteArray} (h : dOk s = true) : 10 ≤ s.size := by
  have := isD_lt (allD_iff.1 (dOk_iff.1 h).2.2.2.2.1 1 (by omega))
  omega

theorem rdM_ok {s : ByteArray} (h : dOk s = true) : rdM s true = ⟨numL s 0 4, numL s 5 2, numL s 8 2, true⟩ ∧ m5 s true = 10 := by
  obtain ⟨a1, b1, a2, b2, a3, hv⟩ := dOk_iff.1 h
  have e1 : m1 s = 4 := nxt_eq a1
  have e2 : m2 s true = 5 := by show btN s (m1 s) true = _; rw [e1]; exact btN_t b1
  have e3 : m3 s true = 7 := by show nxt s (m2 s true) 2 = _; rw [e2]; exact nxt_eq a2
  have e4 : m4 s true = 8 := by show btN s (m3 s true) true = _; rw [e3]; exact btN_t b2
  have e5 : m5 s true = 10 := by show nxt s (m4 s true) 2 = _; rw [e4]; exact nxt_eq a3
  refine ⟨?_, e5⟩
  simp only [rdM]
  rw [e1, e2, e3, e4, btV_t, btV_t, numV_eq a1, numV_eq a2, numV_eq a3, a1, a2, a3, b1, b2, hv]
  rfl

theorem rdM_no {s : ByteArray} (h : dOk s = false) : (rdM s true).ok = false := by
  refine bool_no fun hk => ?_
  simp only [rdM, Bool.and_eq_true] at hk
  obtain ⟨⟨⟨⟨⟨a1, a2⟩, a3⟩, a4⟩, a5⟩, a6⟩ := hk
  have e1 : m1 s = 4 := nxt_eq a1
  rw [e1, btV_t] at a4
  have e2 : m2 s true = 5 := by show btN s (m1 s) true = _; rw [e1]; exact btN_t a4
  rw [e2] at a2
  have e3 : m3 s true = 7 := by show nxt s (m2 s true) 2 = _; rw [e2]; exact nxt_eq a2
  rw [e3, btV_t] at a5
  have e4 : m4 s true = 8 := by show btN s (m3 s true) true = _; rw [e3]; exact btN_t a5
  rw [e4] at a3
  rw [e2, e4, numV_eq a1, numV_eq a2, numV_eq a3] at a6
  rw [dOk_iff.2 ⟨a1, a4, a2, a5, a3, a6⟩] at h
  cases h

theorem dOk_ten {s : ByteArray} (hz : 10 ≤ s.size) : okS (s.extract 0 10) 0 = dOk s ∧ numL (s.extract 0 10) 0 4 = numL s 0 4 ∧ numL (s.extract 0 10) 5 2 = numL s 5 2 ∧ numL (s.extract 0 10) 8 2 = numL s 8 2 := by
  have hb : ∀ i, i < 10 → bt (s.extract 0 10) i = bt s i := fun i hi => by
    have := bt_extract (s := s) (a := 0) (b := 10) (i := i) hz (by omega)
    rwa [Nat.zero_add] at this
  have hsz : (s.extract 0 10).size = 10 := size_ext hz
  have e1 := allD_ext (s := s.extract 0 10) (t := s) (p := 0) (q := 0) (m := 4) fun i hi => by rw [Nat.zero_add]; exact hb i (by omega)
  have e2 := allD_ext (s := s.extract 0 10) (t := s) (p := 5) (q := 5) (m := 2) fun i hi => hb (5 + i) (by omega)
  have e3 := allD_ext (s := s.extract 0 10) (t := s) (p := 8) (q := 8) (m := 2) fun i hi => hb (8 + i) (by omega)
  refine ⟨?_, e1.2, e2.2, e3.2⟩
  rw [Bool.eq_iff_iff, okS0, dOk_iff, e1.1, e2.1, e3.1, e1.2, e2.2, e3.2, hb 4 (by omega), hb 7 (by omega), hsz, isB_iff, isB_iff]
  constructor
  · rintro ⟨h1, h2, h3, h4, h5, -, h6⟩
    exact ⟨h1, ⟨by omega, h2⟩, h3, ⟨by omega, h4⟩, h5, h6⟩
  · rintro ⟨h1, h2, h3, h4, h5, h6⟩
    exact ⟨h1, h2.2, h3, h4.2, h5, rfl, h6⟩

/-- Does a date's end stand at its place? -/
def sepOk (s : ByteArray) : Bool := decide (10 < s.size ∧ (bt s 10 = 84 ∨ bt s 10 = 116 ∨ bt s 10 = 32))

/-- Is a text a stamp whose offset begins at a place? -/
def stAt (s : ByteArray) (a : Nat) : Bool := dOk s && sepOk s && decide (11 ≤ a ∧ a ≤ s.size) && clkOk (s.extract 11 a) true && ofOk (s.extract a s.size)

/-- The stamp of a text whose offset begins at a place, or none. -/
def stR (s : ByteArray) (a : Nat) : SR :=
  if stAt s a = true then ⟨numL s 0 4, numL s 5 2, numL s 8 2, numL (s.extract 11 a) 0 2, numL (s.extract 11 a) 3 2, numL (s.extract 11 a) 6 2, frK (s.extract 11 a) 8, ofN (s.extract a s.size), true⟩ else SR.no

/-- Where the program looks for the offset. -/
def cutP (s : ByteArray) : Nat := if 12 ≤ s.size ∧ (bt s (s.size - 1) = 90 ∨ bt s (s.size - 1) = 122) then s.size - 1 else s.size - 6

/-- A byte with which an offset begins. -/
def isO (s : ByteArray) (i : Nat) : Prop := bt s i = 90 ∨ bt s i = 122 ∨ bt s i = 43 ∨ bt s i = 45

theorem stAt_iff {s : ByteArray} {a : Nat} : stAt s a = true ↔ dOk s = true ∧ sepOk s = true ∧ (11 ≤ a ∧ a ≤ s.size) ∧ clkOk (s.extract 11 a) true = true ∧ ofOk (s.extract a s.size) = true := by
  simp only [stAt, Bool.and_eq_true, decide_eq_true_eq, and_assoc]

theorem ofOk_cases {s : ByteArray} (h : ofOk s = true) : (s.size = 1 ∧ (bt s 0 = 90 ∨ bt s 0 = 122)) ∨ (s.size = 6 ∧ (48 ≤ bt s 5 ∧ bt s 5 ≤ 57) ∧ (bt s 0 = 43 ∨ bt s 0 = 45)) := by
  simp only [ofOk, Bool.or_eq_true, Bool.and_eq_true, decide_eq_true_eq] at h
  rcases h with h1 | ⟨⟨⟨⟨h1, h2⟩, h3⟩, h4⟩, h5, h6, h7⟩
  · exact .inl h1
  · have := allD_at h4 1 (by omega)
    exact .inr ⟨h1, by simpa using this, by rcases h7 with h | h; exact .inl h; exact .inr h.1⟩

theorem stAt_cut {s : ByteArray} {a : Nat} (h : stAt s a = true) : a = cutP s := by
  obtain ⟨h1, h2, h3, h4, h5⟩ := stAt_iff.1 h
  have hz : (s.extract a s.size).size = s.size - a := size_ext (Nat.le_refl _)
  unfold cutP
  rcases ofOk_cases h5 with ⟨g1, g2⟩ | ⟨g1, g2, g3⟩
  · have e := bt_extract (s := s) (a := a) (b := s.size) (i := 0) (Nat.le_refl _) (by omega)
    rw [e, show a + 0 = s.size - 1 by omega] at g2
    rw [if_pos ⟨by omega, g2⟩]
    omega
  · have e := bt_extract (s := s) (a := a) (b := s.size) (i := 5) (Nat.le_refl _) (by omega)
    rw [e, show a + 5 = s.size - 1 by omega] at g2
    rw [if_neg (by omega)]
    omega

theorem clk_chars {c : ByteArray} (h : clkOk c true = true) : ∀ i, i < c.size → (48 ≤ bt c i ∧ bt c i ≤ 57) ∨ bt c i = 58 ∨ bt c i = 46 := by
  simp only [clkOk, coV, b2, frOk, Bool.not_true, Bool.false_or, Bool.and_eq_true, Bool.or_eq_true, decide_eq_true_eq, if_true] at h
  obtain ⟨⟨⟨⟨⟨⟨a1, c1⟩, a2⟩, c2⟩, a3⟩, hf⟩, -⟩ := h
  intro i hi
  have k1 := allD_at a1
  have k2 := allD_at a2
  have k3 := allD_at a3
  have d1 := (isB_iff.1 c1).2
  have d2 := (isB_iff.1 c2).2
  by_cases h8 : i < 8
  · rcases (by omega : i = 0 ∨ i = 1 ∨ i = 2 ∨ i = 3 ∨ i = 4 ∨ i = 5 ∨ i = 6 ∨ i = 7) with rfl | rfl | rfl | rfl | rfl | rfl | rfl | rfl
    · exact .inl (k1 0 (by omega))
    · exact .inl (k1 1 (by omega))
    · exact .inr (.inl d1)
    · exact .inl (k2 0 (by omega))
    · exact .inl (k2 1 (by omega))
    · exact .inr (.inl d2)
    · exact .inl (k3 0 (by omega))
    · exact .inl (k3 1 (by omega))
  · rcases hf with hf | ⟨⟨hd, hr⟩, ha⟩
    · omega
    · by_cases e8 : i = 8
      · subst e8
        exact .inr (.inr (isB_iff.1 hd).2)
      · have := allD_at ha (i - 9) (by omega)
        have e : 6 + 2 * 1 + 1 + (i - 9) = i := by omega
        rw [e] at this
        exact .inl this

theorem stAt_first {s : ByteArray} {a : Nat} (h : stAt s a = true) : (∀ i, 11 ≤ i → i < a → ¬ isO s i) ∧ isO s a ∧ a < s.size := by
  obtain ⟨h1, h2, h3, h4, h5⟩ := stAt_iff.1 h
  have hz : (s.extract a s.size).size = s.size - a := size_ext (Nat.le_refl _)
  have hc : (s.extract 11 a).size = a - 11 := size_ext h3.2
  refine ⟨fun i hi1 hi2 hO => ?_, ?_⟩
  · have := clk_chars h4 (i - 11) (by omega)
    rw [bt_extract h3.2 (by omega), show 11 + (i - 11) = i by omega] at this
    unfold isO at hO
    omega
  · have hlt : a < s.size := by
      rcases ofOk_cases h5 with ⟨g1, _⟩ | ⟨g1, _⟩ <;> omega
    refine ⟨?_, hlt⟩
    have e := bt_extract (s := s) (a := a) (b := s.size) (i := 0) (Nat.le_refl _) (by omega)
    rw [Nat.add_zero] at e
    unfold isO
    rcases ofOk_cases h5 with ⟨_, g2⟩ | ⟨_, _, g3⟩
    · rw [e] at g2
      omega
    · rw [e] at g3
      omega

/-- Where the reference looks, it finds what the program finds. -/
theorem stR_found {s : ByteArray} {a : Nat} (h1 : 11 ≤ a) (h2 : ∀ i, 11 ≤ i → i < a → ¬ isO s i) (h3 : isO s a) : stR s a = stR s (cutP s) := by
  by_cases hc : stAt s (cutP s) = true
  · have g := stAt_first hc
    have hge := (stAt_iff.1 hc).2.2.1
    have e : a = cutP s := by
      rcases (by omega : a < cutP s ∨ a = cutP s ∨ cutP s < a) with h | h | h
      · exact (g.1 a h1 h h3).elim
      · exact h
      · exact (h2 _ hge.1 h g.2.1).elim
    rw [e]
  · have hn : ¬ stAt s a = true := fun h => hc (by rw [← stAt_cut h]; exact h)
    rw [stR, stR, if_neg hn, if_neg hc]

theorem stR_none {s : ByteArray} (h : ∀ i, 11 ≤ i → i < s.size → ¬ isO s i) : stR s (cutP s) = SR.no := by
  rw [stR, if_neg]
  intro hc
  have g := stAt_first hc
  exact h _ (stAt_iff.1 hc).2.2.1.1 g.2.2 g.2.1

/-- What a text that is a stamp gives. -/
theorem stR_ok {s : ByteArray} {a : Nat} (h : (stR s a).ok = true) : stAt s a = true ∧ sval (stR s a).y (stR s a).m (stR s a).d (stR s a).h (stR s a).i (stR s a).s (stR s a).k (stR s a).o = true := by
  by_cases hc : stAt s a = true
  · refine ⟨hc, ?_⟩
    obtain ⟨h1, h2, h3, h4, h5⟩ := stAt_iff.1 hc
    have hv := (dOk_iff.1 h1).2.2.2.2.2
    have ho := ofN_bd h5
    have hk : cval (numL (s.extract 11 a) 0 2) (numL (s.extract 11 a) 3 2) (numL (s.extract 11 a) 6 2) (frK (s.extract 11 a) 8) = true := by
      simp only [clkOk, Bool.and_eq_true] at h4
      exact h4.2
    rw [stR, if_pos hc]
    simp only [sval, hv, hk, ho, Bool.and_self]
  · rw [stR, if_neg hc] at h
    cases h

end D
end Go.Proofs.YtboglbdhibcacaaGreatDoor

namespace Go.Proofs.YtboglbdhibcacaaGreatDoor
set_option linter.unusedVariables false
set_option linter.unusedSimpArgs false
namespace D
open Go.RowKit
open Go.PlainAid (bt bt_nonneg bt_le bt_end)

/-- What is left of three digits without zeros at their end. -/
def frT (k : Int) : List Int := if k % 100 = 0 then digL (k / 100) 1 else if k % 10 = 0 then digL (k / 10) 2 else digL k 3

theorem frL_T {k : Int} (h : ¬ k = 0) : frL k = 46 :: frT k := by
  unfold frL frT
  rw [if_neg h]
  split
  · rfl
  · split <;> rfl

theorem dig3_bt (k : Int) : bt (strOfNums (digL k 3)) 0 = 48 + k / 100 % 10 ∧ bt (strOfNums (digL k 3)) 1 = 48 + k / 10 % 10 ∧ bt (strOfNums (digL k 3)) 2 = 48 + k % 10 ∧ (strOfNums (digL k 3)).size = 3 := by
  have hl : ∀ x ∈ digL k 3, 0 ≤ x ∧ x ≤ 255 := fun x hx => by have := digL_in _ _ x hx; omega
  have e := dig3 k
  refine ⟨?_, ?_, ?_, by rw [strOfNums_size, digL_length]⟩
  · rw [bt_strOf _ 0 hl, e]; rfl
  · rw [bt_strOf _ 1 hl, e]; rfl
  · rw [bt_strOf _ 2 hl, e]; rfl

/-- Three digits without the zeros at their end. -/
theorem trim_frT {k : Int} (h : 1 ≤ k ∧ k ≤ 999) : ∃ j : Nat, 1 ≤ j ∧ j ≤ 3 ∧ (∀ i, j ≤ i → i < 3 → bt (strOfNums (digL k 3)) i = 48) ∧ ¬ bt (strOfNums (digL k 3)) (j - 1) = 48 ∧ (strOfNums (digL k 3)).extract 0 j = strOfNums (frT k) := by
  obtain ⟨b0, b1, b2, hz⟩ := dig3_bt k
  by_cases h1 : k % 100 = 0
  · have e : frT k = [48 + k / 100 % 10] := (if_pos h1).trans (dig1 _)
    have hl : ∀ x ∈ ([48 + k / 100 % 10] : List Int), 0 ≤ x ∧ x ≤ 255 := fun x hx => by simp only [List.mem_singleton] at hx; omega
    refine ⟨1, by omega, by omega, fun i hi1 hi2 => ?_, ?_, ?_⟩
    · rcases (by omega : i = 1 ∨ i = 2) with rfl | rfl
      · rw [b1]; omega
      · rw [b2]; omega
    · show ¬ bt _ 0 = 48
      rw [b0]; omega
    · rw [e, eq_strOf hl]
      refine ⟨by rw [size_ext (by omega)]; rfl, fun i hi => ?_⟩
      have hi' : i < 1 := hi
      obtain rfl : i = 0 := by omega
      rw [bt_extract (by omega) (by omega)]
      exact b0
  · by_cases h2 : k % 10 = 0
    · have e : frT k = [48 + k / 10 / 10 % 10, 48 + k / 10 % 10] := (if_neg h1).trans ((if_pos h2).trans (dig2 _))
      have hl : ∀ x ∈ ([48 + k / 10 / 10 % 10, 48 + k / 10 % 10] : List Int), 0 ≤ x ∧ x ≤ 255 := fun x hx => by
        simp only [List.mem_cons, List.not_mem_nil, or_false] at hx
        omega
      refine ⟨2, by omega, by omega, fun i hi1 hi2 => ?_, ?_, ?_⟩
      · obtain rfl : i = 2 := by omega
        rw [b2]; omega
      · show ¬ bt _ 1 = 48
        rw [b1]; omega
      · rw [e, eq_strOf hl]
        refine ⟨by rw [size_ext (by omega)]; rfl, fun i hi => ?_⟩
        have hi' : i < 2 := hi
        rw [bt_extract (by omega) (by omega)]
        rcases (by omega : i = 0 ∨ i = 1) with rfl | rfl
        · refine b0.trans ?_
          show 48 + k / 100 % 10 = 48 + k / 10 / 10 % 10
          omega
        · exact b1
    · have e : frT k = digL k 3 := (if_neg h1).trans (if_neg h2)
      refine ⟨3, by omega, by omega, fun i hi1 hi2 => by omega, ?_, ?_⟩
      · show ¬ bt _ 2 = 48
        rw [b2]; omega
      · rw [e, ← hz]
        exact ByteArray.extract_zero_size

/-- A stamp, as bytes. -/
noncomputable def stL (y m d h i s k o : Int) : List Int := dtL y m d 0 true ++ [84] ++ clL h i s k ++ ofL o

/-- When the text with a sign is a given one. -/
theorem ofP_iff {s : ByteArray} {o n : Int} (hn : 0 ≤ n ∧ n ≤ 1439) : strOfNums (ofP o n) = s ↔ s.size = 6 ∧ bt s 0 = (if o < 0 then 45 else 43) ∧ bt s 1 = 48 + n / 60 / 10 % 10 ∧ bt s 2 = 48 + n / 60 % 10 ∧ bt s 3 = 58 ∧ bt s 4 = 48 + n % 60 / 10 % 10 ∧ bt s 5 = 48 + n % 60 % 10 := by
  have el : ofP o n = [(if o < 0 then 45 else 43), 48 + n / 60 / 10 % 10, 48 + n / 60 % 10, 58, 48 + n % 60 / 10 % 10, 48 + n % 60 % 10] := by
    unfold ofP
    rw [dig2, dig2]
    rfl
  have hs : (0 : Int) ≤ (if o < 0 then 45 else 43) ∧ (if o < 0 then 45 else 43) ≤ (255 : Int) := by split <;> omega
  rw [el]
  generalize (if o < 0 then (45 : Int) else 43) = c at *
  have hl : ∀ x ∈ ([c, 48 + n / 60 / 10 % 10, 48 + n / 60 % 10, 58, 48 + n % 60 / 10 % 10, 48 + n % 60 % 10] : List Int), 0 ≤ x ∧ x ≤ 255 := by
    intro x hx
    simp only [List.mem_cons, List.not_mem_nil, or_false] at hx
    rcases hx with rfl | rfl | rfl | rfl | rfl | rfl <;> omega
  rw [eq_comm, eq_strOf hl]
  constructor
  · rintro ⟨h1, h2⟩
    exact ⟨h1, h2 0 (by simp), h2 1 (by simp), h2 2 (by simp), h2 3 (by simp), h2 4 (by simp), h2 5 (by simp)⟩
  · rintro ⟨h1, c0, c1, c2, c3, c4, c5⟩
    refine ⟨h1, fun i hi => ?_⟩
    have hi' : i < 6 := hi
    rcases (by omega : i = 0 ∨ i = 1 ∨ i = 2 ∨ i = 3 ∨ i = 4 ∨ i = 5) with rfl | rfl | rfl | rfl | rfl | rfl <;> assumption

/-- A text of six bytes with digits at their places. -/
theorem ofP_read {s : ByteArray} {o n : Int} (hn : 0 ≤ n ∧ n ≤ 1439) (h : strOfNums (ofP o n) = s) : s.size = 6 ∧ bt s 0 = (if o < 0 then 45 else 43) ∧ bt s 3 = 58 ∧ allD s 1 2 = true ∧ numL s 1 2 = n / 60 ∧ allD s 4 2 = true ∧ numL s 4 2 = n % 60 := by
  obtain ⟨h1, c0, c1, c2, c3, c4, c5⟩ := (ofP_iff hn).1 h
  obtain ⟨a1, n1⟩ := rd2 (s := s) (p := 1) (n := n / 60) (by omega) c1 c2
  obtain ⟨a2, n2⟩ := rd2 (s := s) (p := 4) (n := n % 60) (by omega) c4 c5
  exact ⟨h1, c0, c3, a1, n1, a2, n2⟩

theorem stL_str (y m d h i s k o : Int) : strOfNums (stL y m d h i s k o) = strOfNums (dtL y m d 0 true) ++ strOfNums [84] ++ strOfNums (clL h i s k) ++ strOfNums (ofL o) := by
  simp only [stL, strOfNums_append]

/-- The text of a stamp, or none. -/
noncomputable def stT (y m d h i s k o : Int) : ByteArray := if sval y m d h i s k o = true then strOfNums (stL y m d h i s k o) else ⟨#[]⟩

/-- A stamp that is tidied, or none. -/
noncomputable def tdV (s : ByteArray) : Value := if (stR s (cutP s)).ok = true then .tuple #[.string (strOfNums (stL (stR s (cutP s)).y (stR s (cutP s)).m (stR s (cutP s)).d (stR s (cutP s)).h (stR s (cutP s)).i (stR s (cutP s)).s (stR s (cutP s)).k (stR s (cutP s)).o)), .bool true] else .tuple #[.string ⟨#[]⟩, .bool false]

theorem ext_ext {s : ByteArray} {a b c : Nat} (hb : b ≤ s.size) (hc : a + c ≤ b) : (s.extract a b).extract 0 c = s.extract a (a + c) := by
  refine bt_ext ?_ fun i hi => ?_
  · rw [size_ext (by rw [size_ext hb]; omega), size_ext (by omega)]
    omega
  · rw [size_ext (by rw [size_ext hb]; omega)] at hi
    rw [bt_extract (by rw [size_ext hb]; omega) (by omega), bt_extract hb (by omega), bt_extract (by omega) (by omega)]
    congr 1
    omega

theorem ext_ext2 {s : ByteArray} {a b c : Nat} (hb : b ≤ s.size) (hc : a + c ≤ b) : (s.extract a b).extract c (b - a) = s.extract (a + c) b := by
  refine bt_ext ?_ fun i hi => ?_
  · rw [size_ext (by rw [size_ext hb]; omega), size_ext hb]
    omega
  · rw [size_ext (by rw [size_ext hb]; omega)] at hi
    rw [bt_extract (by rw [size_ext hb]; omega) (by omega), bt_extract hb (by omega), bt_extract hb (by omega)]
    congr 1
    omega

end D
end Go.Proofs.YtboglbdhibcacaaGreatDoor

namespace Go.Proofs.YtboglbdhibcacaaGreatDoor
set_option linter.unusedVariables false
set_option linter.unusedSimpArgs false
namespace D
open Go.RowKit
open Go.PlainAid (bt bt_nonneg bt_le bt_end)

/-- How many digits follow, up to a bound. -/
def runB (s : ByteArray) (p : Nat) : Nat → Nat
  | 0 => 0
  | n + 1 => if isD s p = true then runB s (p + 1) n + 1 else 0

/-- How many digits follow. -/
def runN (s : ByteArray) (p : Nat) : Nat := runB s p s.size

theorem runB_all (s : ByteArray) : ∀ (n p i : Nat), i < runB s p n → isD s (p + i) = true
  | 0, _, _, h => by simp [runB] at h
  | n + 1, p, i, h => by
    unfold runB at h
    split at h
    · rename_i hd
      cases i with
      | zero => exact hd
      | succ i =>
        have := runB_all s n (p + 1) i (by omega)
        rwa [show p + 1 + i = p + (i + 1) by omega] at this
    · omega

theorem runB_end (s : ByteArray) : ∀ (n p : Nat), s.size ≤ p + n → isD s (p + runB s p n) = false
  | 0, p, h => by
    cases hd : isD s (p + runB s p 0) with
    | false => rfl
    | true =>
      have := isD_lt hd
      simp only [runB] at this
      omega
  | n + 1, p, h => by
    unfold runB
    split
    · have := runB_end s n (p + 1) (by omega)
      rwa [show p + 1 + runB s (p + 1) n = p + (runB s (p + 1) n + 1) by omega] at this
    · rename_i hd
      simpa using hd

theorem runN_spec (s : ByteArray) (p : Nat) : (∀ i, i < runN s p → isD s (p + i) = true) ∧ isD s (p + runN s p) = false :=
  ⟨fun i hi => runB_all s s.size p i hi, runB_end s s.size p (by omega)⟩

theorem runN_eq {s : ByteArray} {p j : Nat} (h1 : ∀ i, i < j → isD s (p + i) = true) (h2 : isD s (p + j) = false) : j = runN s p := by
  obtain ⟨g1, g2⟩ := runN_spec s p
  rcases (by omega : j < runN s p ∨ j = runN s p ∨ runN s p < j) with h | h | h
  · rw [g1 j h] at h2
    cases h2
  · exact h
  · rw [h1 _ h] at g2
    cases g2

theorem runN_allD (s : ByteArray) (p : Nat) : allD s p (runN s p) = true := allD_iff.2 (runN_spec s p).1

theorem runN_le {s : ByteArray} {p : Nat} (h : p ≤ s.size) : p + runN s p ≤ s.size := by
  by_cases h0 : runN s p = 0
  · omega
  · have := isD_lt ((runN_spec s p).1 (runN s p - 1) (by omega))
    omega

/-- The parts of a period, as they are read. -/
structure P6 where
  a : Int
  b : Int
  c : Int
  d : Int
  e : Int
  f : Int

def P6.zero : P6 := ⟨0, 0, 0, 0, 0, 0⟩

/-- The part with a letter, or -1. -/
def letN (b : Int) (t : Bool) : Int := if t = true then (if b = 72 then 3 else if b = 77 then 4 else if b = 83 then 5 else -1) else (if b = 89 then 0 else if b = 77 then 1 else if b = 68 then 2 else -1)

def P6.set (n : P6) (k v : Int) : P6 :=
  if k = 0 then { n with a := v } else if k = 1 then { n with b := v } else if k = 2 then { n with c := v } else if k = 3 then { n with d := v } else if k = 4 then { n with e := v } else if k = 5 then { n with f := v } else n

/-- What the reference reads of the parts of a period from a place on. -/
def pfR (s : ByteArray) : Nat → Nat → Int → Bool → P6 → Option P6
  | 0, _, _, _, _ => none
  | n + 1, p, last, t, v =>
    if s.size ≤ p then some v
    else
      let tt := !t && isB s p 84 && decide (p + 1 < s.size)
      let q := if tt = true then p + 1 else p
      let t' := t || tt
      let m := runN s q
      if 1 ≤ m ∧ m ≤ 4 ∧ q + m < s.size then
        let k := letN (bt s (q + m)) t'
        if k ≤ last then none else pfR s n (q + m + 1) k t' (v.set k (numL s q m))
      else none

/-- What the program reads of the parts of a period from a place on. -/
def pfP (s : ByteArray) : Nat → Nat → Int → Bool → Bool → Bool → P6 → Option P6
  | 0, _, _, _, _, _, _ => none
  | n + 1, p, last, t, any, op, v =>
    if s.size ≤ p then (if any = true ∧ op = false then some v else none)
    else if t = false ∧ isB s p 84 = true then pfP s n (p + 1) last true any true v
    else
      let m := runN s p
      if 1 ≤ m ∧ m ≤ 4 ∧ p + m < s.size then
        let k := letN (bt s (p + m)) t
        if k ≤ last then none else pfP s n (p + m + 1) k t true false (v.set k (numL s p m))
      else none

theorem runN_zero {s : ByteArray} {p : Nat} {c : Int} (h : isB s p c = true) (hc : ¬ (48 ≤ c ∧ c ≤ 57)) : runN s p = 0 := by
  have h2 := (isB_iff.1 h).2
  refine (runN_eq (j := 0) (fun i hi => by omega) ?_).symm
  rw [Nat.add_zero]
  exact bool_no fun hd => by
    have := isD_iff.1 hd
    omega

/-- The program's steps (a T is one of its own) are the reference's. -/
theorem pfP_eq (s : ByteArray) : ∀ (f g p : Nat) (last : Int) (t any op : Bool) (v : P6), s.size < p + f → s.size < p + g → p ≤ s.size → (any = false → p < s.size) → (op = false ∨ p < s.size) → pfP s g p last t any op v = pfR s f p last t v
  | 0, g, p, last, t, any, op, v, hf, hg, hp, _, _ => by omega
  | f + 1, 0, p, last, t, any, op, v, hf, hg, hp, _, _ => by omega
  | f + 1, g + 1, p, last, t, any, op, v, hf, hg, hp, ha, h1 => by
    by_cases hz : s.size ≤ p
    · have hop : op = false := by
        rcases h1 with h | h
        · exact h
        · omega
      have han : any = true := by
        cases any with
        | true => rfl
        | false => have := ha rfl; omega
      simp only [pfP, pfR]
      rw [if_pos hz, if_pos hz, if_pos ⟨han, hop⟩]
    · by_cases hT : t = false ∧ isB s p 84 = true
      · obtain ⟨rfl, hB⟩ := hT
        have e1 : pfP s (g + 1) p last false any op v = pfP s g (p + 1) last true any true v := by
          rw [pfP, if_neg hz, if_pos ⟨rfl, hB⟩]
        rw [e1]
        obtain ⟨g', rfl⟩ : ∃ g', g = g' + 1 := ⟨g - 1, by omega⟩
        by_cases hend : p + 1 < s.size
        · simp only [pfP, pfR]
          rw [if_neg hz, if_neg (by omega), if_neg (by simp)]
          simp only [hB, Bool.not_false, Bool.true_and, decide_eq_true hend, if_true, Bool.false_or]
          by_cases hm : 1 ≤ runN s (p + 1) ∧ runN s (p + 1) ≤ 4 ∧ p + 1 + runN s (p + 1) < s.size
          · rw [if_pos hm, if_pos hm]
            by_cases hk : letN (bt s (p + 1 + runN s (p + 1))) true ≤ last
            · rw [if_pos hk, if_pos hk]
            · rw [if_neg hk, if_neg hk]
              exact pfP_eq s f g' _ _ _ _ _ _ (by omega) (by omega) (by omega) (fun h => by cases h) (.inl rfl)
          · rw [if_neg hm, if_neg hm]
        · have hr := runN_zero hB (by omega)
          have e2 : pfR s (f + 1) p last false v = none := by
            simp only [pfR]
            rw [if_neg hz]
            simp only [decide_eq_false hend, Bool.and_false, Bool.false_eq_true, if_false, hr]
            rw [if_neg (by omega)]
          have e3 : pfP s (g' + 1) (p + 1) last true any true v = none := by
            simp only [pfP]
            rw [if_pos (by omega), if_neg (by simp)]
          rw [e2, e3]
      · simp only [pfP, pfR]
        rw [if_neg hz, if_neg hz, if_neg hT]
        have htt : (!t && isB s p 84 && decide (p + 1 < s.size)) = false := by
          cases t with
          | true => rfl
          | false =>
            have : isB s p 84 = false := bool_no fun h => hT ⟨rfl, h⟩
            simp [this]
        simp only [htt, Bool.false_eq_true, if_false, Bool.or_false]
        by_cases hm : 1 ≤ runN s p ∧ runN s p ≤ 4 ∧ p + runN s p < s.size
        · rw [if_pos hm, if_pos hm]
          by_cases hk : letN (bt s (p + runN s p)) t ≤ last
          · rw [if_pos hk, if_pos hk]
          · rw [if_neg hk, if_neg hk]
            exact pfP_eq s f g _ _ _ _ _ _ (by omega) (by omega) (by omega) (fun h => by cases h) (.inl rfl)
        · rw [if_neg hm, if_neg hm]

/-- The period of weeks alone, if it is one. -/
def weeksOf (s : ByteArray) : Option P6 := if 1 + runN s 1 + 1 = s.size ∧ 7 * numL s 1 (runN s 1) ≤ 9999 then some { P6.zero with c := 7 * numL s 1 (runN s 1) } else none

/-- Do weeks stand behind the first number? -/
def isWeeks (s : ByteArray) : Bool := decide (1 ≤ runN s 1 ∧ runN s 1 ≤ 4) && isB s (1 + runN s 1) 87

/-- What the reference reads as a period. -/
def perR (s : ByteArray) : Option P6 :=
  if s.size < 3 ∨ ¬ bt s 0 = 80 then none else if isWeeks s = true then weeksOf s else pfR s s.size 1 (-1) false P6.zero

/-- What the program reads as a period. -/
def perP (s : ByteArray) : Option P6 :=
  if isB s 0 80 = false then none else if isWeeks s = true then weeksOf s else pfP s s.size 1 (-1) false false false P6.zero

theorem pfR_two {s : ByteArray} (h : s.size = 2) (f : Nat) (hf : 1 ≤ f) (last : Int) (t : Bool) (v : P6) : pfR s f 1 last t v = none := by
  obtain ⟨f', rfl⟩ : ∃ f', f = f' + 1 := ⟨f - 1, by omega⟩
  simp only [pfR]
  rw [if_neg (by omega)]
  have htt : (!t && isB s 1 84 && decide (1 + 1 < s.size)) = false := by
    rw [decide_eq_false (by omega), Bool.and_false]
  simp only [htt, Bool.false_eq_true, if_false]
  rw [if_neg (by omega)]

theorem pfP_one {s : ByteArray} (h : s.size = 1) (f : Nat) (hf : 1 ≤ f) (last : Int) (v : P6) : pfP s f 1 last false false false v = none := by
  obtain ⟨f', rfl⟩ : ∃ f', f = f' + 1 := ⟨f - 1, by omega⟩
  simp only [pfP]
  rw [if_pos (show s.size ≤ 1 by omega), if_neg (by simp)]

theorem per_eq (s : ByteArray) : perP s = perR s := by
  unfold perP perR
  by_cases h0 : bt s 0 = 80
  · have hpos : 0 < s.size := by
      refine Nat.lt_of_not_le fun h => ?_
      have := bt_end s (k := 0) h
      omega
    have hB : isB s 0 80 = true := isB_iff.2 ⟨hpos, h0⟩
    rw [if_neg (show ¬ isB s 0 80 = false by rw [hB]; simp)]
    by_cases h3 : s.size < 3
    · rw [if_pos (show s.size < 3 ∨ ¬ bt s 0 = 80 from .inl h3)]
      by_cases hw : isWeeks s = true
      · simp only [isWeeks, Bool.and_eq_true, decide_eq_true_eq] at hw
        have := (isB_iff.1 hw.2).1
        omega
      · rw [if_neg hw]
        by_cases h1 : s.size = 1
        · exact pfP_one h1 _ (by omega) _ _
        · have h2 : s.size = 2 := by omega
          rw [pfP_eq s s.size s.size 1 (-1) false false false P6.zero (by omega) (by omega) (by omega) (fun _ => by omega) (.inl rfl)]
          exact pfR_two h2 _ (by omega) _ _ _
    · rw [if_neg (show ¬ (s.size < 3 ∨ ¬ bt s 0 = 80) from fun h => h.elim h3 fun k => k h0)]
      by_cases hw : isWeeks s = true
      · rw [if_pos hw, if_pos hw]
      · rw [if_neg hw, if_neg hw]
        exact pfP_eq s s.size s.size 1 (-1) false false false P6.zero (by omega) (by omega) (by omega) (fun _ => by omega) (.inl rfl)
  · rw [if_pos (show s.size < 3 ∨ ¬ bt s 0 = 80 from .inr h0), if_pos]
    exact bool_no fun h => h0 (isB_iff.1 h).2

end D
end Go.Proofs.YtboglbdhibcacaaGreatDoor

namespace Go.Proofs.YtboglbdhibcacaaGreatDoor
set_option linter.unusedVariables false
set_option linter.unusedSimpArgs false
namespace D
open Go.RowKit
open Go.PlainAid (bt bt_nonneg bt_le bt_end)

/-- A number of one to four digits, in decimals. -/
def decL (n : Int) : List Int := if n < 10 then digL n 1 else if n < 100 then digL n 2 else if n < 1000 then digL n 3 else digL n 4
theorem decL_in (n : Int) : ∀ x ∈ decL n, 48 ≤ x ∧ x ≤ 57 := by
  unfold decL
  repeat' split
  all_goals exact digL_in _ _
theorem decL_len (n : Int) : 1 ≤ (decL n).length ∧ (decL n).length ≤ 4 := by
  unfold decL
  repeat' split
  all_goals simp [digL_length]

/-- Parts of a period: their places, their numbers, their letters. -/
abbrev It := Int × Int × Int
def itL (xs : List It) : List Int := xs.flatMap fun x => decL x.2.1 ++ [x.2.2]
def itm (k c n : Int) : List It := if n = 0 then [] else [(k, n, c)]
def dItems (p : P6) : List It := itm 0 89 p.a ++ itm 1 77 p.b ++ itm 2 68 p.c
def tItems (p : P6) : List It := itm 3 72 p.d ++ itm 4 77 p.e ++ itm 5 83 p.f
def pzero (p : P6) : Bool := decide (p.a = 0 ∧ p.b = 0 ∧ p.c = 0 ∧ p.d = 0 ∧ p.e = 0 ∧ p.f = 0)
def pOk (p : P6) : Bool := decide ((0 ≤ p.a ∧ p.a ≤ 9999) ∧ (0 ≤ p.b ∧ p.b ≤ 9999) ∧ (0 ≤ p.c ∧ p.c ≤ 9999) ∧ (0 ≤ p.d ∧ p.d ≤ 9999) ∧ (0 ≤ p.e ∧ p.e ≤ 9999) ∧ (0 ≤ p.f ∧ p.f ≤ 9999))
/-- The text of a period. -/
def perL (p : P6) : List Int := if pzero p = true then [80, 84, 48, 83] else [80] ++ itL (dItems p) ++ (if tItems p = [] then [] else 84 :: itL (tItems p))

theorem pOk_iff {p : P6} : pOk p = true ↔ (0 ≤ p.a ∧ p.a ≤ 9999) ∧ (0 ≤ p.b ∧ p.b ≤ 9999) ∧ (0 ≤ p.c ∧ p.c ≤ 9999) ∧ (0 ≤ p.d ∧ p.d ≤ 9999) ∧ (0 ≤ p.e ∧ p.e ≤ 9999) ∧ (0 ≤ p.f ∧ p.f ≤ 9999) := by simp [pOk]

theorem itL_len (xs : List It) : 2 * xs.length ≤ (itL xs).length := by
  induction xs with
  | nil => simp
  | cons x r ih =>
    have := decL_len x.2.1
    simp only [itL, List.flatMap_cons, List.length_append, List.length_cons, List.length_nil] at ih ⊢
    omega

end D
end Go.Proofs.YtboglbdhibcacaaGreatDoor

namespace Go.Proofs.YtboglbdhibcacaaGreatDoor
set_option linter.unusedVariables false
set_option linter.unusedSimpArgs false
namespace D
open Go.RowKit
open Go.PlainAid (bt bt_nonneg bt_le bt_end)

/-- No slash stands in a text. -/
def noSl (s : ByteArray) : Prop := ∀ i, i < s.size → ¬ bt s i = 47

theorem st_noSl {s : ByteArray} {a : Nat} (h : (stR s a).ok = true) : noSl s := by
  obtain ⟨h1, h2, h3, h4, h5⟩ := stAt_iff.1 (stR_ok h).1
  obtain ⟨a1, a2, a3, a4, a5, -⟩ := dOk_iff.1 h1
  have k1 := allD_at a1
  have k2 := allD_at a3
  have k3 := allD_at a5
  have k4 := (isB_iff.1 a2).2
  have k5 := (isB_iff.1 a4).2
  simp only [sepOk, decide_eq_true_eq] at h2
  intro i hi hb
  by_cases h10 : i < 10
  · rcases (by omega : i = 0 ∨ i = 1 ∨ i = 2 ∨ i = 3 ∨ i = 4 ∨ i = 5 ∨ i = 6 ∨ i = 7 ∨ i = 8 ∨ i = 9) with rfl | rfl | rfl | rfl | rfl | rfl | rfl | rfl | rfl | rfl
    · have := k1 0 (by omega); simp at this; omega
    · have := k1 1 (by omega); simp at this; omega
    · have := k1 2 (by omega); simp at this; omega
    · have := k1 3 (by omega); simp at this; omega
    · omega
    · have := k2 0 (by omega); simp at this; omega
    · have := k2 1 (by omega); simp at this; omega
    · omega
    · have := k3 0 (by omega); simp at this; omega
    · have := k3 1 (by omega); simp at this; omega
  · by_cases e10 : i = 10
    · subst e10; omega
    · by_cases ha : i < a
      · have hc : (s.extract 11 a).size = a - 11 := size_ext h3.2
        have := clk_chars h4 (i - 11) (by omega)
        rw [bt_extract h3.2 (by omega), show 11 + (i - 11) = i by omega] at this
        omega
      · have hz : (s.extract a s.size).size = s.size - a := size_ext (Nat.le_refl _)
        have e := bt_extract (s := s) (a := a) (b := s.size) (i := i - a) (Nat.le_refl _) (by omega)
        rw [show a + (i - a) = i by omega] at e
        simp only [ofOk, Bool.or_eq_true, Bool.and_eq_true, decide_eq_true_eq] at h5
        rcases h5 with g | ⟨⟨⟨⟨g1, g2⟩, g3⟩, g4⟩, g5, g6, g7⟩
        · have : i - a = 0 := by omega
          rw [this] at e
          omega
        · have j1 := allD_at g3
          have j2 := allD_at g4
          have j3 := (isB_iff.1 g2).2
          rcases (by omega : i - a = 0 ∨ i - a = 1 ∨ i - a = 2 ∨ i - a = 3 ∨ i - a = 4 ∨ i - a = 5) with q | q | q | q | q | q
          · rw [q] at e; omega
          · rw [q] at e; have := j1 0 (by omega); simp at this; omega
          · rw [q] at e; have := j1 1 (by omega); simp at this; omega
          · rw [q] at e; omega
          · rw [q] at e; have := j2 0 (by omega); simp at this; omega
          · rw [q] at e; have := j2 1 (by omega); simp at this; omega

theorem letN_char {b : Int} {t : Bool} {last : Int} (h : ¬ letN b t ≤ last) (hl : -1 ≤ last) : ¬ b = 47 := by
  rintro rfl
  apply h
  unfold letN
  cases t <;> simp <;> omega
theorem letN_ge (b : Int) (t : Bool) : -1 ≤ letN b t := by
  unfold letN
  repeat' split
  all_goals omega
theorem runN_char {s : ByteArray} {q i : Nat} (h1 : q ≤ i) (h2 : i < q + runN s q) : ¬ bt s i = 47 := by
  have := isD_iff.1 ((runN_spec s q).1 (i - q) (by omega))
  rw [show q + (i - q) = i by omega] at this
  omega

theorem pfR_noSl (s : ByteArray) : ∀ (f p : Nat) (last : Int) (t : Bool) (v w : P6), -1 ≤ last → pfR s f p last t v = some w → ∀ i, p ≤ i → i < s.size → ¬ bt s i = 47
  | 0, p, last, t, v, w, hl, h => by simp [pfR] at h
  | f + 1, p, last, t, v, w, hl, h => by
    intro i hi hlt
    rw [pfR] at h
    by_cases hz : s.size ≤ p
    · omega
    · rw [if_neg hz] at h
      simp only at h
      generalize hq : (if (!t && isB s p 84 && decide (p + 1 < s.size)) = true then p + 1 else p) = q at h
      generalize (t || (!t && isB s p 84 && decide (p + 1 < s.size))) = t' at h
      by_cases hm : 1 ≤ runN s q ∧ runN s q ≤ 4 ∧ q + runN s q < s.size
      · rw [if_pos hm] at h
        by_cases hk : letN (bt s (q + runN s q)) t' ≤ last
        · rw [if_pos hk] at h; cases h
        · rw [if_neg hk] at h
          have ih := pfR_noSl s f (q + runN s q + 1) _ t' _ w (letN_ge _ _) h i
          by_cases hip : i < q
          · have : (!t && isB s p 84 && decide (p + 1 < s.size)) = true := by
              by_cases hc : (!t && isB s p 84 && decide (p + 1 < s.size)) = true
              · exact hc
              · rw [if_neg hc] at hq; omega
            rw [if_pos this] at hq
            simp only [Bool.and_eq_true] at this
            have hb := (isB_iff.1 this.1.2).2
            obtain rfl : i = p := by omega
            omega
          · by_cases h3 : i < q + runN s q
            · exact runN_char (by omega) h3
            · by_cases h4 : i = q + runN s q
              · subst h4; exact letN_char hk hl
              · exact ih (by omega) hlt
      · rw [if_neg hm] at h; cases h

theorem per_noSl {s : ByteArray} {p : P6} (h : perR s = some p) : noSl s := by
  unfold perR at h
  by_cases h0 : s.size < 3 ∨ ¬ bt s 0 = 80
  · rw [if_pos h0] at h; cases h
  · rw [if_neg h0] at h
    have h80 : bt s 0 = 80 := by
      by_cases e : bt s 0 = 80
      · exact e
      · exact (h0 (.inr e)).elim
    intro i hi
    by_cases hi0 : i = 0
    · subst hi0; omega
    · by_cases hw : isWeeks s = true
      · rw [if_pos hw] at h
        unfold weeksOf at h
        by_cases hc : 1 + runN s 1 + 1 = s.size ∧ 7 * numL s 1 (runN s 1) ≤ 9999
        · simp only [isWeeks, Bool.and_eq_true, decide_eq_true_eq] at hw
          have h87 := (isB_iff.1 hw.2).2
          by_cases h3 : i < 1 + runN s 1
          · exact runN_char (by omega) h3
          · have : i = 1 + runN s 1 := by omega
            subst this
            omega
        · rw [if_neg hc] at h; cases h
      · rw [if_neg hw] at h
        exact pfR_noSl s _ _ _ _ _ _ (by omega) h i (by omega) hi

/-- The parts of a period that was read are small. -/
theorem numL_4 {s : ByteArray} {q m : Nat} (h1 : runN s q = m) (h2 : m ≤ 4) : 0 ≤ numL s q m ∧ numL s q m ≤ 9999 := by
  subst h1
  have h := numL_bd (runN_allD s q)
  have h10 : p10 (runN s q) ≤ 10000 := by
    rcases (by omega : runN s q = 0 ∨ runN s q = 1 ∨ runN s q = 2 ∨ runN s q = 3 ∨ runN s q = 4) with e | e | e | e | e <;> rw [e] <;> decide
  omega
end D
end Go.Proofs.YtboglbdhibcacaaGreatDoor

namespace Go.Proofs.YtboglbdhibcacaaGreatDoor
set_option linter.unusedVariables false
set_option linter.unusedSimpArgs false
set_option maxRecDepth 100000
namespace D
open Go.PlainAid (bt bt_nonneg bt_le bt_end)

/-- The pieces from a place on; so many bytes are still to be looked at. -/
def cutB (c : Int) (s : ByteArray) : Nat → Nat → List ByteArray
  | 0, a => [s.extract a s.size]
  | f + 1, a => if bt s (s.size - (f + 1)) = c then s.extract a (s.size - (f + 1)) :: cutB c s f (s.size - f) else cutB c s f a
/-- The pieces of a text. -/
def splL (c : Int) (s : ByteArray) : List ByteArray := cutB c s s.size 0
theorem cutB_ne (c : Int) (s : ByteArray) : ∀ (f a : Nat), cutB c s f a ≠ []
  | 0, a => by simp [cutB]
  | f + 1, a => by
    unfold cutB
    split
    · simp
    · exact cutB_ne c s f a
theorem splL_ne (c : Int) (s : ByteArray) : splL c s ≠ [] := cutB_ne c s _ _
/-- One byte on: no cut. -/
theorem cutB_no {c : Int} {s : ByteArray} {i a : Nat} (hi : i < s.size) (h : ¬ bt s i = c) : cutB c s (s.size - i) a = cutB c s (s.size - (i + 1)) a := by
  obtain ⟨f, hf⟩ : ∃ f, s.size - i = f + 1 := ⟨s.size - i - 1, by omega⟩
  have e1 : s.size - (i + 1) = f := by omega
  have e2 : s.size - (f + 1) = i := by omega
  rw [hf, e1]
  conv => lhs; unfold cutB
  rw [e2, if_neg h]
/-- One byte on: a cut. -/
theorem cutB_yes {c : Int} {s : ByteArray} {i a : Nat} (hi : i < s.size) (h : bt s i = c) : cutB c s (s.size - i) a = s.extract a i :: cutB c s (s.size - (i + 1)) (i + 1) := by
  obtain ⟨f, hf⟩ : ∃ f, s.size - i = f + 1 := ⟨s.size - i - 1, by omega⟩
  have e1 : s.size - (i + 1) = f := by omega
  have e2 : s.size - (f + 1) = i := by omega
  have e3 : s.size - f = i + 1 := by omega
  rw [hf, e1]
  conv => lhs; unfold cutB
  rw [e2, if_pos h, e3]
theorem cutB_end {c : Int} {s : ByteArray} {i a : Nat} (hi : s.size ≤ i) : cutB c s (s.size - i) a = [s.extract a s.size] := by
  rw [show s.size - i = 0 by omega]
  rfl
/-- No cut up to a place. -/
theorem cutB_skip {c : Int} {s : ByteArray} {a : Nat} : ∀ (k p : Nat), p + k ≤ s.size → (∀ i, p ≤ i → i < p + k → ¬ bt s i = c) → cutB c s (s.size - p) a = cutB c s (s.size - (p + k)) a
  | 0, p, _, _ => rfl
  | k + 1, p, h1, h2 => by
    rw [cutB_no (by omega) (h2 p (Nat.le_refl _) (by omega)), cutB_skip k (p + 1) (by omega) fun i h3 h4 => h2 i (by omega) (by omega), show p + 1 + k = p + (k + 1) by omega]
/-- The first cut from a place on. -/
theorem cutB_first {c : Int} {s : ByteArray} {p j : Nat} (hp : p ≤ j) (hj : j < s.size) (h : bt s j = c) (hno : ∀ i, p ≤ i → i < j → ¬ bt s i = c) : cutB c s (s.size - p) p = s.extract p j :: cutB c s (s.size - (j + 1)) (j + 1) := by
  rw [cutB_skip (j - p) p (by omega) fun i h1 h2 => hno i h1 (by omega), show p + (j - p) = j by omega, cutB_yes hj h]
theorem cutB_none {c : Int} {s : ByteArray} {p : Nat} (hp : p ≤ s.size) (hno : ∀ i, p ≤ i → i < s.size → ¬ bt s i = c) : cutB c s (s.size - p) p = [s.extract p s.size] := by
  rw [cutB_skip (s.size - p) p (by omega) fun i h1 h2 => hno i h1 (by omega), show p + (s.size - p) = s.size by omega, cutB_end (Nat.le_refl _)]
/-- How many cuts there are from a place on. -/
def cntB' (c : Int) (s : ByteArray) : Nat → Nat
  | 0 => 0
  | f + 1 => (if bt s (s.size - (f + 1)) = c then 1 else 0) + cntB' c s f
theorem cutB_len (c : Int) (s : ByteArray) : ∀ (f a : Nat), (cutB c s f a).length = cntB' c s f + 1
  | 0, a => rfl
  | f + 1, a => by
    unfold cutB cntB'
    split
    · rw [List.length_cons, cutB_len c s f]; omega
    · rw [cutB_len c s f]; omega
theorem cutB_size (c : Int) (s : ByteArray) : ∀ (f a : Nat), ∀ t ∈ cutB c s f a, t.size ≤ s.size
  | 0, a, t, h => by
    rw [cutB, List.mem_singleton] at h
    subst h
    rw [ByteArray.size_extract]; omega
  | f + 1, a, t, h => by
    unfold cutB at h
    split at h
    · rcases List.mem_cons.1 h with rfl | h
      · rw [ByteArray.size_extract]; omega
      · exact cutB_size c s f _ t h
    · exact cutB_size c s f _ t h

end D
end Go.Proofs.YtboglbdhibcacaaGreatDoor
