/- The plain mathematics of what is between dates. -/
import Derived.Test.YtpodhahlbdlgeaaDoorPlain
namespace Go.Proofs.YtpodhahlbdlgeaaDoor
set_option linter.unusedVariables false
set_option linter.unusedSimpArgs false
namespace D

theorem leap_y {y : Int} (h1 : 1 ≤ y) (h2 : y ≤ 9999) : leap y = ((y % 4 == 0) && (!(y % 100 == 0) || (y % 400 == 0))) := by
  have : inR y 1 9999 = true := inR_true.2 ⟨h1, h2⟩
  simp [leap, this]
def lp (y : Int) : Int := if leap y = true then 1 else 0
theorem lp_bd (y : Int) : 0 ≤ lp y ∧ lp y ≤ 1 := by unfold lp; split <;> omega
theorem ny_succ (y : Int) (h1 : 1 ≤ y) (h2 : y ≤ 9999) : ny (y + 1) = ny y + 365 + lp y := by
  unfold lp
  rw [leap_y h1 h2]
  unfold ny
  by_cases h4 : y % 4 = 0 <;> by_cases h100 : y % 100 = 0 <;> by_cases h400 : y % 400 = 0 <;> simp [h4, h100, h400] <;> omega
theorem md_known (y : Int) (h1 : 1 ≤ y) (h2 : y ≤ 9999) : md y 1 = 31 ∧ md y 2 = 28 + lp y ∧ md y 3 = 31 ∧ md y 4 = 30 ∧ md y 5 = 31 ∧ md y 6 = 30 ∧ md y 7 = 31 ∧ md y 8 = 31 ∧ md y 9 = 30 ∧ md y 10 = 31 ∧ md y 11 = 30 ∧ md y 12 = 31 := by
  have a : inR 1 1 12 = true := by decide
  have b : inR 2 1 12 = true := by decide
  refine ⟨?_, ?_, ?_, ?_, ?_, ?_, ?_, ?_, ?_, ?_, ?_, ?_⟩
  case refine_2 => unfold lp; by_cases hl : leap y = true <;> simp [md, inR, mdTab, hl, h1, h2]
  all_goals (simp [md, inR, mdTab, h1, h2])
theorem md_ge (y m : Int) (h1 : 1 ≤ y) (h2 : y ≤ 9999) (h3 : 1 ≤ m) (h4 : m ≤ 12) : 28 ≤ md y m := by
  have h := md_known y h1 h2
  have hl := lp_bd y
  have : m = 1 ∨ m = 2 ∨ m = 3 ∨ m = 4 ∨ m = 5 ∨ m = 6 ∨ m = 7 ∨ m = 8 ∨ m = 9 ∨ m = 10 ∨ m = 11 ∨ m = 12 := by omega
  rcases this with rfl | rfl | rfl | rfl | rfl | rfl | rfl | rfl | rfl | rfl | rfl | rfl <;> omega
theorem cum_all (y : Int) (h1 : 1 ≤ y) (h2 : y ≤ 9999) : cum y 13 = 365 + lp y := by
  have h := md_known y h1 h2
  have e : cum y 13 = 0 + md y 1 + md y 2 + md y 3 + md y 4 + md y 5 + md y 6 + md y 7 + md y 8 + md y 9 + md y 10 + md y 11 + md y 12 := rfl
  omega
theorem cum_le (y : Int) {a b : Int} (h1 : 1 ≤ a) (h : a ≤ b) : cum y a ≤ cum y b := by
  obtain ⟨k, rfl⟩ : ∃ k : Nat, b = a + k := ⟨(b - a).toNat, by omega⟩
  clear h
  induction k with
  | zero => simp
  | succ k ih =>
    have e := cum_succ y (a + k) (by omega)
    have m := md_bd y (a + k)
    have e2 : a + ((k + 1 : Nat) : Int) = a + k + 1 := by omega
    rw [e2, e]
    omega
/-- A day lies in its year and in its month. -/
theorem num_in {y m d : Int} (h : dval y m d = true) : ny y ≤ num y m d ∧ num y m d < ny (y + 1) := by
  have hd := dval_bd h
  have e := cum_succ y m (by omega)
  have c := cum_le y (a := m + 1) (b := 13) (by omega) (by omega)
  have c0 := cum_bd y m (by omega)
  have a := cum_all y (by omega) (by omega)
  have n := ny_succ y (by omega) (by omega)
  unfold num ord
  omega
theorem ny_le {a b : Int} (h1 : 1 ≤ a) (h : a ≤ b) : ny a ≤ ny b := by unfold ny; omega
/-- An earlier month: an earlier day. -/
theorem num_lt {y m d y' m' d' : Int} (h : dval y m d = true) (h' : dval y' m' d' = true) (hlt : 12 * y + m < 12 * y' + m') : num y m d < num y' m' d' := by
  have hd := dval_bd h
  have hd' := dval_bd h'
  have a := num_in h
  have a' := num_in h'
  by_cases e : y = y'
  · subst e
    have e := cum_succ y m (by omega)
    have c := cum_le y (a := m + 1) (b := m') (by omega) (by omega)
    unfold num ord
    omega
  · have := ny_le (a := y + 1) (b := y') (by omega) (by omega)
    omega
theorem num_bd {y m d : Int} (h : dval y m d = true) : 0 ≤ num y m d ∧ num y m d ≤ 3652058 := by
  have hd := dval_bd h
  have a := num_in h
  have b := ny_bd y (by omega) (by omega)
  have c := ny_bd (y + 1) (by omega) (by omega)
  omega
theorem num_inj {y m d y' m' d' : Int} (h : dval y m d = true) (h' : dval y' m' d' = true) (e : num y m d = num y' m' d') : y = y' ∧ m = m' ∧ d = d' := by
  have hd := dval_bd h
  have hd' := dval_bd h'
  have e1 : 12 * y + m = 12 * y' + m' := by
    rcases Int.lt_trichotomy (12 * y + m) (12 * y' + m') with l | l | l
    · have := num_lt h h' l; omega
    · exact l
    · have := num_lt h' h l; omega
  obtain rfl : y = y' := by omega
  obtain rfl : m = m' := by omega
  unfold num ord at e
  omega
theorem mplus_ok {y m d n : Int} (h : dval y m d = true) (h1 : 12 ≤ 12 * y + m - 1 + n) (h2 : 12 * y + m - 1 + n ≤ 119999) :
    mplus y m d n = ⟨(12 * y + m - 1 + n) / 12, (12 * y + m - 1 + n) % 12 + 1, min d (md ((12 * y + m - 1 + n) / 12) ((12 * y + m - 1 + n) % 12 + 1)), true⟩ := by
  have hd := dval_bd h
  have e1 : mpT y m n / 12 + 1 = (12 * y + m - 1 + n) / 12 := by unfold mpT; omega
  have e2 : mpT y m n % 12 + 1 = (12 * y + m - 1 + n) % 12 + 1 := by unfold mpT; omega
  rw [mplus_in h (inR_true.2 (by omega)) (by unfold mpT; omega), e1, e2]
/-- What is some months later is a date. -/
theorem mplus_val {y m d n : Int} (h : dval y m d = true) (h1 : 12 ≤ 12 * y + m - 1 + n) (h2 : 12 * y + m - 1 + n ≤ 119999) :
    (mplus y m d n).ok = true ∧ dval (mplus y m d n).y (mplus y m d n).m (mplus y m d n).d = true ∧ 12 * (mplus y m d n).y + (mplus y m d n).m = 12 * y + m + n := by
  rw [mplus_ok h h1 h2]
  have hd := dval_bd h
  have g := md_ge ((12 * y + m - 1 + n) / 12) ((12 * y + m - 1 + n) % 12 + 1) (by omega) (by omega) (by omega) (by omega)
  refine ⟨rfl, inR_true.2 ⟨?_, ?_⟩, ?_⟩
  · show 1 ≤ min d _
    omega
  · exact Int.min_le_right _ _
  · show 12 * ((12 * y + m - 1 + n) / 12) + ((12 * y + m - 1 + n) % 12 + 1) = 12 * y + m + n
    omega

/-! What is between two dates. -/
def n0 (y m y' m' : Int) : Int := 12 * (y' - y) + m' - m
def numR (r : DR) : Int := num r.y r.m r.d
def bn (y m d y' m' d' : Int) : Int := if num y' m' d' < numR (mplus y m d (n0 y m y' m')) then n0 y m y' m' - 1 else n0 y m y' m'
def bd (y m d y' m' d' : Int) : Int := num y' m' d' - numR (mplus y m d (bn y m d y' m' d'))
def ms (y m : Int) : Int := ny y + cum y m
theorem num_ms (y m d : Int) : num y m d = ms y m + d - 1 := by unfold num ord ms; omega
/-- The month behind. -/
theorem ms_prev {y m : Int} (h1 : 1 ≤ y) (h2 : y ≤ 9999) (h3 : 1 ≤ m) (h4 : m ≤ 12) (h5 : 12 ≤ 12 * y + m - 2) :
    ms y m = ms ((12 * y + m - 2) / 12) ((12 * y + m - 2) % 12 + 1) + md ((12 * y + m - 2) / 12) ((12 * y + m - 2) % 12 + 1) := by
  by_cases e : m = 1
  · subst e
    have e1 : (12 * y + 1 - 2) / 12 = y - 1 := by omega
    have e2 : (12 * y + 1 - 2) % 12 + 1 = 12 := by omega
    rw [e1, e2]
    have a := ny_succ (y - 1) (by omega) (by omega)
    have b := cum_all (y - 1) (by omega) (by omega)
    have c := cum_succ (y - 1) 12 (by omega)
    have z : cum y 1 = 0 := rfl
    have w : y - 1 + 1 = y := by omega
    have w2 : (12 : Int) + 1 = 13 := rfl
    rw [w] at a
    rw [w2] at c
    unfold ms
    omega
  · have e1 : (12 * y + m - 2) / 12 = y := by omega
    have e2 : (12 * y + m - 2) % 12 + 1 = m - 1 := by omega
    rw [e1, e2]
    have c := cum_succ y (m - 1) (by omega)
    have w : m - 1 + 1 = m := by omega
    rw [w] at c
    unfold ms
    omega
theorem btw {y m d y' m' d' : Int} (h : dval y m d = true) (h' : dval y' m' d' = true) (hle : num y m d ≤ num y' m' d') :
    0 ≤ n0 y m y' m' ∧ n0 y m y' m' ≤ 119988 ∧ 12 ≤ 12 * y + m - 1 + n0 y m y' m' ∧ 12 * y + m - 1 + n0 y m y' m' ≤ 119999 ∧
    0 ≤ bn y m d y' m' d' ∧ bn y m d y' m' d' ≤ 119988 ∧ 12 ≤ 12 * y + m - 1 + bn y m d y' m' d' ∧ 12 * y + m - 1 + bn y m d y' m' d' ≤ 119999 ∧ 0 ≤ bd y m d y' m' d' ∧ bd y m d y' m' d' < 31 ∧
    n0 y m y' m' - 1 ≤ bn y m d y' m' d' ∧ bn y m d y' m' d' ≤ n0 y m y' m' := by
  have hd := dval_bd h
  have hd' := dval_bd h'
  have hm : 12 * y + m ≤ 12 * y' + m' := by
    rcases (by omega : 12 * y' + m' < 12 * y + m ∨ 12 * y + m ≤ 12 * y' + m') with l | l
    · have := num_lt h' h l; omega
    · exact l
  have a0 : 0 ≤ n0 y m y' m' := by unfold n0; omega
  have a1 : n0 y m y' m' ≤ 119988 := by unfold n0; omega
  have a2 : 12 ≤ 12 * y + m - 1 + n0 y m y' m' := by unfold n0; omega
  have a3 : 12 * y + m - 1 + n0 y m y' m' ≤ 119999 := by unfold n0; omega
  have v := mplus_val h a2 a3
  by_cases c : num y' m' d' < numR (mplus y m d (n0 y m y' m'))
  · have e : bn y m d y' m' d' = n0 y m y' m' - 1 := by unfold bn; rw [if_pos c]
    have p : 1 ≤ n0 y m y' m' := by
      rcases (by omega : n0 y m y' m' < 1 ∨ 1 ≤ n0 y m y' m') with l | l
      · exfalso
        have z : n0 y m y' m' = 0 := by omega
        rw [z, mplus_ok h (by omega) (by omega)] at c
        unfold numR at c
        have e1 : (12 * y + m - 1 + 0) / 12 = y := by omega
        have e2 : (12 * y + m - 1 + 0) % 12 + 1 = m := by omega
        simp only [e1, e2] at c
        rw [Int.min_eq_left (by omega)] at c
        omega
      · exact l
    have v1 := mplus_val (n := n0 y m y' m' - 1) h (by omega) (by omega)
    have l1 := num_lt v1.2.1 h' (by rw [v1.2.2]; unfold n0; omega)
    have k1 : 12 * y + m - 1 + n0 y m y' m' = 12 * y' + m' - 1 := by unfold n0; omega
    have k2 : (12 * y' + m' - 1) / 12 = y' := by omega
    have k3 : (12 * y' + m' - 1) % 12 + 1 = m' := by omega
    have k4 : 12 * y + m - 1 + (n0 y m y' m' - 1) = 12 * y' + m' - 2 := by unfold n0; omega
    have x0 := mplus_ok h a2 a3
    have x1 := mplus_ok (n := n0 y m y' m' - 1) h (by omega) (by omega)
    rw [k1, k2, k3] at x0
    rw [k4] at x1
    have pr := ms_prev (y := y') (m := m') (by omega) (by omega) (by omega) (by omega) (by omega)
    have mb := md_bd ((12 * y' + m' - 2) / 12) ((12 * y' + m' - 2) % 12 + 1)
    have mb' := md_bd y' m'
    have u : num y' m' d' - numR (mplus y m d (n0 y m y' m' - 1)) < 31 := by
      rw [x0] at c
      rw [x1]
      unfold numR at c ⊢
      simp only [num_ms] at c ⊢
      omega
    have hb : bd y m d y' m' d' = num y' m' d' - numR (mplus y m d (n0 y m y' m' - 1)) := by unfold bd; rw [e]
    rw [e, hb]
    unfold numR at *
    omega
  · have e : bn y m d y' m' d' = n0 y m y' m' := by unfold bn; rw [if_neg c]
    have hb : bd y m d y' m' d' = num y' m' d' - numR (mplus y m d (n0 y m y' m')) := by unfold bd; rw [e]
    have u : num y' m' d' - numR (mplus y m d (n0 y m y' m')) < 31 := by
      have k1 : 12 * y + m - 1 + n0 y m y' m' = 12 * y' + m' - 1 := by unfold n0; omega
      have k2 : (12 * y' + m' - 1) / 12 = y' := by omega
      have k3 : (12 * y' + m' - 1) % 12 + 1 = m' := by omega
      have x0 := mplus_ok h a2 a3
      rw [k1, k2, k3] at x0
      have mb' := md_bd y' m'
      rw [x0] at c ⊢
      unfold numR at c ⊢
      simp only [num_ms] at c ⊢
      omega
    rw [e, hb]
    omega

end D
end Go.Proofs.YtpodhahlbdlgeaaDoor
