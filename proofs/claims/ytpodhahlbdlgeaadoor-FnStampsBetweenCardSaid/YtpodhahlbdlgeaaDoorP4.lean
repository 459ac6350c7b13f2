/- The plain mathematics of the date of a day. -/
import Derived.Test.YtpodhahlbdlgeaaDoorPlain2
namespace Go.Proofs.YtpodhahlbdlgeaaDoor
set_option linter.unusedVariables false
set_option linter.unusedSimpArgs false
namespace D

/-- A date and whether there is one, as values. -/
def drV (r : DR) : Value := .tuple #[.agg #[.int .i64 r.y, .int .i64 r.m, .int .i64 r.d], .bool r.ok]
theorem ny_mono {a b : Int} (h : a ≤ b) : ny a ≤ ny b := by unfold ny; omega
theorem year_ex {n : Int} (h1 : 0 ≤ n) (h2 : n ≤ 3652058) : ∃ y : Int, 1 ≤ y ∧ y ≤ 9999 ∧ ny y ≤ n ∧ n < ny (y + 1) := by
  have key : ∀ k : Nat, (k : Int) ≤ 9999 → n < ny (k + 1) → ∃ y : Int, 1 ≤ y ∧ y ≤ k ∧ ny y ≤ n ∧ n < ny (y + 1) := by
    intro k
    induction k with
    | zero => intro _ h; simp [ny] at h; omega
    | succ k ih =>
      intro hk h
      by_cases hc : n < ny ((k : Int) + 1)
      · obtain ⟨y, a, b, c⟩ := ih (by omega) hc
        exact ⟨y, a, by omega, c⟩
      · exact ⟨(k : Int) + 1, by omega, by omega, by omega, by simpa using h⟩
  obtain ⟨y, a, b, c⟩ := key 9999 (by omega) (by simp [ny]; omega)
  exact ⟨y, a, b, c⟩
theorem month_ex {y k : Int} (hy1 : 1 ≤ y) (hy2 : y ≤ 9999) (h1 : 0 ≤ k) (h2 : k < 365 + lp y) : ∃ m : Int, 1 ≤ m ∧ m ≤ 12 ∧ cum y m ≤ k ∧ k < cum y (m + 1) := by
  have ha := cum_all y hy1 hy2
  have key : ∀ j : Nat, (j : Int) ≤ 12 → k < cum y (j + 1) → ∃ m : Int, 1 ≤ m ∧ m ≤ j ∧ cum y m ≤ k ∧ k < cum y (m + 1) := by
    intro j
    induction j with
    | zero => intro _ h; have : cum y 1 = 0 := rfl; simp at h; omega
    | succ j ih =>
      intro hj h
      by_cases hc : k < cum y ((j : Int) + 1)
      · obtain ⟨y, a, b, c⟩ := ih (by omega) hc
        exact ⟨y, a, by omega, c⟩
      · exact ⟨(j : Int) + 1, by omega, by omega, by omega, by simpa using h⟩
  obtain ⟨m, a, b, c⟩ := key 12 (by omega) (by simp; omega)
  exact ⟨m, a, b, c⟩
/-- Every day of the range has its date. -/
theorem date_ex {n : Int} (h1 : 0 ≤ n) (h2 : n ≤ 3652058) : ∃ y m d : Int, dval y m d = true ∧ num y m d = n := by
  obtain ⟨y, y1, y2, y3, y4⟩ := year_ex h1 h2
  have hs := ny_succ y y1 y2
  obtain ⟨m, m1, m2, m3, m4⟩ := month_ex (k := n - ny y) y1 y2 (by omega) (by omega)
  have hc := cum_succ y m m1
  refine ⟨y, m, n - ny y - cum y m + 1, inR_true.2 (by omega), ?_⟩
  unfold num ord
  omega
/-- A date's own limits. -/
theorem date_in {y m d : Int} (h : dval y m d = true) : 0 ≤ num y m d ∧ num y m d ≤ 3652058 := num_bd h
theorem lp_eq (y : Int) : 365 + lp y = cum y 13 ∨ ¬ (1 ≤ y ∧ y ≤ 9999) := by
  by_cases h : 1 ≤ y ∧ y ≤ 9999
  · exact .inl (cum_all y h.1 h.2).symm
  · exact .inr h

end D
end Go.Proofs.YtpodhahlbdlgeaaDoor
