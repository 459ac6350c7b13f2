/- The walks of chapters 1 to 3. -/
import Derived.Test.YtbpdhehjnhefhaaDoorRows
import Derived.Test.YtbpdhehjnhefhaaDoorPlain
import Derived.WalkKit
import Derived.WalkSpells
import Derived.WalkLawsBesides
import Derived.Deep.QuietTactic
import Derived.BigQuiet
namespace Go.Proofs.YtbpdhehjnhefhaaDoor
set_option linter.unusedVariables false
set_option linter.unusedSimpArgs false
open Go.RowKit

set_option maxHeartbeats 400000 in
theorem within_any (n a b : Int) (w : World) : Calls Tryd.prog 35 #[.int .i64 n, .int .i64 a, .int .i64 b] w fun e w' => e = .returned (.bool (D.inR n a b)) ∧ w = w' := by
  by_cases h1 : a ≤ n
  all_goals
    by_cases h2 : n ≤ b
    all_goals
      go_enter Tryd.func35, Tryd.ntmps35
      go_wp2
      go_ret
      simp [D.inR, h1, h2]

set_option maxHeartbeats 400000 in
theorem yearValid_any (n : Int) (w : World) : Calls Tryd.prog 49 #[.int .i64 n] w fun e w' => e = .returned (.bool (D.inR n 1 9999)) ∧ w = w' := by
  go_enter Tryd.func49, Tryd.ntmps49
  go_wp2_with (go_at_call 35; refine (within_any _ _ _ _).mono ?_; rintro e w' ⟨rfl, rfl⟩)
  go_ret
  simp

set_option maxHeartbeats 400000 in
theorem leap_any (n : Int) (w : World) : Calls Tryd.prog 50 #[.int .i64 n] w fun e w' => e = .returned (.bool (D.leap n)) ∧ w = w' := by
  cases h1 : D.inR n 1 9999
  · go_enter Tryd.func50, Tryd.ntmps50
    go_wp2_with (go_at_call 49; refine (yearValid_any _ _).mono ?_; rintro e w' ⟨rfl, rfl⟩)
    go_ret
    simp [D.leap, h1]
  · have h0 := (D.inR_true.1 h1)
    have h01 := h0.1
    have h02 := h0.2
    clear h0
    cases h2 : (n % 4 == 0)
    all_goals
      cases h3 : (n % 100 == 0)
      all_goals
        cases h4 : (n % 400 == 0)
        all_goals
          go_enter Tryd.func50, Tryd.ntmps50
          go_wp2_with (go_at_call 49; refine (yearValid_any _ _).mono ?_; rintro e w' ⟨rfl, rfl⟩)
          all_goals
            go_ret
            simp_all [D.leap]

set_option maxHeartbeats 400000 in
theorem md_any (y m : Int) (w : World) (hb : D.Base w) : Calls Tryd.prog 36 #[.int .i64 y, .int .i64 m] w fun e w' => e = .returned (.int .i64 (D.md y m)) ∧ w = w' := by
  cases h1 : D.inR y 1 9999
  · go_enter Tryd.func36, Tryd.ntmps36
    go_wp2_with (go_at_call 49; refine (yearValid_any _ _).mono ?_; rintro e w' ⟨rfl, rfl⟩)
    go_ret
    simp [D.md, h1]
  · cases h2 : D.inR m 1 12
    · go_enter Tryd.func36, Tryd.ntmps36
      go_wp2_with (first | (go_at_call 49; refine (yearValid_any _ _).mono ?_; rintro e w' ⟨rfl, rfl⟩) | (go_at_call 35; refine (within_any _ _ _ _).mono ?_; rintro e w' ⟨rfl, rfl⟩))
      go_ret
      simp [D.md, h1, h2]
    · have h0 := (D.inR_true.1 h2)
      have h01 := h0.1
      have h02 := h0.2
      clear h0
      cases h3 : (m == 2)
      · have hc := hb.tab (m.toNat - 1) (by omega)
        have HE : Hid (D.md y m = D.mdTab.getD (m.toNat - 1) 0) := by
          show D.md y m = _
          have e : (m - 1).toNat = m.toNat - 1 := by omega
          have h3' : ¬ m = 2 := by simpa using h3
          simp [D.md, h1, h2, h3', e]
        go_enter Tryd.func36, Tryd.ntmps36
        go_wp2_with (first | (go_at_call 49; refine (yearValid_any _ _).mono ?_; rintro e w' ⟨rfl, rfl⟩) | (go_at_call 35; refine (within_any _ _ _ _).mono ?_; rintro e w' ⟨rfl, rfl⟩))
        go_ret
        rw [HE.out]
        simp
      · have h3' : m = 2 := by simpa using h3
        cases h4 : D.leap y
        · subst h3'
          have hc := hb.tab 1 (by omega)
          have HE : Hid (D.md y 2 = 28) := by
            show D.md y 2 = _
            simp [D.md, h1, h2, h4]
            rfl
          clear h01 h02 h2 h3
          have h2 : D.inR 2 1 12 = true := by decide
          go_enter Tryd.func36, Tryd.ntmps36
          go_wp2_with (first | (go_at_call 49; refine (yearValid_any _ _).mono ?_; rintro e w' ⟨rfl, rfl⟩) | (go_at_call 35; refine (within_any _ _ _ _).mono ?_; rintro e w' ⟨rfl, rfl⟩) | (go_at_call 50; refine (leap_any _ _).mono ?_; rintro e w' ⟨rfl, rfl⟩))
          go_ret
          rw [HE.out]
          simp [D.mdTab]
        · subst h3'
          clear h01 h02 h3
          go_enter Tryd.func36, Tryd.ntmps36
          go_wp2_with (first | (go_at_call 49; refine (yearValid_any _ _).mono ?_; rintro e w' ⟨rfl, rfl⟩) | (go_at_call 35; refine (within_any _ _ _ _).mono ?_; rintro e w' ⟨rfl, rfl⟩) | (go_at_call 50; refine (leap_any _ _).mono ?_; rintro e w' ⟨rfl, rfl⟩))
          go_ret
          simp [D.md, h1, h2, h4]

end Go.Proofs.YtbpdhehjnhefhaaDoor
