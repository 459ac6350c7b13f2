/- Plain laws: the date of a day, shifts by days, the stamp of an instant, rounding. -/
import Derived.Test.YtpodhahlbdlgeaaDoorP4
import Derived.Test.YtpodhahlbdlgeaaDoorPs
import Derived.Test.YtpodhahlbdlgeaaDoorPB
namespace Go.Proofs.YtpodhahlbdlgeaaDoor
set_option linter.unusedVariables false
set_option linter.unusedSimpArgs false
namespace D

/-- The date of a day, or none. -/
noncomputable def dateOf (n : Int) : DR := open Classical in
  if h : ∃ x : Int × Int × Int, dval x.1 x.2.1 x.2.2 = true ∧ num x.1 x.2.1 x.2.2 = n then ⟨h.choose.1, h.choose.2.1, h.choose.2.2, true⟩ else DR.no

theorem dateOf_num {y m d : Int} (h : dval y m d = true) : dateOf (num y m d) = ⟨y, m, d, true⟩ := by
  have hx : ∃ x : Int × Int × Int, dval x.1 x.2.1 x.2.2 = true ∧ num x.1 x.2.1 x.2.2 = num y m d := ⟨(y, m, d), h, rfl⟩
  unfold dateOf
  rw [dif_pos hx]
  obtain ⟨h1, h2, h3⟩ := num_inj hx.choose_spec.1 h hx.choose_spec.2
  rw [h1, h2, h3]

theorem dateOf_yes {n : Int} (h : inR n 0 3652058 = true) : ∃ y m d : Int, dval y m d = true ∧ num y m d = n ∧ dateOf n = ⟨y, m, d, true⟩ := by
  have hb := inR_true.1 h
  obtain ⟨y, m, d, h1, rfl⟩ := date_ex hb.1 hb.2
  exact ⟨y, m, d, h1, rfl, dateOf_num h1⟩

theorem dateOf_no {n : Int} (h : inR n 0 3652058 = false) : dateOf n = DR.no := by
  unfold dateOf
  rw [dif_neg]
  rintro ⟨x, h1, h2⟩
  have := num_bd h1
  rw [h2] at this
  exact inR_false.1 h this

/-- Some days later. -/
noncomputable def dayp (y m d n : Int) : DR := if dval y m d = true ∧ inR n (-3652058) 3652058 = true then dateOf (num y m d + n) else DR.no

/-- A stamp, or none. -/
structure SR where
  y : Int
  m : Int
  d : Int
  h : Int
  i : Int
  s : Int
  k : Int
  o : Int
  ok : Bool

def SR.no : SR := ⟨0, 0, 0, 0, 0, 0, 0, 0, false⟩

/-- The stamp with a time by the clock and an offset. -/
noncomputable def stampL (L o : Int) : SR := if (dateOf (L / 86400000)).ok = true then ⟨(dateOf (L / 86400000)).y, (dateOf (L / 86400000)).m, (dateOf (L / 86400000)).d, L % 86400000 / 3600000, L % 86400000 / 60000 % 60, L % 86400000 / 1000 % 60, L % 86400000 % 1000, o, true⟩ else SR.no

/-- The stamp with an instant and an offset. -/
noncomputable def stampAt (n o : Int) : SR := if inR n (-86400000) 315537984000000 = true ∧ inR o (-1439) 1439 = true ∧ 0 ≤ n + 60000 * o then stampL (n + 60000 * o) o else SR.no

theorem stampL_yes {L : Int} (o : Int) (h : inR (L / 86400000) 0 3652058 = true) : ∃ y m d : Int, dval y m d = true ∧ num y m d = L / 86400000 ∧ stampL L o = ⟨y, m, d, L % 86400000 / 3600000, L % 86400000 / 60000 % 60, L % 86400000 / 1000 % 60, L % 86400000 % 1000, o, true⟩ := by
  obtain ⟨y, m, d, h1, h2, h3⟩ := dateOf_yes h
  exact ⟨y, m, d, h1, h2, by simp [stampL, h3]⟩

theorem stampL_no {L : Int} (o : Int) (h : inR (L / 86400000) 0 3652058 = false) : stampL L o = SR.no := by
  simp [stampL, dateOf_no h, DR.no]

theorem cms_of (q : Int) : cms (q / 3600000) (q / 60000 % 60) (q / 1000 % 60) (q % 1000) = q := by unfold cms; omega

theorem cval_of {q : Int} (h1 : 0 ≤ q) (h2 : q < 86400000) : cval (q / 3600000) (q / 60000 % 60) (q / 1000 % 60) (q % 1000) = true := by
  simp only [cval, inR, Bool.and_eq_true, decide_eq_true_eq, Bool.or_eq_true]
  omega

/-- What there is of a stamp that is made of a time by the clock. -/
theorem stampL_ok {L o : Int} (ho : inR o (-1439) 1439 = true) (h : (stampL L o).ok = true) : ∃ y m d h i s k : Int, stampL L o = ⟨y, m, d, h, i, s, k, o, true⟩ ∧ sval y m d h i s k o = true ∧ inst y m d h i s k o = L - 60000 * o ∧ cms h i s k = L % 86400000 ∧ inR (L / 86400000) 0 3652058 = true := by
  cases hr : inR (L / 86400000) 0 3652058 with
  | false => rw [stampL_no o hr] at h; cases h
  | true =>
    obtain ⟨y, m, d, h1, h2, h3⟩ := stampL_yes o hr
    have hb := inR_true.1 hr
    refine ⟨y, m, d, _, _, _, _, h3, ?_, ?_, cms_of _, rfl⟩
    · have hc := cval_of (q := L % 86400000) (by omega) (by omega)
      simp only [sval, h1, hc, ho, Bool.and_self]
    · unfold inst
      rw [h2, cms_of]
      omega

def isUnit (u : Int) : Bool := u == 1000 || u == 60000 || u == 3600000 || u == 86400000

theorem isUnit_iff {u : Int} : isUnit u = true ↔ u = 1000 ∨ u = 60000 ∨ u = 3600000 ∨ u = 86400000 := by simp [isUnit, or_assoc]

/-! Whole units. -/
def rdL (l u : Int) : Int := l - l % u
def ruL (l u : Int) : Int := l + u - 1 - (l + u - 1) % u
def rnL (l u : Int) : Int := l + u / 2 - (l + u / 2) % u

theorem rdL_eq {n c u : Int} (hu : isUnit u = true) : rdL (86400000 * n + c) u = 86400000 * n + c - c % u := by
  unfold rdL
  rcases isUnit_iff.1 hu with rfl | rfl | rfl | rfl <;> omega

theorem ruL_eq {n c u : Int} (hu : isUnit u = true) : ruL (86400000 * n + c) u = 86400000 * n + c + (u - c % u) % u := by
  unfold ruL
  rcases isUnit_iff.1 hu with rfl | rfl | rfl | rfl <;> omega

theorem rnL_eq {n c u : Int} (hu : isUnit u = true) : rnL (86400000 * n + c) u = if 2 * (c % u) < u then rdL (86400000 * n + c) u else ruL (86400000 * n + c) u := by
  unfold rnL rdL ruL
  rcases isUnit_iff.1 hu with rfl | rfl | rfl | rfl <;> (split <;> omega)

/-- What a way to round leaves of a stamp. -/
noncomputable def roundV (ok : Bool) (L o : Int) : SR := if ok = true then stampAt (L - 60000 * o) o else SR.no

theorem stampAt_ok {n o : Int} (h : (stampAt n o).ok = true) : ∃ y m d h i s k : Int, stampAt n o = ⟨y, m, d, h, i, s, k, o, true⟩ ∧ sval y m d h i s k o = true ∧ inst y m d h i s k o = n ∧ cms h i s k = (n + 60000 * o) % 86400000 ∧ 0 ≤ n + 60000 * o ∧ (n + 60000 * o) / 86400000 ≤ 3652058 ∧ inR o (-1439) 1439 = true := by
  by_cases c : inR n (-86400000) 315537984000000 = true ∧ inR o (-1439) 1439 = true ∧ 0 ≤ n + 60000 * o
  · have e : stampAt n o = stampL (n + 60000 * o) o := if_pos c
    rw [e] at h ⊢
    obtain ⟨y, m, d, h', i, s, k, h1, h2, h3, h4, h5⟩ := stampL_ok c.2.1 h
    exact ⟨y, m, d, h', i, s, k, h1, h2, by omega, h4, c.2.2, (inR_true.1 h5).2, c.2.1⟩
  · have e : stampAt n o = SR.no := if_neg c
    rw [e] at h
    cases h

theorem stampAt_yes {n o : Int} (h1 : inR o (-1439) 1439 = true) (h2 : 0 ≤ n + 60000 * o) (h3 : (n + 60000 * o) / 86400000 ≤ 3652058) : (stampAt n o).ok = true := by
  have ho := inR_true.1 h1
  have e : stampAt n o = stampL (n + 60000 * o) o := if_pos ⟨inR_true.2 (by omega), h1, h2⟩
  obtain ⟨y, m, d, _, _, h6⟩ := stampL_yes (L := n + 60000 * o) o (inR_true.2 (by omega))
  rw [e, h6]

theorem rd_bd {l u : Int} (hu : isUnit u = true) (hl : 0 ≤ l) : 0 ≤ rdL l u ∧ rdL l u ≤ l ∧ l - rdL l u < u := by
  unfold rdL
  rcases isUnit_iff.1 hu with rfl | rfl | rfl | rfl <;> omega

theorem ru_bd {l u : Int} (hu : isUnit u = true) (hl : 0 ≤ l) : l ≤ ruL l u ∧ ruL l u - l < u ∧ ruL l u % 86400000 % u = 0 ∧ (ruL l u = rdL l u ∨ ruL l u = rdL l u + u) := by
  unfold ruL rdL
  rcases isUnit_iff.1 hu with rfl | rfl | rfl | rfl <;> omega

theorem rn_bd {l u : Int} (hu : isUnit u = true) (hl : 0 ≤ l) : 2 * (rnL l u - l) ≤ u ∧ 2 * (l - rnL l u) < u ∧ (rnL l u = rdL l u ∨ rnL l u = ruL l u) := by
  unfold rnL ruL rdL
  rcases isUnit_iff.1 hu with rfl | rfl | rfl | rfl <;> omega

end D
end Go.Proofs.YtpodhahlbdlgeaaDoor
