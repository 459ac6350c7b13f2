/- Plain laws: digits in strings. -/
import Derived.Test.YtpgbmohocfcjpaaGreatDoorE3m
import Derived.Test.YtpgbmohocfcjpaaGreatDoorPL
namespace Go.Proofs.YtpgbmohocfcjpaaGreatDoor
set_option linter.unusedVariables false
set_option linter.unusedSimpArgs false
namespace D
open Go.PlainAid (bt bt_nonneg bt_le bt_end)

/-- Is there a digit at a place? -/
def isD (s : ByteArray) (k : Nat) : Bool := decide (48 ≤ bt s k ∧ bt s k ≤ 57)

theorem isD_iff {s : ByteArray} {k : Nat} : isD s k = true ↔ 48 ≤ bt s k ∧ bt s k ≤ 57 := by simp [isD]

theorem isD_lt {s : ByteArray} {k : Nat} (h : isD s k = true) : k < s.size := by
  refine Nat.lt_of_not_le fun hle => ?_
  have := bt_end s hle
  have := isD_iff.1 h
  omega

/-- Digits at so many places. -/
def allD (s : ByteArray) (p : Nat) : Nat → Bool
  | 0 => true
  | m + 1 => allD s p m && isD s (p + m)

theorem allD_iff {s : ByteArray} {p : Nat} : ∀ {m : Nat}, allD s p m = true ↔ ∀ i, i < m → isD s (p + i) = true
  | 0 => by simp [allD]
  | m + 1 => by
    simp only [allD, Bool.and_eq_true, allD_iff (m := m)]
    constructor
    · rintro ⟨h1, h2⟩ i hi
      by_cases e : i = m
      · subst e; exact h2
      · exact h1 i (by omega)
    · exact fun h => ⟨fun i hi => h i (by omega), h m (by omega)⟩

/-- The number of so many digits. -/
def numL (s : ByteArray) (p : Nat) : Nat → Int
  | 0 => 0
  | m + 1 => 10 * numL s p m + (bt s (p + m) - 48)

def p10 : Nat → Int
  | 0 => 1
  | m + 1 => 10 * p10 m

theorem numL_bd {s : ByteArray} {p : Nat} : ∀ {m : Nat}, allD s p m = true → 0 ≤ numL s p m ∧ numL s p m < p10 m
  | 0, _ => by simp [numL, p10]
  | m + 1, h => by
    simp only [allD, Bool.and_eq_true] at h
    have h1 := numL_bd h.1
    have h2 := isD_iff.1 h.2
    simp only [numL, p10]
    omega

/-- A number's digits, as bytes. -/
def digL : Int → Nat → List Int
  | _, 0 => []
  | n, k + 1 => digL (n / 10) k ++ [48 + n % 10]

theorem digL_length : ∀ (n : Int) (k : Nat), (digL n k).length = k
  | _, 0 => rfl
  | n, k + 1 => by simp [digL, digL_length (n / 10) k]

theorem digL_in : ∀ (n : Int) (k : Nat), ∀ x ∈ digL n k, 48 ≤ x ∧ x ≤ 57
  | _, 0, x, h => by simp [digL] at h
  | n, k + 1, x, h => by
    simp only [digL, List.mem_append, List.mem_singleton] at h
    rcases h with h | rfl
    · exact digL_in (n / 10) k x h
    · omega

/-- The digits of a number that was read are those that were read. -/
theorem digL_num {s : ByteArray} {p : Nat} : ∀ {m : Nat}, allD s p m = true → digL (numL s p m) m = (List.range m).map fun i => bt s (p + i)
  | 0, _ => rfl
  | m + 1, h => by
    simp only [allD, Bool.and_eq_true] at h
    have h1 := numL_bd h.1
    have h2 := isD_iff.1 h.2
    have e1 : numL s p (m + 1) / 10 = numL s p m := by simp only [numL]; omega
    have e2 : 48 + numL s p (m + 1) % 10 = bt s (p + m) := by simp only [numL]; omega
    rw [digL, e1, e2, digL_num h.1, List.range_succ, List.map_append]
    rfl

theorem strOfNums_append (a b : List Int) : strOfNums a ++ strOfNums b = strOfNums (a ++ b) := by
  unfold strOfNums
  rw [ByteArray.mk_append_mk, List.map_append]

theorem bt_strOf (l : List Int) (k : Nat) (h : ∀ x ∈ l, 0 ≤ x ∧ x ≤ 255) : bt (strOfNums l) k = l.getD k 0 := by
  unfold bt
  by_cases hk : k < l.length
  · rw [dif_pos (by rw [strOfNums_size]; exact hk)]
    have hx := h l[k] (List.getElem_mem hk)
    have e : (strOfNums l)[k]'(by rw [strOfNums_size]; exact hk) = UInt8.ofNat (l[k]).toNat := by
      show (strOfNums l).data[k]'_ = _
      simp [strOfNums]
    rw [e]
    simp only [List.getD, List.getElem?_eq_getElem hk, Option.getD_some]
    have : (UInt8.ofNat (l[k]).toNat).toNat = (l[k]).toNat := by
      rw [UInt8.toNat_ofNat']
      omega
    rw [this]
    omega
  · rw [dif_neg (by rw [strOfNums_size]; exact hk)]
    simp [List.getD, List.getElem?_eq_none (Nat.le_of_not_lt hk)]

theorem bt_ext {s t : ByteArray} (hs : s.size = t.size) (h : ∀ k, k < s.size → bt s k = bt t k) : s = t := by
  refine ByteArray.ext (Array.ext hs fun k h1 h2 => ?_)
  have h1' : k < s.size := h1
  have h2' : k < t.size := h2
  have := h k h1'
  unfold bt at this
  rw [dif_pos h1', dif_pos h2'] at this
  exact UInt8.toNat_inj.1 (Int.ofNat.inj this)

/-- When a string is that of some bytes. -/
theorem eq_strOf {s : ByteArray} {l : List Int} (hl : ∀ x ∈ l, 0 ≤ x ∧ x ≤ 255) : s = strOfNums l ↔ s.size = l.length ∧ ∀ i, i < l.length → bt s i = l.getD i 0 := by
  constructor
  · rintro rfl
    exact ⟨strOfNums_size l, fun i _ => bt_strOf l i hl⟩
  · rintro ⟨h1, h2⟩
    exact bt_ext (by rw [h1, strOfNums_size]) fun k hk => by rw [bt_strOf l k hl]; exact h2 k (by omega)

end D
end Go.Proofs.YtpgbmohocfcjpaaGreatDoor

namespace Go.Proofs.YtpgbmohocfcjpaaGreatDoor
set_option linter.unusedVariables false
set_option linter.unusedSimpArgs false
namespace D
open Go.PlainAid (bt bt_nonneg bt_le bt_end)

/-- The number of digits, if they are there. -/
def numV (s : ByteArray) (p m : Nat) : Int := if allD s p m = true then numL s p m else 0

/-- The place behind digits, if they are there. -/
def nxt (s : ByteArray) (p m : Nat) : Nat := if allD s p m = true then p + m else p

/-- Is a byte there? -/
def isB (s : ByteArray) (p : Nat) (c : Int) : Bool := decide (p < s.size ∧ bt s p = c)

/-- The place behind a byte, if it is there. -/
def takN (s : ByteArray) (p : Nat) (c : Int) : Nat := if isB s p c = true then p + 1 else p

def btV (s : ByteArray) (p : Nat) (h : Bool) : Bool := !h || isB s p 45
def btN (s : ByteArray) (p : Nat) (h : Bool) : Nat := if h = true ∧ isB s p 45 = true then p + 1 else p

theorem nxt_le {s : ByteArray} {p m : Nat} (hm : 0 < m) (h : p ≤ s.size) : nxt s p m ≤ s.size := by
  unfold nxt
  split
  · rename_i h1
    have := isD_lt (allD_iff.1 h1 (m - 1) (by omega))
    omega
  · exact h

theorem takN_le {s : ByteArray} {p : Nat} {c : Int} (h : p ≤ s.size) : takN s p c ≤ s.size := by
  unfold takN
  split
  · rename_i h1
    simp only [isB, decide_eq_true_eq] at h1
    omega
  · exact h

theorem btN_le {s : ByteArray} {p : Nat} {b : Bool} (h : p ≤ s.size) : btN s p b ≤ s.size := by
  unfold btN
  split
  · rename_i h1
    have h2 := h1.2
    simp only [isB, decide_eq_true_eq] at h2
    omega
  · exact h

theorem p10_le {k : Nat} (h : k ≤ 6) : p10 k ≤ 1000000 := by
  rcases (by omega : k = 0 ∨ k = 1 ∨ k = 2 ∨ k = 3 ∨ k = 4 ∨ k = 5 ∨ k = 6) with rfl | rfl | rfl | rfl | rfl | rfl | rfl <;> decide

theorem numV_bd (s : ByteArray) (p : Nat) {m : Nat} (h : m ≤ 6) : 0 ≤ numV s p m ∧ numV s p m < p10 m := by
  unfold numV
  split
  · rename_i h1
    exact numL_bd h1
  · rcases (by omega : m = 0 ∨ m = 1 ∨ m = 2 ∨ m = 3 ∨ m = 4 ∨ m = 5 ∨ m = 6) with rfl | rfl | rfl | rfl | rfl | rfl | rfl <;> decide

/-! ### Weeks -/
def fmon (y : Int) : Int := ny y + 3 - (ny y + 3) % 7
def wks (y : Int) : Int := if inR y 1 9999 = true then (fmon (y + 1) - fmon y) / 7 else 0

theorem fmon_bd {y : Int} (h : 1 ≤ y ∧ y ≤ 10000) : 0 ≤ fmon y ∧ fmon y ≤ 3652062 := by
  have hn := ny_bd y h.1 h.2
  unfold fmon
  omega

theorem wks_bd (y : Int) : 0 ≤ wks y ∧ wks y ≤ 53 := by
  unfold wks
  split
  · rename_i h
    have h1 := inR_true.1 h
    have h2 := ny_succ y h1.1 h1.2
    have h3 := lp_bd y
    unfold fmon
    omega
  · omega

theorem wks_yes {y w : Int} (h : inR w 1 (wks y) = true) : 1 ≤ y ∧ y ≤ 9999 ∧ 1 ≤ w ∧ w ≤ 53 ∧ fmon y + 7 * (w - 1) ≤ fmon (y + 1) - 7 := by
  have h1 := inR_true.1 h
  have h2 := wks_bd y
  cases h3 : inR y 1 9999 with
  | true =>
    have e : wks y = (fmon (y + 1) - fmon y) / 7 := if_pos h3
    have h4 := inR_true.1 h3
    have h5 : fmon (y + 1) % 7 = 0 ∧ fmon y % 7 = 0 := by unfold fmon; omega
    omega
  | false =>
    have e : wks y = 0 := if_neg (by simp [h3])
    omega

/-- The date of a day of a week. -/
noncomputable def wkD (y w d : Int) : DR := if inR w 1 (wks y) = true ∧ inR d 1 7 = true then dateOf (fmon y + 7 * (w - 1) + d - 1) else DR.no

/-- The date of a day of a year. -/
noncomputable def orD (y k : Int) : DR := if inR y 1 9999 = true ∧ inR k 1 (ny (y + 1) - ny y) = true then dateOf (ny y + k - 1) else DR.no

/-- The Thursday of a day's week. -/
def thu (n : Int) : Int := n - n % 7 + 3

theorem thu_in {n : Int} (h : 0 ≤ n ∧ n ≤ 3652058) : 0 ≤ thu n ∧ thu n ≤ 3652058 := by unfold thu; omega

/-! ### What the forms read -/
def m1 (s : ByteArray) : Nat := nxt s 0 4
def m2 (s : ByteArray) (h : Bool) : Nat := btN s (m1 s) h
def m3 (s : ByteArray) (h : Bool) : Nat := nxt s (m2 s h) 2
def m4 (s : ByteArray) (h : Bool) : Nat := btN s (m3 s h) h
def m5 (s : ByteArray) (h : Bool) : Nat := nxt s (m4 s h) 2
def rdM (s : ByteArray) (h : Bool) : DR := ⟨numV s 0 4, numV s (m2 s h) 2, numV s (m4 s h) 2, allD s 0 4 && allD s (m2 s h) 2 && allD s (m4 s h) 2 && btV s (m1 s) h && btV s (m3 s h) h && dval (numV s 0 4) (numV s (m2 s h) 2) (numV s (m4 s h) 2)⟩

def k2 (s : ByteArray) (h : Bool) : Nat := if btV s (m1 s) h = true then takN s (m2 s h) 87 else m2 s h
def k3 (s : ByteArray) (h : Bool) : Nat := nxt s (k2 s h) 2
def k4 (s : ByteArray) (h : Bool) : Nat := btN s (k3 s h) h
def k5 (s : ByteArray) (h : Bool) : Nat := nxt s (k4 s h) 1
noncomputable def rdKd (s : ByteArray) (h : Bool) : DR := wkD (numV s 0 4) (numV s (k2 s h) 2) (numV s (k4 s h) 1)
noncomputable def rdK (s : ByteArray) (h : Bool) : DR := ⟨(rdKd s h).y, (rdKd s h).m, (rdKd s h).d, allD s 0 4 && allD s (k2 s h) 2 && allD s (k4 s h) 1 && (btV s (m1 s) h && isB s (m2 s h) 87) && btV s (k3 s h) h && (rdKd s h).ok⟩

def o3 (s : ByteArray) (h : Bool) : Nat := nxt s (m2 s h) 3
noncomputable def rdOd (s : ByteArray) (h : Bool) : DR := orD (numV s 0 4) (numV s (m2 s h) 3)
noncomputable def rdO (s : ByteArray) (h : Bool) : DR := ⟨(rdOd s h).y, (rdOd s h).m, (rdOd s h).d, allD s 0 4 && allD s (m2 s h) 3 && btV s (m1 s) h && (rdOd s h).ok⟩

end D
end Go.Proofs.YtpgbmohocfcjpaaGreatDoor

namespace Go.Proofs.YtpgbmohocfcjpaaGreatDoor
set_option linter.unusedVariables false
set_option linter.unusedSimpArgs false
namespace D
open Go.PlainAid (bt bt_nonneg bt_le bt_end)

/-- The year of a day's week. -/
noncomputable def wyr (n : Int) : Int := (dateOf (thu n)).y

/-- The number of a day's week. -/
noncomputable def wno (n : Int) : Int := (thu n - ny (wyr n)) / 7 + 1

theorem wyr_date {n : Int} (h : 0 ≤ n ∧ n ≤ 3652058) : ∃ m d : Int, dval (wyr n) m d = true ∧ num (wyr n) m d = thu n := by
  obtain ⟨y, m, d, h1, h2, h3⟩ := dateOf_yes (n := thu n) (inR_true.2 (thu_in h))
  have e : wyr n = y := by unfold wyr; rw [h3]
  rw [e]
  exact ⟨m, d, h1, h2⟩

theorem wyr_in {n : Int} (h : 0 ≤ n ∧ n ≤ 3652058) : 1 ≤ wyr n ∧ wyr n ≤ 9999 ∧ ny (wyr n) ≤ thu n ∧ thu n < ny (wyr n + 1) := by
  obtain ⟨m, d, h1, h2⟩ := wyr_date h
  have h3 := dval_bd h1
  have h4 := num_in h1
  omega

theorem thu_ge {n : Int} (Y : Int) (h : 0 ≤ n) : fmon Y ≤ n ↔ ny Y ≤ thu n := by
  unfold fmon thu
  omega

theorem wyr_or {n y : Int} (h : 0 ≤ n ∧ n ≤ 3652058) (hy : 1 ≤ y ∧ y ≤ 9999) (hn : ny y ≤ n ∧ n < ny (y + 1)) : (wyr n = y - 1 ∧ n < fmon y) ∨ (wyr n = y ∧ fmon y ≤ n ∧ n < fmon (y + 1)) ∨ (wyr n = y + 1 ∧ fmon y ≤ n ∧ fmon (y + 1) ≤ n) := by
  have h1 := wyr_in h
  have g1 := thu_ge y h.1
  have g2 := thu_ge (y + 1) h.1
  have ht : n - 3 ≤ thu n ∧ thu n ≤ n + 3 := by unfold thu; omega
  have s1 : ny (y - 1) + 365 ≤ ny y := by unfold ny; omega
  have s2 : ny (y + 1) + 365 ≤ ny (y + 2) := by unfold ny; omega
  have k1 : ¬ wyr n < y - 1 := fun hlt => by
    have := ny_mono (a := wyr n + 1) (b := y - 1) (by omega)
    omega
  have k2 : ¬ y + 1 < wyr n := fun hlt => by
    have := ny_mono (a := y + 2) (b := wyr n) (by omega)
    omega
  have k3 : wyr n = y - 1 → n < fmon y := fun e => by
    have := h1.2.2.2
    rw [e, show y - 1 + 1 = y by omega] at this
    omega
  have k4 : wyr n = y → fmon y ≤ n ∧ n < fmon (y + 1) := fun e => by
    rw [e] at h1
    omega
  have k5 : wyr n = y + 1 → fmon y ≤ n ∧ fmon (y + 1) ≤ n := fun e => by
    rw [e] at h1
    omega
  rcases (by omega : wyr n = y - 1 ∨ wyr n = y ∨ wyr n = y + 1) with e | e | e
  · exact .inl ⟨e, k3 e⟩
  · exact .inr (.inl ⟨e, k4 e⟩)
  · exact .inr (.inr ⟨e, k5 e⟩)

theorem wno_eq {n : Int} (h : 0 ≤ n ∧ n ≤ 3652058) : wno n = (n - fmon (wyr n)) / 7 + 1 := by
  unfold wno fmon thu
  omega

theorem wda_eq {n : Int} (h : 0 ≤ n ∧ n ≤ 3652058) : (n - fmon (wyr n)) % 7 + 1 = n % 7 + 1 := by
  unfold fmon
  omega

theorem wno_bd {n : Int} (h : 0 ≤ n ∧ n ≤ 3652058) : 1 ≤ wno n ∧ wno n ≤ wks (wyr n) := by
  have h1 := wyr_in h
  have h2 : wks (wyr n) = (fmon (wyr n + 1) - fmon (wyr n)) / 7 := if_pos (inR_true.2 ⟨h1.1, h1.2.1⟩)
  have g1 := (thu_ge (wyr n) h.1).2 h1.2.2.1
  have g2 : n < fmon (wyr n + 1) := by
    have := thu_ge (wyr n + 1) h.1
    omega
  have k1 : fmon (wyr n + 1) % 7 = 0 ∧ fmon (wyr n) % 7 = 0 := by unfold fmon; omega
  rw [h2, wno_eq h]
  omega

def hy1 (h : Bool) : List Int := if h = true then [45] else []

/-- A date in a form, as bytes. -/
noncomputable def dtL (y m d f : Int) (h : Bool) : List Int :=
  if f = 0 then digL y 4 ++ hy1 h ++ digL m 2 ++ hy1 h ++ digL d 2
  else if f = 1 then digL (wyr (num y m d)) 4 ++ hy1 h ++ (87 :: digL (wno (num y m d)) 2) ++ hy1 h ++ digL (num y m d % 7 + 1) 1
  else digL y 4 ++ hy1 h ++ digL (ord y m d) 3

end D
end Go.Proofs.YtpgbmohocfcjpaaGreatDoor

namespace Go.Proofs.YtpgbmohocfcjpaaGreatDoor
set_option linter.unusedVariables false
set_option linter.unusedSimpArgs false
namespace D
open Go.RowKit
open Go.PlainAid (bt bt_nonneg bt_le bt_end)

/-- Which of six ways to read a text serves (the program). -/
noncomputable def okP (s : ByteArray) : Nat → Bool
  | 0 => (rdM s true).ok && decide ((m5 s true : Int) = s.size)
  | 1 => (rdM s false).ok && decide ((m5 s false : Int) = s.size)
  | 2 => (rdK s true).ok && decide ((k5 s true : Int) = s.size)
  | 3 => (rdK s false).ok && decide ((k5 s false : Int) = s.size)
  | 4 => (rdO s true).ok && decide ((o3 s true : Int) = s.size)
  | 5 => (rdO s false).ok && decide ((o3 s false : Int) = s.size)
  | _ => false

noncomputable def dP (s : ByteArray) : Nat → DR
  | 0 => rdM s true
  | 1 => rdM s false
  | 2 => rdK s true
  | 3 => rdK s false
  | 4 => rdO s true
  | 5 => rdO s false
  | _ => DR.no

/-- A date, its form, and whether there are hyphens. -/
def dfT (r : DR) (k : Nat) : Value := .tuple #[.agg #[.int .i64 r.y, .int .i64 r.m, .int .i64 r.d], .int .i64 (k / 2 : Nat), .bool (decide (k % 2 = 0)), .bool true]

def dfNo : Value := .tuple #[.agg #[.int .i64 0, .int .i64 0, .int .i64 0], .int .i64 0, .bool false, .bool false]

def dfV (ok : Nat → Bool) (d : Nat → DR) : Value :=
  if ok 0 = true then dfT (d 0) 0 else if ok 1 = true then dfT (d 1) 1 else if ok 2 = true then dfT (d 2) 2 else if ok 3 = true then dfT (d 3) 3 else if ok 4 = true then dfT (d 4) 4 else if ok 5 = true then dfT (d 5) 5 else dfNo

theorem dfV_at {ok : Nat → Bool} {d : Nat → DR} {k : Nat} (hk : k < 6) (h : ∀ j, j < k → ok j = false) (hy : ok k = true) : dfV ok d = dfT (d k) k := by
  rcases (by omega : k = 0 ∨ k = 1 ∨ k = 2 ∨ k = 3 ∨ k = 4 ∨ k = 5) with rfl | rfl | rfl | rfl | rfl | rfl
  · simp [dfV, hy]
  · simp [dfV, hy, h 0 (by omega)]
  · simp [dfV, hy, h 0 (by omega), h 1 (by omega)]
  · simp [dfV, hy, h 0 (by omega), h 1 (by omega), h 2 (by omega)]
  · simp [dfV, hy, h 0 (by omega), h 1 (by omega), h 2 (by omega), h 3 (by omega)]
  · simp [dfV, hy, h 0 (by omega), h 1 (by omega), h 2 (by omega), h 3 (by omega), h 4 (by omega)]

theorem dfV_no {ok : Nat → Bool} {d : Nat → DR} (h : ∀ j, j < 6 → ok j = false) : dfV ok d = dfNo := by
  simp [dfV, h 0 (by omega), h 1 (by omega), h 2 (by omega), h 3 (by omega), h 4 (by omega), h 5 (by omega)]

theorem dfV_or (ok : Nat → Bool) (d : Nat → DR) : (∃ k, k < 6 ∧ (∀ j, j < k → ok j = false) ∧ ok k = true ∧ dfV ok d = dfT (d k) k) ∨ ((∀ j, j < 6 → ok j = false) ∧ dfV ok d = dfNo) := by
  have step : ∀ n, n ≤ 6 → (∃ k, k < n ∧ (∀ j, j < k → ok j = false) ∧ ok k = true) ∨ (∀ j, j < n → ok j = false) := by
    intro n
    induction n with
    | zero => exact fun _ => .inr fun j hj => by omega
    | succ n ih =>
      intro hn
      rcases ih (by omega) with ⟨k, h1, h2, h3⟩ | h
      · exact .inl ⟨k, by omega, h2, h3⟩
      · cases hk : ok n with
        | true => exact .inl ⟨n, by omega, h, hk⟩
        | false =>
          refine .inr fun j hj => ?_
          by_cases e : j = n
          · rw [e]; exact hk
          · exact h j (by omega)
  rcases step 6 (by omega) with ⟨k, h1, h2, h3⟩ | h
  · exact .inl ⟨k, h1, h2, h3, dfV_at h1 h2 h3⟩
  · exact .inr ⟨h, dfV_no h⟩

/-! ### The reference -/
def l4M (s : ByteArray) (a b : Nat) : DR := if allD s 0 4 = true then ⟨numV s 0 4, numV s a 2, numV s b 2, allD s a 2 && allD s b 2⟩ else DR.no
noncomputable def l4K (s : ByteArray) (a b : Nat) : DR := if (allD s 0 4 && allD s a 2 && allD s b 1) = true then wkD (numV s 0 4) (numV s a 2) (numV s b 1) else DR.no
noncomputable def l4O (s : ByteArray) (a : Nat) : DR := if (allD s 0 4 && allD s a 3) = true then orD (numV s 0 4) (numV s a 3) else DR.no

noncomputable def dS (s : ByteArray) : Nat → DR
  | 0 => l4M s 5 8
  | 1 => l4M s 4 6
  | 2 => l4K s 6 9
  | 3 => l4K s 5 7
  | 4 => l4O s 5
  | 5 => l4O s 4
  | _ => DR.no

/-- Which of six ways to read a text serves (the reference). -/
noncomputable def okS (s : ByteArray) (k : Nat) : Bool :=
  (dS s k).ok && dval (dS s k).y (dS s k).m (dS s k).d && decide (strOfNums (dtL (dS s k).y (dS s k).m (dS s k).d (k / 2 : Nat) (decide (k % 2 = 0))) = s)

/-- The text of a date in a form, or none. -/
noncomputable def dtS (y m d f : Int) (h : Bool) : Value := if dval y m d = true ∧ inR f 0 2 = true then .tuple #[.string (strOfNums (dtL y m d f h)), .bool true] else .tuple #[.string ⟨#[]⟩, .bool false]

end D
end Go.Proofs.YtpgbmohocfcjpaaGreatDoor

namespace Go.Proofs.YtpgbmohocfcjpaaGreatDoor
set_option linter.unusedVariables false
set_option linter.unusedSimpArgs false
namespace D
open Go.PlainAid (bt bt_nonneg bt_le bt_end)

theorem isB_iff {s : ByteArray} {p : Nat} {c : Int} : isB s p c = true ↔ p < s.size ∧ bt s p = c := by simp [isB]

theorem numV_eq {s : ByteArray} {p m : Nat} (h : allD s p m = true) : numV s p m = numL s p m := if_pos h

theorem nxt_eq {s : ByteArray} {p m : Nat} (h : allD s p m = true) : nxt s p m = p + m := if_pos h

theorem takN_eq {s : ByteArray} {p : Nat} {c : Int} (h : isB s p c = true) : takN s p c = p + 1 := if_pos h

theorem btN_t {s : ByteArray} {p : Nat} (h : isB s p 45 = true) : btN s p true = p + 1 := if_pos ⟨rfl, h⟩

theorem btN_f (s : ByteArray) (p : Nat) : btN s p false = p := if_neg (by simp)

theorem btV_t (s : ByteArray) (p : Nat) : btV s p true = isB s p 45 := by simp [btV]

theorem btV_f (s : ByteArray) (p : Nat) : btV s p false = true := by simp [btV]

theorem bt_in (s : ByteArray) (p : Nat) : 0 ≤ bt s p ∧ bt s p ≤ 255 := ⟨bt_nonneg s p, bt_le s p⟩

theorem wyr_eq {n y : Int} (hn : 0 ≤ n ∧ n ≤ 3652058) (h1 : ny y ≤ thu n) (h2 : thu n < ny (y + 1)) : wyr n = y := by
  have h := wyr_in hn
  rcases (by omega : wyr n < y ∨ wyr n = y ∨ y < wyr n) with e | e | e
  · have := ny_mono (a := wyr n + 1) (b := y) (by omega)
    omega
  · exact e
  · have := ny_mono (a := y + 1) (b := wyr n) (by omega)
    omega

/-- The date of a day of a week has that week. -/
theorem wk_back {y w d : Int} (h : (wkD y w d).ok = true) : dval (wkD y w d).y (wkD y w d).m (wkD y w d).d = true ∧ wyr (num (wkD y w d).y (wkD y w d).m (wkD y w d).d) = y ∧ wno (num (wkD y w d).y (wkD y w d).m (wkD y w d).d) = w ∧ num (wkD y w d).y (wkD y w d).m (wkD y w d).d % 7 + 1 = d := by
  by_cases c : inR w 1 (wks y) = true ∧ inR d 1 7 = true
  · have e : wkD y w d = dateOf (fmon y + 7 * (w - 1) + d - 1) := if_pos c
    rw [e] at h ⊢
    have hy := wks_yes c.1
    have hd := inR_true.1 c.2
    cases hr : inR (fmon y + 7 * (w - 1) + d - 1) 0 3652058 with
    | false => rw [dateOf_no hr] at h; cases h
    | true =>
      obtain ⟨y', m', d', g1, g2, g3⟩ := dateOf_yes hr
      rw [g3]
      simp only [g2]
      have hn := inR_true.1 hr
      have k1 : fmon y = ny y + 3 - (ny y + 3) % 7 := rfl
      have k2 : fmon (y + 1) = ny (y + 1) + 3 - (ny (y + 1) + 3) % 7 := rfl
      have k3 : thu (fmon y + 7 * (w - 1) + d - 1) = fmon y + 7 * (w - 1) + d - 1 - (fmon y + 7 * (w - 1) + d - 1) % 7 + 3 := rfl
      have k0 : fmon y % 7 = 0 := by omega
      have k4 : thu (fmon y + 7 * (w - 1) + d - 1) = fmon y + 7 * (w - 1) + 3 := by omega
      have k5 := wyr_eq (y := y) hn (by omega) (by omega)
      refine ⟨g1, k5, ?_, by omega⟩
      rw [wno_eq hn, k5]
      omega
  · have e : wkD y w d = DR.no := if_neg c
    rw [e] at h
    cases h

/-- The date of a day of a year has that day. -/
theorem or_back {y k : Int} (h : (orD y k).ok = true) : dval (orD y k).y (orD y k).m (orD y k).d = true ∧ (orD y k).y = y ∧ ord (orD y k).y (orD y k).m (orD y k).d = k := by
  by_cases c : inR y 1 9999 = true ∧ inR k 1 (ny (y + 1) - ny y) = true
  · have e : orD y k = dateOf (ny y + k - 1) := if_pos c
    rw [e] at h ⊢
    have hy := inR_true.1 c.1
    have hk := inR_true.1 c.2
    have hn1 := ny_bd y (by omega) (by omega)
    have hn2 := ny_bd (y + 1) (by omega) (by omega)
    obtain ⟨y', m', d', g1, g2, g3⟩ := dateOf_yes (n := ny y + k - 1) (inR_true.2 (by omega))
    rw [g3]
    have hin := num_in g1
    have e2 : y' = y := by
      rcases (by omega : y' < y ∨ y' = y ∨ y < y') with e | e | e
      · have := ny_mono (a := y' + 1) (b := y) (by omega)
        omega
      · exact e
      · have := ny_mono (a := y + 1) (b := y') (by omega)
        omega
    refine ⟨g1, e2, ?_⟩
    have : num y' m' d' = ny y' + ord y' m' d' - 1 := rfl
    rw [e2] at this g2 ⊢
    show ord y m' d' = k
    omega
  · have e : orD y k = DR.no := if_neg c
    rw [e] at h
    cases h

theorem okP0 (s : ByteArray) : okP s 0 = true ↔ allD s 0 4 = true ∧ bt s 4 = 45 ∧ allD s 5 2 = true ∧ bt s 7 = 45 ∧ allD s 8 2 = true ∧ s.size = 10 ∧ dval (numL s 0 4) (numL s 5 2) (numL s 8 2) = true := by
  constructor
  · intro hk
    simp only [okP, rdM, Bool.and_eq_true, decide_eq_true_eq] at hk
    obtain ⟨⟨⟨⟨⟨⟨a1, a2⟩, a3⟩, a4⟩, a5⟩, a6⟩, a7⟩ := hk
    have e1 : m1 s = 4 := nxt_eq a1
    rw [e1, btV_t] at a4
    have e2 : m2 s true = 5 := by show btN s (m1 s) true = _; rw [e1]; exact btN_t a4
    rw [e2] at a2
    have e3 : m3 s true = 7 := by show nxt s (m2 s true) 2 = _; rw [e2]; exact nxt_eq a2
    rw [e3, btV_t] at a5
    have e4 : m4 s true = 8 := by show btN s (m3 s true) true = _; rw [e3]; exact btN_t a5
    rw [e4] at a3
    have e5 : m5 s true = 10 := by show nxt s (m4 s true) 2 = _; rw [e4]; exact nxt_eq a3
    rw [e2, e4, numV_eq a1, numV_eq a2, numV_eq a3] at a6
    rw [e5] at a7
    exact ⟨a1, (isB_iff.1 a4).2, a2, (isB_iff.1 a5).2, a3, by omega, a6⟩
  · rintro ⟨a1, b1, a2, b2, a3, hz, a6⟩
    have e1 : m1 s = 4 := nxt_eq a1
    have a4 : isB s 4 45 = true := isB_iff.2 ⟨by omega, b1⟩
    have e2 : m2 s true = 5 := by show btN s (m1 s) true = _; rw [e1]; exact btN_t a4
    have e3 : m3 s true = 7 := by show nxt s (m2 s true) 2 = _; rw [e2]; exact nxt_eq a2
    have a5 : isB s 7 45 = true := isB_iff.2 ⟨by omega, b2⟩
    have e4 : m4 s true = 8 := by show btN s (m3 s true) true = _; rw [e3]; exact btN_t a5
    have e5 : m5 s true = 10 := by show nxt s (m4 s true) 2 = _; rw [e4]; exact nxt_eq a3
    simp only [okP, rdM, Bool.and_eq_true, decide_eq_true_eq]
    rw [e1, e2, e3, e4, e5, btV_t, btV_t, numV_eq a1, numV_eq a2, numV_eq a3]
    exact ⟨⟨⟨⟨⟨⟨a1, a2⟩, a3⟩, a4⟩, a5⟩, a6⟩, by omega⟩

theorem dP0 (s : ByteArray) (hk : allD s 0 4 = true ∧ bt s 4 = 45 ∧ allD s 5 2 = true ∧ bt s 7 = 45 ∧ allD s 8 2 = true ∧ s.size = 10 ∧ dval (numL s 0 4) (numL s 5 2) (numL s 8 2) = true) : dP s 0 = ⟨numL s 0 4, numL s 5 2, numL s 8 2, true⟩ := by
  have h0 := (okP0 s).2 hk
  obtain ⟨a1, b1, a2, b2, a3, hz, a6⟩ := hk
  have e1 : m1 s = 4 := nxt_eq a1
  have a4 : isB s 4 45 = true := isB_iff.2 ⟨by omega, b1⟩
  have e2 : m2 s true = 5 := by show btN s (m1 s) true = _; rw [e1]; exact btN_t a4
  have e3 : m3 s true = 7 := by show nxt s (m2 s true) 2 = _; rw [e2]; exact nxt_eq a2
  have a5 : isB s 7 45 = true := isB_iff.2 ⟨by omega, b2⟩
  have e4 : m4 s true = 8 := by show btN s (m3 s true) true = _; rw [e3]; exact btN_t a5
  have h1 : (rdM s true).ok = true := by
    simp only [okP, Bool.and_eq_true] at h0
    exact h0.1
  show rdM s true = _
  have h2 : (rdM s true) = ⟨numV s 0 4, numV s (m2 s true) 2, numV s (m4 s true) 2, (rdM s true).ok⟩ := rfl
  rw [h2, h1, e2, e4, numV_eq a1, numV_eq a2, numV_eq a3]

theorem tx0 (s : ByteArray) (a1 : allD s 0 4 = true) (a2 : allD s 5 2 = true) (a3 : allD s 8 2 = true) : strOfNums (dtL (numL s 0 4) (numL s 5 2) (numL s 8 2) 0 true) = s ↔ s.size = 10 ∧ bt s 4 = 45 ∧ bt s 7 = 45 := by
  have e : dtL (numL s 0 4) (numL s 5 2) (numL s 8 2) 0 true = [bt s 0, bt s 1, bt s 2, bt s 3, 45, bt s 5, bt s 6, 45, bt s 8, bt s 9] := by rw [dtL, if_pos rfl, digL_num a1, digL_num a2, digL_num a3]; rfl
  rw [e, eq_comm, eq_strOf (l := [bt s 0, bt s 1, bt s 2, bt s 3, 45, bt s 5, bt s 6, 45, bt s 8, bt s 9]) (by
    intro x hx
    simp only [List.mem_cons, List.not_mem_nil, or_false] at hx
    rcases hx with rfl | rfl | rfl | rfl | rfl | rfl | rfl | rfl | rfl | rfl <;> first | exact bt_in _ _ | omega)]
  constructor
  · rintro ⟨h1, h2⟩
    exact ⟨h1, h2 4 (by simp), h2 7 (by simp)⟩
  · rintro ⟨h1, c4, c7⟩
    refine ⟨h1, fun i hi => ?_⟩
    have hi' : i < 10 := hi
    rcases (by omega : i = 0 ∨ i = 1 ∨ i = 2 ∨ i = 3 ∨ i = 4 ∨ i = 5 ∨ i = 6 ∨ i = 7 ∨ i = 8 ∨ i = 9) with rfl | rfl | rfl | rfl | rfl | rfl | rfl | rfl | rfl | rfl <;> first | rfl | assumption

theorem okS0 (s : ByteArray) : okS s 0 = true ↔ allD s 0 4 = true ∧ bt s 4 = 45 ∧ allD s 5 2 = true ∧ bt s 7 = 45 ∧ allD s 8 2 = true ∧ s.size = 10 ∧ dval (numL s 0 4) (numL s 5 2) (numL s 8 2) = true := by
  have e0 : okS s 0 = ((l4M s 5 8).ok && dval (l4M s 5 8).y (l4M s 5 8).m (l4M s 5 8).d && decide (strOfNums (dtL (l4M s 5 8).y (l4M s 5 8).m (l4M s 5 8).d 0 true) = s)) := rfl
  by_cases a1 : allD s 0 4 = true
  · have e1 : l4M s 5 8 = ⟨numV s 0 4, numV s 5 2, numV s 8 2, allD s 5 2 && allD s 8 2⟩ := if_pos a1
    rw [e0, e1]
    by_cases a2 : allD s 5 2 = true
    · by_cases a3 : allD s 8 2 = true
      · have ht := tx0 s a1 a2 a3
        rw [numV_eq a1, numV_eq a2, numV_eq a3]
        simp only [Bool.and_eq_true, decide_eq_true_eq, ht, a1, a2, a3]
        simp only [true_and, and_true, and_assoc, and_comm, and_left_comm]
      · simp [a3]
    · simp [a2]
  · have e1 : l4M s 5 8 = DR.no := if_neg a1
    rw [e0, e1]
    simp [DR.no, a1]

theorem dS0 (s : ByteArray) (hk : allD s 0 4 = true ∧ bt s 4 = 45 ∧ allD s 5 2 = true ∧ bt s 7 = 45 ∧ allD s 8 2 = true ∧ s.size = 10 ∧ dval (numL s 0 4) (numL s 5 2) (numL s 8 2) = true) : dS s 0 = ⟨numL s 0 4, numL s 5 2, numL s 8 2, true⟩ := by
  obtain ⟨a1, b1, a2, b2, a3, hz, a6⟩ := hk
  have e1 : l4M s 5 8 = ⟨numV s 0 4, numV s 5 2, numV s 8 2, allD s 5 2 && allD s 8 2⟩ := if_pos a1
  show l4M s 5 8 = _
  rw [e1, numV_eq a1, numV_eq a2, numV_eq a3, a2, a3]
  rfl

theorem okP1 (s : ByteArray) : okP s 1 = true ↔ allD s 0 4 = true ∧ allD s 4 2 = true ∧ allD s 6 2 = true ∧ s.size = 8 ∧ dval (numL s 0 4) (numL s 4 2) (numL s 6 2) = true := by
  constructor
  · intro hk
    simp only [okP, rdM, Bool.and_eq_true, decide_eq_true_eq] at hk
    obtain ⟨⟨⟨⟨⟨⟨a1, a2⟩, a3⟩, a4⟩, a5⟩, a6⟩, a7⟩ := hk
    have e1 : m1 s = 4 := nxt_eq a1
    rw [e1, btV_f] at a4
    have e2 : m2 s false = 4 := by show btN s (m1 s) false = _; rw [e1]; exact btN_f s 4
    rw [e2] at a2
    have e3 : m3 s false = 6 := by show nxt s (m2 s false) 2 = _; rw [e2]; exact nxt_eq a2
    rw [e3, btV_f] at a5
    have e4 : m4 s false = 6 := by show btN s (m3 s false) false = _; rw [e3]; exact btN_f s 6
    rw [e4] at a3
    have e5 : m5 s false = 8 := by show nxt s (m4 s false) 2 = _; rw [e4]; exact nxt_eq a3
    rw [e2, e4, numV_eq a1, numV_eq a2, numV_eq a3] at a6
    rw [e5] at a7
    exact ⟨a1, a2, a3, by omega, a6⟩
  · rintro ⟨a1, a2, a3, hz, a6⟩
    have e1 : m1 s = 4 := nxt_eq a1
    have e2 : m2 s false = 4 := by show btN s (m1 s) false = _; rw [e1]; exact btN_f s 4
    have e3 : m3 s false = 6 := by show nxt s (m2 s false) 2 = _; rw [e2]; exact nxt_eq a2
    have e4 : m4 s false = 6 := by show btN s (m3 s false) false = _; rw [e3]; exact btN_f s 6
    have e5 : m5 s false = 8 := by show nxt s (m4 s false) 2 = _; rw [e4]; exact nxt_eq a3
    simp only [okP, rdM, Bool.and_eq_true, decide_eq_true_eq]
    rw [e1, e2, e3, e4, e5, btV_f, btV_f, numV_eq a1, numV_eq a2, numV_eq a3]
    exact ⟨⟨⟨⟨⟨⟨a1, a2⟩, a3⟩, rfl⟩, rfl⟩, a6⟩, by omega⟩

theorem dP1 (s : ByteArray) (hk : allD s 0 4 = true ∧ allD s 4 2 = true ∧ allD s 6 2 = true ∧ s.size = 8 ∧ dval (numL s 0 4) (numL s 4 2) (numL s 6 2) = true) : dP s 1 = ⟨numL s 0 4, numL s 4 2, numL s 6 2, true⟩ := by
  have h0 := (okP1 s).2 hk
  obtain ⟨a1, a2, a3, hz, a6⟩ := hk
  have e1 : m1 s = 4 := nxt_eq a1
  have e2 : m2 s false = 4 := by show btN s (m1 s) false = _; rw [e1]; exact btN_f s 4
  have e3 : m3 s false = 6 := by show nxt s (m2 s false) 2 = _; rw [e2]; exact nxt_eq a2
  have e4 : m4 s false = 6 := by show btN s (m3 s false) false = _; rw [e3]; exact btN_f s 6
  have h1 : (rdM s false).ok = true := by
    simp only [okP, Bool.and_eq_true] at h0
    exact h0.1
  show rdM s false = _
  have h2 : (rdM s false) = ⟨numV s 0 4, numV s (m2 s false) 2, numV s (m4 s false) 2, (rdM s false).ok⟩ := rfl
  rw [h2, h1, e2, e4, numV_eq a1, numV_eq a2, numV_eq a3]

theorem tx1 (s : ByteArray) (a1 : allD s 0 4 = true) (a2 : allD s 4 2 = true) (a3 : allD s 6 2 = true) : strOfNums (dtL (numL s 0 4) (numL s 4 2) (numL s 6 2) 0 false) = s ↔ s.size = 8 := by
  have e : dtL (numL s 0 4) (numL s 4 2) (numL s 6 2) 0 false = [bt s 0, bt s 1, bt s 2, bt s 3, bt s 4, bt s 5, bt s 6, bt s 7] := by rw [dtL, if_pos rfl, digL_num a1, digL_num a2, digL_num a3]; rfl
  rw [e, eq_comm, eq_strOf (l := [bt s 0, bt s 1, bt s 2, bt s 3, bt s 4, bt s 5, bt s 6, bt s 7]) (by
    intro x hx
    simp only [List.mem_cons, List.not_mem_nil, or_false] at hx
    rcases hx with rfl | rfl | rfl | rfl | rfl | rfl | rfl | rfl <;> first | exact bt_in _ _ | omega)]
  constructor
  · rintro ⟨h1, h2⟩
    exact h1
  · intro h1
    refine ⟨h1, fun i hi => ?_⟩
    have hi' : i < 8 := hi
    rcases (by omega : i = 0 ∨ i = 1 ∨ i = 2 ∨ i = 3 ∨ i = 4 ∨ i = 5 ∨ i = 6 ∨ i = 7) with rfl | rfl | rfl | rfl | rfl | rfl | rfl | rfl <;> first | rfl | assumption

theorem okS1 (s : ByteArray) : okS s 1 = true ↔ allD s 0 4 = true ∧ allD s 4 2 = true ∧ allD s 6 2 = true ∧ s.size = 8 ∧ dval (numL s 0 4) (numL s 4 2) (numL s 6 2) = true := by
  have e0 : okS s 1 = ((l4M s 4 6).ok && dval (l4M s 4 6).y (l4M s 4 6).m (l4M s 4 6).d && decide (strOfNums (dtL (l4M s 4 6).y (l4M s 4 6).m (l4M s 4 6).d 0 false) = s)) := rfl
  by_cases a1 : allD s 0 4 = true
  · have e1 : l4M s 4 6 = ⟨numV s 0 4, numV s 4 2, numV s 6 2, allD s 4 2 && allD s 6 2⟩ := if_pos a1
    rw [e0, e1]
    by_cases a2 : allD s 4 2 = true
    · by_cases a3 : allD s 6 2 = true
      · have ht := tx1 s a1 a2 a3
        rw [numV_eq a1, numV_eq a2, numV_eq a3]
        simp only [Bool.and_eq_true, decide_eq_true_eq, ht, a1, a2, a3]
        simp only [true_and, and_true, and_assoc, and_comm, and_left_comm]
      · simp [a3]
    · simp [a2]
  · have e1 : l4M s 4 6 = DR.no := if_neg a1
    rw [e0, e1]
    simp [DR.no, a1]

theorem dS1 (s : ByteArray) (hk : allD s 0 4 = true ∧ allD s 4 2 = true ∧ allD s 6 2 = true ∧ s.size = 8 ∧ dval (numL s 0 4) (numL s 4 2) (numL s 6 2) = true) : dS s 1 = ⟨numL s 0 4, numL s 4 2, numL s 6 2, true⟩ := by
  obtain ⟨a1, a2, a3, hz, a6⟩ := hk
  have e1 : l4M s 4 6 = ⟨numV s 0 4, numV s 4 2, numV s 6 2, allD s 4 2 && allD s 6 2⟩ := if_pos a1
  show l4M s 4 6 = _
  rw [e1, numV_eq a1, numV_eq a2, numV_eq a3, a2, a3]
  rfl

theorem okP2 (s : ByteArray) : okP s 2 = true ↔ allD s 0 4 = true ∧ bt s 4 = 45 ∧ bt s 5 = 87 ∧ allD s 6 2 = true ∧ bt s 8 = 45 ∧ allD s 9 1 = true ∧ s.size = 10 ∧ (wkD (numL s 0 4) (numL s 6 2) (numL s 9 1)).ok = true := by
  constructor
  · intro hk
    simp only [okP, rdK, Bool.and_eq_true, decide_eq_true_eq] at hk
    obtain ⟨⟨⟨⟨⟨⟨a1, a2⟩, a3⟩, a4, a4'⟩, a5⟩, a6⟩, a7⟩ := hk
    have e1 : m1 s = 4 := nxt_eq a1
    rw [e1, btV_t] at a4
    have e2 : m2 s true = 5 := by show btN s (m1 s) true = _; rw [e1]; exact btN_t a4
    rw [e2] at a4'
    have e2' : k2 s true = 6 := by
      have hh : btV s (m1 s) true = true := by rw [e1, btV_t]; exact a4
      have : k2 s true = takN s (m2 s true) 87 := if_pos hh
      rw [this, e2]; exact takN_eq a4'
    rw [e2'] at a2
    have e3 : k3 s true = 8 := by show nxt s (k2 s true) 2 = _; rw [e2']; exact nxt_eq a2
    rw [e3, btV_t] at a5
    have e4 : k4 s true = 9 := by show btN s (k3 s true) true = _; rw [e3]; exact btN_t a5
    rw [e4] at a3
    have e5 : k5 s true = 10 := by show nxt s (k4 s true) 1 = _; rw [e4]; exact nxt_eq a3
    have e6 : rdKd s true = wkD (numL s 0 4) (numL s 6 2) (numL s 9 1) := by show wkD (numV s 0 4) (numV s (k2 s true) 2) (numV s (k4 s true) 1) = _; rw [e2', e4, numV_eq a1, numV_eq a2, numV_eq a3]
    rw [e6] at a6
    rw [e5] at a7
    exact ⟨a1, (isB_iff.1 a4).2, (isB_iff.1 a4').2, a2, (isB_iff.1 a5).2, a3, by omega, a6⟩
  · rintro ⟨a1, b1, c1, a2, b2, a3, hz, a6⟩
    have e1 : m1 s = 4 := nxt_eq a1
    have a4 : isB s 4 45 = true := isB_iff.2 ⟨by omega, b1⟩
    have e2 : m2 s true = 5 := by show btN s (m1 s) true = _; rw [e1]; exact btN_t a4
    have a4' : isB s 5 87 = true := isB_iff.2 ⟨by omega, c1⟩
    have e2' : k2 s true = 6 := by
      have hh : btV s (m1 s) true = true := by rw [e1, btV_t]; exact a4
      have : k2 s true = takN s (m2 s true) 87 := if_pos hh
      rw [this, e2]; exact takN_eq a4'
    have e3 : k3 s true = 8 := by show nxt s (k2 s true) 2 = _; rw [e2']; exact nxt_eq a2
    have a5 : isB s 8 45 = true := isB_iff.2 ⟨by omega, b2⟩
    have e4 : k4 s true = 9 := by show btN s (k3 s true) true = _; rw [e3]; exact btN_t a5
    have e5 : k5 s true = 10 := by show nxt s (k4 s true) 1 = _; rw [e4]; exact nxt_eq a3
    have e6 : rdKd s true = wkD (numL s 0 4) (numL s 6 2) (numL s 9 1) := by show wkD (numV s 0 4) (numV s (k2 s true) 2) (numV s (k4 s true) 1) = _; rw [e2', e4, numV_eq a1, numV_eq a2, numV_eq a3]
    simp only [okP, rdK, Bool.and_eq_true, decide_eq_true_eq]
    rw [e1, e2, e2', e3, e4, e5, e6, btV_t, btV_t]
    exact ⟨⟨⟨⟨⟨⟨a1, a2⟩, a3⟩, a4, a4'⟩, a5⟩, a6⟩, by omega⟩

theorem dP2 (s : ByteArray) (hk : allD s 0 4 = true ∧ bt s 4 = 45 ∧ bt s 5 = 87 ∧ allD s 6 2 = true ∧ bt s 8 = 45 ∧ allD s 9 1 = true ∧ s.size = 10 ∧ (wkD (numL s 0 4) (numL s 6 2) (numL s 9 1)).ok = true) : dP s 2 = wkD (numL s 0 4) (numL s 6 2) (numL s 9 1) := by
  have h0 := (okP2 s).2 hk
  obtain ⟨a1, b1, c1, a2, b2, a3, hz, a6⟩ := hk
  have e1 : m1 s = 4 := nxt_eq a1
  have a4 : isB s 4 45 = true := isB_iff.2 ⟨by omega, b1⟩
  have e2 : m2 s true = 5 := by show btN s (m1 s) true = _; rw [e1]; exact btN_t a4
  have a4' : isB s 5 87 = true := isB_iff.2 ⟨by omega, c1⟩
  have e2' : k2 s true = 6 := by
    have hh : btV s (m1 s) true = true := by rw [e1, btV_t]; exact a4
    have : k2 s true = takN s (m2 s true) 87 := if_pos hh
    rw [this, e2]; exact takN_eq a4'
  have e3 : k3 s true = 8 := by show nxt s (k2 s true) 2 = _; rw [e2']; exact nxt_eq a2
  have a5 : isB s 8 45 = true := isB_iff.2 ⟨by omega, b2⟩
  have e4 : k4 s true = 9 := by show btN s (k3 s true) true = _; rw [e3]; exact btN_t a5
  have e5 : k5 s true = 10 := by show nxt s (k4 s true) 1 = _; rw [e4]; exact nxt_eq a3
  have e6 : rdKd s true = wkD (numL s 0 4) (numL s 6 2) (numL s 9 1) := by show wkD (numV s 0 4) (numV s (k2 s true) 2) (numV s (k4 s true) 1) = _; rw [e2', e4, numV_eq a1, numV_eq a2, numV_eq a3]
  have h1 : (rdK s true).ok = true := by
    simp only [okP, Bool.and_eq_true] at h0
    exact h0.1
  show rdK s true = _
  have h2 : (rdK s true) = ⟨(rdKd s true).y, (rdKd s true).m, (rdKd s true).d, (rdK s true).ok⟩ := rfl
  rw [h2, h1, e6, ← a6]

theorem tx2 (s : ByteArray) (a1 : allD s 0 4 = true) (a2 : allD s 6 2 = true) (a3 : allD s 9 1 = true) (a6 : (wkD (numL s 0 4) (numL s 6 2) (numL s 9 1)).ok = true) : strOfNums (dtL (wkD (numL s 0 4) (numL s 6 2) (numL s 9 1)).y (wkD (numL s 0 4) (numL s 6 2) (numL s 9 1)).m (wkD (numL s 0 4) (numL s 6 2) (numL s 9 1)).d 1 true) = s ↔ s.size = 10 ∧ bt s 4 = 45 ∧ bt s 5 = 87 ∧ bt s 8 = 45 := by
  obtain ⟨w1, w2, w3, w4⟩ := wk_back a6
  have e : dtL (wkD (numL s 0 4) (numL s 6 2) (numL s 9 1)).y (wkD (numL s 0 4) (numL s 6 2) (numL s 9 1)).m (wkD (numL s 0 4) (numL s 6 2) (numL s 9 1)).d 1 true = [bt s 0, bt s 1, bt s 2, bt s 3, 45, 87, bt s 6, bt s 7, 45, bt s 9] := by rw [dtL, if_neg (by decide), if_pos rfl, w2, w3, w4, digL_num a1, digL_num a2, digL_num a3]; rfl
  rw [e, eq_comm, eq_strOf (l := [bt s 0, bt s 1, bt s 2, bt s 3, 45, 87, bt s 6, bt s 7, 45, bt s 9]) (by
    intro x hx
    simp only [List.mem_cons, List.not_mem_nil, or_false] at hx
    rcases hx with rfl | rfl | rfl | rfl | rfl | rfl | rfl | rfl | rfl | rfl <;> first | exact bt_in _ _ | omega)]
  constructor
  · rintro ⟨h1, h2⟩
    exact ⟨h1, h2 4 (by simp), h2 5 (by simp), h2 8 (by simp)⟩
  · rintro ⟨h1, c4, c5, c8⟩
    refine ⟨h1, fun i hi => ?_⟩
    have hi' : i < 10 := hi
    rcases (by omega : i = 0 ∨ i = 1 ∨ i = 2 ∨ i = 3 ∨ i = 4 ∨ i = 5 ∨ i = 6 ∨ i = 7 ∨ i = 8 ∨ i = 9) with rfl | rfl | rfl | rfl | rfl | rfl | rfl | rfl | rfl | rfl <;> first | rfl | assumption

theorem okS2 (s : ByteArray) : okS s 2 = true ↔ allD s 0 4 = true ∧ bt s 4 = 45 ∧ bt s 5 = 87 ∧ allD s 6 2 = true ∧ bt s 8 = 45 ∧ allD s 9 1 = true ∧ s.size = 10 ∧ (wkD (numL s 0 4) (numL s 6 2) (numL s 9 1)).ok = true := by
  have e0 : okS s 2 = ((l4K s 6 9).ok && dval (l4K s 6 9).y (l4K s 6 9).m (l4K s 6 9).d && decide (strOfNums (dtL (l4K s 6 9).y (l4K s 6 9).m (l4K s 6 9).d 1 true) = s)) := rfl
  by_cases ha : (allD s 0 4 && allD s 6 2 && allD s 9 1) = true
  · have e1 : (l4K s 6 9) = wkD (numV s 0 4) (numV s 6 2) (numV s 9 1) := if_pos ha
    simp only [Bool.and_eq_true] at ha
    obtain ⟨⟨a1, a2⟩, a3⟩ := ha
    rw [e0, e1, numV_eq a1, numV_eq a2, numV_eq a3]
    by_cases a6 : (wkD (numL s 0 4) (numL s 6 2) (numL s 9 1)).ok = true
    · have ht := tx2 s a1 a2 a3 a6
      have hv := (wk_back a6).1
      simp only [Bool.and_eq_true, decide_eq_true_eq, ht, a1, a2, a3, a6, hv]
      simp only [true_and, and_true, and_assoc, and_comm, and_left_comm]
    · simp [a6]
  · have e1 : (l4K s 6 9) = DR.no := if_neg ha
    rw [e0, e1]
    simp only [DR.no, Bool.false_and, Bool.and_false, Bool.false_eq_true, false_iff]
    intro hk
    refine ha ?_
    simp only [Bool.and_eq_true]
    simp only [hk, and_self]

theorem dS2 (s : ByteArray) (hk : allD s 0 4 = true ∧ bt s 4 = 45 ∧ bt s 5 = 87 ∧ allD s 6 2 = true ∧ bt s 8 = 45 ∧ allD s 9 1 = true ∧ s.size = 10 ∧ (wkD (numL s 0 4) (numL s 6 2) (numL s 9 1)).ok = true) : dS s 2 = (wkD (numL s 0 4) (numL s 6 2) (numL s 9 1)) := by
  have ha : (allD s 0 4 && allD s 6 2 && allD s 9 1) = true := by
    simp only [Bool.and_eq_true]
    simp only [hk, and_self]
  have e1 : (l4K s 6 9) = wkD (numV s 0 4) (numV s 6 2) (numV s 9 1) := if_pos ha
  simp only [Bool.and_eq_true] at ha
  obtain ⟨⟨a1, a2⟩, a3⟩ := ha
  show (l4K s 6 9) = _
  rw [e1, numV_eq a1, numV_eq a2, numV_eq a3]

theorem okP3 (s : ByteArray) : okP s 3 = true ↔ allD s 0 4 = true ∧ bt s 4 = 87 ∧ allD s 5 2 = true ∧ allD s 7 1 = true ∧ s.size = 8 ∧ (wkD (numL s 0 4) (numL s 5 2) (numL s 7 1)).ok = true := by
  constructor
  · intro hk
    simp only [okP, rdK, Bool.and_eq_true, decide_eq_true_eq] at hk
    obtain ⟨⟨⟨⟨⟨⟨a1, a2⟩, a3⟩, a4, a4'⟩, a5⟩, a6⟩, a7⟩ := hk
    have e1 : m1 s = 4 := nxt_eq a1
    rw [e1, btV_f] at a4
    have e2 : m2 s false = 4 := by show btN s (m1 s) false = _; rw [e1]; exact btN_f s 4
    rw [e2] at a4'
    have e2' : k2 s false = 5 := by
      have hh : btV s (m1 s) false = true := by rw [e1, btV_f]
      have : k2 s false = takN s (m2 s false) 87 := if_pos hh
      rw [this, e2]; exact takN_eq a4'
    rw [e2'] at a2
    have e3 : k3 s false = 7 := by show nxt s (k2 s false) 2 = _; rw [e2']; exact nxt_eq a2
    rw [e3, btV_f] at a5
    have e4 : k4 s false = 7 := by show btN s (k3 s false) false = _; rw [e3]; exact btN_f s 7
    rw [e4] at a3
    have e5 : k5 s false = 8 := by show nxt s (k4 s false) 1 = _; rw [e4]; exact nxt_eq a3
    have e6 : rdKd s false = wkD (numL s 0 4) (numL s 5 2) (numL s 7 1) := by show wkD (numV s 0 4) (numV s (k2 s false) 2) (numV s (k4 s false) 1) = _; rw [e2', e4, numV_eq a1, numV_eq a2, numV_eq a3]
    rw [e6] at a6
    rw [e5] at a7
    exact ⟨a1, (isB_iff.1 a4').2, a2, a3, by omega, a6⟩
  · rintro ⟨a1, c1, a2, a3, hz, a6⟩
    have e1 : m1 s = 4 := nxt_eq a1
    have e2 : m2 s false = 4 := by show btN s (m1 s) false = _; rw [e1]; exact btN_f s 4
    have a4' : isB s 4 87 = true := isB_iff.2 ⟨by omega, c1⟩
    have e2' : k2 s false = 5 := by
      have hh : btV s (m1 s) false = true := by rw [e1, btV_f]
      have : k2 s false = takN s (m2 s false) 87 := if_pos hh
      rw [this, e2]; exact takN_eq a4'
    have e3 : k3 s false = 7 := by show nxt s (k2 s false) 2 = _; rw [e2']; exact nxt_eq a2
    have e4 : k4 s false = 7 := by show btN s (k3 s false) false = _; rw [e3]; exact btN_f s 7
    have e5 : k5 s false = 8 := by show nxt s (k4 s false) 1 = _; rw [e4]; exact nxt_eq a3
    have e6 : rdKd s false = wkD (numL s 0 4) (numL s 5 2) (numL s 7 1) := by show wkD (numV s 0 4) (numV s (k2 s false) 2) (numV s (k4 s false) 1) = _; rw [e2', e4, numV_eq a1, numV_eq a2, numV_eq a3]
    simp only [okP, rdK, Bool.and_eq_true, decide_eq_true_eq]
    rw [e1, e2, e2', e3, e4, e5, e6, btV_f, btV_f]
    exact ⟨⟨⟨⟨⟨⟨a1, a2⟩, a3⟩, rfl, a4'⟩, rfl⟩, a6⟩, by omega⟩

theorem dP3 (s : ByteArray) (hk : allD s 0 4 = true ∧ bt s 4 = 87 ∧ allD s 5 2 = true ∧ allD s 7 1 = true ∧ s.size = 8 ∧ (wkD (numL s 0 4) (numL s 5 2) (numL s 7 1)).ok = true) : dP s 3 = wkD (numL s 0 4) (numL s 5 2) (numL s 7 1) := by
  have h0 := (okP3 s).2 hk
  obtain ⟨a1, c1, a2, a3, hz, a6⟩ := hk
  have e1 : m1 s = 4 := nxt_eq a1
  have e2 : m2 s false = 4 := by show btN s (m1 s) false = _; rw [e1]; exact btN_f s 4
  have a4' : isB s 4 87 = true := isB_iff.2 ⟨by omega, c1⟩
  have e2' : k2 s false = 5 := by
    have hh : btV s (m1 s) false = true := by rw [e1, btV_f]
    have : k2 s false = takN s (m2 s false) 87 := if_pos hh
    rw [this, e2]; exact takN_eq a4'
  have e3 : k3 s false = 7 := by show nxt s (k2 s false) 2 = _; rw [e2']; exact nxt_eq a2
  have e4 : k4 s false = 7 := by show btN s (k3 s false) false = _; rw [e3]; exact btN_f s 7
  have e5 : k5 s false = 8 := by show nxt s (k4 s false) 1 = _; rw [e4]; exact nxt_eq a3
  have e6 : rdKd s false = wkD (numL s 0 4) (numL s 5 2) (numL s 7 1) := by show wkD (numV s 0 4) (numV s (k2 s false) 2) (numV s (k4 s false) 1) = _; rw [e2', e4, numV_eq a1, numV_eq a2, numV_eq a3]
  have h1 : (rdK s false).ok = true := by
    simp only [okP, Bool.and_eq_true] at h0
    exact h0.1
  show rdK s false = _
  have h2 : (rdK s false) = ⟨(rdKd s false).y, (rdKd s false).m, (rdKd s false).d, (rdK s false).ok⟩ := rfl
  rw [h2, h1, e6, ← a6]

theorem tx3 (s : ByteArray) (a1 : allD s 0 4 = true) (a2 : allD s 5 2 = true) (a3 : allD s 7 1 = true) (a6 : (wkD (numL s 0 4) (numL s 5 2) (numL s 7 1)).ok = true) : strOfNums (dtL (wkD (numL s 0 4) (numL s 5 2) (numL s 7 1)).y (wkD (numL s 0 4) (numL s 5 2) (numL s 7 1)).m (wkD (numL s 0 4) (numL s 5 2) (numL s 7 1)).d 1 false) = s ↔ s.size = 8 ∧ bt s 4 = 87 := by
  obtain ⟨w1, w2, w3, w4⟩ := wk_back a6
  have e : dtL (wkD (numL s 0 4) (numL s 5 2) (numL s 7 1)).y (wkD (numL s 0 4) (numL s 5 2) (numL s 7 1)).m (wkD (numL s 0 4) (numL s 5 2) (numL s 7 1)).d 1 false = [bt s 0, bt s 1, bt s 2, bt s 3, 87, bt s 5, bt s 6, bt s 7] := by rw [dtL, if_neg (by decide), if_pos rfl, w2, w3, w4, digL_num a1, digL_num a2, digL_num a3]; rfl
  rw [e, eq_comm, eq_strOf (l := [bt s 0, bt s 1, bt s 2, bt s 3, 87, bt s 5, bt s 6, bt s 7]) (by
    intro x hx
    simp only [List.mem_cons, List.not_mem_nil, or_false] at hx
    rcases hx with rfl | rfl | rfl | rfl | rfl | rfl | rfl | rfl <;> first | exact bt_in _ _ | omega)]
  constructor
  · rintro ⟨h1, h2⟩
    exact ⟨h1, h2 4 (by simp)⟩
  · rintro ⟨h1, c4⟩
    refine ⟨h1, fun i hi => ?_⟩
    have hi' : i < 8 := hi
    rcases (by omega : i = 0 ∨ i = 1 ∨ i = 2 ∨ i = 3 ∨ i = 4 ∨ i = 5 ∨ i = 6 ∨ i = 7) with rfl | rfl | rfl | rfl | rfl | rfl | rfl | rfl <;> first | rfl | assumption

theorem okS3 (s : ByteArray) : okS s 3 = true ↔ allD s 0 4 = true ∧ bt s 4 = 87 ∧ allD s 5 2 = true ∧ allD s 7 1 = true ∧ s.size = 8 ∧ (wkD (numL s 0 4) (numL s 5 2) (numL s 7 1)).ok = true := by
  have e0 : okS s 3 = ((l4K s 5 7).ok && dval (l4K s 5 7).y (l4K s 5 7).m (l4K s 5 7).d && decide (strOfNums (dtL (l4K s 5 7).y (l4K s 5 7).m (l4K s 5 7).d 1 false) = s)) := rfl
  by_cases ha : (allD s 0 4 && allD s 5 2 && allD s 7 1) = true
  · have e1 : (l4K s 5 7) = wkD (numV s 0 4) (numV s 5 2) (numV s 7 1) := if_pos ha
    simp only [Bool.and_eq_true] at ha
    obtain ⟨⟨a1, a2⟩, a3⟩ := ha
    rw [e0, e1, numV_eq a1, numV_eq a2, numV_eq a3]
    by_cases a6 : (wkD (numL s 0 4) (numL s 5 2) (numL s 7 1)).ok = true
    · have ht := tx3 s a1 a2 a3 a6
      have hv := (wk_back a6).1
      simp only [Bool.and_eq_true, decide_eq_true_eq, ht, a1, a2, a3, a6, hv]
      simp only [true_and, and_true, and_assoc, and_comm, and_left_comm]
    · simp [a6]
  · have e1 : (l4K s 5 7) = DR.no := if_neg ha
    rw [e0, e1]
    simp only [DR.no, Bool.false_and, Bool.and_false, Bool.false_eq_true, false_iff]
    intro hk
    refine ha ?_
    simp only [Bool.and_eq_true]
    simp only [hk, and_self]

theorem dS3 (s : ByteArray) (hk : allD s 0 4 = true ∧ bt s 4 = 87 ∧ allD s 5 2 = true ∧ allD s 7 1 = true ∧ s.size = 8 ∧ (wkD (numL s 0 4) (numL s 5 2) (numL s 7 1)).ok = true) : dS s 3 = (wkD (numL s 0 4) (numL s 5 2) (numL s 7 1)) := by
  have ha : (allD s 0 4 && allD s 5 2 && allD s 7 1) = true := by
    simp only [Bool.and_eq_true]
    simp only [hk, and_self]
  have e1 : (l4K s 5 7) = wkD (numV s 0 4) (numV s 5 2) (numV s 7 1) := if_pos ha
  simp only [Bool.and_eq_true] at ha
  obtain ⟨⟨a1, a2⟩, a3⟩ := ha
  show (l4K s 5 7) = _
  rw [e1, numV_eq a1, numV_eq a2, numV_eq a3]

theorem okP4 (s : ByteArray) : okP s 4 = true ↔ allD s 0 4 = true ∧ bt s 4 = 45 ∧ allD s 5 3 = true ∧ s.size = 8 ∧ (orD (numL s 0 4) (numL s 5 3)).ok = true := by
  constructor
  · intro hk
    simp only [okP, rdO, Bool.and_eq_true, decide_eq_true_eq] at hk
    obtain ⟨⟨⟨⟨a1, a2⟩, a4⟩, a6⟩, a7⟩ := hk
    have e1 : m1 s = 4 := nxt_eq a1
    rw [e1, btV_t] at a4
    have e2 : m2 s true = 5 := by show btN s (m1 s) true = _; rw [e1]; exact btN_t a4
    rw [e2] at a2
    have e3 : o3 s true = 8 := by show nxt s (m2 s true) 3 = _; rw [e2]; exact nxt_eq a2
    have e6 : rdOd s true = orD (numL s 0 4) (numL s 5 3) := by show orD (numV s 0 4) (numV s (m2 s true) 3) = _; rw [e2, numV_eq a1, numV_eq a2]
    rw [e6] at a6
    rw [e3] at a7
    exact ⟨a1, (isB_iff.1 a4).2, a2, by omega, a6⟩
  · rintro ⟨a1, b1, a2, hz, a6⟩
    have e1 : m1 s = 4 := nxt_eq a1
    have a4 : isB s 4 45 = true := isB_iff.2 ⟨by omega, b1⟩
    have e2 : m2 s true = 5 := by show btN s (m1 s) true = _; rw [e1]; exact btN_t a4
    have e3 : o3 s true = 8 := by show nxt s (m2 s true) 3 = _; rw [e2]; exact nxt_eq a2
    have e6 : rdOd s true = orD (numL s 0 4) (numL s 5 3) := by show orD (numV s 0 4) (numV s (m2 s true) 3) = _; rw [e2, numV_eq a1, numV_eq a2]
    simp only [okP, rdO, Bool.and_eq_true, decide_eq_true_eq]
    rw [e1, e2, e3, e6, btV_t]
    exact ⟨⟨⟨⟨a1, a2⟩, a4⟩, a6⟩, by omega⟩

theorem dP4 (s : ByteArray) (hk : allD s 0 4 = true ∧ bt s 4 = 45 ∧ allD s 5 3 = true ∧ s.size = 8 ∧ (orD (numL s 0 4) (numL s 5 3)).ok = true) : dP s 4 = orD (numL s 0 4) (numL s 5 3) := by
  have h0 := (okP4 s).2 hk
  obtain ⟨a1, b1, a2, hz, a6⟩ := hk
  have e1 : m1 s = 4 := nxt_eq a1
  have a4 : isB s 4 45 = true := isB_iff.2 ⟨by omega, b1⟩
  have e2 : m2 s true = 5 := by show btN s (m1 s) true = _; rw [e1]; exact btN_t a4
  have e3 : o3 s true = 8 := by show nxt s (m2 s true) 3 = _; rw [e2]; exact nxt_eq a2
  have e6 : rdOd s true = orD (numL s 0 4) (numL s 5 3) := by show orD (numV s 0 4) (numV s (m2 s true) 3) = _; rw [e2, numV_eq a1, numV_eq a2]
  have h1 : (rdO s true).ok = true := by
    simp only [okP, Bool.and_eq_true] at h0
    exact h0.1
  show rdO s true = _
  have h2 : (rdO s true) = ⟨(rdOd s true).y, (rdOd s true).m, (rdOd s true).d, (rdO s true).ok⟩ := rfl
  rw [h2, h1, e6, ← a6]

theorem tx4 (s : ByteArray) (a1 : allD s 0 4 = true) (a2 : allD s 5 3 = true) (a6 : (orD (numL s 0 4) (numL s 5 3)).ok = true) : strOfNums (dtL (orD (numL s 0 4) (numL s 5 3)).y (orD (numL s 0 4) (numL s 5 3)).m (orD (numL s 0 4) (numL s 5 3)).d 2 true) = s ↔ s.size = 8 ∧ bt s 4 = 45 := by
  obtain ⟨w1, w2, w3⟩ := or_back a6
  have e : dtL (orD (numL s 0 4) (numL s 5 3)).y (orD (numL s 0 4) (numL s 5 3)).m (orD (numL s 0 4) (numL s 5 3)).d 2 true = [bt s 0, bt s 1, bt s 2, bt s 3, 45, bt s 5, bt s 6, bt s 7] := by rw [dtL, if_neg (by decide), if_neg (by decide), w3, w2, digL_num a1, digL_num a2]; rfl
  rw [e, eq_comm, eq_strOf (l := [bt s 0, bt s 1, bt s 2, bt s 3, 45, bt s 5, bt s 6, bt s 7]) (by
    intro x hx
    simp only [List.mem_cons, List.not_mem_nil, or_false] at hx
    rcases hx with rfl | rfl | rfl | rfl | rfl | rfl | rfl | rfl <;> first | exact bt_in _ _ | omega)]
  constructor
  · rintro ⟨h1, h2⟩
    exact ⟨h1, h2 4 (by simp)⟩
  · rintro ⟨h1, c4⟩
    refine ⟨h1, fun i hi => ?_⟩
    have hi' : i < 8 := hi
    rcases (by omega : i = 0 ∨ i = 1 ∨ i = 2 ∨ i = 3 ∨ i = 4 ∨ i = 5 ∨ i = 6 ∨ i = 7) with rfl | rfl | rfl | rfl | rfl | rfl | rfl | rfl <;> first | rfl | assumption

theorem okS4 (s : ByteArray) : okS s 4 = true ↔ allD s 0 4 = true ∧ bt s 4 = 45 ∧ allD s 5 3 = true ∧ s.size = 8 ∧ (orD (numL s 0 4) (numL s 5 3)).ok = true := by
  have e0 : okS s 4 = ((l4O s 5).ok && dval (l4O s 5).y (l4O s 5).m (l4O s 5).d && decide (strOfNums (dtL (l4O s 5).y (l4O s 5).m (l4O s 5).d 2 true) = s)) := rfl
  by_cases ha : (allD s 0 4 && allD s 5 3) = true
  · have e1 : (l4O s 5) = orD (numV s 0 4) (numV s 5 3) := if_pos ha
    simp only [Bool.and_eq_true] at ha
    obtain ⟨a1, a2⟩ := ha
    rw [e0, e1, numV_eq a1, numV_eq a2]
    by_cases a6 : (orD (numL s 0 4) (numL s 5 3)).ok = true
    · have ht := tx4 s a1 a2 a6
      have hv := (or_back a6).1
      simp only [Bool.and_eq_true, decide_eq_true_eq, ht, a1, a2, a6, hv]
      simp only [true_and, and_true, and_assoc, and_comm, and_left_comm]
    · simp [a6]
  · have e1 : (l4O s 5) = DR.no := if_neg ha
    rw [e0, e1]
    simp only [DR.no, Bool.false_and, Bool.and_false, Bool.false_eq_true, false_iff]
    intro hk
    refine ha ?_
    simp only [Bool.and_eq_true]
    simp only [hk, and_self]

theorem dS4 (s : ByteArray) (hk : allD s 0 4 = true ∧ bt s 4 = 45 ∧ allD s 5 3 = true ∧ s.size = 8 ∧ (orD (numL s 0 4) (numL s 5 3)).ok = true) : dS s 4 = (orD (numL s 0 4) (numL s 5 3)) := by
  have ha : (allD s 0 4 && allD s 5 3) = true := by
    simp only [Bool.and_eq_true]
    simp only [hk, and_self]
  have e1 : (l4O s 5) = orD (numV s 0 4) (numV s 5 3) := if_pos ha
  simp only [Bool.and_eq_true] at ha
  obtain ⟨a1, a2⟩ := ha
  show (l4O s 5) = _
  rw [e1, numV_eq a1, numV_eq a2]

theorem okP5 (s : ByteArray) : okP s 5 = true ↔ allD s 0 4 = true ∧ allD s 4 3 = true ∧ s.size = 7 ∧ (orD (numL s 0 4) (numL s 4 3)).ok = true := by
  constructor
  · intro hk
    simp only [okP, rdO, Bool.and_eq_true, decide_eq_true_eq] at hk
    obtain ⟨⟨⟨⟨a1, a2⟩, a4⟩, a6⟩, a7⟩ := hk
    have e1 : m1 s = 4 := nxt_eq a1
    rw [e1, btV_f] at a4
    have e2 : m2 s false = 4 := by show btN s (m1 s) false = _; rw [e1]; exact btN_f s 4
    rw [e2] at a2
    have e3 : o3 s false = 7 := by show nxt s (m2 s false) 3 = _; rw [e2]; exact nxt_eq a2
    have e6 : rdOd s false = orD (numL s 0 4) (numL s 4 3) := by show orD (numV s 0 4) (numV s (m2 s false) 3) = _; rw [e2, numV_eq a1, numV_eq a2]
    rw [e6] at a6
    rw [e3] at a7
    exact ⟨a1, a2, by omega, a6⟩
  · rintro ⟨a1, a2, hz, a6⟩
    have e1 : m1 s = 4 := nxt_eq a1
    have e2 : m2 s false = 4 := by show btN s (m1 s) false = _; rw [e1]; exact btN_f s 4
    have e3 : o3 s false = 7 := by show nxt s (m2 s false) 3 = _; rw [e2]; exact nxt_eq a2
    have e6 : rdOd s false = orD (numL s 0 4) (numL s 4 3) := by show orD (numV s 0 4) (numV s (m2 s false) 3) = _; rw [e2, numV_eq a1, numV_eq a2]
    simp only [okP, rdO, Bool.and_eq_true, decide_eq_true_eq]
    rw [e1, e2, e3, e6, btV_f]
    exact ⟨⟨⟨⟨a1, a2⟩, rfl⟩, a6⟩, by omega⟩

theorem dP5 (s : ByteArray) (hk : allD s 0 4 = true ∧ allD s 4 3 = true ∧ s.size = 7 ∧ (orD (numL s 0 4) (numL s 4 3)).ok = true) : dP s 5 = orD (numL s 0 4) (numL s 4 3) := by
  have h0 := (okP5 s).2 hk
  obtain ⟨a1, a2, hz, a6⟩ := hk
  have e1 : m1 s = 4 := nxt_eq a1
  have e2 : m2 s false = 4 := by show btN s (m1 s) false = _; rw [e1]; exact btN_f s 4
  have e3 : o3 s false = 7 := by show nxt s (m2 s false) 3 = _; rw [e2]; exact nxt_eq a2
  have e6 : rdOd s false = orD (numL s 0 4) (numL s 4 3) := by show orD (numV s 0 4) (numV s (m2 s false) 3) = _; rw [e2, numV_eq a1, numV_eq a2]
  have h1 : (rdO s false).ok = true := by
    simp only [okP, Bool.and_eq_true] at h0
    exact h0.1
  show rdO s false = _
  have h2 : (rdO s false) = ⟨(rdOd s false).y, (rdOd s false).m, (rdOd s false).d, (rdO s false).ok⟩ := rfl
  rw [h2, h1, e6, ← a6]

theorem tx5 (s : ByteArray) (a1 : allD s 0 4 = true) (a2 : allD s 4 3 = true) (a6 : (orD (numL s 0 4) (numL s 4 3)).ok = true) : strOfNums (dtL (orD (numL s 0 4) (numL s 4 3)).y (orD (numL s 0 4) (numL s 4 3)).m (orD (numL s 0 4) (numL s 4 3)).d 2 false) = s ↔ s.size = 7 := by
  obtain ⟨w1, w2, w3⟩ := or_back a6
  have e : dtL (orD (numL s 0 4) (numL s 4 3)).y (orD (numL s 0 4) (numL s 4 3)).m (orD (numL s 0 4) (numL s 4 3)).d 2 false = [bt s 0, bt s 1, bt s 2, bt s 3, bt s 4, bt s 5, bt s 6] := by rw [dtL, if_neg (by decide), if_neg (by decide), w3, w2, digL_num a1, digL_num a2]; rfl
  rw [e, eq_comm, eq_strOf (l := [bt s 0, bt s 1, bt s 2, bt s 3, bt s 4, bt s 5, bt s 6]) (by
    intro x hx
    simp only [List.mem_cons, List.not_mem_nil, or_false] at hx
    rcases hx with rfl | rfl | rfl | rfl | rfl | rfl | rfl <;> first | exact bt_in _ _ | omega)]
  constructor
  · rintro ⟨h1, h2⟩
    exact h1
  · intro h1
    refine ⟨h1, fun i hi => ?_⟩
    have hi' : i < 7 := hi
    rcases (by omega : i = 0 ∨ i = 1 ∨ i = 2 ∨ i = 3 ∨ i = 4 ∨ i = 5 ∨ i = 6) with rfl | rfl | rfl | rfl | rfl | rfl | rfl <;> first | rfl | assumption

theorem okS5 (s : ByteArray) : okS s 5 = true ↔ allD s 0 4 = true ∧ allD s 4 3 = true ∧ s.size = 7 ∧ (orD (numL s 0 4) (numL s 4 3)).ok = true := by
  have e0 : okS s 5 = ((l4O s 4).ok && dval (l4O s 4).y (l4O s 4).m (l4O s 4).d && decide (strOfNums (dtL (l4O s 4).y (l4O s 4).m (l4O s 4).d 2 false) = s)) := rfl
  by_cases ha : (allD s 0 4 && allD s 4 3) = true
  · have e1 : (l4O s 4) = orD (numV s 0 4) (numV s 4 3) := if_pos ha
    simp only [Bool.and_eq_true] at ha
    obtain ⟨a1, a2⟩ := ha
    rw [e0, e1, numV_eq a1, numV_eq a2]
    by_cases a6 : (orD (numL s 0 4) (numL s 4 3)).ok = true
    · have ht := tx5 s a1 a2 a6
      have hv := (or_back a6).1
      simp only [Bool.and_eq_true, decide_eq_true_eq, ht, a1, a2, a6, hv]
      simp only [true_and, and_true, and_assoc, and_comm, and_left_comm]
    · simp [a6]
  · have e1 : (l4O s 4) = DR.no := if_neg ha
    rw [e0, e1]
    simp only [DR.no, Bool.false_and, Bool.and_false, Bool.false_eq_true, false_iff]
    intro hk
    refine ha ?_
    simp only [Bool.and_eq_true]
    simp only [hk, and_self]

theorem dS5 (s : ByteArray) (hk : allD s 0 4 = true ∧ allD s 4 3 = true ∧ s.size = 7 ∧ (orD (numL s 0 4) (numL s 4 3)).ok = true) : dS s 5 = (orD (numL s 0 4) (numL s 4 3)) := by
  have ha : (allD s 0 4 && allD s 4 3) = true := by
    simp only [Bool.and_eq_true]
    simp only [hk, and_self]
  have e1 : (l4O s 4) = orD (numV s 0 4) (numV s 4 3) := if_pos ha
  simp only [Bool.and_eq_true] at ha
  obtain ⟨a1, a2⟩ := ha
  show (l4O s 4) = _
  rw [e1, numV_eq a1, numV_eq a2]

theorem ok_eq (s : ByteArray) {k : Nat} (hk : k < 6) : okP s k = okS s k := by
  rw [Bool.eq_iff_iff]
  rcases (by omega : k = 0 ∨ k = 1 ∨ k = 2 ∨ k = 3 ∨ k = 4 ∨ k = 5) with rfl | rfl | rfl | rfl | rfl | rfl
  · rw [okP0, okS0]
  · rw [okP1, okS1]
  · rw [okP2, okS2]
  · rw [okP3, okS3]
  · rw [okP4, okS4]
  · rw [okP5, okS5]

theorem d_eq (s : ByteArray) {k : Nat} (hk : k < 6) (h : okP s k = true) : dP s k = dS s k := by
  rcases (by omega : k = 0 ∨ k = 1 ∨ k = 2 ∨ k = 3 ∨ k = 4 ∨ k = 5) with rfl | rfl | rfl | rfl | rfl | rfl
  · have := (okP0 s).1 h
    rw [dP0 s this, dS0 s this]
  · have := (okP1 s).1 h
    rw [dP1 s this, dS1 s this]
  · have := (okP2 s).1 h
    rw [dP2 s this, dS2 s this]
  · have := (okP3 s).1 h
    rw [dP3 s this, dS3 s this]
  · have := (okP4 s).1 h
    rw [dP4 s this, dS4 s this]
  · have := (okP5 s).1 h
    rw [dP5 s this, dS5 s this]

/-- **The program and the reference read the same dates of texts.** -/
theorem df_eq (s : ByteArray) : dfV (okP s) (dP s) = dfV (okS s) (dS s) := by
  rcases dfV_or (okP s) (dP s) with ⟨k, h1, h2, h3, h4⟩ | ⟨h1, h2⟩
  · rw [h4, d_eq s h1 h3]
    exact (dfV_at h1 (fun j hj => by rw [← ok_eq s (by omega)]; exact h2 j hj) (by rw [← ok_eq s h1]; exact h3)).symm
  · rw [h2]
    exact (dfV_no fun j hj => by rw [← ok_eq s hj]; exact h1 j hj).symm

end D
end Go.Proofs.YtpgbmohocfcjpaaGreatDoor

namespace Go.Proofs.YtpgbmohocfcjpaaGreatDoor
set_option linter.unusedVariables false
set_option linter.unusedSimpArgs false
namespace D
open Go.RowKit
open Go.PlainAid (bt bt_nonneg bt_le bt_end)

theorem dig1 (n : Int) : digL n 1 = [48 + n % 10] := by simp [digL]

theorem dig2 (n : Int) : digL n 2 = [48 + n / 10 % 10, 48 + n % 10] := by simp [digL]

theorem dig3 (n : Int) : digL n 3 = [48 + n / 100 % 10, 48 + n / 10 % 10, 48 + n % 10] := by
  have e : n / 10 / 10 = n / 100 := by omega
  simp [digL, e]

theorem dig4 (n : Int) : digL n 4 = [48 + n / 1000 % 10, 48 + n / 100 % 10, 48 + n / 10 % 10, 48 + n % 10] := by
  have e : n / 10 / 10 = n / 100 := by omega
  have e2 : n / 100 / 10 = n / 1000 := by omega
  simp [digL, e, e2]

theorem rd1 {s : ByteArray} {p : Nat} {n : Int} (h : 0 ≤ n ∧ n ≤ 9) (b0 : bt s p = 48 + n % 10) : allD s p 1 = true ∧ numL s p 1 = n := by
  refine ⟨allD_iff.2 fun i hi => isD_iff.2 ?_, ?_⟩
  · obtain rfl : i = 0 := by omega
    rw [Nat.add_zero, b0]
    omega
  · simp only [numL, Nat.add_zero, b0]
    omega

theorem rd2 {s : ByteArray} {p : Nat} {n : Int} (h : 0 ≤ n ∧ n ≤ 99) (b0 : bt s p = 48 + n / 10 % 10) (b1 : bt s (p + 1) = 48 + n % 10) : allD s p 2 = true ∧ numL s p 2 = n := by
  refine ⟨allD_iff.2 fun i hi => isD_iff.2 ?_, ?_⟩
  · rcases (by omega : i = 0 ∨ i = 1) with rfl | rfl
    · rw [Nat.add_zero, b0]
      omega
    · rw [b1]
      omega
  · simp only [numL, Nat.add_zero, b0, b1]
    omega

theorem rd3 {s : ByteArray} {p : Nat} {n : Int} (h : 0 ≤ n ∧ n ≤ 999) (b0 : bt s p = 48 + n / 100 % 10) (b1 : bt s (p + 1) = 48 + n / 10 % 10) (b2 : bt s (p + 2) = 48 + n % 10) : allD s p 3 = true ∧ numL s p 3 = n := by
  refine ⟨allD_iff.2 fun i hi => isD_iff.2 ?_, ?_⟩
  · rcases (by omega : i = 0 ∨ i = 1 ∨ i = 2) with rfl | rfl | rfl
    · rw [Nat.add_zero, b0]
      omega
    · rw [b1]
      omega
    · rw [b2]
      omega
  · simp only [numL, Nat.add_zero, b0, b1, b2]
    omega

theorem rd4 {s : ByteArray} {p : Nat} {n : Int} (h : 0 ≤ n ∧ n ≤ 9999) (b0 : bt s p = 48 + n / 1000 % 10) (b1 : bt s (p + 1) = 48 + n / 100 % 10) (b2 : bt s (p + 2) = 48 + n / 10 % 10) (b3 : bt s (p + 3) = 48 + n % 10) : allD s p 4 = true ∧ numL s p 4 = n := by
  refine ⟨allD_iff.2 fun i hi => isD_iff.2 ?_, ?_⟩
  · rcases (by omega : i = 0 ∨ i = 1 ∨ i = 2 ∨ i = 3) with rfl | rfl | rfl | rfl
    · rw [Nat.add_zero, b0]
      omega
    · rw [b1]
      omega
    · rw [b2]
      omega
    · rw [b3]
      omega
  · simp only [numL, Nat.add_zero, b0, b1, b2, b3]
    omega

theorem allD_at {s : ByteArray} {p m : Nat} (h : allD s p m = true) (i : Nat) (hi : i < m) : 48 ≤ bt s (p + i) ∧ bt s (p + i) ≤ 57 := isD_iff.1 (allD_iff.1 h i hi)

theorem bool_no {b : Bool} (h : b = true → False) : b = false := by
  cases b with
  | false => rfl
  | true => exact (h rfl).elim

/-- The week of a date leads back to it. -/
theorem wk_of {y m d : Int} (h : dval y m d = true) : wkD (wyr (num y m d)) (wno (num y m d)) (num y m d % 7 + 1) = ⟨y, m, d, true⟩ := by
  have hn := num_bd h
  have h1 := wno_bd hn
  have h2 := wyr_in hn
  have h3 := wno_eq hn
  have h4 := (thu_ge (wyr (num y m d)) hn.1).2 h2.2.2.1
  have h5 := wda_eq hn
  have e : wkD (wyr (num y m d)) (wno (num y m d)) (num y m d % 7 + 1) = dateOf (fmon (wyr (num y m d)) + 7 * (wno (num y m d) - 1) + (num y m d % 7 + 1) - 1) := if_pos ⟨inR_true.2 h1, inR_true.2 (by omega)⟩
  rw [e, show fmon (wyr (num y m d)) + 7 * (wno (num y m d) - 1) + (num y m d % 7 + 1) - 1 = num y m d by omega]
  exact dateOf_num h

/-- The day of the year of a date leads back to it. -/
theorem or_of {y m d : Int} (h : dval y m d = true) : orD y (ord y m d) = ⟨y, m, d, true⟩ := by
  have hd := dval_bd h
  have hn := num_in h
  have h1 : num y m d = ny y + ord y m d - 1 := rfl
  have e : orD y (ord y m d) = dateOf (ny y + ord y m d - 1) := if_pos ⟨inR_true.2 (by omega), inR_true.2 (by omega)⟩
  rw [e, ← h1]
  exact dateOf_num h

theorem read0 {y m d : Int} (h : dval y m d = true) : okP (strOfNums (dtL y m d 0 true)) 0 = true ∧ dP (strOfNums (dtL y m d 0 true)) 0 = ⟨y, m, d, true⟩ := by
  have hd := dval_bd h
  have el : dtL y m d 0 true = [48 + y / 1000 % 10, 48 + y / 100 % 10, 48 + y / 10 % 10, 48 + y % 10, 45, 48 + m / 10 % 10, 48 + m % 10, 45, 48 + d / 10 % 10, 48 + d % 10] := by
    simp only [dtL, hy1, dig1, dig2, dig3, dig4]
    rfl
  rw [el]
  have hl : ∀ x ∈ ([48 + y / 1000 % 10, 48 + y / 100 % 10, 48 + y / 10 % 10, 48 + y % 10, 45, 48 + m / 10 % 10, 48 + m % 10, 45, 48 + d / 10 % 10, 48 + d % 10] : List Int), 0 ≤ x ∧ x ≤ 255 := by
    intro x hx
    simp only [List.mem_cons, List.not_mem_nil, or_false] at hx
    rcases hx with rfl | rfl | rfl | rfl | rfl | rfl | rfl | rfl | rfl | rfl <;> omega
  have hz : (strOfNums [48 + y / 1000 % 10, 48 + y / 100 % 10, 48 + y / 10 % 10, 48 + y % 10, 45, 48 + m / 10 % 10, 48 + m % 10, 45, 48 + d / 10 % 10, 48 + d % 10]).size = 10 := by rw [strOfNums_size]; rfl
  have b0 : bt (strOfNums [48 + y / 1000 % 10, 48 + y / 100 % 10, 48 + y / 10 % 10, 48 + y % 10, 45, 48 + m / 10 % 10, 48 + m % 10, 45, 48 + d / 10 % 10, 48 + d % 10]) 0 = 48 + y / 1000 % 10 := (bt_strOf _ 0 hl).trans rfl
  have b1 : bt (strOfNums [48 + y / 1000 % 10, 48 + y / 100 % 10, 48 + y / 10 % 10, 48 + y % 10, 45, 48 + m / 10 % 10, 48 + m % 10, 45, 48 + d / 10 % 10, 48 + d % 10]) 1 = 48 + y / 100 % 10 := (bt_strOf _ 1 hl).trans rfl
  have b2 : bt (strOfNums [48 + y / 1000 % 10, 48 + y / 100 % 10, 48 + y / 10 % 10, 48 + y % 10, 45, 48 + m / 10 % 10, 48 + m % 10, 45, 48 + d / 10 % 10, 48 + d % 10]) 2 = 48 + y / 10 % 10 := (bt_strOf _ 2 hl).trans rfl
  have b3 : bt (strOfNums [48 + y / 1000 % 10, 48 + y / 100 % 10, 48 + y / 10 % 10, 48 + y % 10, 45, 48 + m / 10 % 10, 48 + m % 10, 45, 48 + d / 10 % 10, 48 + d % 10]) 3 = 48 + y % 10 := (bt_strOf _ 3 hl).trans rfl
  have b4 : bt (strOfNums [48 + y / 1000 % 10, 48 + y / 100 % 10, 48 + y / 10 % 10, 48 + y % 10, 45, 48 + m / 10 % 10, 48 + m % 10, 45, 48 + d / 10 % 10, 48 + d % 10]) 4 = 45 := (bt_strOf _ 4 hl).trans rfl
  have b5 : bt (strOfNums [48 + y / 1000 % 10, 48 + y / 100 % 10, 48 + y / 10 % 10, 48 + y % 10, 45, 48 + m / 10 % 10, 48 + m % 10, 45, 48 + d / 10 % 10, 48 + d % 10]) 5 = 48 + m / 10 % 10 := (bt_strOf _ 5 hl).trans rfl
  have b6 : bt (strOfNums [48 + y / 1000 % 10, 48 + y / 100 % 10, 48 + y / 10 % 10, 48 + y % 10, 45, 48 + m / 10 % 10, 48 + m % 10, 45, 48 + d / 10 % 10, 48 + d % 10]) 6 = 48 + m % 10 := (bt_strOf _ 6 hl).trans rfl
  have b7 : bt (strOfNums [48 + y / 1000 % 10, 48 + y / 100 % 10, 48 + y / 10 % 10, 48 + y % 10, 45, 48 + m / 10 % 10, 48 + m % 10, 45, 48 + d / 10 % 10, 48 + d % 10]) 7 = 45 := (bt_strOf _ 7 hl).trans rfl
  have b8 : bt (strOfNums [48 + y / 1000 % 10, 48 + y / 100 % 10, 48 + y / 10 % 10, 48 + y % 10, 45, 48 + m / 10 % 10, 48 + m % 10, 45, 48 + d / 10 % 10, 48 + d % 10]) 8 = 48 + d / 10 % 10 := (bt_strOf _ 8 hl).trans rfl
  have b9 : bt (strOfNums [48 + y / 1000 % 10, 48 + y / 100 % 10, 48 + y / 10 % 10, 48 + y % 10, 45, 48 + m / 10 % 10, 48 + m % 10, 45, 48 + d / 10 % 10, 48 + d % 10]) 9 = 48 + d % 10 := (bt_strOf _ 9 hl).trans rfl
  generalize strOfNums [48 + y / 1000 % 10, 48 + y / 100 % 10, 48 + y / 10 % 10, 48 + y % 10, 45, 48 + m / 10 % 10, 48 + m % 10, 45, 48 + d / 10 % 10, 48 + d % 10] = s at *
  obtain ⟨a0, n0⟩ := rd4 (s := s) (p := 0) (n := y) (by omega) b0 b1 b2 b3
  obtain ⟨a1, n1⟩ := rd2 (s := s) (p := 5) (n := m) (by omega) b5 b6
  obtain ⟨a2, n2⟩ := rd2 (s := s) (p := 8) (n := d) (by omega) b8 b9
  have hF := (okP0 s).2 ⟨a0, b4, a1, b7, a2, hz, by rw [n0, n1, n2]; exact h⟩
  have hF' := (okP0 s).1 hF
  have hD : dP s 0 = ⟨y, m, d, true⟩ := by rw [dP0 s hF', n0, n1, n2]
  exact ⟨hF, hD⟩

theorem bk0 {y m d : Int} (h : dval y m d = true) : dfV (okP (strOfNums (dtL y m d 0 true))) (dP (strOfNums (dtL y m d 0 true))) = dfT ⟨y, m, d, true⟩ 0 := by
  obtain ⟨hF, hD⟩ := read0 h
  rw [dfV_at (k := 0) (by omega) (fun j hj => by omega) hF, hD]

theorem bk1 {y m d : Int} (h : dval y m d = true) : dfV (okP (strOfNums (dtL y m d 0 false))) (dP (strOfNums (dtL y m d 0 false))) = dfT ⟨y, m, d, true⟩ 1 := by
  have hd := dval_bd h
  have el : dtL y m d 0 false = [48 + y / 1000 % 10, 48 + y / 100 % 10, 48 + y / 10 % 10, 48 + y % 10, 48 + m / 10 % 10, 48 + m % 10, 48 + d / 10 % 10, 48 + d % 10] := by
    simp only [dtL, hy1, dig1, dig2, dig3, dig4]
    rfl
  rw [el]
  have hl : ∀ x ∈ ([48 + y / 1000 % 10, 48 + y / 100 % 10, 48 + y / 10 % 10, 48 + y % 10, 48 + m / 10 % 10, 48 + m % 10, 48 + d / 10 % 10, 48 + d % 10] : List Int), 0 ≤ x ∧ x ≤ 255 := by
    intro x hx
    simp only [List.mem_cons, List.not_mem_nil, or_false] at hx
    rcases hx with rfl | rfl | rfl | rfl | rfl | rfl | rfl | rfl <;> omega
  have hz : (strOfNums [48 + y / 1000 % 10, 48 + y / 100 % 10, 48 + y / 10 % 10, 48 + y % 10, 48 + m / 10 % 10, 48 + m % 10, 48 + d / 10 % 10, 48 + d % 10]).size = 8 := by rw [strOfNums_size]; rfl
  have b0 : bt (strOfNums [48 + y / 1000 % 10, 48 + y / 100 % 10, 48 + y / 10 % 10, 48 + y % 10, 48 + m / 10 % 10, 48 + m % 10, 48 + d / 10 % 10, 48 + d % 10]) 0 = 48 + y / 1000 % 10 := (bt_strOf _ 0 hl).trans rfl
  have b1 : bt (strOfNums [48 + y / 1000 % 10, 48 + y / 100 % 10, 48 + y / 10 % 10, 48 + y % 10, 48 + m / 10 % 10, 48 + m % 10, 48 + d / 10 % 10, 48 + d % 10]) 1 = 48 + y / 100 % 10 := (bt_strOf _ 1 hl).trans rfl
  have b2 : bt (strOfNums [48 + y / 1000 % 10, 48 + y / 100 % 10, 48 + y / 10 % 10, 48 + y % 10, 48 + m / 10 % 10, 48 + m % 10, 48 + d / 10 % 10, 48 + d % 10]) 2 = 48 + y / 10 % 10 := (bt_strOf _ 2 hl).trans rfl
  have b3 : bt (strOfNums [48 + y / 1000 % 10, 48 + y / 100 % 10, 48 + y / 10 % 10, 48 + y % 10, 48 + m / 10 % 10, 48 + m % 10, 48 + d / 10 % 10, 48 + d % 10]) 3 = 48 + y % 10 := (bt_strOf _ 3 hl).trans rfl
  have b4 : bt (strOfNums [48 + y / 1000 % 10, 48 + y / 100 % 10, 48 + y / 10 % 10, 48 + y % 10, 48 + m / 10 % 10, 48 + m % 10, 48 + d / 10 % 10, 48 + d % 10]) 4 = 48 + m / 10 % 10 := (bt_strOf _ 4 hl).trans rfl
  have b5 : bt (strOfNums [48 + y / 1000 % 10, 48 + y / 100 % 10, 48 + y / 10 % 10, 48 + y % 10, 48 + m / 10 % 10, 48 + m % 10, 48 + d / 10 % 10, 48 + d % 10]) 5 = 48 + m % 10 := (bt_strOf _ 5 hl).trans rfl
  have b6 : bt (strOfNums [48 + y / 1000 % 10, 48 + y / 100 % 10, 48 + y / 10 % 10, 48 + y % 10, 48 + m / 10 % 10, 48 + m % 10, 48 + d / 10 % 10, 48 + d % 10]) 6 = 48 + d / 10 % 10 := (bt_strOf _ 6 hl).trans rfl
  have b7 : bt (strOfNums [48 + y / 1000 % 10, 48 + y / 100 % 10, 48 + y / 10 % 10, 48 + y % 10, 48 + m / 10 % 10, 48 + m % 10, 48 + d / 10 % 10, 48 + d % 10]) 7 = 48 + d % 10 := (bt_strOf _ 7 hl).trans rfl
  generalize strOfNums [48 + y / 1000 % 10, 48 + y / 100 % 10, 48 + y / 10 % 10, 48 + y % 10, 48 + m / 10 % 10, 48 + m % 10, 48 + d / 10 % 10, 48 + d % 10] = s at *
  obtain ⟨a0, n0⟩ := rd4 (s := s) (p := 0) (n := y) (by omega) b0 b1 b2 b3
  obtain ⟨a1, n1⟩ := rd2 (s := s) (p := 4) (n := m) (by omega) b4 b5
  obtain ⟨a2, n2⟩ := rd2 (s := s) (p := 6) (n := d) (by omega) b6 b7
  have hF := (okP1 s).2 ⟨a0, a1, a2, hz, by rw [n0, n1, n2]; exact h⟩
  have hF' := (okP1 s).1 hF
  have hD : dP s 1 = ⟨y, m, d, true⟩ := by rw [dP1 s hF', n0, n1, n2]
  have g0 : okP s 0 = false := bool_no fun hj => by
    replace hj := (okP0 s).1 hj
    have := hj.2.2.2.2.2.1
    omega
  rw [dfV_at (k := 1) (by omega) (fun j hj => ?_) hF, hD]
  obtain rfl : j = 0 := by omega
  assumption

theorem bk2 {y m d : Int} (h : dval y m d = true) : dfV (okP (strOfNums (dtL y m d 1 true))) (dP (strOfNums (dtL y m d 1 true))) = dfT ⟨y, m, d, true⟩ 2 := by
  have hd := dval_bd h
  have hn := num_bd h
  have hw := wyr_in hn
  have hk := wno_bd hn
  have hk2 := wks_bd (wyr (num y m d))
  have hback := wk_of h
  have el : dtL y m d 1 true = [48 + wyr (num y m d) / 1000 % 10, 48 + wyr (num y m d) / 100 % 10, 48 + wyr (num y m d) / 10 % 10, 48 + wyr (num y m d) % 10, 45, 87, 48 + wno (num y m d) / 10 % 10, 48 + wno (num y m d) % 10, 45, 48 + (num y m d % 7 + 1) % 10] := by
    simp only [dtL, hy1, dig1, dig2, dig3, dig4]
    rfl
  rw [el]
  generalize wyr (num y m d) = Y at *
  generalize wno (num y m d) = K at *
  have hJ : 1 ≤ num y m d % 7 + 1 ∧ num y m d % 7 + 1 ≤ 7 := by omega
  generalize num y m d % 7 + 1 = J at *
  have hl : ∀ x ∈ ([48 + Y / 1000 % 10, 48 + Y / 100 % 10, 48 + Y / 10 % 10, 48 + Y % 10, 45, 87, 48 + K / 10 % 10, 48 + K % 10, 45, 48 + J % 10] : List Int), 0 ≤ x ∧ x ≤ 255 := by
    intro x hx
    simp only [List.mem_cons, List.not_mem_nil, or_false] at hx
    rcases hx with rfl | rfl | rfl | rfl | rfl | rfl | rfl | rfl | rfl | rfl <;> omega
  have hz : (strOfNums [48 + Y / 1000 % 10, 48 + Y / 100 % 10, 48 + Y / 10 % 10, 48 + Y % 10, 45, 87, 48 + K / 10 % 10, 48 + K % 10, 45, 48 + J % 10]).size = 10 := by rw [strOfNums_size]; rfl
  have b0 : bt (strOfNums [48 + Y / 1000 % 10, 48 + Y / 100 % 10, 48 + Y / 10 % 10, 48 + Y % 10, 45, 87, 48 + K / 10 % 10, 48 + K % 10, 45, 48 + J % 10]) 0 = 48 + Y / 1000 % 10 := (bt_strOf _ 0 hl).trans rfl
  have b1 : bt (strOfNums [48 + Y / 1000 % 10, 48 + Y / 100 % 10, 48 + Y / 10 % 10, 48 + Y % 10, 45, 87, 48 + K / 10 % 10, 48 + K % 10, 45, 48 + J % 10]) 1 = 48 + Y / 100 % 10 := (bt_strOf _ 1 hl).trans rfl
  have b2 : bt (strOfNums [48 + Y / 1000 % 10, 48 + Y / 100 % 10, 48 + Y / 10 % 10, 48 + Y % 10, 45, 87, 48 + K / 10 % 10, 48 + K % 10, 45, 48 + J % 10]) 2 = 48 + Y / 10 % 10 := (bt_strOf _ 2 hl).trans rfl
  have b3 : bt (strOfNums [48 + Y / 1000 % 10, 48 + Y / 100 % 10, 48 + Y / 10 % 10, 48 + Y % 10, 45, 87, 48 + K / 10 % 10, 48 + K % 10, 45, 48 + J % 10]) 3 = 48 + Y % 10 := (bt_strOf _ 3 hl).trans rfl
  have b4 : bt (strOfNums [48 + Y / 1000 % 10, 48 + Y / 100 % 10, 48 + Y / 10 % 10, 48 + Y % 10, 45, 87, 48 + K / 10 % 10, 48 + K % 10, 45, 48 + J % 10]) 4 = 45 := (bt_strOf _ 4 hl).trans rfl
  have b5 : bt (strOfNums [48 + Y / 1000 % 10, 48 + Y / 100 % 10, 48 + Y / 10 % 10, 48 + Y % 10, 45, 87, 48 + K / 10 % 10, 48 + K % 10, 45, 48 + J % 10]) 5 = 87 := (bt_strOf _ 5 hl).trans rfl
  have b6 : bt (strOfNums [48 + Y / 1000 % 10, 48 + Y / 100 % 10, 48 + Y / 10 % 10, 48 + Y % 10, 45, 87, 48 + K / 10 % 10, 48 + K % 10, 45, 48 + J % 10]) 6 = 48 + K / 10 % 10 := (bt_strOf _ 6 hl).trans rfl
  have b7 : bt (strOfNums [48 + Y / 1000 % 10, 48 + Y / 100 % 10, 48 + Y / 10 % 10, 48 + Y % 10, 45, 87, 48 + K / 10 % 10, 48 + K % 10, 45, 48 + J % 10]) 7 = 48 + K % 10 := (bt_strOf _ 7 hl).trans rfl
  have b8 : bt (strOfNums [48 + Y / 1000 % 10, 48 + Y / 100 % 10, 48 + Y / 10 % 10, 48 + Y % 10, 45, 87, 48 + K / 10 % 10, 48 + K % 10, 45, 48 + J % 10]) 8 = 45 := (bt_strOf _ 8 hl).trans rfl
  have b9 : bt (strOfNums [48 + Y / 1000 % 10, 48 + Y / 100 % 10, 48 + Y / 10 % 10, 48 + Y % 10, 45, 87, 48 + K / 10 % 10, 48 + K % 10, 45, 48 + J % 10]) 9 = 48 + J % 10 := (bt_strOf _ 9 hl).trans rfl
  generalize strOfNums [48 + Y / 1000 % 10, 48 + Y / 100 % 10, 48 + Y / 10 % 10, 48 + Y % 10, 45, 87, 48 + K / 10 % 10, 48 + K % 10, 45, 48 + J % 10] = s at *
  obtain ⟨a0, n0⟩ := rd4 (s := s) (p := 0) (n := Y) (by omega) b0 b1 b2 b3
  obtain ⟨a1, n1⟩ := rd2 (s := s) (p := 6) (n := K) (by omega) b6 b7
  obtain ⟨a2, n2⟩ := rd1 (s := s) (p := 9) (n := J) (by omega) b9
  have hF := (okP2 s).2 ⟨a0, b4, b5, a1, b8, a2, hz, by rw [n0, n1, n2, hback]⟩
  have hF' := (okP2 s).1 hF
  have hD : dP s 2 = ⟨y, m, d, true⟩ := by rw [dP2 s hF', n0, n1, n2, hback]
  have g0 : okP s 0 = false := bool_no fun hj => by
    replace hj := (okP0 s).1 hj
    have := allD_at hj.2.2.1 0 (by omega)
    simp only [Nat.add_zero] at this
    omega
  have g1 : okP s 1 = false := bool_no fun hj => by
    replace hj := (okP1 s).1 hj
    have := hj.2.2.2.1
    omega
  rw [dfV_at (k := 2) (by omega) (fun j hj => ?_) hF, hD]
  rcases (by omega : j = 0 ∨ j = 1) with rfl | rfl <;> assumption

theorem bk3 {y m d : Int} (h : dval y m d = true) : dfV (okP (strOfNums (dtL y m d 1 false))) (dP (strOfNums (dtL y m d 1 false))) = dfT ⟨y, m, d, true⟩ 3 := by
  have hd := dval_bd h
  have hn := num_bd h
  have hw := wyr_in hn
  have hk := wno_bd hn
  have hk2 := wks_bd (wyr (num y m d))
  have hback := wk_of h
  have el : dtL y m d 1 false = [48 + wyr (num y m d) / 1000 % 10, 48 + wyr (num y m d) / 100 % 10, 48 + wyr (num y m d) / 10 % 10, 48 + wyr (num y m d) % 10, 87, 48 + wno (num y m d) / 10 % 10, 48 + wno (num y m d) % 10, 48 + (num y m d % 7 + 1) % 10] := by
    simp only [dtL, hy1, dig1, dig2, dig3, dig4]
    rfl
  rw [el]
  generalize wyr (num y m d) = Y at *
  generalize wno (num y m d) = K at *
  have hJ : 1 ≤ num y m d % 7 + 1 ∧ num y m d % 7 + 1 ≤ 7 := by omega
  generalize num y m d % 7 + 1 = J at *
  have hl : ∀ x ∈ ([48 + Y / 1000 % 10, 48 + Y / 100 % 10, 48 + Y / 10 % 10, 48 + Y % 10, 87, 48 + K / 10 % 10, 48 + K % 10, 48 + J % 10] : List Int), 0 ≤ x ∧ x ≤ 255 := by
    intro x hx
    simp only [List.mem_cons, List.not_mem_nil, or_false] at hx
    rcases hx with rfl | rfl | rfl | rfl | rfl | rfl | rfl | rfl <;> omega
  have hz : (strOfNums [48 + Y / 1000 % 10, 48 + Y / 100 % 10, 48 + Y / 10 % 10, 48 + Y % 10, 87, 48 + K / 10 % 10, 48 + K % 10, 48 + J % 10]).size = 8 := by rw [strOfNums_size]; rfl
  have b0 : bt (strOfNums [48 + Y / 1000 % 10, 48 + Y / 100 % 10, 48 + Y / 10 % 10, 48 + Y % 10, 87, 48 + K / 10 % 10, 48 + K % 10, 48 + J % 10]) 0 = 48 + Y / 1000 % 10 := (bt_strOf _ 0 hl).trans rfl
  have b1 : bt (strOfNums [48 + Y / 1000 % 10, 48 + Y / 100 % 10, 48 + Y / 10 % 10, 48 + Y % 10, 87, 48 + K / 10 % 10, 48 + K % 10, 48 + J % 10]) 1 = 48 + Y / 100 % 10 := (bt_strOf _ 1 hl).trans rfl
  have b2 : bt (strOfNums [48 + Y / 1000 % 10, 48 + Y / 100 % 10, 48 + Y / 10 % 10, 48 + Y % 10, 87, 48 + K / 10 % 10, 48 + K % 10, 48 + J % 10]) 2 = 48 + Y / 10 % 10 := (bt_strOf _ 2 hl).trans rfl
  have b3 : bt (strOfNums [48 + Y / 1000 % 10, 48 + Y / 100 % 10, 48 + Y / 10 % 10, 48 + Y % 10, 87, 48 + K / 10 % 10, 48 + K % 10, 48 + J % 10]) 3 = 48 + Y % 10 := (bt_strOf _ 3 hl).trans rfl
  have b4 : bt (strOfNums [48 + Y / 1000 % 10, 48 + Y / 100 % 10, 48 + Y / 10 % 10, 48 + Y % 10, 87, 48 + K / 10 % 10, 48 + K % 10, 48 + J % 10]) 4 = 87 := (bt_strOf _ 4 hl).trans rfl
  have b5 : bt (strOfNums [48 + Y / 1000 % 10, 48 + Y / 100 % 10, 48 + Y / 10 % 10, 48 + Y % 10, 87, 48 + K / 10 % 10, 48 + K % 10, 48 + J % 10]) 5 = 48 + K / 10 % 10 := (bt_strOf _ 5 hl).trans rfl
  have b6 : bt (strOfNums [48 + Y / 1000 % 10, 48 + Y / 100 % 10, 48 + Y / 10 % 10, 48 + Y % 10, 87, 48 + K / 10 % 10, 48 + K % 10, 48 + J % 10]) 6 = 48 + K % 10 := (bt_strOf _ 6 hl).trans rfl
  have b7 : bt (strOfNums [48 + Y / 1000 % 10, 48 + Y / 100 % 10, 48 + Y / 10 % 10, 48 + Y % 10, 87, 48 + K / 10 % 10, 48 + K % 10, 48 + J % 10]) 7 = 48 + J % 10 := (bt_strOf _ 7 hl).trans rfl
  generalize strOfNums [48 + Y / 1000 % 10, 48 + Y / 100 % 10, 48 + Y / 10 % 10, 48 + Y % 10, 87, 48 + K / 10 % 10, 48 + K % 10, 48 + J % 10] = s at *
  obtain ⟨a0, n0⟩ := rd4 (s := s) (p := 0) (n := Y) (by omega) b0 b1 b2 b3
  obtain ⟨a1, n1⟩ := rd2 (s := s) (p := 5) (n := K) (by omega) b5 b6
  obtain ⟨a2, n2⟩ := rd1 (s := s) (p := 7) (n := J) (by omega) b7
  have hF := (okP3 s).2 ⟨a0, b4, a1, a2, hz, by rw [n0, n1, n2, hback]⟩
  have hF' := (okP3 s).1 hF
  have hD : dP s 3 = ⟨y, m, d, true⟩ := by rw [dP3 s hF', n0, n1, n2, hback]
  have g0 : okP s 0 = false := bool_no fun hj => by
    replace hj := (okP0 s).1 hj
    have := hj.2.2.2.2.2.1
    omega
  have g1 : okP s 1 = false := bool_no fun hj => by
    replace hj := (okP1 s).1 hj
    have := allD_at hj.2.1 0 (by omega)
    simp only [Nat.add_zero] at this
    omega
  have g2 : okP s 2 = false := bool_no fun hj => by
    replace hj := (okP2 s).1 hj
    have := hj.2.2.2.2.2.2.1
    omega
  rw [dfV_at (k := 3) (by omega) (fun j hj => ?_) hF, hD]
  rcases (by omega : j = 0 ∨ j = 1 ∨ j = 2) with rfl | rfl | rfl <;> assumption

theorem bk4 {y m d : Int} (h : dval y m d = true) : dfV (okP (strOfNums (dtL y m d 2 true))) (dP (strOfNums (dtL y m d 2 true))) = dfT ⟨y, m, d, true⟩ 4 := by
  have hd := dval_bd h
  have ho := ord_bd y m d (by omega) (by omega) (by omega)
  have hback := or_of h
  have el : dtL y m d 2 true = [48 + y / 1000 % 10, 48 + y / 100 % 10, 48 + y / 10 % 10, 48 + y % 10, 45, 48 + ord y m d / 100 % 10, 48 + ord y m d / 10 % 10, 48 + ord y m d % 10] := by
    simp only [dtL, hy1, dig1, dig2, dig3, dig4]
    rfl
  rw [el]
  generalize ord y m d = K at *
  have hl : ∀ x ∈ ([48 + y / 1000 % 10, 48 + y / 100 % 10, 48 + y / 10 % 10, 48 + y % 10, 45, 48 + K / 100 % 10, 48 + K / 10 % 10, 48 + K % 10] : List Int), 0 ≤ x ∧ x ≤ 255 := by
    intro x hx
    simp only [List.mem_cons, List.not_mem_nil, or_false] at hx
    rcases hx with rfl | rfl | rfl | rfl | rfl | rfl | rfl | rfl <;> omega
  have hz : (strOfNums [48 + y / 1000 % 10, 48 + y / 100 % 10, 48 + y / 10 % 10, 48 + y % 10, 45, 48 + K / 100 % 10, 48 + K / 10 % 10, 48 + K % 10]).size = 8 := by rw [strOfNums_size]; rfl
  have b0 : bt (strOfNums [48 + y / 1000 % 10, 48 + y / 100 % 10, 48 + y / 10 % 10, 48 + y % 10, 45, 48 + K / 100 % 10, 48 + K / 10 % 10, 48 + K % 10]) 0 = 48 + y / 1000 % 10 := (bt_strOf _ 0 hl).trans rfl
  have b1 : bt (strOfNums [48 + y / 1000 % 10, 48 + y / 100 % 10, 48 + y / 10 % 10, 48 + y % 10, 45, 48 + K / 100 % 10, 48 + K / 10 % 10, 48 + K % 10]) 1 = 48 + y / 100 % 10 := (bt_strOf _ 1 hl).trans rfl
  have b2 : bt (strOfNums [48 + y / 1000 % 10, 48 + y / 100 % 10, 48 + y / 10 % 10, 48 + y % 10, 45, 48 + K / 100 % 10, 48 + K / 10 % 10, 48 + K % 10]) 2 = 48 + y / 10 % 10 := (bt_strOf _ 2 hl).trans rfl
  have b3 : bt (strOfNums [48 + y / 1000 % 10, 48 + y / 100 % 10, 48 + y / 10 % 10, 48 + y % 10, 45, 48 + K / 100 % 10, 48 + K / 10 % 10, 48 + K % 10]) 3 = 48 + y % 10 := (bt_strOf _ 3 hl).trans rfl
  have b4 : bt (strOfNums [48 + y / 1000 % 10, 48 + y / 100 % 10, 48 + y / 10 % 10, 48 + y % 10, 45, 48 + K / 100 % 10, 48 + K / 10 % 10, 48 + K % 10]) 4 = 45 := (bt_strOf _ 4 hl).trans rfl
  have b5 : bt (strOfNums [48 + y / 1000 % 10, 48 + y / 100 % 10, 48 + y / 10 % 10, 48 + y % 10, 45, 48 + K / 100 % 10, 48 + K / 10 % 10, 48 + K % 10]) 5 = 48 + K / 100 % 10 := (bt_strOf _ 5 hl).trans rfl
  have b6 : bt (strOfNums [48 + y / 1000 % 10, 48 + y / 100 % 10, 48 + y / 10 % 10, 48 + y % 10, 45, 48 + K / 100 % 10, 48 + K / 10 % 10, 48 + K % 10]) 6 = 48 + K / 10 % 10 := (bt_strOf _ 6 hl).trans rfl
  have b7 : bt (strOfNums [48 + y / 1000 % 10, 48 + y / 100 % 10, 48 + y / 10 % 10, 48 + y % 10, 45, 48 + K / 100 % 10, 48 + K / 10 % 10, 48 + K % 10]) 7 = 48 + K % 10 := (bt_strOf _ 7 hl).trans rfl
  generalize strOfNums [48 + y / 1000 % 10, 48 + y / 100 % 10, 48 + y / 10 % 10, 48 + y % 10, 45, 48 + K / 100 % 10, 48 + K / 10 % 10, 48 + K % 10] = s at *
  obtain ⟨a0, n0⟩ := rd4 (s := s) (p := 0) (n := y) (by omega) b0 b1 b2 b3
  obtain ⟨a1, n1⟩ := rd3 (s := s) (p := 5) (n := K) (by omega) b5 b6 b7
  have hF := (okP4 s).2 ⟨a0, b4, a1, hz, by rw [n0, n1, hback]⟩
  have hF' := (okP4 s).1 hF
  have hD : dP s 4 = ⟨y, m, d, true⟩ := by rw [dP4 s hF', n0, n1, hback]
  have g0 : okP s 0 = false := bool_no fun hj => by
    replace hj := (okP0 s).1 hj
    have := hj.2.2.2.2.2.1
    omega
  have g1 : okP s 1 = false := bool_no fun hj => by
    replace hj := (okP1 s).1 hj
    have := allD_at hj.2.1 0 (by omega)
    simp only [Nat.add_zero] at this
    omega
  have g2 : okP s 2 = false := bool_no fun hj => by
    replace hj := (okP2 s).1 hj
    have := hj.2.2.2.2.2.2.1
    omega
  have g3 : okP s 3 = false := bool_no fun hj => by
    replace hj := (okP3 s).1 hj
    have := hj.2.1
    omega
  rw [dfV_at (k := 4) (by omega) (fun j hj => ?_) hF, hD]
  rcases (by omega : j = 0 ∨ j = 1 ∨ j = 2 ∨ j = 3) with rfl | rfl | rfl | rfl <;> assumption

theorem bk5 {y m d : Int} (h : dval y m d = true) : dfV (okP (strOfNums (dtL y m d 2 false))) (dP (strOfNums (dtL y m d 2 false))) = dfT ⟨y, m, d, true⟩ 5 := by
  have hd := dval_bd h
  have ho := ord_bd y m d (by omega) (by omega) (by omega)
  have hback := or_of h
  have el : dtL y m d 2 false = [48 + y / 1000 % 10, 48 + y / 100 % 10, 48 + y / 10 % 10, 48 + y % 10, 48 + ord y m d / 100 % 10, 48 + ord y m d / 10 % 10, 48 + ord y m d % 10] := by
    simp only [dtL, hy1, dig1, dig2, dig3, dig4]
    rfl
  rw [el]
  generalize ord y m d = K at *
  have hl : ∀ x ∈ ([48 + y / 1000 % 10, 48 + y / 100 % 10, 48 + y / 10 % 10, 48 + y % 10, 48 + K / 100 % 10, 48 + K / 10 % 10, 48 + K % 10] : List Int), 0 ≤ x ∧ x ≤ 255 := by
    intro x hx
    simp only [List.mem_cons, List.not_mem_nil, or_false] at hx
    rcases hx with rfl | rfl | rfl | rfl | rfl | rfl | rfl <;> omega
  have hz : (strOfNums [48 + y / 1000 % 10, 48 + y / 100 % 10, 48 + y / 10 % 10, 48 + y % 10, 48 + K / 100 % 10, 48 + K / 10 % 10, 48 + K % 10]).size = 7 := by rw [strOfNums_size]; rfl
  have b0 : bt (strOfNums [48 + y / 1000 % 10, 48 + y / 100 % 10, 48 + y / 10 % 10, 48 + y % 10, 48 + K / 100 % 10, 48 + K / 10 % 10, 48 + K % 10]) 0 = 48 + y / 1000 % 10 := (bt_strOf _ 0 hl).trans rfl
  have b1 : bt (strOfNums [48 + y / 1000 % 10, 48 + y / 100 % 10, 48 + y / 10 % 10, 48 + y % 10, 48 + K / 100 % 10, 48 + K / 10 % 10, 48 + K % 10]) 1 = 48 + y / 100 % 10 := (bt_strOf _ 1 hl).trans rfl
  have b2 : bt (strOfNums [48 + y / 1000 % 10, 48 + y / 100 % 10, 48 + y / 10 % 10, 48 + y % 10, 48 + K / 100 % 10, 48 + K / 10 % 10, 48 + K % 10]) 2 = 48 + y / 10 % 10 := (bt_strOf _ 2 hl).trans rfl
  have b3 : bt (strOfNums [48 + y / 1000 % 10, 48 + y / 100 % 10, 48 + y / 10 % 10, 48 + y % 10, 48 + K / 100 % 10, 48 + K / 10 % 10, 48 + K % 10]) 3 = 48 + y % 10 := (bt_strOf _ 3 hl).trans rfl
  have b4 : bt (strOfNums [48 + y / 1000 % 10, 48 + y / 100 % 10, 48 + y / 10 % 10, 48 + y % 10, 48 + K / 100 % 10, 48 + K / 10 % 10, 48 + K % 10]) 4 = 48 + K / 100 % 10 := (bt_strOf _ 4 hl).trans rfl
  have b5 : bt (strOfNums [48 + y / 1000 % 10, 48 + y / 100 % 10, 48 + y / 10 % 10, 48 + y % 10, 48 + K / 100 % 10, 48 + K / 10 % 10, 48 + K % 10]) 5 = 48 + K / 10 % 10 := (bt_strOf _ 5 hl).trans rfl
  have b6 : bt (strOfNums [48 + y / 1000 % 10, 48 + y / 100 % 10, 48 + y / 10 % 10, 48 + y % 10, 48 + K / 100 % 10, 48 + K / 10 % 10, 48 + K % 10]) 6 = 48 + K % 10 := (bt_strOf _ 6 hl).trans rfl
  generalize strOfNums [48 + y / 1000 % 10, 48 + y / 100 % 10, 48 + y / 10 % 10, 48 + y % 10, 48 + K / 100 % 10, 48 + K / 10 % 10, 48 + K % 10] = s at *
  obtain ⟨a0, n0⟩ := rd4 (s := s) (p := 0) (n := y) (by omega) b0 b1 b2 b3
  obtain ⟨a1, n1⟩ := rd3 (s := s) (p := 4) (n := K) (by omega) b4 b5 b6
  have hF := (okP5 s).2 ⟨a0, a1, hz, by rw [n0, n1, hback]⟩
  have hF' := (okP5 s).1 hF
  have hD : dP s 5 = ⟨y, m, d, true⟩ := by rw [dP5 s hF', n0, n1, hback]
  have g0 : okP s 0 = false := bool_no fun hj => by
    replace hj := (okP0 s).1 hj
    have := hj.2.2.2.2.2.1
    omega
  have g1 : okP s 1 = false := bool_no fun hj => by
    replace hj := (okP1 s).1 hj
    have := hj.2.2.2.1
    omega
  have g2 : okP s 2 = false := bool_no fun hj => by
    replace hj := (okP2 s).1 hj
    have := hj.2.2.2.2.2.2.1
    omega
  have g3 : okP s 3 = false := bool_no fun hj => by
    replace hj := (okP3 s).1 hj
    have := hj.2.2.2.2.1
    omega
  have g4 : okP s 4 = false := bool_no fun hj => by
    replace hj := (okP4 s).1 hj
    have := hj.2.2.2.1
    omega
  rw [dfV_at (k := 5) (by omega) (fun j hj => ?_) hF, hD]
  rcases (by omega : j = 0 ∨ j = 1 ∨ j = 2 ∨ j = 3 ∨ j = 4) with rfl | rfl | rfl | rfl | rfl <;> assumption

/-- **The text of a date is read as that date.** -/
theorem df_text {y m d f : Int} (h : Bool) (hv : dval y m d = true) (hf : inR f 0 2 = true) : dfV (okP (strOfNums (dtL y m d f h))) (dP (strOfNums (dtL y m d f h))) = .tuple #[.agg #[.int .i64 y, .int .i64 m, .int .i64 d], .int .i64 f, .bool h, .bool true] := by
  have hb := inR_true.1 hf
  rcases (by omega : f = 0 ∨ f = 1 ∨ f = 2) with rfl | rfl | rfl <;> cases h
  · exact bk1 hv
  · exact bk0 hv
  · exact bk3 hv
  · exact bk2 hv
  · exact bk5 hv
  · exact bk4 hv

end D
end Go.Proofs.YtpgbmohocfcjpaaGreatDoor
