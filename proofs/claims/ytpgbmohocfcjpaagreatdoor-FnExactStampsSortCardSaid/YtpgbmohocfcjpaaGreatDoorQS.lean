/- Plain laws: times and offsets as texts. -/
import Derived.Test.YtpgbmohocfcjpaaGreatDoorPT
import Derived.Test.YtpgbmohocfcjpaaGreatDoorPL
namespace Go.Proofs.YtpgbmohocfcjpaaGreatDoor
set_option linter.unusedVariables false
set_option linter.unusedSimpArgs false
namespace D
open Go.RowKit
open Go.PlainAid (bt bt_nonneg bt_le bt_end)

/-- A time, or none. -/
structure CR where
  h : Int
  i : Int
  s : Int
  k : Int
  ok : Bool

def CR.no : CR := ⟨0, 0, 0, 0, false⟩

/-- One place more, if there are colons. -/
def b2 (h : Bool) : Nat := if h = true then 1 else 0

def coV (s : ByteArray) (p : Nat) (h : Bool) : Bool := !h || isB s p 58

/-- Is there a fraction from a place on, or nothing? -/
def frOk (s : ByteArray) (q : Nat) : Bool := decide (s.size = q) || (isB s q 46 && decide (q + 2 ≤ s.size ∧ s.size ≤ q + 4) && allD s (q + 1) (s.size - q - 1))
def frK (s : ByteArray) (q : Nat) : Int := if s.size = q then 0 else numL s (q + 1) (s.size - q - 1) * p10 (3 - (s.size - q - 1))

def clkOk (s : ByteArray) (h : Bool) : Bool :=
  allD s 0 2 && coV s 2 h && allD s (2 + b2 h) 2 && coV s (4 + b2 h) h && allD s (4 + 2 * b2 h) 2 && frOk s (6 + 2 * b2 h) && cval (numL s 0 2) (numL s (2 + b2 h) 2) (numL s (4 + 2 * b2 h) 2) (frK s (6 + 2 * b2 h))

def clkV (s : ByteArray) (h : Bool) : CR := if clkOk s h = true then ⟨numL s 0 2, numL s (2 + b2 h) 2, numL s (4 + 2 * b2 h) 2, frK s (6 + 2 * b2 h), true⟩ else CR.no

/-- A fraction, as bytes. -/
def frL (k : Int) : List Int := if k = 0 then [] else if k % 100 = 0 then 46 :: digL (k / 100) 1 else if k % 10 = 0 then 46 :: digL (k / 10) 2 else 46 :: digL k 3

/-- A time, as bytes. -/
def clL (h i s k : Int) : List Int := digL h 2 ++ [58] ++ digL i 2 ++ [58] ++ digL s 2 ++ frL k

/-- An offset, as bytes. -/
def ofP (o n : Int) : List Int := (if o < 0 then 45 else 43) :: (digL (n / 60) 2 ++ [58] ++ digL (n % 60) 2)
def ofL (o : Int) : List Int := if o = 0 then [90] else ofP o (if o < 0 then -o else o)

/-- Is a text an offset? -/
def ofOk (s : ByteArray) : Bool :=
  decide (s.size = 1 ∧ (bt s 0 = 90 ∨ bt s 0 = 122)) ||
  (decide (s.size = 6) && isB s 3 58 && allD s 1 2 && allD s 4 2 && decide (numL s 1 2 ≤ 23 ∧ numL s 4 2 ≤ 59 ∧ (bt s 0 = 43 ∨ (bt s 0 = 45 ∧ 0 < 60 * numL s 1 2 + numL s 4 2))))

def ofN (s : ByteArray) : Int := if s.size = 1 then 0 else if bt s 0 = 45 then -(60 * numL s 1 2 + numL s 4 2) else 60 * numL s 1 2 + numL s 4 2

/-- The offset of a text. -/
def ofV (s : ByteArray) : Value := if ofOk s = true then .tuple #[.int .i64 (ofN s), .bool true] else .tuple #[.int .i64 0, .bool false]

theorem fr_run {s : ByteArray} {q j : Nat} (hd : isB s q 46 = true) (hj1 : ∀ i, i < j → isD s (q + 1 + i) = true) (hj2 : isD s (q + 1 + j) = false) : frOk s q = decide (1 ≤ j ∧ j ≤ 3 ∧ q + 1 + j = s.size) := by
  have hb := isB_iff.1 hd
  have hle : q + 1 + j ≤ s.size := by
    by_cases h0 : j = 0
    · omega
    · have := isD_lt (hj1 (j - 1) (by omega))
      omega
  rw [Bool.eq_iff_iff]
  simp only [frOk, hd, Bool.true_and, Bool.or_eq_true, Bool.and_eq_true, decide_eq_true_eq]
  constructor
  · rintro (h | ⟨h1, h2⟩)
    · omega
    · have hm : s.size - q - 1 ≤ j := Nat.le_of_not_lt fun hlt => by
        have := allD_iff.1 h2 j hlt
        rw [hj2] at this
        cases this
      omega
  · rintro ⟨h1, h2, h3⟩
    refine .inr ⟨by omega, ?_⟩
    rw [show s.size - q - 1 = j by omega]
    exact allD_iff.2 hj1

theorem frK_run {s : ByteArray} {q j : Nat} (h1 : 1 ≤ j) (h3 : q + 1 + j = s.size) : frK s q = numL s (q + 1) j * p10 (3 - j) := by
  unfold frK
  rw [if_neg (by omega), show s.size - q - 1 = j by omega]

theorem ofN_bd {s : ByteArray} (h : ofOk s = true) : inR (ofN s) (-1439) 1439 = true := by
  simp only [ofOk, Bool.or_eq_true, Bool.and_eq_true, decide_eq_true_eq] at h
  refine inR_true.2 ?_
  rcases h with ⟨h1, _⟩ | ⟨⟨⟨⟨h1, h2⟩, h3⟩, h4⟩, h5, h6, h7⟩
  · simp [ofN, h1]
  · have h8 := numL_bd h3
    have h9 := numL_bd h4
    unfold ofN
    rw [if_neg (by omega)]
    split <;> omega

theorem ofL_in {o : Int} (h : inR o (-1439) 1439 = true) : ∀ x ∈ ofL o, 0 ≤ x ∧ x ≤ 255 := by
  intro x hx
  unfold ofL at hx
  split at hx
  · simp only [List.mem_singleton] at hx
    omega
  · simp only [ofP, List.mem_cons, List.mem_append, List.not_mem_nil, or_false] at hx
    rcases hx with h1 | (h1 | h1) | h1
    · split at h1 <;> omega
    · have := digL_in _ _ _ h1
      omega
    · omega
    · have := digL_in _ _ _ h1
      omega

theorem frL_len (k : Int) : (frL k).length ≤ 4 := by
  unfold frL
  repeat' split
  all_goals simp [digL_length]

theorem clL_len (h i s k : Int) : (clL h i s k).length = 8 + (frL k).length := by simp [clL, digL_length]; omega

theorem ofL_len (o : Int) : (ofL o).length = 1 ∨ (ofL o).length = 6 := by
  unfold ofL
  split
  · exact .inl rfl
  · right
    simp [ofP, digL_length]

theorem str0 : (⟨#[]⟩ : ByteArray) = strOfNums [] := rfl

theorem str43 : (⟨#[43]⟩ : ByteArray) = strOfNums [43] := rfl

theorem str45 : (⟨#[45]⟩ : ByteArray) = strOfNums [45] := rfl

theorem str46 : (⟨#[46]⟩ : ByteArray) = strOfNums [46] := rfl

theorem str58 : (⟨#[58]⟩ : ByteArray) = strOfNums [58] := rfl

theorem str84 : (⟨#[84]⟩ : ByteArray) = strOfNums [84] := rfl

theorem str90 : (⟨#[90]⟩ : ByteArray) = strOfNums [90] := rfl

/-- The text of an offset, or none. -/
def ofT (o : Int) : ByteArray := if inR o (-1439) 1439 = true then strOfNums (ofL o) else ⟨#[]⟩

theorem one_byte {s : ByteArray} {c : Int} (hc : 0 ≤ c ∧ c ≤ 255) (hz : s.size = 1) (h : bt s 0 = c) : s = strOfNums [c] := by
  rw [eq_strOf (by intro x hx; simp only [List.mem_singleton] at hx; omega)]
  refine ⟨hz, fun i hi => ?_⟩
  have hi' : i < 1 := hi
  obtain rfl : i = 0 := by omega
  exact h

end D
end Go.Proofs.YtpgbmohocfcjpaaGreatDoor

namespace Go.Proofs.YtpgbmohocfcjpaaGreatDoor
set_option linter.unusedVariables false
set_option linter.unusedSimpArgs false
namespace D
open Go.RowKit
open Go.PlainAid (bt bt_nonneg bt_le bt_end)

theorem bt_extract {s : ByteArray} {a b i : Nat} (hb : b ≤ s.size) (hi : a + i < b) : bt (s.extract a b) i = bt s (a + i) := by
  have h1 : i < (s.extract a b).size := by rw [ByteArray.size_extract]; omega
  have h2 : a + i < s.size := by omega
  unfold bt
  rw [dif_pos h1, dif_pos h2, ByteArray.getElem_extract]

theorem size_ext {s : ByteArray} {a b : Nat} (hb : b ≤ s.size) : (s.extract a b).size = b - a := by
  rw [ByteArray.size_extract]
  omega

theorem isD_congr {s t : ByteArray} {p q : Nat} (h : bt s p = bt t q) : isD s p = isD t q := by simp [isD, h]

theorem allD_ext {s t : ByteArray} {p q : Nat} : ∀ {m : Nat}, (∀ i, i < m → bt s (p + i) = bt t (q + i)) → allD s p m = allD t q m ∧ numL s p m = numL t q m
  | 0, _ => ⟨rfl, rfl⟩
  | m + 1, h => by
    have ih := allD_ext (m := m) fun i hi => h i (by omega)
    have e := h m (by omega)
    exact ⟨by simp only [allD, ih.1, isD_congr e], by simp only [numL, ih.2, e]⟩

/-- Begins a text with a date by its month and hyphens? -/
def dOk (s : ByteArray) : Bool := allD s 0 4 && isB s 4 45 && allD s 5 2 && isB s 7 45 && allD s 8 2 && dval (numL s 0 4) (numL s 5 2) (numL s 8 2)

theorem dOk_iff {s : ByteArray} : dOk s = true ↔ allD s 0 4 = true ∧ isB s 4 45 = true ∧ allD s 5 2 = true ∧ isB s 7 45 = true ∧ allD s 8 2 = true ∧ dval (numL s 0 4) (numL s 5 2) (numL s 8 2) = true := by
  simp only [dOk, Bool.and_eq_true, and_assoc]

theorem dOk_size {s : ByteArray} (h : dOk s = true) : 10 ≤ s.size := by
  have := isD_lt (allD_iff.1 (dOk_iff.1 h).2.2.2.2.1 1 (by omega))
  omega

theorem rdM_ok {s : ByteArray} (h : dOk s = true) : rdM s true = ⟨numL s 0 4, numL s 5 2, numL s 8 2, true⟩ ∧ m5 s true = 10 := by
  obtain ⟨a1, b1, a2, b2, a3, hv⟩ := dOk_iff.1 h
  have e1 : m1 s = 4 := nxt_eq a1
  have e2 : m2 s true = 5 := by show btN s (m1 s) true = _; rw [e1]; exact btN_t b1
  have e3 : m3 s true = 7 := by show nxt s (m2 s true) 2 = _; rw [e2]; exact nxt_eq a2
  have e4 : m4 s true = 8 := by show btN s (m3 s true) true = _; rw [e3]; exact btN_t b2
  have e5 : m5 s true = 10 := by show nxt s (m4 s true) 2 = _; rw [e4]; exact nxt_eq a3
  refine ⟨?_, e5⟩
  simp only [rdM]
  rw [e1, e2, e3, e4, btV_t, btV_t, numV_eq a1, numV_eq a2, numV_eq a3, a1, a2, a3, b1, b2, hv]
  rfl

theorem rdM_no {s : ByteArray} (h : dOk s = false) : (rdM s true).ok = false := by
  refine bool_no fun hk => ?_
  simp only [rdM, Bool.and_eq_true] at hk
  obtain ⟨⟨⟨⟨⟨a1, a2⟩, a3⟩, a4⟩, a5⟩, a6⟩ := hk
  have e1 : m1 s = 4 := nxt_eq a1
  rw [e1, btV_t] at a4
  have e2 : m2 s true = 5 := by show btN s (m1 s) true = _; rw [e1]; exact btN_t a4
  rw [e2] at a2
  have e3 : m3 s true = 7 := by show nxt s (m2 s true) 2 = _; rw [e2]; exact nxt_eq a2
  rw [e3, btV_t] at a5
  have e4 : m4 s true = 8 := by show btN s (m3 s true) true = _; rw [e3]; exact btN_t a5
  rw [e4] at a3
  rw [e2, e4, numV_eq a1, numV_eq a2, numV_eq a3] at a6
  rw [dOk_iff.2 ⟨a1, a4, a2, a5, a3, a6⟩] at h
  cases h

theorem dOk_ten {s : ByteArray} (hz : 10 ≤ s.size) : okS (s.extract 0 10) 0 = dOk s ∧ numL (s.extract 0 10) 0 4 = numL s 0 4 ∧ numL (s.extract 0 10) 5 2 = numL s 5 2 ∧ numL (s.extract 0 10) 8 2 = numL s 8 2 := by
  have hb : ∀ i, i < 10 → bt (s.extract 0 10) i = bt s i := fun i hi => by
    have := bt_extract (s := s) (a := 0) (b := 10) (i := i) hz (by omega)
    rwa [Nat.zero_add] at this
  have hsz : (s.extract 0 10).size = 10 := size_ext hz
  have e1 := allD_ext (s := s.extract 0 10) (t := s) (p := 0) (q := 0) (m := 4) fun i hi => by rw [Nat.zero_add]; exact hb i (by omega)
  have e2 := allD_ext (s := s.extract 0 10) (t := s) (p := 5) (q := 5) (m := 2) fun i hi => hb (5 + i) (by omega)
  have e3 := allD_ext (s := s.extract 0 10) (t := s) (p := 8) (q := 8) (m := 2) fun i hi => hb (8 + i) (by omega)
  refine ⟨?_, e1.2, e2.2, e3.2⟩
  rw [Bool.eq_iff_iff, okS0, dOk_iff, e1.1, e2.1, e3.1, e1.2, e2.2, e3.2, hb 4 (by omega), hb 7 (by omega), hsz, isB_iff, isB_iff]
  constructor
  · rintro ⟨h1, h2, h3, h4, h5, -, h6⟩
    exact ⟨h1, ⟨by omega, h2⟩, h3, ⟨by omega, h4⟩, h5, h6⟩
  · rintro ⟨h1, h2, h3, h4, h5, h6⟩
    exact ⟨h1, h2.2, h3, h4.2, h5, rfl, h6⟩

/-- Does a date's end stand at its place? -/
def sepOk (s : ByteArray) : Bool := decide (10 < s.size ∧ (bt s 10 = 84 ∨ bt s 10 = 116 ∨ bt s 10 = 32))

/-- Is a text a stamp whose offset begins at a place? -/
def stAt (s : ByteArray) (a : Nat) : Bool := dOk s && sepOk s && decide (11 ≤ a ∧ a ≤ s.size) && clkOk (s.extract 11 a) true && ofOk (s.extract a s.size)

/-- The stamp of a text whose offset begins at a place, or none. -/
def stR (s : ByteArray) (a : Nat) : SR :=
  if stAt s a = true then ⟨numL s 0 4, numL s 5 2, numL s 8 2, numL (s.extract 11 a) 0 2, numL (s.extract 11 a) 3 2, numL (s.extract 11 a) 6 2, frK (s.extract 11 a) 8, ofN (s.extract a s.size), true⟩ else SR.no

/-- Where the program looks for the offset. -/
def cutP (s : ByteArray) : Nat := if 12 ≤ s.size ∧ (bt s (s.size - 1) = 90 ∨ bt s (s.size - 1) = 122) then s.size - 1 else s.size - 6

/-- A byte with which an offset begins. -/
def isO (s : ByteArray) (i : Nat) : Prop := bt s i = 90 ∨ bt s i = 122 ∨ bt s i = 43 ∨ bt s i = 45

theorem stAt_iff {s : ByteArray} {a : Nat} : stAt s a = true ↔ dOk s = true ∧ sepOk s = true ∧ (11 ≤ a ∧ a ≤ s.size) ∧ clkOk (s.extract 11 a) true = true ∧ ofOk (s.extract a s.size) = true := by
  simp only [stAt, Bool.and_eq_true, decide_eq_true_eq, and_assoc]

theorem ofOk_cases {s : ByteArray} (h : ofOk s = true) : (s.size = 1 ∧ (bt s 0 = 90 ∨ bt s 0 = 122)) ∨ (s.size = 6 ∧ (48 ≤ bt s 5 ∧ bt s 5 ≤ 57) ∧ (bt s 0 = 43 ∨ bt s 0 = 45)) := by
  simp only [ofOk, Bool.or_eq_true, Bool.and_eq_true, decide_eq_true_eq] at h
  rcases h with h1 | ⟨⟨⟨⟨h1, h2⟩, h3⟩, h4⟩, h5, h6, h7⟩
  · exact .inl h1
  · have := allD_at h4 1 (by omega)
    exact .inr ⟨h1, by simpa using this, by rcases h7 with h | h; exact .inl h; exact .inr h.1⟩

theorem stAt_cut {s : ByteArray} {a : Nat} (h : stAt s a = true) : a = cutP s := by
  obtain ⟨h1, h2, h3, h4, h5⟩ := stAt_iff.1 h
  have hz : (s.extract a s.size).size = s.size - a := size_ext (Nat.le_refl _)
  unfold cutP
  rcases ofOk_cases h5 with ⟨g1, g2⟩ | ⟨g1, g2, g3⟩
  · have e := bt_extract (s := s) (a := a) (b := s.size) (i := 0) (Nat.le_refl _) (by omega)
    rw [e, show a + 0 = s.size - 1 by omega] at g2
    rw [if_pos ⟨by omega, g2⟩]
    omega
  · have e := bt_extract (s := s) (a := a) (b := s.size) (i := 5) (Nat.le_refl _) (by omega)
    rw [e, show a + 5 = s.size - 1 by omega] at g2
    rw [if_neg (by omega)]
    omega

theorem clk_chars {c : ByteArray} (h : clkOk c true = true) : ∀ i, i < c.size → (48 ≤ bt c i ∧ bt c i ≤ 57) ∨ bt c i = 58 ∨ bt c i = 46 := by
  simp only [clkOk, coV, b2, frOk, Bool.not_true, Bool.false_or, Bool.and_eq_true, Bool.or_eq_true, decide_eq_true_eq, if_true] at h
  obtain ⟨⟨⟨⟨⟨⟨a1, c1⟩, a2⟩, c2⟩, a3⟩, hf⟩, -⟩ := h
  intro i hi
  have k1 := allD_at a1
  have k2 := allD_at a2
  have k3 := allD_at a3
  have d1 := (isB_iff.1 c1).2
  have d2 := (isB_iff.1 c2).2
  by_cases h8 : i < 8
  · rcases (by omega : i = 0 ∨ i = 1 ∨ i = 2 ∨ i = 3 ∨ i = 4 ∨ i = 5 ∨ i = 6 ∨ i = 7) with rfl | rfl | rfl | rfl | rfl | rfl | rfl | rfl
    · exact .inl (k1 0 (by omega))
    · exact .inl (k1 1 (by omega))
    · exact .inr (.inl d1)
    · exact .inl (k2 0 (by omega))
    · exact .inl (k2 1 (by omega))
    · exact .inr (.inl d2)
    · exact .inl (k3 0 (by omega))
    · exact .inl (k3 1 (by omega))
  · rcases hf with hf | ⟨⟨hd, hr⟩, ha⟩
    · omega
    · by_cases e8 : i = 8
      · subst e8
        exact .inr (.inr (isB_iff.1 hd).2)
      · have := allD_at ha (i - 9) (by omega)
        have e : 6 + 2 * 1 + 1 + (i - 9) = i := by omega
        rw [e] at this
        exact .inl this

theorem stAt_first {s : ByteArray} {a : Nat} (h : stAt s a = true) : (∀ i, 11 ≤ i → i < a → ¬ isO s i) ∧ isO s a ∧ a < s.size := by
  obtain ⟨h1, h2, h3, h4, h5⟩ := stAt_iff.1 h
  have hz : (s.extract a s.size).size = s.size - a := size_ext (Nat.le_refl _)
  have hc : (s.extract 11 a).size = a - 11 := size_ext h3.2
  refine ⟨fun i hi1 hi2 hO => ?_, ?_⟩
  · have := clk_chars h4 (i - 11) (by omega)
    rw [bt_extract h3.2 (by omega), show 11 + (i - 11) = i by omega] at this
    unfold isO at hO
    omega
  · have hlt : a < s.size := by
      rcases ofOk_cases h5 with ⟨g1, _⟩ | ⟨g1, _⟩ <;> omega
    refine ⟨?_, hlt⟩
    have e := bt_extract (s := s) (a := a) (b := s.size) (i := 0) (Nat.le_refl _) (by omega)
    rw [Nat.add_zero] at e
    unfold isO
    rcases ofOk_cases h5 with ⟨_, g2⟩ | ⟨_, _, g3⟩
    · rw [e] at g2
      omega
    · rw [e] at g3
      omega

/-- Where the reference looks, it finds what the program finds. -/
theorem stR_found {s : ByteArray} {a : Nat} (h1 : 11 ≤ a) (h2 : ∀ i, 11 ≤ i → i < a → ¬ isO s i) (h3 : isO s a) : stR s a = stR s (cutP s) := by
  by_cases hc : stAt s (cutP s) = true
  · have g := stAt_first hc
    have hge := (stAt_iff.1 hc).2.2.1
    have e : a = cutP s := by
      rcases (by omega : a < cutP s ∨ a = cutP s ∨ cutP s < a) with h | h | h
      · exact (g.1 a h1 h h3).elim
      · exact h
      · exact (h2 _ hge.1 h g.2.1).elim
    rw [e]
  · have hn : ¬ stAt s a = true := fun h => hc (by rw [← stAt_cut h]; exact h)
    rw [stR, stR, if_neg hn, if_neg hc]

theorem stR_none {s : ByteArray} (h : ∀ i, 11 ≤ i → i < s.size → ¬ isO s i) : stR s (cutP s) = SR.no := by
  rw [stR, if_neg]
  intro hc
  have g := stAt_first hc
  exact h _ (stAt_iff.1 hc).2.2.1.1 g.2.2 g.2.1

/-- What a text that is a stamp gives. -/
theorem stR_ok {s : ByteArray} {a : Nat} (h : (stR s a).ok = true) : stAt s a = true ∧ sval (stR s a).y (stR s a).m (stR s a).d (stR s a).h (stR s a).i (stR s a).s (stR s a).k (stR s a).o = true := by
  by_cases hc : stAt s a = true
  · refine ⟨hc, ?_⟩
    obtain ⟨h1, h2, h3, h4, h5⟩ := stAt_iff.1 hc
    have hv := (dOk_iff.1 h1).2.2.2.2.2
    have ho := ofN_bd h5
    have hk : cval (numL (s.extract 11 a) 0 2) (numL (s.extract 11 a) 3 2) (numL (s.extract 11 a) 6 2) (frK (s.extract 11 a) 8) = true := by
      simp only [clkOk, Bool.and_eq_true] at h4
      exact h4.2
    rw [stR, if_pos hc]
    simp only [sval, hv, hk, ho, Bool.and_self]
  · rw [stR, if_neg hc] at h
    cases h

end D
end Go.Proofs.YtpgbmohocfcjpaaGreatDoor

namespace Go.Proofs.YtpgbmohocfcjpaaGreatDoor
set_option linter.unusedVariables false
set_option linter.unusedSimpArgs false
namespace D
open Go.RowKit
open Go.PlainAid (bt bt_nonneg bt_le bt_end)

/-- What is left of three digits without zeros at their end. -/
def frT (k : Int) : List Int := if k % 100 = 0 then digL (k / 100) 1 else if k % 10 = 0 then digL (k / 10) 2 else digL k 3

theorem frL_T {k : Int} (h : ¬ k = 0) : frL k = 46 :: frT k := by
  unfold frL frT
  rw [if_neg h]
  split
  · rfl
  · split <;> rfl

theorem dig3_bt (k : Int) : bt (strOfNums (digL k 3)) 0 = 48 + k / 100 % 10 ∧ bt (strOfNums (digL k 3)) 1 = 48 + k / 10 % 10 ∧ bt (strOfNums (digL k 3)) 2 = 48 + k % 10 ∧ (strOfNums (digL k 3)).size = 3 := by
  have hl : ∀ x ∈ digL k 3, 0 ≤ x ∧ x ≤ 255 := fun x hx => by have := digL_in _ _ x hx; omega
  have e := dig3 k
  refine ⟨?_, ?_, ?_, by rw [strOfNums_size, digL_length]⟩
  · rw [bt_strOf _ 0 hl, e]; rfl
  · rw [bt_strOf _ 1 hl, e]; rfl
  · rw [bt_strOf _ 2 hl, e]; rfl

/-- Three digits without the zeros at their end. -/
theorem trim_frT {k : Int} (h : 1 ≤ k ∧ k ≤ 999) : ∃ j : Nat, 1 ≤ j ∧ j ≤ 3 ∧ (∀ i, j ≤ i → i < 3 → bt (strOfNums (digL k 3)) i = 48) ∧ ¬ bt (strOfNums (digL k 3)) (j - 1) = 48 ∧ (strOfNums (digL k 3)).extract 0 j = strOfNums (frT k) := by
  obtain ⟨b0, b1, b2, hz⟩ := dig3_bt k
  by_cases h1 : k % 100 = 0
  · have e : frT k = [48 + k / 100 % 10] := (if_pos h1).trans (dig1 _)
    have hl : ∀ x ∈ ([48 + k / 100 % 10] : List Int), 0 ≤ x ∧ x ≤ 255 := fun x hx => by simp only [List.mem_singleton] at hx; omega
    refine ⟨1, by omega, by omega, fun i hi1 hi2 => ?_, ?_, ?_⟩
    · rcases (by omega : i = 1 ∨ i = 2) with rfl | rfl
      · rw [b1]; omega
      · rw [b2]; omega
    · show ¬ bt _ 0 = 48
      rw [b0]; omega
    · rw [e, eq_strOf hl]
      refine ⟨by rw [size_ext (by omega)]; rfl, fun i hi => ?_⟩
      have hi' : i < 1 := hi
      obtain rfl : i = 0 := by omega
      rw [bt_extract (by omega) (by omega)]
      exact b0
  · by_cases h2 : k % 10 = 0
    · have e : frT k = [48 + k / 10 / 10 % 10, 48 + k / 10 % 10] := (if_neg h1).trans ((if_pos h2).trans (dig2 _))
      have hl : ∀ x ∈ ([48 + k / 10 / 10 % 10, 48 + k / 10 % 10] : List Int), 0 ≤ x ∧ x ≤ 255 := fun x hx => by
        simp only [List.mem_cons, List.not_mem_nil, or_false] at hx
        omega
      refine ⟨2, by omega, by omega, fun i hi1 hi2 => ?_, ?_, ?_⟩
      · obtain rfl : i = 2 := by omega
        rw [b2]; omega
      · show ¬ bt _ 1 = 48
        rw [b1]; omega
      · rw [e, eq_strOf hl]
        refine ⟨by rw [size_ext (by omega)]; rfl, fun i hi => ?_⟩
        have hi' : i < 2 := hi
        rw [bt_extract (by omega) (by omega)]
        rcases (by omega : i = 0 ∨ i = 1) with rfl | rfl
        · refine b0.trans ?_
          show 48 + k / 100 % 10 = 48 + k / 10 / 10 % 10
          omega
        · exact b1
    · have e : frT k = digL k 3 := (if_neg h1).trans (if_neg h2)
      refine ⟨3, by omega, by omega, fun i hi1 hi2 => by omega, ?_, ?_⟩
      · show ¬ bt _ 2 = 48
        rw [b2]; omega
      · rw [e, ← hz]
        exact ByteArray.extract_zero_size

/-- A stamp, as bytes. -/
noncomputable def stL (y m d h i s k o : Int) : List Int := dtL y m d 0 true ++ [84] ++ clL h i s k ++ ofL o

theorem clk_text0 {h i s k : Int} (hv : cval h i s k = true) (hk : k = 0) : clkOk (strOfNums (clL h i s k)) true = true ∧ numL (strOfNums (clL h i s k)) 0 2 = h ∧ numL (strOfNums (clL h i s k)) 3 2 = i ∧ numL (strOfNums (clL h i s k)) 6 2 = s ∧ frK (strOfNums (clL h i s k)) 8 = k := by
  have hb := cval_bd hv
  have ef : frL k = [] := by
    unfold frL
    rw [if_pos hk]
  have el : clL h i s k = [48 + h / 10 % 10, 48 + h % 10, 58, 48 + i / 10 % 10, 48 + i % 10, 58, 48 + s / 10 % 10, 48 + s % 10] := by
    unfold clL
    rw [ef, dig2, dig2, dig2]
    rfl
  rw [el]
  have hl : ∀ x ∈ ([48 + h / 10 % 10, 48 + h % 10, 58, 48 + i / 10 % 10, 48 + i % 10, 58, 48 + s / 10 % 10, 48 + s % 10] : List Int), 0 ≤ x ∧ x ≤ 255 := by
    intro x hx
    simp only [List.mem_cons, List.not_mem_nil, or_false] at hx
    rcases hx with rfl | rfl | rfl | rfl | rfl | rfl | rfl | rfl <;> omega
  have hz : (strOfNums [48 + h / 10 % 10, 48 + h % 10, 58, 48 + i / 10 % 10, 48 + i % 10, 58, 48 + s / 10 % 10, 48 + s % 10]).size = 8 := by rw [strOfNums_size]; rfl
  have c0 : bt (strOfNums [48 + h / 10 % 10, 48 + h % 10, 58, 48 + i / 10 % 10, 48 + i % 10, 58, 48 + s / 10 % 10, 48 + s % 10]) 0 = 48 + h / 10 % 10 := (bt_strOf _ 0 hl).trans rfl
  have c1 : bt (strOfNums [48 + h / 10 % 10, 48 + h % 10, 58, 48 + i / 10 % 10, 48 + i % 10, 58, 48 + s / 10 % 10, 48 + s % 10]) 1 = 48 + h % 10 := (bt_strOf _ 1 hl).trans rfl
  have c2 : bt (strOfNums [48 + h / 10 % 10, 48 + h % 10, 58, 48 + i / 10 % 10, 48 + i % 10, 58, 48 + s / 10 % 10, 48 + s % 10]) 2 = 58 := (bt_strOf _ 2 hl).trans rfl
  have c3 : bt (strOfNums [48 + h / 10 % 10, 48 + h % 10, 58, 48 + i / 10 % 10, 48 + i % 10, 58, 48 + s / 10 % 10, 48 + s % 10]) 3 = 48 + i / 10 % 10 := (bt_strOf _ 3 hl).trans rfl
  have c4 : bt (strOfNums [48 + h / 10 % 10, 48 + h % 10, 58, 48 + i / 10 % 10, 48 + i % 10, 58, 48 + s / 10 % 10, 48 + s % 10]) 4 = 48 + i % 10 := (bt_strOf _ 4 hl).trans rfl
  have c5 : bt (strOfNums [48 + h / 10 % 10, 48 + h % 10, 58, 48 + i / 10 % 10, 48 + i % 10, 58, 48 + s / 10 % 10, 48 + s % 10]) 5 = 58 := (bt_strOf _ 5 hl).trans rfl
  have c6 : bt (strOfNums [48 + h / 10 % 10, 48 + h % 10, 58, 48 + i / 10 % 10, 48 + i % 10, 58, 48 + s / 10 % 10, 48 + s % 10]) 6 = 48 + s / 10 % 10 := (bt_strOf _ 6 hl).trans rfl
  have c7 : bt (strOfNums [48 + h / 10 % 10, 48 + h % 10, 58, 48 + i / 10 % 10, 48 + i % 10, 58, 48 + s / 10 % 10, 48 + s % 10]) 7 = 48 + s % 10 := (bt_strOf _ 7 hl).trans rfl
  generalize strOfNums [48 + h / 10 % 10, 48 + h % 10, 58, 48 + i / 10 % 10, 48 + i % 10, 58, 48 + s / 10 % 10, 48 + s % 10] = t at *
  obtain ⟨a1, n1⟩ := rd2 (s := t) (p := 0) (n := h) (by omega) c0 c1
  obtain ⟨a2, n2⟩ := rd2 (s := t) (p := 3) (n := i) (by omega) c3 c4
  obtain ⟨a3, n3⟩ := rd2 (s := t) (p := 6) (n := s) (by omega) c6 c7
  have i1 : isB t 2 58 = true := isB_iff.2 ⟨by omega, c2⟩
  have i2 : isB t 5 58 = true := isB_iff.2 ⟨by omega, c5⟩
  have hf : frOk t 8 = true := by simp [frOk, hz]
  have hK : frK t 8 = k := by
    rw [frK, if_pos hz]
    exact hk.symm
  refine ⟨?_, n1, n2, n3, hK⟩
  show (allD t 0 2 && coV t 2 true && allD t 3 2 && coV t 5 true && allD t 6 2 && frOk t 8 && cval (numL t 0 2) (numL t 3 2) (numL t 6 2) (frK t 8)) = true
  rw [n1, n2, n3, hK, a1, a2, a3, hf, hv]
  simp [coV, i1, i2]

theorem clk_text1 {h i s k : Int} (hv : cval h i s k = true) (hk : ¬ k = 0 ∧ k % 100 = 0) : clkOk (strOfNums (clL h i s k)) true = true ∧ numL (strOfNums (clL h i s k)) 0 2 = h ∧ numL (strOfNums (clL h i s k)) 3 2 = i ∧ numL (strOfNums (clL h i s k)) 6 2 = s ∧ frK (strOfNums (clL h i s k)) 8 = k := by
  have hb := cval_bd hv
  have ef : frL k = [46, 48 + k / 100 % 10] := by
    unfold frL
    rw [if_neg hk.1, if_pos hk.2, dig1]
  have el : clL h i s k = [48 + h / 10 % 10, 48 + h % 10, 58, 48 + i / 10 % 10, 48 + i % 10, 58, 48 + s / 10 % 10, 48 + s % 10, 46, 48 + k / 100 % 10] := by
    unfold clL
    rw [ef, dig2, dig2, dig2]
    rfl
  rw [el]
  have hl : ∀ x ∈ ([48 + h / 10 % 10, 48 + h % 10, 58, 48 + i / 10 % 10, 48 + i % 10, 58, 48 + s / 10 % 10, 48 + s % 10, 46, 48 + k / 100 % 10] : List Int), 0 ≤ x ∧ x ≤ 255 := by
    intro x hx
    simp only [List.mem_cons, List.not_mem_nil, or_false] at hx
    rcases hx with rfl | rfl | rfl | rfl | rfl | rfl | rfl | rfl | rfl | rfl <;> omega
  have hz : (strOfNums [48 + h / 10 % 10, 48 + h % 10, 58, 48 + i / 10 % 10, 48 + i % 10, 58, 48 + s / 10 % 10, 48 + s % 10, 46, 48 + k / 100 % 10]).size = 10 := by rw [strOfNums_size]; rfl
  have c0 : bt (strOfNums [48 + h / 10 % 10, 48 + h % 10, 58, 48 + i / 10 % 10, 48 + i % 10, 58, 48 + s / 10 % 10, 48 + s % 10, 46, 48 + k / 100 % 10]) 0 = 48 + h / 10 % 10 := (bt_strOf _ 0 hl).trans rfl
  have c1 : bt (strOfNums [48 + h / 10 % 10, 48 + h % 10, 58, 48 + i / 10 % 10, 48 + i % 10, 58, 48 + s / 10 % 10, 48 + s % 10, 46, 48 + k / 100 % 10]) 1 = 48 + h % 10 := (bt_strOf _ 1 hl).trans rfl
  have c2 : bt (strOfNums [48 + h / 10 % 10, 48 + h % 10, 58, 48 + i / 10 % 10, 48 + i % 10, 58, 48 + s / 10 % 10, 48 + s % 10, 46, 48 + k / 100 % 10]) 2 = 58 := (bt_strOf _ 2 hl).trans rfl
  have c3 : bt (strOfNums [48 + h / 10 % 10, 48 + h % 10, 58, 48 + i / 10 % 10, 48 + i % 10, 58, 48 + s / 10 % 10, 48 + s % 10, 46, 48 + k / 100 % 10]) 3 = 48 + i / 10 % 10 := (bt_strOf _ 3 hl).trans rfl
  have c4 : bt (strOfNums [48 + h / 10 % 10, 48 + h % 10, 58, 48 + i / 10 % 10, 48 + i % 10, 58, 48 + s / 10 % 10, 48 + s % 10, 46, 48 + k / 100 % 10]) 4 = 48 + i % 10 := (bt_strOf _ 4 hl).trans rfl
  have c5 : bt (strOfNums [48 + h / 10 % 10, 48 + h % 10, 58, 48 + i / 10 % 10, 48 + i % 10, 58, 48 + s / 10 % 10, 48 + s % 10, 46, 48 + k / 100 % 10]) 5 = 58 := (bt_strOf _ 5 hl).trans rfl
  have c6 : bt (strOfNums [48 + h / 10 % 10, 48 + h % 10, 58, 48 + i / 10 % 10, 48 + i % 10, 58, 48 + s / 10 % 10, 48 + s % 10, 46, 48 + k / 100 % 10]) 6 = 48 + s / 10 % 10 := (bt_strOf _ 6 hl).trans rfl
  have c7 : bt (strOfNums [48 + h / 10 % 10, 48 + h % 10, 58, 48 + i / 10 % 10, 48 + i % 10, 58, 48 + s / 10 % 10, 48 + s % 10, 46, 48 + k / 100 % 10]) 7 = 48 + s % 10 := (bt_strOf _ 7 hl).trans rfl
  have c8 : bt (strOfNums [48 + h / 10 % 10, 48 + h % 10, 58, 48 + i / 10 % 10, 48 + i % 10, 58, 48 + s / 10 % 10, 48 + s % 10, 46, 48 + k / 100 % 10]) 8 = 46 := (bt_strOf _ 8 hl).trans rfl
  have c9 : bt (strOfNums [48 + h / 10 % 10, 48 + h % 10, 58, 48 + i / 10 % 10, 48 + i % 10, 58, 48 + s / 10 % 10, 48 + s % 10, 46, 48 + k / 100 % 10]) 9 = 48 + k / 100 % 10 := (bt_strOf _ 9 hl).trans rfl
  generalize strOfNums [48 + h / 10 % 10, 48 + h % 10, 58, 48 + i / 10 % 10, 48 + i % 10, 58, 48 + s / 10 % 10, 48 + s % 10, 46, 48 + k / 100 % 10] = t at *
  obtain ⟨a1, n1⟩ := rd2 (s := t) (p := 0) (n := h) (by omega) c0 c1
  obtain ⟨a2, n2⟩ := rd2 (s := t) (p := 3) (n := i) (by omega) c3 c4
  obtain ⟨a3, n3⟩ := rd2 (s := t) (p := 6) (n := s) (by omega) c6 c7
  have i1 : isB t 2 58 = true := isB_iff.2 ⟨by omega, c2⟩
  have i2 : isB t 5 58 = true := isB_iff.2 ⟨by omega, c5⟩
  have i3 : isB t 8 46 = true := isB_iff.2 ⟨by omega, c8⟩
  obtain ⟨a4, n4⟩ := rd1 (s := t) (p := 9) (n := k / 100) (by omega) c9
  have hm : t.size - 8 - 1 = 1 := by omega
  have hf : frOk t 8 = true := by
    unfold frOk
    rw [hm, i3, a4, Bool.and_true, Bool.true_and, Bool.or_eq_true]
    exact .inr (decide_eq_true (by omega))
  have hK : frK t 8 = k := by
    rw [frK, if_neg (by omega), hm, n4]
    show k / 100 * 100 = k
    omega
  refine ⟨?_, n1, n2, n3, hK⟩
  show (allD t 0 2 && coV t 2 true && allD t 3 2 && coV t 5 true && allD t 6 2 && frOk t 8 && cval (numL t 0 2) (numL t 3 2) (numL t 6 2) (frK t 8)) = true
  rw [n1, n2, n3, hK, a1, a2, a3, hf, hv]
  simp [coV, i1, i2]

theorem clk_text2 {h i s k : Int} (hv : cval h i s k = true) (hk : ¬ k = 0 ∧ ¬ k % 100 = 0 ∧ k % 10 = 0) : clkOk (strOfNums (clL h i s k)) true = true ∧ numL (strOfNums (clL h i s k)) 0 2 = h ∧ numL (strOfNums (clL h i s k)) 3 2 = i ∧ numL (strOfNums (clL h i s k)) 6 2 = s ∧ frK (strOfNums (clL h i s k)) 8 = k := by
  have hb := cval_bd hv
  have ef : frL k = [46, 48 + k / 10 / 10 % 10, 48 + k / 10 % 10] := by
    unfold frL
    rw [if_neg hk.1, if_neg hk.2.1, if_pos hk.2.2, dig2]
  have el : clL h i s k = [48 + h / 10 % 10, 48 + h % 10, 58, 48 + i / 10 % 10, 48 + i % 10, 58, 48 + s / 10 % 10, 48 + s % 10, 46, 48 + k / 10 / 10 % 10, 48 + k / 10 % 10] := by
    unfold clL
    rw [ef, dig2, dig2, dig2]
    rfl
  rw [el]
  have hl : ∀ x ∈ ([48 + h / 10 % 10, 48 + h % 10, 58, 48 + i / 10 % 10, 48 + i % 10, 58, 48 + s / 10 % 10, 48 + s % 10, 46, 48 + k / 10 / 10 % 10, 48 + k / 10 % 10] : List Int), 0 ≤ x ∧ x ≤ 255 := by
    intro x hx
    simp only [List.mem_cons, List.not_mem_nil, or_false] at hx
    rcases hx with rfl | rfl | rfl | rfl | rfl | rfl | rfl | rfl | rfl | rfl | rfl <;> omega
  have hz : (strOfNums [48 + h / 10 % 10, 48 + h % 10, 58, 48 + i / 10 % 10, 48 + i % 10, 58, 48 + s / 10 % 10, 48 + s % 10, 46, 48 + k / 10 / 10 % 10, 48 + k / 10 % 10]).size = 11 := by rw [strOfNums_size]; rfl
  have c0 : bt (strOfNums [48 + h / 10 % 10, 48 + h % 10, 58, 48 + i / 10 % 10, 48 + i % 10, 58, 48 + s / 10 % 10, 48 + s % 10, 46, 48 + k / 10 / 10 % 10, 48 + k / 10 % 10]) 0 = 48 + h / 10 % 10 := (bt_strOf _ 0 hl).trans rfl
  have c1 : bt (strOfNums [48 + h / 10 % 10, 48 + h % 10, 58, 48 + i / 10 % 10, 48 + i % 10, 58, 48 + s / 10 % 10, 48 + s % 10, 46, 48 + k / 10 / 10 % 10, 48 + k / 10 % 10]) 1 = 48 + h % 10 := (bt_strOf _ 1 hl).trans rfl
  have c2 : bt (strOfNums [48 + h / 10 % 10, 48 + h % 10, 58, 48 + i / 10 % 10, 48 + i % 10, 58, 48 + s / 10 % 10, 48 + s % 10, 46, 48 + k / 10 / 10 % 10, 48 + k / 10 % 10]) 2 = 58 := (bt_strOf _ 2 hl).trans rfl
  have c3 : bt (strOfNums [48 + h / 10 % 10, 48 + h % 10, 58, 48 + i / 10 % 10, 48 + i % 10, 58, 48 + s / 10 % 10, 48 + s % 10, 46, 48 + k / 10 / 10 % 10, 48 + k / 10 % 10]) 3 = 48 + i / 10 % 10 := (bt_strOf _ 3 hl).trans rfl
  have c4 : bt (strOfNums [48 + h / 10 % 10, 48 + h % 10, 58, 48 + i / 10 % 10, 48 + i % 10, 58, 48 + s / 10 % 10, 48 + s % 10, 46, 48 + k / 10 / 10 % 10, 48 + k / 10 % 10]) 4 = 48 + i % 10 := (bt_strOf _ 4 hl).trans rfl
  have c5 : bt (strOfNums [48 + h / 10 % 10, 48 + h % 10, 58, 48 + i / 10 % 10, 48 + i % 10, 58, 48 + s / 10 % 10, 48 + s % 10, 46, 48 + k / 10 / 10 % 10, 48 + k / 10 % 10]) 5 = 58 := (bt_strOf _ 5 hl).trans rfl
  have c6 : bt (strOfNums [48 + h / 10 % 10, 48 + h % 10, 58, 48 + i / 10 % 10, 48 + i % 10, 58, 48 + s / 10 % 10, 48 + s % 10, 46, 48 + k / 10 / 10 % 10, 48 + k / 10 % 10]) 6 = 48 + s / 10 % 10 := (bt_strOf _ 6 hl).trans rfl
  have c7 : bt (strOfNums [48 + h / 10 % 10, 48 + h % 10, 58, 48 + i / 10 % 10, 48 + i % 10, 58, 48 + s / 10 % 10, 48 + s % 10, 46, 48 + k / 10 / 10 % 10, 48 + k / 10 % 10]) 7 = 48 + s % 10 := (bt_strOf _ 7 hl).trans rfl
  have c8 : bt (strOfNums [48 + h / 10 % 10, 48 + h % 10, 58, 48 + i / 10 % 10, 48 + i % 10, 58, 48 + s / 10 % 10, 48 + s % 10, 46, 48 + k / 10 / 10 % 10, 48 + k / 10 % 10]) 8 = 46 := (bt_strOf _ 8 hl).trans rfl
  have c9 : bt (strOfNums [48 + h / 10 % 10, 48 + h % 10, 58, 48 + i / 10 % 10, 48 + i % 10, 58, 48 + s / 10 % 10, 48 + s % 10, 46, 48 + k / 10 / 10 % 10, 48 + k / 10 % 10]) 9 = 48 + k / 10 / 10 % 10 := (bt_strOf _ 9 hl).trans rfl
  have c10 : bt (strOfNums [48 + h / 10 % 10, 48 + h % 10, 58, 48 + i / 10 % 10, 48 + i % 10, 58, 48 + s / 10 % 10, 48 + s % 10, 46, 48 + k / 10 / 10 % 10, 48 + k / 10 % 10]) 10 = 48 + k / 10 % 10 := (bt_strOf _ 10 hl).trans rfl
  generalize strOfNums [48 + h / 10 % 10, 48 + h % 10, 58, 48 + i / 10 % 10, 48 + i % 10, 58, 48 + s / 10 % 10, 48 + s % 10, 46, 48 + k / 10 / 10 % 10, 48 + k / 10 % 10] = t at *
  obtain ⟨a1, n1⟩ := rd2 (s := t) (p := 0) (n := h) (by omega) c0 c1
  obtain ⟨a2, n2⟩ := rd2 (s := t) (p := 3) (n := i) (by omega) c3 c4
  obtain ⟨a3, n3⟩ := rd2 (s := t) (p := 6) (n := s) (by omega) c6 c7
  have i1 : isB t 2 58 = true := isB_iff.2 ⟨by omega, c2⟩
  have i2 : isB t 5 58 = true := isB_iff.2 ⟨by omega, c5⟩
  have i3 : isB t 8 46 = true := isB_iff.2 ⟨by omega, c8⟩
  obtain ⟨a4, n4⟩ := rd2 (s := t) (p := 9) (n := k / 10) (by omega) c9 c10
  have hm : t.size - 8 - 1 = 2 := by omega
  have hf : frOk t 8 = true := by
    unfold frOk
    rw [hm, i3, a4, Bool.and_true, Bool.true_and, Bool.or_eq_true]
    exact .inr (decide_eq_true (by omega))
  have hK : frK t 8 = k := by
    rw [frK, if_neg (by omega), hm, n4]
    show k / 10 * 10 = k
    omega
  refine ⟨?_, n1, n2, n3, hK⟩
  show (allD t 0 2 && coV t 2 true && allD t 3 2 && coV t 5 true && allD t 6 2 && frOk t 8 && cval (numL t 0 2) (numL t 3 2) (numL t 6 2) (frK t 8)) = true
  rw [n1, n2, n3, hK, a1, a2, a3, hf, hv]
  simp [coV, i1, i2]

theorem clk_text3 {h i s k : Int} (hv : cval h i s k = true) (hk : ¬ k = 0 ∧ ¬ k % 100 = 0 ∧ ¬ k % 10 = 0) : clkOk (strOfNums (clL h i s k)) true = true ∧ numL (strOfNums (clL h i s k)) 0 2 = h ∧ numL (strOfNums (clL h i s k)) 3 2 = i ∧ numL (strOfNums (clL h i s k)) 6 2 = s ∧ frK (strOfNums (clL h i s k)) 8 = k := by
  have hb := cval_bd hv
  have ef : frL k = [46, 48 + k / 100 % 10, 48 + k / 10 % 10, 48 + k % 10] := by
    unfold frL
    rw [if_neg hk.1, if_neg hk.2.1, if_neg hk.2.2, dig3]
  have el : clL h i s k = [48 + h / 10 % 10, 48 + h % 10, 58, 48 + i / 10 % 10, 48 + i % 10, 58, 48 + s / 10 % 10, 48 + s % 10, 46, 48 + k / 100 % 10, 48 + k / 10 % 10, 48 + k % 10] := by
    unfold clL
    rw [ef, dig2, dig2, dig2]
    rfl
  rw [el]
  have hl : ∀ x ∈ ([48 + h / 10 % 10, 48 + h % 10, 58, 48 + i / 10 % 10, 48 + i % 10, 58, 48 + s / 10 % 10, 48 + s % 10, 46, 48 + k / 100 % 10, 48 + k / 10 % 10, 48 + k % 10] : List Int), 0 ≤ x ∧ x ≤ 255 := by
    intro x hx
    simp only [List.mem_cons, List.not_mem_nil, or_false] at hx
    rcases hx with rfl | rfl | rfl | rfl | rfl | rfl | rfl | rfl | rfl | rfl | rfl | rfl <;> omega
  have hz : (strOfNums [48 + h / 10 % 10, 48 + h % 10, 58, 48 + i / 10 % 10, 48 + i % 10, 58, 48 + s / 10 % 10, 48 + s % 10, 46, 48 + k / 100 % 10, 48 + k / 10 % 10, 48 + k % 10]).size = 12 := by rw [strOfNums_size]; rfl
  have c0 : bt (strOfNums [48 + h / 10 % 10, 48 + h % 10, 58, 48 + i / 10 % 10, 48 + i % 10, 58, 48 + s / 10 % 10, 48 + s % 10, 46, 48 + k / 100 % 10, 48 + k / 10 % 10, 48 + k % 10]) 0 = 48 + h / 10 % 10 := (bt_strOf _ 0 hl).trans rfl
  have c1 : bt (strOfNums [48 + h / 10 % 10, 48 + h % 10, 58, 48 + i / 10 % 10, 48 + i % 10, 58, 48 + s / 10 % 10, 48 + s % 10, 46, 48 + k / 100 % 10, 48 + k / 10 % 10, 48 + k % 10]) 1 = 48 + h % 10 := (bt_strOf _ 1 hl).trans rfl
  have c2 : bt (strOfNums [48 + h / 10 % 10, 48 + h % 10, 58, 48 + i / 10 % 10, 48 + i % 10, 58, 48 + s / 10 % 10, 48 + s % 10, 46, 48 + k / 100 % 10, 48 + k / 10 % 10, 48 + k % 10]) 2 = 58 := (bt_strOf _ 2 hl).trans rfl
  have c3 : bt (strOfNums [48 + h / 10 % 10, 48 + h % 10, 58, 48 + i / 10 % 10, 48 + i % 10, 58, 48 + s / 10 % 10, 48 + s % 10, 46, 48 + k / 100 % 10, 48 + k / 10 % 10, 48 + k % 10]) 3 = 48 + i / 10 % 10 := (bt_strOf _ 3 hl).trans rfl
  have c4 : bt (strOfNums [48 + h / 10 % 10, 48 + h % 10, 58, 48 + i / 10 % 10, 48 + i % 10, 58, 48 + s / 10 % 10, 48 + s % 10, 46, 48 + k / 100 % 10, 48 + k / 10 % 10, 48 + k % 10]) 4 = 48 + i % 10 := (bt_strOf _ 4 hl).trans rfl
  have c5 : bt (strOfNums [48 + h / 10 % 10, 48 + h % 10, 58, 48 + i / 10 % 10, 48 + i % 10, 58, 48 + s / 10 % 10, 48 + s % 10, 46, 48 + k / 100 % 10, 48 + k / 10 % 10, 48 + k % 10]) 5 = 58 := (bt_strOf _ 5 hl).trans rfl
  have c6 : bt (strOfNums [48 + h / 10 % 10, 48 + h % 10, 58, 48 + i / 10 % 10, 48 + i % 10, 58, 48 + s / 10 % 10, 48 + s % 10, 46, 48 + k / 100 % 10, 48 + k / 10 % 10, 48 + k % 10]) 6 = 48 + s / 10 % 10 := (bt_strOf _ 6 hl).trans rfl
  have c7 : bt (strOfNums [48 + h / 10 % 10, 48 + h % 10, 58, 48 + i / 10 % 10, 48 + i % 10, 58, 48 + s / 10 % 10, 48 + s % 10, 46, 48 + k / 100 % 10, 48 + k / 10 % 10, 48 + k % 10]) 7 = 48 + s % 10 := (bt_strOf _ 7 hl).trans rfl
  have c8 : bt (strOfNums [48 + h / 10 % 10, 48 + h % 10, 58, 48 + i / 10 % 10, 48 + i % 10, 58, 48 + s / 10 % 10, 48 + s % 10, 46, 48 + k / 100 % 10, 48 + k / 10 % 10, 48 + k % 10]) 8 = 46 := (bt_strOf _ 8 hl).trans rfl
  have c9 : bt (strOfNums [48 + h / 10 % 10, 48 + h % 10, 58, 48 + i / 10 % 10, 48 + i % 10, 58, 48 + s / 10 % 10, 48 + s % 10, 46, 48 + k / 100 % 10, 48 + k / 10 % 10, 48 + k % 10]) 9 = 48 + k / 100 % 10 := (bt_strOf _ 9 hl).trans rfl
  have c10 : bt (strOfNums [48 + h / 10 % 10, 48 + h % 10, 58, 48 + i / 10 % 10, 48 + i % 10, 58, 48 + s / 10 % 10, 48 + s % 10, 46, 48 + k / 100 % 10, 48 + k / 10 % 10, 48 + k % 10]) 10 = 48 + k / 10 % 10 := (bt_strOf _ 10 hl).trans rfl
  have c11 : bt (strOfNums [48 + h / 10 % 10, 48 + h % 10, 58, 48 + i / 10 % 10, 48 + i % 10, 58, 48 + s / 10 % 10, 48 + s % 10, 46, 48 + k / 100 % 10, 48 + k / 10 % 10, 48 + k % 10]) 11 = 48 + k % 10 := (bt_strOf _ 11 hl).trans rfl
  generalize strOfNums [48 + h / 10 % 10, 48 + h % 10, 58, 48 + i / 10 % 10, 48 + i % 10, 58, 48 + s / 10 % 10, 48 + s % 10, 46, 48 + k / 100 % 10, 48 + k / 10 % 10, 48 + k % 10] = t at *
  obtain ⟨a1, n1⟩ := rd2 (s := t) (p := 0) (n := h) (by omega) c0 c1
  obtain ⟨a2, n2⟩ := rd2 (s := t) (p := 3) (n := i) (by omega) c3 c4
  obtain ⟨a3, n3⟩ := rd2 (s := t) (p := 6) (n := s) (by omega) c6 c7
  have i1 : isB t 2 58 = true := isB_iff.2 ⟨by omega, c2⟩
  have i2 : isB t 5 58 = true := isB_iff.2 ⟨by omega, c5⟩
  have i3 : isB t 8 46 = true := isB_iff.2 ⟨by omega, c8⟩
  obtain ⟨a4, n4⟩ := rd3 (s := t) (p := 9) (n := k) (by omega) c9 c10 c11
  have hm : t.size - 8 - 1 = 3 := by omega
  have hf : frOk t 8 = true := by
    unfold frOk
    rw [hm, i3, a4, Bool.and_true, Bool.true_and, Bool.or_eq_true]
    exact .inr (decide_eq_true (by omega))
  have hK : frK t 8 = k := by
    rw [frK, if_neg (by omega), hm, n4]
    show k * 1 = k
    omega
  refine ⟨?_, n1, n2, n3, hK⟩
  show (allD t 0 2 && coV t 2 true && allD t 3 2 && coV t 5 true && allD t 6 2 && frOk t 8 && cval (numL t 0 2) (numL t 3 2) (numL t 6 2) (frK t 8)) = true
  rw [n1, n2, n3, hK, a1, a2, a3, hf, hv]
  simp [coV, i1, i2]

theorem clk_text {h i s k : Int} (hv : cval h i s k = true) : clkOk (strOfNums (clL h i s k)) true = true ∧ numL (strOfNums (clL h i s k)) 0 2 = h ∧ numL (strOfNums (clL h i s k)) 3 2 = i ∧ numL (strOfNums (clL h i s k)) 6 2 = s ∧ frK (strOfNums (clL h i s k)) 8 = k := by
  by_cases h0 : k = 0
  · exact clk_text0 hv h0
  · by_cases h1 : k % 100 = 0
    · exact clk_text1 hv ⟨h0, h1⟩
    · by_cases h2 : k % 10 = 0
      · exact clk_text2 hv ⟨h0, h1, h2⟩
      · exact clk_text3 hv ⟨h0, h1, h2⟩

/-- When the text with a sign is a given one. -/
theorem ofP_iff {s : ByteArray} {o n : Int} (hn : 0 ≤ n ∧ n ≤ 1439) : strOfNums (ofP o n) = s ↔ s.size = 6 ∧ bt s 0 = (if o < 0 then 45 else 43) ∧ bt s 1 = 48 + n / 60 / 10 % 10 ∧ bt s 2 = 48 + n / 60 % 10 ∧ bt s 3 = 58 ∧ bt s 4 = 48 + n % 60 / 10 % 10 ∧ bt s 5 = 48 + n % 60 % 10 := by
  have el : ofP o n = [(if o < 0 then 45 else 43), 48 + n / 60 / 10 % 10, 48 + n / 60 % 10, 58, 48 + n % 60 / 10 % 10, 48 + n % 60 % 10] := by
    unfold ofP
    rw [dig2, dig2]
    rfl
  have hs : (0 : Int) ≤ (if o < 0 then 45 else 43) ∧ (if o < 0 then 45 else 43) ≤ (255 : Int) := by split <;> omega
  rw [el]
  generalize (if o < 0 then (45 : Int) else 43) = c at *
  have hl : ∀ x ∈ ([c, 48 + n / 60 / 10 % 10, 48 + n / 60 % 10, 58, 48 + n % 60 / 10 % 10, 48 + n % 60 % 10] : List Int), 0 ≤ x ∧ x ≤ 255 := by
    intro x hx
    simp only [List.mem_cons, List.not_mem_nil, or_false] at hx
    rcases hx with rfl | rfl | rfl | rfl | rfl | rfl <;> omega
  rw [eq_comm, eq_strOf hl]
  constructor
  · rintro ⟨h1, h2⟩
    exact ⟨h1, h2 0 (by simp), h2 1 (by simp), h2 2 (by simp), h2 3 (by simp), h2 4 (by simp), h2 5 (by simp)⟩
  · rintro ⟨h1, c0, c1, c2, c3, c4, c5⟩
    refine ⟨h1, fun i hi => ?_⟩
    have hi' : i < 6 := hi
    rcases (by omega : i = 0 ∨ i = 1 ∨ i = 2 ∨ i = 3 ∨ i = 4 ∨ i = 5) with rfl | rfl | rfl | rfl | rfl | rfl <;> assumption

/-- A text of six bytes with digits at their places. -/
theorem ofP_read {s : ByteArray} {o n : Int} (hn : 0 ≤ n ∧ n ≤ 1439) (h : strOfNums (ofP o n) = s) : s.size = 6 ∧ bt s 0 = (if o < 0 then 45 else 43) ∧ bt s 3 = 58 ∧ allD s 1 2 = true ∧ numL s 1 2 = n / 60 ∧ allD s 4 2 = true ∧ numL s 4 2 = n % 60 := by
  obtain ⟨h1, c0, c1, c2, c3, c4, c5⟩ := (ofP_iff hn).1 h
  obtain ⟨a1, n1⟩ := rd2 (s := s) (p := 1) (n := n / 60) (by omega) c1 c2
  obtain ⟨a2, n2⟩ := rd2 (s := s) (p := 4) (n := n % 60) (by omega) c4 c5
  exact ⟨h1, c0, c3, a1, n1, a2, n2⟩

theorem of_text {o : Int} (ho : inR o (-1439) 1439 = true) : ofOk (strOfNums (ofL o)) = true ∧ ofN (strOfNums (ofL o)) = o := by
  have hb := inR_true.1 ho
  by_cases h0 : o = 0
  · subst h0
    have e : ofL 0 = [90] := rfl
    rw [e]
    have hz : (strOfNums [90]).size = 1 := by rw [strOfNums_size]; rfl
    have c0 : bt (strOfNums [90]) 0 = 90 := (bt_strOf _ 0 (by intro x hx; simp only [List.mem_singleton] at hx; omega)).trans rfl
    generalize strOfNums [90] = t at *
    exact ⟨by simp [ofOk, hz, c0], by simp [ofN, hz]⟩
  · have e : ofL o = ofP o (if o < 0 then -o else o) := if_neg h0
    rw [e]
    have hn : 0 ≤ (if o < 0 then -o else o) ∧ (if o < 0 then -o else o) ≤ 1439 := by split <;> omega
    obtain ⟨hz, c0, c3, a1, n1, a2, n2⟩ := ofP_read hn rfl
    generalize strOfNums (ofP o (if o < 0 then -o else o)) = t at *
    have i3 : isB t 3 58 = true := isB_iff.2 ⟨by omega, c3⟩
    by_cases hneg : o < 0
    · rw [if_pos hneg] at c0 n1 n2
      refine ⟨?_, ?_⟩
      · unfold ofOk
        rw [hz, i3, a1, a2, n1, n2, c0]
        simp
        omega
      · unfold ofN
        rw [if_neg (by omega), if_pos c0, n1, n2]
        omega
    · rw [if_neg hneg] at c0 n1 n2
      refine ⟨?_, ?_⟩
      · unfold ofOk
        rw [hz, i3, a1, a2, n1, n2, c0]
        simp
        omega
      · unfold ofN
        rw [if_neg (by omega), if_neg (by omega), n1, n2]
        omega

theorem stL_str (y m d h i s k o : Int) : strOfNums (stL y m d h i s k o) = strOfNums (dtL y m d 0 true) ++ strOfNums [84] ++ strOfNums (clL h i s k) ++ strOfNums (ofL o) := by
  simp only [stL, strOfNums_append]

/-- **The text of a stamp is read as that stamp.** -/
theorem st_text {y m d h i s k o : Int} (hv : sval y m d h i s k o = true) : stR (strOfNums (stL y m d h i s k o)) (cutP (strOfNums (stL y m d h i s k o))) = ⟨y, m, d, h, i, s, k, o, true⟩ := by
  obtain ⟨h1, h2, h3, h4⟩ := sval_parts hv
  have ho : inR o (-1439) 1439 = true := inR_true.2 ⟨h3, h4⟩
  obtain ⟨k1, k2, k3, k4, k5⟩ := clk_text h2
  obtain ⟨o1, o2⟩ := of_text ho
  have hD := bk0 h1
  have hT := (okP0 (strOfNums (dtL y m d 0 true)))
  have hz1 : (strOfNums (dtL y m d 0 true)).size = 10 := by
    rw [strOfNums_size]
    simp [dtL, hy1, digL_length]
  have hz2 : (strOfNums [84]).size = 1 := by rw [strOfNums_size]; rfl
  have hc2 : bt (strOfNums [84]) 0 = 84 := (bt_strOf _ 0 (by intro x hx; simp only [List.mem_singleton] at hx; omega)).trans rfl
  have hzo : (strOfNums (ofL o)).size = 1 ∨ (strOfNums (ofL o)).size = 6 := by rw [strOfNums_size]; exact ofL_len o
  have hokP : okP (strOfNums (dtL y m d 0 true)) 0 = true ∧ dP (strOfNums (dtL y m d 0 true)) 0 = ⟨y, m, d, true⟩ := read0 h1
  rw [stL_str]
  generalize strOfNums (dtL y m d 0 true) = D0 at *
  generalize strOfNums [84] = T0 at *
  generalize strOfNums (clL h i s k) = C0 at *
  generalize strOfNums (ofL o) = O0 at *
  have hF := hT.1 hokP.1
  have hdd := dP0 D0 hF
  rw [hokP.2] at hdd
  have hsz : (D0 ++ T0 ++ C0 ++ O0).size = 11 + C0.size + O0.size := by
    simp only [ByteArray.size_append]
    omega
  have ex1 : (D0 ++ T0 ++ C0 ++ O0).extract 0 10 = D0 := by
    rw [ByteArray.append_assoc, ByteArray.append_assoc]
    exact ByteArray.extract_append_eq_left hz1.symm
  have ex2 : (D0 ++ T0 ++ C0 ++ O0).extract (11 + C0.size) (D0 ++ T0 ++ C0 ++ O0).size = O0 := by
    refine ByteArray.extract_append_eq_right ?_ ?_ <;> simp only [ByteArray.size_append] <;> omega
  have ex3 : (D0 ++ T0 ++ C0 ++ O0).extract 11 (11 + C0.size) = C0 := by
    rw [ByteArray.extract_append, show 11 - (D0 ++ T0 ++ C0).size = 0 by simp only [ByteArray.size_append]; omega, show 11 + C0.size - (D0 ++ T0 ++ C0).size = 0 by simp only [ByteArray.size_append]; omega]
    rw [ByteArray.extract_append_eq_right (a := D0 ++ T0) (b := C0) (by simp only [ByteArray.size_append]; omega) (by simp only [ByteArray.size_append]; omega)]
    simp
  have hten := dOk_ten (s := D0 ++ T0 ++ C0 ++ O0) (by omega)
  rw [ex1] at hten
  have hd : dOk (D0 ++ T0 ++ C0 ++ O0) = true := by rw [← hten.1, ← ok_eq D0 (by omega)]; exact hokP.1
  have hb10 : bt (D0 ++ T0 ++ C0 ++ O0) 10 = 84 := by
    have e := bt_extract (s := D0 ++ T0 ++ C0 ++ O0) (a := 10) (b := 11) (i := 0) (by omega) (by omega)
    have ex4 : (D0 ++ T0 ++ C0 ++ O0).extract 10 11 = T0 := by
      rw [ByteArray.append_assoc, ByteArray.extract_append, show 10 - (D0 ++ T0).size = 0 by simp only [ByteArray.size_append]; omega, show 11 - (D0 ++ T0).size = 0 by simp only [ByteArray.size_append]; omega]
      rw [ByteArray.extract_append_eq_right (a := D0) (b := T0) (by omega) (by omega)]
      simp
    rw [ex4] at e
    rw [← e]
    exact hc2
  have hsep : sepOk (D0 ++ T0 ++ C0 ++ O0) = true := decide_eq_true ⟨by omega, .inl hb10⟩
  have hA : stAt (D0 ++ T0 ++ C0 ++ O0) (11 + C0.size) = true := stAt_iff.2 ⟨hd, hsep, ⟨by omega, by omega⟩, by rw [ex3]; exact k1, by rw [ex2]; exact o1⟩
  rw [← stAt_cut hA, stR, if_pos hA, ex3, ex2, k2, k3, k4, k5, o2, ← hten.2.1, ← hten.2.2.1, ← hten.2.2.2]
  simp only [DR.mk.injEq] at hdd
  rw [← hdd.1, ← hdd.2.1, ← hdd.2.2.1]

/-- What counts of a text as a stamp is all but the byte between date and time. -/
theorem stAt_same {s t : ByteArray} {a : Nat} (hz : t.size = s.size) (h : ∀ i, i ≠ 10 → bt t i = bt s i) (ht : bt t 10 = 84 ∨ bt t 10 = 116 ∨ bt t 10 = 32) (hA : stAt s a = true) : stR t (cutP t) = stR s a := by
  obtain ⟨h1, h2, h3, h4, h5⟩ := stAt_iff.1 hA
  have e1 := allD_ext (s := t) (t := s) (p := 0) (q := 0) (m := 4) fun i hi => h _ (by omega)
  have e2 := allD_ext (s := t) (t := s) (p := 5) (q := 5) (m := 2) fun i hi => h _ (by omega)
  have e3 := allD_ext (s := t) (t := s) (p := 8) (q := 8) (m := 2) fun i hi => h _ (by omega)
  have ex : ∀ p q, 11 ≤ p → q ≤ s.size → t.extract p q = s.extract p q := fun p q hp hq => by
    refine bt_ext (by rw [ByteArray.size_extract, ByteArray.size_extract, hz]) fun i hi => ?_
    rw [ByteArray.size_extract] at hi
    rw [bt_extract (by omega) (by omega), bt_extract (by omega) (by omega)]
    exact h _ (by omega)
  have hB : stAt t a = true := by
    refine stAt_iff.2 ⟨?_, ?_, by omega, ?_, ?_⟩
    · obtain ⟨a1, b1, a2, b2, a3, hv⟩ := dOk_iff.1 h1
      refine dOk_iff.2 ⟨by rw [e1.1]; exact a1, ?_, by rw [e2.1]; exact a2, ?_, by rw [e3.1]; exact a3, by rw [e1.2, e2.2, e3.2]; exact hv⟩
      · rw [isB_iff, hz, h 4 (by omega)]
        exact isB_iff.1 b1
      · rw [isB_iff, hz, h 7 (by omega)]
        exact isB_iff.1 b2
    · unfold sepOk at h2 ⊢
      simp only [decide_eq_true_eq] at h2 ⊢
      exact ⟨by omega, ht⟩
    · rw [ex 11 a (by omega) h3.2]
      exact h4
    · rw [hz, ex a s.size h3.1 (Nat.le_refl _)]
      exact h5
  rw [← stAt_cut hB, stR, stR, if_pos hB, if_pos hA, e1.2, e2.2, e3.2, ex 11 a (by omega) h3.2, hz, ex a s.size h3.1 (Nat.le_refl _)]

/-- The text of a stamp, or none. -/
noncomputable def stT (y m d h i s k o : Int) : ByteArray := if sval y m d h i s k o = true then strOfNums (stL y m d h i s k o) else ⟨#[]⟩

/-- A stamp that is tidied, or none. -/
noncomputable def tdV (s : ByteArray) : Value := if (stR s (cutP s)).ok = true then .tuple #[.string (strOfNums (stL (stR s (cutP s)).y (stR s (cutP s)).m (stR s (cutP s)).d (stR s (cutP s)).h (stR s (cutP s)).i (stR s (cutP s)).s (stR s (cutP s)).k (stR s (cutP s)).o)), .bool true] else .tuple #[.string ⟨#[]⟩, .bool false]

theorem tdV_some (s : ByteArray) : ∃ (t : ByteArray) (ok : Bool), tdV s = .tuple #[.string t, .bool ok] := by
  unfold tdV
  split
  · exact ⟨_, _, rfl⟩
  · exact ⟨_, _, rfl⟩

theorem ext_ext {s : ByteArray} {a b c : Nat} (hb : b ≤ s.size) (hc : a + c ≤ b) : (s.extract a b).extract 0 c = s.extract a (a + c) := by
  refine bt_ext ?_ fun i hi => ?_
  · rw [size_ext (by rw [size_ext hb]; omega), size_ext (by omega)]
    omega
  · rw [size_ext (by rw [size_ext hb]; omega)] at hi
    rw [bt_extract (by rw [size_ext hb]; omega) (by omega), bt_extract hb (by omega), bt_extract (by omega) (by omega)]
    congr 1
    omega

theorem ext_ext2 {s : ByteArray} {a b c : Nat} (hb : b ≤ s.size) (hc : a + c ≤ b) : (s.extract a b).extract c (b - a) = s.extract (a + c) b := by
  refine bt_ext ?_ fun i hi => ?_
  · rw [size_ext (by rw [size_ext hb]; omega), size_ext hb]
    omega
  · rw [size_ext (by rw [size_ext hb]; omega)] at hi
    rw [bt_extract (by rw [size_ext hb]; omega) (by omega), bt_extract hb (by omega), bt_extract hb (by omega)]
    congr 1
    omega

end D
end Go.Proofs.YtpgbmohocfcjpaaGreatDoor

namespace Go.Proofs.YtpgbmohocfcjpaaGreatDoor
set_option linter.unusedVariables false
set_option linter.unusedSimpArgs false
namespace D
open Go.RowKit
open Go.PlainAid (bt bt_nonneg bt_le bt_end)

/-- How many digits follow, up to a bound. -/
def runB (s : ByteArray) (p : Nat) : Nat → Nat
  | 0 => 0
  | n + 1 => if isD s p = true then runB s (p + 1) n + 1 else 0

/-- How many digits follow. -/
def runN (s : ByteArray) (p : Nat) : Nat := runB s p s.size

theorem runB_all (s : ByteArray) : ∀ (n p i : Nat), i < runB s p n → isD s (p + i) = true
  | 0, _, _, h => by simp [runB] at h
  | n + 1, p, i, h => by
    unfold runB at h
    split at h
    · rename_i hd
      cases i with
      | zero => exact hd
      | succ i =>
        have := runB_all s n (p + 1) i (by omega)
        rwa [show p + 1 + i = p + (i + 1) by omega] at this
    · omega

theorem runB_end (s : ByteArray) : ∀ (n p : Nat), s.size ≤ p + n → isD s (p + runB s p n) = false
  | 0, p, h => by
    cases hd : isD s (p + runB s p 0) with
    | false => rfl
    | true =>
      have := isD_lt hd
      simp only [runB] at this
      omega
  | n + 1, p, h => by
    unfold runB
    split
    · have := runB_end s n (p + 1) (by omega)
      rwa [show p + 1 + runB s (p + 1) n = p + (runB s (p + 1) n + 1) by omega] at this
    · rename_i hd
      simpa using hd

theorem runN_spec (s : ByteArray) (p : Nat) : (∀ i, i < runN s p → isD s (p + i) = true) ∧ isD s (p + runN s p) = false :=
  ⟨fun i hi => runB_all s s.size p i hi, runB_end s s.size p (by omega)⟩

theorem runN_eq {s : ByteArray} {p j : Nat} (h1 : ∀ i, i < j → isD s (p + i) = true) (h2 : isD s (p + j) = false) : j = runN s p := by
  obtain ⟨g1, g2⟩ := runN_spec s p
  rcases (by omega : j < runN s p ∨ j = runN s p ∨ runN s p < j) with h | h | h
  · rw [g1 j h] at h2
    cases h2
  · exact h
  · rw [h1 _ h] at g2
    cases g2

theorem runN_allD (s : ByteArray) (p : Nat) : allD s p (runN s p) = true := allD_iff.2 (runN_spec s p).1

theorem runN_le {s : ByteArray} {p : Nat} (h : p ≤ s.size) : p + runN s p ≤ s.size := by
  by_cases h0 : runN s p = 0
  · omega
  · have := isD_lt ((runN_spec s p).1 (runN s p - 1) (by omega))
    omega

/-- The parts of a period, as they are read. -/
structure P6 where
  a : Int
  b : Int
  c : Int
  d : Int
  e : Int
  f : Int

def P6.zero : P6 := ⟨0, 0, 0, 0, 0, 0⟩

/-- The part with a letter, or -1. -/
def letN (b : Int) (t : Bool) : Int := if t = true then (if b = 72 then 3 else if b = 77 then 4 else if b = 83 then 5 else -1) else (if b = 89 then 0 else if b = 77 then 1 else if b = 68 then 2 else -1)

def P6.set (n : P6) (k v : Int) : P6 :=
  if k = 0 then { n with a := v } else if k = 1 then { n with b := v } else if k = 2 then { n with c := v } else if k = 3 then { n with d := v } else if k = 4 then { n with e := v } else if k = 5 then { n with f := v } else n

/-- What the reference reads of the parts of a period from a place on. -/
def pfR (s : ByteArray) : Nat → Nat → Int → Bool → P6 → Option P6
  | 0, _, _, _, _ => none
  | n + 1, p, last, t, v =>
    if s.size ≤ p then some v
    else
      let tt := !t && isB s p 84 && decide (p + 1 < s.size)
      let q := if tt = true then p + 1 else p
      let t' := t || tt
      let m := runN s q
      if 1 ≤ m ∧ m ≤ 4 ∧ q + m < s.size then
        let k := letN (bt s (q + m)) t'
        if k ≤ last then none else pfR s n (q + m + 1) k t' (v.set k (numL s q m))
      else none

/-- What the program reads of the parts of a period from a place on. -/
def pfP (s : ByteArray) : Nat → Nat → Int → Bool → Bool → Bool → P6 → Option P6
  | 0, _, _, _, _, _, _ => none
  | n + 1, p, last, t, any, op, v =>
    if s.size ≤ p then (if any = true ∧ op = false then some v else none)
    else if t = false ∧ isB s p 84 = true then pfP s n (p + 1) last true any true v
    else
      let m := runN s p
      if 1 ≤ m ∧ m ≤ 4 ∧ p + m < s.size then
        let k := letN (bt s (p + m)) t
        if k ≤ last then none else pfP s n (p + m + 1) k t true false (v.set k (numL s p m))
      else none

theorem runN_zero {s : ByteArray} {p : Nat} {c : Int} (h : isB s p c = true) (hc : ¬ (48 ≤ c ∧ c ≤ 57)) : runN s p = 0 := by
  have h2 := (isB_iff.1 h).2
  refine (runN_eq (j := 0) (fun i hi => by omega) ?_).symm
  rw [Nat.add_zero]
  exact bool_no fun hd => by
    have := isD_iff.1 hd
    omega

/-- The program's steps (a T is one of its own) are the reference's. -/
theorem pfP_eq (s : ByteArray) : ∀ (f g p : Nat) (last : Int) (t any op : Bool) (v : P6), s.size < p + f → s.size < p + g → p ≤ s.size → (any = false → p < s.size) → (op = false ∨ p < s.size) → pfP s g p last t any op v = pfR s f p last t v
  | 0, g, p, last, t, any, op, v, hf, hg, hp, _, _ => by omega
  | f + 1, 0, p, last, t, any, op, v, hf, hg, hp, _, _ => by omega
  | f + 1, g + 1, p, last, t, any, op, v, hf, hg, hp, ha, h1 => by
    by_cases hz : s.size ≤ p
    · have hop : op = false := by
        rcases h1 with h | h
        · exact h
        · omega
      have han : any = true := by
        cases any with
        | true => rfl
        | false => have := ha rfl; omega
      simp only [pfP, pfR]
      rw [if_pos hz, if_pos hz, if_pos ⟨han, hop⟩]
    · by_cases hT : t = false ∧ isB s p 84 = true
      · obtain ⟨rfl, hB⟩ := hT
        have e1 : pfP s (g + 1) p last false any op v = pfP s g (p + 1) last true any true v := by
          rw [pfP, if_neg hz, if_pos ⟨rfl, hB⟩]
        rw [e1]
        obtain ⟨g', rfl⟩ : ∃ g', g = g' + 1 := ⟨g - 1, by omega⟩
        by_cases hend : p + 1 < s.size
        · simp only [pfP, pfR]
          rw [if_neg hz, if_neg (by omega), if_neg (by simp)]
          simp only [hB, Bool.not_false, Bool.true_and, decide_eq_true hend, if_true, Bool.false_or]
          by_cases hm : 1 ≤ runN s (p + 1) ∧ runN s (p + 1) ≤ 4 ∧ p + 1 + runN s (p + 1) < s.size
          · rw [if_pos hm, if_pos hm]
            by_cases hk : letN (bt s (p + 1 + runN s (p + 1))) true ≤ last
            · rw [if_pos hk, if_pos hk]
            · rw [if_neg hk, if_neg hk]
              exact pfP_eq s f g' _ _ _ _ _ _ (by omega) (by omega) (by omega) (fun h => by cases h) (.inl rfl)
          · rw [if_neg hm, if_neg hm]
        · have hr := runN_zero hB (by omega)
          have e2 : pfR s (f + 1) p last false v = none := by
            simp only [pfR]
            rw [if_neg hz]
            simp only [decide_eq_false hend, Bool.and_false, Bool.false_eq_true, if_false, hr]
            rw [if_neg (by omega)]
          have e3 : pfP s (g' + 1) (p + 1) last true any true v = none := by
            simp only [pfP]
            rw [if_pos (by omega), if_neg (by simp)]
          rw [e2, e3]
      · simp only [pfP, pfR]
        rw [if_neg hz, if_neg hz, if_neg hT]
        have htt : (!t && isB s p 84 && decide (p + 1 < s.size)) = false := by
          cases t with
          | true => rfl
          | false =>
            have : isB s p 84 = false := bool_no fun h => hT ⟨rfl, h⟩
            simp [this]
        simp only [htt, Bool.false_eq_true, if_false, Bool.or_false]
        by_cases hm : 1 ≤ runN s p ∧ runN s p ≤ 4 ∧ p + runN s p < s.size
        · rw [if_pos hm, if_pos hm]
          by_cases hk : letN (bt s (p + runN s p)) t ≤ last
          · rw [if_pos hk, if_pos hk]
          · rw [if_neg hk, if_neg hk]
            exact pfP_eq s f g _ _ _ _ _ _ (by omega) (by omega) (by omega) (fun h => by cases h) (.inl rfl)
        · rw [if_neg hm, if_neg hm]

/-- The period of weeks alone, if it is one. -/
def weeksOf (s : ByteArray) : Option P6 := if 1 + runN s 1 + 1 = s.size ∧ 7 * numL s 1 (runN s 1) ≤ 9999 then some { P6.zero with c := 7 * numL s 1 (runN s 1) } else none

/-- Do weeks stand behind the first number? -/
def isWeeks (s : ByteArray) : Bool := decide (1 ≤ runN s 1 ∧ runN s 1 ≤ 4) && isB s (1 + runN s 1) 87

/-- What the reference reads as a period. -/
def perR (s : ByteArray) : Option P6 :=
  if s.size < 3 ∨ ¬ bt s 0 = 80 then none else if isWeeks s = true then weeksOf s else pfR s s.size 1 (-1) false P6.zero

/-- What the program reads as a period. -/
def perP (s : ByteArray) : Option P6 :=
  if isB s 0 80 = false then none else if isWeeks s = true then weeksOf s else pfP s s.size 1 (-1) false false false P6.zero

theorem pfR_two {s : ByteArray} (h : s.size = 2) (f : Nat) (hf : 1 ≤ f) (last : Int) (t : Bool) (v : P6) : pfR s f 1 last t v = none := by
  obtain ⟨f', rfl⟩ : ∃ f', f = f' + 1 := ⟨f - 1, by omega⟩
  simp only [pfR]
  rw [if_neg (by omega)]
  have htt : (!t && isB s 1 84 && decide (1 + 1 < s.size)) = false := by
    rw [decide_eq_false (by omega), Bool.and_false]
  simp only [htt, Bool.false_eq_true, if_false]
  rw [if_neg (by omega)]

theorem pfP_one {s : ByteArray} (h : s.size = 1) (f : Nat) (hf : 1 ≤ f) (last : Int) (v : P6) : pfP s f 1 last false false false v = none := by
  obtain ⟨f', rfl⟩ : ∃ f', f = f' + 1 := ⟨f - 1, by omega⟩
  simp only [pfP]
  rw [if_pos (show s.size ≤ 1 by omega), if_neg (by simp)]

theorem per_eq (s : ByteArray) : perP s = perR s := by
  unfold perP perR
  by_cases h0 : bt s 0 = 80
  · have hpos : 0 < s.size := by
      refine Nat.lt_of_not_le fun h => ?_
      have := bt_end s (k := 0) h
      omega
    have hB : isB s 0 80 = true := isB_iff.2 ⟨hpos, h0⟩
    rw [if_neg (show ¬ isB s 0 80 = false by rw [hB]; simp)]
    by_cases h3 : s.size < 3
    · rw [if_pos (show s.size < 3 ∨ ¬ bt s 0 = 80 from .inl h3)]
      by_cases hw : isWeeks s = true
      · simp only [isWeeks, Bool.and_eq_true, decide_eq_true_eq] at hw
        have := (isB_iff.1 hw.2).1
        omega
      · rw [if_neg hw]
        by_cases h1 : s.size = 1
        · exact pfP_one h1 _ (by omega) _ _
        · have h2 : s.size = 2 := by omega
          rw [pfP_eq s s.size s.size 1 (-1) false false false P6.zero (by omega) (by omega) (by omega) (fun _ => by omega) (.inl rfl)]
          exact pfR_two h2 _ (by omega) _ _ _
    · rw [if_neg (show ¬ (s.size < 3 ∨ ¬ bt s 0 = 80) from fun h => h.elim h3 fun k => k h0)]
      by_cases hw : isWeeks s = true
      · rw [if_pos hw, if_pos hw]
      · rw [if_neg hw, if_neg hw]
        exact pfP_eq s s.size s.size 1 (-1) false false false P6.zero (by omega) (by omega) (by omega) (fun _ => by omega) (.inl rfl)
  · rw [if_pos (show s.size < 3 ∨ ¬ bt s 0 = 80 from .inr h0), if_pos]
    exact bool_no fun h => h0 (isB_iff.1 h).2

end D
end Go.Proofs.YtpgbmohocfcjpaaGreatDoor

namespace Go.Proofs.YtpgbmohocfcjpaaGreatDoor
set_option linter.unusedVariables false
set_option linter.unusedSimpArgs false
namespace D
open Go.RowKit
open Go.PlainAid (bt bt_nonneg bt_le bt_end)

/-- A number of one to four digits, in decimals. -/
def decL (n : Int) : List Int := if n < 10 then digL n 1 else if n < 100 then digL n 2 else if n < 1000 then digL n 3 else digL n 4
theorem decL_in (n : Int) : ∀ x ∈ decL n, 48 ≤ x ∧ x ≤ 57 := by
  unfold decL
  repeat' split
  all_goals exact digL_in _ _
theorem decL_len (n : Int) : 1 ≤ (decL n).length ∧ (decL n).length ≤ 4 := by
  unfold decL
  repeat' split
  all_goals simp [digL_length]

/-- Parts of a period: their places, their numbers, their letters. -/
abbrev It := Int × Int × Int
def itL (xs : List It) : List Int := xs.flatMap fun x => decL x.2.1 ++ [x.2.2]
def itm (k c n : Int) : List It := if n = 0 then [] else [(k, n, c)]
def dItems (p : P6) : List It := itm 0 89 p.a ++ itm 1 77 p.b ++ itm 2 68 p.c
def tItems (p : P6) : List It := itm 3 72 p.d ++ itm 4 77 p.e ++ itm 5 83 p.f
def pzero (p : P6) : Bool := decide (p.a = 0 ∧ p.b = 0 ∧ p.c = 0 ∧ p.d = 0 ∧ p.e = 0 ∧ p.f = 0)
def pOk (p : P6) : Bool := decide ((0 ≤ p.a ∧ p.a ≤ 9999) ∧ (0 ≤ p.b ∧ p.b ≤ 9999) ∧ (0 ≤ p.c ∧ p.c ≤ 9999) ∧ (0 ≤ p.d ∧ p.d ≤ 9999) ∧ (0 ≤ p.e ∧ p.e ≤ 9999) ∧ (0 ≤ p.f ∧ p.f ≤ 9999))
/-- The text of a period. -/
def perL (p : P6) : List Int := if pzero p = true then [80, 84, 48, 83] else [80] ++ itL (dItems p) ++ (if tItems p = [] then [] else 84 :: itL (tItems p))

theorem byte_dec {n c : Int} (hc : 0 ≤ c ∧ c ≤ 255) : ∀ x ∈ decL n ++ [c], 0 ≤ x ∧ x ≤ 255 := fun x hx => by
  rcases List.mem_append.1 hx with hx | hx
  · have := decL_in n x hx
    omega
  · obtain rfl : x = c := by simpa using hx
    exact hc

/-- A number and a letter behind it are read. -/
theorem rd_dec {pre rest : List Int} {n c : Int} (hn : 0 ≤ n ∧ n ≤ 9999) (hc : 58 ≤ c ∧ c ≤ 255) (hall : ∀ x ∈ pre ++ (decL n ++ [c]) ++ rest, 0 ≤ x ∧ x ≤ 255) :
    runN (strOfNums (pre ++ (decL n ++ [c]) ++ rest)) pre.length = (decL n).length ∧ numL (strOfNums (pre ++ (decL n ++ [c]) ++ rest)) pre.length (decL n).length = n ∧
    bt (strOfNums (pre ++ (decL n ++ [c]) ++ rest)) (pre.length + (decL n).length) = c ∧ 48 ≤ bt (strOfNums (pre ++ (decL n ++ [c]) ++ rest)) pre.length ∧ bt (strOfNums (pre ++ (decL n ++ [c]) ++ rest)) pre.length ≤ 57 := by
  generalize hS : strOfNums (pre ++ (decL n ++ [c]) ++ rest) = s
  have hb : ∀ i, i < (decL n ++ [c]).length → bt s (pre.length + i) = (decL n ++ [c]).getD i 0 := fun i hi => by
    rw [← hS, bt_strOf _ _ hall]
    simp only [List.getD, List.append_assoc]
    rw [List.getElem?_append_right (by omega), Nat.add_sub_cancel_left, ← List.append_assoc, List.getElem?_append_left hi]
  have hd : ∀ i, i < (decL n).length → bt s (pre.length + i) = (decL n).getD i 0 := fun i hi => by
    rw [hb i (by simp; omega)]
    simp only [List.getD]
    rw [List.getElem?_append_left hi]
  have he : bt s (pre.length + (decL n).length) = c := by
    rw [hb _ (by simp)]
    simp [List.getD]
  have hlen := decL_len n
  have hD : ∀ i, i < (decL n).length → isD s (pre.length + i) = true := fun i hi => by
    rw [isD_iff, hd i hi]
    exact decL_in n _ (by
      simp only [List.getD, List.getElem?_eq_getElem hi, Option.getD_some]
      exact List.getElem_mem hi)
  have hE : isD s (pre.length + (decL n).length) = false := by
    cases h : isD s (pre.length + (decL n).length) with
    | false => rfl
    | true => have := isD_iff.1 h; omega
  refine ⟨(runN_eq hD hE).symm, ?_, he, ?_⟩
  · clear hb hE hD he
    unfold decL at hd ⊢
    generalize pre.length = q at *
    split at hd
    · rename_i h1
      rw [if_pos h1]
      have d0 := hd 0 (by simp [digL_length])
      simp [digL] at d0
      simp [digL, numL, d0]
      omega
    · rename_i h1
      rw [if_neg h1]
      split at hd
      · rename_i h2
        rw [if_pos h2]
        have d0 := hd 0 (by simp [digL_length])
        have d1 := hd 1 (by simp [digL_length])
        simp [digL] at d0 d1
        simp [digL, numL, d0, d1]
        omega
      · rename_i h2
        rw [if_neg h2]
        split at hd
        · rename_i h3
          rw [if_pos h3]
          have d0 := hd 0 (by simp [digL_length])
          have d1 := hd 1 (by simp [digL_length])
          have d2 := hd 2 (by simp [digL_length])
          simp [digL] at d0 d1 d2
          simp [digL, numL, d0, d1, d2]
          omega
        · rename_i h3
          rw [if_neg h3]
          have d0 := hd 0 (by simp [digL_length])
          have d1 := hd 1 (by simp [digL_length])
          have d2 := hd 2 (by simp [digL_length])
          have d3 := hd 3 (by simp [digL_length])
          simp [digL] at d0 d1 d2 d3
          simp [digL, numL, d0, d1, d2, d3]
          omega
  · have := isD_iff.1 (hD 0 (by omega))
    simpa using this

/-- Parts in order, from a place on, of date or time. -/
def ItOk (t : Bool) : Int → List It → Prop
  | _, [] => True
  | last, (k, n, c) :: r => last < k ∧ letN c t = k ∧ (0 ≤ n ∧ n ≤ 9999) ∧ (58 ≤ c ∧ c ≤ 255) ∧ ItOk t k r
def itSet (v : P6) (xs : List It) : P6 := xs.foldl (fun v x => v.set x.1 x.2.1) v
def itLast (last : Int) (xs : List It) : Int := xs.foldl (fun _ x => x.1) last
theorem itL_bytes {t : Bool} : ∀ {last : Int} {xs : List It}, ItOk t last xs → ∀ x ∈ itL xs, 0 ≤ x ∧ x ≤ 255
  | _, [], _, x, hx => by simp [itL] at hx
  | last, (k, n, c) :: r, h, x, hx => by
    simp only [itL, List.flatMap_cons, List.mem_append] at hx
    obtain ⟨_, _, _, hc, hr⟩ := h
    rcases hx with hx | hx
    · exact byte_dec (n := n) (c := c) (by omega) x (List.mem_append.2 hx)
    · exact itL_bytes hr x hx

theorem pfR_items (t : Bool) (rest : List Int) (hrest : ∀ x ∈ rest, 0 ≤ x ∧ x ≤ 255) : ∀ (xs : List It) (pre : List Int) (last : Int) (f : Nat) (v : P6), ItOk t last xs → (∀ x ∈ pre, 0 ≤ x ∧ x ≤ 255) →
    pfR (strOfNums (pre ++ itL xs ++ rest)) (f + xs.length) pre.length last t v = pfR (strOfNums (pre ++ itL xs ++ rest)) f (pre ++ itL xs).length (itLast last xs) t (itSet v xs)
  | [], pre, last, f, v, _, _ => by simp [itL, itLast, itSet]
  | (k, n, c) :: r, pre, last, f, v, h, hpre => by
    have hby := itL_bytes h
    obtain ⟨h1, h2, h3, h4, h5⟩ := h
    have e1 : pre ++ itL ((k, n, c) :: r) ++ rest = pre ++ (decL n ++ [c]) ++ (itL r ++ rest) := by simp [itL]
    have hall : ∀ x ∈ pre ++ (decL n ++ [c]) ++ (itL r ++ rest), 0 ≤ x ∧ x ≤ 255 := fun x hx => by
      rw [← e1] at hx
      rcases List.mem_append.1 hx with hx | hx
      · rcases List.mem_append.1 hx with hx | hx
        · exact hpre x hx
        · exact hby x hx
      · exact hrest x hx
    obtain ⟨g1, g2, g3, g4, g5⟩ := rd_dec h3 h4 hall
    have ih := pfR_items t rest hrest r (pre ++ (decL n ++ [c])) k f (v.set k n) h5 (fun x hx => hall x (List.mem_append_left _ hx))
    have e2 : pre ++ (decL n ++ [c]) ++ itL r ++ rest = pre ++ (decL n ++ [c]) ++ (itL r ++ rest) := by simp
    have hl := decL_len n
    have hsz : (strOfNums (pre ++ (decL n ++ [c]) ++ (itL r ++ rest))).size = pre.length + (decL n).length + 1 + (itL r ++ rest).length := by
      rw [strOfNums_size]; simp only [List.length_append, List.length_cons, List.length_nil]; omega
    rw [e2] at ih
    rw [e1]
    generalize hS : strOfNums (pre ++ (decL n ++ [c]) ++ (itL r ++ rest)) = s at *
    have e3 : f + ((k, n, c) :: r).length = (f + r.length) + 1 := by simp only [List.length_cons]; omega
    have step : pfR s (f + r.length + 1) pre.length last t v = pfR s (f + r.length) (pre.length + (decL n).length + 1) k t (v.set k n) := by
      rw [pfR]
      have hB : isB s pre.length 84 = false := bool_no fun hh => by
        have := (isB_iff.1 hh).2
        omega
      rw [if_neg (by omega)]
      simp only [hB, Bool.and_false, Bool.false_and, Bool.false_eq_true, if_false, Bool.or_false, g1, g2, g3, h2]
      rw [if_pos (by omega), if_neg (by omega)]
    rw [e3, step]
    have e4 : (pre ++ (decL n ++ [c])).length = pre.length + (decL n).length + 1 := by simp only [List.length_append, List.length_cons, List.length_nil]; omega
    rw [e4] at ih
    rw [ih]
    have e5 : pre ++ itL ((k, n, c) :: r) = pre ++ (decL n ++ [c]) ++ itL r := by simp [itL]
    rw [e5]
    rfl

/-- A T, and then a part of a time. -/
theorem pfR_T {s : ByteArray} {q : Nat} (f : Nat) (last : Int) (v : P6) (h : isB s q 84 = true) (h2 : q + 1 < s.size) : pfR s (f + 1) q last false v = pfR s (f + 1) (q + 1) last true v := by
  simp only [pfR]
  rw [if_neg (show ¬ s.size ≤ q by omega), if_neg (show ¬ s.size ≤ q + 1 by omega)]
  simp only [h, Bool.not_false, Bool.true_and, decide_eq_true h2, if_true, Bool.false_or, Bool.not_true, Bool.false_and, Bool.false_eq_true, if_false, Bool.or_false]

theorem pfR_end {s : ByteArray} {q : Nat} (f : Nat) (last : Int) (t : Bool) (v : P6) (h : s.size ≤ q) : pfR s (f + 1) q last t v = some v := by
  rw [pfR, if_pos h]

theorem pOk_iff {p : P6} : pOk p = true ↔ (0 ≤ p.a ∧ p.a ≤ 9999) ∧ (0 ≤ p.b ∧ p.b ≤ 9999) ∧ (0 ≤ p.c ∧ p.c ≤ 9999) ∧ (0 ≤ p.d ∧ p.d ≤ 9999) ∧ (0 ≤ p.e ∧ p.e ≤ 9999) ∧ (0 ≤ p.f ∧ p.f ≤ 9999) := by simp [pOk]

theorem dItems_ok {p : P6} (h : pOk p = true) : ItOk false (-1) (dItems p) := by
  have := pOk_iff.1 h
  unfold dItems itm
  repeat' split
  all_goals simp [ItOk, letN]
  all_goals omega
theorem tItems_ok {p : P6} (h : pOk p = true) (last : Int) (hl : last < 3) : ItOk true last (tItems p) := by
  have := pOk_iff.1 h
  unfold tItems itm
  repeat' split
  all_goals simp [ItOk, letN]
  all_goals omega
theorem dItems_last (p : P6) : itLast (-1) (dItems p) < 3 := by
  unfold dItems itm
  repeat' split
  all_goals simp [itLast]
theorem items_set (p : P6) : itSet (itSet P6.zero (dItems p)) (tItems p) = p := by
  obtain ⟨a, b, c, d, e, f⟩ := p
  unfold dItems tItems itm
  by_cases ha : a = 0 <;> by_cases hb : b = 0 <;> by_cases hc : c = 0 <;> by_cases hd : d = 0 <;> by_cases he : e = 0 <;> by_cases hf : f = 0 <;> simp [itSet, P6.set, P6.zero, ha, hb, hc, hd, he, hf]
theorem items_len (p : P6) : (dItems p).length ≤ 3 ∧ (tItems p).length ≤ 3 := by
  unfold dItems tItems itm
  refine ⟨?_, ?_⟩
  all_goals
    repeat' split
    all_goals simp

theorem itL_len (xs : List It) : 2 * xs.length ≤ (itL xs).length := by
  induction xs with
  | nil => simp
  | cons x r ih =>
    have := decL_len x.2.1
    simp only [itL, List.flatMap_cons, List.length_append, List.length_cons, List.length_nil] at ih ⊢
    omega

/-- The text of parts, with a T if there are some of a time, is read. -/
theorem read_items {ds ts : List It} (hd : ItOk false (-1) ds) (ht : ItOk true (itLast (-1) ds) ts) (hne : ds ≠ [] ∨ ts ≠ []) :
    perR (strOfNums ([80] ++ itL ds ++ (if ts = [] then [] else 84 :: itL ts))) = some (itSet (itSet P6.zero ds) ts) := by
  have hbd := itL_bytes hd
  have hbt := itL_bytes ht
  have hld := itL_len ds
  have hlt := itL_len ts
  have hbr : ∀ x ∈ (if ts = [] then [] else 84 :: itL ts), 0 ≤ x ∧ x ≤ 255 := fun x hx => by
    split at hx
    · cases hx
    · rcases List.mem_cons.1 hx with rfl | hx
      · omega
      · exact hbt x hx
  have hp80 : ∀ x ∈ ([80] : List Int), 0 ≤ x ∧ x ≤ 255 := fun x hx => by
    obtain rfl : x = 80 := by simpa using hx
    omega
  have hall : ∀ x ∈ [80] ++ itL ds ++ (if ts = [] then [] else 84 :: itL ts), 0 ≤ x ∧ x ≤ 255 := fun x hx => by
    rcases List.mem_append.1 hx with hx | hx
    · rcases List.mem_append.1 hx with hx | hx
      · exact hp80 x hx
      · exact hbd x hx
    · exact hbr x hx
  have hsz : (strOfNums ([80] ++ itL ds ++ (if ts = [] then [] else 84 :: itL ts))).size = 1 + (itL ds).length + (if ts = [] then [] else 84 :: itL ts).length := by
    rw [strOfNums_size]; simp only [List.length_append, List.length_cons, List.length_nil]
  have key := pfR_items false _ hbr ds [80] (-1) ((strOfNums ([80] ++ itL ds ++ (if ts = [] then [] else 84 :: itL ts))).size - ds.length) P6.zero hd hp80
  have hbt0 : ∀ i, bt (strOfNums ([80] ++ itL ds ++ (if ts = [] then [] else 84 :: itL ts))) i = ([80] ++ itL ds ++ (if ts = [] then [] else 84 :: itL ts)).getD i 0 := fun i => bt_strOf _ i hall
  have hdt : ts = [] → ds ≠ [] := fun h => by rcases hne with h1 | h1; exact h1; exact (h1 h).elim
  have hl3 : 3 ≤ (strOfNums ([80] ++ itL ds ++ (if ts = [] then [] else 84 :: itL ts))).size := by
    rw [hsz]
    by_cases h : ts = []
    · have := List.length_pos_iff.2 (hdt h)
      omega
    · have := List.length_pos_iff.2 h
      rw [if_neg h, List.length_cons]
      omega
  -- no weeks
  have hw : isWeeks (strOfNums ([80] ++ itL ds ++ (if ts = [] then [] else 84 :: itL ts))) = false := by
    refine bool_no fun hh => ?_
    simp only [isWeeks, Bool.and_eq_true, decide_eq_true_eq] at hh
    have h87 := (isB_iff.1 hh.2).2
    cases ds with
    | nil =>
      have hts := hne.resolve_left (by simp)
      rw [if_neg hts] at hh h87 hbt0
      have hT : isB (strOfNums ([80] ++ itL [] ++ 84 :: itL ts)) 1 84 = true := isB_iff.2 ⟨by rw [if_neg hts] at hl3; omega, by rw [hbt0]; rfl⟩
      have := runN_zero hT (by omega)
      omega
    | cons x r =>
      obtain ⟨k, n, c⟩ := x
      obtain ⟨h1, h2, h3, h4, h5⟩ := hd
      have e1 : [80] ++ itL ((k, n, c) :: r) ++ (if ts = [] then [] else 84 :: itL ts) = [80] ++ (decL n ++ [c]) ++ (itL r ++ (if ts = [] then [] else 84 :: itL ts)) := by simp [itL]
      rw [e1] at hh h87 hall
      obtain ⟨g1, g2, g3, _⟩ := rd_dec h3 h4 hall
      simp only [List.length_cons, List.length_nil] at g1 g3
      rw [g1] at h87
      rw [show (0 + 1 + (decL n).length) = 1 + (decL n).length by omega] at g3
      rw [g3] at h87
      subst h87
      simp [letN] at h2
      omega
  unfold perR
  have h80 : bt (strOfNums ([80] ++ itL ds ++ (if ts = [] then [] else 84 :: itL ts))) 0 = 80 := by rw [hbt0]; rfl
  rw [if_neg (by rw [h80]; omega), if_neg (by rw [hw]; simp)]
  have hle : ds.length ≤ (strOfNums ([80] ++ itL ds ++ (if ts = [] then [] else 84 :: itL ts))).size := by rw [hsz]; omega
  rw [Nat.sub_add_cancel hle] at key
  have key' : pfR (strOfNums ([80] ++ itL ds ++ (if ts = [] then [] else 84 :: itL ts))) (strOfNums ([80] ++ itL ds ++ (if ts = [] then [] else 84 :: itL ts))).size 1 (-1) false P6.zero = _ := key
  rw [key']
  by_cases h : ts = []
  · subst h
    simp only [if_true, List.append_nil] at hsz hl3 ⊢
    obtain ⟨f, hf⟩ : ∃ f, (strOfNums ([80] ++ itL ds)).size - ds.length = f + 1 := ⟨(strOfNums ([80] ++ itL ds)).size - ds.length - 1, by simp only [List.length_nil] at hsz; omega⟩
    have hf' : (strOfNums ([80] ++ itL ds)).size - ds.length = f + 1 := hf
    simp only [hf']
    rw [pfR_end _ _ _ _ (by rw [strOfNums_size]; exact Nat.le_refl _)]
    rfl
  · rw [if_neg h] at hsz hl3 hall hbt0 ⊢
    have hpos := List.length_pos_iff.2 h
    rw [List.length_cons] at hsz
    have hq : ([80] ++ itL ds).length = 1 + (itL ds).length := by simp only [List.length_append, List.length_cons, List.length_nil]
    have hT : isB (strOfNums ([80] ++ itL ds ++ 84 :: itL ts)) ([80] ++ itL ds).length 84 = true := isB_iff.2 ⟨by rw [hsz, hq]; omega, by rw [hbt0]; simp [List.getD]⟩
    obtain ⟨f, hf⟩ : ∃ f, (strOfNums ([80] ++ itL ds ++ 84 :: itL ts)).size - ds.length = f + ts.length + 1 := ⟨(strOfNums ([80] ++ itL ds ++ 84 :: itL ts)).size - ds.length - ts.length - 1, by omega⟩
    rw [hf, pfR_T _ _ _ hT (by rw [hsz, hq]; omega)]
    have key2 := pfR_items true [] (fun x hx => by cases hx) ts ([80] ++ itL ds ++ [84]) (itLast (-1) ds) (f + 1) (itSet P6.zero ds) ht (fun x hx => hall x (by
      rcases List.mem_append.1 hx with hx | hx
      · exact List.mem_append_left _ hx
      · exact List.mem_append_right _ (by simp at hx; simp [hx])))
    have e9 : [80] ++ itL ds ++ [84] ++ itL ts ++ [] = [80] ++ itL ds ++ 84 :: itL ts := by simp
    have e10 : ([80] ++ itL ds ++ [84] : List Int).length = ([80] ++ itL ds : List Int).length + 1 := by simp only [List.length_append, List.length_cons, List.length_nil]
    rw [e9, e10] at key2
    rw [show f + ts.length + 1 = f + 1 + ts.length by omega, key2, pfR_end _ _ _ _ ?_]
    rw [hsz]
    simp only [List.length_append, List.length_cons, List.length_nil]
    omega

/-- What is written is read. -/
theorem per_text {p : P6} (h : pOk p = true) : perR (strOfNums (perL p)) = some p := by
  unfold perL
  by_cases hz : pzero p = true
  · rw [if_pos hz]
    have e : ([80, 84, 48, 83] : List Int) = [80] ++ itL [] ++ (if ([((5 : Int), (0 : Int), (83 : Int))] : List It) = [] then [] else 84 :: itL [(5, 0, 83)]) := by decide
    rw [e, read_items (ds := []) (ts := [(5, 0, 83)]) trivial (by simp [ItOk, letN, itLast]) (.inr (by simp))]
    obtain ⟨a, b, c, d, e', f⟩ := p
    simp only [pzero, decide_eq_true_eq] at hz
    obtain ⟨rfl, rfl, rfl, rfl, rfl, rfl⟩ := hz
    rfl
  · rw [if_neg hz, read_items (dItems_ok h) (tItems_ok h _ (dItems_last p)) ?_, items_set]
    obtain ⟨a, b, c, d, e', f⟩ := p
    simp only [pzero, decide_eq_true_eq] at hz
    unfold dItems tItems itm
    simp only
    by_cases ha : a = 0 <;> by_cases hb : b = 0 <;> by_cases hc : c = 0 <;> by_cases hd : d = 0 <;> by_cases he : e' = 0 <;> by_cases hf : f = 0 <;> simp_all

end D
end Go.Proofs.YtpgbmohocfcjpaaGreatDoor

namespace Go.Proofs.YtpgbmohocfcjpaaGreatDoor
set_option linter.unusedVariables false
set_option linter.unusedSimpArgs false
namespace D
open Go.RowKit
open Go.PlainAid (bt bt_nonneg bt_le bt_end)

/-- No slash stands in a text. -/
def noSl (s : ByteArray) : Prop := ∀ i, i < s.size → ¬ bt s i = 47

/-- The place of the first slash from a place on, or the end. -/
def slB (s : ByteArray) (p : Nat) : Nat → Nat
  | 0 => p
  | n + 1 => if p < s.size ∧ ¬ bt s p = 47 then slB s (p + 1) n else p
def slP (s : ByteArray) (p : Nat) : Nat := slB s p s.size

theorem slB_spec (s : ByteArray) : ∀ (n p : Nat), p ≤ s.size → s.size ≤ p + n → p ≤ slB s p n ∧ slB s p n ≤ s.size ∧ (∀ i, p ≤ i → i < slB s p n → ¬ bt s i = 47) ∧ (slB s p n < s.size → bt s (slB s p n) = 47)
  | 0, p, h1, h2 => ⟨Nat.le_refl _, h1, fun i a b => by simp only [slB] at b; omega, fun h => by simp only [slB] at h; omega⟩
  | n + 1, p, h1, h2 => by
    unfold slB
    by_cases h : p < s.size ∧ ¬ bt s p = 47
    · rw [if_pos h]
      obtain ⟨a, b, c, d⟩ := slB_spec s n (p + 1) (by omega) (by omega)
      refine ⟨by omega, b, fun i h3 h4 => ?_, d⟩
      by_cases e : i = p
      · subst e; exact h.2
      · exact c i (by omega) h4
    · rw [if_neg h]
      refine ⟨Nat.le_refl _, h1, fun i a b => by omega, fun hlt => ?_⟩
      by_cases e : bt s p = 47
      · exact e
      · exact (h ⟨hlt, e⟩).elim
theorem slP_spec {s : ByteArray} {p : Nat} (h : p ≤ s.size) : p ≤ slP s p ∧ slP s p ≤ s.size ∧ (∀ i, p ≤ i → i < slP s p → ¬ bt s i = 47) ∧ (slP s p < s.size → bt s (slP s p) = 47) := slB_spec s s.size p h (by omega)
theorem slP_eq {s : ByteArray} {p k : Nat} (hp : p ≤ k) (hk : k ≤ s.size) (h1 : ∀ i, p ≤ i → i < k → ¬ bt s i = 47) (h2 : k < s.size → bt s k = 47) : slP s p = k := by
  obtain ⟨a, b, c, d⟩ := slP_spec (s := s) (p := p) (by omega)
  rcases (by omega : slP s p < k ∨ slP s p = k ∨ k < slP s p) with h | h | h
  · exact (h1 _ a h (d (by omega))).elim
  · exact h
  · exact (c k hp h (h2 (by omega))).elim

theorem st_noSl {s : ByteArray} {a : Nat} (h : (stR s a).ok = true) : noSl s := by
  obtain ⟨h1, h2, h3, h4, h5⟩ := stAt_iff.1 (stR_ok h).1
  obtain ⟨a1, a2, a3, a4, a5, -⟩ := dOk_iff.1 h1
  have k1 := allD_at a1
  have k2 := allD_at a3
  have k3 := allD_at a5
  have k4 := (isB_iff.1 a2).2
  have k5 := (isB_iff.1 a4).2
  simp only [sepOk, decide_eq_true_eq] at h2
  intro i hi hb
  by_cases h10 : i < 10
  · rcases (by omega : i = 0 ∨ i = 1 ∨ i = 2 ∨ i = 3 ∨ i = 4 ∨ i = 5 ∨ i = 6 ∨ i = 7 ∨ i = 8 ∨ i = 9) with rfl | rfl | rfl | rfl | rfl | rfl | rfl | rfl | rfl | rfl
    · have := k1 0 (by omega); simp at this; omega
    · have := k1 1 (by omega); simp at this; omega
    · have := k1 2 (by omega); simp at this; omega
    · have := k1 3 (by omega); simp at this; omega
    · omega
    · have := k2 0 (by omega); simp at this; omega
    · have := k2 1 (by omega); simp at this; omega
    · omega
    · have := k3 0 (by omega); simp at this; omega
    · have := k3 1 (by omega); simp at this; omega
  · by_cases e10 : i = 10
    · subst e10; omega
    · by_cases ha : i < a
      · have hc : (s.extract 11 a).size = a - 11 := size_ext h3.2
        have := clk_chars h4 (i - 11) (by omega)
        rw [bt_extract h3.2 (by omega), show 11 + (i - 11) = i by omega] at this
        omega
      · have hz : (s.extract a s.size).size = s.size - a := size_ext (Nat.le_refl _)
        have e := bt_extract (s := s) (a := a) (b := s.size) (i := i - a) (Nat.le_refl _) (by omega)
        rw [show a + (i - a) = i by omega] at e
        simp only [ofOk, Bool.or_eq_true, Bool.and_eq_true, decide_eq_true_eq] at h5
        rcases h5 with g | ⟨⟨⟨⟨g1, g2⟩, g3⟩, g4⟩, g5, g6, g7⟩
        · have : i - a = 0 := by omega
          rw [this] at e
          omega
        · have j1 := allD_at g3
          have j2 := allD_at g4
          have j3 := (isB_iff.1 g2).2
          rcases (by omega : i - a = 0 ∨ i - a = 1 ∨ i - a = 2 ∨ i - a = 3 ∨ i - a = 4 ∨ i - a = 5) with q | q | q | q | q | q
          · rw [q] at e; omega
          · rw [q] at e; have := j1 0 (by omega); simp at this; omega
          · rw [q] at e; have := j1 1 (by omega); simp at this; omega
          · rw [q] at e; omega
          · rw [q] at e; have := j2 0 (by omega); simp at this; omega
          · rw [q] at e; have := j2 1 (by omega); simp at this; omega

theorem letN_char {b : Int} {t : Bool} {last : Int} (h : ¬ letN b t ≤ last) (hl : -1 ≤ last) : ¬ b = 47 := by
  rintro rfl
  apply h
  unfold letN
  cases t <;> simp <;> omega
theorem letN_ge (b : Int) (t : Bool) : -1 ≤ letN b t := by
  unfold letN
  repeat' split
  all_goals omega
theorem runN_char {s : ByteArray} {q i : Nat} (h1 : q ≤ i) (h2 : i < q + runN s q) : ¬ bt s i = 47 := by
  have := isD_iff.1 ((runN_spec s q).1 (i - q) (by omega))
  rw [show q + (i - q) = i by omega] at this
  omega

theorem pfR_noSl (s : ByteArray) : ∀ (f p : Nat) (last : Int) (t : Bool) (v w : P6), -1 ≤ last → pfR s f p last t v = some w → ∀ i, p ≤ i → i < s.size → ¬ bt s i = 47
  | 0, p, last, t, v, w, hl, h => by simp [pfR] at h
  | f + 1, p, last, t, v, w, hl, h => by
    intro i hi hlt
    rw [pfR] at h
    by_cases hz : s.size ≤ p
    · omega
    · rw [if_neg hz] at h
      simp only at h
      generalize hq : (if (!t && isB s p 84 && decide (p + 1 < s.size)) = true then p + 1 else p) = q at h
      generalize (t || (!t && isB s p 84 && decide (p + 1 < s.size))) = t' at h
      by_cases hm : 1 ≤ runN s q ∧ runN s q ≤ 4 ∧ q + runN s q < s.size
      · rw [if_pos hm] at h
        by_cases hk : letN (bt s (q + runN s q)) t' ≤ last
        · rw [if_pos hk] at h; cases h
        · rw [if_neg hk] at h
          have ih := pfR_noSl s f (q + runN s q + 1) _ t' _ w (letN_ge _ _) h i
          by_cases hip : i < q
          · have : (!t && isB s p 84 && decide (p + 1 < s.size)) = true := by
              by_cases hc : (!t && isB s p 84 && decide (p + 1 < s.size)) = true
              · exact hc
              · rw [if_neg hc] at hq; omega
            rw [if_pos this] at hq
            simp only [Bool.and_eq_true] at this
            have hb := (isB_iff.1 this.1.2).2
            obtain rfl : i = p := by omega
            omega
          · by_cases h3 : i < q + runN s q
            · exact runN_char (by omega) h3
            · by_cases h4 : i = q + runN s q
              · subst h4; exact letN_char hk hl
              · exact ih (by omega) hlt
      · rw [if_neg hm] at h; cases h

theorem per_noSl {s : ByteArray} {p : P6} (h : perR s = some p) : noSl s := by
  unfold perR at h
  by_cases h0 : s.size < 3 ∨ ¬ bt s 0 = 80
  · rw [if_pos h0] at h; cases h
  · rw [if_neg h0] at h
    have h80 : bt s 0 = 80 := by
      by_cases e : bt s 0 = 80
      · exact e
      · exact (h0 (.inr e)).elim
    intro i hi
    by_cases hi0 : i = 0
    · subst hi0; omega
    · by_cases hw : isWeeks s = true
      · rw [if_pos hw] at h
        unfold weeksOf at h
        by_cases hc : 1 + runN s 1 + 1 = s.size ∧ 7 * numL s 1 (runN s 1) ≤ 9999
        · simp only [isWeeks, Bool.and_eq_true, decide_eq_true_eq] at hw
          have h87 := (isB_iff.1 hw.2).2
          by_cases h3 : i < 1 + runN s 1
          · exact runN_char (by omega) h3
          · have : i = 1 + runN s 1 := by omega
            subst this
            omega
        · rw [if_neg hc] at h; cases h
      · rw [if_neg hw] at h
        exact pfR_noSl s _ _ _ _ _ _ (by omega) h i (by omega) hi

/-- The parts of a period that was read are small. -/
theorem numL_4 {s : ByteArray} {q m : Nat} (h1 : runN s q = m) (h2 : m ≤ 4) : 0 ≤ numL s q m ∧ numL s q m ≤ 9999 := by
  subst h1
  have h := numL_bd (runN_allD s q)
  have h10 : p10 (runN s q) ≤ 10000 := by
    rcases (by omega : runN s q = 0 ∨ runN s q = 1 ∨ runN s q = 2 ∨ runN s q = 3 ∨ runN s q = 4) with e | e | e | e | e <;> rw [e] <;> decide
  omega
theorem pOk_set {v : P6} {k x : Int} (h : pOk v = true) (hx : 0 ≤ x ∧ x ≤ 9999) : pOk (v.set k x) = true := by
  have h1 := pOk_iff.1 h
  rw [pOk_iff]
  unfold P6.set
  repeat' split
  all_goals first | omega | (simp only; omega)
theorem pfR_val (s : ByteArray) : ∀ (f p : Nat) (last : Int) (t : Bool) (v w : P6), pOk v = true → pfR s f p last t v = some w → pOk w = true
  | 0, p, last, t, v, w, hl, h => by simp [pfR] at h
  | f + 1, p, last, t, v, w, hl, h => by
    rw [pfR] at h
    by_cases hz : s.size ≤ p
    · rw [if_pos hz] at h; cases h; exact hl
    · rw [if_neg hz] at h
      simp only at h
      generalize (if (!t && isB s p 84 && decide (p + 1 < s.size)) = true then p + 1 else p) = q at h
      generalize (t || (!t && isB s p 84 && decide (p + 1 < s.size))) = t' at h
      by_cases hm : 1 ≤ runN s q ∧ runN s q ≤ 4 ∧ q + runN s q < s.size
      · rw [if_pos hm] at h
        by_cases hk : letN (bt s (q + runN s q)) t' ≤ last
        · rw [if_pos hk] at h; cases h
        · rw [if_neg hk] at h
          exact pfR_val s f _ _ _ _ w (pOk_set hl (numL_4 rfl hm.2.1)) h
      · rw [if_neg hm] at h; cases h
theorem per_val {s : ByteArray} {p : P6} (h : perR s = some p) : pOk p = true := by
  unfold perR at h
  by_cases h0 : s.size < 3 ∨ ¬ bt s 0 = 80
  · rw [if_pos h0] at h; cases h
  · rw [if_neg h0] at h
    by_cases hw : isWeeks s = true
    · rw [if_pos hw] at h
      unfold weeksOf at h
      by_cases hc : 1 + runN s 1 + 1 = s.size ∧ 7 * numL s 1 (runN s 1) ≤ 9999
      · rw [if_pos hc] at h
        cases h
        simp only [isWeeks, Bool.and_eq_true, decide_eq_true_eq] at hw
        have := numL_4 (s := s) (q := 1) rfl hw.1.2
        simp [pOk, P6.zero]
        omega
      · rw [if_neg hc] at h; cases h
    · rw [if_neg hw] at h
      exact pfR_val s _ _ _ _ _ _ (by decide) h

end D
end Go.Proofs.YtpgbmohocfcjpaaGreatDoor
