/- Plain laws: times and offsets as texts. -/
import Derived.Test.YtodmpdcffnmmkaaDoorPT
import Derived.Test.YtodmpdcffnmmkaaDoorPL
namespace Go.Proofs.YtodmpdcffnmmkaaDoor
set_option linter.unusedVariables false
set_option linter.unusedSimpArgs false
namespace D
open Go.RowKit
open Go.PlainAid (bt bt_nonneg bt_le bt_end)

/-- A time, or none. -/
structure CR where
  h : Int
  i : Int
  s : Int
  k : Int
  ok : Bool

def CR.no : CR := ⟨0, 0, 0, 0, false⟩

/-- One place more, if there are colons. -/
def b2 (h : Bool) : Nat := if h = true then 1 else 0

def coV (s : ByteArray) (p : Nat) (h : Bool) : Bool := !h || isB s p 58

/-- Is there a fraction from a place on, or nothing? -/
def frOk (s : ByteArray) (q : Nat) : Bool := decide (s.size = q) || (isB s q 46 && decide (q + 2 ≤ s.size ∧ s.size ≤ q + 4) && allD s (q + 1) (s.size - q - 1))
def frK (s : ByteArray) (q : Nat) : Int := if s.size = q then 0 else numL s (q + 1) (s.size - q - 1) * p10 (3 - (s.size - q - 1))

def clkOk (s : ByteArray) (h : Bool) : Bool :=
  allD s 0 2 && coV s 2 h && allD s (2 + b2 h) 2 && coV s (4 + b2 h) h && allD s (4 + 2 * b2 h) 2 && frOk s (6 + 2 * b2 h) && cval (numL s 0 2) (numL s (2 + b2 h) 2) (numL s (4 + 2 * b2 h) 2) (frK s (6 + 2 * b2 h))

def clkV (s : ByteArray) (h : Bool) : CR := if clkOk s h = true then ⟨numL s 0 2, numL s (2 + b2 h) 2, numL s (4 + 2 * b2 h) 2, frK s (6 + 2 * b2 h), true⟩ else CR.no

/-- A fraction, as bytes. -/
def frL (k : Int) : List Int := if k = 0 then [] else if k % 100 = 0 then 46 :: digL (k / 100) 1 else if k % 10 = 0 then 46 :: digL (k / 10) 2 else 46 :: digL k 3

/-- A time, as bytes. -/
def clL (h i s k : Int) : List Int := digL h 2 ++ [58] ++ digL i 2 ++ [58] ++ digL s 2 ++ frL k

/-- An offset, as bytes. -/
def ofP (o n : Int) : List Int := (if o < 0 then 45 else 43) :: (digL (n / 60) 2 ++ [58] ++ digL (n % 60) 2)
def ofL (o : Int) : List Int := if o = 0 then [90] else ofP o (if o < 0 then -o else o)

/-- Is a text an offset? -/
def ofOk (s : ByteArray) : Bool :=
  decide (s.size = 1 ∧ (bt s 0 = 90 ∨ bt s 0 = 122)) ||
  (decide (s.size = 6) && isB s 3 58 && allD s 1 2 && allD s 4 2 && decide (numL s 1 2 ≤ 23 ∧ numL s 4 2 ≤ 59 ∧ (bt s 0 = 43 ∨ (bt s 0 = 45 ∧ 0 < 60 * numL s 1 2 + numL s 4 2))))

def ofN (s : ByteArray) : Int := if s.size = 1 then 0 else if bt s 0 = 45 then -(60 * numL s 1 2 + numL s 4 2) else 60 * numL s 1 2 + numL s 4 2

/-- The offset of a text. -/
def ofV (s : ByteArray) : Value := if ofOk s = true then .tuple #[.int .i64 (ofN s), .bool true] else .tuple #[.int .i64 0, .bool false]

theorem fr_run {s : ByteArray} {q j : Nat} (hd : isB s q 46 = true) (hj1 : ∀ i, i < j → isD s (q + 1 + i) = true) (hj2 : isD s (q + 1 + j) = false) : frOk s q = decide (1 ≤ j ∧ j ≤ 3 ∧ q + 1 + j = s.size) := by
  have hb := isB_iff.1 hd
  have hle : q + 1 + j ≤ s.size := by
    by_cases h0 : j = 0
    · omega
    · have := isD_lt (hj1 (j - 1) (by omega))
      omega
  rw [Bool.eq_iff_iff]
  simp only [frOk, hd, Bool.true_and, Bool.or_eq_true, Bool.and_eq_true, decide_eq_true_eq]
  constructor
  · rintro (h | ⟨h1, h2⟩)
    · omega
    · have hm : s.size - q - 1 ≤ j := Nat.le_of_not_lt fun hlt => by
        have := allD_iff.1 h2 j hlt
        rw [hj2] at this
        cases this
      omega
  · rintro ⟨h1, h2, h3⟩
    refine .inr ⟨by omega, ?_⟩
    rw [show s.size - q - 1 = j by omega]
    exact allD_iff.2 hj1

theorem frK_run {s : ByteArray} {q j : Nat} (h1 : 1 ≤ j) (h3 : q + 1 + j = s.size) : frK s q = numL s (q + 1) j * p10 (3 - j) := by
  unfold frK
  rw [if_neg (by omega), show s.size - q - 1 = j by omega]

theorem ofN_bd {s : ByteArray} (h : ofOk s = true) : inR (ofN s) (-1439) 1439 = true := by
  simp only [ofOk, Bool.or_eq_true, Bool.and_eq_true, decide_eq_true_eq] at h
  refine inR_true.2 ?_
  rcases h with ⟨h1, _⟩ | ⟨⟨⟨⟨h1, h2⟩, h3⟩, h4⟩, h5, h6, h7⟩
  · simp [ofN, h1]
  · have h8 := numL_bd h3
    have h9 := numL_bd h4
    unfold ofN
    rw [if_neg (by omega)]
    split <;> omega

theorem ofL_in {o : Int} (h : inR o (-1439) 1439 = true) : ∀ x ∈ ofL o, 0 ≤ x ∧ x ≤ 255 := by
  intro x hx
  unfold ofL at hx
  split at hx
  · simp only [List.mem_singleton] at hx
    omega
  · simp only [ofP, List.mem_cons, List.mem_append, List.not_mem_nil, or_false] at hx
    rcases hx with h1 | (h1 | h1) | h1
    · split at h1 <;> omega
    · have := digL_in _ _ _ h1
      omega
    · omega
    · have := digL_in _ _ _ h1
      omega

theorem frL_len (k : Int) : (frL k).length ≤ 4 := by
  unfold frL
  repeat' split
  all_goals simp [digL_length]

theorem clL_len (h i s k : Int) : (clL h i s k).length = 8 + (frL k).length := by simp [clL, digL_length]; omega

theorem ofL_len (o : Int) : (ofL o).length = 1 ∨ (ofL o).length = 6 := by
  unfold ofL
  split
  · exact .inl rfl
  · right
    simp [ofP, digL_length]

theorem str0 : (⟨#[]⟩ : ByteArray) = strOfNums [] := rfl

theorem str43 : (⟨#[43]⟩ : ByteArray) = strOfNums [43] := rfl

theorem str45 : (⟨#[45]⟩ : ByteArray) = strOfNums [45] := rfl

theorem str46 : (⟨#[46]⟩ : ByteArray) = strOfNums [46] := rfl

theorem str58 : (⟨#[58]⟩ : ByteArray) = strOfNums [58] := rfl

theorem str84 : (⟨#[84]⟩ : ByteArray) = strOfNums [84] := rfl

theorem str90 : (⟨#[90]⟩ : ByteArray) = strOfNums [90] := rfl

/-- The text of an offset, or none. -/
def ofT (o : Int) : ByteArray := if inR o (-1439) 1439 = true then strOfNums (ofL o) else ⟨#[]⟩

theorem one_byte {s : ByteArray} {c : Int} (hc : 0 ≤ c ∧ c ≤ 255) (hz : s.size = 1) (h : bt s 0 = c) : s = strOfNums [c] := by
  rw [eq_strOf (by intro x hx; simp only [List.mem_singleton] at hx; omega)]
  refine ⟨hz, fun i hi => ?_⟩
  have hi' : i < 1 := hi
  obtain rfl : i = 0 := by omega
  exact h

end D
end Go.Proofs.YtodmpdcffnmmkaaDoor

namespace Go.Proofs.YtodmpdcffnmmkaaDoor
set_option linter.unusedVariables false
set_option linter.unusedSimpArgs false
namespace D
open Go.RowKit
open Go.PlainAid (bt bt_nonneg bt_le bt_end)

theorem bt_extract {s : ByteArray} {a b i : Nat} (hb : b ≤ s.size) (hi : a + i < b) : bt (s.extract a b) i = bt s (a + i) := by
  have h1 : i < (s.extract a b).size := by rw [ByteArray.size_extract]; omega
  have h2 : a + i < s.size := by omega
  unfold bt
  rw [dif_pos h1, dif_pos h2, ByteArray.getElem_extract]

theorem size_ext {s : ByteArray} {a b : Nat} (hb : b ≤ s.size) : (s.extract a b).size = b - a := by
  rw [ByteArray.size_extract]
  omega

theorem isD_congr {s t : ByteArray} {p q : Nat} (h : bt s p = bt t q) : isD s p = isD t q := by simp [isD, h]

theorem allD_ext {s t : ByteArray} {p q : Nat} : ∀ {m : Nat}, (∀ i, i < m → bt s (p + i) = bt t (q + i)) → allD s p m = allD t q m ∧ numL s p m = numL t q m
  | 0, _ => ⟨rfl, rfl⟩
  | m + 1, h => by
    have ih := allD_ext (m := m) fun i hi => h i (by omega)
    have e := h m (by omega)
    exact ⟨by simp only [allD, ih.1, isD_congr e], by simp only [numL, ih.2, e]⟩

/-- Begins a text with a date by its month and hyphens? -/
def dOk (s : ByteArray) : Bool := allD s 0 4 && isB s 4 45 && allD s 5 2 && isB s 7 45 && allD s 8 2 && dval (numL s 0 4) (numL s 5 2) (numL s 8 2)

theorem dOk_iff {s : ByteArray} : dOk s = true ↔ allD s 0 4 = true ∧ isB s 4 45 = true ∧ allD s 5 2 = true ∧ isB s 7 45 = true ∧ allD s 8 2 = true ∧ dval (numL s 0 4) (numL s 5 2) (numL s 8 2) = true := by
  simp only [dOk, Bool.and_eq_true, and_assoc]

theorem dOk_size {s : ByteArray} (h : dOk s = true) : 10 ≤ s.size := by
  have := isD_lt (allD_iff.1 (dOk_iff.1 h).2.2.2.2.1 1 (by omega))
  omega

theorem rdM_ok {s : ByteArray} (h : dOk s = true) : rdM s true = ⟨numL s 0 4, numL s 5 2, numL s 8 2, true⟩ ∧ m5 s true = 10 := by
  obtain ⟨a1, b1, a2, b2, a3, hv⟩ := dOk_iff.1 h
  have e1 : m1 s = 4 := nxt_eq a1
  have e2 : m2 s true = 5 := by show btN s (m1 s) true = _; rw [e1]; exact btN_t b1
  have e3 : m3 s true = 7 := by show nxt s (m2 s true) 2 = _; rw [e2]; exact nxt_eq a2
  have e4 : m4 s true = 8 := by show btN s (m3 s true) true = _; rw [e3]; exact btN_t b2
  have e5 : m5 s true = 10 := by show nxt s (m4 s true) 2 = _; rw [e4]; exact nxt_eq a3
  refine ⟨?_, e5⟩
  simp only [rdM]
  rw [e1, e2, e3, e4, btV_t, btV_t, numV_eq a1, numV_eq a2, numV_eq a3, a1, a2, a3, b1, b2, hv]
  rfl

theorem rdM_no {s : ByteArray} (h : dOk s = false) : (rdM s true).ok = false := by
  refine bool_no fun hk => ?_
  simp only [rdM, Bool.and_eq_true] at hk
  obtain ⟨⟨⟨⟨⟨a1, a2⟩, a3⟩, a4⟩, a5⟩, a6⟩ := hk
  have e1 : m1 s = 4 := nxt_eq a1
  rw [e1, btV_t] at a4
  have e2 : m2 s true = 5 := by show btN s (m1 s) true = _; rw [e1]; exact btN_t a4
  rw [e2] at a2
  have e3 : m3 s true = 7 := by show nxt s (m2 s true) 2 = _; rw [e2]; exact nxt_eq a2
  rw [e3, btV_t] at a5
  have e4 : m4 s true = 8 := by show btN s (m3 s true) true = _; rw [e3]; exact btN_t a5
  rw [e4] at a3
  rw [e2, e4, numV_eq a1, numV_eq a2, numV_eq a3] at a6
  rw [dOk_iff.2 ⟨a1, a4, a2, a5, a3, a6⟩] at h
  cases h

theorem dOk_ten {s : ByteArray} (hz : 10 ≤ s.size) : okS (s.extract 0 10) 0 = dOk s ∧ numL (s.extract 0 10) 0 4 = numL s 0 4 ∧ numL (s.extract 0 10) 5 2 = numL s 5 2 ∧ numL (s.extract 0 10) 8 2 = numL s 8 2 := by
  have hb : ∀ i, i < 10 → bt (s.extract 0 10) i = bt s i := fun i hi => by
    have := bt_extract (s := s) (a := 0) (b := 10) (i := i) hz (by omega)
    rwa [Nat.zero_add] at this
  have hsz : (s.extract 0 10).size = 10 := size_ext hz
  have e1 := allD_ext (s := s.extract 0 10) (t := s) (p := 0) (q := 0) (m := 4) fun i hi => by rw [Nat.zero_add]; exact hb i (by omega)
  have e2 := allD_ext (s := s.extract 0 10) (t := s) (p := 5) (q := 5) (m := 2) fun i hi => hb (5 + i) (by omega)
  have e3 := allD_ext (s := s.extract 0 10) (t := s) (p := 8) (q := 8) (m := 2) fun i hi => hb (8 + i) (by omega)
  refine ⟨?_, e1.2, e2.2, e3.2⟩
  rw [Bool.eq_iff_iff, okS0, dOk_iff, e1.1, e2.1, e3.1, e1.2, e2.2, e3.2, hb 4 (by omega), hb 7 (by omega), hsz, isB_iff, isB_iff]
  constructor
  · rintro ⟨h1, h2, h3, h4, h5, -, h6⟩
    exact ⟨h1, ⟨by omega, h2⟩, h3, ⟨by omega, h4⟩, h5, h6⟩
  · rintro ⟨h1, h2, h3, h4, h5, h6⟩
    exact ⟨h1, h2.2, h3, h4.2, h5, rfl, h6⟩

/-- Does a date's end stand at its place? -/
def sepOk (s : ByteArray) : Bool := decide (10 < s.size ∧ (bt s 10 = 84 ∨ bt s 10 = 116 ∨ bt s 10 = 32))

/-- Is a text a stamp whose offset begins at a place? -/
def stAt (s : ByteArray) (a : Nat) : Bool := dOk s && sepOk s && decide (11 ≤ a ∧ a ≤ s.size) && clkOk (s.extract 11 a) true && ofOk (s.extract a s.size)

/-- The stamp of a text whose offset begins at a place, or none. -/
def stR (s : ByteArray) (a : Nat) : SR :=
  if stAt s a = true then ⟨numL s 0 4, numL s 5 2, numL s 8 2, numL (s.extract 11 a) 0 2, numL (s.extract 11 a) 3 2, numL (s.extract 11 a) 6 2, frK (s.extract 11 a) 8, ofN (s.extract a s.size), true⟩ else SR.no

/-- Where the program looks for the offset. -/
def cutP (s : ByteArray) : Nat := if 12 ≤ s.size ∧ (bt s (s.size - 1) = 90 ∨ bt s (s.size - 1) = 122) then s.size - 1 else s.size - 6

/-- A byte with which an offset begins. -/
def isO (s : ByteArray) (i : Nat) : Prop := bt s i = 90 ∨ bt s i = 122 ∨ bt s i = 43 ∨ bt s i = 45

theorem stAt_iff {s : ByteArray} {a : Nat} : stAt s a = true ↔ dOk s = true ∧ sepOk s = true ∧ (11 ≤ a ∧ a ≤ s.size) ∧ clkOk (s.extract 11 a) true = true ∧ ofOk (s.extract a s.size) = true := by
  simp only [stAt, Bool.and_eq_true, decide_eq_true_eq, and_assoc]

theorem ofOk_cases {s : ByteArray} (h : ofOk s = true) : (s.size = 1 ∧ (bt s 0 = 90 ∨ bt s 0 = 122)) ∨ (s.size = 6 ∧ (48 ≤ bt s 5 ∧ bt s 5 ≤ 57) ∧ (bt s 0 = 43 ∨ bt s 0 = 45)) := by
  simp only [ofOk, Bool.or_eq_true, Bool.and_eq_true, decide_eq_true_eq] at h
  rcases h with h1 | ⟨⟨⟨⟨h1, h2⟩, h3⟩, h4⟩, h5, h6, h7⟩
  · exact .inl h1
  · have := allD_at h4 1 (by omega)
    exact .inr ⟨h1, by simpa using this, by rcases h7 with h | h; exact .inl h; exact .inr h.1⟩

theorem stAt_cut {s : ByteArray} {a : Nat} (h : stAt s a = true) : a = cutP s := by
  obtain ⟨h1, h2, h3, h4, h5⟩ := stAt_iff.1 h
  have hz : (s.extract a s.size).size = s.size - a := size_ext (Nat.le_refl _)
  unfold cutP
  rcases ofOk_cases h5 with ⟨g1, g2⟩ | ⟨g1, g2, g3⟩
  · have e := bt_extract (s := s) (a := a) (b := s.size) (i := 0) (Nat.le_refl _) (by omega)
    rw [e, show a + 0 = s.size - 1 by omega] at g2
    rw [if_pos ⟨by omega, g2⟩]
    omega
  · have e := bt_extract (s := s) (a := a) (b := s.size) (i := 5) (Nat.le_refl _) (by omega)
    rw [e, show a + 5 = s.size - 1 by omega] at g2
    rw [if_neg (by omega)]
    omega

theorem clk_chars {c : ByteArray} (h : clkOk c true = true) : ∀ i, i < c.size → (48 ≤ bt c i ∧ bt c i ≤ 57) ∨ bt c i = 58 ∨ bt c i = 46 := by
  simp only [clkOk, coV, b2, frOk, Bool.not_true, Bool.false_or, Bool.and_eq_true, Bool.or_eq_true, decide_eq_true_eq, if_true] at h
  obtain ⟨⟨⟨⟨⟨⟨a1, c1⟩, a2⟩, c2⟩, a3⟩, hf⟩, -⟩ := h
  intro i hi
  have k1 := allD_at a1
  have k2 := allD_at a2
  have k3 := allD_at a3
  have d1 := (isB_iff.1 c1).2
  have d2 := (isB_iff.1 c2).2
  by_cases h8 : i < 8
  · rcases (by omega : i = 0 ∨ i = 1 ∨ i = 2 ∨ i = 3 ∨ i = 4 ∨ i = 5 ∨ i = 6 ∨ i = 7) with rfl | rfl | rfl | rfl | rfl | rfl | rfl | rfl
    · exact .inl (k1 0 (by omega))
    · exact .inl (k1 1 (by omega))
    · exact .inr (.inl d1)
    · exact .inl (k2 0 (by omega))
    · exact .inl (k2 1 (by omega))
    · exact .inr (.inl d2)
    · exact .inl (k3 0 (by omega))
    · exact .inl (k3 1 (by omega))
  · rcases hf with hf | ⟨⟨hd, hr⟩, ha⟩
    · omega
    · by_cases e8 : i = 8
      · subst e8
        exact .inr (.inr (isB_iff.1 hd).2)
      · have := allD_at ha (i - 9) (by omega)
        have e : 6 + 2 * 1 + 1 + (i - 9) = i := by omega
        rw [e] at this
        exact .inl this

theorem stAt_first {s : ByteArray} {a : Nat} (h : stAt s a = true) : (∀ i, 11 ≤ i → i < a → ¬ isO s i) ∧ isO s a ∧ a < s.size := by
  obtain ⟨h1, h2, h3, h4, h5⟩ := stAt_iff.1 h
  have hz : (s.extract a s.size).size = s.size - a := size_ext (Nat.le_refl _)
  have hc : (s.extract 11 a).size = a - 11 := size_ext h3.2
  refine ⟨fun i hi1 hi2 hO => ?_, ?_⟩
  · have := clk_chars h4 (i - 11) (by omega)
    rw [bt_extract h3.2 (by omega), show 11 + (i - 11) = i by omega] at this
    unfold isO at hO
    omega
  · have hlt : a < s.size := by
      rcases ofOk_cases h5 with ⟨g1, _⟩ | ⟨g1, _⟩ <;> omega
    refine ⟨?_, hlt⟩
    have e := bt_extract (s := s) (a := a) (b := s.size) (i := 0) (Nat.le_refl _) (by omega)
    rw [Nat.add_zero] at e
    unfold isO
    rcases ofOk_cases h5 with ⟨_, g2⟩ | ⟨_, _, g3⟩
    · rw [e] at g2
      omega
    · rw [e] at g3
      omega

/-- Where the reference looks, it finds what the program finds. -/
theorem stR_found {s : ByteArray} {a : Nat} (h1 : 11 ≤ a) (h2 : ∀ i, 11 ≤ i → i < a → ¬ isO s i) (h3 : isO s a) : stR s a = stR s (cutP s) := by
  by_cases hc : stAt s (cutP s) = true
  · have g := stAt_first hc
    have hge := (stAt_iff.1 hc).2.2.1
    have e : a = cutP s := by
      rcases (by omega : a < cutP s ∨ a = cutP s ∨ cutP s < a) with h | h | h
      · exact (g.1 a h1 h h3).elim
      · exact h
      · exact (h2 _ hge.1 h g.2.1).elim
    rw [e]
  · have hn : ¬ stAt s a = true := fun h => hc (by rw [← stAt_cut h]; exact h)
    rw [stR, stR, if_neg hn, if_neg hc]

theorem stR_none {s : ByteArray} (h : ∀ i, 11 ≤ i → i < s.size → ¬ isO s i) : stR s (cutP s) = SR.no := by
  rw [stR, if_neg]
  intro hc
  have g := stAt_first hc
  exact h _ (stAt_iff.1 hc).2.2.1.1 g.2.2 g.2.1

/-- What a text that is a stamp gives. -/
theorem stR_ok {s : ByteArray} {a : Nat} (h : (stR s a).ok = true) : stAt s a = true ∧ sval (stR s a).y (stR s a).m (stR s a).d (stR s a).h (stR s a).i (stR s a).s (stR s a).k (stR s a).o = true := by
  by_cases hc : stAt s a = true
  · refine ⟨hc, ?_⟩
    obtain ⟨h1, h2, h3, h4, h5⟩ := stAt_iff.1 hc
    have hv := (dOk_iff.1 h1).2.2.2.2.2
    have ho := ofN_bd h5
    have hk : cval (numL (s.extract 11 a) 0 2) (numL (s.extract 11 a) 3 2) (numL (s.extract 11 a) 6 2) (frK (s.extract 11 a) 8) = true := by
      simp only [clkOk, Bool.and_eq_true] at h4
      exact h4.2
    rw [stR, if_pos hc]
    simp only [sval, hv, hk, ho, Bool.and_self]
  · rw [stR, if_neg hc] at h
    cases h

end D
end Go.Proofs.YtodmpdcffnmmkaaDoor

namespace Go.Proofs.YtodmpdcffnmmkaaDoor
set_option linter.unusedVariables false
set_option linter.unusedSimpArgs false
namespace D
open Go.RowKit
open Go.PlainAid (bt bt_nonneg bt_le bt_end)

/-- What is left of three digits without zeros at their end. -/
def frT (k : Int) : List Int := if k % 100 = 0 then digL (k / 100) 1 else if k % 10 = 0 then digL (k / 10) 2 else digL k 3

theorem frL_T {k : Int} (h : ¬ k = 0) : frL k = 46 :: frT k := by
  unfold frL frT
  rw [if_neg h]
  split
  · rfl
  · split <;> rfl

theorem dig3_bt (k : Int) : bt (strOfNums (digL k 3)) 0 = 48 + k / 100 % 10 ∧ bt (strOfNums (digL k 3)) 1 = 48 + k / 10 % 10 ∧ bt (strOfNums (digL k 3)) 2 = 48 + k % 10 ∧ (strOfNums (digL k 3)).size = 3 := by
  have hl : ∀ x ∈ digL k 3, 0 ≤ x ∧ x ≤ 255 := fun x hx => by have := digL_in _ _ x hx; omega
  have e := dig3 k
  refine ⟨?_, ?_, ?_, by rw [strOfNums_size, digL_length]⟩
  · rw [bt_strOf _ 0 hl, e]; rfl
  · rw [bt_strOf _ 1 hl, e]; rfl
  · rw [bt_strOf _ 2 hl, e]; rfl

/-- Three digits without the zeros at their end. -/
theorem trim_frT {k : Int} (h : 1 ≤ k ∧ k ≤ 999) : ∃ j : Nat, 1 ≤ j ∧ j ≤ 3 ∧ (∀ i, j ≤ i → i < 3 → bt (strOfNums (digL k 3)) i = 48) ∧ ¬ bt (strOfNums (digL k 3)) (j - 1) = 48 ∧ (strOfNums (digL k 3)).extract 0 j = strOfNums (frT k) := by
  obtain ⟨b0, b1, b2, hz⟩ := dig3_bt k
  by_cases h1 : k % 100 = 0
  · have e : frT k = [48 + k / 100 % 10] := (if_pos h1).trans (dig1 _)
    have hl : ∀ x ∈ ([48 + k / 100 % 10] : List Int), 0 ≤ x ∧ x ≤ 255 := fun x hx => by simp only [List.mem_singleton] at hx; omega
    refine ⟨1, by omega, by omega, fun i hi1 hi2 => ?_, ?_, ?_⟩
    · rcases (by omega : i = 1 ∨ i = 2) with rfl | rfl
      · rw [b1]; omega
      · rw [b2]; omega
    · show ¬ bt _ 0 = 48
      rw [b0]; omega
    · rw [e, eq_strOf hl]
      refine ⟨by rw [size_ext (by omega)]; rfl, fun i hi => ?_⟩
      have hi' : i < 1 := hi
      obtain rfl : i = 0 := by omega
      rw [bt_extract (by omega) (by omega)]
      exact b0
  · by_cases h2 : k % 10 = 0
    · have e : frT k = [48 + k / 10 / 10 % 10, 48 + k / 10 % 10] := (if_neg h1).trans ((if_pos h2).trans (dig2 _))
      have hl : ∀ x ∈ ([48 + k / 10 / 10 % 10, 48 + k / 10 % 10] : List Int), 0 ≤ x ∧ x ≤ 255 := fun x hx => by
        simp only [List.mem_cons, List.not_mem_nil, or_false] at hx
        omega
      refine ⟨2, by omega, by omega, fun i hi1 hi2 => ?_, ?_, ?_⟩
      · obtain rfl : i = 2 := by omega
        rw [b2]; omega
      · show ¬ bt _ 1 = 48
        rw [b1]; omega
      · rw [e, eq_strOf hl]
        refine ⟨by rw [size_ext (by omega)]; rfl, fun i hi => ?_⟩
        have hi' : i < 2 := hi
        rw [bt_extract (by omega) (by omega)]
        rcases (by omega : i = 0 ∨ i = 1) with rfl | rfl
        · refine b0.trans ?_
          show 48 + k / 100 % 10 = 48 + k / 10 / 10 % 10
          omega
        · exact b1
    · have e : frT k = digL k 3 := (if_neg h1).trans (if_neg h2)
      refine ⟨3, by omega, by omega, fun i hi1 hi2 => by omega, ?_, ?_⟩
      · show ¬ bt _ 2 = 48
        rw [b2]; omega
      · rw [e, ← hz]
        exact ByteArray.extract_zero_size

/-- A stamp, as bytes. -/
noncomputable def stL (y m d h i s k o : Int) : List Int := dtL y m d 0 true ++ [84] ++ clL h i s k ++ ofL o

theorem clk_text0 {h i s k : Int} (hv : cval h i s k = true) (hk : k = 0) : clkOk (strOfNums (clL h i s k)) true = true ∧ numL (strOfNums (clL h i s k)) 0 2 = h ∧ numL (strOfNums (clL h i s k)) 3 2 = i ∧ numL (strOfNums (clL h i s k)) 6 2 = s ∧ frK (strOfNums (clL h i s k)) 8 = k := by
  have hb := cval_bd hv
  have ef : frL k = [] := by
    unfold frL
    rw [if_pos hk]
  have el : clL h i s k = [48 + h / 10 % 10, 48 + h % 10, 58, 48 + i / 10 % 10, 48 + i % 10, 58, 48 + s / 10 % 10, 48 + s % 10] := by
    unfold clL
    rw [ef, dig2, dig2, dig2]
    rfl
  rw [el]
  have hl : ∀ x ∈ ([48 + h / 10 % 10, 48 + h % 10, 58, 48 + i / 10 % 10, 48 + i % 10, 58, 48 + s / 10 % 10, 48 + s % 10] : List Int), 0 ≤ x ∧ x ≤ 255 := by
    intro x hx
    simp only [List.mem_cons, List.not_mem_nil, or_false] at hx
    rcases hx with rfl | rfl | rfl | rfl | rfl | rfl | rfl | rfl <;> omega
  have hz : (strOfNums [48 + h / 10 % 10, 48 + h % 10, 58, 48 + i / 10 % 10, 48 + i % 10, 58, 48 + s / 10 % 10, 48 + s % 10]).size = 8 := by rw [strOfNums_size]; rfl
  have c0 : bt (strOfNums [48 + h / 10 % 10, 48 + h % 10, 58, 48 + i / 10 % 10, 48 + i % 10, 58, 48 + s / 10 % 10, 48 + s % 10]) 0 = 48 + h / 10 % 10 := (bt_strOf _ 0 hl).trans rfl
  have c1 : bt (strOfNums [48 + h / 10 % 10, 48 + h % 10, 58, 48 + i / 10 % 10, 48 + i % 10, 58, 48 + s / 10 % 10, 48 + s % 10]) 1 = 48 + h % 10 := (bt_strOf _ 1 hl).trans rfl
  have c2 : bt (strOfNums [48 + h / 10 % 10, 48 + h % 10, 58, 48 + i / 10 % 10, 48 + i % 10, 58, 48 + s / 10 % 10, 48 + s % 10]) 2 = 58 := (bt_strOf _ 2 hl).trans rfl
  have c3 : bt (strOfNums [48 + h / 10 % 10, 48 + h % 10, 58, 48 + i / 10 % 10, 48 + i % 10, 58, 48 + s / 10 % 10, 48 + s % 10]) 3 = 48 + i / 10 % 10 := (bt_strOf _ 3 hl).trans rfl
  have c4 : bt (strOfNums [48 + h / 10 % 10, 48 + h % 10, 58, 48 + i / 10 % 10, 48 + i % 10, 58, 48 + s / 10 % 10, 48 + s % 10]) 4 = 48 + i % 10 := (bt_strOf _ 4 hl).trans rfl
  have c5 : bt (strOfNums [48 + h / 10 % 10, 48 + h % 10, 58, 48 + i / 10 % 10, 48 + i % 10, 58, 48 + s / 10 % 10, 48 + s % 10]) 5 = 58 := (bt_strOf _ 5 hl).trans rfl
  have c6 : bt (strOfNums [48 + h / 10 % 10, 48 + h % 10, 58, 48 + i / 10 % 10, 48 + i % 10, 58, 48 + s / 10 % 10, 48 + s % 10]) 6 = 48 + s / 10 % 10 := (bt_strOf _ 6 hl).trans rfl
  have c7 : bt (strOfNums [48 + h / 10 % 10, 48 + h % 10, 58, 48 + i / 10 % 10, 48 + i % 10, 58, 48 + s / 10 % 10, 48 + s % 10]) 7 = 48 + s % 10 := (bt_strOf _ 7 hl).trans rfl
  generalize strOfNums [48 + h / 10 % 10, 48 + h % 10, 58, 48 + i / 10 % 10, 48 + i % 10, 58, 48 + s / 10 % 10, 48 + s % 10] = t at *
  obtain ⟨a1, n1⟩ := rd2 (s := t) (p := 0) (n := h) (by omega) c0 c1
  obtain ⟨a2, n2⟩ := rd2 (s := t) (p := 3) (n := i) (by omega) c3 c4
  obtain ⟨a3, n3⟩ := rd2 (s := t) (p := 6) (n := s) (by omega) c6 c7
  have i1 : isB t 2 58 = true := isB_iff.2 ⟨by omega, c2⟩
  have i2 : isB t 5 58 = true := isB_iff.2 ⟨by omega, c5⟩
  have hf : frOk t 8 = true := by simp [frOk, hz]
  have hK : frK t 8 = k := by
    rw [frK, if_pos hz]
    exact hk.symm
  refine ⟨?_, n1, n2, n3, hK⟩
  show (allD t 0 2 && coV t 2 true && allD t 3 2 && coV t 5 true && allD t 6 2 && frOk t 8 && cval (numL t 0 2) (numL t 3 2) (numL t 6 2) (frK t 8)) = true
  rw [n1, n2, n3, hK, a1, a2, a3, hf, hv]
  simp [coV, i1, i2]

theorem clk_text1 {h i s k : Int} (hv : cval h i s k = true) (hk : ¬ k = 0 ∧ k % 100 = 0) : clkOk (strOfNums (clL h i s k)) true = true ∧ numL (strOfNums (clL h i s k)) 0 2 = h ∧ numL (strOfNums (clL h i s k)) 3 2 = i ∧ numL (strOfNums (clL h i s k)) 6 2 = s ∧ frK (strOfNums (clL h i s k)) 8 = k := by
  have hb := cval_bd hv
  have ef : frL k = [46, 48 + k / 100 % 10] := by
    unfold frL
    rw [if_neg hk.1, if_pos hk.2, dig1]
  have el : clL h i s k = [48 + h / 10 % 10, 48 + h % 10, 58, 48 + i / 10 % 10, 48 + i % 10, 58, 48 + s / 10 % 10, 48 + s % 10, 46, 48 + k / 100 % 10] := by
    unfold clL
    rw [ef, dig2, dig2, dig2]
    rfl
  rw [el]
  have hl : ∀ x ∈ ([48 + h / 10 % 10, 48 + h % 10, 58, 48 + i / 10 % 10, 48 + i % 10, 58, 48 + s / 10 % 10, 48 + s % 10, 46, 48 + k / 100 % 10] : List Int), 0 ≤ x ∧ x ≤ 255 := by
    intro x hx
    simp only [List.mem_cons, List.not_mem_nil, or_false] at hx
    rcases hx with rfl | rfl | rfl | rfl | rfl | rfl | rfl | rfl | rfl | rfl <;> omega
  have hz : (strOfNums [48 + h / 10 % 10, 48 + h % 10, 58, 48 + i / 10 % 10, 48 + i % 10, 58, 48 + s / 10 % 10, 48 + s % 10, 46, 48 + k / 100 % 10]).size = 10 := by rw [strOfNums_size]; rfl
  have c0 : bt (strOfNums [48 + h / 10 % 10, 48 + h % 10, 58, 48 + i / 10 % 10, 48 + i % 10, 58, 48 + s / 10 % 10, 48 + s % 10, 46, 48 + k / 100 % 10]) 0 = 48 + h / 10 % 10 := (bt_strOf _ 0 hl).trans rfl
  have c1 : bt (strOfNums [48 + h / 10 % 10, 48 + h % 10, 58, 48 + i / 10 % 10, 48 + i % 10, 58, 48 + s / 10 % 10, 48 + s % 10, 46, 48 + k / 100 % 10]) 1 = 48 + h % 10 := (bt_strOf _ 1 hl).trans rfl
  have c2 : bt (strOfNums [48 + h / 10 % 10, 48 + h % 10, 58, 48 + i / 10 % 10, 48 + i % 10, 58, 48 + s / 10 % 10, 48 + s % 10, 46, 48 + k / 100 % 10]) 2 = 58 := (bt_strOf _ 2 hl).trans rfl
  have c3 : bt (strOfNums [48 + h / 10 % 10, 48 + h % 10, 58, 48 + i / 10 % 10, 48 + i % 10, 58, 48 + s / 10 % 10, 48 + s % 10, 46, 48 + k / 100 % 10]) 3 = 48 + i / 10 % 10 := (bt_strOf _ 3 hl).trans rfl
  have c4 : bt (strOfNums [48 + h / 10 % 10, 48 + h % 10, 58, 48 + i / 10 % 10, 48 + i % 10, 58, 48 + s / 10 % 10, 48 + s % 10, 46, 48 + k / 100 % 10]) 4 = 48 + i % 10 := (bt_strOf _ 4 hl).trans rfl
  have c5 : bt (strOfNums [48 + h / 10 % 10, 48 + h % 10, 58, 48 + i / 10 % 10, 48 + i % 10, 58, 48 + s / 10 % 10, 48 + s % 10, 46, 48 + k / 100 % 10]) 5 = 58 := (bt_strOf _ 5 hl).trans rfl
  have c6 : bt (strOfNums [48 + h / 10 % 10, 48 + h % 10, 58, 48 + i / 10 % 10, 48 + i % 10, 58, 48 + s / 10 % 10, 48 + s % 10, 46, 48 + k / 100 % 10]) 6 = 48 + s / 10 % 10 := (bt_strOf _ 6 hl).trans rfl
  have c7 : bt (strOfNums [48 + h / 10 % 10, 48 + h % 10, 58, 48 + i / 10 % 10, 48 + i % 10, 58, 48 + s / 10 % 10, 48 + s % 10, 46, 48 + k / 100 % 10]) 7 = 48 + s % 10 := (bt_strOf _ 7 hl).trans rfl
  have c8 : bt (strOfNums [48 + h / 10 % 10, 48 + h % 10, 58, 48 + i / 10 % 10, 48 + i % 10, 58, 48 + s / 10 % 10, 48 + s % 10, 46, 48 + k / 100 % 10]) 8 = 46 := (bt_strOf _ 8 hl).trans rfl
  have c9 : bt (strOfNums [48 + h / 10 % 10, 48 + h % 10, 58, 48 + i / 10 % 10, 48 + i % 10, 58, 48 + s / 10 % 10, 48 + s % 10, 46, 48 + k / 100 % 10]) 9 = 48 + k / 100 % 10 := (bt_strOf _ 9 hl).trans rfl
  generalize strOfNums [48 + h / 10 % 10, 48 + h % 10, 58, 48 + i / 10 % 10, 48 + i % 10, 58, 48 + s / 10 % 10, 48 + s % 10, 46, 48 + k / 100 % 10] = t at *
  obtain ⟨a1, n1⟩ := rd2 (s := t) (p := 0) (n := h) (by omega) c0 c1
  obtain ⟨a2, n2⟩ := rd2 (s := t) (p := 3) (n := i) (by omega) c3 c4
  obtain ⟨a3, n3⟩ := rd2 (s := t) (p := 6) (n := s) (by omega) c6 c7
  have i1 : isB t 2 58 = true := isB_iff.2 ⟨by omega, c2⟩
  have i2 : isB t 5 58 = true := isB_iff.2 ⟨by omega, c5⟩
  have i3 : isB t 8 46 = true := isB_iff.2 ⟨by omega, c8⟩
  obtain ⟨a4, n4⟩ := rd1 (s := t) (p := 9) (n := k / 100) (by omega) c9
  have hm : t.size - 8 - 1 = 1 := by omega
  have hf : frOk t 8 = true := by
    unfold frOk
    rw [hm, i3, a4, Bool.and_true, Bool.true_and, Bool.or_eq_true]
    exact .inr (decide_eq_true (by omega))
  have hK : frK t 8 = k := by
    rw [frK, if_neg (by omega), hm, n4]
    show k / 100 * 100 = k
    omega
  refine ⟨?_, n1, n2, n3, hK⟩
  show (allD t 0 2 && coV t 2 true && allD t 3 2 && coV t 5 true && allD t 6 2 && frOk t 8 && cval (numL t 0 2) (numL t 3 2) (numL t 6 2) (frK t 8)) = true
  rw [n1, n2, n3, hK, a1, a2, a3, hf, hv]
  simp [coV, i1, i2]

theorem clk_text2 {h i s k : Int} (hv : cval h i s k = true) (hk : ¬ k = 0 ∧ ¬ k % 100 = 0 ∧ k % 10 = 0) : clkOk (strOfNums (clL h i s k)) true = true ∧ numL (strOfNums (clL h i s k)) 0 2 = h ∧ numL (strOfNums (clL h i s k)) 3 2 = i ∧ numL (strOfNums (clL h i s k)) 6 2 = s ∧ frK (strOfNums (clL h i s k)) 8 = k := by
  have hb := cval_bd hv
  have ef : frL k = [46, 48 + k / 10 / 10 % 10, 48 + k / 10 % 10] := by
    unfold frL
    rw [if_neg hk.1, if_neg hk.2.1, if_pos hk.2.2, dig2]
  have el : clL h i s k = [48 + h / 10 % 10, 48 + h % 10, 58, 48 + i / 10 % 10, 48 + i % 10, 58, 48 + s / 10 % 10, 48 + s % 10, 46, 48 + k / 10 / 10 % 10, 48 + k / 10 % 10] := by
    unfold clL
    rw [ef, dig2, dig2, dig2]
    rfl
  rw [el]
  have hl : ∀ x ∈ ([48 + h / 10 % 10, 48 + h % 10, 58, 48 + i / 10 % 10, 48 + i % 10, 58, 48 + s / 10 % 10, 48 + s % 10, 46, 48 + k / 10 / 10 % 10, 48 + k / 10 % 10] : List Int), 0 ≤ x ∧ x ≤ 255 := by
    intro x hx
    simp only [List.mem_cons, List.not_mem_nil, or_false] at hx
    rcases hx with rfl | rfl | rfl | rfl | rfl | rfl | rfl | rfl | rfl | rfl | rfl <;> omega
  have hz : (strOfNums [48 + h / 10 % 10, 48 + h % 10, 58, 48 + i / 10 % 10, 48 + i % 10, 58, 48 + s / 10 % 10, 48 + s % 10, 46, 48 + k / 10 / 10 % 10, 48 + k / 10 % 10]).size = 11 := by rw [strOfNums_size]; rfl
  have c0 : bt (strOfNums [48 + h / 10 % 10, 48 + h % 10, 58, 48 + i / 10 % 10, 48 + i % 10, 58, 48 + s / 10 % 10, 48 + s % 10, 46, 48 + k / 10 / 10 % 10, 48 + k / 10 % 10]) 0 = 48 + h / 10 % 10 := (bt_strOf _ 0 hl).trans rfl
  have c1 : bt (strOfNums [48 + h / 10 % 10, 48 + h % 10, 58, 48 + i / 10 % 10, 48 + i % 10, 58, 48 + s / 10 % 10, 48 + s % 10, 46, 48 + k / 10 / 10 % 10, 48 + k / 10 % 10]) 1 = 48 + h % 10 := (bt_strOf _ 1 hl).trans rfl
  have c2 : bt (strOfNums [48 + h / 10 % 10, 48 + h % 10, 58, 48 + i / 10 % 10, 48 + i % 10, 58, 48 + s / 10 % 10, 48 + s % 10, 46, 48 + k / 10 / 10 % 10, 48 + k / 10 % 10]) 2 = 58 := (bt_strOf _ 2 hl).trans rfl
  have c3 : bt (strOfNums [48 + h / 10 % 10, 48 + h % 10, 58, 48 + i / 10 % 10, 48 + i % 10, 58, 48 + s / 10 % 10, 48 + s % 10, 46, 48 + k / 10 / 10 % 10, 48 + k / 10 % 10]) 3 = 48 + i / 10 % 10 := (bt_strOf _ 3 hl).trans rfl
  have c4 : bt (strOfNums [48 + h / 10 % 10, 48 + h % 10, 58, 48 + i / 10 % 10, 48 + i % 10, 58, 48 + s / 10 % 10, 48 + s % 10, 46, 48 + k / 10 / 10 % 10, 48 + k / 10 % 10]) 4 = 48 + i % 10 := (bt_strOf _ 4 hl).trans rfl
  have c5 : bt (strOfNums [48 + h / 10 % 10, 48 + h % 10, 58, 48 + i / 10 % 10, 48 + i % 10, 58, 48 + s / 10 % 10, 48 + s % 10, 46, 48 + k / 10 / 10 % 10, 48 + k / 10 % 10]) 5 = 58 := (bt_strOf _ 5 hl).trans rfl
  have c6 : bt (strOfNums [48 + h / 10 % 10, 48 + h % 10, 58, 48 + i / 10 % 10, 48 + i % 10, 58, 48 + s / 10 % 10, 48 + s % 10, 46, 48 + k / 10 / 10 % 10, 48 + k / 10 % 10]) 6 = 48 + s / 10 % 10 := (bt_strOf _ 6 hl).trans rfl
  have c7 : bt (strOfNums [48 + h / 10 % 10, 48 + h % 10, 58, 48 + i / 10 % 10, 48 + i % 10, 58, 48 + s / 10 % 10, 48 + s % 10, 46, 48 + k / 10 / 10 % 10, 48 + k / 10 % 10]) 7 = 48 + s % 10 := (bt_strOf _ 7 hl).trans rfl
  have c8 : bt (strOfNums [48 + h / 10 % 10, 48 + h % 10, 58, 48 + i / 10 % 10, 48 + i % 10, 58, 48 + s / 10 % 10, 48 + s % 10, 46, 48 + k / 10 / 10 % 10, 48 + k / 10 % 10]) 8 = 46 := (bt_strOf _ 8 hl).trans rfl
  have c9 : bt (strOfNums [48 + h / 10 % 10, 48 + h % 10, 58, 48 + i / 10 % 10, 48 + i % 10, 58, 48 + s / 10 % 10, 48 + s % 10, 46, 48 + k / 10 / 10 % 10, 48 + k / 10 % 10]) 9 = 48 + k / 10 / 10 % 10 := (bt_strOf _ 9 hl).trans rfl
  have c10 : bt (strOfNums [48 + h / 10 % 10, 48 + h % 10, 58, 48 + i / 10 % 10, 48 + i % 10, 58, 48 + s / 10 % 10, 48 + s % 10, 46, 48 + k / 10 / 10 % 10, 48 + k / 10 % 10]) 10 = 48 + k / 10 % 10 := (bt_strOf _ 10 hl).trans rfl
  generalize strOfNums [48 + h / 10 % 10, 48 + h % 10, 58, 48 + i / 10 % 10, 48 + i % 10, 58, 48 + s / 10 % 10, 48 + s % 10, 46, 48 + k / 10 / 10 % 10, 48 + k / 10 % 10] = t at *
  obtain ⟨a1, n1⟩ := rd2 (s := t) (p := 0) (n := h) (by omega) c0 c1
  obtain ⟨a2, n2⟩ := rd2 (s := t) (p := 3) (n := i) (by omega) c3 c4
  obtain ⟨a3, n3⟩ := rd2 (s := t) (p := 6) (n := s) (by omega) c6 c7
  have i1 : isB t 2 58 = true := isB_iff.2 ⟨by omega, c2⟩
  have i2 : isB t 5 58 = true := isB_iff.2 ⟨by omega, c5⟩
  have i3 : isB t 8 46 = true := isB_iff.2 ⟨by omega, c8⟩
  obtain ⟨a4, n4⟩ := rd2 (s := t) (p := 9) (n := k / 10) (by omega) c9 c10
  have hm : t.size - 8 - 1 = 2 := by omega
  have hf : frOk t 8 = true := by
    unfold frOk
    rw [hm, i3, a4, Bool.and_true, Bool.true_and, Bool.or_eq_true]
    exact .inr (decide_eq_true (by omega))
  have hK : frK t 8 = k := by
    rw [frK, if_neg (by omega), hm, n4]
    show k / 10 * 10 = k
    omega
  refine ⟨?_, n1, n2, n3, hK⟩
  show (allD t 0 2 && coV t 2 true && allD t 3 2 && coV t 5 true && allD t 6 2 && frOk t 8 && cval (numL t 0 2) (numL t 3 2) (numL t 6 2) (frK t 8)) = true
  rw [n1, n2, n3, hK, a1, a2, a3, hf, hv]
  simp [coV, i1, i2]

theorem clk_text3 {h i s k : Int} (hv : cval h i s k = true) (hk : ¬ k = 0 ∧ ¬ k % 100 = 0 ∧ ¬ k % 10 = 0) : clkOk (strOfNums (clL h i s k)) true = true ∧ numL (strOfNums (clL h i s k)) 0 2 = h ∧ numL (strOfNums (clL h i s k)) 3 2 = i ∧ numL (strOfNums (clL h i s k)) 6 2 = s ∧ frK (strOfNums (clL h i s k)) 8 = k := by
  have hb := cval_bd hv
  have ef : frL k = [46, 48 + k / 100 % 10, 48 + k / 10 % 10, 48 + k % 10] := by
    unfold frL
    rw [if_neg hk.1, if_neg hk.2.1, if_neg hk.2.2, dig3]
  have el : clL h i s k = [48 + h / 10 % 10, 48 + h % 10, 58, 48 + i / 10 % 10, 48 + i % 10, 58, 48 + s / 10 % 10, 48 + s % 10, 46, 48 + k / 100 % 10, 48 + k / 10 % 10, 48 + k % 10] := by
    unfold clL
    rw [ef, dig2, dig2, dig2]
    rfl
  rw [el]
  have hl : ∀ x ∈ ([48 + h / 10 % 10, 48 + h % 10, 58, 48 + i / 10 % 10, 48 + i % 10, 58, 48 + s / 10 % 10, 48 + s % 10, 46, 48 + k / 100 % 10, 48 + k / 10 % 10, 48 + k % 10] : List Int), 0 ≤ x ∧ x ≤ 255 := by
    intro x hx
    simp only [List.mem_cons, List.not_mem_nil, or_false] at hx
    rcases hx with rfl | rfl | rfl | rfl | rfl | rfl | rfl | rfl | rfl | rfl | rfl | rfl <;> omega
  have hz : (strOfNums [48 + h / 10 % 10, 48 + h % 10, 58, 48 + i / 10 % 10, 48 + i % 10, 58, 48 + s / 10 % 10, 48 + s % 10, 46, 48 + k / 100 % 10, 48 + k / 10 % 10, 48 + k % 10]).size = 12 := by rw [strOfNums_size]; rfl
  have c0 : bt (strOfNums [48 + h / 10 % 10, 48 + h % 10, 58, 48 + i / 10 % 10, 48 + i % 10, 58, 48 + s / 10 % 10, 48 + s % 10, 46, 48 + k / 100 % 10, 48 + k / 10 % 10, 48 + k % 10]) 0 = 48 + h / 10 % 10 := (bt_strOf _ 0 hl).trans rfl
  have c1 : bt (strOfNums [48 + h / 10 % 10, 48 + h % 10, 58, 48 + i / 10 % 10, 48 + i % 10, 58, 48 + s / 10 % 10, 48 + s % 10, 46, 48 + k / 100 % 10, 48 + k / 10 % 10, 48 + k % 10]) 1 = 48 + h % 10 := (bt_strOf _ 1 hl).trans rfl
  have c2 : bt (strOfNums [48 + h / 10 % 10, 48 + h % 10, 58, 48 + i / 10 % 10, 48 + i % 10, 58, 48 + s / 10 % 10, 48 + s % 10, 46, 48 + k / 100 % 10, 48 + k / 10 % 10, 48 + k % 10]) 2 = 58 := (bt_strOf _ 2 hl).trans rfl
  have c3 : bt (strOfNums [48 + h / 10 % 10, 48 + h % 10, 58, 48 + i / 10 % 10, 48 + i % 10, 58, 48 + s / 10 % 10, 48 + s % 10, 46, 48 + k / 100 % 10, 48 + k / 10 % 10, 48 + k % 10]) 3 = 48 + i / 10 % 10 := (bt_strOf _ 3 hl).trans rfl
  have c4 : bt (strOfNums [48 + h / 10 % 10, 48 + h % 10, 58, 48 + i / 10 % 10, 48 + i % 10, 58, 48 + s / 10 % 10, 48 + s % 10, 46, 48 + k / 100 % 10, 48 + k / 10 % 10, 48 + k % 10]) 4 = 48 + i % 10 := (bt_strOf _ 4 hl).trans rfl
  have c5 : bt (strOfNums [48 + h / 10 % 10, 48 + h % 10, 58, 48 + i / 10 % 10, 48 + i % 10, 58, 48 + s / 10 % 10, 48 + s % 10, 46, 48 + k / 100 % 10, 48 + k / 10 % 10, 48 + k % 10]) 5 = 58 := (bt_strOf _ 5 hl).trans rfl
  have c6 : bt (strOfNums [48 + h / 10 % 10, 48 + h % 10, 58, 48 + i / 10 % 10, 48 + i % 10, 58, 48 + s / 10 % 10, 48 + s % 10, 46, 48 + k / 100 % 10, 48 + k / 10 % 10, 48 + k % 10]) 6 = 48 + s / 10 % 10 := (bt_strOf _ 6 hl).trans rfl
  have c7 : bt (strOfNums [48 + h / 10 % 10, 48 + h % 10, 58, 48 + i / 10 % 10, 48 + i % 10, 58, 48 + s / 10 % 10, 48 + s % 10, 46, 48 + k / 100 % 10, 48 + k / 10 % 10, 48 + k % 10]) 7 = 48 + s % 10 := (bt_strOf _ 7 hl).trans rfl
  have c8 : bt (strOfNums [48 + h / 10 % 10, 48 + h % 10, 58, 48 + i / 10 % 10, 48 + i % 10, 58, 48 + s / 10 % 10, 48 + s % 10, 46, 48 + k / 100 % 10, 48 + k / 10 % 10, 48 + k % 10]) 8 = 46 := (bt_strOf _ 8 hl).trans rfl
  have c9 : bt (strOfNums [48 + h / 10 % 10, 48 + h % 10, 58, 48 + i / 10 % 10, 48 + i % 10, 58, 48 + s / 10 % 10, 48 + s % 10, 46, 48 + k / 100 % 10, 48 + k / 10 % 10, 48 + k % 10]) 9 = 48 + k / 100 % 10 := (bt_strOf _ 9 hl).trans rfl
  have c10 : bt (strOfNums [48 + h / 10 % 10, 48 + h % 10, 58, 48 + i / 10 % 10, 48 + i % 10, 58, 48 + s / 10 % 10, 48 + s % 10, 46, 48 + k / 100 % 10, 48 + k / 10 % 10, 48 + k % 10]) 10 = 48 + k / 10 % 10 := (bt_strOf _ 10 hl).trans rfl
  have c11 : bt (strOfNums [48 + h / 10 % 10, 48 + h % 10, 58, 48 + i / 10 % 10, 48 + i % 10, 58, 48 + s / 10 % 10, 48 + s % 10, 46, 48 + k / 100 % 10, 48 + k / 10 % 10, 48 + k % 10]) 11 = 48 + k % 10 := (bt_strOf _ 11 hl).trans rfl
  generalize strOfNums [48 + h / 10 % 10, 48 + h % 10, 58, 48 + i / 10 % 10, 48 + i % 10, 58, 48 + s / 10 % 10, 48 + s % 10, 46, 48 + k / 100 % 10, 48 + k / 10 % 10, 48 + k % 10] = t at *
  obtain ⟨a1, n1⟩ := rd2 (s := t) (p := 0) (n := h) (by omega) c0 c1
  obtain ⟨a2, n2⟩ := rd2 (s := t) (p := 3) (n := i) (by omega) c3 c4
  obtain ⟨a3, n3⟩ := rd2 (s := t) (p := 6) (n := s) (by omega) c6 c7
  have i1 : isB t 2 58 = true := isB_iff.2 ⟨by omega, c2⟩
  have i2 : isB t 5 58 = true := isB_iff.2 ⟨by omega, c5⟩
  have i3 : isB t 8 46 = true := isB_iff.2 ⟨by omega, c8⟩
  obtain ⟨a4, n4⟩ := rd3 (s := t) (p := 9) (n := k) (by omega) c9 c10 c11
  have hm : t.size - 8 - 1 = 3 := by omega
  have hf : frOk t 8 = true := by
    unfold frOk
    rw [hm, i3, a4, Bool.and_true, Bool.true_and, Bool.or_eq_true]
    exact .inr (decide_eq_true (by omega))
  have hK : frK t 8 = k := by
    rw [frK, if_neg (by omega), hm, n4]
    show k * 1 = k
    omega
  refine ⟨?_, n1, n2, n3, hK⟩
  show (allD t 0 2 && coV t 2 true && allD t 3 2 && coV t 5 true && allD t 6 2 && frOk t 8 && cval (numL t 0 2) (numL t 3 2) (numL t 6 2) (frK t 8)) = true
  rw [n1, n2, n3, hK, a1, a2, a3, hf, hv]
  simp [coV, i1, i2]

theorem clk_text {h i s k : Int} (hv : cval h i s k = true) : clkOk (strOfNums (clL h i s k)) true = true ∧ numL (strOfNums (clL h i s k)) 0 2 = h ∧ numL (strOfNums (clL h i s k)) 3 2 = i ∧ numL (strOfNums (clL h i s k)) 6 2 = s ∧ frK (strOfNums (clL h i s k)) 8 = k := by
  by_cases h0 : k = 0
  · exact clk_text0 hv h0
  · by_cases h1 : k % 100 = 0
    · exact clk_text1 hv ⟨h0, h1⟩
    · by_cases h2 : k % 10 = 0
      · exact clk_text2 hv ⟨h0, h1, h2⟩
      · exact clk_text3 hv ⟨h0, h1, h2⟩

/-- When the text with a sign is a given one. -/
theorem ofP_iff {s : ByteArray} {o n : Int} (hn : 0 ≤ n ∧ n ≤ 1439) : strOfNums (ofP o n) = s ↔ s.size = 6 ∧ bt s 0 = (if o < 0 then 45 else 43) ∧ bt s 1 = 48 + n / 60 / 10 % 10 ∧ bt s 2 = 48 + n / 60 % 10 ∧ bt s 3 = 58 ∧ bt s 4 = 48 + n % 60 / 10 % 10 ∧ bt s 5 = 48 + n % 60 % 10 := by
  have el : ofP o n = [(if o < 0 then 45 else 43), 48 + n / 60 / 10 % 10, 48 + n / 60 % 10, 58, 48 + n % 60 / 10 % 10, 48 + n % 60 % 10] := by
    unfold ofP
    rw [dig2, dig2]
    rfl
  have hs : (0 : Int) ≤ (if o < 0 then 45 else 43) ∧ (if o < 0 then 45 else 43) ≤ (255 : Int) := by split <;> omega
  rw [el]
  generalize (if o < 0 then (45 : Int) else 43) = c at *
  have hl : ∀ x ∈ ([c, 48 + n / 60 / 10 % 10, 48 + n / 60 % 10, 58, 48 + n % 60 / 10 % 10, 48 + n % 60 % 10] : List Int), 0 ≤ x ∧ x ≤ 255 := by
    intro x hx
    simp only [List.mem_cons, List.not_mem_nil, or_false] at hx
    rcases hx with rfl | rfl | rfl | rfl | rfl | rfl <;> omega
  rw [eq_comm, eq_strOf hl]
  constructor
  · rintro ⟨h1, h2⟩
    exact ⟨h1, h2 0 (by simp), h2 1 (by simp), h2 2 (by simp), h2 3 (by simp), h2 4 (by simp), h2 5 (by simp)⟩
  · rintro ⟨h1, c0, c1, c2, c3, c4, c5⟩
    refine ⟨h1, fun i hi => ?_⟩
    have hi' : i < 6 := hi
    rcases (by omega : i = 0 ∨ i = 1 ∨ i = 2 ∨ i = 3 ∨ i = 4 ∨ i = 5) with rfl | rfl | rfl | rfl | rfl | rfl <;> assumption

/-- A text of six bytes with digits at their places. -/
theorem ofP_read {s : ByteArray} {o n : Int} (hn : 0 ≤ n ∧ n ≤ 1439) (h : strOfNums (ofP o n) = s) : s.size = 6 ∧ bt s 0 = (if o < 0 then 45 else 43) ∧ bt s 3 = 58 ∧ allD s 1 2 = true ∧ numL s 1 2 = n / 60 ∧ allD s 4 2 = true ∧ numL s 4 2 = n % 60 := by
  obtain ⟨h1, c0, c1, c2, c3, c4, c5⟩ := (ofP_iff hn).1 h
  obtain ⟨a1, n1⟩ := rd2 (s := s) (p := 1) (n := n / 60) (by omega) c1 c2
  obtain ⟨a2, n2⟩ := rd2 (s := s) (p := 4) (n := n % 60) (by omega) c4 c5
  exact ⟨h1, c0, c3, a1, n1, a2, n2⟩

theorem of_text {o : Int} (ho : inR o (-1439) 1439 = true) : ofOk (strOfNums (ofL o)) = true ∧ ofN (strOfNums (ofL o)) = o := by
  have hb := inR_true.1 ho
  by_cases h0 : o = 0
  · subst h0
    have e : ofL 0 = [90] := rfl
    rw [e]
    have hz : (strOfNums [90]).size = 1 := by rw [strOfNums_size]; rfl
    have c0 : bt (strOfNums [90]) 0 = 90 := (bt_strOf _ 0 (by intro x hx; simp only [List.mem_singleton] at hx; omega)).trans rfl
    generalize strOfNums [90] = t at *
    exact ⟨by simp [ofOk, hz, c0], by simp [ofN, hz]⟩
  · have e : ofL o = ofP o (if o < 0 then -o else o) := if_neg h0
    rw [e]
    have hn : 0 ≤ (if o < 0 then -o else o) ∧ (if o < 0 then -o else o) ≤ 1439 := by split <;> omega
    obtain ⟨hz, c0, c3, a1, n1, a2, n2⟩ := ofP_read hn rfl
    generalize strOfNums (ofP o (if o < 0 then -o else o)) = t at *
    have i3 : isB t 3 58 = true := isB_iff.2 ⟨by omega, c3⟩
    by_cases hneg : o < 0
    · rw [if_pos hneg] at c0 n1 n2
      refine ⟨?_, ?_⟩
      · unfold ofOk
        rw [hz, i3, a1, a2, n1, n2, c0]
        simp
        omega
      · unfold ofN
        rw [if_neg (by omega), if_pos c0, n1, n2]
        omega
    · rw [if_neg hneg] at c0 n1 n2
      refine ⟨?_, ?_⟩
      · unfold ofOk
        rw [hz, i3, a1, a2, n1, n2, c0]
        simp
        omega
      · unfold ofN
        rw [if_neg (by omega), if_neg (by omega), n1, n2]
        omega

theorem stL_str (y m d h i s k o : Int) : strOfNums (stL y m d h i s k o) = strOfNums (dtL y m d 0 true) ++ strOfNums [84] ++ strOfNums (clL h i s k) ++ strOfNums (ofL o) := by
  simp only [stL, strOfNums_append]

/-- **The text of a stamp is read as that stamp.** -/
theorem st_text {y m d h i s k o : Int} (hv : sval y m d h i s k o = true) : stR (strOfNums (stL y m d h i s k o)) (cutP (strOfNums (stL y m d h i s k o))) = ⟨y, m, d, h, i, s, k, o, true⟩ := by
  obtain ⟨h1, h2, h3, h4⟩ := sval_parts hv
  have ho : inR o (-1439) 1439 = true := inR_true.2 ⟨h3, h4⟩
  obtain ⟨k1, k2, k3, k4, k5⟩ := clk_text h2
  obtain ⟨o1, o2⟩ := of_text ho
  have hD := bk0 h1
  have hT := (okP0 (strOfNums (dtL y m d 0 true)))
  have hz1 : (strOfNums (dtL y m d 0 true)).size = 10 := by
    rw [strOfNums_size]
    simp [dtL, hy1, digL_length]
  have hz2 : (strOfNums [84]).size = 1 := by rw [strOfNums_size]; rfl
  have hc2 : bt (strOfNums [84]) 0 = 84 := (bt_strOf _ 0 (by intro x hx; simp only [List.mem_singleton] at hx; omega)).trans rfl
  have hzo : (strOfNums (ofL o)).size = 1 ∨ (strOfNums (ofL o)).size = 6 := by rw [strOfNums_size]; exact ofL_len o
  have hokP : okP (strOfNums (dtL y m d 0 true)) 0 = true ∧ dP (strOfNums (dtL y m d 0 true)) 0 = ⟨y, m, d, true⟩ := read0 h1
  rw [stL_str]
  generalize strOfNums (dtL y m d 0 true) = D0 at *
  generalize strOfNums [84] = T0 at *
  generalize strOfNums (clL h i s k) = C0 at *
  generalize strOfNums (ofL o) = O0 at *
  have hF := hT.1 hokP.1
  have hdd := dP0 D0 hF
  rw [hokP.2] at hdd
  have hsz : (D0 ++ T0 ++ C0 ++ O0).size = 11 + C0.size + O0.size := by
    simp only [ByteArray.size_append]
    omega
  have ex1 : (D0 ++ T0 ++ C0 ++ O0).extract 0 10 = D0 := by
    rw [ByteArray.append_assoc, ByteArray.append_assoc]
    exact ByteArray.extract_append_eq_left hz1.symm
  have ex2 : (D0 ++ T0 ++ C0 ++ O0).extract (11 + C0.size) (D0 ++ T0 ++ C0 ++ O0).size = O0 := by
    refine ByteArray.extract_append_eq_right ?_ ?_ <;> simp only [ByteArray.size_append] <;> omega
  have ex3 : (D0 ++ T0 ++ C0 ++ O0).extract 11 (11 + C0.size) = C0 := by
    rw [ByteArray.extract_append, show 11 - (D0 ++ T0 ++ C0).size = 0 by simp only [ByteArray.size_append]; omega, show 11 + C0.size - (D0 ++ T0 ++ C0).size = 0 by simp only [ByteArray.size_append]; omega]
    rw [ByteArray.extract_append_eq_right (a := D0 ++ T0) (b := C0) (by simp only [ByteArray.size_append]; omega) (by simp only [ByteArray.size_append]; omega)]
    simp
  have hten := dOk_ten (s := D0 ++ T0 ++ C0 ++ O0) (by omega)
  rw [ex1] at hten
  have hd : dOk (D0 ++ T0 ++ C0 ++ O0) = true := by rw [← hten.1, ← ok_eq D0 (by omega)]; exact hokP.1
  have hb10 : bt (D0 ++ T0 ++ C0 ++ O0) 10 = 84 := by
    have e := bt_extract (s := D0 ++ T0 ++ C0 ++ O0) (a := 10) (b := 11) (i := 0) (by omega) (by omega)
    have ex4 : (D0 ++ T0 ++ C0 ++ O0).extract 10 11 = T0 := by
      rw [ByteArray.append_assoc, ByteArray.extract_append, show 10 - (D0 ++ T0).size = 0 by simp only [ByteArray.size_append]; omega, show 11 - (D0 ++ T0).size = 0 by simp only [ByteArray.size_append]; omega]
      rw [ByteArray.extract_append_eq_right (a := D0) (b := T0) (by omega) (by omega)]
      simp
    rw [ex4] at e
    rw [← e]
    exact hc2
  have hsep : sepOk (D0 ++ T0 ++ C0 ++ O0) = true := decide_eq_true ⟨by omega, .inl hb10⟩
  have hA : stAt (D0 ++ T0 ++ C0 ++ O0) (11 + C0.size) = true := stAt_iff.2 ⟨hd, hsep, ⟨by omega, by omega⟩, by rw [ex3]; exact k1, by rw [ex2]; exact o1⟩
  rw [← stAt_cut hA, stR, if_pos hA, ex3, ex2, k2, k3, k4, k5, o2, ← hten.2.1, ← hten.2.2.1, ← hten.2.2.2]
  simp only [DR.mk.injEq] at hdd
  rw [← hdd.1, ← hdd.2.1, ← hdd.2.2.1]

/-- What counts of a text as a stamp is all but the byte between date and time. -/
theorem stAt_same {s t : ByteArray} {a : Nat} (hz : t.size = s.size) (h : ∀ i, i ≠ 10 → bt t i = bt s i) (ht : bt t 10 = 84 ∨ bt t 10 = 116 ∨ bt t 10 = 32) (hA : stAt s a = true) : stR t (cutP t) = stR s a := by
  obtain ⟨h1, h2, h3, h4, h5⟩ := stAt_iff.1 hA
  have e1 := allD_ext (s := t) (t := s) (p := 0) (q := 0) (m := 4) fun i hi => h _ (by omega)
  have e2 := allD_ext (s := t) (t := s) (p := 5) (q := 5) (m := 2) fun i hi => h _ (by omega)
  have e3 := allD_ext (s := t) (t := s) (p := 8) (q := 8) (m := 2) fun i hi => h _ (by omega)
  have ex : ∀ p q, 11 ≤ p → q ≤ s.size → t.extract p q = s.extract p q := fun p q hp hq => by
    refine bt_ext (by rw [ByteArray.size_extract, ByteArray.size_extract, hz]) fun i hi => ?_
    rw [ByteArray.size_extract] at hi
    rw [bt_extract (by omega) (by omega), bt_extract (by omega) (by omega)]
    exact h _ (by omega)
  have hB : stAt t a = true := by
    refine stAt_iff.2 ⟨?_, ?_, by omega, ?_, ?_⟩
    · obtain ⟨a1, b1, a2, b2, a3, hv⟩ := dOk_iff.1 h1
      refine dOk_iff.2 ⟨by rw [e1.1]; exact a1, ?_, by rw [e2.1]; exact a2, ?_, by rw [e3.1]; exact a3, by rw [e1.2, e2.2, e3.2]; exact hv⟩
      · rw [isB_iff, hz, h 4 (by omega)]
        exact isB_iff.1 b1
      · rw [isB_iff, hz, h 7 (by omega)]
        exact isB_iff.1 b2
    · unfold sepOk at h2 ⊢
      simp only [decide_eq_true_eq] at h2 ⊢
      exact ⟨by omega, ht⟩
    · rw [ex 11 a (by omega) h3.2]
      exact h4
    · rw [hz, ex a s.size h3.1 (Nat.le_refl _)]
      exact h5
  rw [← stAt_cut hB, stR, stR, if_pos hB, if_pos hA, e1.2, e2.2, e3.2, ex 11 a (by omega) h3.2, hz, ex a s.size h3.1 (Nat.le_refl _)]

/-- The text of a stamp, or none. -/
noncomputable def stT (y m d h i s k o : Int) : ByteArray := if sval y m d h i s k o = true then strOfNums (stL y m d h i s k o) else ⟨#[]⟩

/-- A stamp that is tidied, or none. -/
noncomputable def tdV (s : ByteArray) : Value := if (stR s (cutP s)).ok = true then .tuple #[.string (strOfNums (stL (stR s (cutP s)).y (stR s (cutP s)).m (stR s (cutP s)).d (stR s (cutP s)).h (stR s (cutP s)).i (stR s (cutP s)).s (stR s (cutP s)).k (stR s (cutP s)).o)), .bool true] else .tuple #[.string ⟨#[]⟩, .bool false]

theorem tdV_some (s : ByteArray) : ∃ (t : ByteArray) (ok : Bool), tdV s = .tuple #[.string t, .bool ok] := by
  unfold tdV
  split
  · exact ⟨_, _, rfl⟩
  · exact ⟨_, _, rfl⟩

theorem ext_ext {s : ByteArray} {a b c : Nat} (hb : b ≤ s.size) (hc : a + c ≤ b) : (s.extract a b).extract 0 c = s.extract a (a + c) := by
  refine bt_ext ?_ fun i hi => ?_
  · rw [size_ext (by rw [size_ext hb]; omega), size_ext (by omega)]
    omega
  · rw [size_ext (by rw [size_ext hb]; omega)] at hi
    rw [bt_extract (by rw [size_ext hb]; omega) (by omega), bt_extract hb (by omega), bt_extract (by omega) (by omega)]
    congr 1
    omega

theorem ext_ext2 {s : ByteArray} {a b c : Nat} (hb : b ≤ s.size) (hc : a + c ≤ b) : (s.extract a b).extract c (b - a) = s.extract (a + c) b := by
  refine bt_ext ?_ fun i hi => ?_
  · rw [size_ext (by rw [size_ext hb]; omega), size_ext hb]
    omega
  · rw [size_ext (by rw [size_ext hb]; omega)] at hi
    rw [bt_extract (by rw [size_ext hb]; omega) (by omega), bt_extract hb (by omega), bt_extract hb (by omega)]
    congr 1
    omega

end D
end Go.Proofs.YtodmpdcffnmmkaaDoor
