/- The plain mathematics of ranges: no program in sight. -/
import Derived.Test.YtmohggeeedncoaaPlain
namespace Go.Proofs.Ytmohggeeedncoaa
set_option linter.unusedVariables false
set_option linter.unusedSimpArgs false
namespace D

abbrev Rg := Int × Int
def insV (n : Int) : Bool := inR n (-86400000) 315537984000000
def rOk (r : Rg) : Bool := insV r.1 && insV r.2 && decide (r.1 < r.2)
theorem rOk_iff {r : Rg} : rOk r = true ↔ (-86400000 ≤ r.1 ∧ r.1 ≤ 315537984000000) ∧ (-86400000 ≤ r.2 ∧ r.2 ≤ 315537984000000) ∧ r.1 < r.2 := by
  simp [rOk, insV, inR, and_assoc]
def gR (A : List Rg) (i : Nat) : Rg := A.getD i (0, 0)
theorem gR_some {A : List Rg} {i : Nat} (h : i < A.length) : A[i]? = some (gR A i) := by
  simp [gR, List.getD, h]
theorem gR_mem {A : List Rg} {i : Nat} (h : i < A.length) : gR A i ∈ A := List.mem_of_getElem? (gR_some h)
/-- Up to place k the ranges are valid, ascend, and do not touch. -/
def AscTo (A : List Rg) (k : Nat) : Prop := ∀ i, i < k → rOk (gR A i) = true ∧ (0 < i → (gR A (i - 1)).2 < (gR A i).1)
instance (A : List Rg) (k : Nat) : Decidable (AscTo A k) := by unfold AscTo; infer_instance
def ascR (A : List Rg) : Bool := decide (AscTo A A.length)
def rvB (A : List Rg) : Bool := ascR A && decide (A.length ≤ 8)
theorem ascTo_succ {A : List Rg} {k : Nat} (h : AscTo A k) (h1 : rOk (gR A k) = true) (h2 : 0 < k → (gR A (k - 1)).2 < (gR A k).1) : AscTo A (k + 1) := fun i hi => by
  rcases Nat.lt_or_ge i k with h3 | h3
  · exact h i h3
  · obtain rfl : i = k := by omega
    exact ⟨h1, h2⟩
theorem asc_not {A : List Rg} {k : Nat} (hk : k < A.length) (h : ¬ (rOk (gR A k) = true ∧ (0 < k → (gR A (k - 1)).2 < (gR A k).1))) : ascR A = false := by
  simp only [ascR, decide_eq_false_iff_not]
  exact fun hh => h (hh k hk)
theorem AscTo.tail {r : Rg} {t : List Rg} (h : AscTo (r :: t) (t.length + 1)) : AscTo t t.length := fun i hi => by
  have h1 := h (i + 1) (by omega)
  refine ⟨by simpa [gR] using h1.1, fun h0 => ?_⟩
  obtain ⟨j, rfl⟩ : ∃ j, i = j + 1 := ⟨i - 1, by omega⟩
  simpa [gR] using h1.2 (by omega)
/-- Valid ranges: each lies before the next ones. -/
theorem asc_pw : ∀ {A : List Rg}, AscTo A A.length → (∀ r ∈ A, rOk r = true) ∧ A.Pairwise (fun r s => r.2 < s.1)
  | [], _ => ⟨by simp, .nil⟩
  | [r], h => ⟨by have := (h 0 (by simp)).1; simpa [gR] using this, by simp⟩
  | r :: s :: t, h => by
    have ih := asc_pw (A := s :: t) h.tail
    have h0 := (h 0 (by simp)).1
    have h1 := (h 1 (by simp)).2 (by omega)
    simp only [gR, List.getD_cons_zero, List.getD_cons_succ, Nat.sub_self] at h0 h1
    refine ⟨fun x hx => ?_, List.pairwise_cons.2 ⟨fun x hx => ?_, ih.2⟩⟩
    · rcases List.mem_cons.1 hx with rfl | hx
      · exact h0
      · exact ih.1 x hx
    · rcases List.mem_cons.1 hx with rfl | hx
      · exact h1
      · have h2 := (List.pairwise_cons.1 ih.2).1 x hx
        have h3 := rOk_iff.1 (ih.1 s (List.Mem.head _))
        omega
theorem rv_pw {A : List Rg} (h : rvB A = true) : (∀ r ∈ A, rOk r = true) ∧ A.Pairwise (fun r s => r.2 < s.1) := asc_pw (by simp only [rvB, ascR, Bool.and_eq_true, decide_eq_true_eq] at h; exact h.1)
theorem rv_len {A : List Rg} (h : rvB A = true) : A.length ≤ 8 := by simp only [rvB, Bool.and_eq_true, decide_eq_true_eq] at h; exact h.2
theorem rv_one {x : Rg} : rvB [x] = rOk x := by
  cases h : rOk x with
  | true =>
    have h1 : AscTo [x] 1 := fun i hi => by
      obtain rfl : i = 0 := by omega
      exact ⟨by simpa [gR] using h, fun h => by omega⟩
    simpa [rvB, ascR] using h1
  | false =>
    have : ascR [x] = false := asc_not (k := 0) (by simp) (by simp [gR, h])
    simp [rvB, this]

/-! ### What is left of a range -/
def woStep (hi : Int) (st : Int × List Rg) (s : Rg) : Int × List Rg := if st.1 < s.2 ∧ s.1 < hi then (s.2, if st.1 < s.1 then st.2 ++ [(st.1, s.1)] else st.2) else st
def woSt (x : Rg) (b : List Rg) (k : Nat) : Int × List Rg := (b.take k).foldl (woStep x.2) (x.1, [])
def wo (x : Rg) (b : List Rg) : List Rg := if (woSt x b b.length).1 < x.2 then (woSt x b b.length).2 ++ [((woSt x b b.length).1, x.2)] else (woSt x b b.length).2
theorem woSt_zero (x : Rg) (b : List Rg) : woSt x b 0 = (x.1, []) := rfl
theorem take_snoc {α : Type} {b : List α} {k : Nat} {x : α} (h : b[k]? = some x) : b.take (k + 1) = b.take k ++ [x] := by
  rw [List.take_add_one, h]; rfl
theorem woSt_succ {x : Rg} {b : List Rg} {k : Nat} (hk : k < b.length) : woSt x b (k + 1) = woStep x.2 (woSt x b k) (gR b k) := by
  unfold woSt
  rw [take_snoc (gR_some hk), List.foldl_append]
  rfl
theorem woStep_len (hi : Int) (st : Int × List Rg) (s : Rg) : (woStep hi st s).2.length ≤ st.2.length + 1 := by
  unfold woStep
  split
  · split <;> simp
  · simp
theorem woSt_len (x : Rg) (b : List Rg) : ∀ k, k ≤ b.length → (woSt x b k).2.length ≤ k
  | 0, _ => by simp [woSt]
  | k + 1, h => by
    rw [woSt_succ (by omega)]
    have := woSt_len x b k (by omega)
    have := woStep_len x.2 (woSt x b k) (gR b k)
    omega
theorem wo_len (x : Rg) (b : List Rg) : (wo x b).length ≤ b.length + 1 := by
  have := woSt_len x b b.length (Nat.le_refl _)
  unfold wo
  split <;> simp <;> omega
def woR (f hi : Int) : List Rg → List Rg
  | [] => if f < hi then [(f, hi)] else []
  | s :: t => if f < s.2 ∧ s.1 < hi then (if f < s.1 then [(f, s.1)] else []) ++ woR s.2 hi t else woR f hi t
theorem wo_fold (hi : Int) : ∀ (b : List Rg) (f : Int) (acc : List Rg),
    (if (b.foldl (woStep hi) (f, acc)).1 < hi then (b.foldl (woStep hi) (f, acc)).2 ++ [((b.foldl (woStep hi) (f, acc)).1, hi)] else (b.foldl (woStep hi) (f, acc)).2) = acc ++ woR f hi b
  | [], f, acc => by
    by_cases h : f < hi <;> simp [woR, h]
  | s :: t, f, acc => by
    rw [List.foldl_cons, wo_fold hi t]
    by_cases h : f < s.2 ∧ s.1 < hi
    · by_cases h2 : f < s.1 <;> simp [woR, woStep, h, h2]
    · simp [woR, woStep, h]
theorem wo_eq (x : Rg) (b : List Rg) : wo x b = woR x.1 x.2 b := by
  have := wo_fold x.2 b x.1 []
  simpa [wo, woSt] using this
theorem woR_in (hi : Int) : ∀ (b : List Rg) (f : Int), (∀ s ∈ b, s.1 < s.2) → ∀ p ∈ woR f hi b, f ≤ p.1 ∧ p.1 < p.2 ∧ p.2 ≤ hi
  | [], f, _, p, hp => by
    simp only [woR] at hp
    split at hp
    · obtain rfl : p = (f, hi) := by simpa using hp
      exact ⟨Int.le_refl _, by assumption, Int.le_refl _⟩
    · cases hp
  | s :: t, f, hb, p, hp => by
    have hs := hb s (List.Mem.head _)
    have ht := fun x hx => hb x (List.Mem.tail _ hx)
    simp only [woR] at hp
    split at hp
    · rename_i hc
      rcases List.mem_append.1 hp with hp | hp
      · split at hp
        · obtain rfl : p = (f, s.1) := by simpa using hp
          exact ⟨Int.le_refl _, by assumption, by simp only; omega⟩
        · cases hp
      · have := woR_in hi t s.2 ht p hp
        exact ⟨by omega, this.2⟩
    · exact woR_in hi t f ht p hp
theorem woR_pw (hi : Int) : ∀ (b : List Rg) (f : Int), (∀ s ∈ b, s.1 < s.2) → (woR f hi b).Pairwise (fun r s => r.2 < s.1)
  | [], f, _ => by
    simp only [woR]
    split <;> simp
  | s :: t, f, hb => by
    have hs := hb s (List.Mem.head _)
    have ht := fun x hx => hb x (List.Mem.tail _ hx)
    simp only [woR]
    split
    · refine List.pairwise_append.2 ⟨by split <;> simp, woR_pw hi t s.2 ht, fun p hp q hq => ?_⟩
      have := woR_in hi t s.2 ht q hq
      split at hp
      · obtain rfl : p = (f, s.1) := by simpa using hp
        simp only; omega
      · cases hp
    · exact woR_pw hi t f ht
theorem woR_off (hi : Int) : ∀ (b : List Rg) (f : Int), (∀ s ∈ b, s.1 < s.2) → b.Pairwise (fun r s => r.2 < s.1) → ∀ p ∈ woR f hi b, ∀ s ∈ b, s.2 ≤ p.1 ∨ p.2 ≤ s.1
  | [], f, _, _, p, _, s, hs => by cases hs
  | s :: t, f, hb, hpw, p, hp, u, hu => by
    have hs := hb s (List.Mem.head _)
    have ht := fun x hx => hb x (List.Mem.tail _ hx)
    obtain ⟨h1, h2⟩ := List.pairwise_cons.1 hpw
    have hin := woR_in hi (s :: t) f hb p hp
    simp only [woR] at hp
    split at hp
    · rename_i hc
      rcases List.mem_append.1 hp with hp | hp
      · split at hp
        · obtain rfl : p = (f, s.1) := by simpa using hp
          rcases List.mem_cons.1 hu with rfl | hu
          · exact .inr (Int.le_refl _)
          · have := h1 u hu
            exact .inr (by simp only; omega)
        · cases hp
      · have h3 := woR_in hi t s.2 ht p hp
        rcases List.mem_cons.1 hu with rfl | hu
        · exact .inl h3.1
        · exact woR_off hi t s.2 ht h2 p hp u hu
    · rename_i hc
      rcases List.mem_cons.1 hu with rfl | hu
      · omega
      · exact woR_off hi t f ht h2 p hp u hu
theorem woR_none {f hi : Int} {b : List Rg} (hb : ∀ s ∈ b, s.1 < s.2) (h : hi ≤ f) : woR f hi b = [] := by
  rcases hq : woR f hi b with _ | ⟨p, r⟩
  · rfl
  · have := woR_in hi b f hb p (by rw [hq]; exact List.Mem.head _)
    omega
theorem wo_nil (x : Rg) (h : x.1 < x.2) : wo x [] = [x] := by
  rw [wo_eq, woR, if_pos h]

/-! ### What is in both -/
def lenS : List Rg → Int
  | [] => 0
  | r :: t => (r.2 - r.1) + lenS t
theorem lenS_append : ∀ (a b : List Rg), lenS (a ++ b) = lenS a + lenS b
  | [], b => by simp [lenS]
  | r :: t, b => by
    simp only [List.cons_append, lenS, lenS_append t b]
    omega
def meet1 (x s : Rg) : List Rg := if max x.1 s.1 < min x.2 s.2 then [(max x.1 s.1, min x.2 s.2)] else []
def meetR (x : Rg) (b : List Rg) : List Rg := b.flatMap (meet1 x)
theorem meetR_cons (x s : Rg) (t : List Rg) : meetR x (s :: t) = meet1 x s ++ meetR x t := by simp [meetR]
theorem meet_shift {f f' hi : Int} (hf : f ≤ f') : ∀ {t : List Rg}, (∀ u ∈ t, f' < u.1) → meetR (f, hi) t = meetR (f', hi) t
  | [], _ => rfl
  | u :: t, h => by
    have h1 := h u (List.Mem.head _)
    rw [meetR_cons, meetR_cons, meet_shift hf (fun x hx => h x (List.Mem.tail _ hx))]
    simp only [meet1]
    have e1 : max f u.1 = u.1 := by omega
    have e2 : max f' u.1 = u.1 := by omega
    rw [e1, e2]
theorem meet_none {f hi : Int} (h : hi ≤ f) : ∀ (t : List Rg), meetR (f, hi) t = []
  | [] => rfl
  | u :: t => by
    rw [meetR_cons, meet_none h t]
    simp only [meet1]
    rw [if_neg (by omega)]
    rfl
theorem wo_total (hi : Int) : ∀ (b : List Rg) (f : Int), (∀ s ∈ b, s.1 < s.2) → b.Pairwise (fun r s => r.2 < s.1) → f ≤ hi → lenS (woR f hi b) + lenS (meetR (f, hi) b) = hi - f
  | [], f, _, _, h => by
    simp only [woR, meetR, List.flatMap_nil, lenS]
    split
    · simp [lenS]
    · simp [lenS]; omega
  | s :: t, f, hb, hpw, h => by
    have hs := hb s (List.Mem.head _)
    have ht := fun x hx => hb x (List.Mem.tail _ hx)
    obtain ⟨h1, h2⟩ := List.pairwise_cons.1 hpw
    rw [meetR_cons, lenS_append]
    simp only [woR, meet1]
    by_cases hc : f < s.2 ∧ s.1 < hi
    · rw [if_pos hc, lenS_append, meet_shift (f := f) (f' := s.2) (by omega) h1]
      by_cases he : s.2 ≤ hi
      · have ih := wo_total hi t s.2 ht h2 he
        have e1 : min hi s.2 = s.2 := by omega
        rw [e1]
        by_cases hf : f < s.1
        · have e2 : max f s.1 = s.1 := by omega
          rw [e2, if_pos hf, if_pos hs]
          simp only [lenS]
          omega
        · have e2 : max f s.1 = f := by omega
          rw [e2, if_neg hf, if_pos hc.1]
          simp only [lenS]
          omega
      · rw [woR_none ht (by omega), meet_none (by omega)]
        have e1 : min hi s.2 = hi := by omega
        rw [e1]
        by_cases hf : f < s.1
        · have e2 : max f s.1 = s.1 := by omega
          rw [e2, if_pos hf, if_pos hc.2]
          simp only [lenS]
          omega
        · have e2 : max f s.1 = f := by omega
          rw [e2, if_neg hf]
          split <;> simp only [lenS] <;> omega
    · rw [if_neg hc, if_neg (by omega)]
      have ih := wo_total hi t f ht h2 h
      simp only [lenS]
      omega
theorem meetR_in {x : Rg} {b : List Rg} {p : Rg} (hp : p ∈ meetR x b) : ∃ s ∈ b, p.1 = max x.1 s.1 ∧ p.2 = min x.2 s.2 ∧ p.1 < p.2 := by
  obtain ⟨s, hs, h⟩ := List.mem_flatMap.1 hp
  unfold meet1 at h
  split at h
  · obtain rfl : p = _ := by simpa using h
    exact ⟨s, hs, rfl, rfl, by assumption⟩
  · cases h
theorem meetR_pw (x : Rg) : ∀ (b : List Rg), b.Pairwise (fun r s => r.2 < s.1) → (meetR x b).Pairwise (fun r s => r.2 < s.1)
  | [], _ => .nil
  | s :: t, h => by
    obtain ⟨h1, h2⟩ := List.pairwise_cons.1 h
    rw [meetR_cons]
    refine List.pairwise_append.2 ⟨by unfold meet1; split <;> simp, meetR_pw x t h2, fun p hp q hq => ?_⟩
    obtain ⟨u, hu, e1, e2, _⟩ := meetR_in hq
    have := h1 u hu
    unfold meet1 at hp
    split at hp
    · obtain rfl : p = _ := by simpa using hp
      simp only; omega
    · cases hp
theorem meetR_len (x : Rg) : ∀ b : List Rg, (meetR x b).length ≤ b.length
  | [] => by simp [meetR]
  | s :: t => by
    have := meetR_len x t
    rw [meetR_cons]
    unfold meet1
    split <;> simp <;> omega

/-! ### A chain of ranges (the last one first) -/
def cadd : List Rg → Rg → List Rg
  | [], r => [r]
  | l :: t, r => if r.1 ≤ l.2 then (l.1, max l.2 r.2) :: t else r :: l :: t
def chainOf (xs : List Rg) : List Rg := xs.foldl cadd []
theorem chain_snoc (xs : List Rg) (x : Rg) : chainOf (xs ++ [x]) = cadd (chainOf xs) x := by simp [chainOf]
theorem wo_flat_len (b t : List Rg) : (t.flatMap (fun r => wo r b)).length ≤ t.length * (b.length + 1) := by
  induction t with
  | nil => simp
  | cons r t ih =>
    have := wo_len r b
    rw [List.flatMap_cons, List.length_append, List.length_cons, Nat.succ_mul]
    omega
theorem cadd_len (l : List Rg) (r : Rg) : (cadd l r).length ≤ l.length + 1 := by
  cases l with
  | nil => simp [cadd]
  | cons x t =>
    simp only [cadd]
    split <;> simp
theorem chain_fold_len : ∀ (xs acc : List Rg), (xs.foldl cadd acc).length ≤ acc.length + xs.length
  | [], acc => by simp
  | x :: t, acc => by
    have h1 := chain_fold_len t (cadd acc x)
    have h2 := cadd_len acc x
    simp only [List.foldl_cons, List.length_cons]
    omega
theorem chain_len (xs : List Rg) : (chainOf xs).length ≤ xs.length := by simpa [chainOf] using chain_fold_len xs []
theorem chain_rev : ∀ (xs acc : List Rg), (acc.reverse ++ xs).Pairwise (fun r s => r.2 < s.1) → xs.foldl cadd acc = xs.reverse ++ acc
  | [], acc, _ => by simp
  | x :: t, acc, h => by
    have hx : cadd acc x = x :: acc := by
      cases acc with
      | nil => rfl
      | cons l a =>
        have := (List.pairwise_append.1 h).2.2 l (by simp) x (List.Mem.head _)
        simp only [cadd]
        rw [if_neg (by omega)]
    rw [List.foldl_cons, hx, chain_rev t (x :: acc) (by simpa using h)]
    simp
theorem chain_pw {xs : List Rg} (h : xs.Pairwise (fun r s => r.2 < s.1)) : chainOf xs = xs.reverse := by
  have := chain_rev xs [] (by simpa using h)
  simpa [chainOf] using this
theorem flat_pw {f : Rg → List Rg} (hf : ∀ r, (f r).Pairwise (fun r s => r.2 < s.1)) (hin : ∀ r, ∀ p ∈ f r, r.1 ≤ p.1 ∧ p.2 ≤ r.2) : ∀ a : List Rg, a.Pairwise (fun r s => r.2 < s.1) → (a.flatMap f).Pairwise (fun r s => r.2 < s.1)
  | [], _ => .nil
  | r :: t, h => by
    obtain ⟨h1, h2⟩ := List.pairwise_cons.1 h
    rw [List.flatMap_cons]
    refine List.pairwise_append.2 ⟨hf r, flat_pw hf hin t h2, fun p hp q hq => ?_⟩
    obtain ⟨u, hu, hq⟩ := List.mem_flatMap.1 hq
    have := hin r p hp
    have := hin u q hq
    have := h1 u hu
    omega
/-- What is in the first ranges alone. -/
def minR (a b : List Rg) : List Rg := if rvB a = true ∧ rvB b = true then a.flatMap (fun r => wo r b) else []
/-- What is in both. -/
def meetA (a b : List Rg) : List Rg := a.flatMap (fun r => meetR r b)
theorem lt_of_rv {b : List Rg} (h : rvB b = true) : ∀ s ∈ b, s.1 < s.2 := fun s hs => (rOk_iff.1 ((rv_pw h).1 s hs)).2.2
theorem minR_pw {a b : List Rg} (ha : rvB a = true) (hb : rvB b = true) : (a.flatMap (fun r => wo r b)).Pairwise (fun r s => r.2 < s.1) := by
  refine flat_pw (fun r => ?_) (fun r p hp => ?_) a (rv_pw ha).2
  · rw [wo_eq]; exact woR_pw _ _ _ (lt_of_rv hb)
  · rw [wo_eq] at hp
    have := woR_in _ _ _ (lt_of_rv hb) p hp
    omega
theorem meetA_pw {a b : List Rg} (ha : rvB a = true) (hb : rvB b = true) : (meetA a b).Pairwise (fun r s => r.2 < s.1) := by
  refine flat_pw (fun r => meetR_pw r b (rv_pw hb).2) (fun r p hp => ?_) a (rv_pw ha).2
  obtain ⟨s, _, h1, h2, _⟩ := meetR_in hp
  omega
theorem total_eq {a b : List Rg} (ha : rvB a = true) (hb : rvB b = true) : lenS (a.flatMap (fun r => wo r b)) + lenS (meetA a b) = lenS a := by
  have hl := lt_of_rv ha
  have hl' := lt_of_rv hb
  have hp := (rv_pw hb).2
  unfold meetA
  clear ha hb
  induction a with
  | nil => simp [lenS]
  | cons r t ih =>
    have h1 := ih (fun s hs => hl s (List.Mem.tail _ hs))
    have h2 := hl r (List.Mem.head _)
    have h3 := wo_total r.2 b r.1 hl' hp (by omega)
    rw [List.flatMap_cons, List.flatMap_cons, lenS_append, lenS_append, wo_eq]
    simp only [lenS]
    have e : meetR (r.1, r.2) b = meetR r b := rfl
    rw [e] at h3
    omega
def hasR (a : List Rg) (n : Int) : Bool := a.any fun r => decide (r.1 ≤ n ∧ n < r.2)
theorem hasR_true {a : List Rg} {n : Int} : hasR a n = true ↔ ∃ r ∈ a, r.1 ≤ n ∧ n < r.2 := by simp [hasR]
theorem hasR_false {a : List Rg} {n : Int} : hasR a n = false ↔ ∀ r ∈ a, ¬ (r.1 ≤ n ∧ n < r.2) := by
  rw [← Bool.not_eq_true, hasR_true]
  simp
theorem min_has {a b : List Rg} (ha : rvB a = true) (hb : rvB b = true) {p : Rg} (hp : p ∈ a.flatMap (fun r => wo r b)) :
    p.1 < p.2 ∧ hasR a p.1 = true ∧ hasR a (p.2 - 1) = true ∧ hasR b p.1 = false ∧ hasR b (p.2 - 1) = false := by
  obtain ⟨r, hr, hp⟩ := List.mem_flatMap.1 hp
  rw [wo_eq] at hp
  have h1 := woR_in _ _ _ (lt_of_rv hb) p hp
  have h2 := woR_off _ _ _ (lt_of_rv hb) (rv_pw hb).2 p hp
  refine ⟨h1.2.1, hasR_true.2 ⟨r, hr, by omega, by omega⟩, hasR_true.2 ⟨r, hr, by omega, by omega⟩, hasR_false.2 fun s hs => ?_, hasR_false.2 fun s hs => ?_⟩
  · have := h2 s hs
    omega
  · have := h2 s hs
    omega
/-- Nothing is left of what is taken away. -/
theorem wo_self {a : List Rg} (ha : rvB a = true) {r : Rg} (hr : r ∈ a) : wo r a = [] := by
  rw [wo_eq]
  rcases hq : woR r.1 r.2 a with _ | ⟨p, t⟩
  · rfl
  · have hp : p ∈ woR r.1 r.2 a := by rw [hq]; exact List.Mem.head _
    have h1 := woR_in _ _ _ (lt_of_rv ha) p hp
    have h2 := woR_off _ _ _ (lt_of_rv ha) (rv_pw ha).2 p hp r hr
    omega
theorem min_self (a : List Rg) : minR a a = [] := by
  unfold minR
  split
  · rename_i h
    exact List.flatMap_eq_nil_iff.2 fun r hr => wo_self h.1 hr
  · rfl
theorem rv_nil : rvB [] = true := by decide
theorem min_nil {a : List Rg} (ha : rvB a = true) : minR a [] = a := by
  unfold minR
  rw [if_pos ⟨ha, rv_nil⟩]
  have hl := lt_of_rv ha
  clear ha
  induction a with
  | nil => rfl
  | cons r t ih =>
    rw [List.flatMap_cons, wo_nil r (hl r (List.Mem.head _)), ih (fun s hs => hl s (List.Mem.tail _ hs))]
    rfl
theorem minR_len (a b : List Rg) : (minR a b).length ≤ 72 := by
  unfold minR
  split
  · rename_i h
    have h1 := rv_len h.1
    have h2 := rv_len h.2
    have : ∀ t : List Rg, (t.flatMap (fun r => wo r b)).length ≤ t.length * 9 := by
      intro t
      induction t with
      | nil => simp
      | cons r t ih =>
        have := wo_len r b
        rw [List.flatMap_cons, List.length_append, List.length_cons]
        omega
    have := this a
    omega
  · simp
theorem meetA_len {a b : List Rg} (h1 : rvB a = true) (h2 : rvB b = true) : (meetA a b).length ≤ 64 := by
  have h1 := rv_len h1
  have h2 := rv_len h2
  have : ∀ t : List Rg, (meetA t b).length ≤ t.length * 8 := by
    intro t
    induction t with
    | nil => simp [meetA]
    | cons r t ih =>
      have := meetR_len r b
      unfold meetA at ih ⊢
      rw [List.flatMap_cons, List.length_append, List.length_cons]
      omega
  have := this a
  omega

theorem min_in2 {a b : List Rg} (ha : rvB a = true) (hb : rvB b = true) {p : Rg} (hp : p ∈ a.flatMap (fun r => wo r b)) : -86400000 ≤ p.1 ∧ p.1 < p.2 ∧ p.2 ≤ 315537984000000 := by
  obtain ⟨r, hr, hp⟩ := List.mem_flatMap.1 hp
  rw [wo_eq] at hp
  have h1 := woR_in _ _ _ (lt_of_rv hb) p hp
  have h2 := rOk_iff.1 ((rv_pw ha).1 r hr)
  omega
theorem min_in {a b : List Rg} (ha : rvB a = true) (hb : rvB b = true) {p : Rg} (hp : p ∈ a.flatMap (fun r => wo r b)) : -86400000 ≤ p.1 ∧ p.2 ≤ 315537984000000 := by
  have := min_in2 ha hb hp
  omega
theorem meet_in2 {a b : List Rg} (ha : rvB a = true) (hb : rvB b = true) {p : Rg} (hp : p ∈ meetA a b) : -86400000 ≤ p.1 ∧ p.1 < p.2 ∧ p.2 ≤ 315537984000000 := by
  obtain ⟨r, hr, hp⟩ := List.mem_flatMap.1 hp
  obtain ⟨s, hs, h1, h2, h3⟩ := meetR_in hp
  have h4 := rOk_iff.1 ((rv_pw ha).1 r hr)
  omega
theorem lenS_bd : ∀ {a : List Rg}, (∀ r ∈ a, 0 ≤ r.2 - r.1 ∧ r.2 - r.1 ≤ 1000000000000000) → 0 ≤ lenS a ∧ lenS a ≤ a.length * 1000000000000000
  | [], _ => by simp [lenS]
  | r :: t, h => by
    have h1 := h r (List.Mem.head _)
    have h2 := lenS_bd (a := t) (fun s hs => h s (List.Mem.tail _ hs))
    simp only [lenS, List.length_cons]
    omega
theorem lenS_snoc (a : List Rg) (r : Rg) : lenS (a ++ [r]) = lenS a + (r.2 - r.1) := by
  rw [lenS_append]; simp [lenS]
theorem meetR_snoc (x : Rg) (b : List Rg) (s : Rg) : meetR x (b ++ [s]) = meetR x b ++ meet1 x s := by simp [meetR]
theorem meetA_snoc (a b : List Rg) (x : Rg) : meetA (a ++ [x]) b = meetA a b ++ meetR x b := by simp [meetA]
theorem hasR_snoc (a : List Rg) (r : Rg) (n : Int) : hasR (a ++ [r]) n = (hasR a n || decide (r.1 ≤ n ∧ n < r.2)) := by simp [hasR]
theorem meetA_flat_len (b t : List Rg) : (meetA t b).length ≤ t.length * b.length := by
  induction t with
  | nil => simp [meetA]
  | cons r t ih =>
    have := meetR_len r b
    unfold meetA at ih ⊢
    rw [List.flatMap_cons, List.length_append, List.length_cons, Nat.succ_mul]
    omega

end D
end Go.Proofs.Ytmohggeeedncoaa
