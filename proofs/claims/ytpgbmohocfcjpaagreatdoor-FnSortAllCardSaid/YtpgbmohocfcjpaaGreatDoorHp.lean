/- Plain laws: a heap in a list; sorting by it, and by insertion. -/
import Derived.Test.YtpgbmohocfcjpaaGreatDoorPlain
import Derived.Test.YtpgbmohocfcjpaaGreatDoorIt
import Derived.Test.YtpgbmohocfcjpaaGreatDoorEg
import Derived.Test.YtpgbmohocfcjpaaGreatDoorA7
namespace Go.Proofs.YtpgbmohocfcjpaaGreatDoor
set_option linter.unusedVariables false
set_option linter.unusedSimpArgs false
namespace D

section
variable {α : Type} (d : α) (K : α → Int)

def at' (l : List α) (i : Nat) : α := l.getD i d
def swp (l : List α) (i k : Nat) : List α := (l.set i (at' d l k)).set k (at' d l i)
theorem swp_len (l : List α) (i k : Nat) : (swp d l i k).length = l.length := by simp [swp]
theorem at_swp {l : List α} {i k j : Nat} (hi : i < l.length) (hk : k < l.length) : at' d (swp d l i k) j = if j = k then at' d l i else if j = i then at' d l k else at' d l j := by
  unfold swp at'
  simp only [List.getD, List.getElem?_set, List.length_set]
  by_cases h1 : j = k
  · subst h1
    simp [hk]
  · rw [if_neg (fun h => h1 h.symm), if_neg h1]
    by_cases h2 : j = i
    · subst h2
      simp [hi]
    · rw [if_neg (fun h => h2 h.symm), if_neg h2]
theorem swp_perm {l : List α} {i k : Nat} (hi : i < l.length) (hk : k < l.length) : (swp d l i k).Perm l := by
  have e1 : at' d l i = l[i] := by simp [at', List.getD, hi]
  have e2 : at' d l k = l[k] := by simp [at', List.getD, hk]
  unfold swp
  rw [e1, e2]
  exact List.set_set_perm hi hk

def upL : Nat → List α → Nat → List α
  | 0, l, _ => l
  | f + 1, l, j => if (j - 1) / 2 = j ∨ ¬ K (at' d l j) < K (at' d l ((j - 1) / 2)) then l else upL f (swp d l ((j - 1) / 2) j) ((j - 1) / 2)
/-- Each one is not before its parent. -/
def HP (l : List α) (n : Nat) : Prop := ∀ i, 0 < i → i < n → K (at' d l ((i - 1) / 2)) ≤ K (at' d l i)
def HPx (l : List α) (n j : Nat) : Prop := (∀ i, 0 < i → i < n → i ≠ j → K (at' d l ((i - 1) / 2)) ≤ K (at' d l i)) ∧ (∀ c, 0 < c → c < n → (c - 1) / 2 = j → 0 < j → K (at' d l ((j - 1) / 2)) ≤ K (at' d l c))
theorem upL_len : ∀ (f : Nat) (l : List α) (j : Nat), (upL d K f l j).length = l.length
  | 0, l, j => rfl
  | f + 1, l, j => by
    unfold upL
    split
    · rfl
    · rw [upL_len f, swp_len]
theorem upL_perm : ∀ (f : Nat) (l : List α) (j : Nat), j < l.length → (upL d K f l j).Perm l
  | 0, l, j, _ => .refl _
  | f + 1, l, j, h => by
    unfold upL
    split
    · exact .refl _
    · exact (upL_perm f _ _ (by rw [swp_len]; omega)).trans (swp_perm d (by omega) h)
theorem upL_hp : ∀ (f : Nat) (l : List α) (j : Nat), j < f → j < l.length → HPx d K l l.length j → HP d K (upL d K f l j) l.length
  | 0, l, j, hf, _, _ => by omega
  | f + 1, l, j, hf, hj, h => by
    unfold upL
    by_cases hc : (j - 1) / 2 = j ∨ ¬ K (at' d l j) < K (at' d l ((j - 1) / 2))
    · rw [if_pos hc]
      intro i h0 hi
      by_cases e : i = j
      · subst e
        rcases hc with hc | hc <;> omega
      · exact h.1 i h0 hi e
    · rw [if_neg hc]
      have hj0 : 0 < j := by omega
      have hp : (j - 1) / 2 < j := by omega
      have hlt : K (at' d l j) < K (at' d l ((j - 1) / 2)) := by
        by_cases e : K (at' d l j) < K (at' d l ((j - 1) / 2))
        · exact e
        · exact (hc (.inr e)).elim
      have hsw : ∀ x, at' d (swp d l ((j - 1) / 2) j) x = if x = j then at' d l ((j - 1) / 2) else if x = (j - 1) / 2 then at' d l j else at' d l x := fun x => at_swp d (by omega) hj
      have hlen := swp_len d l ((j - 1) / 2) j
      have := upL_hp f (swp d l ((j - 1) / 2) j) ((j - 1) / 2) (by omega) (by rw [hlen]; omega) (by
        rw [hlen]
        refine ⟨fun i h0 hi hne => ?_, fun c h0 hi hcp hp0 => ?_⟩
        · rw [hsw, hsw]
          by_cases e1 : i = j
          · subst e1
            rw [if_pos rfl, if_neg (by omega), if_pos rfl]
            omega
          · rw [if_neg e1, if_neg hne]
            by_cases e2 : (i - 1) / 2 = j
            · rw [if_pos e2]
              exact h.2 i h0 hi e2 hj0
            · rw [if_neg e2]
              by_cases e3 : (i - 1) / 2 = (j - 1) / 2
              · rw [if_pos e3]
                have := h.1 i h0 hi e1
                rw [e3] at this
                omega
              · rw [if_neg e3]
                exact h.1 i h0 hi e1
        · rw [hsw, hsw]
          rw [if_neg (show ¬ ((j - 1) / 2 - 1) / 2 = j by omega), if_neg (show ¬ ((j - 1) / 2 - 1) / 2 = (j - 1) / 2 by omega)]
          have hpp := h.1 ((j - 1) / 2) hp0 (by omega) (by omega)
          by_cases e1 : c = j
          · rw [if_pos e1]; exact hpp
          · rw [if_neg e1, if_neg (by omega)]
            have := h.1 c h0 hi e1
            rw [hcp] at this
            omega)
      rwa [hlen] at this

/-- The child to look at. -/
def chd (l : List α) (i n : Nat) : Nat := if 2 * i + 2 < n ∧ K (at' d l (2 * i + 2)) < K (at' d l (2 * i + 1)) then 2 * i + 2 else 2 * i + 1
def downL : Nat → List α → Nat → Nat → List α
  | 0, l, _, _ => l
  | f + 1, l, i, n => if n ≤ 2 * i + 1 then l else if ¬ K (at' d l (chd d K l i n)) < K (at' d l i) then l else downL f (swp d l i (chd d K l i n)) (chd d K l i n) n
theorem chd_in {l : List α} {i n : Nat} (h : 2 * i + 1 < n) : chd d K l i n < n ∧ i < chd d K l i n ∧ (chd d K l i n - 1) / 2 = i ∧ (∀ c, 0 < c → c < n → (c - 1) / 2 = i → K (at' d l (chd d K l i n)) ≤ K (at' d l c)) := by
  unfold chd
  split
  · rename_i h2
    refine ⟨by omega, by omega, by omega, fun c h0 hc hp => ?_⟩
    rcases (by omega : c = 2 * i + 1 ∨ c = 2 * i + 2) with rfl | rfl <;> omega
  · rename_i h2
    refine ⟨by omega, by omega, by omega, fun c h0 hc hp => ?_⟩
    rcases (by omega : c = 2 * i + 1 ∨ c = 2 * i + 2) with rfl | rfl <;> omega
theorem downL_len : ∀ (f : Nat) (l : List α) (i n : Nat), (downL d K f l i n).length = l.length
  | 0, l, i, n => rfl
  | f + 1, l, i, n => by
    unfold downL
    split
    · rfl
    · split
      · rfl
      · rw [downL_len f, swp_len]
theorem downL_out : ∀ (f : Nat) (l : List α) (i n : Nat), n ≤ l.length → ∀ k, n ≤ k → at' d (downL d K f l i n) k = at' d l k
  | 0, l, i, n, _, k, _ => rfl
  | f + 1, l, i, n, hn, k, hk => by
    unfold downL
    split
    · rfl
    · split
      · rfl
      · have hc := chd_in d K (l := l) (i := i) (n := n) (by omega)
        rw [downL_out f _ _ n (by rw [swp_len]; exact hn) k hk, at_swp d (by omega) (by omega), if_neg (by omega), if_neg (by omega)]
theorem downL_perm : ∀ (f : Nat) (l : List α) (i n : Nat), n ≤ l.length → (downL d K f l i n).Perm l
  | 0, l, i, n, _ => .refl _
  | f + 1, l, i, n, hn => by
    unfold downL
    split
    · exact .refl _
    · split
      · exact .refl _
      · have hc := chd_in d K (l := l) (i := i) (n := n) (by omega)
        exact (downL_perm f _ _ n (by rw [swp_len]; exact hn)).trans (swp_perm d (by omega) (by omega))
def HPd (l : List α) (n i : Nat) : Prop := (∀ k, 0 < k → k < n → (k - 1) / 2 ≠ i → K (at' d l ((k - 1) / 2)) ≤ K (at' d l k)) ∧ (∀ c, 0 < c → c < n → (c - 1) / 2 = i → 0 < i → K (at' d l ((i - 1) / 2)) ≤ K (at' d l c))
theorem downL_hp : ∀ (f : Nat) (l : List α) (i n : Nat), n ≤ i + f → i < l.length → n ≤ l.length → HPd d K l n i → HP d K (downL d K f l i n) n
  | 0, l, i, n, hf, hi, hn, h => by
    intro k h0 hk
    unfold downL
    exact h.1 k h0 hk (by omega)
  | f + 1, l, i, n, hf, hi, hn, h => by
    unfold downL
    by_cases h1 : n ≤ 2 * i + 1
    · rw [if_pos h1]
      intro k h0 hk
      exact h.1 k h0 hk (by omega)
    · rw [if_neg h1]
      have hc := chd_in d K (l := l) (i := i) (n := n) (by omega)
      generalize chd d K l i n = j at *
      obtain ⟨c1, c2, c3, c4⟩ := hc
      by_cases h2 : ¬ K (at' d l j) < K (at' d l i)
      · rw [if_pos h2]
        intro k h0 hk
        by_cases e : (k - 1) / 2 = i
        · have := c4 k h0 hk e
          rw [e]
          omega
        · exact h.1 k h0 hk e
      · rw [if_neg h2]
        have h2' : K (at' d l j) < K (at' d l i) := by
          by_cases e : K (at' d l j) < K (at' d l i)
          · exact e
          · exact (h2 e).elim
        have hsw : ∀ x, at' d (swp d l i j) x = if x = j then at' d l i else if x = i then at' d l j else at' d l x := fun x => at_swp d hi (by omega)
        refine downL_hp f (swp d l i j) j n (by omega) (by rw [swp_len]; omega) (by rw [swp_len]; exact hn) ⟨fun k h0 hk hne => ?_, fun c h0 hk hcp hj0 => ?_⟩
        · rw [hsw, hsw]
          rw [if_neg hne]
          by_cases e1 : (k - 1) / 2 = i
          · rw [if_pos e1]
            by_cases e2 : k = j
            · rw [if_pos e2]; omega
            · rw [if_neg e2, if_neg (by omega)]
              exact c4 k h0 hk e1
          · rw [if_neg e1]
            by_cases e2 : k = j
            · subst e2; exact (e1 c3).elim
            · rw [if_neg e2]
              by_cases e3 : k = i
              · rw [if_pos e3]
                subst e3
                exact h.2 j (by omega) c1 c3 h0
              · rw [if_neg e3]
                exact h.1 k h0 hk e1
        · rw [hsw, hsw]
          rw [c3, if_neg (by omega), if_pos rfl, if_neg (by omega), if_neg (by omega)]
          have := h.1 c h0 hk (by omega)
          rwa [hcp] at this

theorem hp_min {l : List α} {n : Nat} (h : HP d K l n) : ∀ i, i < n → K (at' d l 0) ≤ K (at' d l i) := by
  intro i
  induction i using Nat.strongRecOn with
  | _ i ih =>
    intro hi
    by_cases h0 : i = 0
    · subst h0; exact Int.le_refl _
    · have h1 := h i (by omega) hi
      have h2 := ih ((i - 1) / 2) (by omega) (by omega)
      omega

/-- One more is put. -/
def pushH (l : List α) (x : α) : List α := upL d K (l.length + 1) (l ++ [x]) l.length
theorem at_app_left {l : List α} {x : α} {i : Nat} (h : i < l.length) : at' d (l ++ [x]) i = at' d l i := by simp [at', List.getD, List.getElem?_append_left h]
theorem pushH_ok {l : List α} {x : α} (h : HP d K l l.length) : HP d K (pushH d K l x) (l.length + 1) ∧ (pushH d K l x).Perm (x :: l) ∧ (pushH d K l x).length = l.length + 1 := by
  have e : (l ++ [x]).length = l.length + 1 := by simp
  refine ⟨?_, (upL_perm d K _ _ _ (by simp)).trans (List.perm_append_singleton x l), by unfold pushH; rw [upL_len, e]⟩
  have := upL_hp d K (l.length + 1) (l ++ [x]) l.length (by omega) (by simp) (by
    rw [e]
    refine ⟨fun i h0 hi hne => ?_, fun c h0 hi hcp hp0 => by omega⟩
    rw [at_app_left d (by omega), at_app_left d (by omega)]
    exact h i h0 (by omega))
  rwa [e] at this
/-- The first one is taken: what is left. -/
def popH (l : List α) : List α := (downL d K l.length (swp d l 0 (l.length - 1)) 0 (l.length - 1)).take (l.length - 1)
theorem at_take {l : List α} {n i : Nat} (h : i < n) : at' d (l.take n) i = at' d l i := by simp [at', List.getD, List.getElem?_take, h]
theorem popH_ok {l : List α} (h : HP d K l l.length) (hl : 0 < l.length) : HP d K (popH d K l) (l.length - 1) ∧ l.Perm (at' d l 0 :: popH d K l) ∧ (popH d K l).length = l.length - 1 ∧ (∀ x ∈ popH d K l, K (at' d l 0) ≤ K x) ∧
    at' d (downL d K l.length (swp d l 0 (l.length - 1)) 0 (l.length - 1)) (l.length - 1) = at' d l 0 := by
  have hs := swp_len d l 0 (l.length - 1)
  have hsw : ∀ x, at' d (swp d l 0 (l.length - 1)) x = if x = l.length - 1 then at' d l 0 else if x = 0 then at' d l (l.length - 1) else at' d l x := fun x => at_swp d hl (by omega)
  have hD := downL_len d K l.length (swp d l 0 (l.length - 1)) 0 (l.length - 1)
  rw [hs] at hD
  have hlast := downL_out d K l.length (swp d l 0 (l.length - 1)) 0 (l.length - 1) (by omega) (l.length - 1) (Nat.le_refl _)
  rw [hsw, if_pos rfl] at hlast
  have hlen : (popH d K l).length = l.length - 1 := by unfold popH; rw [List.length_take, hD]; omega
  have hperm : l.Perm (at' d l 0 :: popH d K l) := by
    have h1 : (downL d K l.length (swp d l 0 (l.length - 1)) 0 (l.length - 1)).Perm l := (downL_perm d K _ _ _ _ (by omega)).trans (swp_perm d hl (by omega))
    have h2 : downL d K l.length (swp d l 0 (l.length - 1)) 0 (l.length - 1) = popH d K l ++ [at' d l 0] := by
      unfold popH
      conv => lhs; rw [← List.take_append_drop (l.length - 1) (downL d K l.length (swp d l 0 (l.length - 1)) 0 (l.length - 1))]
      congr 1
      have h3 : l.length - 1 < (downL d K l.length (swp d l 0 (l.length - 1)) 0 (l.length - 1)).length := by omega
      rw [List.drop_eq_getElem_cons h3, List.drop_eq_nil_of_le (by omega)]
      rw [← hlast]
      simp [at', List.getD, h3]
    rw [h2] at h1
    exact h1.symm.trans (List.perm_append_singleton _ _)
  refine ⟨?_, hperm, hlen, fun x hx => ?_, hlast⟩
  · have := downL_hp d K l.length (swp d l 0 (l.length - 1)) 0 (l.length - 1) (by omega) (by omega) (by omega) ⟨fun k h0 hk hne => by
      rw [hsw, hsw, if_neg (by omega), if_neg (by omega), if_neg (by omega), if_neg (by omega)]
      exact h k h0 (by omega), fun c _ _ _ h0 => by omega⟩
    intro i h0 hi
    unfold popH
    rw [at_take d (by omega), at_take d hi]
    exact this i h0 hi
  · have hx' : x ∈ l := hperm.mem_iff.2 (List.mem_cons_of_mem _ hx)
    obtain ⟨i, hi, rfl⟩ := List.getElem_of_mem hx'
    have := hp_min d K h i hi
    simpa [at', List.getD, hi] using this

/-- All are taken in turn. -/
def popAll : Nat → List α → List α
  | 0, _ => []
  | f + 1, l => if l.length = 0 then [] else at' d l 0 :: popAll f (popH d K l)
theorem popAll_ok : ∀ (f : Nat) (l : List α), l.length ≤ f → HP d K l l.length → (popAll d K f l).Perm l ∧ (popAll d K f l).Pairwise (fun x y => K x ≤ K y)
  | 0, l, hf, h => by
    have : l = [] := List.eq_nil_of_length_eq_zero (by omega)
    subst this
    exact ⟨.refl _, .nil⟩
  | f + 1, l, hf, h => by
    unfold popAll
    by_cases h0 : l.length = 0
    · rw [if_pos h0]
      have : l = [] := List.eq_nil_of_length_eq_zero h0
      subst this
      exact ⟨.refl _, .nil⟩
    · rw [if_neg h0]
      obtain ⟨g1, g2, g3, g4, _⟩ := popH_ok d K h (by omega)
      obtain ⟨k1, k2⟩ := popAll_ok f (popH d K l) (by omega) (by rw [g3]; exact g1)
      exact ⟨(k1.cons _).trans g2.symm, List.pairwise_cons.2 ⟨fun x hx => g4 x (k1.mem_iff.1 hx), k2⟩⟩

/-- Two lists in order, with the same members and different keys, are the same. -/
theorem sorted_eq : ∀ {a b : List α}, a.Perm b → a.Pairwise (fun x y => K x ≤ K y) → b.Pairwise (fun x y => K x ≤ K y) → (∀ x ∈ a, ∀ y ∈ a, K x = K y → x = y) → a = b
  | [], b, hp, _, _, _ => (List.nil_perm.1 hp).symm
  | x :: r, [], hp, _, _, _ => by simpa using hp.length_eq
  | x :: r, y :: t, hp, ha, hb, hk => by
    obtain ⟨a1, a2⟩ := List.pairwise_cons.1 ha
    obtain ⟨b1, b2⟩ := List.pairwise_cons.1 hb
    have hy : y ∈ x :: r := hp.mem_iff.2 (List.Mem.head _)
    have hx : x ∈ y :: t := hp.mem_iff.1 (List.Mem.head _)
    have h1 : K x ≤ K y := by
      rcases List.mem_cons.1 hy with rfl | hy
      · exact Int.le_refl _
      · exact a1 y hy
    have h2 : K y ≤ K x := by
      rcases List.mem_cons.1 hx with rfl | hx
      · exact Int.le_refl _
      · exact b1 x hx
    obtain rfl := hk x (List.Mem.head _) y hy (by omega)
    rw [sorted_eq (List.Perm.cons_inv hp) a2 b2 (fun u hu v hv => hk u (List.mem_cons_of_mem _ hu) v (List.mem_cons_of_mem _ hv))]
end

end D
end Go.Proofs.YtpgbmohocfcjpaaGreatDoor

namespace Go.Proofs.YtpgbmohocfcjpaaGreatDoor
set_option linter.unusedVariables false
set_option linter.unusedSimpArgs false
set_option maxRecDepth 100000
set_option maxHeartbeats 1000000
namespace D
open Go.RowKit
attribute [local irreducible] Calls

/-- A stamp with its instant and its place. -/
abbrev Od := SR × Int × Int
abbrev oC (x : Od) : List Value := [.int .i64 x.1.y, .int .i64 x.1.m, .int .i64 x.1.d, .int .i64 x.1.h, .int .i64 x.1.i, .int .i64 x.1.s, .int .i64 x.1.k, .int .i64 x.1.o, .int .i64 x.2.1, .int .i64 x.2.2]
abbrev oD : Od := (SR.no, 0, 0)
theorem oC_one (x : Od) : ∀ u ∈ oC x, u.oneCell' = true := fun u hu => by
  simp only [oC, List.mem_cons, List.not_mem_nil, or_false] at hu
  rcases hu with rfl | rfl | rfl | rfl | rfl | rfl | rfl | rfl | rfl | rfl <;> rfl
abbrev oE : El Od := ⟨71, 10, oC, oD, fun _ => rfl, oC_one⟩
def oK (x : Od) : Int := x.2.1 * 100 + x.2.2
/-- Places are small. -/
def Pl (M : List Od) : Prop := ∀ x ∈ M, 0 ≤ x.2.2 ∧ x.2.2 ≤ 50
abbrev qB (b n c : Nat) : Blk := .cells 67 [.slice (some ⟨b, 0, none⟩) n c]
abbrev oA (M : List Od) (i : Nat) : Od := at' oD M i
theorem oE_at (M : List Od) (i : Nat) : oE.at M i = oA M i := rfl
theorem oA_pl {M : List Od} (h : Pl M) {i : Nat} (hi : i < M.length) : 0 ≤ (oA M i).2.2 ∧ (oA M i).2.2 ≤ 50 := h _ (by
  have := oE.at_mem (M := M) hi
  exact this)
theorem Pl.perm {M N : List Od} (h : Pl M) (hp : N.Perm M) : Pl N := fun x hx => h x (hp.mem_iff.1 hx)

instance : MthV Tryz.prog 65 "Len" 51 67 := ⟨fun a w => by kernel_rfl⟩
instance : MthV Tryz.prog 65 "Less" 247 67 := ⟨fun a w => by kernel_rfl⟩
instance : MthV Tryz.prog 65 "Swap" 250 67 := ⟨fun a w => by kernel_rfl⟩
instance (v : Value) : Mth Tryz.prog 65 v "Push" 249 v := ⟨fun w => by kernel_rfl⟩
instance (v : Value) : Mth Tryz.prog 65 v "Pop" 248 v := ⟨fun w => by kernel_rfl⟩

theorem a_qLen (b n c : Nat) (w : World) (hb : D.Base w) : Calls Tryz.prog 51 #[.slice (some ⟨b, 0, none⟩) n c] w fun e w' => e = .returned (.int .i64 n) ∧ Below w.heap.size w w' := by
  refine enter Tryz.func51 rfl Tryz.ntmps51 rfl (by assumption) ?_
  (repeat' (first | intro (b : Nat) | refine go ?_ | (refine br ?_ ?_ <;> first | exact trivial | intro hq)))
  (refine ret ?_; try exact rfl)

theorem oK_lt {x y : Od} (hx : 0 ≤ x.2.2 ∧ x.2.2 ≤ 50) (hy : 0 ≤ y.2.2 ∧ y.2.2 ≤ 50) : oK x < oK y ↔ (x.2.1 < y.2.1 ∨ (x.2.1 = y.2.1 ∧ x.2.2 < y.2.2)) := by
  unfold oK; omega

theorem a_qLess (b c : Nat) (M : List Od) (i k : Int) (hi : 0 ≤ i ∧ i < M.length) (hk : 0 ≤ k ∧ k < M.length) (hP : Pl M) (w : World) (hr : oE.Rd w (some ⟨b, 0, none⟩) M) (hb : D.Base w) :
    Calls Tryz.prog 247 #[.slice (some ⟨b, 0, none⟩) M.length c, .int .i64 i, .int .i64 k] w fun e w' => e = .returned (.bool (decide (oK (oA M i.toNat) < oK (oA M k.toNat)))) ∧ Below w.heap.size w w' := by
  obtain ⟨b1, o1, e1, c1⟩ := El.Rd.get oE hr hi.1 hi.2
  obtain ⟨b2, o2, e2, c2⟩ := El.Rd.get oE hr hk.1 hk.2
  cases e1
  cases e2
  have p1 := oA_pl hP (i := i.toNat) (by omega)
  have p2 := oA_pl hP (i := k.toNat) (by omega)
  rw [oE_at] at c1 c2
  generalize oA M i.toNat = x at *
  generalize oA M k.toNat = y at *
  have f1 : w.cell? ⟨b, 0 + i.toNat * 10 + 8, none⟩ = some (.int .i64 x.2.1) := c1 8 _ rfl
  have f2 : w.cell? ⟨b, 0 + i.toNat * 10 + 9, none⟩ = some (.int .i64 x.2.2) := c1 9 _ rfl
  have f3 : w.cell? ⟨b, 0 + k.toNat * 10 + 8, none⟩ = some (.int .i64 y.2.1) := c2 8 _ rfl
  have f4 : w.cell? ⟨b, 0 + k.toNat * 10 + 9, none⟩ = some (.int .i64 y.2.2) := c2 9 _ rfl
  have hlt := oK_lt p1 p2
  clear hr c1 c2 hP
  refine enter Tryz.func247 rfl Tryz.ntmps247 rfl (by assumption) ?_
  (repeat' (first | intro (b : Nat) | refine go ?_ | (refine br ?_ ?_ <;> first | exact trivial | intro hq) | refine gg ?_ | (apply C.draww (id := 1) 11 [none, none, none, none, some _, none, none, none, none, some _, none]) | (apply C.draww (id := 2) 12 [none, none, none, none, some _, none, none, none, none, some _, none, none]) | (apply C.draww (id := 3) 12 [none, none, none, none, some _, none, none, none, none, some _, none, none])))
  all_goals (refine ret ?_; try exact rfl)
  all_goals (refine congrArg Value.bool ?_; rw [Bool.eq_iff_iff]; simp only [decide_eq_true_eq]; omega)

theorem wr_oE (M : List Od) (pad : List Value) (k : Nat) (x : Od) (hk : k < M.length) : Wr (0 + k * 10) (oC x) (flat oE.fc M ++ pad) (flat oE.fc (M.set k x) ++ pad) := by
  rw [Nat.zero_add]
  exact wr_flat oE M pad k x hk

theorem a_qSwap (w0 : World) (F : SH) (q : Nat) (B : Blk) (b c : Nat) (M : List Od) (pad : List Value) (i k : Int) (hi : 0 ≤ i ∧ i < M.length) (hk : 0 ≤ k ∧ k < M.length) (w : World) (hst : St w0 ((q, B) :: (b, oE.blk M pad) :: F) w) :
    Calls Tryz.prog 250 #[.slice (some ⟨b, 0, none⟩) M.length c, .int .i64 i, .int .i64 k] w (Turns w0 (.tuple #[]) ((q, B) :: (b, oE.blk (swp oD M i.toNat k.toNat) pad) :: F)) := by
  have g1 := oE.own_at (M := M) (pad := pad) hi.1 hi.2
  have g2 := oE.own_at (M := M) (pad := pad) hk.1 hk.2
  rw [oE_at] at g1 g2
  have w1 := wr_oE M pad i.toNat (oA M k.toNat) (by omega)
  have w2 := wr_oE (M.set i.toNat (oA M k.toNat)) pad k.toNat (oA M i.toNat) (by rw [List.length_set]; omega)
  rw [show (M.set i.toNat (oA M k.toNat)).set k.toNat (oA M i.toNat) = swp oD M i.toNat k.toNat from rfl] at w2
  generalize oA M i.toNat = x at *
  generalize oA M k.toNat = y at *
  generalize swp oD M i.toNat k.toNat = N at *
  generalize M.set i.toNat y = M1 at *
  refine enterl Tryz.func250 rfl Tryz.ntmps250 rfl hst ?_
  (repeat (first | intro (b : Nat) | refine go ?_))
  ((repeat (refine C.seq ?_)); apply C.draww 13 [none, none, none, none, none, none, none, some _, none, none, none, some _, none])
  (repeat (first | intro (b : Nat) | refine gg ?_))
  (repeat (first | intro (b : Nat) | refine go ?_))
  refine L.s rfl rfl (OS.storex rfl rfl rfl (oC_one _) (by (repeat (first | exact Upd.here | apply Upd.there))) w1) ?_
  (repeat (first | intro (b : Nat) | refine go ?_))
  refine L.s rfl rfl (OS.storex rfl rfl rfl (oC_one _) (by (repeat (first | exact Upd.here | apply Upd.there))) w2) ?_
  (repeat (first | intro (b : Nat) | refine go ?_))
  (refine rettN rfl)

section
variable {P : Program} {e : Env} {w0 : World} {hs : SH} {n : Nat}
theorem rettRP {fn : Func} {rs : List ResultVar} {vs : List Value} {R : Value → SH → Prop} (Hm H : SH) (hR : R (tupleOf vs) H) (hp : Hm.Perm H) (hrs : fn.results = rs.toArray := by exact rfl) (h : RVs P n [] w0 e hs rs vs := by (repeat (first | exact RVs.nil | (apply RVs.cons; (· first | exact RV.tmp rfl | (apply RV.cellk; exact rfl; (· (repeat (first | exact List.Mem.head _ | apply List.Mem.tail))); (· (repeat (first | exact Rd.nil | apply Rd.take | apply Rd.skip)))) | (apply RV.cell1; exact rfl; (· (repeat (first | exact List.Mem.head _ | apply List.Mem.tail))); (· (repeat (first | exact Rd.nil | apply Rd.take | apply Rd.skip)))))))))
    (hs' : Hm.Sublist hs := by (repeat (first | exact List.Sublist.refl _ | apply List.Sublist.cons_cons | apply List.Sublist.cons))) : X n [] w0 (bodyPost P fn (TurnsR w0 R)) .normal e hs :=
  X.bodyN rfl hrs h fun w hst => ⟨_, _, rfl, hR, (hst.sub hs').perm hp⟩
end

theorem a_qPush (w0 : World) (F : SH) (q b c : Nat) (M : List Od) (pad : List Value) (x : Od) (hS : oE.Sf M c pad) (hl : M.length ≤ 1000) (w : World) (hst : St w0 ((q, qB b M.length c) :: (b, oE.blk M pad) :: F) w) :
    Calls Tryz.prog 249 #[.pointer (some ⟨q, 0, none⟩), .iface 71 (.agg (oC x).toArray)] w (TurnsR w0 fun v H => v = .tuple #[] ∧ ∃ b' c' pad', oE.Sf (M ++ [x]) c' pad' ∧ H = (q, qB b' (M.length + 1) c') :: (b', oE.blk (M ++ [x]) pad') :: F) := by
  refine enterl Tryz.func249 rfl Tryz.ntmps249 rfl hst ?_
  (repeat (first | intro (b : Nat) | refine go ?_))
  ((repeat (refine C.seq ?_)); apply C.draww 7 [none, none, none, some _, none, none, some _])
  (repeat (first | intro (b : Nat) | refine gg ?_))
  (repeat (first | intro (b : Nat) | refine go ?_))
  refine L.gapp oE hS (hb := by omega) (hb2 := by omega) (kk := fun b' c' pad' hS' => ?_)
  (repeat (first | intro (b : Nat) | refine go ?_))
  (refine rettRP ((b', oE.blk (M ++ [x]) pad') :: (q, qB b' (M.length + 1) c') :: F) ((q, qB b' (M.length + 1) c') :: (b', oE.blk (M ++ [x]) pad') :: F) ?_ (.swap _ _ _))
  exact ⟨rfl, b', c', pad', hS', rfl⟩

theorem a_qPop (w0 : World) (F : SH) (q b c : Nat) (M : List Od) (pad : List Value) (hl : 0 < M.length) (hl2 : M.length ≤ 1000) (hc : M.length ≤ c) (w : World) (hst : St w0 ((q, qB b M.length c) :: (b, oE.blk M pad) :: F) w) :
    Calls Tryz.prog 248 #[.pointer (some ⟨q, 0, none⟩)] w (TurnsR w0 fun v H => v = .iface 71 (.agg (oC (oA M (M.length - 1))).toArray) ∧ H = (q, qB b (M.length - 1) c) :: (b, oE.blk M pad) :: F) := by
  have g1 := oE.own_at (M := M) (pad := pad) (i := (M.length : Int) - 1) (by omega) (by omega)
  rw [oE_at] at g1
  have e1 : ((M.length : Int) - 1).toNat = M.length - 1 := by omega
  rw [show oA M (M.length - 1) = oA M ((M.length : Int) - 1).toNat by rw [e1]]
  generalize oA M ((M.length : Int) - 1).toNat = x at *
  refine enterl Tryz.func248 rfl Tryz.ntmps248 rfl hst ?_
  (repeat (first | intro (b : Nat) | refine go ?_))
  ((repeat (refine C.seq ?_)); apply C.draww 11 [none, none, some _, none, none, some _, none, none, none, some _, some _])
  (repeat (first | intro (b : Nat) | refine gg ?_))
  (repeat (first | intro (b : Nat) | refine go ?_))
  revert b; intro b9
  ((repeat (refine C.seq ?_)); apply C.draww 11 [none, none, none, some _, none, none, some _, none, none, none, none])
  (repeat (first | intro (b : Nat) | refine gg ?_))
  refine G.p rfl rfl (PV.slh rfl rfl (by omega) (by omega)) ?_
  rw [e1]
  (repeat (first | intro (b : Nat) | refine gg ?_))
  (repeat (first | intro (b : Nat) | refine go ?_))
  (refine rettR ((q, qB b (M.length - 1) c) :: (b, oE.blk M pad) :: F) ⟨rfl, rfl⟩)

/-! ### Called through the interface -/
abbrev qP (q : Nat) : Value := .pointer (some ⟨q, 0, none⟩)
abbrev qI (q : Nat) : Value := .iface 65 (qP q)

theorem q_load {w0 w : World} {F : SH} {q b n c : Nat} (hst : St w0 ((q, qB b n c) :: F) w) : (loadVar 67 ⟨q, 0, none⟩).run Tryz.prog w = .ok (.slice (some ⟨b, 0, none⟩) n c) w := run_loadVar_sc (hst.cell (List.Mem.head _) rfl)

theorem q_Len {w0 w : World} {F : SH} {q b n c : Nat} (hst : St w0 ((q, qB b n c) :: F) w) : InvM Tryz.prog 65 (qP q) "Len" [] w fun e w' => e = .returned (.int .i64 n) ∧ Below w.heap.size w w' :=
  ⟨51, .slice (some ⟨b, 0, none⟩) n c, inferInstance, MthV.get (el := 67) inferInstance (q_load hst), a_qLen b n c w hst.base⟩

theorem q_Less {w0 w : World} {F : SH} {q b c : Nat} {M : List Od} {pad : List Value} {i k : Int} (hi : 0 ≤ i ∧ i < M.length) (hk : 0 ≤ k ∧ k < M.length) (hP : Pl M) (hst : St w0 ((q, qB b M.length c) :: (b, oE.blk M pad) :: F) w) :
    InvM Tryz.prog 65 (qP q) "Less" [.int .i64 i, .int .i64 k] w fun e w' => e = .returned (.bool (decide (oK (oA M i.toNat) < oK (oA M k.toNat)))) ∧ Below w.heap.size w w' :=
  ⟨247, .slice (some ⟨b, 0, none⟩) M.length c, inferInstance, MthV.get (el := 67) inferInstance (q_load hst), a_qLess b c M i k hi hk hP w (oE.own hst (.tail _ (List.Mem.head _))) hst.base⟩

theorem q_Swap {w0 w : World} {F : SH} {q b c : Nat} {M : List Od} {pad : List Value} {i k : Int} (hi : 0 ≤ i ∧ i < M.length) (hk : 0 ≤ k ∧ k < M.length) (hst : St w0 ((q, qB b M.length c) :: (b, oE.blk M pad) :: F) w) :
    InvM Tryz.prog 65 (qP q) "Swap" [.int .i64 i, .int .i64 k] w (TurnsR w0 fun v H => v = .tuple #[] ∧ H = (q, qB b M.length c) :: (b, oE.blk (swp oD M i.toNat k.toNat) pad) :: F) :=
  ⟨250, .slice (some ⟨b, 0, none⟩) M.length c, inferInstance, MthV.get (el := 67) inferInstance (q_load hst), (a_qSwap w0 F q _ b c M pad i k hi hk w hst).mono fun e w' ⟨he, hs⟩ => ⟨_, _, he, ⟨rfl, rfl⟩, hs⟩⟩

theorem q_Push {w0 w : World} {F : SH} {q b c : Nat} {M : List Od} {pad : List Value} {x : Od} (hS : oE.Sf M c pad) (hl : M.length ≤ 1000) (hst : St w0 ((q, qB b M.length c) :: (b, oE.blk M pad) :: F) w) :
    InvM Tryz.prog 65 (qP q) "Push" [.iface 71 (.agg (oC x).toArray)] w (TurnsR w0 fun v H => v = .tuple #[] ∧ ∃ b' c' pad', oE.Sf (M ++ [x]) c' pad' ∧ H = (q, qB b' (M.length + 1) c') :: (b', oE.blk (M ++ [x]) pad') :: F) :=
  ⟨249, qP q, inferInstance, Mth.ok w, a_qPush w0 F q b c M pad x hS hl w hst⟩

theorem q_Pop {w0 w : World} {F : SH} {q b c : Nat} {M : List Od} {pad : List Value} (hl : 0 < M.length) (hl2 : M.length ≤ 1000) (hc : M.length ≤ c) (hst : St w0 ((q, qB b M.length c) :: (b, oE.blk M pad) :: F) w) :
    InvM Tryz.prog 65 (qP q) "Pop" [] w (TurnsR w0 fun v H => v = .iface 71 (.agg (oC (oA M (M.length - 1))).toArray) ∧ H = (q, qB b (M.length - 1) c) :: (b, oE.blk M pad) :: F) :=
  ⟨248, qP q, inferInstance, Mth.ok w, a_qPop w0 F q b c M pad hl hl2 hc w hst⟩

end D
end Go.Proofs.YtpgbmohocfcjpaaGreatDoor

namespace Go.Proofs.YtpgbmohocfcjpaaGreatDoor
set_option linter.unusedVariables false
set_option linter.unusedSimpArgs false
set_option maxRecDepth 100000
set_option maxHeartbeats 1000000
namespace D
open Go.RowKit
attribute [local irreducible] Calls

section
variable {P : Program} {e : Env} {w0 : World} {hs : SH} {n : Nat}
theorem rettRq {fn : Func} {rs : List ResultVar} {vs : List Value} {R : Value → SH → Prop} (H : SH) (hR : R (tupleOf vs) H) (hrs : fn.results = rs.toArray := by exact rfl) (h : RVs P n [] w0 e hs rs vs := by (repeat (first | exact RVs.nil | (apply RVs.cons; (· first | exact RV.tmp rfl | (apply RV.cellk; exact rfl; (· (repeat (first | exact List.Mem.head _ | apply List.Mem.tail))); (· (repeat (first | exact Rd.nil | apply Rd.take | apply Rd.skip)))) | (apply RV.cell1; exact rfl; (· (repeat (first | exact List.Mem.head _ | apply List.Mem.tail))); (· (repeat (first | exact Rd.nil | apply Rd.take | apply Rd.skip)))))))))
    (hs' : H.Sublist hs := by (repeat (first | exact List.Sublist.refl _ | apply List.Sublist.cons_cons | apply List.Sublist.cons))) : X n [] w0 (bodyPost P fn (TurnsR w0 R)) .normal e hs :=
  X.bodyN rfl hrs h fun w hst => ⟨_, _, rfl, hR, hst.sub hs'⟩
end

theorem upL_fuel {α : Type} (d : α) (K : α → Int) : ∀ (j f g : Nat) (l : List α), j < f → j < g → upL d K f l j = upL d K g l j := by
  intro j
  induction j using Nat.strongRecOn with
  | _ j ih =>
    intro f g l hf hg
    cases f with
    | zero => omega
    | succ f =>
      cases g with
      | zero => omega
      | succ g =>
        unfold upL
        split
        · rfl
        · rename_i h
          have hj : j ≠ 0 := fun h0 => h (.inl (by subst h0; rfl))
          exact ih ((j - 1) / 2) (by omega) f g _ (by omega) (by omega)

theorem h_up (w0 : World) (F : SH) (q b c : Nat) (M : List Od) (pad : List Value) (j : Nat) (hj : j < M.length) (hl : M.length ≤ 1000) (hP : Pl M) (w : World) (hst : St w0 ((q, qB b M.length c) :: (b, oE.blk M pad) :: F) w) :
    Calls Tryz.prog 109 #[qI q, .int .i64 (j : Int)] w (TurnsR w0 fun v H => v = .tuple #[] ∧ H = (q, qB b M.length c) :: (b, oE.blk (upL oD oK (j + 1) M j) pad) :: F) := by
  refine enterl Tryz.func109 rfl Tryz.ntmps109 rfl hst ?_
  (repeat (first | intro (b : Nat) | refine go ?_))
  refine C.loopw (Y := List Od × Nat) (fun k => [(0, qI q), (1, .int .i64 (k.2 : Int))]) (fun k => (q, qB b M.length c) :: (b, oE.blk k.1 pad) :: F) (fun k => k.1.length = M.length ∧ k.2 < M.length ∧ Pl k.1 ∧ upL oD oK (k.2 + 1) k.1 k.2 = upL oD oK (j + 1) M j) (fun k => k.2) (M, j) ⟨rfl, hj, hP, rfl⟩ (fun k hy => ?_)
  generalize k.1 = N at *
  generalize k.2 = i at *
  obtain ⟨hN, hi, hPN, hup⟩ := hy
  rw [← hup]
  by_cases h0 : i = 0
  · subst h0
    have hw0 : IntKind.i64.wrap (Int.tdiv (((0 : Nat) : Int) - 1) 2) = 0 := by decide
    have e0 : upL oD oK (0 + 1) N 0 = N := by
      unfold upL
      rw [if_pos (.inl rfl)]
    rw [e0]
    (repeat' (first | intro (b : Nat) | refine go ?_ | (refine br ?_ ?_ <;> first | exact trivial | intro hq)))
    (refine rettRN ((q, qB b M.length c) :: (b, oE.blk N pad) :: F) ⟨rfl, rfl⟩)
  · have eA : ((i : Int)).toNat = i := by omega
    have eB : (((i : Int) - 1) / 2).toNat = (i - 1) / 2 := by omega
    have hne : ¬ (i - 1) / 2 = i := by omega
    have hL : ∀ W, St w0 ((q, qB b N.length c) :: (b, oE.blk N pad) :: F) W → _ := fun W hW => q_Less (q := q) (b := b) (c := c) (M := N) (pad := pad) (F := F) (w0 := w0) (i := (i : Int)) (k := ((i : Int) - 1) / 2) (by omega) (by omega) hPN hW
    rw [eA, eB] at hL
    rw [hN] at hL
    cases hc : decide (oK (oA N i) < oK (oA N ((i - 1) / 2))) with
    | false =>
      have e0 : upL oD oK (i + 1) N i = N := by
        unfold upL
        rw [if_pos (.inr (of_decide_eq_false hc))]
      rw [e0]
      rw [hc] at hL
      (repeat' (first | intro (b : Nat) | refine go ?_ | (refine br ?_ ?_ <;> first | exact trivial | intro hq)))
      (refine L.invr (h := fun W hW => hL W hW) (k := ?_))
      (repeat' (first | intro (b : Nat) | refine go ?_ | (refine br ?_ ?_ <;> first | exact trivial | intro hq)))
      (refine rettRN ((q, qB b M.length c) :: (b, oE.blk N pad) :: F) ⟨rfl, rfl⟩)
    | true =>
      have e0 : upL oD oK (i + 1) N i = upL oD oK ((i - 1) / 2 + 1) (swp oD N ((i - 1) / 2) i) ((i - 1) / 2) := by
        conv => lhs; unfold upL
        rw [if_neg (by rintro (h | h); exact hne h; exact h (of_decide_eq_true hc))]
        exact upL_fuel _ _ _ _ _ _ (by omega) (by omega)
      rw [e0]
      rw [hc] at hL
      have hS : ∀ W, St w0 ((q, qB b N.length c) :: (b, oE.blk N pad) :: F) W → _ := fun W hW => q_Swap (q := q) (b := b) (c := c) (M := N) (pad := pad) (F := F) (w0 := w0) (i := ((i : Int) - 1) / 2) (k := (i : Int)) (by omega) (by omega) hW
      rw [eA, eB, hN] at hS
      (repeat' (first | intro (b : Nat) | refine go ?_ | (refine br ?_ ?_ <;> first | exact trivial | intro hq)))
      (refine L.invr (h := fun W hW => hL W hW) (k := ?_))
      (repeat' (first | intro (b : Nat) | refine go ?_ | (refine br ?_ ?_ <;> first | exact trivial | intro hq)))
      (refine L.invR2 q b (h := fun W hW => hS W hW) (k := ?_))
      rintro v H ⟨rfl, rfl⟩
      (repeat' (first | intro (b : Nat) | refine go ?_ | (refine br ?_ ?_ <;> first | exact trivial | intro hq)))
      refine X.roundw ((swp oD N ((i - 1) / 2) i, (i - 1) / 2)) (⟨by show (swp _ _ _ _).length = _; rw [swp_len, hN], by show (i - 1) / 2 < M.length; omega, hPN.perm (swp_perm oD (by omega) (by omega)), rfl⟩) (by show (i - 1) / 2 < i; omega)

theorem downL_fuel {α : Type} (d : α) (K : α → Int) : ∀ (f g : Nat) (l : List α) (i n : Nat), n ≤ i + f → n ≤ i + g → downL d K f l i n = downL d K g l i n := by
  intro f
  induction f with
  | zero =>
    intro g l i n h1 h2
    cases g with
    | zero => rfl
    | succ g =>
      unfold downL
      rw [if_pos (by omega)]
  | succ f ih =>
    intro g l i n h1 h2
    cases g with
    | zero =>
      unfold downL
      rw [if_pos (by omega)]
    | succ g =>
      unfold downL
      by_cases h3 : n ≤ 2 * i + 1
      · rw [if_pos h3, if_pos h3]
      · rw [if_neg h3, if_neg h3]
        have h4 := chd_in d K (l := l) (i := i) (n := n) (by omega)
        split
        · rfl
        · exact ih g _ _ _ (by omega) (by omega)

theorem h_down (w0 : World) (F : SH) (q b c : Nat) (M : List Od) (pad : List Value) (j n : Nat) (hj : j < M.length) (hn : n ≤ M.length) (hl : M.length ≤ 1000) (hP : Pl M) (w : World) (hst : St w0 ((q, qB b M.length c) :: (b, oE.blk M pad) :: F) w) :
    Calls Tryz.prog 112 #[qI q, .int .i64 (j : Int), .int .i64 (n : Int)] w (TurnsR w0 fun v H => (∃ ok, v = .bool ok) ∧ H = (q, qB b M.length c) :: (b, oE.blk (downL oD oK (n + 1) M j n) pad) :: F) := by
  refine enterl Tryz.func112 rfl Tryz.ntmps112 rfl hst ?_
  (repeat (first | intro (b : Nat) | refine go ?_))
  refine C.loopw (Y := List Od × Nat) (fun k => [(0, qI q), (1, .int .i64 (j : Int)), (2, .int .i64 (n : Int)), (6, .bool false), (7, .int .i64 (k.2 : Int))]) (fun k => (q, qB b M.length c) :: (b, oE.blk k.1 pad) :: F) (fun k => k.1.length = M.length ∧ k.2 < M.length ∧ Pl k.1 ∧ downL oD oK (n + 1) k.1 k.2 n = downL oD oK (n + 1) M j n) (fun k => n - k.2) (M, j) ⟨rfl, hj, hP, rfl⟩ (fun k hy => ?_)
  generalize k.1 = N at *
  generalize k.2 = i at *
  obtain ⟨hN, hi, hPN, hup⟩ := hy
  rw [← hup]
  by_cases h0 : n ≤ 2 * i + 1
  · have e0 : downL oD oK (n + 1) N i n = N := by
      unfold downL
      rw [if_pos h0]
    rw [e0]
    (repeat' (first | intro (b : Nat) | refine go ?_ | (refine br ?_ ?_ <;> first | exact trivial | intro hq)))
    (refine rettR ((q, qB b M.length c) :: (b, oE.blk N pad) :: F) ⟨⟨_, rfl⟩, rfl⟩)
  · have eA : (2 * (i : Int) + 1).toNat = 2 * i + 1 := by omega
    have eB : (2 * (i : Int) + 1 + 1).toNat = 2 * i + 2 := by omega
    have eC : ((i : Int)).toNat = i := by omega
    have step : ∀ ch, chd oD oK N i n = ch → (¬ oK (oA N ch) < oK (oA N i) → downL oD oK (n + 1) N i n = N) ∧ (oK (oA N ch) < oK (oA N i) → downL oD oK (n + 1) N i n = downL oD oK (n + 1) (swp oD N i ch) ch n) := fun ch hch => by
      have h4 := chd_in oD oK (l := N) (i := i) (n := n) (by omega)
      constructor
      · intro h
        conv => lhs; unfold downL
        rw [if_neg h0, if_pos (by rw [hch]; exact h)]
      · intro h
        conv => lhs; unfold downL
        rw [if_neg h0, if_neg (by rw [hch]; exact fun hh => hh h), hch]
        exact downL_fuel _ _ _ _ _ _ _ (by omega) (by omega)
    have hL1 : ∀ W, St w0 ((q, qB b N.length c) :: (b, oE.blk N pad) :: F) W → 2 * i + 2 < n → InvM Tryz.prog 65 (qP q) "Less" [.int .i64 (2 * (i : Int) + 1 + 1), .int .i64 (2 * (i : Int) + 1)] W fun e w' => e = .returned (.bool (decide (oK (oA N (2 * (i : Int) + 1 + 1).toNat) < oK (oA N (2 * (i : Int) + 1).toNat)))) ∧ Below W.heap.size W w' := fun W hW h => q_Less (by omega) (by omega) hPN hW
    have hLa : ∀ W, St w0 ((q, qB b N.length c) :: (b, oE.blk N pad) :: F) W → InvM Tryz.prog 65 (qP q) "Less" [.int .i64 (2 * (i : Int) + 1), .int .i64 (i : Int)] W fun e w' => e = .returned (.bool (decide (oK (oA N (2 * (i : Int) + 1).toNat) < oK (oA N ((i : Int)).toNat)))) ∧ Below W.heap.size W w' := fun W hW => q_Less (by omega) (by omega) hPN hW
    have hLb : ∀ W, St w0 ((q, qB b N.length c) :: (b, oE.blk N pad) :: F) W → 2 * i + 2 < n → InvM Tryz.prog 65 (qP q) "Less" [.int .i64 (2 * (i : Int) + 1 + 1), .int .i64 (i : Int)] W fun e w' => e = .returned (.bool (decide (oK (oA N (2 * (i : Int) + 1 + 1).toNat) < oK (oA N ((i : Int)).toNat)))) ∧ Below W.heap.size W w' := fun W hW h => q_Less (by omega) (by omega) hPN hW
    have hSa : ∀ W, St w0 ((q, qB b N.length c) :: (b, oE.blk N pad) :: F) W → InvM Tryz.prog 65 (qP q) "Swap" [.int .i64 (i : Int), .int .i64 (2 * (i : Int) + 1)] W (TurnsR w0 fun v H => v = .tuple #[] ∧ H = (q, qB b N.length c) :: (b, oE.blk (swp oD N ((i : Int)).toNat (2 * (i : Int) + 1).toNat) pad) :: F) := fun W hW => q_Swap (by omega) (by omega) hW
    have hSb : ∀ W, St w0 ((q, qB b N.length c) :: (b, oE.blk N pad) :: F) W → 2 * i + 2 < n → InvM Tryz.prog 65 (qP q) "Swap" [.int .i64 (i : Int), .int .i64 (2 * (i : Int) + 1 + 1)] W (TurnsR w0 fun v H => v = .tuple #[] ∧ H = (q, qB b N.length c) :: (b, oE.blk (swp oD N ((i : Int)).toNat (2 * (i : Int) + 1 + 1).toNat) pad) :: F) := fun W hW h => q_Swap (by omega) (by omega) hW
    rw [eA, eB, hN] at hL1
    rw [eA, eC, hN] at hLa
    rw [eB, eC, hN] at hLb
    rw [eA, eC, hN] at hSa
    rw [eB, eC, hN] at hSb
    by_cases h2 : 2 * i + 2 < n
    case' pos =>
      cases hc : decide (oK (oA N (2 * i + 2)) < oK (oA N (2 * i + 1))) with
      | true =>
        have hch : chd oD oK N i n = 2 * i + 2 := by
          unfold chd
          exact if_pos ⟨h2, of_decide_eq_true hc⟩
        obtain ⟨s1, s2⟩ := step _ hch
        rw [hc] at hL1
        cases hd : decide (oK (oA N (2 * i + 2)) < oK (oA N i)) with
        | false =>
          rw [s1 (of_decide_eq_false hd)]
          rw [hd] at hLb
          (repeat' (first | intro (b : Nat) | refine go ?_ | (refine br ?_ ?_ <;> first | exact trivial | intro hq)))
          (refine L.invr (h := fun W hW => hL1 W hW h2) (k := ?_))
          (repeat' (first | intro (b : Nat) | refine go ?_ | (refine br ?_ ?_ <;> first | exact trivial | intro hq)))
          (refine L.invr (h := fun W hW => hLb W hW h2) (k := ?_))
          (repeat' (first | intro (b : Nat) | refine go ?_ | (refine br ?_ ?_ <;> first | exact trivial | intro hq)))
          (refine rettR ((q, qB b M.length c) :: (b, oE.blk N pad) :: F) ⟨⟨_, rfl⟩, rfl⟩)
        | true =>
          rw [s2 (of_decide_eq_true hd)]
          rw [hd] at hLb
          (repeat' (first | intro (b : Nat) | refine go ?_ | (refine br ?_ ?_ <;> first | exact trivial | intro hq)))
          (refine L.invr (h := fun W hW => hL1 W hW h2) (k := ?_))
          (repeat' (first | intro (b : Nat) | refine go ?_ | (refine br ?_ ?_ <;> first | exact trivial | intro hq)))
          (refine L.invr (h := fun W hW => hLb W hW h2) (k := ?_))
          (repeat' (first | intro (b : Nat) | refine go ?_ | (refine br ?_ ?_ <;> first | exact trivial | intro hq)))
          (refine L.invR2 q b (h := fun W hW => hSb W hW h2) (k := ?_))
          rintro v H ⟨rfl, rfl⟩
          (repeat' (first | intro (b : Nat) | refine go ?_ | (refine br ?_ ?_ <;> first | exact trivial | intro hq)))
          refine X.roundw ((swp oD N i (2 * i + 2), 2 * i + 2)) (⟨by show (swp _ _ _ _).length = _; rw [swp_len, hN], by show 2 * i + 2 < M.length; omega, hPN.perm (swp_perm oD (by omega) (by omega)), rfl⟩) (by show n - (2 * i + 2) < n - i; omega)
      | false =>
        have hch : chd oD oK N i n = 2 * i + 1 := by
          unfold chd
          exact if_neg fun h => of_decide_eq_false hc h.2
        obtain ⟨s1, s2⟩ := step _ hch
        rw [hc] at hL1
        cases hd : decide (oK (oA N (2 * i + 1)) < oK (oA N i)) with
        | false =>
          rw [s1 (of_decide_eq_false hd)]
          rw [hd] at hLa
          (repeat' (first | intro (b : Nat) | refine go ?_ | (refine br ?_ ?_ <;> first | exact trivial | intro hq)))
          (refine L.invr (h := fun W hW => hL1 W hW h2) (k := ?_))
          (repeat' (first | intro (b : Nat) | refine go ?_ | (refine br ?_ ?_ <;> first | exact trivial | intro hq)))
          (refine L.invr (h := fun W hW => hLa W hW) (k := ?_))
          (repeat' (first | intro (b : Nat) | refine go ?_ | (refine br ?_ ?_ <;> first | exact trivial | intro hq)))
          (refine rettR ((q, qB b M.length c) :: (b, oE.blk N pad) :: F) ⟨⟨_, rfl⟩, rfl⟩)
        | true =>
          rw [s2 (of_decide_eq_true hd)]
          rw [hd] at hLa
          (repeat' (first | intro (b : Nat) | refine go ?_ | (refine br ?_ ?_ <;> first | exact trivial | intro hq)))
          (refine L.invr (h := fun W hW => hL1 W hW h2) (k := ?_))
          (repeat' (first | intro (b : Nat) | refine go ?_ | (refine br ?_ ?_ <;> first | exact trivial | intro hq)))
          (refine L.invr (h := fun W hW => hLa W hW) (k := ?_))
          (repeat' (first | intro (b : Nat) | refine go ?_ | (refine br ?_ ?_ <;> first | exact trivial | intro hq)))
          (refine L.invR2 q b (h := fun W hW => hSa W hW) (k := ?_))
          rintro v H ⟨rfl, rfl⟩
          (repeat' (first | intro (b : Nat) | refine go ?_ | (refine br ?_ ?_ <;> first | exact trivial | intro hq)))
          refine X.roundw ((swp oD N i (2 * i + 1), 2 * i + 1)) (⟨by show (swp _ _ _ _).length = _; rw [swp_len, hN], by show 2 * i + 1 < M.length; omega, hPN.perm (swp_perm oD (by omega) (by omega)), rfl⟩) (by show n - (2 * i + 1) < n - i; omega)
    case' neg =>
      have hch : chd oD oK N i n = 2 * i + 1 := by
        unfold chd
        exact if_neg fun h => h2 h.1
      obtain ⟨s1, s2⟩ := step _ hch
      cases hd : decide (oK (oA N (2 * i + 1)) < oK (oA N i)) with
      | false =>
        rw [s1 (of_decide_eq_false hd)]
        rw [hd] at hLa
        (repeat' (first | intro (b : Nat) | refine go ?_ | (refine br ?_ ?_ <;> first | exact trivial | intro hq)))
        (refine L.invr (h := fun W hW => hLa W hW) (k := ?_))
        (repeat' (first | intro (b : Nat) | refine go ?_ | (refine br ?_ ?_ <;> first | exact trivial | intro hq)))
        (refine rettR ((q, qB b M.length c) :: (b, oE.blk N pad) :: F) ⟨⟨_, rfl⟩, rfl⟩)
      | true =>
        rw [s2 (of_decide_eq_true hd)]
        rw [hd] at hLa
        (repeat' (first | intro (b : Nat) | refine go ?_ | (refine br ?_ ?_ <;> first | exact trivial | intro hq)))
        (refine L.invr (h := fun W hW => hLa W hW) (k := ?_))
        (repeat' (first | intro (b : Nat) | refine go ?_ | (refine br ?_ ?_ <;> first | exact trivial | intro hq)))
        (refine L.invR2 q b (h := fun W hW => hSa W hW) (k := ?_))
        rintro v H ⟨rfl, rfl⟩
        (repeat' (first | intro (b : Nat) | refine go ?_ | (refine br ?_ ?_ <;> first | exact trivial | intro hq)))
        refine X.roundw ((swp oD N i (2 * i + 1), 2 * i + 1)) (⟨by show (swp _ _ _ _).length = _; rw [swp_len, hN], by show 2 * i + 1 < M.length; omega, hPN.perm (swp_perm oD (by omega) (by omega)), rfl⟩) (by show n - (2 * i + 1) < n - i; omega)

end D
end Go.Proofs.YtpgbmohocfcjpaaGreatDoor

namespace Go.Proofs.YtpgbmohocfcjpaaGreatDoor
set_option linter.unusedVariables false
set_option linter.unusedSimpArgs false
set_option maxRecDepth 100000
set_option maxHeartbeats 1000000
namespace D
open Go.RowKit
attribute [local irreducible] Calls

section
variable {P : Program} {n : Nat} {ds : List Deferred} {w0 : World} {hs : SH} {e : Env} {ops : List Oper} {Q : Exit → Act → World → Prop} {l : List Oper} {d : Option Tmp} {ty : TypeId} {pos : String} {af : Array Edge} {g : Option (Nat × Bool)}
variable {α : Type} (E : El α)
/-- A first element, which lies in a block of its own. -/
theorem L.gapp0 {t bytes : Nat} [i : Ap P t E.T E.sz bytes] {x : α} {b1 c1 : Nat} {T' : TypeId} {xa : List Operand}
    (hw : wantE ops e ⟨d, .call ⟨.builtin .append, xa.toArray, #[t, t]⟩, ty, pos, af, g⟩ = some true := by exact rfl) (hd : dstOk n d = true := by exact rfl) (hv : evs e xa = some [.slice none 0 0, .slice (some ⟨b1, 0, none⟩) 1 c1] := by exact rfl)
    (hm : (b1, Blk.cells T' (E.fc x)) ∈ hs := by (repeat (first | exact List.Mem.head _ | apply List.Mem.tail))) (hb : 1 * bytes ≤ 140737488355328)
    (kk : ∀ (b' c' : Nat) (pad' : List Value), E.Sf [x] c' pad' → L P n ds w0 ops Q l (consE d (.slice (some ⟨b', 0, none⟩) 1 c') e) ((b', E.blk [x] pad') :: hs)) : L P n ds w0 ops Q (⟨d, .call ⟨.builtin .append, xa.toArray, #[t, t]⟩, ty, pos, af, g⟩ :: l) e hs := by
  refine L.app (us := E.fc x) (k := 0) (xs := []) (H := []) (F := hs) (c := c1) (b := b1) (o := 0) (m := 1) (.inl ⟨rfl, rfl, rfl, rfl⟩) hw hd hv (by simpa using Tail.of' (H := []) hs) (fun w hst j u hj => by rw [Nat.zero_add]; exact hst.cell hm hj) (by rw [E.len, Nat.one_mul]) (E.one x) (by simpa using hb) (by omega) fun v' H' hS' => ?_
  rw [show [] ++ E.fc x = flat E.fc [x] by simp [flat]] at hS'
  obtain ⟨b', c', pad', rfl, rfl, hR⟩ := E.of_sls (M := [x]) (by simp) hS'
  have := kk b' c' pad' hR
  exact L.perm' (List.perm_append_singleton _ _) this
end

theorem a_qPush0 (w0 : World) (F : SH) (q : Nat) (x : Od) (w : World) (hst : St w0 ((q, .cells 67 [.slice none 0 0]) :: F) w) :
    Calls Tryz.prog 249 #[.pointer (some ⟨q, 0, none⟩), .iface 71 (.agg (oC x).toArray)] w (TurnsR w0 fun v H => v = .tuple #[] ∧ ∃ b' c' pad', oE.Sf [x] c' pad' ∧ H = (q, qB b' 1 c') :: (b', oE.blk [x] pad') :: F) := by
  refine enterl Tryz.func249 rfl Tryz.ntmps249 rfl hst ?_
  (repeat (first | intro (b : Nat) | refine go ?_))
  ((repeat (refine C.seq ?_)); apply C.draww 7 [none, none, none, some _, none, none, some _])
  (repeat (first | intro (b : Nat) | refine gg ?_))
  (repeat (first | intro (b : Nat) | refine go ?_))
  refine L.gapp0 oE (hb := by omega) (kk := fun b' c' pad' hS' => ?_)
  (repeat (first | intro (b : Nat) | refine go ?_))
  (refine rettRP ((b', oE.blk [x] pad') :: (q, qB b' 1 c') :: F) ((q, qB b' 1 c') :: (b', oE.blk [x] pad') :: F) ?_ (.swap _ _ _))
  exact ⟨rfl, b', c', pad', hS', rfl⟩

theorem q_Push0 {w0 w : World} {F : SH} {q : Nat} {x : Od} (hst : St w0 ((q, .cells 67 [.slice none 0 0]) :: F) w) :
    InvM Tryz.prog 65 (qP q) "Push" [.iface 71 (.agg (oC x).toArray)] w (TurnsR w0 fun v H => v = .tuple #[] ∧ ∃ b' c' pad', oE.Sf [x] c' pad' ∧ H = (q, qB b' 1 c') :: (b', oE.blk [x] pad') :: F) :=
  ⟨249, qP q, inferInstance, Mth.ok w, a_qPush0 w0 F q x w hst⟩

section
variable {P : Program} {e : Env} {w0 : World} {hs : SH} {d : Option Tmp} {ty : TypeId} {pos : String} {af : Array Edge} {g : Option (Nat × Bool)}
variable {n : Nat} {ds : List Deferred} {ops : List Oper} {Q : Exit → Act → World → Prop} {l : List Oper}
/-- A call through an interface that turns one block. -/
theorem L.invR1 (b1 : Nat) {x : Operand} {xs : List Operand} {ts : Array TypeId} {t : TypeId} {name : String} {u : Value} {vs : List Value} {T1 : TypeId} {us1 : List Value} {F : SH} {R : Value → SH → Prop} (hw : wantE ops e ⟨d, .call ⟨.invoke x name, xs.toArray, ts⟩, ty, pos, af, g⟩ = some true := by exact rfl) (hd : dstOk n d = true := by exact rfl)
    (hx : ev e x = some (.iface t u) := by exact rfl) (hv : evs e xs = some vs := by exact rfl) (hp1 : Pull (b1, .cells T1 us1) hs F := by (repeat (first | exact Pull.here | apply Pull.there)))
    (h : ∀ w, St w0 ((b1, .cells T1 us1) :: F) w → InvM P t u name vs w (TurnsR w0 R)) (k : ∀ v H, R v H → L P n ds w0 ops Q l (consE d v e) H) : L P n ds w0 ops Q (⟨d, .call ⟨.invoke x name, xs.toArray, ts⟩, ty, pos, af, g⟩ :: l) e hs :=
  L.does (Y := Value × SH) (Φ := fun y => R y.1 y.2) (V := fun y => y.1) (H := fun y => y.2) hw hd (fun a w ha hst => by
    obtain ⟨f, r, h1, h2, h3⟩ := h w (hst.perm hp1.perm)
    unfold Does
    rw [run_invr h1 h2 ha.fits hx hv]
    simpa using Calls.mono h3 fun e' w' ⟨v, H, he, hR, hs'⟩ => ⟨v, he, v, H, hR, rfl, hs'⟩) fun y hy => k y.1 y.2 hy
/-- A call that turns two blocks. -/
theorem L.tcallR2 (b1 b2 : Nat) {f : FuncId} {xs : List Operand} {ts : Array TypeId} {vs : List Value} {T1 T2 : TypeId} {us1 us2 : List Value} {F1 F : SH} {R : Value → SH → Prop} [j : Ent P f] (hw : wantE ops e ⟨d, .call ⟨.value (.func f), xs.toArray, ts⟩, ty, pos, af, g⟩ = some true := by exact rfl) (hd : dstOk n d = true := by exact rfl)
    (hv : evs e xs = some vs := by exact rfl) (hp1 : Pull (b1, .cells T1 us1) hs F1 := by (repeat (first | exact Pull.here | apply Pull.there))) (hp2 : Pull (b2, .cells T2 us2) F1 F := by (repeat (first | exact Pull.here | apply Pull.there)))
    (h : ∀ w, St w0 ((b1, .cells T1 us1) :: (b2, .cells T2 us2) :: F) w → Calls P f vs.toArray w (TurnsR w0 R)) (k : ∀ v H, R v H → L P n ds w0 ops Q l (consE d v e) H) : L P n ds w0 ops Q (⟨d, .call ⟨.value (.func f), xs.toArray, ts⟩, ty, pos, af, g⟩ :: l) e hs :=
  L.does (Y := Value × SH) (Φ := fun y => R y.1 y.2) (V := fun y => y.1) (H := fun y => y.2) hw hd (fun a w ha hst => by
    unfold Does
    rw [run_call ha.fits rfl hv]
    simpa using Calls.mono (h w (hst.perm (hp1.perm.trans (hp2.perm.cons _)))) fun e' w' ⟨v, H, he, hR, hs'⟩ => ⟨v, he, v, H, hR, rfl, hs'⟩) fun y hy => k y.1 y.2 hy
end

theorem Sf_same {M N : List Od} {c : Nat} {pad : List Value} (h : oE.Sf M c pad) (hl : N.length = M.length) : oE.Sf N c pad := by
  refine ⟨by rw [hl]; exact h.le, h.lt, ?_⟩
  have h1 := h.len
  have h2 := flat_length oE.len M
  have h3 := flat_length oE.len N
  rw [List.length_append] at h1 ⊢
  rw [hl] at h3
  omega

theorem h_Push (w0 : World) (F : SH) (q b c : Nat) (M : List Od) (pad : List Value) (x : Od) (hS : oE.Sf M c pad) (hl : M.length ≤ 900) (hP : Pl (M ++ [x])) (w : World) (hst : St w0 ((q, qB b M.length c) :: (b, oE.blk M pad) :: F) w) :
    Calls Tryz.prog 49 #[qI q, .iface 71 (.agg (oC x).toArray)] w (TurnsR w0 fun v H => v = .tuple #[] ∧ ∃ b' c' pad', oE.Sf (pushH oD oK M x) c' pad' ∧ H = (q, qB b' (M.length + 1) c') :: (b', oE.blk (pushH oD oK M x) pad') :: F) := by
  refine enterl Tryz.func49 rfl Tryz.ntmps49 rfl hst ?_
  (repeat (first | intro (b : Nat) | refine go ?_))
  (refine L.invR2 q b (h := fun W hW => q_Push hS (by omega) hW) (k := ?_))
  rintro v H ⟨rfl, b', c', pad', hS', rfl⟩
  (repeat (first | intro (b : Nat) | refine go ?_))
  (refine L.invr (h := fun W hW => q_Len hW) (k := ?_))
  (repeat (first | intro (b : Nat) | refine go ?_))
  have e1 : M.length + 1 = (M ++ [x]).length := by simp
  have hU := h_up w0 F q b' c' (M ++ [x]) pad' M.length (by omega) (by omega) hP
  rw [← e1] at hU
  have e2 : ((M.length + 1 : Nat) : Int) - 1 = (M.length : Int) := by omega
  rw [e2]
  (refine L.tcallR2 q b' (h := fun W hW => hU W hW) (k := ?_))
  rintro v H ⟨rfl, rfl⟩
  (repeat (first | intro (b : Nat) | refine go ?_))
  (refine rettRN ((q, qB b' (M.length + 1) c') :: (b', oE.blk (pushH oD oK M x) pad') :: F) ⟨rfl, b', c', pad', ?_, rfl⟩)
  exact Sf_same hS' (upL_len oD oK _ _ _)

/-- The first one. -/
theorem h_Push0 (w0 : World) (F : SH) (q : Nat) (x : Od) (hP : Pl [x]) (w : World) (hst : St w0 ((q, .cells 67 [.slice none 0 0]) :: F) w) :
    Calls Tryz.prog 49 #[qI q, .iface 71 (.agg (oC x).toArray)] w (TurnsR w0 fun v H => v = .tuple #[] ∧ ∃ b' c' pad', oE.Sf (pushH oD oK [] x) c' pad' ∧ H = (q, qB b' 1 c') :: (b', oE.blk (pushH oD oK [] x) pad') :: F) := by
  refine enterl Tryz.func49 rfl Tryz.ntmps49 rfl hst ?_
  (repeat (first | intro (b : Nat) | refine go ?_))
  (refine L.invR1 q (h := fun W hW => q_Push0 hW) (k := ?_))
  rintro v H ⟨rfl, b', c', pad', hS', rfl⟩
  (repeat (first | intro (b : Nat) | refine go ?_))
  (refine L.invr (h := fun W hW => q_Len hW) (k := ?_))
  (repeat (first | intro (b : Nat) | refine go ?_))
  have hU := h_up w0 F q b' c' [x] pad' 0 (by show 0 < 1; omega) (by show 1 ≤ 1000; omega) hP
  have e2 : ((1 : Nat) : Int) - 1 = ((0 : Nat) : Int) := by omega
  rw [e2]
  (refine L.tcallR2 q b' (h := fun W hW => hU W hW) (k := ?_))
  rintro v H ⟨rfl, rfl⟩
  (repeat (first | intro (b : Nat) | refine go ?_))
  (refine rettRN ((q, qB b' 1 c') :: (b', oE.blk (pushH oD oK [] x) pad') :: F) ⟨rfl, b', c', pad', ?_, rfl⟩)
  exact Sf_same hS' (upL_len oD oK _ _ _)

theorem pop_last {M : List Od} (hl : 0 < M.length) : oA (downL oD oK (M.length - 1 + 1) (swp oD M 0 (M.length - 1)) 0 (M.length - 1)) (M.length - 1) = oA M 0 := by
  unfold oA
  rw [downL_out oD oK _ _ _ _ (by rw [swp_len]; omega) _ (Nat.le_refl _), at_swp oD hl (by omega), if_pos rfl]

theorem flat_take {M : List Od} {k : Nat} (h : M.length = k + 1) (pad : List Value) : flat oE.fc M ++ pad = flat oE.fc (M.take k) ++ (oE.fc (oA M k) ++ pad) := by
  have e : M = M.take k ++ [oA M k] := by
    conv => lhs; rw [← List.take_append_drop k M]
    congr 1
    rw [List.drop_eq_getElem_cons (by omega), List.drop_eq_nil_of_le (by omega)]
    congr 1
    have := oE.at_some (M := M) (i := k) (by omega)
    rw [List.getElem?_eq_getElem (by omega)] at this
    exact Option.some.inj this
  conv => lhs; rw [e]
  rw [flat_snoc, List.append_assoc]

theorem h_Pop (w0 : World) (F : SH) (q b c : Nat) (M : List Od) (pad : List Value) (hS : oE.Sf M c pad) (hl : 0 < M.length) (hl2 : M.length ≤ 900) (hP : Pl M) (w : World) (hst : St w0 ((q, qB b M.length c) :: (b, oE.blk M pad) :: F) w) :
    Calls Tryz.prog 52 #[qI q] w (TurnsR w0 fun v H => v = .iface 71 (.agg (oC (oA M 0)).toArray) ∧ ∃ pad', oE.Sf (popH oD oK M) c pad' ∧ H = (q, qB b (M.length - 1) c) :: (b, oE.blk (popH oD oK M) pad') :: F) := by
  have hSw := fun W (hW : St w0 ((q, qB b M.length c) :: (b, oE.blk M pad) :: F) W) => q_Swap (i := 0) (k := (M.length : Int) - 1) (by omega) (by omega) hW
  have e0 : ((M.length : Int) - 1).toNat = M.length - 1 := by omega
  have e1 : ((M.length : Int) - 1) = ((M.length - 1 : Nat) : Int) := by omega
  have hz : (swp oD M 0 (M.length - 1)).length = M.length := swp_len _ _ _ _
  have hD := h_down w0 F q b c (swp oD M 0 (M.length - 1)) pad 0 (M.length - 1) (by omega) (by omega) (by omega) (hP.perm (swp_perm oD hl (by omega)))
  have hzl : (downL oD oK (M.length - 1 + 1) (swp oD M 0 (M.length - 1)) 0 (M.length - 1)).length = M.length := by rw [downL_len, hz]
  have hQ := fun W (hW : St w0 ((q, qB b (downL oD oK (M.length - 1 + 1) (swp oD M 0 (M.length - 1)) 0 (M.length - 1)).length c) :: (b, oE.blk (downL oD oK (M.length - 1 + 1) (swp oD M 0 (M.length - 1)) 0 (M.length - 1)) pad) :: F) W) => q_Pop (by omega) (by omega) (by rw [hzl]; exact hS.le) hW
  rw [hz] at hD
  rw [hzl, pop_last hl] at hQ
  rw [e0] at hSw
  rw [show (0 : Int).toNat = 0 from rfl] at hSw
  have hpop : popH oD oK M = (downL oD oK (M.length - 1 + 1) (swp oD M 0 (M.length - 1)) 0 (M.length - 1)).take (M.length - 1) := by
    unfold popH
    rw [show M.length - 1 + 1 = M.length by omega]
  have hft := flat_take (k := M.length - 1) (by rw [hzl]; omega) pad
  have hSf : oE.Sf (popH oD oK M) c (oE.fc (oA (downL oD oK (M.length - 1 + 1) (swp oD M 0 (M.length - 1)) 0 (M.length - 1)) (M.length - 1)) ++ pad) := by
    have h1 := Sf_same hS hzl
    refine ⟨?_, h1.lt, ?_⟩
    · have h2 := h1.le
      rw [hpop, List.length_take]
      omega
    · rw [hpop, ← hft]
      exact h1.len
  rw [← hpop] at hft
  refine enterl Tryz.func52 rfl Tryz.ntmps52 rfl hst ?_
  (repeat (first | intro (b : Nat) | refine go ?_))
  (refine L.invr (h := fun W hW => q_Len hW) (k := ?_))
  (repeat (first | intro (b : Nat) | refine go ?_))
  (refine L.invR2 q b (h := fun W hW => hSw W hW) (k := ?_))
  rintro v H ⟨rfl, rfl⟩
  rw [e1]
  (repeat (first | intro (b : Nat) | refine go ?_))
  (refine L.tcallR2 q b (h := fun W hW => hD W hW) (k := ?_))
  rintro v H ⟨⟨ok, rfl⟩, rfl⟩
  (repeat (first | intro (b : Nat) | refine go ?_))
  (refine L.invR2 q b (h := fun W hW => hQ W hW) (k := ?_))
  rintro v H ⟨rfl, rfl⟩
  (repeat (first | intro (b : Nat) | refine go ?_))
  rw [show oE.blk (downL oD oK (M.length - 1 + 1) (swp oD M 0 (M.length - 1)) 0 (M.length - 1)) pad = oE.blk (popH oD oK M) (oE.fc (oA (downL oD oK (M.length - 1 + 1) (swp oD M 0 (M.length - 1)) 0 (M.length - 1)) (M.length - 1)) ++ pad) from congrArg _ hft]
  (refine rettR ((q, qB b (M.length - 1) c) :: (b, oE.blk (popH oD oK M) (oE.fc (oA (downL oD oK (M.length - 1 + 1) (swp oD M 0 (M.length - 1)) 0 (M.length - 1)) (M.length - 1)) ++ pad)) :: F) ⟨rfl, _, hSf, rfl⟩)

end D
end Go.Proofs.YtpgbmohocfcjpaaGreatDoor
