/- Walks: texts of times, offsets and stamps of the program. -/
import Derived.Test.YtpgbmohocfcjpaaGreatDoorB2
import Derived.Test.YtpgbmohocfcjpaaGreatDoorA4
import Derived.Test.YtpgbmohocfcjpaaGreatDoorQS
namespace Go.Proofs.YtpgbmohocfcjpaaGreatDoor
set_option linter.unusedVariables false
set_option linter.unusedSimpArgs false
set_option maxRecDepth 100000
set_option maxHeartbeats 1000000
namespace D
open Go.RowKit
open Go.PlainAid (bt bt_nonneg bt_le bt_end)
attribute [local irreducible] Calls

theorem a_trimByte (t : ByteArray) (c : Int) (n j : Nat) (hs : t.size ≤ 1000000000000) (hn : n ≤ t.size) (hj : j ≤ n) (hc : ∀ i, j ≤ i → i < n → bt t i = c) (hstop : j = 0 ∨ ¬ bt t (j - 1) = c) (w : World) (hb : D.Base w) :
    Calls Tryz.prog 177 #[.string (t.extract 0 n), .int .u8 c] w fun e w' => e = .returned (.string (t.extract 0 j)) ∧ Below w.heap.size w w' := by
  refine enter Tryz.func177 rfl Tryz.ntmps177 rfl (by assumption) ?_
  (repeat (first | intro (b : Nat) | refine go ?_))
  refine C.loopw (Y := Nat) (fun k => [(0, .string (t.extract 0 k)), (1, .int .u8 c)]) (fun k => []) (fun k => j ≤ k ∧ k ≤ n) (fun k => k - j) n ⟨hj, Nat.le_refl _⟩ (fun k hy => ?_)
  obtain ⟨k1, k2⟩ := hy
  have hz : (t.extract 0 k).size = k := by rw [size_ext (by omega)]; omega
  have ek : (((t.extract 0 k).size : Int) - 1).toNat = k - 1 := by omega
  by_cases hlt : j < k
  · have hbt : bt (t.extract 0 k) (((t.extract 0 k).size : Int) - 1).toNat = c := by
      rw [ek, bt_extract (by omega) (by omega), Nat.zero_add]
      exact hc _ (by omega) (by omega)
    have hx : (t.extract 0 k).extract 0 (((t.extract 0 k).size : Int) - 1).toNat = t.extract 0 (k - 1) := by
      rw [ek, ext_ext (by omega) (by omega), Nat.zero_add]
    (repeat' (first | intro (b : Nat) | refine go ?_ | (refine br ?_ ?_ <;> first | exact trivial | intro hq)))
    rw [hx]
    refine X.roundw (k - 1) (⟨by omega, by omega⟩) (by omega)
  · obtain rfl : k = j := by omega
    by_cases h0 : k = 0
    · subst h0
      (repeat' (first | intro (b : Nat) | refine go ?_ | (refine br ?_ ?_ <;> first | exact trivial | intro hq)))
      (refine ret ?_; try exact rfl)
    · have hbt : ¬ bt (t.extract 0 k) (((t.extract 0 k).size : Int) - 1).toNat = c := by
        rw [ek, bt_extract (by omega) (by omega), Nat.zero_add]
        rcases hstop with h | h
        · exact (h0 h).elim
        · exact h
      (repeat' (first | intro (b : Nat) | refine go ?_ | (refine br ?_ ?_ <;> first | exact trivial | intro hq)))
      (refine ret ?_; try exact rfl)

/-- Zeros at the end of a text are taken away. -/
theorem a_TrimRight (t : ByteArray) (j : Nat) (hs : t.size ≤ 1000000000000) (h0 : ¬ t = ⟨#[]⟩) (hj : j ≤ t.size) (hc : ∀ i, j ≤ i → i < t.size → bt t i = 48) (hstop : j = 0 ∨ ¬ bt t (j - 1) = 48) (w : World) (hb : D.Base w) :
    Calls Tryz.prog 130 #[.string t, .string ⟨#[48]⟩] w fun e w' => e = .returned (.string (t.extract 0 j)) ∧ Below w.heap.size w w' := by
  have hT : ∀ W, D.Base W → Calls Tryz.prog 177 #[.string t, .int .u8 48] W fun e w' => e = .returned (.string (t.extract 0 j)) ∧ Below W.heap.size W w' := fun W hW => by
    have := a_trimByte t 48 t.size j hs (Nat.le_refl _) hj hc hstop W hW
    rwa [ByteArray.extract_zero_size] at this
  have hne : ¬ (⟨#[48]⟩ : ByteArray) = ⟨#[]⟩ := by decide
  have hz48 : (⟨#[48]⟩ : ByteArray).size = 1 := rfl
  have hb48 : bt ⟨#[48]⟩ (0 : Int).toNat = 48 := by decide
  refine enter Tryz.func130 rfl Tryz.ntmps130 rfl (by assumption) ?_
  (repeat' (first | intro (b : Nat) | refine go ?_ | (refine br ?_ ?_ <;> first | exact trivial | intro hq) | refine L.call (h := by intro W hW; first | apply hT W hW.base | apply hb48.symm ▸ hT W hW.base) (k := ?_)))
  all_goals (try (exfalso; contradiction))
  all_goals (refine ret ?_; try exact rfl)

theorem a_signOf (o : Int) (w : World) (hb : D.Base w) : Calls Tryz.prog 131 #[.int .i64 o] w fun e w' => e = .returned (.int .u64 (if o = 0 then 1 else if o < 0 then 2 else 0)) ∧ Below w.heap.size w w' := by
  by_cases h0 : o = 0
  · rw [if_pos h0]
    refine enter Tryz.func131 rfl Tryz.ntmps131 rfl (by assumption) ?_
    (repeat' (first | intro (b : Nat) | refine go ?_ | (refine br ?_ ?_ <;> first | exact trivial | intro hq)))
    all_goals (refine ret ?_; try exact rfl)
  · rw [if_neg h0]
    by_cases hn : o < 0
    · rw [if_pos hn]
      refine enter Tryz.func131 rfl Tryz.ntmps131 rfl (by assumption) ?_
      (repeat' (first | intro (b : Nat) | refine go ?_ | (refine br ?_ ?_ <;> first | exact trivial | intro hq)))
      all_goals (refine ret ?_; try exact rfl)
    · rw [if_neg hn]
      refine enter Tryz.func131 rfl Tryz.ntmps131 rfl (by assumption) ?_
      (repeat' (first | intro (b : Nat) | refine go ?_ | (refine br ?_ ?_ <;> first | exact trivial | intro hq)))
      all_goals (refine ret ?_; try exact rfl)

theorem a_OffsetText (o : Int) (w : World) (hb : D.Base w) : Calls Tryz.prog 81 #[.int .i64 o] w fun e w' => e = .returned (.string (ofT o)) ∧ Below w.heap.size w w' := by
  cases hr : inR o (-1439) 1439 with
  | false =>
    have e : ofT o = ⟨#[]⟩ := if_neg (by simp [hr])
    rw [e]
    refine enter Tryz.func81 rfl Tryz.ntmps81 rfl (by assumption) ?_
    (repeat' (first | intro (b : Nat) | refine go ?_ | (refine br ?_ ?_ <;> first | exact trivial | intro hq) | refine L.call (h := by intro W hW; apply rvb hr (a_offsetValid _ W hW.base)) (k := ?_)))
    all_goals (refine ret ?_; try exact rfl)
  | true =>
    have e : ofT o = strOfNums (ofL o) := if_pos hr
    have hd := inR_true.1 hr
    rw [e]
    have hS := a_signOf o
    by_cases h0 : o = 0
    · rw [if_pos h0] at hS
      subst h0
      refine enter Tryz.func81 rfl Tryz.ntmps81 rfl (by assumption) ?_
      (repeat' (first | intro (b : Nat) | refine go ?_ | (refine br ?_ ?_ <;> first | exact trivial | intro hq) | refine L.call (h := by intro W hW; first | apply rvb hr (a_offsetValid _ W hW.base) | apply hS W hW.base) (k := ?_)))
      all_goals (refine ret ?_; try exact rfl)
    · rw [if_neg h0] at hS
      by_cases hn : o < 0
      · rw [if_pos hn] at hS
        have e2 : ofL o = 45 :: (digL (-o / 60) 2 ++ [58] ++ digL (-o % 60) 2) := by
          unfold ofL ofP
          rw [if_neg h0, if_pos hn, if_pos hn]
        have l1 := digL_length (-o / 60) 2
        have l2 := digL_length (-o % 60) 2
        rw [e2]
        refine enter Tryz.func81 rfl Tryz.ntmps81 rfl (by assumption) ?_
        (repeat' (first | intro (b : Nat) | refine go ?_ | (refine br ?_ ?_ <;> first | exact trivial | intro hq) | refine L.call (h := by intro W hW; first | apply rvb hr (a_offsetValid _ W hW.base) | apply hS W hW.base | apply a_digits2 _ (by omega) W hW.base) (k := ?_)))
        all_goals (refine ret ?_)
        all_goals (refine congrArg Value.string ?_; simp only [str58, str45, strOfNums_append]; rfl)
      · rw [if_neg hn] at hS
        have e2 : ofL o = 43 :: (digL (o / 60) 2 ++ [58] ++ digL (o % 60) 2) := by
          unfold ofL ofP
          rw [if_neg h0, if_neg hn, if_neg hn]
        have l1 := digL_length (o / 60) 2
        have l2 := digL_length (o % 60) 2
        rw [e2]
        refine enter Tryz.func81 rfl Tryz.ntmps81 rfl (by assumption) ?_
        (repeat' (first | intro (b : Nat) | refine go ?_ | (refine br ?_ ?_ <;> first | exact trivial | intro hq) | refine L.call (h := by intro W hW; first | apply rvb hr (a_offsetValid _ W hW.base) | apply hS W hW.base | apply a_digits2 _ (by omega) W hW.base) (k := ?_)))
        all_goals (refine ret ?_)
        all_goals (refine congrArg Value.string ?_; simp only [str58, str43, strOfNums_append]; rfl)

theorem a_ClockText (h i s k : Int) (hv : cval h i s k = true) (w : World) (hb : D.Base w) : Calls Tryz.prog 80 #[.agg #[.int .i64 h, .int .i64 i, .int .i64 s, .int .i64 k], .bool true] w fun e w' => e = .returned (.string (strOfNums (clL h i s k))) ∧ Below w.heap.size w w' := by
  have hd := cval_bd hv
  have l1 := digL_length h 2
  have l2 := digL_length i 2
  have l3 := digL_length s 2
  by_cases h0 : k = 0
  · have e : clL h i s k = digL h 2 ++ [58] ++ digL i 2 ++ [58] ++ digL s 2 := by
      unfold clL
      rw [show frL k = [] from if_pos h0, List.append_nil]
    rw [e]
    refine enter Tryz.func80 rfl Tryz.ntmps80 rfl (by assumption) ?_
    (repeat' (first | intro (b : Nat) | refine go ?_ | (refine br ?_ ?_ <;> first | exact trivial | intro hq) | refine L.call (h := by intro W hW; first | apply rvb hv (a_ClockValid _ _ _ _ W hW.base) | apply a_digits2 _ (by omega) W hW.base) (k := ?_) | refine gg ?_ | refine G.call (h := by intro W hW; first | apply rvb hv (a_ClockValid _ _ _ _ W hW.base) | apply a_digits2 _ (by omega) W hW.base) (k := ?_) | (apply C.draww (id := 6) 16 [none, some _, some _, none, none, none, some _, some _, none, none, none, none, some _, some _, none, none])))
    all_goals (refine ret ?_)
    all_goals (refine congrArg Value.string ?_; simp only [str58, strOfNums_append])
  · have e : clL h i s k = digL h 2 ++ [58] ++ digL i 2 ++ [58] ++ digL s 2 ++ ([46] ++ frT k) := by
      unfold clL
      rw [frL_T h0]
      rfl
    obtain ⟨j, j1, j2, j3, j4, j5⟩ := trim_frT (k := k) (by omega)
    have hz := (dig3_bt k).2.2.2
    have hT := a_TrimRight (strOfNums (digL k 3)) j (by omega) (fun h => by rw [h] at hz; exact absurd hz (by decide)) (by omega) (fun i h1 h2 => j3 i h1 (by omega)) (.inr j4)
    rw [j5] at hT
    have l4 : (frT k).length ≤ 3 := by
      have : (strOfNums (frT k)).size ≤ 3 := by rw [← j5, size_ext (by omega)]; omega
      rwa [strOfNums_size] at this
    rw [e]
    clear j3 j4 j5 e
    refine enter Tryz.func80 rfl Tryz.ntmps80 rfl (by assumption) ?_
    (repeat' (first | intro (b : Nat) | refine go ?_ | (refine br ?_ ?_ <;> first | exact trivial | intro hq) | refine L.call (h := by intro W hW; first | apply rvb hv (a_ClockValid _ _ _ _ W hW.base) | apply a_digits2 _ (by omega) W hW.base | apply a_digits3 _ (by omega) W hW.base | apply hT W hW.base) (k := ?_) | refine gg ?_ | refine G.call (h := by intro W hW; first | apply rvb hv (a_ClockValid _ _ _ _ W hW.base) | apply a_digits2 _ (by omega) W hW.base | apply a_digits3 _ (by omega) W hW.base | apply hT W hW.base) (k := ?_) | (apply C.draww (id := 6) 16 [none, some _, some _, none, none, none, some _, some _, none, none, none, none, some _, some _, none, none])))
    all_goals (refine ret ?_)
    all_goals (refine congrArg Value.string ?_; simp only [str58, str46, strOfNums_append])

end D
end Go.Proofs.YtpgbmohocfcjpaaGreatDoor
