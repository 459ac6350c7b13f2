/- Walks: texts of times, offsets and stamps of the program. -/
import Derived.Test.YtboglbdhibcacaaGreatDoorVB2
import Derived.Test.YtboglbdhibcacaaGreatDoorVj
import Derived.Test.YtboglbdhibcacaaGreatDoorVe
import Derived.Test.YtboglbdhibcacaaGreatDoorVc
import Derived.Test.YtboglbdhibcacaaGreatDoorVd
namespace Go.Proofs.YtboglbdhibcacaaGreatDoor
set_option linter.unusedVariables false
set_option linter.unusedSimpArgs false
set_option maxRecDepth 100000
set_option maxHeartbeats 1000000
namespace D
open Go.RowKit
open Go.PlainAid (bt bt_nonneg bt_le bt_end)
attribute [local irreducible] Calls

theorem a_trimByte (t : ByteArray) (c : Int) (n j : Nat) (hs : t.size ≤ 1000000000000) (hn : n ≤ t.size) (hj : j ≤ n) (hc : ∀ i, j ≤ i → i < n → bt t i = c) (hstop : j = 0 ∨ ¬ bt t (j - 1) = c) (w : World) (hb : D.Base w) :
    Calls Tryz.prog 216 #[.string (t.extract 0 n), .int .u8 c] w fun e w' => e = .returned (.string (t.extract 0 j)) ∧ Below w.heap.size w w' := by
  refine enter Tryz.func216 rfl Tryz.ntmps216 rfl (by assumption) ?_
  (repeat (first | intro (b : Nat) | refine go ?_))
  refine C.loopw (Y := Nat) (fun k => [(0, .string (t.extract 0 k)), (1, .int .u8 c)]) (fun k => []) (fun k => j ≤ k ∧ k ≤ n) (fun k => k - j) n ⟨hj, Nat.le_refl _⟩ (fun k hy => ?_)
  obtain ⟨k1, k2⟩ := hy
  have hz : (t.extract 0 k).size = k := by rw [size_ext (by omega)]; omega
  have ek : (((t.extract 0 k).size : Int) - 1).toNat = k - 1 := by omega
  by_cases hlt : j < k
  · have hbt : bt (t.extract 0 k) (((t.extract 0 k).size : Int) - 1).toNat = c := by
      rw [ek, bt_extract (by omega) (by omega), Nat.zero_add]
      exact hc _ (by omega) (by omega)
    have hx : (t.extract 0 k).extract 0 (((t.extract 0 k).size : Int) - 1).toNat = t.extract 0 (k - 1) := by
      rw [ek, ext_ext (by omega) (by omega), Nat.zero_add]
    (repeat' (first | intro (b : Nat) | refine go ?_ | (refine br ?_ ?_ <;> first | exact trivial | intro hq)))
    rw [hx]
    refine X.roundw (k - 1) (⟨by omega, by omega⟩) (by omega)
  · obtain rfl : k = j := by omega
    by_cases h0 : k = 0
    · subst h0
      (repeat' (first | intro (b : Nat) | refine go ?_ | (refine br ?_ ?_ <;> first | exact trivial | intro hq)))
      (refine ret ?_; try exact rfl)
    · have hbt : ¬ bt (t.extract 0 k) (((t.extract 0 k).size : Int) - 1).toNat = c := by
        rw [ek, bt_extract (by omega) (by omega), Nat.zero_add]
        rcases hstop with h | h
        · exact (h0 h).elim
        · exact h
      (repeat' (first | intro (b : Nat) | refine go ?_ | (refine br ?_ ?_ <;> first | exact trivial | intro hq)))
      (refine ret ?_; try exact rfl)

/-- Zeros at the end of a text are taken away. -/
theorem a_TrimRight (t : ByteArray) (j : Nat) (hs : t.size ≤ 1000000000000) (h0 : ¬ t = ⟨#[]⟩) (hj : j ≤ t.size) (hc : ∀ i, j ≤ i → i < t.size → bt t i = 48) (hstop : j = 0 ∨ ¬ bt t (j - 1) = 48) (w : World) (hb : D.Base w) :
    Calls Tryz.prog 174 #[.string t, .string ⟨#[48]⟩] w fun e w' => e = .returned (.string (t.extract 0 j)) ∧ Below w.heap.size w w' := by
  have hT : ∀ W, D.Base W → Calls Tryz.prog 216 #[.string t, .int .u8 48] W fun e w' => e = .returned (.string (t.extract 0 j)) ∧ Below W.heap.size W w' := fun W hW => by
    have := a_trimByte t 48 t.size j hs (Nat.le_refl _) hj hc hstop W hW
    rwa [ByteArray.extract_zero_size] at this
  have hne : ¬ (⟨#[48]⟩ : ByteArray) = ⟨#[]⟩ := by decide
  have hz48 : (⟨#[48]⟩ : ByteArray).size = 1 := rfl
  have hb48 : bt ⟨#[48]⟩ (0 : Int).toNat = 48 := by decide
  refine enter Tryz.func174 rfl Tryz.ntmps174 rfl (by assumption) ?_
  (repeat' (first | intro (b : Nat) | refine go ?_ | (refine br ?_ ?_ <;> first | exact trivial | intro hq) | refine L.call (h := by intro W hW; first | apply hT W hW.base | apply hb48.symm ▸ hT W hW.base) (k := ?_)))
  all_goals (try (exfalso; contradiction))
  all_goals (refine ret ?_; try exact rfl)

theorem a_signOf (o : Int) (w : World) (hb : D.Base w) : Calls Tryz.prog 175 #[.int .i64 o] w fun e w' => e = .returned (.int .u64 (if o = 0 then 1 else if o < 0 then 2 else 0)) ∧ Below w.heap.size w w' := by
  by_cases h0 : o = 0
  · rw [if_pos h0]
    refine enter Tryz.func175 rfl Tryz.ntmps175 rfl (by assumption) ?_
    (repeat' (first | intro (b : Nat) | refine go ?_ | (refine br ?_ ?_ <;> first | exact trivial | intro hq)))
    all_goals (refine ret ?_; try exact rfl)
  · rw [if_neg h0]
    by_cases hn : o < 0
    · rw [if_pos hn]
      refine enter Tryz.func175 rfl Tryz.ntmps175 rfl (by assumption) ?_
      (repeat' (first | intro (b : Nat) | refine go ?_ | (refine br ?_ ?_ <;> first | exact trivial | intro hq)))
      all_goals (refine ret ?_; try exact rfl)
    · rw [if_neg hn]
      refine enter Tryz.func175 rfl Tryz.ntmps175 rfl (by assumption) ?_
      (repeat' (first | intro (b : Nat) | refine go ?_ | (refine br ?_ ?_ <;> first | exact trivial | intro hq)))
      all_goals (refine ret ?_; try exact rfl)

theorem a_OffsetText (o : Int) (w : World) (hb : D.Base w) : Calls Tryz.prog 112 #[.int .i64 o] w fun e w' => e = .returned (.string (ofT o)) ∧ Below w.heap.size w w' := by
  cases hr : inR o (-1439) 1439 with
  | false =>
    have e : ofT o = ⟨#[]⟩ := if_neg (by simp [hr])
    rw [e]
    refine enter Tryz.func112 rfl Tryz.ntmps112 rfl (by assumption) ?_
    (repeat' (first | intro (b : Nat) | refine go ?_ | (refine br ?_ ?_ <;> first | exact trivial | intro hq) | refine L.call (h := by intro W hW; apply rvb hr (a_offsetValid _ W hW.base)) (k := ?_)))
    all_goals (refine ret ?_; try exact rfl)
  | true =>
    have e : ofT o = strOfNums (ofL o) := if_pos hr
    have hd := inR_true.1 hr
    rw [e]
    have hS := a_signOf o
    by_cases h0 : o = 0
    · rw [if_pos h0] at hS
      subst h0
      refine enter Tryz.func112 rfl Tryz.ntmps112 rfl (by assumption) ?_
      (repeat' (first | intro (b : Nat) | refine go ?_ | (refine br ?_ ?_ <;> first | exact trivial | intro hq) | refine L.call (h := by intro W hW; first | apply rvb hr (a_offsetValid _ W hW.base) | apply hS W hW.base) (k := ?_)))
      all_goals (refine ret ?_; try exact rfl)
    · rw [if_neg h0] at hS
      by_cases hn : o < 0
      · rw [if_pos hn] at hS
        have e2 : ofL o = 45 :: (digL (-o / 60) 2 ++ [58] ++ digL (-o % 60) 2) := by
          unfold ofL ofP
          rw [if_neg h0, if_pos hn, if_pos hn]
        have l1 := digL_length (-o / 60) 2
        have l2 := digL_length (-o % 60) 2
        rw [e2]
        refine enter Tryz.func112 rfl Tryz.ntmps112 rfl (by assumption) ?_
        (repeat' (first | intro (b : Nat) | refine go ?_ | (refine br ?_ ?_ <;> first | exact trivial | intro hq) | refine L.call (h := by intro W hW; first | apply rvb hr (a_offsetValid _ W hW.base) | apply hS W hW.base | apply a_digits2 _ (by omega) W hW.base) (k := ?_)))
        all_goals (refine ret ?_)
        all_goals (refine congrArg Value.string ?_; simp only [str58, str45, strOfNums_append]; rfl)
      · rw [if_neg hn] at hS
        have e2 : ofL o = 43 :: (digL (o / 60) 2 ++ [58] ++ digL (o % 60) 2) := by
          unfold ofL ofP
          rw [if_neg h0, if_neg hn, if_neg hn]
        have l1 := digL_length (o / 60) 2
        have l2 := digL_length (o % 60) 2
        rw [e2]
        refine enter Tryz.func112 rfl Tryz.ntmps112 rfl (by assumption) ?_
        (repeat' (first | intro (b : Nat) | refine go ?_ | (refine br ?_ ?_ <;> first | exact trivial | intro hq) | refine L.call (h := by intro W hW; first | apply rvb hr (a_offsetValid _ W hW.base) | apply hS W hW.base | apply a_digits2 _ (by omega) W hW.base) (k := ?_)))
        all_goals (refine ret ?_)
        all_goals (refine congrArg Value.string ?_; simp only [str58, str43, strOfNums_append]; rfl)

theorem a_ClockText (h i s k : Int) (hv : cval h i s k = true) (w : World) (hb : D.Base w) : Calls Tryz.prog 111 #[.agg #[.int .i64 h, .int .i64 i, .int .i64 s, .int .i64 k], .bool true] w fun e w' => e = .returned (.string (strOfNums (clL h i s k))) ∧ Below w.heap.size w w' := by
  have hd := cval_bd hv
  have l1 := digL_length h 2
  have l2 := digL_length i 2
  have l3 := digL_length s 2
  by_cases h0 : k = 0
  · have e : clL h i s k = digL h 2 ++ [58] ++ digL i 2 ++ [58] ++ digL s 2 := by
      unfold clL
      rw [show frL k = [] from if_pos h0, List.append_nil]
    rw [e]
    refine enter Tryz.func111 rfl Tryz.ntmps111 rfl (by assumption) ?_
    (repeat' (first | intro (b : Nat) | refine go ?_ | (refine br ?_ ?_ <;> first | exact trivial | intro hq) | refine L.call (h := by intro W hW; first | apply rvb hv (a_ClockValid _ _ _ _ W hW.base) | apply a_digits2 _ (by omega) W hW.base) (k := ?_) | refine gg ?_ | refine G.call (h := by intro W hW; first | apply rvb hv (a_ClockValid _ _ _ _ W hW.base) | apply a_digits2 _ (by omega) W hW.base) (k := ?_) | (apply C.draww (id := 6) 16 [none, some _, some _, none, none, none, some _, some _, none, none, none, none, some _, some _, none, none])))
    all_goals (refine ret ?_)
    all_goals (refine congrArg Value.string ?_; simp only [str58, strOfNums_append])
  · have e : clL h i s k = digL h 2 ++ [58] ++ digL i 2 ++ [58] ++ digL s 2 ++ ([46] ++ frT k) := by
      unfold clL
      rw [frL_T h0]
      rfl
    obtain ⟨j, j1, j2, j3, j4, j5⟩ := trim_frT (k := k) (by omega)
    have hz := (dig3_bt k).2.2.2
    have hT := a_TrimRight (strOfNums (digL k 3)) j (by omega) (fun h => by rw [h] at hz; exact absurd hz (by decide)) (by omega) (fun i h1 h2 => j3 i h1 (by omega)) (.inr j4)
    rw [j5] at hT
    have l4 : (frT k).length ≤ 3 := by
      have : (strOfNums (frT k)).size ≤ 3 := by rw [← j5, size_ext (by omega)]; omega
      rwa [strOfNums_size] at this
    rw [e]
    clear j3 j4 j5 e
    refine enter Tryz.func111 rfl Tryz.ntmps111 rfl (by assumption) ?_
    (repeat' (first | intro (b : Nat) | refine go ?_ | (refine br ?_ ?_ <;> first | exact trivial | intro hq) | refine L.call (h := by intro W hW; first | apply rvb hv (a_ClockValid _ _ _ _ W hW.base) | apply a_digits2 _ (by omega) W hW.base | apply a_digits3 _ (by omega) W hW.base | apply hT W hW.base) (k := ?_) | refine gg ?_ | refine G.call (h := by intro W hW; first | apply rvb hv (a_ClockValid _ _ _ _ W hW.base) | apply a_digits2 _ (by omega) W hW.base | apply a_digits3 _ (by omega) W hW.base | apply hT W hW.base) (k := ?_) | (apply C.draww (id := 6) 16 [none, some _, some _, none, none, none, some _, some _, none, none, none, none, some _, some _, none, none])))
    all_goals (refine ret ?_)
    all_goals (refine congrArg Value.string ?_; simp only [str58, str46, strOfNums_append])

end D
end Go.Proofs.YtboglbdhibcacaaGreatDoor

namespace Go.Proofs.YtboglbdhibcacaaGreatDoor
set_option linter.unusedVariables false
set_option linter.unusedSimpArgs false
set_option maxRecDepth 100000
set_option maxHeartbeats 1000000
namespace D
open Go.RowKit
open Go.PlainAid (bt bt_nonneg bt_le bt_end)
attribute [local irreducible] Calls

theorem n_yes (w0 : World) (F : SH) (r : Nat) (s : ByteArray) (q q' : Int) (p m : Nat) (k v : Int) (hq : q = (p : Int)) (hq' : q' = (p : Int) + (m : Int)) (hk : k = (m : Int)) (hv : numL s p m = v) (hs : s.size ≤ 1000000000000) (hp : p ≤ s.size) (hm : m ≤ 6) (h : allD s p m = true) (w : World) (hst : St w0 ((r, rdB s q) :: F) w) :
    Calls Tryz.prog 104 #[.pointer (some ⟨r, 0, none⟩), .int .i64 k] w (Turns w0 (.tuple #[.int .i64 v, .bool true]) ((r, rdB s q') :: F)) := by
  subst hq hq' hk hv
  exact a_number_yes w0 F r s p m hs hp hm h w hst

theorem n_no (w0 : World) (F : SH) (r : Nat) (s : ByteArray) (q : Int) (p m : Nat) (k : Int) (hq : q = (p : Int)) (hk : k = (m : Int)) (hs : s.size ≤ 1000000000000) (hp : p ≤ s.size) (hm : m ≤ 6) (h : allD s p m = false) (w : World) (hst : St w0 ((r, rdB s q) :: F) w) :
    Calls Tryz.prog 104 #[.pointer (some ⟨r, 0, none⟩), .int .i64 k] w (Turns w0 (.tuple #[.int .i64 0, .bool false]) ((r, rdB s q) :: F)) := by
  subst hq hk
  exact a_number_no w0 F r s p m hs hp hm h w hst

theorem t_yes (w0 : World) (F : SH) (r : Nat) (s : ByteArray) (q q' : Int) (p : Nat) (c : Int) (hq : q = (p : Int)) (hq' : q' = (p : Int) + 1) (hs : s.size ≤ 1000000000000) (h : isB s p c = true) (w : World) (hst : St w0 ((r, rdB s q) :: F) w) :
    Calls Tryz.prog 159 #[.pointer (some ⟨r, 0, none⟩), .int .u8 c] w (Turns w0 (.bool true) ((r, rdB s q') :: F)) := by
  subst hq hq'
  exact a_take_yes w0 F r s p c hs h w hst

theorem t_no (w0 : World) (F : SH) (r : Nat) (s : ByteArray) (q : Int) (p : Nat) (c : Int) (hq : q = (p : Int)) (hs : s.size ≤ 1000000000000) (hp : p ≤ s.size) (h : isB s p c = false) (w : World) (hst : St w0 ((r, rdB s q) :: F) w) :
    Calls Tryz.prog 159 #[.pointer (some ⟨r, 0, none⟩), .int .u8 c] w (Turns w0 (.bool false) ((r, rdB s q) :: F)) := by
  subst hq
  exact a_take_no w0 F r s p c hs hp h w hst

/-- What a time that is read, or not, leaves. -/
def ClkR (s : ByteArray) (h : Bool) (r : Nat) (F : SH) (v : Value) (H : SH) : Prop :=
  (clkOk s h = true ∧ v = .tuple #[.agg #[.int .i64 (numL s 0 2), .int .i64 (numL s (2 + b2 h) 2), .int .i64 (numL s (4 + 2 * b2 h) 2), .int .i64 (frK s (6 + 2 * b2 h))], .nilIface] ∧ ∃ q : Int, H = (r, rdB s q) :: F) ∨
  (clkOk s h = false ∧ ∃ (b : Nat) (p q : Int), v = .tuple #[.agg #[.int .i64 0, .int .i64 0, .int .i64 0, .int .i64 0], .iface 209 (.pointer (some ⟨b, 0, none⟩))] ∧ H = (b, .cells 240 [.int .i64 p]) :: (r, rdB s q) :: F)

theorem a_clock1 (w0 : World) (F : SH) (r : Nat) (s : ByteArray) (hs : s.size ≤ 1000000000000) (w : World) (hst : St w0 ((r, rdB s 0) :: F) w) :
    Calls Tryz.prog 200 #[.pointer (some ⟨r, 0, none⟩), .bool true] w (TurnsR w0 (ClkR s true r F)) := by
  refine enterl Tryz.func200 rfl Tryz.ntmps200 rfl hst ?_
  (repeat (first | intro (b : Nat) | refine go ?_))
  rename_i bc
  refine C.rounds 5 ?_
  (repeat (first | intro (b : Nat) | refine go ?_))
  cases a1 : allD s 0 2
  · (refine L.tcallb r (h := by intro W hW; exact n_no _ _ _ s 0 0 2 2 rfl rfl hs (by omega) (by omega) a1 W hW) (k := ?_))
    (repeat' (first | intro (b : Nat) | refine go ?_ | (refine br ?_ ?_ <;> first | exact trivial | intro hq)))
    ((repeat (refine C.seq ?_)); apply C.drawsw 8 bc (.cells 67 [.int .i64 0, .int .i64 0, .int .i64 0, .int .i64 0]) 9 [none, none, none, none, some _, none, some _, none, some _])
    (repeat (first | intro (b : Nat) | refine gg ?_))
    (first | (apply G.stk; exact rfl; exact rfl; exact rfl; exact rfl; exact rfl; exact rfl; exact rfl; (· (repeat (first | exact Wr.nil | apply Wr.put | apply Wr.skip)))) | (apply G.st1; exact rfl; exact rfl; exact rfl; exact rfl; exact rfl; exact rfl; (· (repeat (first | exact Wr.nil | apply Wr.put | apply Wr.skip)))))
    (repeat (first | intro (b : Nat) | refine gg ?_))
    (repeat (first | intro (b : Nat) | refine go ?_))
    (refine rettR ((b, .cells 240 [.int .i64 0]) :: (r, rdB s 0) :: F) ?_)
    exact .inr ⟨by simp [clkOk, coV, b2, a1], _, _, _, rfl, rfl⟩
  · have za1 := isD_lt (allD_iff.1 a1 1 (by omega))
    (refine L.tcallb r (h := by intro W hW; exact n_yes _ _ _ s 0 2 0 2 2 _ rfl rfl rfl rfl hs (by omega) (by omega) a1 W hW) (k := ?_))
    (repeat (first | intro (b : Nat) | refine go ?_))
    cases c1 : isB s 2 58
    · (refine L.tcallb r (h := by intro W hW; exact t_no _ _ _ s 2 2 58 rfl hs (by omega) c1 W hW) (k := ?_))
      (repeat' (first | intro (b : Nat) | refine go ?_ | (refine br ?_ ?_ <;> first | exact trivial | intro hq)))
      ((repeat (refine C.seq ?_)); apply C.drawsw 8 bc (.cells 67 [.int .i64 0, .int .i64 0, .int .i64 0, .int .i64 0]) 9 [none, none, none, none, some _, none, some _, none, some _])
      (repeat (first | intro (b : Nat) | refine gg ?_))
      (first | (apply G.stk; exact rfl; exact rfl; exact rfl; exact rfl; exact rfl; exact rfl; exact rfl; (· (repeat (first | exact Wr.nil | apply Wr.put | apply Wr.skip)))) | (apply G.st1; exact rfl; exact rfl; exact rfl; exact rfl; exact rfl; exact rfl; (· (repeat (first | exact Wr.nil | apply Wr.put | apply Wr.skip)))))
      (repeat (first | intro (b : Nat) | refine gg ?_))
      (repeat (first | intro (b : Nat) | refine go ?_))
      (refine rettR ((b, .cells 240 [.int .i64 2]) :: (r, rdB s 2) :: F) ?_)
      exact .inr ⟨by simp [clkOk, coV, b2, a1, c1], _, _, _, rfl, rfl⟩
    · have zc1 := (isB_iff.1 c1).1
      (refine L.tcallb r (h := by intro W hW; exact t_yes _ _ _ s 2 3 2 58 rfl rfl hs c1 W hW) (k := ?_))
      (repeat (first | intro (b : Nat) | refine go ?_))
      cases a2 : allD s 3 2
      · (refine L.tcallb r (h := by intro W hW; exact n_no _ _ _ s 3 3 2 2 rfl rfl hs (by omega) (by omega) a2 W hW) (k := ?_))
        (repeat' (first | intro (b : Nat) | refine go ?_ | (refine br ?_ ?_ <;> first | exact trivial | intro hq)))
        ((repeat (refine C.seq ?_)); apply C.drawsw 8 bc (.cells 67 [.int .i64 0, .int .i64 0, .int .i64 0, .int .i64 0]) 9 [none, none, none, none, some _, none, some _, none, some _])
        (repeat (first | intro (b : Nat) | refine gg ?_))
        (first | (apply G.stk; exact rfl; exact rfl; exact rfl; exact rfl; exact rfl; exact rfl; exact rfl; (· (repeat (first | exact Wr.nil | apply Wr.put | apply Wr.skip)))) | (apply G.st1; exact rfl; exact rfl; exact rfl; exact rfl; exact rfl; exact rfl; (· (repeat (first | exact Wr.nil | apply Wr.put | apply Wr.skip)))))
        (repeat (first | intro (b : Nat) | refine gg ?_))
        (repeat (first | intro (b : Nat) | refine go ?_))
        (refine rettR ((b, .cells 240 [.int .i64 3]) :: (r, rdB s 3) :: F) ?_)
        exact .inr ⟨by simp [clkOk, coV, b2, a1, c1, a2], _, _, _, rfl, rfl⟩
      · have za2 := isD_lt (allD_iff.1 a2 1 (by omega))
        (refine L.tcallb r (h := by intro W hW; exact n_yes _ _ _ s 3 5 3 2 2 _ rfl rfl rfl rfl hs (by omega) (by omega) a2 W hW) (k := ?_))
        (repeat (first | intro (b : Nat) | refine go ?_))
        cases c2 : isB s 5 58
        · (refine L.tcallb r (h := by intro W hW; exact t_no _ _ _ s 5 5 58 rfl hs (by omega) c2 W hW) (k := ?_))
          (repeat' (first | intro (b : Nat) | refine go ?_ | (refine br ?_ ?_ <;> first | exact trivial | intro hq)))
          ((repeat (refine C.seq ?_)); apply C.drawsw 8 bc (.cells 67 [.int .i64 0, .int .i64 0, .int .i64 0, .int .i64 0]) 9 [none, none, none, none, some _, none, some _, none, some _])
          (repeat (first | intro (b : Nat) | refine gg ?_))
          (first | (apply G.stk; exact rfl; exact rfl; exact rfl; exact rfl; exact rfl; exact rfl; exact rfl; (· (repeat (first | exact Wr.nil | apply Wr.put | apply Wr.skip)))) | (apply G.st1; exact rfl; exact rfl; exact rfl; exact rfl; exact rfl; exact rfl; (· (repeat (first | exact Wr.nil | apply Wr.put | apply Wr.skip)))))
          (repeat (first | intro (b : Nat) | refine gg ?_))
          (repeat (first | intro (b : Nat) | refine go ?_))
          (refine rettR ((b, .cells 240 [.int .i64 5]) :: (r, rdB s 5) :: F) ?_)
          exact .inr ⟨by simp [clkOk, coV, b2, a1, c1, a2, c2], _, _, _, rfl, rfl⟩
        · have zc2 := (isB_iff.1 c2).1
          (refine L.tcallb r (h := by intro W hW; exact t_yes _ _ _ s 5 6 5 58 rfl rfl hs c2 W hW) (k := ?_))
          (repeat (first | intro (b : Nat) | refine go ?_))
          cases a3 : allD s 6 2
          · (refine L.tcallb r (h := by intro W hW; exact n_no _ _ _ s 6 6 2 2 rfl rfl hs (by omega) (by omega) a3 W hW) (k := ?_))
            (repeat' (first | intro (b : Nat) | refine go ?_ | (refine br ?_ ?_ <;> first | exact trivial | intro hq)))
            ((repeat (refine C.seq ?_)); apply C.drawsw 8 bc (.cells 67 [.int .i64 0, .int .i64 0, .int .i64 0, .int .i64 0]) 9 [none, none, none, none, some _, none, some _, none, some _])
            (repeat (first | intro (b : Nat) | refine gg ?_))
            (first | (apply G.stk; exact rfl; exact rfl; exact rfl; exact rfl; exact rfl; exact rfl; exact rfl; (· (repeat (first | exact Wr.nil | apply Wr.put | apply Wr.skip)))) | (apply G.st1; exact rfl; exact rfl; exact rfl; exact rfl; exact rfl; exact rfl; (· (repeat (first | exact Wr.nil | apply Wr.put | apply Wr.skip)))))
            (repeat (first | intro (b : Nat) | refine gg ?_))
            (repeat (first | intro (b : Nat) | refine go ?_))
            (refine rettR ((b, .cells 240 [.int .i64 6]) :: (r, rdB s 6) :: F) ?_)
            exact .inr ⟨by simp [clkOk, coV, b2, a1, c1, a2, c2, a3], _, _, _, rfl, rfl⟩
          · have za3 := isD_lt (allD_iff.1 a3 1 (by omega))
            (refine L.tcallb r (h := by intro W hW; exact n_yes _ _ _ s 6 8 6 2 2 _ rfl rfl rfl rfl hs (by omega) (by omega) a3 W hW) (k := ?_))
            (repeat (first | intro (b : Nat) | refine go ?_))
            cases hd : isB s 8 46
            · (refine L.tcallb r (h := by intro W hW; exact t_no _ _ _ s 8 8 46 rfl hs (by omega) hd W hW) (k := ?_))
              cases hq : decide ((8 : Int) = s.size)
              · have hne : ¬ s.size = 8 := by have := of_decide_eq_false hq; omega
                (repeat' (first | intro (b : Nat) | refine go ?_ | (refine br ?_ ?_ <;> first | exact trivial | intro hq) | refine L.call (h := by intro W hW; apply rvb hq (a_done r s 8 W (hW.cell (List.Mem.head _) rfl) (hW.cell (List.Mem.head _) rfl) hW.base)) (k := ?_)))
                ((repeat (refine C.seq ?_)); apply C.drawsw 8 bc (.cells 67 [.int .i64 0, .int .i64 0, .int .i64 0, .int .i64 0]) 9 [none, none, none, none, some _, none, some _, none, some _])
                (repeat (first | intro (b : Nat) | refine gg ?_))
                (first | (apply G.stk; exact rfl; exact rfl; exact rfl; exact rfl; exact rfl; exact rfl; exact rfl; (· (repeat (first | exact Wr.nil | apply Wr.put | apply Wr.skip)))) | (apply G.st1; exact rfl; exact rfl; exact rfl; exact rfl; exact rfl; exact rfl; (· (repeat (first | exact Wr.nil | apply Wr.put | apply Wr.skip)))))
                (repeat (first | intro (b : Nat) | refine gg ?_))
                (repeat (first | intro (b : Nat) | refine go ?_))
                (refine rettR ((b, .cells 240 [.int .i64 8]) :: (r, rdB s 8) :: F) ?_)
                exact .inr ⟨by simp [clkOk, coV, b2, frOk, a1, c1, a2, c2, a3, hd, hne], _, _, _, rfl, rfl⟩
              · have hz : s.size = 8 := by have := of_decide_eq_true hq; omega
                have eK : frK s 8 = 0 := if_pos hz
                cases hv : cval (numL s 0 2) (numL s 3 2) (numL s 6 2) 0
                · (repeat' (first | intro (b : Nat) | refine go ?_ | (refine br ?_ ?_ <;> first | exact trivial | intro hq) | refine L.call (h := by intro W hW; first | apply rvb hq (a_done r s 8 W (hW.cell (List.Mem.head _) rfl) (hW.cell (List.Mem.head _) rfl) hW.base) | apply rvb hv (a_ClockValid _ _ _ _ W hW.base)) (k := ?_)))
                  ((repeat (refine C.seq ?_)); apply C.drawsw 8 bc (.cells 67 [.int .i64 0, .int .i64 0, .int .i64 0, .int .i64 0]) 9 [none, none, none, none, some _, none, some _, none, some _])
                  (repeat (first | intro (b : Nat) | refine gg ?_))
                  (first | (apply G.stk; exact rfl; exact rfl; exact rfl; exact rfl; exact rfl; exact rfl; exact rfl; (· (repeat (first | exact Wr.nil | apply Wr.put | apply Wr.skip)))) | (apply G.st1; exact rfl; exact rfl; exact rfl; exact rfl; exact rfl; exact rfl; (· (repeat (first | exact Wr.nil | apply Wr.put | apply Wr.skip)))))
                  (repeat (first | intro (b : Nat) | refine gg ?_))
                  (repeat (first | intro (b : Nat) | refine go ?_))
                  (refine rettR ((b, .cells 240 [.int .i64 8]) :: (r, rdB s 8) :: F) ?_)
                  exact .inr ⟨by simp [clkOk, coV, b2, a1, c1, a2, c2, a3, eK, hv], _, _, _, rfl, rfl⟩
                · (repeat' (first | intro (b : Nat) | refine go ?_ | (refine br ?_ ?_ <;> first | exact trivial | intro hq) | refine L.call (h := by intro W hW; first | apply rvb hq (a_done r s 8 W (hW.cell (List.Mem.head _) rfl) (hW.cell (List.Mem.head _) rfl) hW.base) | apply rvb hv (a_ClockValid _ _ _ _ W hW.base)) (k := ?_) | refine gg ?_ | refine G.call (h := by intro W hW; first | apply rvb hq (a_done r s 8 W (hW.cell (List.Mem.head _) rfl) (hW.cell (List.Mem.head _) rfl) hW.base) | apply rvb hv (a_ClockValid _ _ _ _ W hW.base)) (k := ?_) | (apply C.draww (id := 6) 8 [none, none, none, none, some _, none, some _, none]) | (apply C.draww (id := 9) 8 [none, none, none, none, some _, none, some _, none]) | (apply C.draww (id := 16) 8 [none, none, none, none, some _, none, some _, none]) | (apply C.draww (id := 23) 8 [none, none, none, none, some _, none, some _, none])))
                  (refine rettR ((r, rdB s 8) :: F) ?_)
                  refine .inl ⟨by simp [clkOk, coV, b2, a1, c1, a2, c2, a3, eK, hv, frOk, hz], ?_, _, rfl⟩
                  show _ = Value.tuple #[.agg #[.int .i64 (numL s 0 2), .int .i64 (numL s 3 2), .int .i64 (numL s 6 2), .int .i64 (frK s 8)], .nilIface]
                  rw [eK]
                  rfl
            · have zd := (isB_iff.1 hd).1
              (refine L.tcallb r (h := by intro W hW; exact t_yes _ _ _ s 8 9 8 46 rfl rfl hs hd W hW) (k := ?_))
              (repeat (first | intro (b : Nat) | refine go ?_))
              (refine L.vcall (h := by intro W hW; exact a_run r s 9 hs (by omega) W (hW.cell (List.Mem.head _) rfl) (hW.cell (List.Mem.head _) rfl) hW.base) (k := ?_); intro v hR)
              obtain ⟨j, rfl, hj1, hj2⟩ := hR
              have hfr := fr_run hd hj1 hj2
              cases hr : inR (j : Int) 1 3
              · have hr' := inR_false.1 hr
                have hf : frOk s 8 = false := by rw [hfr]; exact decide_eq_false (by omega)
                (repeat' (first | intro (b : Nat) | refine go ?_ | (refine br ?_ ?_ <;> first | exact trivial | intro hq) | refine L.call (h := by intro W hW; apply rvb hr (a_within _ _ _ W hW.base)) (k := ?_)))
                ((repeat (refine C.seq ?_)); apply C.drawsw 8 bc (.cells 67 [.int .i64 0, .int .i64 0, .int .i64 0, .int .i64 0]) 9 [none, none, none, none, some _, none, some _, none, some _])
                (repeat (first | intro (b : Nat) | refine gg ?_))
                (first | (apply G.stk; exact rfl; exact rfl; exact rfl; exact rfl; exact rfl; exact rfl; exact rfl; (· (repeat (first | exact Wr.nil | apply Wr.put | apply Wr.skip)))) | (apply G.st1; exact rfl; exact rfl; exact rfl; exact rfl; exact rfl; exact rfl; (· (repeat (first | exact Wr.nil | apply Wr.put | apply Wr.skip)))))
                (repeat (first | intro (b : Nat) | refine gg ?_))
                (repeat (first | intro (b : Nat) | refine go ?_))
                (refine rettR ((b, .cells 240 [.int .i64 9]) :: (r, rdB s 9) :: F) ?_)
                exact .inr ⟨by simp [clkOk, coV, b2, a1, c1, a2, c2, a3, hf], _, _, _, rfl, rfl⟩
              · have hr' := inR_true.1 hr
                have haj : allD s 9 j = true := allD_iff.2 hj1
                have hbj := numL_bd haj
                clear hj1 hj2
                rcases (by omega : j = 1 ∨ j = 2 ∨ j = 3) with rfl | rfl | rfl
                · simp only [p10] at hbj
                  have eM : ∀ h : 9 + 1 = s.size, frK s 8 = numL s 9 1 * 10 * 10 := fun h => by
                    rw [frK_run (j := 1) (by omega) h]
                    show numL s 9 1 * 100 = numL s 9 1 * 10 * 10
                    first | rfl | omega
                  (repeat' (first | intro (b : Nat) | refine go ?_ | (refine br ?_ ?_ <;> first | exact trivial | intro hq) | refine L.call (h := by intro W hW; apply rvb hr (a_within _ _ _ W hW.base)) (k := ?_)))
                  (refine L.tcallb r (h := by intro W hW; exact n_yes _ _ _ s 9 10 9 1 _ _ rfl rfl rfl rfl hs (by omega) (by omega) haj W hW) (k := ?_))
                  (repeat (first | intro (b : Nat) | refine go ?_))
                  refine C.rounds 4 ?_
                  cases hq : decide ((10 : Int) = s.size)
                  · have hf : frOk s 8 = false := by rw [hfr]; exact decide_eq_false (by have := of_decide_eq_false hq; omega)
                    (repeat' (first | intro (b : Nat) | refine go ?_ | (refine br ?_ ?_ <;> first | exact trivial | intro hq) | refine L.call (h := by intro W hW; apply rvb hq (a_done r s 10 W (hW.cell (List.Mem.head _) rfl) (hW.cell (List.Mem.head _) rfl) hW.base)) (k := ?_)))
                    ((repeat (refine C.seq ?_)); apply C.drawsw 8 bc (.cells 67 [.int .i64 0, .int .i64 0, .int .i64 0, .int .i64 0]) 9 [none, none, none, none, some _, none, some _, none, some _])
                    (repeat (first | intro (b : Nat) | refine gg ?_))
                    (first | (apply G.stk; exact rfl; exact rfl; exact rfl; exact rfl; exact rfl; exact rfl; exact rfl; (· (repeat (first | exact Wr.nil | apply Wr.put | apply Wr.skip)))) | (apply G.st1; exact rfl; exact rfl; exact rfl; exact rfl; exact rfl; exact rfl; (· (repeat (first | exact Wr.nil | apply Wr.put | apply Wr.skip)))))
                    (repeat (first | intro (b : Nat) | refine gg ?_))
                    (repeat (first | intro (b : Nat) | refine go ?_))
                    (refine rettR ((b, .cells 240 [.int .i64 10]) :: (r, rdB s 10) :: F) ?_)
                    exact .inr ⟨by simp [clkOk, coV, b2, a1, c1, a2, c2, a3, hf], _, _, _, rfl, rfl⟩
                  · have hz : 9 + 1 = s.size := by have := of_decide_eq_true hq; omega
                    have hf : frOk s 8 = true := by rw [hfr]; exact decide_eq_true (by omega)
                    have eK := eM hz
                    clear eM hfr
                    cases hv : cval (numL s 0 2) (numL s 3 2) (numL s 6 2) (numL s 9 1 * 10 * 10)
                    · (repeat' (first | intro (b : Nat) | refine go ?_ | (refine br ?_ ?_ <;> first | exact trivial | intro hq) | refine L.call (h := by intro W hW; first | apply rvb hq (a_done r s 10 W (hW.cell (List.Mem.head _) rfl) (hW.cell (List.Mem.head _) rfl) hW.base) | apply rvb hv (a_ClockValid _ _ _ _ W hW.base)) (k := ?_)))
                      ((repeat (refine C.seq ?_)); apply C.drawsw 8 bc (.cells 67 [.int .i64 0, .int .i64 0, .int .i64 0, .int .i64 0]) 9 [none, none, none, none, some _, none, some _, none, some _])
                      (repeat (first | intro (b : Nat) | refine gg ?_))
                      (first | (apply G.stk; exact rfl; exact rfl; exact rfl; exact rfl; exact rfl; exact rfl; exact rfl; (· (repeat (first | exact Wr.nil | apply Wr.put | apply Wr.skip)))) | (apply G.st1; exact rfl; exact rfl; exact rfl; exact rfl; exact rfl; exact rfl; (· (repeat (first | exact Wr.nil | apply Wr.put | apply Wr.skip)))))
                      (repeat (first | intro (b : Nat) | refine gg ?_))
                      (repeat (first | intro (b : Nat) | refine go ?_))
                      (refine rettR ((b, .cells 240 [.int .i64 10]) :: (r, rdB s 10) :: F) ?_)
                      exact .inr ⟨by simp [clkOk, coV, b2, a1, c1, a2, c2, a3, eK, hv], _, _, _, rfl, rfl⟩
                    · (repeat' (first | intro (b : Nat) | refine go ?_ | (refine br ?_ ?_ <;> first | exact trivial | intro hq) | refine L.call (h := by intro W hW; first | apply rvb hq (a_done r s 10 W (hW.cell (List.Mem.head _) rfl) (hW.cell (List.Mem.head _) rfl) hW.base) | apply rvb hv (a_ClockValid _ _ _ _ W hW.base)) (k := ?_) | refine gg ?_ | refine G.call (h := by intro W hW; first | apply rvb hq (a_done r s 10 W (hW.cell (List.Mem.head _) rfl) (hW.cell (List.Mem.head _) rfl) hW.base) | apply rvb hv (a_ClockValid _ _ _ _ W hW.base)) (k := ?_) | (apply C.draww (id := 6) 8 [none, none, none, none, some _, none, some _, none]) | (apply C.draww (id := 9) 8 [none, none, none, none, some _, none, some _, none]) | (apply C.draww (id := 16) 8 [none, none, none, none, some _, none, some _, none]) | (apply C.draww (id := 23) 8 [none, none, none, none, some _, none, some _, none])))
                      (refine rettR ((r, rdB s 10) :: F) ?_)
                      refine .inl ⟨by simp [clkOk, coV, b2, a1, c1, a2, c2, a3, eK, hv, hf], ?_, _, rfl⟩
                      show _ = Value.tuple #[.agg #[.int .i64 (numL s 0 2), .int .i64 (numL s 3 2), .int .i64 (numL s 6 2), .int .i64 (frK s 8)], .nilIface]
                      rw [eK]
                      rfl
                · simp only [p10] at hbj
                  have eM : ∀ h : 9 + 2 = s.size, frK s 8 = numL s 9 2 * 10 := fun h => by
                    rw [frK_run (j := 2) (by omega) h]
                    show numL s 9 2 * 10 = numL s 9 2 * 10
                    first | rfl | omega
                  (repeat' (first | intro (b : Nat) | refine go ?_ | (refine br ?_ ?_ <;> first | exact trivial | intro hq) | refine L.call (h := by intro W hW; apply rvb hr (a_within _ _ _ W hW.base)) (k := ?_)))
                  (refine L.tcallb r (h := by intro W hW; exact n_yes _ _ _ s 9 11 9 2 _ _ rfl rfl rfl rfl hs (by omega) (by omega) haj W hW) (k := ?_))
                  (repeat (first | intro (b : Nat) | refine go ?_))
                  refine C.rounds 4 ?_
                  cases hq : decide ((11 : Int) = s.size)
                  · have hf : frOk s 8 = false := by rw [hfr]; exact decide_eq_false (by have := of_decide_eq_false hq; omega)
                    (repeat' (first | intro (b : Nat) | refine go ?_ | (refine br ?_ ?_ <;> first | exact trivial | intro hq) | refine L.call (h := by intro W hW; apply rvb hq (a_done r s 11 W (hW.cell (List.Mem.head _) rfl) (hW.cell (List.Mem.head _) rfl) hW.base)) (k := ?_)))
                    ((repeat (refine C.seq ?_)); apply C.drawsw 8 bc (.cells 67 [.int .i64 0, .int .i64 0, .int .i64 0, .int .i64 0]) 9 [none, none, none, none, some _, none, some _, none, some _])
                    (repeat (first | intro (b : Nat) | refine gg ?_))
                    (first | (apply G.stk; exact rfl; exact rfl; exact rfl; exact rfl; exact rfl; exact rfl; exact rfl; (· (repeat (first | exact Wr.nil | apply Wr.put | apply Wr.skip)))) | (apply G.st1; exact rfl; exact rfl; exact rfl; exact rfl; exact rfl; exact rfl; (· (repeat (first | exact Wr.nil | apply Wr.put | apply Wr.skip)))))
                    (repeat (first | intro (b : Nat) | refine gg ?_))
                    (repeat (first | intro (b : Nat) | refine go ?_))
                    (refine rettR ((b, .cells 240 [.int .i64 11]) :: (r, rdB s 11) :: F) ?_)
                    exact .inr ⟨by simp [clkOk, coV, b2, a1, c1, a2, c2, a3, hf], _, _, _, rfl, rfl⟩
                  · have hz : 9 + 2 = s.size := by have := of_decide_eq_true hq; omega
                    have hf : frOk s 8 = true := by rw [hfr]; exact decide_eq_true (by omega)
                    have eK := eM hz
                    clear eM hfr
                    cases hv : cval (numL s 0 2) (numL s 3 2) (numL s 6 2) (numL s 9 2 * 10)
                    · (repeat' (first | intro (b : Nat) | refine go ?_ | (refine br ?_ ?_ <;> first | exact trivial | intro hq) | refine L.call (h := by intro W hW; first | apply rvb hq (a_done r s 11 W (hW.cell (List.Mem.head _) rfl) (hW.cell (List.Mem.head _) rfl) hW.base) | apply rvb hv (a_ClockValid _ _ _ _ W hW.base)) (k := ?_)))
                      ((repeat (refine C.seq ?_)); apply C.drawsw 8 bc (.cells 67 [.int .i64 0, .int .i64 0, .int .i64 0, .int .i64 0]) 9 [none, none, none, none, some _, none, some _, none, some _])
                      (repeat (first | intro (b : Nat) | refine gg ?_))
                      (first | (apply G.stk; exact rfl; exact rfl; exact rfl; exact rfl; exact rfl; exact rfl; exact rfl; (· (repeat (first | exact Wr.nil | apply Wr.put | apply Wr.skip)))) | (apply G.st1; exact rfl; exact rfl; exact rfl; exact rfl; exact rfl; exact rfl; (· (repeat (first | exact Wr.nil | apply Wr.put | apply Wr.skip)))))
                      (repeat (first | intro (b : Nat) | refine gg ?_))
                      (repeat (first | intro (b : Nat) | refine go ?_))
                      (refine rettR ((b, .cells 240 [.int .i64 11]) :: (r, rdB s 11) :: F) ?_)
                      exact .inr ⟨by simp [clkOk, coV, b2, a1, c1, a2, c2, a3, eK, hv], _, _, _, rfl, rfl⟩
                    · (repeat' (first | intro (b : Nat) | refine go ?_ | (refine br ?_ ?_ <;> first | exact trivial | intro hq) | refine L.call (h := by intro W hW; first | apply rvb hq (a_done r s 11 W (hW.cell (List.Mem.head _) rfl) (hW.cell (List.Mem.head _) rfl) hW.base) | apply rvb hv (a_ClockValid _ _ _ _ W hW.base)) (k := ?_) | refine gg ?_ | refine G.call (h := by intro W hW; first | apply rvb hq (a_done r s 11 W (hW.cell (List.Mem.head _) rfl) (hW.cell (List.Mem.head _) rfl) hW.base) | apply rvb hv (a_ClockValid _ _ _ _ W hW.base)) (k := ?_) | (apply C.draww (id := 6) 8 [none, none, none, none, some _, none, some _, none]) | (apply C.draww (id := 9) 8 [none, none, none, none, some _, none, some _, none]) | (apply C.draww (id := 16) 8 [none, none, none, none, some _, none, some _, none]) | (apply C.draww (id := 23) 8 [none, none, none, none, some _, none, some _, none])))
                      (refine rettR ((r, rdB s 11) :: F) ?_)
                      refine .inl ⟨by simp [clkOk, coV, b2, a1, c1, a2, c2, a3, eK, hv, hf], ?_, _, rfl⟩
                      show _ = Value.tuple #[.agg #[.int .i64 (numL s 0 2), .int .i64 (numL s 3 2), .int .i64 (numL s 6 2), .int .i64 (frK s 8)], .nilIface]
                      rw [eK]
                      rfl
                · simp only [p10] at hbj
                  have eM : ∀ h : 9 + 3 = s.size, frK s 8 = numL s 9 3 := fun h => by
                    rw [frK_run (j := 3) (by omega) h]
                    show numL s 9 3 * 1 = numL s 9 3
                    first | rfl | omega
                  (repeat' (first | intro (b : Nat) | refine go ?_ | (refine br ?_ ?_ <;> first | exact trivial | intro hq) | refine L.call (h := by intro W hW; apply rvb hr (a_within _ _ _ W hW.base)) (k := ?_)))
                  (refine L.tcallb r (h := by intro W hW; exact n_yes _ _ _ s 9 12 9 3 _ _ rfl rfl rfl rfl hs (by omega) (by omega) haj W hW) (k := ?_))
                  (repeat (first | intro (b : Nat) | refine go ?_))
                  refine C.rounds 4 ?_
                  cases hq : decide ((12 : Int) = s.size)
                  · have hf : frOk s 8 = false := by rw [hfr]; exact decide_eq_false (by have := of_decide_eq_false hq; omega)
                    (repeat' (first | intro (b : Nat) | refine go ?_ | (refine br ?_ ?_ <;> first | exact trivial | intro hq) | refine L.call (h := by intro W hW; apply rvb hq (a_done r s 12 W (hW.cell (List.Mem.head _) rfl) (hW.cell (List.Mem.head _) rfl) hW.base)) (k := ?_)))
                    ((repeat (refine C.seq ?_)); apply C.drawsw 8 bc (.cells 67 [.int .i64 0, .int .i64 0, .int .i64 0, .int .i64 0]) 9 [none, none, none, none, some _, none, some _, none, some _])
                    (repeat (first | intro (b : Nat) | refine gg ?_))
                    (first | (apply G.stk; exact rfl; exact rfl; exact rfl; exact rfl; exact rfl; exact rfl; exact rfl; (· (repeat (first | exact Wr.nil | apply Wr.put | apply Wr.skip)))) | (apply G.st1; exact rfl; exact rfl; exact rfl; exact rfl; exact rfl; exact rfl; (· (repeat (first | exact Wr.nil | apply Wr.put | apply Wr.skip)))))
                    (repeat (first | intro (b : Nat) | refine gg ?_))
                    (repeat (first | intro (b : Nat) | refine go ?_))
                    (refine rettR ((b, .cells 240 [.int .i64 12]) :: (r, rdB s 12) :: F) ?_)
                    exact .inr ⟨by simp [clkOk, coV, b2, a1, c1, a2, c2, a3, hf], _, _, _, rfl, rfl⟩
                  · have hz : 9 + 3 = s.size := by have := of_decide_eq_true hq; omega
                    have hf : frOk s 8 = true := by rw [hfr]; exact decide_eq_true (by omega)
                    have eK := eM hz
                    clear eM hfr
                    cases hv : cval (numL s 0 2) (numL s 3 2) (numL s 6 2) (numL s 9 3)
                    · (repeat' (first | intro (b : Nat) | refine go ?_ | (refine br ?_ ?_ <;> first | exact trivial | intro hq) | refine L.call (h := by intro W hW; first | apply rvb hq (a_done r s 12 W (hW.cell (List.Mem.head _) rfl) (hW.cell (List.Mem.head _) rfl) hW.base) | apply rvb hv (a_ClockValid _ _ _ _ W hW.base)) (k := ?_)))
                      ((repeat (refine C.seq ?_)); apply C.drawsw 8 bc (.cells 67 [.int .i64 0, .int .i64 0, .int .i64 0, .int .i64 0]) 9 [none, none, none, none, some _, none, some _, none, some _])
                      (repeat (first | intro (b : Nat) | refine gg ?_))
                      (first | (apply G.stk; exact rfl; exact rfl; exact rfl; exact rfl; exact rfl; exact rfl; exact rfl; (· (repeat (first | exact Wr.nil | apply Wr.put | apply Wr.skip)))) | (apply G.st1; exact rfl; exact rfl; exact rfl; exact rfl; exact rfl; exact rfl; (· (repeat (first | exact Wr.nil | apply Wr.put | apply Wr.skip)))))
                      (repeat (first | intro (b : Nat) | refine gg ?_))
                      (repeat (first | intro (b : Nat) | refine go ?_))
                      (refine rettR ((b, .cells 240 [.int .i64 12]) :: (r, rdB s 12) :: F) ?_)
                      exact .inr ⟨by simp [clkOk, coV, b2, a1, c1, a2, c2, a3, eK, hv], _, _, _, rfl, rfl⟩
                    · (repeat' (first | intro (b : Nat) | refine go ?_ | (refine br ?_ ?_ <;> first | exact trivial | intro hq) | refine L.call (h := by intro W hW; first | apply rvb hq (a_done r s 12 W (hW.cell (List.Mem.head _) rfl) (hW.cell (List.Mem.head _) rfl) hW.base) | apply rvb hv (a_ClockValid _ _ _ _ W hW.base)) (k := ?_) | refine gg ?_ | refine G.call (h := by intro W hW; first | apply rvb hq (a_done r s 12 W (hW.cell (List.Mem.head _) rfl) (hW.cell (List.Mem.head _) rfl) hW.base) | apply rvb hv (a_ClockValid _ _ _ _ W hW.base)) (k := ?_) | (apply C.draww (id := 6) 8 [none, none, none, none, some _, none, some _, none]) | (apply C.draww (id := 9) 8 [none, none, none, none, some _, none, some _, none]) | (apply C.draww (id := 16) 8 [none, none, none, none, some _, none, some _, none]) | (apply C.draww (id := 23) 8 [none, none, none, none, some _, none, some _, none])))
                      (refine rettR ((r, rdB s 12) :: F) ?_)
                      refine .inl ⟨by simp [clkOk, coV, b2, a1, c1, a2, c2, a3, eK, hv, hf], ?_, _, rfl⟩
                      show _ = Value.tuple #[.agg #[.int .i64 (numL s 0 2), .int .i64 (numL s 3 2), .int .i64 (numL s 6 2), .int .i64 (frK s 8)], .nilIface]
                      rw [eK]
                      rfl

theorem a_clock0 (w0 : World) (F : SH) (r : Nat) (s : ByteArray) (hs : s.size ≤ 1000000000000) (w : World) (hst : St w0 ((r, rdB s 0) :: F) w) :
    Calls Tryz.prog 200 #[.pointer (some ⟨r, 0, none⟩), .bool false] w (TurnsR w0 (ClkR s false r F)) := by
  refine enterl Tryz.func200 rfl Tryz.ntmps200 rfl hst ?_
  (repeat (first | intro (b : Nat) | refine go ?_))
  rename_i bc
  refine C.rounds 5 ?_
  (repeat (first | intro (b : Nat) | refine go ?_))
  cases a1 : allD s 0 2
  · (refine L.tcallb r (h := by intro W hW; exact n_no _ _ _ s 0 0 2 2 rfl rfl hs (by omega) (by omega) a1 W hW) (k := ?_))
    (repeat' (first | intro (b : Nat) | refine go ?_ | (refine br ?_ ?_ <;> first | exact trivial | intro hq)))
    ((repeat (refine C.seq ?_)); apply C.drawsw 8 bc (.cells 67 [.int .i64 0, .int .i64 0, .int .i64 0, .int .i64 0]) 9 [none, none, none, none, some _, none, some _, none, some _])
    (repeat (first | intro (b : Nat) | refine gg ?_))
    (first | (apply G.stk; exact rfl; exact rfl; exact rfl; exact rfl; exact rfl; exact rfl; exact rfl; (· (repeat (first | exact Wr.nil | apply Wr.put | apply Wr.skip)))) | (apply G.st1; exact rfl; exact rfl; exact rfl; exact rfl; exact rfl; exact rfl; (· (repeat (first | exact Wr.nil | apply Wr.put | apply Wr.skip)))))
    (repeat (first | intro (b : Nat) | refine gg ?_))
    (repeat (first | intro (b : Nat) | refine go ?_))
    (refine rettR ((b, .cells 240 [.int .i64 0]) :: (r, rdB s 0) :: F) ?_)
    exact .inr ⟨by simp [clkOk, coV, b2, a1], _, _, _, rfl, rfl⟩
  · have za1 := isD_lt (allD_iff.1 a1 1 (by omega))
    (refine L.tcallb r (h := by intro W hW; exact n_yes _ _ _ s 0 2 0 2 2 _ rfl rfl rfl rfl hs (by omega) (by omega) a1 W hW) (k := ?_))
    (repeat (first | intro (b : Nat) | refine go ?_))
    cases a2 : allD s 2 2
    · (refine L.tcallb r (h := by intro W hW; exact n_no _ _ _ s 2 2 2 2 rfl rfl hs (by omega) (by omega) a2 W hW) (k := ?_))
      (repeat' (first | intro (b : Nat) | refine go ?_ | (refine br ?_ ?_ <;> first | exact trivial | intro hq)))
      ((repeat (refine C.seq ?_)); apply C.drawsw 8 bc (.cells 67 [.int .i64 0, .int .i64 0, .int .i64 0, .int .i64 0]) 9 [none, none, none, none, some _, none, some _, none, some _])
      (repeat (first | intro (b : Nat) | refine gg ?_))
      (first | (apply G.stk; exact rfl; exact rfl; exact rfl; exact rfl; exact rfl; exact rfl; exact rfl; (· (repeat (first | exact Wr.nil | apply Wr.put | apply Wr.skip)))) | (apply G.st1; exact rfl; exact rfl; exact rfl; exact rfl; exact rfl; exact rfl; (· (repeat (first | exact Wr.nil | apply Wr.put | apply Wr.skip)))))
      (repeat (first | intro (b : Nat) | refine gg ?_))
      (repeat (first | intro (b : Nat) | refine go ?_))
      (refine rettR ((b, .cells 240 [.int .i64 2]) :: (r, rdB s 2) :: F) ?_)
      exact .inr ⟨by simp [clkOk, coV, b2, a1, a2], _, _, _, rfl, rfl⟩
    · have za2 := isD_lt (allD_iff.1 a2 1 (by omega))
      (refine L.tcallb r (h := by intro W hW; exact n_yes _ _ _ s 2 4 2 2 2 _ rfl rfl rfl rfl hs (by omega) (by omega) a2 W hW) (k := ?_))
      (repeat (first | intro (b : Nat) | refine go ?_))
      cases a3 : allD s 4 2
      · (refine L.tcallb r (h := by intro W hW; exact n_no _ _ _ s 4 4 2 2 rfl rfl hs (by omega) (by omega) a3 W hW) (k := ?_))
        (repeat' (first | intro (b : Nat) | refine go ?_ | (refine br ?_ ?_ <;> first | exact trivial | intro hq)))
        ((repeat (refine C.seq ?_)); apply C.drawsw 8 bc (.cells 67 [.int .i64 0, .int .i64 0, .int .i64 0, .int .i64 0]) 9 [none, none, none, none, some _, none, some _, none, some _])
        (repeat (first | intro (b : Nat) | refine gg ?_))
        (first | (apply G.stk; exact rfl; exact rfl; exact rfl; exact rfl; exact rfl; exact rfl; exact rfl; (· (repeat (first | exact Wr.nil | apply Wr.put | apply Wr.skip)))) | (apply G.st1; exact rfl; exact rfl; exact rfl; exact rfl; exact rfl; exact rfl; (· (repeat (first | exact Wr.nil | apply Wr.put | apply Wr.skip)))))
        (repeat (first | intro (b : Nat) | refine gg ?_))
        (repeat (first | intro (b : Nat) | refine go ?_))
        (refine rettR ((b, .cells 240 [.int .i64 4]) :: (r, rdB s 4) :: F) ?_)
        exact .inr ⟨by simp [clkOk, coV, b2, a1, a2, a3], _, _, _, rfl, rfl⟩
      · have za3 := isD_lt (allD_iff.1 a3 1 (by omega))
        (refine L.tcallb r (h := by intro W hW; exact n_yes _ _ _ s 4 6 4 2 2 _ rfl rfl rfl rfl hs (by omega) (by omega) a3 W hW) (k := ?_))
        (repeat (first | intro (b : Nat) | refine go ?_))
        cases hd : isB s 6 46
        · (refine L.tcallb r (h := by intro W hW; exact t_no _ _ _ s 6 6 46 rfl hs (by omega) hd W hW) (k := ?_))
          cases hq : decide ((6 : Int) = s.size)
          · have hne : ¬ s.size = 6 := by have := of_decide_eq_false hq; omega
            (repeat' (first | intro (b : Nat) | refine go ?_ | (refine br ?_ ?_ <;> first | exact trivial | intro hq) | refine L.call (h := by intro W hW; apply rvb hq (a_done r s 6 W (hW.cell (List.Mem.head _) rfl) (hW.cell (List.Mem.head _) rfl) hW.base)) (k := ?_)))
            ((repeat (refine C.seq ?_)); apply C.drawsw 8 bc (.cells 67 [.int .i64 0, .int .i64 0, .int .i64 0, .int .i64 0]) 9 [none, none, none, none, some _, none, some _, none, some _])
            (repeat (first | intro (b : Nat) | refine gg ?_))
            (first | (apply G.stk; exact rfl; exact rfl; exact rfl; exact rfl; exact rfl; exact rfl; exact rfl; (· (repeat (first | exact Wr.nil | apply Wr.put | apply Wr.skip)))) | (apply G.st1; exact rfl; exact rfl; exact rfl; exact rfl; exact rfl; exact rfl; (· (repeat (first | exact Wr.nil | apply Wr.put | apply Wr.skip)))))
            (repeat (first | intro (b : Nat) | refine gg ?_))
            (repeat (first | intro (b : Nat) | refine go ?_))
            (refine rettR ((b, .cells 240 [.int .i64 6]) :: (r, rdB s 6) :: F) ?_)
            exact .inr ⟨by simp [clkOk, coV, b2, frOk, a1, a2, a3, hd, hne], _, _, _, rfl, rfl⟩
          · have hz : s.size = 6 := by have := of_decide_eq_true hq; omega
            have eK : frK s 6 = 0 := if_pos hz
            cases hv : cval (numL s 0 2) (numL s 2 2) (numL s 4 2) 0
            · (repeat' (first | intro (b : Nat) | refine go ?_ | (refine br ?_ ?_ <;> first | exact trivial | intro hq) | refine L.call (h := by intro W hW; first | apply rvb hq (a_done r s 6 W (hW.cell (List.Mem.head _) rfl) (hW.cell (List.Mem.head _) rfl) hW.base) | apply rvb hv (a_ClockValid _ _ _ _ W hW.base)) (k := ?_)))
              ((repeat (refine C.seq ?_)); apply C.drawsw 8 bc (.cells 67 [.int .i64 0, .int .i64 0, .int .i64 0, .int .i64 0]) 9 [none, none, none, none, some _, none, some _, none, some _])
              (repeat (first | intro (b : Nat) | refine gg ?_))
              (first | (apply G.stk; exact rfl; exact rfl; exact rfl; exact rfl; exact rfl; exact rfl; exact rfl; (· (repeat (first | exact Wr.nil | apply Wr.put | apply Wr.skip)))) | (apply G.st1; exact rfl; exact rfl; exact rfl; exact rfl; exact rfl; exact rfl; (· (repeat (first | exact Wr.nil | apply Wr.put | apply Wr.skip)))))
              (repeat (first | intro (b : Nat) | refine gg ?_))
              (repeat (first | intro (b : Nat) | refine go ?_))
              (refine rettR ((b, .cells 240 [.int .i64 6]) :: (r, rdB s 6) :: F) ?_)
              exact .inr ⟨by simp [clkOk, coV, b2, a1, a2, a3, eK, hv], _, _, _, rfl, rfl⟩
            · (repeat' (first | intro (b : Nat) | refine go ?_ | (refine br ?_ ?_ <;> first | exact trivial | intro hq) | refine L.call (h := by intro W hW; first | apply rvb hq (a_done r s 6 W (hW.cell (List.Mem.head _) rfl) (hW.cell (List.Mem.head _) rfl) hW.base) | apply rvb hv (a_ClockValid _ _ _ _ W hW.base)) (k := ?_) | refine gg ?_ | refine G.call (h := by intro W hW; first | apply rvb hq (a_done r s 6 W (hW.cell (List.Mem.head _) rfl) (hW.cell (List.Mem.head _) rfl) hW.base) | apply rvb hv (a_ClockValid _ _ _ _ W hW.base)) (k := ?_) | (apply C.draww (id := 6) 8 [none, none, none, none, some _, none, some _, none]) | (apply C.draww (id := 9) 8 [none, none, none, none, some _, none, some _, none]) | (apply C.draww (id := 16) 8 [none, none, none, none, some _, none, some _, none]) | (apply C.draww (id := 23) 8 [none, none, none, none, some _, none, some _, none])))
              (refine rettR ((r, rdB s 6) :: F) ?_)
              refine .inl ⟨by simp [clkOk, coV, b2, a1, a2, a3, eK, hv, frOk, hz], ?_, _, rfl⟩
              show _ = Value.tuple #[.agg #[.int .i64 (numL s 0 2), .int .i64 (numL s 2 2), .int .i64 (numL s 4 2), .int .i64 (frK s 6)], .nilIface]
              rw [eK]
              rfl
        · have zd := (isB_iff.1 hd).1
          (refine L.tcallb r (h := by intro W hW; exact t_yes _ _ _ s 6 7 6 46 rfl rfl hs hd W hW) (k := ?_))
          (repeat (first | intro (b : Nat) | refine go ?_))
          (refine L.vcall (h := by intro W hW; exact a_run r s 7 hs (by omega) W (hW.cell (List.Mem.head _) rfl) (hW.cell (List.Mem.head _) rfl) hW.base) (k := ?_); intro v hR)
          obtain ⟨j, rfl, hj1, hj2⟩ := hR
          have hfr := fr_run hd hj1 hj2
          cases hr : inR (j : Int) 1 3
          · have hr' := inR_false.1 hr
            have hf : frOk s 6 = false := by rw [hfr]; exact decide_eq_false (by omega)
            (repeat' (first | intro (b : Nat) | refine go ?_ | (refine br ?_ ?_ <;> first | exact trivial | intro hq) | refine L.call (h := by intro W hW; apply rvb hr (a_within _ _ _ W hW.base)) (k := ?_)))
            ((repeat (refine C.seq ?_)); apply C.drawsw 8 bc (.cells 67 [.int .i64 0, .int .i64 0, .int .i64 0, .int .i64 0]) 9 [none, none, none, none, some _, none, some _, none, some _])
            (repeat (first | intro (b : Nat) | refine gg ?_))
            (first | (apply G.stk; exact rfl; exact rfl; exact rfl; exact rfl; exact rfl; exact rfl; exact rfl; (· (repeat (first | exact Wr.nil | apply Wr.put | apply Wr.skip)))) | (apply G.st1; exact rfl; exact rfl; exact rfl; exact rfl; exact rfl; exact rfl; (· (repeat (first | exact Wr.nil | apply Wr.put | apply Wr.skip)))))
            (repeat (first | intro (b : Nat) | refine gg ?_))
            (repeat (first | intro (b : Nat) | refine go ?_))
            (refine rettR ((b, .cells 240 [.int .i64 7]) :: (r, rdB s 7) :: F) ?_)
            exact .inr ⟨by simp [clkOk, coV, b2, a1, a2, a3, hf], _, _, _, rfl, rfl⟩
          · have hr' := inR_true.1 hr
            have haj : allD s 7 j = true := allD_iff.2 hj1
            have hbj := numL_bd haj
            clear hj1 hj2
            rcases (by omega : j = 1 ∨ j = 2 ∨ j = 3) with rfl | rfl | rfl
            · simp only [p10] at hbj
              have eM : ∀ h : 7 + 1 = s.size, frK s 6 = numL s 7 1 * 10 * 10 := fun h => by
                rw [frK_run (j := 1) (by omega) h]
                show numL s 7 1 * 100 = numL s 7 1 * 10 * 10
                first | rfl | omega
              (repeat' (first | intro (b : Nat) | refine go ?_ | (refine br ?_ ?_ <;> first | exact trivial | intro hq) | refine L.call (h := by intro W hW; apply rvb hr (a_within _ _ _ W hW.base)) (k := ?_)))
              (refine L.tcallb r (h := by intro W hW; exact n_yes _ _ _ s 7 8 7 1 _ _ rfl rfl rfl rfl hs (by omega) (by omega) haj W hW) (k := ?_))
              (repeat (first | intro (b : Nat) | refine go ?_))
              refine C.rounds 4 ?_
              cases hq : decide ((8 : Int) = s.size)
              · have hf : frOk s 6 = false := by rw [hfr]; exact decide_eq_false (by have := of_decide_eq_false hq; omega)
                (repeat' (first | intro (b : Nat) | refine go ?_ | (refine br ?_ ?_ <;> first | exact trivial | intro hq) | refine L.call (h := by intro W hW; apply rvb hq (a_done r s 8 W (hW.cell (List.Mem.head _) rfl) (hW.cell (List.Mem.head _) rfl) hW.base)) (k := ?_)))
                ((repeat (refine C.seq ?_)); apply C.drawsw 8 bc (.cells 67 [.int .i64 0, .int .i64 0, .int .i64 0, .int .i64 0]) 9 [none, none, none, none, some _, none, some _, none, some _])
                (repeat (first | intro (b : Nat) | refine gg ?_))
                (first | (apply G.stk; exact rfl; exact rfl; exact rfl; exact rfl; exact rfl; exact rfl; exact rfl; (· (repeat (first | exact Wr.nil | apply Wr.put | apply Wr.skip)))) | (apply G.st1; exact rfl; exact rfl; exact rfl; exact rfl; exact rfl; exact rfl; (· (repeat (first | exact Wr.nil | apply Wr.put | apply Wr.skip)))))
                (repeat (first | intro (b : Nat) | refine gg ?_))
                (repeat (first | intro (b : Nat) | refine go ?_))
                (refine rettR ((b, .cells 240 [.int .i64 8]) :: (r, rdB s 8) :: F) ?_)
                exact .inr ⟨by simp [clkOk, coV, b2, a1, a2, a3, hf], _, _, _, rfl, rfl⟩
              · have hz : 7 + 1 = s.size := by have := of_decide_eq_true hq; omega
                have hf : frOk s 6 = true := by rw [hfr]; exact decide_eq_true (by omega)
                have eK := eM hz
                clear eM hfr
                cases hv : cval (numL s 0 2) (numL s 2 2) (numL s 4 2) (numL s 7 1 * 10 * 10)
                · (repeat' (first | intro (b : Nat) | refine go ?_ | (refine br ?_ ?_ <;> first | exact trivial | intro hq) | refine L.call (h := by intro W hW; first | apply rvb hq (a_done r s 8 W (hW.cell (List.Mem.head _) rfl) (hW.cell (List.Mem.head _) rfl) hW.base) | apply rvb hv (a_ClockValid _ _ _ _ W hW.base)) (k := ?_)))
                  ((repeat (refine C.seq ?_)); apply C.drawsw 8 bc (.cells 67 [.int .i64 0, .int .i64 0, .int .i64 0, .int .i64 0]) 9 [none, none, none, none, some _, none, some _, none, some _])
                  (repeat (first | intro (b : Nat) | refine gg ?_))
                  (first | (apply G.stk; exact rfl; exact rfl; exact rfl; exact rfl; exact rfl; exact rfl; exact rfl; (· (repeat (first | exact Wr.nil | apply Wr.put | apply Wr.skip)))) | (apply G.st1; exact rfl; exact rfl; exact rfl; exact rfl; exact rfl; exact rfl; (· (repeat (first | exact Wr.nil | apply Wr.put | apply Wr.skip)))))
                  (repeat (first | intro (b : Nat) | refine gg ?_))
                  (repeat (first | intro (b : Nat) | refine go ?_))
                  (refine rettR ((b, .cells 240 [.int .i64 8]) :: (r, rdB s 8) :: F) ?_)
                  exact .inr ⟨by simp [clkOk, coV, b2, a1, a2, a3, eK, hv], _, _, _, rfl, rfl⟩
                · (repeat' (first | intro (b : Nat) | refine go ?_ | (refine br ?_ ?_ <;> first | exact trivial | intro hq) | refine L.call (h := by intro W hW; first | apply rvb hq (a_done r s 8 W (hW.cell (List.Mem.head _) rfl) (hW.cell (List.Mem.head _) rfl) hW.base) | apply rvb hv (a_ClockValid _ _ _ _ W hW.base)) (k := ?_) | refine gg ?_ | refine G.call (h := by intro W hW; first | apply rvb hq (a_done r s 8 W (hW.cell (List.Mem.head _) rfl) (hW.cell (List.Mem.head _) rfl) hW.base) | apply rvb hv (a_ClockValid _ _ _ _ W hW.base)) (k := ?_) | (apply C.draww (id := 6) 8 [none, none, none, none, some _, none, some _, none]) | (apply C.draww (id := 9) 8 [none, none, none, none, some _, none, some _, none]) | (apply C.draww (id := 16) 8 [none, none, none, none, some _, none, some _, none]) | (apply C.draww (id := 23) 8 [none, none, none, none, some _, none, some _, none])))
                  (refine rettR ((r, rdB s 8) :: F) ?_)
                  refine .inl ⟨by simp [clkOk, coV, b2, a1, a2, a3, eK, hv, hf], ?_, _, rfl⟩
                  show _ = Value.tuple #[.agg #[.int .i64 (numL s 0 2), .int .i64 (numL s 2 2), .int .i64 (numL s 4 2), .int .i64 (frK s 6)], .nilIface]
                  rw [eK]
                  rfl
            · simp only [p10] at hbj
              have eM : ∀ h : 7 + 2 = s.size, frK s 6 = numL s 7 2 * 10 := fun h => by
                rw [frK_run (j := 2) (by omega) h]
                show numL s 7 2 * 10 = numL s 7 2 * 10
                first | rfl | omega
              (repeat' (first | intro (b : Nat) | refine go ?_ | (refine br ?_ ?_ <;> first | exact trivial | intro hq) | refine L.call (h := by intro W hW; apply rvb hr (a_within _ _ _ W hW.base)) (k := ?_)))
              (refine L.tcallb r (h := by intro W hW; exact n_yes _ _ _ s 7 9 7 2 _ _ rfl rfl rfl rfl hs (by omega) (by omega) haj W hW) (k := ?_))
              (repeat (first | intro (b : Nat) | refine go ?_))
              refine C.rounds 4 ?_
              cases hq : decide ((9 : Int) = s.size)
              · have hf : frOk s 6 = false := by rw [hfr]; exact decide_eq_false (by have := of_decide_eq_false hq; omega)
                (repeat' (first | intro (b : Nat) | refine go ?_ | (refine br ?_ ?_ <;> first | exact trivial | intro hq) | refine L.call (h := by intro W hW; apply rvb hq (a_done r s 9 W (hW.cell (List.Mem.head _) rfl) (hW.cell (List.Mem.head _) rfl) hW.base)) (k := ?_)))
                ((repeat (refine C.seq ?_)); apply C.drawsw 8 bc (.cells 67 [.int .i64 0, .int .i64 0, .int .i64 0, .int .i64 0]) 9 [none, none, none, none, some _, none, some _, none, some _])
                (repeat (first | intro (b : Nat) | refine gg ?_))
                (first | (apply G.stk; exact rfl; exact rfl; exact rfl; exact rfl; exact rfl; exact rfl; exact rfl; (· (repeat (first | exact Wr.nil | apply Wr.put | apply Wr.skip)))) | (apply G.st1; exact rfl; exact rfl; exact rfl; exact rfl; exact rfl; exact rfl; (· (repeat (first | exact Wr.nil | apply Wr.put | apply Wr.skip)))))
                (repeat (first | intro (b : Nat) | refine gg ?_))
                (repeat (first | intro (b : Nat) | refine go ?_))
                (refine rettR ((b, .cells 240 [.int .i64 9]) :: (r, rdB s 9) :: F) ?_)
                exact .inr ⟨by simp [clkOk, coV, b2, a1, a2, a3, hf], _, _, _, rfl, rfl⟩
              · have hz : 7 + 2 = s.size := by have := of_decide_eq_true hq; omega
                have hf : frOk s 6 = true := by rw [hfr]; exact decide_eq_true (by omega)
                have eK := eM hz
                clear eM hfr
                cases hv : cval (numL s 0 2) (numL s 2 2) (numL s 4 2) (numL s 7 2 * 10)
                · (repeat' (first | intro (b : Nat) | refine go ?_ | (refine br ?_ ?_ <;> first | exact trivial | intro hq) | refine L.call (h := by intro W hW; first | apply rvb hq (a_done r s 9 W (hW.cell (List.Mem.head _) rfl) (hW.cell (List.Mem.head _) rfl) hW.base) | apply rvb hv (a_ClockValid _ _ _ _ W hW.base)) (k := ?_)))
                  ((repeat (refine C.seq ?_)); apply C.drawsw 8 bc (.cells 67 [.int .i64 0, .int .i64 0, .int .i64 0, .int .i64 0]) 9 [none, none, none, none, some _, none, some _, none, some _])
                  (repeat (first | intro (b : Nat) | refine gg ?_))
                  (first | (apply G.stk; exact rfl; exact rfl; exact rfl; exact rfl; exact rfl; exact rfl; exact rfl; (· (repeat (first | exact Wr.nil | apply Wr.put | apply Wr.skip)))) | (apply G.st1; exact rfl; exact rfl; exact rfl; exact rfl; exact rfl; exact rfl; (· (repeat (first | exact Wr.nil | apply Wr.put | apply Wr.skip)))))
                  (repeat (first | intro (b : Nat) | refine gg ?_))
                  (repeat (first | intro (b : Nat) | refine go ?_))
                  (refine rettR ((b, .cells 240 [.int .i64 9]) :: (r, rdB s 9) :: F) ?_)
                  exact .inr ⟨by simp [clkOk, coV, b2, a1, a2, a3, eK, hv], _, _, _, rfl, rfl⟩
                · (repeat' (first | intro (b : Nat) | refine go ?_ | (refine br ?_ ?_ <;> first | exact trivial | intro hq) | refine L.call (h := by intro W hW; first | apply rvb hq (a_done r s 9 W (hW.cell (List.Mem.head _) rfl) (hW.cell (List.Mem.head _) rfl) hW.base) | apply rvb hv (a_ClockValid _ _ _ _ W hW.base)) (k := ?_) | refine gg ?_ | refine G.call (h := by intro W hW; first | apply rvb hq (a_done r s 9 W (hW.cell (List.Mem.head _) rfl) (hW.cell (List.Mem.head _) rfl) hW.base) | apply rvb hv (a_ClockValid _ _ _ _ W hW.base)) (k := ?_) | (apply C.draww (id := 6) 8 [none, none, none, none, some _, none, some _, none]) | (apply C.draww (id := 9) 8 [none, none, none, none, some _, none, some _, none]) | (apply C.draww (id := 16) 8 [none, none, none, none, some _, none, some _, none]) | (apply C.draww (id := 23) 8 [none, none, none, none, some _, none, some _, none])))
                  (refine rettR ((r, rdB s 9) :: F) ?_)
                  refine .inl ⟨by simp [clkOk, coV, b2, a1, a2, a3, eK, hv, hf], ?_, _, rfl⟩
                  show _ = Value.tuple #[.agg #[.int .i64 (numL s 0 2), .int .i64 (numL s 2 2), .int .i64 (numL s 4 2), .int .i64 (frK s 6)], .nilIface]
                  rw [eK]
                  rfl
            · simp only [p10] at hbj
              have eM : ∀ h : 7 + 3 = s.size, frK s 6 = numL s 7 3 := fun h => by
                rw [frK_run (j := 3) (by omega) h]
                show numL s 7 3 * 1 = numL s 7 3
                first | rfl | omega
              (repeat' (first | intro (b : Nat) | refine go ?_ | (refine br ?_ ?_ <;> first | exact trivial | intro hq) | refine L.call (h := by intro W hW; apply rvb hr (a_within _ _ _ W hW.base)) (k := ?_)))
              (refine L.tcallb r (h := by intro W hW; exact n_yes _ _ _ s 7 10 7 3 _ _ rfl rfl rfl rfl hs (by omega) (by omega) haj W hW) (k := ?_))
              (repeat (first | intro (b : Nat) | refine go ?_))
              refine C.rounds 4 ?_
              cases hq : decide ((10 : Int) = s.size)
              · have hf : frOk s 6 = false := by rw [hfr]; exact decide_eq_false (by have := of_decide_eq_false hq; omega)
                (repeat' (first | intro (b : Nat) | refine go ?_ | (refine br ?_ ?_ <;> first | exact trivial | intro hq) | refine L.call (h := by intro W hW; apply rvb hq (a_done r s 10 W (hW.cell (List.Mem.head _) rfl) (hW.cell (List.Mem.head _) rfl) hW.base)) (k := ?_)))
                ((repeat (refine C.seq ?_)); apply C.drawsw 8 bc (.cells 67 [.int .i64 0, .int .i64 0, .int .i64 0, .int .i64 0]) 9 [none, none, none, none, some _, none, some _, none, some _])
                (repeat (first | intro (b : Nat) | refine gg ?_))
                (first | (apply G.stk; exact rfl; exact rfl; exact rfl; exact rfl; exact rfl; exact rfl; exact rfl; (· (repeat (first | exact Wr.nil | apply Wr.put | apply Wr.skip)))) | (apply G.st1; exact rfl; exact rfl; exact rfl; exact rfl; exact rfl; exact rfl; (· (repeat (first | exact Wr.nil | apply Wr.put | apply Wr.skip)))))
                (repeat (first | intro (b : Nat) | refine gg ?_))
                (repeat (first | intro (b : Nat) | refine go ?_))
                (refine rettR ((b, .cells 240 [.int .i64 10]) :: (r, rdB s 10) :: F) ?_)
                exact .inr ⟨by simp [clkOk, coV, b2, a1, a2, a3, hf], _, _, _, rfl, rfl⟩
              · have hz : 7 + 3 = s.size := by have := of_decide_eq_true hq; omega
                have hf : frOk s 6 = true := by rw [hfr]; exact decide_eq_true (by omega)
                have eK := eM hz
                clear eM hfr
                cases hv : cval (numL s 0 2) (numL s 2 2) (numL s 4 2) (numL s 7 3)
                · (repeat' (first | intro (b : Nat) | refine go ?_ | (refine br ?_ ?_ <;> first | exact trivial | intro hq) | refine L.call (h := by intro W hW; first | apply rvb hq (a_done r s 10 W (hW.cell (List.Mem.head _) rfl) (hW.cell (List.Mem.head _) rfl) hW.base) | apply rvb hv (a_ClockValid _ _ _ _ W hW.base)) (k := ?_)))
                  ((repeat (refine C.seq ?_)); apply C.drawsw 8 bc (.cells 67 [.int .i64 0, .int .i64 0, .int .i64 0, .int .i64 0]) 9 [none, none, none, none, some _, none, some _, none, some _])
                  (repeat (first | intro (b : Nat) | refine gg ?_))
                  (first | (apply G.stk; exact rfl; exact rfl; exact rfl; exact rfl; exact rfl; exact rfl; exact rfl; (· (repeat (first | exact Wr.nil | apply Wr.put | apply Wr.skip)))) | (apply G.st1; exact rfl; exact rfl; exact rfl; exact rfl; exact rfl; exact rfl; (· (repeat (first | exact Wr.nil | apply Wr.put | apply Wr.skip)))))
                  (repeat (first | intro (b : Nat) | refine gg ?_))
                  (repeat (first | intro (b : Nat) | refine go ?_))
                  (refine rettR ((b, .cells 240 [.int .i64 10]) :: (r, rdB s 10) :: F) ?_)
                  exact .inr ⟨by simp [clkOk, coV, b2, a1, a2, a3, eK, hv], _, _, _, rfl, rfl⟩
                · (repeat' (first | intro (b : Nat) | refine go ?_ | (refine br ?_ ?_ <;> first | exact trivial | intro hq) | refine L.call (h := by intro W hW; first | apply rvb hq (a_done r s 10 W (hW.cell (List.Mem.head _) rfl) (hW.cell (List.Mem.head _) rfl) hW.base) | apply rvb hv (a_ClockValid _ _ _ _ W hW.base)) (k := ?_) | refine gg ?_ | refine G.call (h := by intro W hW; first | apply rvb hq (a_done r s 10 W (hW.cell (List.Mem.head _) rfl) (hW.cell (List.Mem.head _) rfl) hW.base) | apply rvb hv (a_ClockValid _ _ _ _ W hW.base)) (k := ?_) | (apply C.draww (id := 6) 8 [none, none, none, none, some _, none, some _, none]) | (apply C.draww (id := 9) 8 [none, none, none, none, some _, none, some _, none]) | (apply C.draww (id := 16) 8 [none, none, none, none, some _, none, some _, none]) | (apply C.draww (id := 23) 8 [none, none, none, none, some _, none, some _, none])))
                  (refine rettR ((r, rdB s 10) :: F) ?_)
                  refine .inl ⟨by simp [clkOk, coV, b2, a1, a2, a3, eK, hv, hf], ?_, _, rfl⟩
                  show _ = Value.tuple #[.agg #[.int .i64 (numL s 0 2), .int .i64 (numL s 2 2), .int .i64 (numL s 4 2), .int .i64 (frK s 6)], .nilIface]
                  rw [eK]
                  rfl

end D
end Go.Proofs.YtboglbdhibcacaaGreatDoor
