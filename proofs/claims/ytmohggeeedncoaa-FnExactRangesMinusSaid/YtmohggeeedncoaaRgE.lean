/- Walks of the law that the program's RangesMinus is the reference's. -/
import Derived.Test.YtmohggeeedncoaaRg6
import Derived.Test.YtmohggeeedncoaaRg7
namespace Go.Proofs.Ytmohggeeedncoaa
set_option linter.unusedVariables false
set_option linter.unusedSimpArgs false
set_option maxRecDepth 100000
set_option maxHeartbeats 1000000
namespace D
open Go.RowKit
attribute [local irreducible] Calls

theorem l_sz (p : Option Addr) (m c : Nat) (k : Int) (hk : 0 ≤ k ∧ k ≤ 1048576) (hm : m ≤ 9223372036854775807) (w : World) (hb : D.Base w) : Calls Try.prog 8 #[.slice p m c, .int .i64 k] w fun e w' => e = .returned (.int .i64 (if k < m then -1 else k - m)) ∧ Below w.heap.size w w' := by
  refine enter Try.func8 rfl Try.ntmps8 rfl (by assumption) ?_
  (repeat' (first | intro (b : Nat) | refine go ?_ | (refine br ?_ ?_ <;> first | exact trivial | intro hq)))
  all_goals (refine ret ?_; try exact rfl)
  all_goals (simp [tupleOf] <;> omega)

theorem l_toRange (r : Rg) (w : World) (hb : D.Base w) : Calls Try.prog 23 #[.agg (rc r).toArray] w fun e w' => e = .returned (.agg (rc r).toArray) ∧ Below w.heap.size w w' := by
  refine enter Try.func23 rfl Try.ntmps23 rfl (by assumption) ?_
  (repeat' (first | intro (b : Nat) | refine go ?_ | (refine br ?_ ?_ <;> first | exact trivial | intro hq)))
  (refine ret ?_; try exact rfl)

theorem rep_flat (k : Nat) : rep k [.int .i64 0, .int .i64 0] = flat rc (List.replicate k (0, 0)) := by
  induction k with
  | zero => rfl
  | succ k ih => rw [rep, ih, List.replicate_succ]; rfl

theorem take_rep {A : List Rg} {k : Nat} (hk : k < A.length) : (A.take k ++ List.replicate (A.length - k) ((0 : Int), (0 : Int))).set k (gR A k) = A.take (k + 1) ++ List.replicate (A.length - (k + 1)) (0, 0) := by
  have e : A.length - k = (A.length - (k + 1)) + 1 := by omega
  rw [e, List.replicate_succ, take_snoc (gR_some hk), List.set_append_right _ _ (by rw [List.length_take]; omega)]
  have e2 : k - (A.take k).length = 0 := by rw [List.length_take]; omega
  rw [e2]
  simp

theorem flat_set (M : List Rg) (pad : List Value) (k : Nat) (r : Rg) (hk : k < M.length) : Wr (k * 2) (rc r) (flat rc M ++ pad) (flat rc (M.set k r) ++ pad) := by
  induction M generalizing k with
  | nil => simp at hk
  | cons x t ih =>
    cases k with
    | zero => exact .put (.put .nil)
    | succ k =>
      have := ih k (by simpa using hk)
      rw [Nat.succ_mul]
      exact .skip (.skip this)

theorem l_toRangeS (p : Option Addr) (c : Nat) (A : List Rg) (hl : A.length ≤ 1048576) (w : World) (hA : RAt w p A) (hb : D.Base w) : Calls Try.prog 10 #[.slice p A.length c] w (Ret w (RS A)) := by
  refine enter Try.func10 rfl Try.ntmps10 rfl (by assumption) ?_
  (repeat' (first | intro (b : Nat) | refine go ?_ | (refine br ?_ ?_ <;> first | exact trivial | intro hq)))
  refine C.loopw (Y := Nat) (fun k => [(0, .slice p A.length c), (3, .slice (some ⟨b, 0, none⟩) A.length A.length), (4, .int .i64 k)]) (fun k => [(b, rblk (A.take k ++ List.replicate (A.length - k) (0, 0)) [])]) (fun k => k ≤ A.length) (fun k => A.length - k) 0 (Nat.zero_le _) (h2 := .cons (by simp [rep_flat]) .nil) (fun k hy => ?_)
  by_cases hk : k < A.length
  · obtain ⟨bb, o, rfl, h1, h2, h3⟩ := hA.at (i := k) (by omega) (by omega)
    simp only [Int.toNat_natCast] at h1 h2 h3
    have e := take_rep hk
    have hW := flat_set (A.take k ++ List.replicate (A.length - k) (0, 0)) [] k (gR A k) (by simp; omega)
    rw [e] at hW
    generalize gR A k = r at *
    generalize A.take k ++ List.replicate (A.length - k) (0, 0) = M at *
    (repeat' (first | intro (b : Nat) | refine go ?_ | (refine br ?_ ?_ <;> first | exact trivial | intro hq) | refine L.call (h := by intro W hW; apply l_toRange _ W hW.base) (k := ?_)))
    (apply L.s; (· exact rfl); (· exact rfl); (· apply OS.storek (us := rc r) (vs' := flat rc (A.take (k + 1) ++ List.replicate (A.length - (k + 1)) (0, 0)) ++ []); (· exact rfl); (· exact rfl); (· exact rfl); (· exact rfl); (· (repeat (first | exact Upd.here | apply Upd.there))); (· rw [Nat.zero_add]; exact hW)))
    (repeat' (first | intro (b : Nat) | refine go ?_ | (refine br ?_ ?_ <;> first | exact trivial | intro hq)))
    refine X.roundw (k + 1) ((by omega)) ((by omega))
  · have hk : k = A.length := by omega
    subst hk
    (repeat' (first | intro (b : Nat) | refine go ?_ | (refine br ?_ ?_ <;> first | exact trivial | intro hq)))
    (apply X.retr [(b, rblk A [])]; (· exact rfl); (· (repeat (first | exact RVs.nil | (apply RVs.cons; (· first | exact RV.tmp rfl | (apply RV.cellk; exact rfl; (· (repeat (first | exact List.Mem.head _ | apply List.Mem.tail))); (· (repeat (first | exact Rd.nil | apply Rd.take | apply Rd.skip)))) | (apply RV.cell1; exact rfl; (· (repeat (first | exact List.Mem.head _ | apply List.Mem.tail))); (· (repeat (first | exact Rd.nil | apply Rd.take | apply Rd.skip))))))))); (· exact .cons (by simp) .nil))
    exact ⟨b, A.length, [], rfl, rfl, Nat.le_refl _, by omega, by simp [flat_length rc_len]⟩

theorem l_eqRange (r : Rg) (w : World) (hb : D.Base w) : Calls Try.prog 27 #[.agg (rc r).toArray, .agg (rc r).toArray] w fun e w' => e = .returned (.bool true) ∧ Below w.heap.size w w' := by
  refine enter Try.func27 rfl Try.ntmps27 rfl (by assumption) ?_
  (repeat' (first | intro (b : Nat) | refine go ?_ | (refine br ?_ ?_ <;> first | exact trivial | intro hq)))
  (refine ret ?_; try exact rfl)

theorem l_eqRangeS (p q : Option Addr) (ca cb : Nat) (A : List Rg) (hl : A.length ≤ 1000000000) (w : World) (hA : RAt w p A) (hB : RAt w q A) (hb : D.Base w) : Calls Try.prog 12 #[.slice p A.length ca, .slice q A.length cb] w fun e w' => e = .returned (.bool true) ∧ Below w.heap.size w w' := by
  refine enter Try.func12 rfl Try.ntmps12 rfl (by assumption) ?_
  (repeat' (first | intro (b : Nat) | refine go ?_ | (refine br ?_ ?_ <;> first | exact trivial | intro hq) | refine gg ?_ | (apply C.draww (id := 6) 10 [none, none, none, some _, none, none, none, some _, some _, none])))
  refine C.loopw (Y := Nat) (fun k => [(0, .slice p A.length ca), (1, .slice q A.length cb), (5, .int .i64 k)]) (fun k => []) (fun k => k ≤ A.length) (fun k => A.length - k) 0 (Nat.zero_le _) (fun k hy => ?_)
  by_cases hk : k < A.length
  · obtain ⟨b, o, rfl, h1, h2, h3⟩ := hA.at (i := k) (by omega) (by omega)
    obtain ⟨b', o', rfl, k1, k2, k3⟩ := hB.at (i := k) (by omega) (by omega)
    simp only [Int.toNat_natCast] at h1 h2 h3 k1 k2 k3
    generalize gR A k = r at *
    (repeat' (first | intro (b : Nat) | refine go ?_ | (refine br ?_ ?_ <;> first | exact trivial | intro hq) | refine L.call (h := by intro W hW; apply l_eqRange _ W hW.base) (k := ?_) | refine gg ?_ | refine G.call (h := by intro W hW; apply l_eqRange _ W hW.base) (k := ?_) | (apply C.draww (id := 6) 10 [none, none, none, some _, none, none, none, some _, some _, none])))
    refine X.roundw (k + 1) ((by omega)) ((by omega))
  · (repeat' (first | intro (b : Nat) | refine go ?_ | (refine br ?_ ?_ <;> first | exact trivial | intro hq)))
    (refine ret ?_; try exact rfl)

/-- What marks a list. -/
def mks (k : Int) : Nat → List Rg
  | 0 => []
  | n + 1 => mks k n ++ [(k + 2 * n, k + 2 * n + 1)]
theorem mks_len (k : Int) : ∀ n, (mks k n).length = n
  | 0 => rfl
  | n + 1 => by simp [mks, mks_len k n]
theorem mks_at (k : Int) : ∀ (n i : Nat), i < n → gR (mks k n) i = (k + 2 * i, k + 2 * i + 1)
  | 0, i, h => by omega
  | n + 1, i, h => by
    unfold gR mks
    have hl := mks_len k n
    rcases Nat.lt_or_ge i n with h1 | h1
    · have := mks_at k n i h1
      unfold gR at this
      simp only [List.getD, List.getElem?_append_left (by omega : i < (mks k n).length)] at this ⊢
      exact this
    · obtain rfl : i = n := by omega
      simp [List.getD, List.getElem?_append_right, hl]
theorem mks_drop {A : List Rg} {k : Int} {i : Nat} (hi : i < A.length) : ((mks k i ++ A.drop i).set i (k + 2 * i, (gR (mks k i ++ A.drop i) i).2)).set i (k + 2 * i, k + 2 * i + 1) = mks k (i + 1) ++ A.drop (i + 1) := by
  rw [List.set_set, List.set_append_right _ _ (by rw [mks_len]; omega), mks_len, Nat.sub_self, List.drop_eq_getElem_cons hi, List.set_cons_zero]
  simp only [mks, List.append_assoc, List.cons_append, List.nil_append]

theorem l_mark (b c : Nat) (A : List Rg) (pad : List Value) (k : Int) (hl : A.length ≤ 1048576) (hk : 0 ≤ k ∧ k ≤ 1000000000) (w0 w : World) (F : SH) (hst : St w0 ((b, rblk A pad) :: F) w) :
    Calls Try.prog 13 #[.slice (some ⟨b, 0, none⟩) A.length c, .int .i64 k] w (TurnsR w0 fun v H => v = .int .i64 (k + 2 * A.length) ∧ H = (b, rblk (mks k A.length) pad) :: F) := by
  refine enterl Try.func13 rfl Try.ntmps13 rfl hst ?_
  (repeat' (first | intro (b : Nat) | refine go ?_ | (refine br ?_ ?_ <;> first | exact trivial | intro hq)))
  refine C.loopw (Y := Nat) (fun i => [(0, .slice (some ⟨b, 0, none⟩) A.length c), (1, .int .i64 (k + 2 * i)), (5, .int .i64 i)]) (fun i => (b, rblk (mks k i ++ A.drop i) pad) :: F) (fun i => i ≤ A.length) (fun i => A.length - i) 0 (Nat.zero_le _) (fun i hy => ?_)
  by_cases hi : i < A.length
  · have hlt : i < (mks k i ++ A.drop i).length := by rw [List.length_append, mks_len, List.length_drop]; omega
    have s1 := flat_set1 (mks k i ++ A.drop i) pad i (k + 2 * i) hlt
    have s2 := flat_set2 ((mks k i ++ A.drop i).set i (k + 2 * i, (gR (mks k i ++ A.drop i) i).2)) pad i (k + 2 * i + 1) (by simpa using hlt)
    have s3 : (gR ((mks k i ++ A.drop i).set i (k + 2 * i, (gR (mks k i ++ A.drop i) i).2)) i).1 = k + 2 * i := by
      have h0 := List.getElem?_set_self (a := (k + 2 * (i : Int), (gR (mks k i ++ A.drop i) i).2)) hlt
      unfold gR at h0 ⊢
      simp only [List.getD] at h0 ⊢
      rw [h0]
      rfl
    rw [s3, mks_drop hi] at s2
    have w1 := wr_set (flat rc (mks k i ++ A.drop i) ++ pad) (i * 2) (.int .i64 (k + 2 * i)) (by rw [List.length_append, flat_length rc_len]; omega)
    rw [s1] at w1
    have w2 := wr_set (flat rc ((mks k i ++ A.drop i).set i (k + 2 * i, (gR (mks k i ++ A.drop i) i).2)) ++ pad) (i * 2 + 1) (.int .i64 (k + 2 * i + 1)) (by rw [List.length_append, flat_length rc_len, List.length_set]; omega)
    rw [s2] at w2
    generalize (mks k i ++ A.drop i).set i (k + 2 * i, (gR (mks k i ++ A.drop i) i).2) = M2 at *
    generalize mks k i ++ A.drop i = M1 at *
    (repeat' (first | intro (b : Nat) | refine go ?_ | (refine br ?_ ?_ <;> first | exact trivial | intro hq)))
    (apply L.s; (· exact rfl); (· exact rfl); (· apply OS.store1 (vs' := flat rc M2 ++ pad); (· exact rfl); (· exact rfl); (· exact rfl); (· (repeat (first | exact Upd.here | apply Upd.there))); (· rw [Nat.zero_add]; exact w1)))
    (repeat' (first | intro (b : Nat) | refine go ?_ | (refine br ?_ ?_ <;> first | exact trivial | intro hq)))
    (apply L.s; (· exact rfl); (· exact rfl); (· apply OS.store1 (vs' := flat rc (mks k (i + 1) ++ A.drop (i + 1)) ++ pad); (· exact rfl); (· exact rfl); (· exact rfl); (· (repeat (first | exact Upd.here | apply Upd.there))); (· rw [Nat.zero_add]; exact w2)))
    (repeat' (first | intro (b : Nat) | refine go ?_ | (refine br ?_ ?_ <;> first | exact trivial | intro hq)))
    (refine X.roundw (i + 1) (by omega) (by omega))
  · have hi : i = A.length := by omega
    subst hi
    (repeat' (first | intro (b : Nat) | refine go ?_ | (refine br ?_ ?_ <;> first | exact trivial | intro hq)))
    rw [List.drop_length, List.append_nil]
    exact rettR _ ⟨rfl, rfl⟩

theorem l_held (b c : Nat) (m : Nat) (pad : List Value) (k : Int) (hm : m ≤ 1048576) (hk : 0 ≤ k ∧ k ≤ 1000000000) (w : World) (hA : RAt w (some ⟨b, 0, none⟩) (mks k m)) (hb : D.Base w) :
    Calls Try.prog 14 #[.slice (some ⟨b, 0, none⟩) m c, .int .i64 k] w fun e w' => e = .returned (.int .i64 (k + 2 * m)) ∧ Below w.heap.size w w' := by
  refine enter Try.func14 rfl Try.ntmps14 rfl (by assumption) ?_
  (repeat' (first | intro (b : Nat) | refine go ?_ | (refine br ?_ ?_ <;> first | exact trivial | intro hq)))
  refine C.loopw (Y := Nat) (fun i => [(0, .slice (some ⟨b, 0, none⟩) m c), (1, .int .i64 (k + 2 * i)), (5, .int .i64 i)]) (fun i => []) (fun i => i ≤ m) (fun i => m - i) 0 (Nat.zero_le _) (fun i hy => ?_)
  by_cases hi : i < m
  · obtain ⟨b', o', hp, h1, h2, h3⟩ := hA.at (i := i) (by omega) (by rw [mks_len]; omega)
    obtain ⟨rfl, rfl⟩ : b = b' ∧ 0 = o' := by simpa using hp
    simp only [Int.toNat_natCast, mks_at k m i hi] at h1 h2
    (repeat' (first | intro (b : Nat) | refine go ?_ | (refine br ?_ ?_ <;> first | exact trivial | intro hq)))
    (refine X.roundw (i + 1) (by omega) (by omega))
  · have hi : i = m := by omega
    subst hi
    (repeat' (first | intro (b : Nat) | refine go ?_ | (refine br ?_ ?_ <;> first | exact trivial | intro hq)))
    (refine ret ?_; try exact rfl)

theorem l_mark0 (k : Int) (w : World) (hb : D.Base w) : Calls Try.prog 13 #[.slice none 0 0, .int .i64 k] w fun e w' => e = .returned (.int .i64 k) ∧ Below w.heap.size w w' := by
  refine enter Try.func13 rfl Try.ntmps13 rfl (by assumption) ?_
  (repeat' (first | intro (b : Nat) | refine go ?_ | (refine br ?_ ?_ <;> first | exact trivial | intro hq)))
  refine C.rounds 1 ?_
  (repeat' (first | intro (b : Nat) | refine go ?_ | (refine br ?_ ?_ <;> first | exact trivial | intro hq)))
  (refine ret ?_; try exact rfl)

theorem l_held0 (k : Int) (w : World) (hb : D.Base w) : Calls Try.prog 14 #[.slice none 0 0, .int .i64 k] w fun e w' => e = .returned (.int .i64 k) ∧ Below w.heap.size w w' := by
  refine enter Try.func14 rfl Try.ntmps14 rfl (by assumption) ?_
  (repeat' (first | intro (b : Nat) | refine go ?_ | (refine br ?_ ?_ <;> first | exact trivial | intro hq)))
  refine C.rounds 1 ?_
  (repeat' (first | intro (b : Nat) | refine go ?_ | (refine br ?_ ?_ <;> first | exact trivial | intro hq)))
  (refine ret ?_; try exact rfl)

theorem exact_yes (p q : Option Addr) (ca cb : Nat) (A B : List Rg) (hl : A.length + B.length ≤ 1048576) (hlA : A.length ≤ 9223372036854775807) (hlB : B.length ≤ 9223372036854775807) (hv : rvB A = true ∧ rvB B = true) (w : World) (hA : RAt w p A) (hB : RAt w q B) (hb : D.Base w) :
    Calls Try.prog 3 #[.slice p A.length ca, .slice q B.length cb] w fun e w' => e = .returned (.bool true) ∧ Below w.heap.size w w' := by
  refine enter Try.func3 rfl Try.ntmps3 rfl (by assumption) ?_
  (repeat' (first | intro (b : Nat) | refine go ?_ | (refine br ?_ ?_ <;> first | exact trivial | intro hq)))
  (refine L.call (h := by intro W hW; exact l_sz _ _ _ _ (by omega) hlA W hW.base) (k := ?_))
  rw [if_neg (by omega)]
  (repeat' (first | intro (b : Nat) | refine go ?_ | (refine br ?_ ?_ <;> first | exact trivial | intro hq)))
  (refine L.call (h := by intro W hW; exact l_sz _ _ _ _ (by omega) hlB W hW.base) (k := ?_))
  rw [if_neg (by omega)]
  (repeat' (first | intro (b : Nat) | refine go ?_ | (refine br ?_ ?_ <;> first | exact trivial | intro hq)))
  (refine L.ncall (h := by intro W hW; exact l_toRangeS _ _ A (by omega) W (hA.keep hW.low) hW.base) (k := ?_); intro v H hR)
  obtain ⟨b1, cb1, pb1, rfl, rfl, hb1⟩ := hR
  simp only [List.cons_append, List.nil_append]
  (repeat' (first | intro (b : Nat) | refine go ?_ | (refine br ?_ ?_ <;> first | exact trivial | intro hq)))
  (refine L.ncall (h := by intro W hW; exact l_toRangeS _ _ B (by omega) W (hB.keep hW.low) hW.base) (k := ?_); intro v H hR)
  obtain ⟨b2, cb2, pb2, rfl, rfl, hb2⟩ := hR
  simp only [List.cons_append, List.nil_append]
  (repeat' (first | intro (b : Nat) | refine go ?_ | (refine br ?_ ?_ <;> first | exact trivial | intro hq)))
  (refine L.ncall (h := by intro W hW; exact b_RangesMinus _ _ _ _ A B (by omega) (by omega) W (rat_own hW (by (repeat (first | exact List.Mem.head _ | apply List.Mem.tail)))) (rat_own hW (by (repeat (first | exact List.Mem.head _ | apply List.Mem.tail)))) hW.base) (k := ?_); intro v H hR)
  obtain ⟨bw, cw, pw, rfl, rfl, hw⟩ := hR
  simp only [List.cons_append, List.nil_append]
  (repeat' (first | intro (b : Nat) | refine go ?_ | (refine br ?_ ?_ <;> first | exact trivial | intro hq)))
  (refine L.ncall (h := by intro W hW; exact l_toRangeS _ _ A (by omega) W (hA.keep hW.low) hW.base) (k := ?_); intro v H hR)
  obtain ⟨b3, cb3, pb3, rfl, rfl, hb3⟩ := hR
  simp only [List.cons_append, List.nil_append]
  (repeat' (first | intro (b : Nat) | refine go ?_ | (refine br ?_ ?_ <;> first | exact trivial | intro hq)))
  (refine L.ncall (h := by intro W hW; exact l_toRangeS _ _ B (by omega) W (hB.keep hW.low) hW.base) (k := ?_); intro v H hR)
  obtain ⟨b4, cb4, pb4, rfl, rfl, hb4⟩ := hR
  simp only [List.cons_append, List.nil_append]
  (repeat' (first | intro (b : Nat) | refine go ?_ | (refine br ?_ ?_ <;> first | exact trivial | intro hq)))
  (refine L.ncall (h := by intro W hW; exact a_Minus_yes _ _ _ _ A B hv.1 hv.2 W (rat_own hW (by (repeat (first | exact List.Mem.head _ | apply List.Mem.tail)))) (rat_own hW (by (repeat (first | exact List.Mem.head _ | apply List.Mem.tail)))) hW.base) (k := ?_); intro v H hR)
  obtain ⟨bo, cbo, pbo, rfl, rfl, hbo⟩ := hR
  simp only [List.cons_append, List.nil_append]
  (repeat' (first | intro (b : Nat) | refine go ?_ | (refine br ?_ ?_ <;> first | exact trivial | intro hq)))
  have hl := minR_len A B
  have hR0 : minR A B = minR A B := rfl
  generalize hRd : minR A B = R at *
  (refine L.call (h := by intro W hW; exact l_eqRangeS _ _ _ _ R (by omega) W (rat_own hW (by (repeat (first | exact List.Mem.head _ | apply List.Mem.tail)))) (rat_own hW (by (repeat (first | exact List.Mem.head _ | apply List.Mem.tail)))) hW.base) (k := ?_))
  (repeat' (first | intro (b : Nat) | refine go ?_ | (refine br ?_ ?_ <;> first | exact trivial | intro hq)))
  (refine L.ncall (h := by intro W hW; exact l_toRangeS _ _ A (by omega) W (hA.keep hW.low) hW.base) (k := ?_); intro v H hR)
  obtain ⟨b5, cb5, pb5, rfl, rfl, hb5⟩ := hR
  simp only [List.cons_append, List.nil_append]
  (repeat' (first | intro (b : Nat) | refine go ?_ | (refine br ?_ ?_ <;> first | exact trivial | intro hq)))
  (refine L.call (h := by intro W hW; exact l_eqRangeS _ _ _ _ A (by omega) W (rat_own hW (by (repeat (first | exact List.Mem.head _ | apply List.Mem.tail)))) (rat_own hW (by (repeat (first | exact List.Mem.head _ | apply List.Mem.tail)))) hW.base) (k := ?_))
  (repeat' (first | intro (b : Nat) | refine go ?_ | (refine br ?_ ?_ <;> first | exact trivial | intro hq)))
  (refine L.ncall (h := by intro W hW; exact l_toRangeS _ _ B (by omega) W (hB.keep hW.low) hW.base) (k := ?_); intro v H hR)
  obtain ⟨b6, cb6, pb6, rfl, rfl, hb6⟩ := hR
  simp only [List.cons_append, List.nil_append]
  (repeat' (first | intro (b : Nat) | refine go ?_ | (refine br ?_ ?_ <;> first | exact trivial | intro hq)))
  (refine L.call (h := by intro W hW; exact l_eqRangeS _ _ _ _ B (by omega) W (rat_own hW (by (repeat (first | exact List.Mem.head _ | apply List.Mem.tail)))) (rat_own hW (by (repeat (first | exact List.Mem.head _ | apply List.Mem.tail)))) hW.base) (k := ?_))
  (repeat' (first | intro (b : Nat) | refine go ?_ | (refine br ?_ ?_ <;> first | exact trivial | intro hq)))
  refine L.tcallR b3 (h := by intro W hW; exact l_mark b3 _ A _ _ (by omega) (by omega) w W _ hW) (k := ?_)
  rintro v H ⟨rfl, rfl⟩
  (repeat' (first | intro (b : Nat) | refine go ?_ | (refine br ?_ ?_ <;> first | exact trivial | intro hq)))
  refine L.tcallR b4 (h := by intro W hW; exact l_mark b4 _ B _ _ (by omega) (by omega) w W _ hW) (k := ?_)
  rintro v H ⟨rfl, rfl⟩
  (repeat' (first | intro (b : Nat) | refine go ?_ | (refine br ?_ ?_ <;> first | exact trivial | intro hq)))
  (refine L.call (h := by intro W hW; exact l_eqRangeS _ _ _ _ R (by omega) W (rat_own hW (by (repeat (first | exact List.Mem.head _ | apply List.Mem.tail)))) (rat_own hW (by (repeat (first | exact List.Mem.head _ | apply List.Mem.tail)))) hW.base) (k := ?_))
  (repeat' (first | intro (b : Nat) | refine go ?_ | (refine br ?_ ?_ <;> first | exact trivial | intro hq)))
  refine L.tcallR bo (h := by intro W hW; exact l_mark bo _ R _ _ (by omega) (by omega) w W _ hW) (k := ?_)
  rintro v H ⟨rfl, rfl⟩
  (repeat' (first | intro (b : Nat) | refine go ?_ | (refine br ?_ ?_ <;> first | exact trivial | intro hq)))
  (refine L.call (h := by intro W hW; exact l_held bo _ R.length pbo _ (by omega) (by omega) W (rat_own hW (by (repeat (first | exact List.Mem.head _ | apply List.Mem.tail)))) hW.base) (k := ?_))
  (repeat' (first | intro (b : Nat) | refine go ?_ | (refine br ?_ ?_ <;> first | exact trivial | intro hq)))
  (refine L.ncall (h := by intro W hW; exact l_toRangeS _ _ A (by omega) W (hA.keep hW.low) hW.base) (k := ?_); intro v H hR)
  obtain ⟨b7, cb7, pb7, rfl, rfl, hb7⟩ := hR
  simp only [List.cons_append, List.nil_append]
  (repeat' (first | intro (b : Nat) | refine go ?_ | (refine br ?_ ?_ <;> first | exact trivial | intro hq)))
  (refine L.ncall (h := by intro W hW; exact l_toRangeS _ _ B (by omega) W (hB.keep hW.low) hW.base) (k := ?_); intro v H hR)
  obtain ⟨b8, cb8, pb8, rfl, rfl, hb8⟩ := hR
  simp only [List.cons_append, List.nil_append]
  (repeat' (first | intro (b : Nat) | refine go ?_ | (refine br ?_ ?_ <;> first | exact trivial | intro hq)))
  (refine L.ncall (h := by intro W hW; exact a_Minus_yes _ _ _ _ A B hv.1 hv.2 W (rat_own hW (by (repeat (first | exact List.Mem.head _ | apply List.Mem.tail)))) (rat_own hW (by (repeat (first | exact List.Mem.head _ | apply List.Mem.tail)))) hW.base) (k := ?_); intro v H hR)
  rw [hRd] at hR
  obtain ⟨bp, cbp, pbp, rfl, rfl, hbp⟩ := hR
  simp only [List.cons_append, List.nil_append]
  (repeat' (first | intro (b : Nat) | refine go ?_ | (refine br ?_ ?_ <;> first | exact trivial | intro hq)))
  (refine L.call (h := by intro W hW; exact l_eqRangeS _ _ _ _ R (by omega) W (rat_own hW (by (repeat (first | exact List.Mem.head _ | apply List.Mem.tail)))) (rat_own hW (by (repeat (first | exact List.Mem.head _ | apply List.Mem.tail)))) hW.base) (k := ?_))
  (repeat' (first | intro (b : Nat) | refine go ?_ | (refine br ?_ ?_ <;> first | exact trivial | intro hq)))
  (refine L.call (h := by intro W hW; exact l_held bo _ R.length pbo _ (by omega) (by omega) W (rat_own hW (by (repeat (first | exact List.Mem.head _ | apply List.Mem.tail)))) hW.base) (k := ?_))
  (repeat' (first | intro (b : Nat) | refine go ?_ | (refine br ?_ ?_ <;> first | exact trivial | intro hq)))
  (refine ret ?_; try exact rfl)

theorem exact_no (p q : Option Addr) (ca cb : Nat) (A B : List Rg) (hl : A.length + B.length ≤ 1048576) (hlA : A.length ≤ 9223372036854775807) (hlB : B.length ≤ 9223372036854775807) (hv : ¬ (rvB A = true ∧ rvB B = true)) (w : World) (hA : RAt w p A) (hB : RAt w q B) (hb : D.Base w) :
    Calls Try.prog 3 #[.slice p A.length ca, .slice q B.length cb] w fun e w' => e = .returned (.bool true) ∧ Below w.heap.size w w' := by
  have e : minR A B = [] := if_neg hv
  refine enter Try.func3 rfl Try.ntmps3 rfl (by assumption) ?_
  (repeat' (first | intro (b : Nat) | refine go ?_ | (refine br ?_ ?_ <;> first | exact trivial | intro hq)))
  (refine L.call (h := by intro W hW; exact l_sz _ _ _ _ (by omega) hlA W hW.base) (k := ?_))
  rw [if_neg (by omega)]
  (repeat' (first | intro (b : Nat) | refine go ?_ | (refine br ?_ ?_ <;> first | exact trivial | intro hq)))
  (refine L.call (h := by intro W hW; exact l_sz _ _ _ _ (by omega) hlB W hW.base) (k := ?_))
  rw [if_neg (by omega)]
  (repeat' (first | intro (b : Nat) | refine go ?_ | (refine br ?_ ?_ <;> first | exact trivial | intro hq)))
  (refine L.ncall (h := by intro W hW; exact l_toRangeS _ _ A (by omega) W (hA.keep hW.low) hW.base) (k := ?_); intro v H hR)
  obtain ⟨b1, cb1, pb1, rfl, rfl, hb1⟩ := hR
  simp only [List.cons_append, List.nil_append]
  (repeat' (first | intro (b : Nat) | refine go ?_ | (refine br ?_ ?_ <;> first | exact trivial | intro hq)))
  (refine L.ncall (h := by intro W hW; exact l_toRangeS _ _ B (by omega) W (hB.keep hW.low) hW.base) (k := ?_); intro v H hR)
  obtain ⟨b2, cb2, pb2, rfl, rfl, hb2⟩ := hR
  simp only [List.cons_append, List.nil_append]
  (repeat' (first | intro (b : Nat) | refine go ?_ | (refine br ?_ ?_ <;> first | exact trivial | intro hq)))
  (refine L.ncall (h := by intro W hW; exact b_RangesMinus _ _ _ _ A B (by omega) (by omega) W (rat_own hW (by (repeat (first | exact List.Mem.head _ | apply List.Mem.tail)))) (rat_own hW (by (repeat (first | exact List.Mem.head _ | apply List.Mem.tail)))) hW.base) (k := ?_); intro v H hR)
  rw [e] at hR
  obtain ⟨bw, cw, pw, rfl, rfl, hw⟩ := hR
  simp only [List.cons_append, List.nil_append]
  (repeat' (first | intro (b : Nat) | refine go ?_ | (refine br ?_ ?_ <;> first | exact trivial | intro hq)))
  (refine L.ncall (h := by intro W hW; exact l_toRangeS _ _ A (by omega) W (hA.keep hW.low) hW.base) (k := ?_); intro v H hR)
  obtain ⟨b3, cb3, pb3, rfl, rfl, hb3⟩ := hR
  simp only [List.cons_append, List.nil_append]
  (repeat' (first | intro (b : Nat) | refine go ?_ | (refine br ?_ ?_ <;> first | exact trivial | intro hq)))
  (refine L.ncall (h := by intro W hW; exact l_toRangeS _ _ B (by omega) W (hB.keep hW.low) hW.base) (k := ?_); intro v H hR)
  obtain ⟨b4, cb4, pb4, rfl, rfl, hb4⟩ := hR
  simp only [List.cons_append, List.nil_append]
  (repeat' (first | intro (b : Nat) | refine go ?_ | (refine br ?_ ?_ <;> first | exact trivial | intro hq)))
  (refine L.call (h := by intro W hW; exact a_Minus_no _ _ _ _ A B hv W (rat_own hW (by (repeat (first | exact List.Mem.head _ | apply List.Mem.tail)))) (rat_own hW (by (repeat (first | exact List.Mem.head _ | apply List.Mem.tail)))) hW.base) (k := ?_))
  (repeat' (first | intro (b : Nat) | refine go ?_ | (refine br ?_ ?_ <;> first | exact trivial | intro hq)))
  (refine L.call (h := by intro W hW; exact l_eqRangeS none _ _ _ [] (by decide) W RAt.nil RAt.nil hW.base) (k := ?_))
  (repeat' (first | intro (b : Nat) | refine go ?_ | (refine br ?_ ?_ <;> first | exact trivial | intro hq)))
  (refine L.ncall (h := by intro W hW; exact l_toRangeS _ _ A (by omega) W (hA.keep hW.low) hW.base) (k := ?_); intro v H hR)
  obtain ⟨b5, cb5, pb5, rfl, rfl, hb5⟩ := hR
  simp only [List.cons_append, List.nil_append]
  (repeat' (first | intro (b : Nat) | refine go ?_ | (refine br ?_ ?_ <;> first | exact trivial | intro hq)))
  (refine L.call (h := by intro W hW; exact l_eqRangeS _ _ _ _ A (by omega) W (rat_own hW (by (repeat (first | exact List.Mem.head _ | apply List.Mem.tail)))) (rat_own hW (by (repeat (first | exact List.Mem.head _ | apply List.Mem.tail)))) hW.base) (k := ?_))
  (repeat' (first | intro (b : Nat) | refine go ?_ | (refine br ?_ ?_ <;> first | exact trivial | intro hq)))
  (refine L.ncall (h := by intro W hW; exact l_toRangeS _ _ B (by omega) W (hB.keep hW.low) hW.base) (k := ?_); intro v H hR)
  obtain ⟨b6, cb6, pb6, rfl, rfl, hb6⟩ := hR
  simp only [List.cons_append, List.nil_append]
  (repeat' (first | intro (b : Nat) | refine go ?_ | (refine br ?_ ?_ <;> first | exact trivial | intro hq)))
  (refine L.call (h := by intro W hW; exact l_eqRangeS _ _ _ _ B (by omega) W (rat_own hW (by (repeat (first | exact List.Mem.head _ | apply List.Mem.tail)))) (rat_own hW (by (repeat (first | exact List.Mem.head _ | apply List.Mem.tail)))) hW.base) (k := ?_))
  (repeat' (first | intro (b : Nat) | refine go ?_ | (refine br ?_ ?_ <;> first | exact trivial | intro hq)))
  refine L.tcallR b3 (h := by intro W hW; exact l_mark b3 _ A _ _ (by omega) (by omega) w W _ hW) (k := ?_)
  rintro v H ⟨rfl, rfl⟩
  (repeat' (first | intro (b : Nat) | refine go ?_ | (refine br ?_ ?_ <;> first | exact trivial | intro hq)))
  refine L.tcallR b4 (h := by intro W hW; exact l_mark b4 _ B _ _ (by omega) (by omega) w W _ hW) (k := ?_)
  rintro v H ⟨rfl, rfl⟩
  (repeat' (first | intro (b : Nat) | refine go ?_ | (refine br ?_ ?_ <;> first | exact trivial | intro hq)))
  (refine L.call (h := by intro W hW; exact l_eqRangeS none _ _ _ [] (by decide) W RAt.nil RAt.nil hW.base) (k := ?_))
  (repeat' (first | intro (b : Nat) | refine go ?_ | (refine br ?_ ?_ <;> first | exact trivial | intro hq)))
  (refine L.call (h := by intro W hW; exact l_mark0 _ W hW.base) (k := ?_))
  (repeat' (first | intro (b : Nat) | refine go ?_ | (refine br ?_ ?_ <;> first | exact trivial | intro hq)))
  (refine L.call (h := by intro W hW; exact l_held0 _ W hW.base) (k := ?_))
  (repeat' (first | intro (b : Nat) | refine go ?_ | (refine br ?_ ?_ <;> first | exact trivial | intro hq)))
  (refine L.ncall (h := by intro W hW; exact l_toRangeS _ _ A (by omega) W (hA.keep hW.low) hW.base) (k := ?_); intro v H hR)
  obtain ⟨b7, cb7, pb7, rfl, rfl, hb7⟩ := hR
  simp only [List.cons_append, List.nil_append]
  (repeat' (first | intro (b : Nat) | refine go ?_ | (refine br ?_ ?_ <;> first | exact trivial | intro hq)))
  (refine L.ncall (h := by intro W hW; exact l_toRangeS _ _ B (by omega) W (hB.keep hW.low) hW.base) (k := ?_); intro v H hR)
  obtain ⟨b8, cb8, pb8, rfl, rfl, hb8⟩ := hR
  simp only [List.cons_append, List.nil_append]
  (repeat' (first | intro (b : Nat) | refine go ?_ | (refine br ?_ ?_ <;> first | exact trivial | intro hq)))
  (refine L.call (h := by intro W hW; exact a_Minus_no _ _ _ _ A B hv W (rat_own hW (by (repeat (first | exact List.Mem.head _ | apply List.Mem.tail)))) (rat_own hW (by (repeat (first | exact List.Mem.head _ | apply List.Mem.tail)))) hW.base) (k := ?_))
  (repeat' (first | intro (b : Nat) | refine go ?_ | (refine br ?_ ?_ <;> first | exact trivial | intro hq)))
  (refine L.call (h := by intro W hW; exact l_eqRangeS none _ _ _ [] (by decide) W RAt.nil RAt.nil hW.base) (k := ?_))
  (repeat' (first | intro (b : Nat) | refine go ?_ | (refine br ?_ ?_ <;> first | exact trivial | intro hq)))
  (refine L.call (h := by intro W hW; exact l_held0 _ W hW.base) (k := ?_))
  (repeat' (first | intro (b : Nat) | refine go ?_ | (refine br ?_ ?_ <;> first | exact trivial | intro hq)))
  (refine ret ?_; try exact rfl)

theorem law_FnExactRangesMinus (p q : Option Addr) (ca cb : Nat) (A B : List Rg) (hlA : A.length ≤ 9223372036854775807) (hlB : B.length ≤ 9223372036854775807) (w : World) (hA : RAt w p A) (hB : RAt w q B) (hb : D.Base w) :
    Calls Try.prog 3 #[.slice p A.length ca, .slice q B.length cb] w fun e w' => e = .returned (.bool true) ∧ Below w.heap.size w w' := by
  by_cases h1 : A.length ≤ 1048576
  · by_cases h2 : A.length + B.length ≤ 1048576
    · by_cases hv : rvB A = true ∧ rvB B = true
      · exact exact_yes p q ca cb A B h2 hlA hlB hv w hA hB hb
      · exact exact_no p q ca cb A B h2 hlA hlB hv w hA hB hb
    · refine enter Try.func3 rfl Try.ntmps3 rfl (by assumption) ?_
      (repeat' (first | intro (b : Nat) | refine go ?_ | (refine br ?_ ?_ <;> first | exact trivial | intro hq)))
      (refine L.call (h := by intro W hW; exact l_sz _ _ _ _ (by omega) hlA W hW.base) (k := ?_))
      rw [if_neg (by omega)]
      (repeat' (first | intro (b : Nat) | refine go ?_ | (refine br ?_ ?_ <;> first | exact trivial | intro hq)))
      (refine L.call (h := by intro W hW; exact l_sz _ _ _ _ (by omega) hlB W hW.base) (k := ?_))
      rw [if_pos (by omega)]
      (repeat' (first | intro (b : Nat) | refine go ?_ | (refine br ?_ ?_ <;> first | exact trivial | intro hq)))
      (refine ret ?_; try exact rfl)
  · refine enter Try.func3 rfl Try.ntmps3 rfl (by assumption) ?_
    (repeat' (first | intro (b : Nat) | refine go ?_ | (refine br ?_ ?_ <;> first | exact trivial | intro hq)))
    (refine L.call (h := by intro W hW; exact l_sz _ _ _ _ (by omega) hlA W hW.base) (k := ?_))
    rw [if_pos (by omega)]
    (repeat' (first | intro (b : Nat) | refine go ?_ | (refine br ?_ ?_ <;> first | exact trivial | intro hq)))
    (refine ret ?_; try exact rfl)

end D
end Go.Proofs.Ytmohggeeedncoaa
