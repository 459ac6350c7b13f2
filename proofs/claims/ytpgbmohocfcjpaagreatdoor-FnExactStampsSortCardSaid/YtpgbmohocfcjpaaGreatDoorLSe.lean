/- The walk of the exact law on sorted texts. -/
import Derived.Test.YtpgbmohocfcjpaaGreatDoorDs
namespace Go.Proofs.YtpgbmohocfcjpaaGreatDoor
set_option linter.unusedVariables false
set_option linter.unusedSimpArgs false
set_option maxRecDepth 100000
set_option maxHeartbeats 2000000
namespace D
open Go.RowKit
attribute [local irreducible] Calls

/-- The digits of a mark. -/
def dgT : Nat → Int → ByteArray → ByteArray
  | 0, _, o => o
  | f + 1, k, o => if k ≤ 0 then o else dgT f (k / 10) (strOfNums [48 + k % 10] ++ o)
theorem dgT_fuel : ∀ (f g : Nat) (k : Int) (o : ByteArray), k.toNat < f → k.toNat < g → dgT f k o = dgT g k o
  | 0, _, k, o, h, _ => absurd h (Nat.not_lt_zero _)
  | _, 0, k, o, _, h => absurd h (Nat.not_lt_zero _)
  | f + 1, g + 1, k, o, h1, h2 => by
    unfold dgT
    split
    · rfl
    · exact dgT_fuel f g (k / 10) _ (by omega) (by omega)
abbrev s109 : ByteArray := ⟨#[109]⟩
def mkT (k : Int) : ByteArray := s109 ++ dgT (k.toNat + 1) k ⟨#[]⟩

theorem l_markText (k : Int) (hk : 1 ≤ k ∧ k ≤ 1000000000) (w : World) (hb : D.Base w) : Calls Tryz.prog 53 #[.int .i64 k] w fun e w' => e = .returned (.string (mkT k)) ∧ Below w.heap.size w w' := by
  refine enter Tryz.func53 rfl Tryz.ntmps53 rfl (by assumption) ?_
  (repeat' (first | intro (b : Nat) | refine go ?_ | (refine br ?_ ?_ <;> first | exact trivial | intro hq)))
  refine C.loopw (Y := Int × ByteArray) (fun y => [(0, .int .i64 y.1), (2, .string ⟨#[]⟩), (3, .string y.2)]) (fun y => []) (fun y => 0 ≤ y.1 ∧ (y.2.size : Int) + y.1 ≤ k ∧ dgT (y.1.toNat + 1) y.1 y.2 = dgT (k.toNat + 1) k ⟨#[]⟩) (fun y => y.1.toNat) (k, ⟨#[]⟩) ⟨by show 0 ≤ k; omega, by show ((ByteArray.size ⟨#[]⟩ : Nat) : Int) + k ≤ k; have : (ByteArray.size ⟨#[]⟩) = 0 := rfl; omega, rfl⟩ (fun y hy => ?_)
  generalize y.1 = j at *
  generalize y.2 = o at *
  obtain ⟨h1, h2, h3⟩ := hy
  by_cases h0 : 0 < j
  · have h4 : dgT ((j / 10).toNat + 1) (j / 10) (strOfNums [48 + j % 10] ++ o) = dgT (k.toNat + 1) k ⟨#[]⟩ := by
      rw [← h3]
      conv => rhs; unfold dgT
      rw [if_neg (by omega)]
      exact dgT_fuel _ _ _ _ (by omega) (by omega)
    have hz : (strOfNums [48 + j % 10]).size = 1 := by rw [strOfNums_size]; rfl
    have hz2 : (strOfNums [48 + j % 10] ++ o).size = 1 + o.size := by rw [ByteArray.size_append, hz]
    (repeat' (first | intro (b : Nat) | refine go ?_ | (refine br ?_ ?_ <;> first | exact trivial | intro hq)))
    (refine X.roundw (j / 10, strOfNums [48 + j % 10] ++ o) ⟨by show 0 ≤ j / 10; omega, by show ((strOfNums [48 + j % 10] ++ o).size : Int) + j / 10 ≤ k; omega, h4⟩ (by show (j / 10).toNat < j.toNat; omega))
  · have e0 : o = dgT (k.toNat + 1) k ⟨#[]⟩ := by
      rw [← h3]
      unfold dgT
      rw [if_pos (by omega)]
    (repeat' (first | intro (b : Nat) | refine go ?_ | (refine br ?_ ?_ <;> first | exact trivial | intro hq)))
    (refine ret ?_; try exact rfl)
    unfold mkT
    rw [← e0]
    rfl

def SzOk (Ts : List ByteArray) (v : Value) : Prop := ∃ r : Int, v = .int .i64 r ∧ (0 ≤ r → Ts.length ≤ 1048576 ∧ ∀ s ∈ Ts, s.size ≤ 1048576)
theorem l_szS (p : Option Addr) (c : Nat) (Ts : List ByteArray) (hl : Ts.length ≤ 9223372036854775807) (hz : ∀ s ∈ Ts, s.size ≤ 9223372036854775807) (w : World) (hA : sE.Rd w p Ts) (hb : D.Base w) : Calls Tryz.prog 15 #[.slice p Ts.length c, .int .i64 1048576] w (RetV w (SzOk Ts)) := by
  refine enter Tryz.func15 rfl Tryz.ntmps15 rfl (by assumption) ?_
  (repeat' (first | intro (b : Nat) | refine go ?_ | (refine br ?_ ?_ <;> first | exact trivial | intro hq)))
  · (refine retw ?_)
    exact ⟨_, rfl, fun h => by omega⟩
  · refine C.loopw (Y := Nat × Int) (fun y => [(0, .slice p Ts.length c), (1, .int .i64 y.2), (4, .int .i64 0), (5, .int .i64 (y.1 : Int))]) (fun y => []) (fun y => y.1 ≤ Ts.length ∧ 0 ≤ y.2 ∧ y.2 ≤ 1048576 ∧ ∀ j, j < y.1 → (Ts.getD j ⟨#[]⟩).size ≤ 1048576) (fun y => Ts.length - y.1) (0, 1048576 - (Ts.length : Int)) ⟨Nat.zero_le _, by show 0 ≤ 1048576 - (Ts.length : Int); omega, by show 1048576 - (Ts.length : Int) ≤ 1048576; omega, fun j hj => absurd hj (Nat.not_lt_zero _)⟩ (fun y hy => ?_)
    generalize y.1 = i at *
    generalize y.2 = left at *
    obtain ⟨h1, h2, h3, h4⟩ := hy
    by_cases hlt : i < Ts.length
    · obtain ⟨b1, o1, rfl, h5⟩ := rdS hA hlt
      have hzs := hz _ (getD_mem' hlt)
      have h6 : (Ts.getD i ⟨#[]⟩).size ≤ 1048576 → ∀ j, j < i + 1 → (Ts.getD j ⟨#[]⟩).size ≤ 1048576 := fun h j hj => by
        rcases (by omega : j < i ∨ j = i) with h7 | rfl
        · exact h4 j h7
        · exact h
      generalize Ts.getD i ⟨#[]⟩ = s at h5 hzs h6
      (repeat' (first | intro (b : Nat) | refine go ?_ | (refine br ?_ ?_ <;> first | exact trivial | intro hq)))
      · (refine retw ?_)
        exact ⟨_, rfl, fun h => by omega⟩
      · (refine X.roundw (i + 1, left - (s.size : Int)) ⟨by show i + 1 ≤ Ts.length; omega, by show 0 ≤ left - (s.size : Int); omega, by show left - (s.size : Int) ≤ 1048576; omega, h6 (by omega)⟩ (by show Ts.length - (i + 1) < Ts.length - i; omega))
    · (repeat' (first | intro (b : Nat) | refine go ?_ | (refine br ?_ ?_ <;> first | exact trivial | intro hq)))
      (refine retw ?_)
      exact ⟨_, rfl, fun h => ⟨by omega, fun s hs => by
        obtain ⟨j, hj, rfl⟩ := List.getElem_of_mem hs
        have := h4 j (by omega)
        rwa [show Ts.getD j ⟨#[]⟩ = Ts[j] by simp [List.getD, hj]] at this⟩⟩

theorem rep_flatS (k : Nat) : rep k [.string ⟨#[]⟩] = flat sE.fc (List.replicate k ⟨#[]⟩) := by
  induction k with
  | zero => rfl
  | succ k ih => rw [rep, ih, List.replicate_succ]; rfl
theorem take_repS {Ts : List ByteArray} {k : Nat} (hk : k < Ts.length) : (Ts.take k ++ List.replicate (Ts.length - k) (⟨#[]⟩ : ByteArray)).set k (Ts.getD k ⟨#[]⟩) = Ts.take (k + 1) ++ List.replicate (Ts.length - (k + 1)) ⟨#[]⟩ := by
  have e : Ts.length - k = (Ts.length - (k + 1)) + 1 := by omega
  rw [e, List.replicate_succ, take_snoc' hk, List.set_append_right _ _ (by rw [List.length_take]; omega)]
  have e2 : k - (Ts.take k).length = 0 := by rw [List.length_take]; omega
  rw [e2]
  simp
theorem wrS (M : List ByteArray) (pad : List Value) (k : Nat) (x : ByteArray) (hk : k < M.length) : Wr (0 + ((k : Int)).toNat * 1) [.string x] (flat sE.fc M ++ pad) (flat sE.fc (M.set k x) ++ pad) := by
  have := wr_flat sE M pad k x hk
  rw [Nat.zero_add, show ((k : Int)).toNat = k by omega]
  exact this

theorem l_toS (p : Option Addr) (c : Nat) (Ts : List ByteArray) (hl : Ts.length ≤ 1048576) (w : World) (hA : sE.Rd w p Ts) (hb : D.Base w) : Calls Tryz.prog 17 #[.slice p Ts.length c] w (Ret w (sE.S Ts)) := by
  refine enter Tryz.func17 rfl Tryz.ntmps17 rfl (by assumption) ?_
  (repeat' (first | intro (b : Nat) | refine go ?_ | (refine br ?_ ?_ <;> first | exact trivial | intro hq)))
  refine C.loopw (Y := Nat) (fun k => [(0, .slice p Ts.length c), (3, .slice (some ⟨b, 0, none⟩) Ts.length Ts.length), (4, .int .i64 (k : Int))]) (fun k => [(b, sE.blk (Ts.take k ++ List.replicate (Ts.length - k) ⟨#[]⟩) [])]) (fun k => k ≤ Ts.length) (fun k => Ts.length - k) 0 (Nat.zero_le _) (h2 := .cons (by simp only [List.take_zero, List.nil_append, Nat.sub_zero, List.append_nil, Int.toNat_natCast]; exact rep_flatS _) .nil) (fun k hk0 => ?_)
  by_cases hk : k < Ts.length
  · obtain ⟨bb, o, rfl, h1⟩ := rdS hA hk
    have e := take_repS hk
    have hW := wrS (Ts.take k ++ List.replicate (Ts.length - k) ⟨#[]⟩) [] k (Ts.getD k ⟨#[]⟩) (by simp; omega)
    rw [e] at hW
    generalize Ts.getD k ⟨#[]⟩ = r at *
    generalize Ts.take k ++ List.replicate (Ts.length - k) (⟨#[]⟩ : ByteArray) = M at *
    (repeat' (first | intro (b : Nat) | refine go ?_ | (refine br ?_ ?_ <;> first | exact trivial | intro hq)))
    (apply L.s; (· exact rfl); (· exact rfl); (· apply OS.store1 (vs' := flat sE.fc (Ts.take (k + 1) ++ List.replicate (Ts.length - (k + 1)) ⟨#[]⟩) ++ []); (· exact rfl); (· exact rfl); (· exact rfl); (· (repeat (first | exact Upd.here | apply Upd.there))); (· exact hW)))
    (repeat' (first | intro (b : Nat) | refine go ?_ | (refine br ?_ ?_ <;> first | exact trivial | intro hq)))
    refine X.roundw (k + 1) ((by omega)) ((by omega))
  · have hk : k = Ts.length := by omega
    subst hk
    (repeat' (first | intro (b : Nat) | refine go ?_ | (refine br ?_ ?_ <;> first | exact trivial | intro hq)))
    (apply X.retr [(b, sE.blk Ts [])]; (· exact rfl); (· (repeat (first | exact RVs.nil | (apply RVs.cons; (· first | exact RV.tmp rfl | (apply RV.cellk; exact rfl; (· (repeat (first | exact List.Mem.head _ | apply List.Mem.tail))); (· (repeat (first | exact Rd.nil | apply Rd.take | apply Rd.skip)))) | (apply RV.cell1; exact rfl; (· (repeat (first | exact List.Mem.head _ | apply List.Mem.tail))); (· (repeat (first | exact Rd.nil | apply Rd.take | apply Rd.skip))))))))); (· exact .cons (by simp) .nil))
    exact ⟨b, Ts.length, [], rfl, rfl, Nat.le_refl _, by omega, by simp [flat_length sE.len]⟩

theorem l_eqS (p q : Option Addr) (ca cb : Nat) (Ts : List ByteArray) (hl : Ts.length ≤ 1000000000) (w : World) (hA : sE.Rd w p Ts) (hB : sE.Rd w q Ts) (hb : D.Base w) : Calls Tryz.prog 19 #[.slice p Ts.length ca, .slice q Ts.length cb] w fun e w' => e = .returned (.bool true) ∧ Below w.heap.size w w' := by
  refine enter Tryz.func19 rfl Tryz.ntmps19 rfl (by assumption) ?_
  (repeat' (first | intro (b : Nat) | refine go ?_ | (refine br ?_ ?_ <;> first | exact trivial | intro hq)))
  refine C.loopw (Y := Nat) (fun k => [(0, .slice p Ts.length ca), (1, .slice q Ts.length cb), (5, .int .i64 (k : Int))]) (fun k => []) (fun k => k ≤ Ts.length) (fun k => Ts.length - k) 0 (Nat.zero_le _) (fun k hy => ?_)
  by_cases hlt : k < Ts.length
  · obtain ⟨b1, o1, rfl, h1⟩ := rdS hA hlt
    obtain ⟨b2, o2, rfl, h2⟩ := rdS hB hlt
    generalize Ts.getD k ⟨#[]⟩ = s at *
    (repeat' (first | intro (b : Nat) | refine go ?_ | (refine br ?_ ?_ <;> first | exact trivial | intro hq) | refine gg ?_ | (apply C.draww (id := 6) 9 [none, none, none, some _, none, none, none, some _, none])))
    all_goals first | (exfalso; omega) | (refine X.roundw (k + 1) (by omega) (by omega)) | (exact absurd rfl hq)
  · (repeat' (first | intro (b : Nat) | refine go ?_ | (refine br ?_ ?_ <;> first | exact trivial | intro hq)))
    (refine ret ?_; try exact rfl)

/-- What marks a list. -/
def msT (k : Int) (n : Nat) : List ByteArray := (List.range n).map fun i : Nat => mkT (k + (i : Int))
theorem msT_len (k : Int) (n : Nat) : (msT k n).length = n := by simp [msT]
theorem msT_at (k : Int) {n i : Nat} (h : i < n) : (msT k n).getD i ⟨#[]⟩ = mkT (k + (i : Int)) := by simp [msT, List.getD, h]
theorem msT_succ (k : Int) (n : Nat) : msT k (n + 1) = msT k n ++ [mkT (k + (n : Int))] := by simp [msT, List.range_succ]
theorem msT_drop {Ts : List ByteArray} {k : Int} {i : Nat} (hi : i < Ts.length) : (msT k i ++ Ts.drop i).set i (mkT (k + (i : Int))) = msT k (i + 1) ++ Ts.drop (i + 1) := by
  rw [List.set_append_right _ _ (by rw [msT_len]; omega), msT_len, Nat.sub_self, List.drop_eq_getElem_cons hi, List.set_cons_zero, msT_succ]
  simp only [List.append_assoc, List.cons_append, List.nil_append]

theorem l_markS (b c : Nat) (Ts : List ByteArray) (pad : List Value) (hl : Ts.length ≤ 1048576) (w0 w : World) (F : SH) (hst : St w0 ((b, sE.blk Ts pad) :: F) w) :
    Calls Tryz.prog 20 #[.slice (some ⟨b, 0, none⟩) Ts.length c, .int .i64 1] w (TurnsR w0 fun v H => v = .int .i64 (1 + (Ts.length : Int)) ∧ H = (b, sE.blk (msT 1 Ts.length) pad) :: F) := by
  refine enterl Tryz.func20 rfl Tryz.ntmps20 rfl hst ?_
  (repeat' (first | intro (b : Nat) | refine go ?_ | (refine br ?_ ?_ <;> first | exact trivial | intro hq)))
  refine C.loopw (Y := Nat) (fun i => [(0, .slice (some ⟨b, 0, none⟩) Ts.length c), (1, .int .i64 (1 + (i : Int))), (5, .int .i64 (i : Int))]) (fun i => (b, sE.blk (msT 1 i ++ Ts.drop i) pad) :: F) (fun i => i ≤ Ts.length) (fun i => Ts.length - i) 0 (Nat.zero_le _) (fun i hy => ?_)
  by_cases hi : i < Ts.length
  · have hlt : i < (msT 1 i ++ Ts.drop i).length := by rw [List.length_append, msT_len, List.length_drop]; omega
    have hW := wrS (msT 1 i ++ Ts.drop i) pad i (mkT (1 + (i : Int))) hlt
    rw [msT_drop hi] at hW
    have hM := l_markText (1 + (i : Int)) (by omega)
    generalize msT 1 i ++ Ts.drop i = M1 at *
    generalize mkT (1 + (i : Int)) = t at *
    (repeat' (first | intro (b : Nat) | refine go ?_ | (refine br ?_ ?_ <;> first | exact trivial | intro hq)))
    (refine L.call (h := by intro W hW; exact hM W hW.base) (k := ?_))
    (repeat' (first | intro (b : Nat) | refine go ?_ | (refine br ?_ ?_ <;> first | exact trivial | intro hq)))
    (apply L.s; (· exact rfl); (· exact rfl); (· apply OS.store1 (vs' := flat sE.fc (msT 1 (i + 1) ++ Ts.drop (i + 1)) ++ pad); (· exact rfl); (· exact rfl); (· exact rfl); (· (repeat (first | exact Upd.here | apply Upd.there))); (· exact hW)))
    (repeat' (first | intro (b : Nat) | refine go ?_ | (refine br ?_ ?_ <;> first | exact trivial | intro hq)))
    (refine X.roundw (i + 1) (by omega) (by omega))
  · have hi : i = Ts.length := by omega
    subst hi
    (repeat' (first | intro (b : Nat) | refine go ?_ | (refine br ?_ ?_ <;> first | exact trivial | intro hq)))
    rw [List.drop_length, List.append_nil]
    exact rettR _ ⟨rfl, rfl⟩

theorem l_heldS (b c : Nat) (m : Nat) (hm : m ≤ 1048576) (w : World) (hA : sE.Rd w (some ⟨b, 0, none⟩) (msT 1 m)) (hb : D.Base w) :
    Calls Tryz.prog 21 #[.slice (some ⟨b, 0, none⟩) m c, .int .i64 1] w fun e w' => e = .returned (.int .i64 (1 + (m : Int))) ∧ Below w.heap.size w w' := by
  refine enter Tryz.func21 rfl Tryz.ntmps21 rfl (by assumption) ?_
  (repeat' (first | intro (b : Nat) | refine go ?_ | (refine br ?_ ?_ <;> first | exact trivial | intro hq)))
  refine C.loopw (Y := Nat) (fun i => [(0, .slice (some ⟨b, 0, none⟩) m c), (1, .int .i64 (1 + (i : Int))), (5, .int .i64 (i : Int))]) (fun i => []) (fun i => i ≤ m) (fun i => m - i) 0 (Nat.zero_le _) (fun i hy => ?_)
  by_cases hi : i < m
  · obtain ⟨b', o', hp, h1⟩ := rdS hA (i := i) (by rw [msT_len]; omega)
    obtain ⟨rfl, rfl⟩ : b = b' ∧ 0 = o' := by simpa using hp
    rw [msT_at 1 hi] at h1
    have hM := l_markText (1 + (i : Int)) (by omega)
    generalize mkT (1 + (i : Int)) = t at *
    (repeat' (first | intro (b : Nat) | refine go ?_ | (refine br ?_ ?_ <;> first | exact trivial | intro hq) | refine L.call (h := by intro W hW; apply hM W hW.base) (k := ?_) | refine gg ?_ | refine G.call (h := by intro W hW; apply hM W hW.base) (k := ?_) | (apply C.draww (id := 4) 7 [none, none, none, some _, none, some _, none])))
    all_goals first | (exfalso; omega) | (refine X.roundw (i + 1) (by omega) (by omega)) | (exact absurd rfl hq)
  · have hi : i = m := by omega
    subst hi
    (repeat' (first | intro (b : Nat) | refine go ?_ | (refine br ?_ ?_ <;> first | exact trivial | intro hq)))
    (refine ret ?_; try exact rfl)

theorem law_FnExactStampsSort (p : Option Addr) (c : Nat) (Ts : List ByteArray) (w : World) (hq0 : Ts.length ≤ 9223372036854775807 ∧ (∀ s ∈ Ts, s.size ≤ 9223372036854775807) ∧ sE.Rd w p Ts) (hb : D.Base w) (hg : Hdl w) :
    Calls Tryz.prog 3 #[.slice p Ts.length c] w fun e w' => e = .returned (.bool true) ∧ Below w.heap.size w w' := by
  obtain ⟨hl0, hz0, hA⟩ := hq0
  refine enter Tryz.func3 rfl Tryz.ntmps3 rfl (by assumption) ?_
  (repeat' (first | intro (b : Nat) | refine go ?_ | (refine br ?_ ?_ <;> first | exact trivial | intro hq)))
  (refine L.vcall (h := by intro W hW; exact l_szS p c Ts hl0 hz0 W (El.Rd.keep sE hA hW.low) hW.base) (k := ?_); intro v hR)
  obtain ⟨r, rfl, hr⟩ := hR
  by_cases hr0 : r < 0
  · (repeat' (first | intro (b : Nat) | refine go ?_ | (refine br ?_ ?_ <;> first | exact trivial | intro hq)))
    (refine ret ?_; try exact rfl)
  · obtain ⟨hl, hz⟩ := hr (by omega)
    clear hr
    (repeat' (first | intro (b : Nat) | refine go ?_ | (refine br ?_ ?_ <;> first | exact trivial | intro hq)))
    (refine L.ncall (h := by intro W hW; exact l_toS _ _ Ts (by omega) W (El.Rd.keep sE hA hW.low) hW.base) (k := ?_); intro v H hR)
    obtain ⟨b1, cb1, pb1, rfl, rfl, hb1⟩ := hR
    simp only [List.cons_append, List.nil_append]
    (repeat' (first | intro (b : Nat) | refine go ?_ | (refine br ?_ ?_ <;> first | exact trivial | intro hq)))
    (refine L.ncall (h := by intro W hW; exact b_StampsSort (some ⟨b1, 0, none⟩) cb1 Ts (by omega) (fun s hs => by have := hz s hs; omega) W (sE.own hW (by (repeat (first | exact List.Mem.head _ | apply List.Mem.tail)))) hW.base) (k := ?_); intro v H hR)
    obtain ⟨bw, cw, pw, rfl, rfl, hw⟩ := hR
    simp only [List.cons_append, List.nil_append]
    (repeat' (first | intro (b : Nat) | refine go ?_ | (refine br ?_ ?_ <;> first | exact trivial | intro hq)))
    (refine L.ncall (h := by intro W hW; exact l_toS _ _ Ts (by omega) W (El.Rd.keep sE hA hW.low) hW.base) (k := ?_); intro v H hR)
    obtain ⟨b3, cb3, pb3, rfl, rfl, hb3⟩ := hR
    simp only [List.cons_append, List.nil_append]
    (repeat' (first | intro (b : Nat) | refine go ?_ | (refine br ?_ ?_ <;> first | exact trivial | intro hq)))
    (refine L.ncall (h := by intro W hW; exact a_StampsSort (some ⟨b3, 0, none⟩) cb3 Ts (by omega) (fun s hs => by have := hz s hs; omega) W (sE.own hW (by (repeat (first | exact List.Mem.head _ | apply List.Mem.tail)))) hW.base (hW.old hg)) (k := ?_); intro v H hR)
    obtain ⟨bo, cbo, pbo, rfl, rfl, hbo⟩ := hR
    simp only [List.cons_append, List.nil_append]
    have hlO := sort_len Ts
    generalize hO : sortR Ts = O at *
    (repeat' (first | intro (b : Nat) | refine go ?_ | (refine br ?_ ?_ <;> first | exact trivial | intro hq)))
    (refine L.call (h := by intro W hW; exact l_eqS (some ⟨bo, 0, none⟩) (some ⟨bw, 0, none⟩) _ _ O (by omega) W (sE.own hW (by (repeat (first | exact List.Mem.head _ | apply List.Mem.tail)))) (sE.own hW (by (repeat (first | exact List.Mem.head _ | apply List.Mem.tail)))) hW.base) (k := ?_))
    (repeat' (first | intro (b : Nat) | refine go ?_ | (refine br ?_ ?_ <;> first | exact trivial | intro hq)))
    (refine L.ncall (h := by intro W hW; exact l_toS _ _ Ts (by omega) W (El.Rd.keep sE hA hW.low) hW.base) (k := ?_); intro v H hR)
    obtain ⟨b5, cb5, pb5, rfl, rfl, hb5⟩ := hR
    simp only [List.cons_append, List.nil_append]
    (repeat' (first | intro (b : Nat) | refine go ?_ | (refine br ?_ ?_ <;> first | exact trivial | intro hq)))
    (refine L.call (h := by intro W hW; exact l_eqS (some ⟨b3, 0, none⟩) (some ⟨b5, 0, none⟩) _ _ Ts (by omega) W (sE.own hW (by (repeat (first | exact List.Mem.head _ | apply List.Mem.tail)))) (sE.own hW (by (repeat (first | exact List.Mem.head _ | apply List.Mem.tail)))) hW.base) (k := ?_))
    (repeat' (first | intro (b : Nat) | refine go ?_ | (refine br ?_ ?_ <;> first | exact trivial | intro hq)))
    refine L.tcallR b3 (h := by intro W hW; exact l_markS b3 _ Ts _ (by omega) w W _ hW) (k := ?_)
    rintro v H ⟨rfl, rfl⟩
    (repeat' (first | intro (b : Nat) | refine go ?_ | (refine br ?_ ?_ <;> first | exact trivial | intro hq)))
    (refine L.call (h := by intro W hW; exact l_eqS (some ⟨bo, 0, none⟩) (some ⟨bw, 0, none⟩) _ _ O (by omega) W (sE.own hW (by (repeat (first | exact List.Mem.head _ | apply List.Mem.tail)))) (sE.own hW (by (repeat (first | exact List.Mem.head _ | apply List.Mem.tail)))) hW.base) (k := ?_))
    (repeat' (first | intro (b : Nat) | refine go ?_ | (refine br ?_ ?_ <;> first | exact trivial | intro hq)))
    refine L.tcallR bo (h := by intro W hW; exact l_markS bo _ O _ (by omega) w W _ hW) (k := ?_)
    rintro v H ⟨rfl, rfl⟩
    (repeat' (first | intro (b : Nat) | refine go ?_ | (refine br ?_ ?_ <;> first | exact trivial | intro hq)))
    (refine L.call (h := by intro W hW; exact l_heldS bo _ O.length (by omega) W (sE.own hW (by (repeat (first | exact List.Mem.head _ | apply List.Mem.tail)))) hW.base) (k := ?_))
    (repeat' (first | intro (b : Nat) | refine go ?_ | (refine br ?_ ?_ <;> first | exact trivial | intro hq)))
    (refine L.ncall (h := by intro W hW; exact l_toS _ _ Ts (by omega) W (El.Rd.keep sE hA hW.low) hW.base) (k := ?_); intro v H hR)
    obtain ⟨b7, cb7, pb7, rfl, rfl, hb7⟩ := hR
    simp only [List.cons_append, List.nil_append]
    (repeat' (first | intro (b : Nat) | refine go ?_ | (refine br ?_ ?_ <;> first | exact trivial | intro hq)))
    (refine L.ncall (h := by intro W hW; exact a_StampsSort (some ⟨b7, 0, none⟩) cb7 Ts (by omega) (fun s hs => by have := hz s hs; omega) W (sE.own hW (by (repeat (first | exact List.Mem.head _ | apply List.Mem.tail)))) hW.base (hW.old hg)) (k := ?_); intro v H hR)
    rw [hO] at hR
    obtain ⟨bp, cbp, pbp, rfl, rfl, hbp⟩ := hR
    simp only [List.cons_append, List.nil_append]
    (repeat' (first | intro (b : Nat) | refine go ?_ | (refine br ?_ ?_ <;> first | exact trivial | intro hq)))
    (refine L.call (h := by intro W hW; exact l_eqS (some ⟨bp, 0, none⟩) (some ⟨bw, 0, none⟩) _ _ O (by omega) W (sE.own hW (by (repeat (first | exact List.Mem.head _ | apply List.Mem.tail)))) (sE.own hW (by (repeat (first | exact List.Mem.head _ | apply List.Mem.tail)))) hW.base) (k := ?_))
    (repeat' (first | intro (b : Nat) | refine go ?_ | (refine br ?_ ?_ <;> first | exact trivial | intro hq)))
    (refine L.call (h := by intro W hW; exact l_heldS bo _ O.length (by omega) W (sE.own hW (by (repeat (first | exact List.Mem.head _ | apply List.Mem.tail)))) hW.base) (k := ?_))
    (repeat' (first | intro (b : Nat) | refine go ?_ | (refine br ?_ ?_ <;> first | exact trivial | intro hq)))
    (refine ret ?_; try exact rfl)

end D
end Go.Proofs.YtpgbmohocfcjpaaGreatDoor
