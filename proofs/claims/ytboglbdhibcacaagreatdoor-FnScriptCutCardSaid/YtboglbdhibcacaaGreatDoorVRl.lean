/- Walks: lines and scripts (the reference): a line is cut, run; a script. -/
import Derived.Test.YtboglbdhibcacaaGreatDoorVRf
import Derived.Test.YtboglbdhibcacaaGreatDoorVIt
namespace Go.Proofs.YtboglbdhibcacaaGreatDoor
set_option linter.unusedVariables false
set_option linter.unusedSimpArgs false
set_option maxRecDepth 100000
set_option maxHeartbeats 2000000
namespace D
open Go.RowKit
open Go.PlainAid (bt bt_nonneg bt_le bt_end)
attribute [local irreducible] Calls

theorem b_l51Cut (s : ByteArray) (hs : s.size ≤ 1000000) (w : World) (hb : D.Base w) : Calls Tryz.prog 43 #[.string s] w (Ret w (sE.S (splL 32 s))) := by
  refine enter Tryz.func43 rfl Tryz.ntmps43 rfl (by assumption) ?_
  (repeat (first | intro (b : Nat) | refine go ?_))
  refine C.loopw (Y := Nat × Nat × List ByteArray × Nat × Nat × List Value) (fun k => [(0, .string s), (3, .slice (some ⟨k.2.2.2.1, 0, none⟩) k.2.2.1.length k.2.2.2.2.1), (4, .int .i64 (k.2.1 : Int)), (5, .int .i64 (k.1 : Int))]) (fun k => [(k.2.2.2.1, sE.blk k.2.2.1 k.2.2.2.2.2)]) (fun k => k.1 ≤ s.size ∧ k.2.1 ≤ k.1 ∧ k.2.2.1 ++ cutB 32 s (s.size - k.1) k.2.1 = splL 32 s ∧ sE.Sf k.2.2.1 k.2.2.2.2.1 k.2.2.2.2.2) (fun k => s.size - k.1) (0, 0, [], b, 0, []) ⟨Nat.zero_le _, Nat.le_refl _, by rw [List.nil_append]; rfl, El.Sf.nil sE⟩ (fun k hy => ?_)
  generalize k.1 = i at *
  generalize k.2.1 = f at *
  generalize k.2.2.1 = M at *
  generalize k.2.2.2.1 = bb at *
  generalize k.2.2.2.2.1 = cc at *
  generalize k.2.2.2.2.2 = pad at *
  obtain ⟨h1, h2, h3, h4⟩ := hy
  have hml : M.length ≤ 1000000 := by
    have h5 := congrArg List.length h3
    have h6 := splL_few 32 s
    have h7 := cutB_len 32 s (s.size - i) f
    rw [List.length_append] at h5
    omega
  have hz : s.extract f s.size = s.extract f s.size := rfl
  have ei : ((i : Int)).toNat = i := Int.toNat_natCast i
  have ef : ((f : Int)).toNat = f := Int.toNat_natCast f
  (repeat' (first | intro (b : Nat) | refine go ?_ | (refine br ?_ ?_ <;> first | exact trivial | intro hq)))
  · rw [ei] at hq
    rw [ei, ef]
    rw [cutB_yes (by omega) hq] at h3
    (refine L.gapp sE h4 (hb := by show (M.length + 1) * 16 ≤ _; omega) (hb2 := by omega) (kk := fun b3 c3 p3 hS3 => ?_))
    (repeat' (first | intro (b : Nat) | refine go ?_ | (refine br ?_ ?_ <;> first | exact trivial | intro hq)))
    (refine X.roundw (i + 1, i + 1, M ++ [s.extract f i], b3, c3, p3) ⟨by show i + 1 ≤ s.size; omega, Nat.le_refl _, by rw [List.append_assoc]; exact h3, hS3⟩ (by show s.size - (i + 1) < s.size - i; omega) (h3 := .cons rfl rfl (.cons rfl (congrArg (fun x : Nat => Value.slice (some ⟨b3, 0, none⟩) x c3) (by simp)) (.cons rfl rfl (.cons rfl rfl .nil)))))
  · rw [ei] at hq
    rw [cutB_no (by omega) hq] at h3
    (refine X.roundw (i + 1, f, M, bb, cc, pad) ⟨by show i + 1 ≤ s.size; omega, by show f ≤ i + 1; omega, h3, h4⟩ (by show s.size - (i + 1) < s.size - i; omega))
  · rw [ef]
    rw [cutB_end (by omega)] at h3
    (refine L.gapp sE h4 (hb := by show (M.length + 1) * 16 ≤ _; omega) (hb2 := by omega) (kk := fun b3 c3 p3 hS3 => ?_))
    rw [h3] at hS3 ⊢
    (repeat' (first | intro (b : Nat) | refine go ?_ | (refine br ?_ ?_ <;> first | exact trivial | intro hq)))
    rw [show M.length + 1 = (splL 32 s).length by rw [← h3]; simp]
    (apply X.retr [(b3, sE.blk (splL 32 s) p3)]; (· exact rfl); (· (repeat (first | exact RVs.nil | (apply RVs.cons; (· first | exact RV.tmp rfl | (apply RV.cellk; exact rfl; (· (repeat (first | exact List.Mem.head _ | apply List.Mem.tail))); (· (repeat (first | exact Rd.nil | apply Rd.take | apply Rd.skip)))) | (apply RV.cell1; exact rfl; (· (repeat (first | exact List.Mem.head _ | apply List.Mem.tail))); (· (repeat (first | exact Rd.nil | apply Rd.take | apply Rd.skip))))))))); (· (repeat (first | exact SubH.nil | (apply SubH.cons; (· first | with_reducible rfl | (simp only [List.cons.injEq, Value.int.injEq, and_true, true_and] <;> omega) | rfl)) | apply SubH.skip | exact SubH.refl))))
    exact ⟨b3, c3, p3, rfl, rfl, hS3⟩

/-- A line's pieces: how many there are. -/
theorem four_ways (Ws : List ByteArray) (h : Ws ≠ []) : (∃ a, Ws = [a]) ∨ (∃ a b, Ws = [a, b]) ∨ (∃ a b c, Ws = [a, b, c]) ∨ ∃ a b c d r, Ws = a :: b :: c :: d :: r := by
  match Ws, h with
  | [a], _ => exact .inl ⟨a, rfl⟩
  | [a, b], _ => exact .inr (.inl ⟨a, b, rfl⟩)
  | [a, b, c], _ => exact .inr (.inr (.inl ⟨a, b, c, rfl⟩))
  | a :: b :: c :: d :: r, _ => exact .inr (.inr (.inr ⟨a, b, c, d, r, rfl⟩))
theorem ans_else {W : List ByteArray} (h2 : W.length = 2 → W.getD 0 sNil ≠ kDate ∧ W.getD 0 sNil ≠ kTidy ∧ W.getD 0 sNil ≠ kEast ∧ W.getD 0 sNil ≠ kSpan) (h3 : W.length = 3 → W.getD 0 sNil ≠ kPlus ∧ W.getD 0 sNil ≠ kMinu ∧ W.getD 0 sNil ≠ kBetw) : ansW W = tWhat := by
  unfold ansW
  rw [if_neg fun h => (h2 h.2).1 h.1, if_neg fun h => (h2 h.2).2.1 h.1, if_neg fun h => (h2 h.2).2.2.1 h.1, if_neg fun h => (h2 h.2).2.2.2 h.1, if_neg fun h => (h3 h.2).1 h.1, if_neg fun h => (h3 h.2).2.1 h.1, if_neg fun h => (h3 h.2).2.2 h.1]
theorem mem_size {s t : ByteArray} (ht : t ∈ splL 32 s) (hs : s.size ≤ 1000000) : t.size ≤ 1000000 := Nat.le_trans (splL_size 32 s t ht) hs

set_option maxHeartbeats 8000000 in
theorem b_l51Line (s : ByteArray) (hs : s.size ≤ 1000000) (w : World) (hb : D.Base w) : Calls Tryz.prog 26 #[.string s] w fun e w' => e = .returned (.string (ansT s ++ s10)) ∧ Below w.heap.size w w' := by
  have hm := fun t (ht : t ∈ splL 32 s) => mem_size ht hs
  refine enter Tryz.func26 rfl Tryz.ntmps26 rfl (by assumption) ?_
  (repeat (first | intro (b : Nat) | refine go ?_))
  (refine L.ncall (h := by intro W hW; exact b_l51Cut s hs W hW.base) (k := ?_); intro v H hR)
  obtain ⟨b, c, pad, rfl, rfl, hS⟩ := hR
  unfold ansT
  rcases four_ways (splL 32 s) (splL_ne 32 s) with ⟨x, e⟩ | ⟨x, y, e⟩ | ⟨x, y, z, e⟩ | ⟨x, y, z, u, r, e⟩
  · rw [e]
    rw [ans_else (W := [x]) (fun h => absurd h (by show ¬ 1 = 2; omega)) (fun h => absurd h (by show ¬ 1 = 3; omega)), ← what_nl]
    have eb : sE.blk [x] pad = .cells sE.T (.string x :: pad) := rfl
    have hl : [x].length = 1 := rfl
    rw [eb, hl]
    simp only [List.cons_append, List.nil_append]
    (repeat' (first | intro (b : Nat) | refine go ?_ | (refine br ?_ ?_ <;> first | exact trivial | intro hq)))
    all_goals (refine ret ?_; try exact rfl)
  · rw [e] at hm ⊢
    have eb : sE.blk [x, y] pad = .cells sE.T (.string x :: .string y :: pad) := rfl
    have hl : [x, y].length = 2 := rfl
    rw [eb, hl]
    simp only [List.cons_append, List.nil_append]
    have hy := hm y (by simp)
    by_cases k1 : x = kDate
    · subst k1
      rw [show ansW [kDate, y] = tellW (dateW y) from if_pos ⟨rfl, rfl⟩]
      (repeat' (first | intro (b : Nat) | refine go ?_ | (refine br ?_ ?_ <;> first | exact trivial | intro hq) | refine L.call (h := by intro W hW; apply b_dateW y (by omega) W hW.base) (k := ?_) | refine gg ?_ | refine G.call (h := by intro W hW; apply b_dateW y (by omega) W hW.base) (k := ?_) | (apply C.draww (id := 11) 8 [none, none, some _, none, none, some _, some _, none]) | (apply C.draww (id := 13) 8 [none, none, some _, none, none, some _, some _, none]) | (apply C.draww (id := 15) 8 [none, none, some _, none, none, some _, some _, none])))
      all_goals (refine ret ?_; try exact rfl)
    by_cases k2 : x = kTidy
    · subst k2
      rw [show ansW [kTidy, y] = tellW (tidyW y) from (if_neg fun h => k1 h.1).trans (if_pos ⟨rfl, rfl⟩)]
      (repeat' (first | intro (b : Nat) | refine go ?_ | (refine br ?_ ?_ <;> first | exact trivial | intro hq) | refine L.call (h := by intro W hW; apply b_tidyW y (by omega) W hW.base) (k := ?_) | refine gg ?_ | refine G.call (h := by intro W hW; apply b_tidyW y (by omega) W hW.base) (k := ?_) | (apply C.draww (id := 11) 8 [none, none, some _, none, none, some _, some _, none]) | (apply C.draww (id := 13) 8 [none, none, some _, none, none, some _, some _, none]) | (apply C.draww (id := 15) 8 [none, none, some _, none, none, some _, some _, none])))
      all_goals (refine ret ?_; try exact rfl)
    by_cases k3 : x = kEast
    · subst k3
      rw [show ansW [kEast, y] = tellW (eastW y) from (if_neg fun h => k1 h.1).trans ((if_neg fun h => k2 h.1).trans (if_pos ⟨rfl, rfl⟩))]
      (repeat' (first | intro (b : Nat) | refine go ?_ | (refine br ?_ ?_ <;> first | exact trivial | intro hq) | refine L.call (h := by intro W hW; apply b_eastW y (by omega) W hW.base) (k := ?_) | refine gg ?_ | refine G.call (h := by intro W hW; apply b_eastW y (by omega) W hW.base) (k := ?_) | (apply C.draww (id := 11) 8 [none, none, some _, none, none, some _, some _, none]) | (apply C.draww (id := 13) 8 [none, none, some _, none, none, some _, some _, none]) | (apply C.draww (id := 15) 8 [none, none, some _, none, none, some _, some _, none])))
      all_goals (refine ret ?_; try exact rfl)
    by_cases k4 : x = kSpan
    · subst k4
      rw [show ansW [kSpan, y] = tellW (spanW y) from (if_neg fun h => k1 h.1).trans ((if_neg fun h => k2 h.1).trans ((if_neg fun h => k3 h.1).trans (if_pos ⟨rfl, rfl⟩)))]
      (repeat' (first | intro (b : Nat) | refine go ?_ | (refine br ?_ ?_ <;> first | exact trivial | intro hq) | refine L.call (h := by intro W hW; apply b_spanW y (by omega) W hW.base) (k := ?_) | refine gg ?_ | refine G.call (h := by intro W hW; apply b_spanW y (by omega) W hW.base) (k := ?_) | (apply C.draww (id := 11) 8 [none, none, some _, none, none, some _, some _, none]) | (apply C.draww (id := 13) 8 [none, none, some _, none, none, some _, some _, none]) | (apply C.draww (id := 15) 8 [none, none, some _, none, none, some _, some _, none])))
      all_goals (refine ret ?_; try exact rfl)
    rw [ans_else (W := [x, y]) (fun h => ⟨k1, k2, k3, k4⟩) (fun h => absurd h (by show ¬ 2 = 3; omega)), ← what_nl]
    (repeat' (first | intro (b : Nat) | refine go ?_ | (refine br ?_ ?_ <;> first | exact trivial | intro hq)))
    all_goals first | exact absurd hq k1 | exact absurd hq k2 | exact absurd hq k3 | exact absurd hq k4 | (refine ret ?_; try exact rfl)
  · rw [e] at hm ⊢
    have eb : sE.blk [x, y, z] pad = .cells sE.T (.string x :: .string y :: .string z :: pad) := rfl
    have hl : [x, y, z].length = 3 := rfl
    rw [eb, hl]
    simp only [List.cons_append, List.nil_append]
    have hy := hm y (by simp)
    have hz := hm z (by simp)
    have hno : ∀ k, ¬ ((([x, y, z] : List ByteArray).getD 0 sNil = k) ∧ ([x, y, z] : List ByteArray).length = 2) := fun k h => absurd h.2 (by show ¬ 3 = 2; omega)
    by_cases k1 : x = kPlus
    · subst k1
      rw [show ansW [kPlus, y, z] = tellW (plusW y z false) from (if_neg (hno _)).trans ((if_neg (hno _)).trans ((if_neg (hno _)).trans ((if_neg (hno _)).trans (if_pos ⟨rfl, rfl⟩))))]
      (repeat' (first | intro (b : Nat) | refine go ?_ | (refine br ?_ ?_ <;> first | exact trivial | intro hq) | refine L.call (h := by intro W hW; apply b_plusW y z false (by omega) (by omega) W hW.base) (k := ?_) | refine gg ?_ | refine G.call (h := by intro W hW; apply b_plusW y z false (by omega) (by omega) W hW.base) (k := ?_) | (apply C.draww (id := 11) 8 [none, none, some _, none, none, some _, some _, none]) | (apply C.draww (id := 13) 8 [none, none, some _, none, none, some _, some _, none]) | (apply C.draww (id := 15) 8 [none, none, some _, none, none, some _, some _, none])))
      all_goals (refine ret ?_; try exact rfl)
    by_cases k2 : x = kMinu
    · subst k2
      rw [show ansW [kMinu, y, z] = tellW (plusW y z true) from (if_neg (hno _)).trans ((if_neg (hno _)).trans ((if_neg (hno _)).trans ((if_neg (hno _)).trans ((if_neg fun h => k1 h.1).trans (if_pos ⟨rfl, rfl⟩)))))]
      (repeat' (first | intro (b : Nat) | refine go ?_ | (refine br ?_ ?_ <;> first | exact trivial | intro hq) | refine L.call (h := by intro W hW; apply b_plusW y z true (by omega) (by omega) W hW.base) (k := ?_) | refine gg ?_ | refine G.call (h := by intro W hW; apply b_plusW y z true (by omega) (by omega) W hW.base) (k := ?_) | (apply C.draww (id := 11) 8 [none, none, some _, none, none, some _, some _, none]) | (apply C.draww (id := 13) 8 [none, none, some _, none, none, some _, some _, none]) | (apply C.draww (id := 15) 8 [none, none, some _, none, none, some _, some _, none])))
      all_goals (refine ret ?_; try exact rfl)
    by_cases k3 : x = kBetw
    · subst k3
      rw [show ansW [kBetw, y, z] = tellW (betwW y z) from (if_neg (hno _)).trans ((if_neg (hno _)).trans ((if_neg (hno _)).trans ((if_neg (hno _)).trans ((if_neg fun h => k1 h.1).trans ((if_neg fun h => k2 h.1).trans (if_pos ⟨rfl, rfl⟩))))))]
      (repeat' (first | intro (b : Nat) | refine go ?_ | (refine br ?_ ?_ <;> first | exact trivial | intro hq) | refine L.call (h := by intro W hW; apply b_betwW y z (by omega) (by omega) W hW.base) (k := ?_) | refine gg ?_ | refine G.call (h := by intro W hW; apply b_betwW y z (by omega) (by omega) W hW.base) (k := ?_) | (apply C.draww (id := 11) 8 [none, none, some _, none, none, some _, some _, none]) | (apply C.draww (id := 13) 8 [none, none, some _, none, none, some _, some _, none]) | (apply C.draww (id := 15) 8 [none, none, some _, none, none, some _, some _, none])))
      all_goals (refine ret ?_; try exact rfl)
    rw [ans_else (W := [x, y, z]) (fun h => absurd h (by show ¬ 3 = 2; omega)) (fun h => ⟨k1, k2, k3⟩), ← what_nl]
    (repeat' (first | intro (b : Nat) | refine go ?_ | (refine br ?_ ?_ <;> first | exact trivial | intro hq)))
    all_goals first | exact absurd hq k1 | exact absurd hq k2 | exact absurd hq k3 | (refine ret ?_; try exact rfl)
  · rw [e]
    have eb : sE.blk (x :: y :: z :: u :: r) pad = .cells sE.T (.string x :: .string y :: .string z :: .string u :: (flat sE.fc r ++ pad)) := rfl
    have hl : (x :: y :: z :: u :: r).length = r.length + 4 := rfl
    rw [ans_else (W := x :: y :: z :: u :: r) (fun h => absurd h (by rw [hl]; omega)) (fun h => absurd h (by rw [hl]; omega)), ← what_nl, eb, hl]
    simp only [List.cons_append, List.nil_append]
    (repeat' (first | intro (b : Nat) | refine go ?_ | (refine br ?_ ?_ <;> first | exact trivial | intro hq)))
    all_goals (refine ret ?_; try exact rfl)

theorem b_Execute (s : ByteArray) (hs : s.size ≤ 2000000) (w : World) (hb : D.Base w) : Calls Tryz.prog 14 #[.string s] w fun e w' => e = .returned (.string (exeT s)) ∧ Below w.heap.size w w' := by
  unfold exeT
  by_cases h6 : s.size ≤ 600
  · rw [if_pos h6]
    have hfew := splL_few 10 s
    refine enter Tryz.func14 rfl Tryz.ntmps14 rfl (by assumption) ?_
    (repeat' (first | intro (b : Nat) | refine go ?_ | (refine br ?_ ?_ <;> first | exact trivial | intro hq)))
    refine C.loopw (Y := Nat × Nat × List ByteArray) (fun k => [(0, .string s), (3, .string (outL k.2.2)), (4, .int .i64 (k.2.2.length : Int)), (5, .int .i64 (k.2.1 : Int)), (6, .int .i64 (k.1 : Int))]) (fun k => []) (fun k => k.1 ≤ s.size ∧ k.2.1 ≤ k.1 ∧ k.2.2 ++ cutB 10 s (s.size - k.1) k.2.1 = splL 10 s) (fun k => s.size - k.1) (0, 0, []) ⟨Nat.zero_le _, Nat.le_refl _, by rw [List.nil_append]; rfl⟩ (fun k hy => ?_)
    generalize k.1 = i at *
    generalize k.2.1 = f at *
    generalize k.2.2 = M at *
    obtain ⟨h1, h2, h3⟩ := hy
    have hml : M.length ≤ 601 := by
      have h5 := congrArg List.length h3
      rw [List.length_append] at h5
      omega
    have hos := outL_sz M
    have ei : ((i : Int)).toNat = i := Int.toNat_natCast i
    have ef : ((f : Int)).toNat = f := Int.toNat_natCast f
    (repeat' (first | intro (b : Nat) | refine go ?_ | (refine br ?_ ?_ <;> first | exact trivial | intro hq)))
    · rw [ei] at hq
      rw [ei, ef]
      rw [cutB_yes (by omega) hq] at h3
      have hL := b_l51Line (s.extract f i) (by rw [size_ext (by omega)]; omega)
      have ho := outL_snoc M (s.extract f i)
      have hza := ansW_sz (splL 32 (s.extract f i))
      have hzz : (ansT (s.extract f i) ++ s10).size = (ansT (s.extract f i)).size + 1 := by rw [ByteArray.size_append]; rfl
      have hza' : (ansT (s.extract f i)).size ≤ 100 := hza
      (refine L.call (h := by intro W hW; exact hL W hW.base) (k := ?_))
      (repeat' (first | intro (b : Nat) | refine go ?_ | (refine br ?_ ?_ <;> first | exact trivial | intro hq)))
      (refine X.roundw (i + 1, i + 1, M ++ [s.extract f i]) ⟨by show i + 1 ≤ s.size; omega, Nat.le_refl _, by rw [List.append_assoc]; exact h3⟩ (by show s.size - (i + 1) < s.size - i; omega) (h3 := .cons rfl rfl (.cons rfl (congrArg Value.string ho.symm) (.cons rfl (congrArg (Value.int IntKind.i64) (by simp)) (.cons rfl rfl (.cons rfl rfl .nil))))))
    · rw [ei] at hq
      rw [cutB_no (by omega) hq] at h3
      (refine X.roundw (i + 1, f, M) ⟨by show i + 1 ≤ s.size; omega, by show f ≤ i + 1; omega, h3⟩ (by show s.size - (i + 1) < s.size - i; omega))
    · rw [cutB_end (by omega)] at h3
      have hD := b_dec (M.length : Int) (by omega)
      have hd4 := (decL_len (M.length : Int)).2
      rw [← strOfNums_size] at hd4
      have ht : tLines.size = 6 := rfl
      have y1 : (outL M ++ tLines).size = (outL M).size + 6 := by rw [ByteArray.size_append, ht]
      have y2 : (outL M ++ tLines ++ strOfNums (decL (M.length : Int))).size = (outL M).size + 6 + (strOfNums (decL (M.length : Int))).size := by rw [ByteArray.size_append, y1]
      rw [← h3, List.dropLast_concat]
      unfold exeL
      rw [← ByteArray.append_assoc, ← ByteArray.append_assoc]
      generalize strOfNums (decL (M.length : Int)) = t at *
      (repeat' (first | intro (b : Nat) | refine go ?_ | (refine br ?_ ?_ <;> first | exact trivial | intro hq)))
      (refine L.call (h := by intro W hW; exact hD W hW.base) (k := ?_))
      (repeat' (first | intro (b : Nat) | refine go ?_ | (refine br ?_ ?_ <;> first | exact trivial | intro hq)))
      (refine ret ?_; try exact rfl)
  · rw [if_neg h6]
    refine enter Tryz.func14 rfl Tryz.ntmps14 rfl (by assumption) ?_
    (repeat' (first | intro (b : Nat) | refine go ?_ | (refine br ?_ ?_ <;> first | exact trivial | intro hq)))
    (refine ret ?_; try exact rfl)

end D
end Go.Proofs.YtboglbdhibcacaaGreatDoor
