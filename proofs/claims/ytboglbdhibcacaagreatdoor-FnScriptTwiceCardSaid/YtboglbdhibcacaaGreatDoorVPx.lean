/- Walks: texts of periods, of both. -/
import Derived.Test.YtboglbdhibcacaaGreatDoorVIt
import Derived.Test.YtboglbdhibcacaaGreatDoorVf
import Derived.Test.YtboglbdhibcacaaGreatDoorVS3
import Derived.Test.YtboglbdhibcacaaGreatDoorVd
namespace Go.Proofs.YtboglbdhibcacaaGreatDoor
set_option linter.unusedVariables false
set_option linter.unusedSimpArgs false
set_option maxRecDepth 100000
set_option maxHeartbeats 1000000
namespace D
open Go.RowKit
open Go.PlainAid (bt bt_nonneg bt_le bt_end)
attribute [local irreducible] Calls

/-! ### What is written after some parts -/
def dPre (p : P6) (k : Int) : List It := if k ≤ 0 then [] else if k = 1 then itm 0 89 p.a else if k = 2 then itm 0 89 p.a ++ itm 1 77 p.b else dItems p
def tPre (p : P6) (k : Int) : List It := if k ≤ 3 then [] else if k = 4 then itm 3 72 p.d else if k = 5 then itm 3 72 p.d ++ itm 4 77 p.e else tItems p
def tP (xs : List It) : List Int := if xs = [] then [] else 84 :: itL xs
def preP (p : P6) (k : Int) : List Int := [80] ++ itL (dPre p k) ++ tP (tPre p k)
def tmP (p : P6) (k : Int) : Bool := !(tPre p k).isEmpty
theorem itL_le (xs : List It) : (itL xs).length ≤ 5 * xs.length := by
  induction xs with
  | nil => simp [itL]
  | cons x r ih =>
    have := decL_len x.2.1
    simp only [itL, List.flatMap_cons, List.length_append, List.length_cons, List.length_nil] at ih ⊢
    omega
theorem itm_le (k c n : Int) : (itm k c n).length ≤ 1 := by unfold itm; split <;> simp
theorem preP_len (p : P6) (k : Int) : (preP p k).length ≤ 40 := by
  have h1 := itL_le (dPre p k)
  have h2 := itL_le (tPre p k)
  have h3 : (dPre p k).length ≤ 3 := by
    have := itm_le 0 89 p.a; have := itm_le 1 77 p.b; have := itm_le 2 68 p.c
    unfold dPre dItems
    repeat' split
    all_goals first | omega | (simp only [List.length_append, List.length_nil]; omega)
  have h4 : (tPre p k).length ≤ 3 := by
    have := itm_le 3 72 p.d; have := itm_le 4 77 p.e; have := itm_le 5 83 p.f
    unfold tPre tItems
    repeat' split
    all_goals first | omega | (simp only [List.length_append, List.length_nil]; omega)
  unfold preP tP
  split
  · simp only [List.length_append, List.length_cons, List.length_nil]; omega
  · simp only [List.length_append, List.length_cons, List.length_nil]; omega
theorem tP_snoc_t (xs : List It) (x : It) (h : (!xs.isEmpty) = true) : tP (xs ++ [x]) = tP xs ++ (decL x.2.1 ++ [x.2.2]) := by
  cases xs with
  | nil => cases h
  | cons y r => simp [tP, itL]
theorem tP_snoc_f (xs : List It) (x : It) (h : (!xs.isEmpty) = false) : tP (xs ++ [x]) = [84] ++ (decL x.2.1 ++ [x.2.2]) := by
  cases xs with
  | nil => simp [tP, itL]
  | cons y r => cases h
theorem preP_end (p : P6) (h : pzero p = false) : preP p 6 = perL p := by
  unfold preP perL tP dPre tPre
  rw [h]
  simp
theorem perL_z (p : P6) (h : pzero p = true) : perL p = [80, 84, 48, 83] := by
  unfold perL
  rw [if_pos h]
theorem pre_z0 {p : P6} (h : p.a = 0) : preP p 1 = preP p 0 ∧ tmP p 1 = tmP p 0 := by
  simp [preP, tmP, dPre, tPre, dItems, tItems, itm, h]
theorem pre_n0 {p : P6} (h : ¬ p.a = 0) : preP p 1 = preP p 0 ++ (decL p.a ++ [89]) ∧ tmP p 1 = tmP p 0 := by
  simp [preP, tmP, dPre, tPre, dItems, tItems, itm, h, itL, tP]

theorem pre_z1 {p : P6} (h : p.b = 0) : preP p 2 = preP p 1 ∧ tmP p 2 = tmP p 1 := by
  simp [preP, tmP, dPre, tPre, dItems, tItems, itm, h]
theorem pre_n1 {p : P6} (h : ¬ p.b = 0) : preP p 2 = preP p 1 ++ (decL p.b ++ [77]) ∧ tmP p 2 = tmP p 1 := by
  simp [preP, tmP, dPre, tPre, dItems, tItems, itm, h, itL, tP]

theorem pre_z2 {p : P6} (h : p.c = 0) : preP p 3 = preP p 2 ∧ tmP p 3 = tmP p 2 := by
  simp [preP, tmP, dPre, tPre, dItems, tItems, itm, h]
theorem pre_n2 {p : P6} (h : ¬ p.c = 0) : preP p 3 = preP p 2 ++ (decL p.c ++ [68]) ∧ tmP p 3 = tmP p 2 := by
  simp [preP, tmP, dPre, tPre, dItems, tItems, itm, h, itL, tP]

theorem pre_z3 {p : P6} (h : p.d = 0) : preP p 4 = preP p 3 ∧ tmP p 4 = tmP p 3 := by
  simp [preP, tmP, dPre, tPre, dItems, tItems, itm, h]
theorem pre_n3 {p : P6} (h : ¬ p.d = 0) : tPre p 4 = tPre p 3 ++ [(3, p.d, 72)] ∧ dPre p 4 = dPre p 3 := by
  simp [dPre, tPre, dItems, tItems, itm, h]
theorem pre_t3 {p : P6} (h : ¬ p.d = 0) (ht : tmP p 3 = true) : preP p 4 = preP p 3 ++ (decL p.d ++ [72]) ∧ tmP p 4 = true := by
  obtain ⟨h1, h2⟩ := pre_n3 h
  unfold preP tmP at *
  rw [h1, h2, tP_snoc_t _ _ ht]
  simp
theorem pre_f3 {p : P6} (h : ¬ p.d = 0) (ht : tmP p 3 = false) : preP p 4 = preP p 3 ++ [84] ++ (decL p.d ++ [72]) ∧ tmP p 4 = true := by
  obtain ⟨h1, h2⟩ := pre_n3 h
  unfold preP tmP at *
  rw [h1, h2, tP_snoc_f _ _ ht]
  have e : tPre p 3 = [] := by
    cases hh : tPre p 3 with
    | nil => rfl
    | cons y r => rw [hh] at ht; cases ht
  rw [e]
  simp [tP]

theorem pre_z4 {p : P6} (h : p.e = 0) : preP p 5 = preP p 4 ∧ tmP p 5 = tmP p 4 := by
  simp [preP, tmP, dPre, tPre, dItems, tItems, itm, h]
theorem pre_n4 {p : P6} (h : ¬ p.e = 0) : tPre p 5 = tPre p 4 ++ [(4, p.e, 77)] ∧ dPre p 5 = dPre p 4 := by
  simp [dPre, tPre, dItems, tItems, itm, h]
theorem pre_t4 {p : P6} (h : ¬ p.e = 0) (ht : tmP p 4 = true) : preP p 5 = preP p 4 ++ (decL p.e ++ [77]) ∧ tmP p 5 = true := by
  obtain ⟨h1, h2⟩ := pre_n4 h
  unfold preP tmP at *
  rw [h1, h2, tP_snoc_t _ _ ht]
  simp
theorem pre_f4 {p : P6} (h : ¬ p.e = 0) (ht : tmP p 4 = false) : preP p 5 = preP p 4 ++ [84] ++ (decL p.e ++ [77]) ∧ tmP p 5 = true := by
  obtain ⟨h1, h2⟩ := pre_n4 h
  unfold preP tmP at *
  rw [h1, h2, tP_snoc_f _ _ ht]
  have e : tPre p 4 = [] := by
    cases hh : tPre p 4 with
    | nil => rfl
    | cons y r => rw [hh] at ht; cases ht
  rw [e]
  simp [tP]

theorem pre_z5 {p : P6} (h : p.f = 0) : preP p 6 = preP p 5 ∧ tmP p 6 = tmP p 5 := by
  simp [preP, tmP, dPre, tPre, dItems, tItems, itm, h]
theorem pre_n5 {p : P6} (h : ¬ p.f = 0) : tPre p 6 = tPre p 5 ++ [(5, p.f, 83)] ∧ dPre p 6 = dPre p 5 := by
  simp [dPre, tPre, dItems, tItems, itm, h]
theorem pre_t5 {p : P6} (h : ¬ p.f = 0) (ht : tmP p 5 = true) : preP p 6 = preP p 5 ++ (decL p.f ++ [83]) ∧ tmP p 6 = true := by
  obtain ⟨h1, h2⟩ := pre_n5 h
  unfold preP tmP at *
  rw [h1, h2, tP_snoc_t _ _ ht]
  simp
theorem pre_f5 {p : P6} (h : ¬ p.f = 0) (ht : tmP p 5 = false) : preP p 6 = preP p 5 ++ [84] ++ (decL p.f ++ [83]) ∧ tmP p 6 = true := by
  obtain ⟨h1, h2⟩ := pre_n5 h
  unfold preP tmP at *
  rw [h1, h2, tP_snoc_f _ _ ht]
  have e : tPre p 5 = [] := by
    cases hh : tPre p 5 with
    | nil => rfl
    | cons y r => rw [hh] at ht; cases ht
  rw [e]
  simp [tP]

theorem perV_ok {p : P6} : perV p.a p.b p.c p.d p.e p.f = true ↔ pOk p = true := by
  rw [perV_iff, pOk_iff]

/-- The text of a period, or none. -/
def perX (p : P6) : ByteArray := if pOk p = true then strOfNums (perL p) else ⟨#[]⟩

theorem a_PeriodText (p : P6) (w : World) (hb : D.Base w) (hp : Pw w) :
    Calls Tryz.prog 72 #[.agg #[.int .i64 p.a, .int .i64 p.b, .int .i64 p.c, .int .i64 p.d, .int .i64 p.e, .int .i64 p.f]] w fun e w' => e = .returned (.string (perX p)) ∧ Below w.heap.size w w' := by
  have hV := a_PeriodValid p.a p.b p.c p.d p.e p.f
  unfold perX
  cases hv : perV p.a p.b p.c p.d p.e p.f with
  | false =>
    rw [hv] at hV
    rw [if_neg (by rw [← perV_ok, hv]; simp)]
    refine enter Tryz.func72 rfl Tryz.ntmps72 rfl (by assumption) ?_
    (repeat' (first | intro (b : Nat) | refine go ?_ | (refine br ?_ ?_ <;> first | exact trivial | intro hq) | refine L.call (h := by intro W hW; apply hV W hW.base) (k := ?_)))
    (refine ret ?_; try exact rfl)
  | true =>
    rw [hv] at hV
    have hok := perV_ok.1 hv
    rw [if_pos hok]
    cases hz : pzero p with
    | true =>
      rw [perL_z p hz]
      unfold pzero at hz
      refine enter Tryz.func72 rfl Tryz.ntmps72 rfl (by assumption) ?_
      (repeat' (first | intro (b : Nat) | refine go ?_ | (refine br ?_ ?_ <;> first | exact trivial | intro hq) | refine L.call (h := by intro W hW; apply hV W hW.base) (k := ?_)))
      all_goals first | ((refine ret ?_; try exact rfl); done) | (exfalso; simp_all; done)
    | false =>
      have hE := preP_end p hz
      have hz2 := hz
      unfold pzero at hz2
      obtain ⟨ra, rb', rc', rd, re, rf⟩ := pOk_iff.1 hok
      refine enter Tryz.func72 rfl Tryz.ntmps72 rfl (by assumption) ?_
      (repeat' (first | intro (b : Nat) | refine go ?_ | (refine br ?_ ?_ <;> first | exact trivial | intro hq) | refine L.call (h := by intro W hW; apply hV W hW.base) (k := ?_)))
      all_goals try (exfalso; simp_all; done)
      revert b; intro bp
      (refine L.slcall (h := by intro W hW; exact a_parts bp W hW.base) (k := ?_); intro b)
      revert b; intro bs
      (repeat (first | intro (b : Nat) | refine go ?_))
      refine C.loopw (Y := Int × ByteArray × Bool) (fun k => [(1, .pointer (some ⟨bp, 0, none⟩)), (3, .string k.2.1), (4, .bool k.2.2), (13, .slice (some ⟨bs, 0, none⟩) 6 6), (14, .int .i64 6), (15, .int .i64 k.1)]) (fun k => [(bs, .cells 146 (partsV bp)), (bp, .cells 73 [.int .i64 p.a, .int .i64 p.b, .int .i64 p.c, .int .i64 p.d, .int .i64 p.e, .int .i64 p.f])]) (fun k => 0 ≤ k.1 ∧ k.1 ≤ 6 ∧ k.2.1 = strOfNums (preP p k.1) ∧ k.2.2 = tmP p k.1) (fun k => (6 - k.1).toNat) (0, strOfNums [80], false) ⟨by decide, by decide, rfl, rfl⟩ (fun k hy => ?_)
      generalize k.1 = i at *
      generalize k.2.1 = out at *
      generalize k.2.2 = tm at *
      obtain ⟨h0, h6, ho, ht⟩ := hy
      have hsz : out.size ≤ 40 := by rw [ho, strOfNums_size]; exact preP_len p i
      rcases (by omega : i = 0 ∨ i = 1 ∨ i = 2 ∨ i = 3 ∨ i = 4 ∨ i = 5 ∨ i = 6) with rfl | rfl | rfl | rfl | rfl | rfl | rfl
      · by_cases hx : p.a = 0
        · obtain ⟨e1, e2⟩ := pre_z0 hx
          (repeat' (first | intro (b : Nat) | refine go ?_ | (refine br ?_ ?_ <;> first | exact trivial | intro hq)))
          refine X.roundw ((1, out, tm)) (⟨by first | decide | (dsimp only; decide), by first | decide | (dsimp only; decide), by show _ = strOfNums (preP p 1); rw [e1, ho], by show _ = tmP p 1; rw [e2, ht]⟩) (by first | decide | (dsimp only; decide))
        · clear hz hz2
          have hI1 := a_Itoa p.a ra
          have hdl := decL_len p.a
          have hdz : (strOfNums (decL p.a)).size ≤ 4 := by rw [strOfNums_size]; exact hdl.2
          (repeat' (first | intro (b : Nat) | refine go ?_ | (refine br ?_ ?_ <;> first | exact trivial | intro hq)))
          ((repeat (refine C.seq ?_)); apply C.draww 12 [none, none, some _, none, some _, some _, none, some _, none, none, none, none])
          (repeat (first | intro (b : Nat) | refine gg ?_))
          (refine G.call (h := by intro W hW; exact hI1 W hW.base (hp.old hW)) (k := ?_))
          (repeat (first | intro (b : Nat) | refine gg ?_))
          refine G.p rfl rfl (PV.convK rfl rfl) ?_
          (repeat (first | intro (b : Nat) | refine gg ?_))
          refine G.p rfl rfl (PV.i2s (t := strOfNums [89]) rfl (by kernel_rfl)) ?_
          (repeat (first | intro (b : Nat) | refine gg ?_))
          (repeat (first | intro (b : Nat) | refine go ?_))
          obtain ⟨e1, e2⟩ := pre_n0 hx
          refine X.roundw ((1, out ++ (strOfNums (decL p.a) ++ strOfNums [89]), tm)) (⟨by first | decide | (dsimp only; decide), by first | decide | (dsimp only; decide), by show _ = strOfNums (preP p 1); rw [e1, ho]; simp only [strOfNums_append, List.append_assoc, show (⟨#[84]⟩ : ByteArray) = strOfNums [84] from rfl], by show _ = tmP p 1; rw [e2, ht]⟩) (by first | decide | (dsimp only; decide))
      · by_cases hx : p.b = 0
        · obtain ⟨e1, e2⟩ := pre_z1 hx
          (repeat' (first | intro (b : Nat) | refine go ?_ | (refine br ?_ ?_ <;> first | exact trivial | intro hq)))
          refine X.roundw ((2, out, tm)) (⟨by first | decide | (dsimp only; decide), by first | decide | (dsimp only; decide), by show _ = strOfNums (preP p 2); rw [e1, ho], by show _ = tmP p 2; rw [e2, ht]⟩) (by first | decide | (dsimp only; decide))
        · clear hz hz2
          have hI1 := a_Itoa p.b rb'
          have hdl := decL_len p.b
          have hdz : (strOfNums (decL p.b)).size ≤ 4 := by rw [strOfNums_size]; exact hdl.2
          (repeat' (first | intro (b : Nat) | refine go ?_ | (refine br ?_ ?_ <;> first | exact trivial | intro hq)))
          ((repeat (refine C.seq ?_)); apply C.draww 12 [none, none, some _, none, some _, some _, none, some _, none, none, none, none])
          (repeat (first | intro (b : Nat) | refine gg ?_))
          (refine G.call (h := by intro W hW; exact hI1 W hW.base (hp.old hW)) (k := ?_))
          (repeat (first | intro (b : Nat) | refine gg ?_))
          refine G.p rfl rfl (PV.convK rfl rfl) ?_
          (repeat (first | intro (b : Nat) | refine gg ?_))
          refine G.p rfl rfl (PV.i2s (t := strOfNums [77]) rfl (by kernel_rfl)) ?_
          (repeat (first | intro (b : Nat) | refine gg ?_))
          (repeat (first | intro (b : Nat) | refine go ?_))
          obtain ⟨e1, e2⟩ := pre_n1 hx
          refine X.roundw ((2, out ++ (strOfNums (decL p.b) ++ strOfNums [77]), tm)) (⟨by first | decide | (dsimp only; decide), by first | decide | (dsimp only; decide), by show _ = strOfNums (preP p 2); rw [e1, ho]; simp only [strOfNums_append, List.append_assoc, show (⟨#[84]⟩ : ByteArray) = strOfNums [84] from rfl], by show _ = tmP p 2; rw [e2, ht]⟩) (by first | decide | (dsimp only; decide))
      · by_cases hx : p.c = 0
        · obtain ⟨e1, e2⟩ := pre_z2 hx
          (repeat' (first | intro (b : Nat) | refine go ?_ | (refine br ?_ ?_ <;> first | exact trivial | intro hq)))
          refine X.roundw ((3, out, tm)) (⟨by first | decide | (dsimp only; decide), by first | decide | (dsimp only; decide), by show _ = strOfNums (preP p 3); rw [e1, ho], by show _ = tmP p 3; rw [e2, ht]⟩) (by first | decide | (dsimp only; decide))
        · clear hz hz2
          have hI1 := a_Itoa p.c rc'
          have hdl := decL_len p.c
          have hdz : (strOfNums (decL p.c)).size ≤ 4 := by rw [strOfNums_size]; exact hdl.2
          (repeat' (first | intro (b : Nat) | refine go ?_ | (refine br ?_ ?_ <;> first | exact trivial | intro hq)))
          ((repeat (refine C.seq ?_)); apply C.draww 12 [none, none, some _, none, some _, some _, none, some _, none, none, none, none])
          (repeat (first | intro (b : Nat) | refine gg ?_))
          (refine G.call (h := by intro W hW; exact hI1 W hW.base (hp.old hW)) (k := ?_))
          (repeat (first | intro (b : Nat) | refine gg ?_))
          refine G.p rfl rfl (PV.convK rfl rfl) ?_
          (repeat (first | intro (b : Nat) | refine gg ?_))
          refine G.p rfl rfl (PV.i2s (t := strOfNums [68]) rfl (by kernel_rfl)) ?_
          (repeat (first | intro (b : Nat) | refine gg ?_))
          (repeat (first | intro (b : Nat) | refine go ?_))
          obtain ⟨e1, e2⟩ := pre_n2 hx
          refine X.roundw ((3, out ++ (strOfNums (decL p.c) ++ strOfNums [68]), tm)) (⟨by first | decide | (dsimp only; decide), by first | decide | (dsimp only; decide), by show _ = strOfNums (preP p 3); rw [e1, ho]; simp only [strOfNums_append, List.append_assoc, show (⟨#[84]⟩ : ByteArray) = strOfNums [84] from rfl], by show _ = tmP p 3; rw [e2, ht]⟩) (by first | decide | (dsimp only; decide))
      · by_cases hx : p.d = 0
        · obtain ⟨e1, e2⟩ := pre_z3 hx
          (repeat' (first | intro (b : Nat) | refine go ?_ | (refine br ?_ ?_ <;> first | exact trivial | intro hq)))
          refine X.roundw ((4, out, tm)) (⟨by first | decide | (dsimp only; decide), by first | decide | (dsimp only; decide), by show _ = strOfNums (preP p 4); rw [e1, ho], by show _ = tmP p 4; rw [e2, ht]⟩) (by first | decide | (dsimp only; decide))
        · clear hz hz2
          cases tm
          · have hI1 := a_Itoa p.d rd
            have hdl := decL_len p.d
            have hdz : (strOfNums (decL p.d)).size ≤ 4 := by rw [strOfNums_size]; exact hdl.2
            (repeat' (first | intro (b : Nat) | refine go ?_ | (refine br ?_ ?_ <;> first | exact trivial | intro hq)))
            ((repeat (refine C.seq ?_)); apply C.draww 12 [none, none, some _, none, some _, some _, none, some _, none, none, none, none])
            (repeat (first | intro (b : Nat) | refine gg ?_))
            (refine G.call (h := by intro W hW; exact hI1 W hW.base (hp.old hW)) (k := ?_))
            (repeat (first | intro (b : Nat) | refine gg ?_))
            refine G.p rfl rfl (PV.convK rfl rfl) ?_
            (repeat (first | intro (b : Nat) | refine gg ?_))
            refine G.p rfl rfl (PV.i2s (t := strOfNums [72]) rfl (by kernel_rfl)) ?_
            (repeat (first | intro (b : Nat) | refine gg ?_))
            (repeat (first | intro (b : Nat) | refine go ?_))
            obtain ⟨e1, e2⟩ := pre_f3 hx ht.symm
            refine X.roundw ((4, out ++ ⟨#[84]⟩ ++ (strOfNums (decL p.d) ++ strOfNums [72]), true)) (⟨by first | decide | (dsimp only; decide), by first | decide | (dsimp only; decide), by show _ = strOfNums (preP p 4); rw [e1, ho]; simp only [strOfNums_append, List.append_assoc, show (⟨#[84]⟩ : ByteArray) = strOfNums [84] from rfl], by show _ = tmP p 4; rw [e2]⟩) (by first | decide | (dsimp only; decide))
          · have hI1 := a_Itoa p.d rd
            have hdl := decL_len p.d
            have hdz : (strOfNums (decL p.d)).size ≤ 4 := by rw [strOfNums_size]; exact hdl.2
            (repeat' (first | intro (b : Nat) | refine go ?_ | (refine br ?_ ?_ <;> first | exact trivial | intro hq)))
            ((repeat (refine C.seq ?_)); apply C.draww 12 [none, none, some _, none, some _, some _, none, some _, none, none, none, none])
            (repeat (first | intro (b : Nat) | refine gg ?_))
            (refine G.call (h := by intro W hW; exact hI1 W hW.base (hp.old hW)) (k := ?_))
            (repeat (first | intro (b : Nat) | refine gg ?_))
            refine G.p rfl rfl (PV.convK rfl rfl) ?_
            (repeat (first | intro (b : Nat) | refine gg ?_))
            refine G.p rfl rfl (PV.i2s (t := strOfNums [72]) rfl (by kernel_rfl)) ?_
            (repeat (first | intro (b : Nat) | refine gg ?_))
            (repeat (first | intro (b : Nat) | refine go ?_))
            obtain ⟨e1, e2⟩ := pre_t3 hx ht.symm
            refine X.roundw ((4, out ++ (strOfNums (decL p.d) ++ strOfNums [72]), true)) (⟨by first | decide | (dsimp only; decide), by first | decide | (dsimp only; decide), by show _ = strOfNums (preP p 4); rw [e1, ho]; simp only [strOfNums_append, List.append_assoc, show (⟨#[84]⟩ : ByteArray) = strOfNums [84] from rfl], by show _ = tmP p 4; rw [e2]⟩) (by first | decide | (dsimp only; decide))
      · by_cases hx : p.e = 0
        · obtain ⟨e1, e2⟩ := pre_z4 hx
          (repeat' (first | intro (b : Nat) | refine go ?_ | (refine br ?_ ?_ <;> first | exact trivial | intro hq)))
          refine X.roundw ((5, out, tm)) (⟨by first | decide | (dsimp only; decide), by first | decide | (dsimp only; decide), by show _ = strOfNums (preP p 5); rw [e1, ho], by show _ = tmP p 5; rw [e2, ht]⟩) (by first | decide | (dsimp only; decide))
        · clear hz hz2
          cases tm
          · have hI1 := a_Itoa p.e re
            have hdl := decL_len p.e
            have hdz : (strOfNums (decL p.e)).size ≤ 4 := by rw [strOfNums_size]; exact hdl.2
            (repeat' (first | intro (b : Nat) | refine go ?_ | (refine br ?_ ?_ <;> first | exact trivial | intro hq)))
            ((repeat (refine C.seq ?_)); apply C.draww 12 [none, none, some _, none, some _, some _, none, some _, none, none, none, none])
            (repeat (first | intro (b : Nat) | refine gg ?_))
            (refine G.call (h := by intro W hW; exact hI1 W hW.base (hp.old hW)) (k := ?_))
            (repeat (first | intro (b : Nat) | refine gg ?_))
            refine G.p rfl rfl (PV.convK rfl rfl) ?_
            (repeat (first | intro (b : Nat) | refine gg ?_))
            refine G.p rfl rfl (PV.i2s (t := strOfNums [77]) rfl (by kernel_rfl)) ?_
            (repeat (first | intro (b : Nat) | refine gg ?_))
            (repeat (first | intro (b : Nat) | refine go ?_))
            obtain ⟨e1, e2⟩ := pre_f4 hx ht.symm
            refine X.roundw ((5, out ++ ⟨#[84]⟩ ++ (strOfNums (decL p.e) ++ strOfNums [77]), true)) (⟨by first | decide | (dsimp only; decide), by first | decide | (dsimp only; decide), by show _ = strOfNums (preP p 5); rw [e1, ho]; simp only [strOfNums_append, List.append_assoc, show (⟨#[84]⟩ : ByteArray) = strOfNums [84] from rfl], by show _ = tmP p 5; rw [e2]⟩) (by first | decide | (dsimp only; decide))
          · have hI1 := a_Itoa p.e re
            have hdl := decL_len p.e
            have hdz : (strOfNums (decL p.e)).size ≤ 4 := by rw [strOfNums_size]; exact hdl.2
            (repeat' (first | intro (b : Nat) | refine go ?_ | (refine br ?_ ?_ <;> first | exact trivial | intro hq)))
            ((repeat (refine C.seq ?_)); apply C.draww 12 [none, none, some _, none, some _, some _, none, some _, none, none, none, none])
            (repeat (first | intro (b : Nat) | refine gg ?_))
            (refine G.call (h := by intro W hW; exact hI1 W hW.base (hp.old hW)) (k := ?_))
            (repeat (first | intro (b : Nat) | refine gg ?_))
            refine G.p rfl rfl (PV.convK rfl rfl) ?_
            (repeat (first | intro (b : Nat) | refine gg ?_))
            refine G.p rfl rfl (PV.i2s (t := strOfNums [77]) rfl (by kernel_rfl)) ?_
            (repeat (first | intro (b : Nat) | refine gg ?_))
            (repeat (first | intro (b : Nat) | refine go ?_))
            obtain ⟨e1, e2⟩ := pre_t4 hx ht.symm
            refine X.roundw ((5, out ++ (strOfNums (decL p.e) ++ strOfNums [77]), true)) (⟨by first | decide | (dsimp only; decide), by first | decide | (dsimp only; decide), by show _ = strOfNums (preP p 5); rw [e1, ho]; simp only [strOfNums_append, List.append_assoc, show (⟨#[84]⟩ : ByteArray) = strOfNums [84] from rfl], by show _ = tmP p 5; rw [e2]⟩) (by first | decide | (dsimp only; decide))
      · by_cases hx : p.f = 0
        · obtain ⟨e1, e2⟩ := pre_z5 hx
          (repeat' (first | intro (b : Nat) | refine go ?_ | (refine br ?_ ?_ <;> first | exact trivial | intro hq)))
          refine X.roundw ((6, out, tm)) (⟨by first | decide | (dsimp only; decide), by first | decide | (dsimp only; decide), by show _ = strOfNums (preP p 6); rw [e1, ho], by show _ = tmP p 6; rw [e2, ht]⟩) (by first | decide | (dsimp only; decide))
        · clear hz hz2
          cases tm
          · have hI1 := a_Itoa p.f rf
            have hdl := decL_len p.f
            have hdz : (strOfNums (decL p.f)).size ≤ 4 := by rw [strOfNums_size]; exact hdl.2
            (repeat' (first | intro (b : Nat) | refine go ?_ | (refine br ?_ ?_ <;> first | exact trivial | intro hq)))
            ((repeat (refine C.seq ?_)); apply C.draww 12 [none, none, some _, none, some _, some _, none, some _, none, none, none, none])
            (repeat (first | intro (b : Nat) | refine gg ?_))
            (refine G.call (h := by intro W hW; exact hI1 W hW.base (hp.old hW)) (k := ?_))
            (repeat (first | intro (b : Nat) | refine gg ?_))
            refine G.p rfl rfl (PV.convK rfl rfl) ?_
            (repeat (first | intro (b : Nat) | refine gg ?_))
            refine G.p rfl rfl (PV.i2s (t := strOfNums [83]) rfl (by kernel_rfl)) ?_
            (repeat (first | intro (b : Nat) | refine gg ?_))
            (repeat (first | intro (b : Nat) | refine go ?_))
            obtain ⟨e1, e2⟩ := pre_f5 hx ht.symm
            refine X.roundw ((6, out ++ ⟨#[84]⟩ ++ (strOfNums (decL p.f) ++ strOfNums [83]), true)) (⟨by first | decide | (dsimp only; decide), by first | decide | (dsimp only; decide), by show _ = strOfNums (preP p 6); rw [e1, ho]; simp only [strOfNums_append, List.append_assoc, show (⟨#[84]⟩ : ByteArray) = strOfNums [84] from rfl], by show _ = tmP p 6; rw [e2]⟩) (by first | decide | (dsimp only; decide))
          · have hI1 := a_Itoa p.f rf
            have hdl := decL_len p.f
            have hdz : (strOfNums (decL p.f)).size ≤ 4 := by rw [strOfNums_size]; exact hdl.2
            (repeat' (first | intro (b : Nat) | refine go ?_ | (refine br ?_ ?_ <;> first | exact trivial | intro hq)))
            ((repeat (refine C.seq ?_)); apply C.draww 12 [none, none, some _, none, some _, some _, none, some _, none, none, none, none])
            (repeat (first | intro (b : Nat) | refine gg ?_))
            (refine G.call (h := by intro W hW; exact hI1 W hW.base (hp.old hW)) (k := ?_))
            (repeat (first | intro (b : Nat) | refine gg ?_))
            refine G.p rfl rfl (PV.convK rfl rfl) ?_
            (repeat (first | intro (b : Nat) | refine gg ?_))
            refine G.p rfl rfl (PV.i2s (t := strOfNums [83]) rfl (by kernel_rfl)) ?_
            (repeat (first | intro (b : Nat) | refine gg ?_))
            (repeat (first | intro (b : Nat) | refine go ?_))
            obtain ⟨e1, e2⟩ := pre_t5 hx ht.symm
            refine X.roundw ((6, out ++ (strOfNums (decL p.f) ++ strOfNums [83]), true)) (⟨by first | decide | (dsimp only; decide), by first | decide | (dsimp only; decide), by show _ = strOfNums (preP p 6); rw [e1, ho]; simp only [strOfNums_append, List.append_assoc, show (⟨#[84]⟩ : ByteArray) = strOfNums [84] from rfl], by show _ = tmP p 6; rw [e2]⟩) (by first | decide | (dsimp only; decide))
      · (repeat' (first | intro (b : Nat) | refine go ?_ | (refine br ?_ ?_ <;> first | exact trivial | intro hq)))
        (refine ret ?_; try exact rfl)
        rw [← hE]
        exact congrArg Value.string ho

end D
end Go.Proofs.YtboglbdhibcacaaGreatDoor

namespace Go.Proofs.YtboglbdhibcacaaGreatDoor
set_option linter.unusedVariables false
set_option linter.unusedSimpArgs false
set_option maxRecDepth 100000
set_option maxHeartbeats 1000000
namespace D
open Go.RowKit
open Go.PlainAid (bt bt_nonneg bt_le bt_end)
attribute [local irreducible] Calls

def rP (p : P6) (k : Int) : List Int := [80] ++ itL (dPre p k) ++ (if k ≤ 3 then [] else if tItems p = [] then [] else 84 :: itL (tPre p k))
theorem rP_len (p : P6) (k : Int) : (rP p k).length ≤ 80 := by
  have h1 := itL_le (dPre p k)
  have h2 := itL_le (tPre p k)
  have h3 : (dPre p k).length ≤ 3 := by
    have := itm_le 0 89 p.a; have := itm_le 1 77 p.b; have := itm_le 2 68 p.c
    unfold dPre dItems
    repeat' split
    all_goals first | omega | (simp only [List.length_append, List.length_nil]; omega)
  have h4 : (tPre p k).length ≤ 3 := by
    have := itm_le 3 72 p.d; have := itm_le 4 77 p.e; have := itm_le 5 83 p.f
    unfold tPre tItems
    repeat' split
    all_goals first | omega | (simp only [List.length_append, List.length_nil]; omega)
  unfold rP
  repeat' split
  all_goals first | omega | (simp only [List.length_append, List.length_cons, List.length_nil]; omega)
theorem rP_end (p : P6) (h : pzero p = false) : rP p 6 = perL p := by
  unfold rP perL dPre tPre
  rw [h]
  simp
theorem rP_endz (p : P6) (h : pzero p = true) : rP p 6 = [80] := by
  unfold pzero at h
  simp only [decide_eq_true_eq] at h
  obtain ⟨h1, h2, h3, h4, h5, h6⟩ := h
  simp [rP, dPre, tPre, dItems, tItems, itm, itL, h1, h2, h3, h4, h5, h6]
theorem perL_long (p : P6) : 3 ≤ (perL p).length := by
  cases h : pzero p with
  | true => rw [perL_z p h]; decide
  | false =>
    unfold perL
    rw [if_neg (by simp [h])]
    have k1 := itL_len (dItems p)
    have k2 := itL_len (tItems p)
    unfold pzero at h
    simp only [decide_eq_false_iff_not] at h
    by_cases ht : tItems p = []
    · have hd : dItems p ≠ [] := fun hd => h (by
        simp only [dItems, tItems, itm, List.append_eq_nil_iff] at hd ht
        obtain ⟨⟨d1, d2⟩, d3⟩ := hd
        obtain ⟨⟨t1, t2⟩, t3⟩ := ht
        refine ⟨?_, ?_, ?_, ?_, ?_, ?_⟩ <;> (first | (split at d1 <;> simp_all; done) | (split at d2 <;> simp_all; done) | (split at d3 <;> simp_all; done) | (split at t1 <;> simp_all; done) | (split at t2 <;> simp_all; done) | (split at t3 <;> simp_all; done)))
      have hl := List.length_pos_iff.2 hd
      rw [if_pos ht]
      simp only [List.length_append, List.length_cons, List.length_nil]
      omega
    · have hl := List.length_pos_iff.2 ht
      rw [if_neg ht]
      simp only [List.length_append, List.length_cons, List.length_nil]
      omega

theorem tI_nil {p : P6} (rd : 0 ≤ p.d) (re : 0 ≤ p.e) (rf : 0 ≤ p.f) : tItems p = [] ↔ ¬ 0 < p.d + p.e + p.f := by
  unfold tItems itm
  by_cases h1 : p.d = 0 <;> by_cases h2 : p.e = 0 <;> by_cases h3 : p.f = 0 <;> simp [h1, h2, h3] <;> omega

def lettS : ByteArray := ⟨#[89, 77, 68, 72, 77, 83]⟩

theorem lett0 : lettS.extract (0 : Int).toNat ((0 : Int) + 1).toNat = strOfNums [89] := by decide +kernel
theorem rp_z0 {p : P6} (h : p.a = 0) : rP p 1 = rP p 0 := by
  simp [rP, dPre, tPre, dItems, tItems, itm, h]
theorem rp_n0 {p : P6} (h : ¬ p.a = 0) : rP p 1 = rP p 0 ++ (decL p.a ++ [89]) := by
  simp [rP, dPre, tPre, dItems, tItems, itm, h, itL]

theorem lett1 : lettS.extract (1 : Int).toNat ((1 : Int) + 1).toNat = strOfNums [77] := by decide +kernel
theorem rp_z1 {p : P6} (h : p.b = 0) : rP p 2 = rP p 1 := by
  simp [rP, dPre, tPre, dItems, tItems, itm, h]
theorem rp_n1 {p : P6} (h : ¬ p.b = 0) : rP p 2 = rP p 1 ++ (decL p.b ++ [77]) := by
  simp [rP, dPre, tPre, dItems, tItems, itm, h, itL]

theorem lett2 : lettS.extract (2 : Int).toNat ((2 : Int) + 1).toNat = strOfNums [68] := by decide +kernel
theorem rp_z2 {p : P6} (h : p.c = 0) : rP p 3 = rP p 2 := by
  simp [rP, dPre, tPre, dItems, tItems, itm, h]
theorem rp_n2 {p : P6} (h : ¬ p.c = 0) : rP p 3 = rP p 2 ++ (decL p.c ++ [68]) := by
  simp [rP, dPre, tPre, dItems, tItems, itm, h, itL]

theorem lett3 : lettS.extract (3 : Int).toNat ((3 : Int) + 1).toNat = strOfNums [72] := by decide +kernel
theorem rp_3a {p : P6} (h : tItems p = []) : rP p 4 = rP p 3 := by
  simp [rP, dPre, h]
theorem rp_3b {p : P6} (h : ¬ tItems p = []) (hx : p.d = 0) : rP p 4 = rP p 3 ++ [84] := by
  simp [rP, dPre, tPre, h, itm, hx, itL]
theorem rp_3c {p : P6} (h : ¬ tItems p = []) (hx : ¬ p.d = 0) : rP p 4 = rP p 3 ++ [84] ++ (decL p.d ++ [72]) := by
  simp [rP, dPre, tPre, h, itm, hx, itL]

theorem lett4 : lettS.extract (4 : Int).toNat ((4 : Int) + 1).toNat = strOfNums [77] := by decide +kernel
theorem rp_z4 {p : P6} (h : p.e = 0) : rP p 5 = rP p 4 := by
  simp [rP, dPre, tPre, dItems, tItems, itm, h]
theorem rp_n4 {p : P6} (h : ¬ p.e = 0) : rP p 5 = rP p 4 ++ (decL p.e ++ [77]) := by
  simp [rP, dPre, tPre, tItems, itm, h, itL]

theorem lett5 : lettS.extract (5 : Int).toNat ((5 : Int) + 1).toNat = strOfNums [83] := by decide +kernel
theorem rp_z5 {p : P6} (h : p.f = 0) : rP p 6 = rP p 5 := by
  simp [rP, dPre, tPre, dItems, tItems, itm, h]
theorem rp_n5 {p : P6} (h : ¬ p.f = 0) : rP p 6 = rP p 5 ++ (decL p.f ++ [83]) := by
  simp [rP, dPre, tPre, tItems, itm, h, itL]

theorem b_l15Text (p : P6) (hok : pOk p = true) (w : World) (hb : D.Base w) :
    Calls Tryz.prog 83 #[.agg #[.int .i64 p.a, .int .i64 p.b, .int .i64 p.c, .int .i64 p.d, .int .i64 p.e, .int .i64 p.f]] w fun e w' => e = .returned (.string (strOfNums (perL p))) ∧ Below w.heap.size w w' := by
  obtain ⟨ra, rb', rc', rd, re, rf⟩ := pOk_iff.1 hok
  have hzl : lettS.size = 6 := rfl
  refine enter Tryz.func83 rfl Tryz.ntmps83 rfl (by assumption) ?_
  (repeat (first | intro (b : Nat) | refine go ?_))
  revert b; intro bp
  (refine L.slcall (h := by intro W hW; exact b_Parts _ _ _ _ _ _ W hW.base) (k := ?_); intro b)
  revert b; intro bs
  (repeat (first | intro (b : Nat) | refine go ?_))
  refine C.loopw (Y := Int × ByteArray) (fun k => [(3, .slice (some ⟨bs, 0, none⟩) 6 6), (4, .string k.2), (5, .int .i64 k.1)]) (fun k => [(bs, .cells 3 [.int .i64 p.a, .int .i64 p.b, .int .i64 p.c, .int .i64 p.d, .int .i64 p.e, .int .i64 p.f])]) (fun k => 0 ≤ k.1 ∧ k.1 ≤ 6 ∧ k.2 = strOfNums (rP p k.1)) (fun k => (6 - k.1).toNat) (0, strOfNums [80]) ⟨by decide, by decide, rfl⟩ (fun k hy => ?_)
  generalize k.1 = i at *
  generalize k.2 = out at *
  obtain ⟨h0, h6, ho⟩ := hy
  have hsz : out.size ≤ 80 := by rw [ho, strOfNums_size]; exact rP_len p i
  rcases (by omega : i = 0 ∨ i = 1 ∨ i = 2 ∨ i = 3 ∨ i = 4 ∨ i = 5 ∨ i = 6) with rfl | rfl | rfl | rfl | rfl | rfl | rfl
  · have g0 : decide ((0 : Int) = 3) = false := by first | decide | (dsimp only; decide)
    by_cases hx : p.a = 0
    · (repeat' (first | intro (b : Nat) | refine go ?_ | (refine br ?_ ?_ <;> first | exact trivial | intro hq)))
      ((repeat (refine C.seq ?_)); apply C.draww 16 [none, none, none, none, none, some _, none, none, some _, none, none, none, some _, none, none, none])
      (repeat (first | intro (b : Nat) | refine gg ?_))
      (repeat' (first | intro (b : Nat) | refine go ?_ | (refine br ?_ ?_ <;> first | exact trivial | intro hq)))
      refine X.roundw ((1, out)) (⟨by first | decide | (dsimp only; decide), by first | decide | (dsimp only; decide), by show _ = strOfNums (rP p 1); rw [rp_z0 hx, ho]; try simp only [strOfNums_append, List.append_assoc, show (⟨#[84]⟩ : ByteArray) = strOfNums [84] from rfl]⟩) (by first | decide | (dsimp only; decide))
    · have hI1 := b_dec p.a ra
      have hdl := decL_len p.a
      have hdz : (strOfNums (decL p.a)).size ≤ 4 := by rw [strOfNums_size]; exact hdl.2
      have hxp : 0 < p.a := by omega
      have hle : (lettS.extract (0 : Int).toNat ((0 : Int) + 1).toNat).size ≤ 1 := by rw [lett0]; decide
      (repeat' (first | intro (b : Nat) | refine go ?_ | (refine br ?_ ?_ <;> first | exact trivial | intro hq)))
      ((repeat (refine C.seq ?_)); apply C.draww 16 [none, none, none, none, none, some _, none, none, some _, none, none, none, some _, none, none, none])
      (repeat (first | intro (b : Nat) | refine gg ?_))
      (repeat' (first | intro (b : Nat) | refine go ?_ | (refine br ?_ ?_ <;> first | exact trivial | intro hq)))
      ((repeat (refine C.seq ?_)); apply C.draww 12 [none, none, none, none, some _, some _, none, none, none, none, none, none])
      (repeat (first | intro (b : Nat) | refine gg ?_))
      (refine G.call (h := by intro W hW; exact hI1 W hW.base) (k := ?_))
      (repeat (first | intro (b : Nat) | refine gg ?_))
      refine G.p rfl rfl (PV.slSt (s := lettS) rfl rfl rfl (by first | decide | (dsimp only; decide)) (by first | decide | (dsimp only; decide)) (by omega)) ?_
      (repeat (first | intro (b : Nat) | refine gg ?_))
      (repeat (first | intro (b : Nat) | refine go ?_))
      refine X.roundw ((1, out ++ strOfNums (decL p.a) ++ lettS.extract (0 : Int).toNat ((0 : Int) + 1).toNat)) (⟨by first | decide | (dsimp only; decide), by first | decide | (dsimp only; decide), by show _ = strOfNums (rP p 1); rw [rp_n0 hx, lett0, ho]; simp only [strOfNums_append, List.append_assoc, show (⟨#[84]⟩ : ByteArray) = strOfNums [84] from rfl]⟩) (by first | decide | (dsimp only; decide))
  · have g0 : decide ((1 : Int) = 3) = false := by first | decide | (dsimp only; decide)
    by_cases hx : p.b = 0
    · (repeat' (first | intro (b : Nat) | refine go ?_ | (refine br ?_ ?_ <;> first | exact trivial | intro hq)))
      ((repeat (refine C.seq ?_)); apply C.draww 16 [none, none, none, none, none, some _, none, none, some _, none, none, none, some _, none, none, none])
      (repeat (first | intro (b : Nat) | refine gg ?_))
      (repeat' (first | intro (b : Nat) | refine go ?_ | (refine br ?_ ?_ <;> first | exact trivial | intro hq)))
      refine X.roundw ((2, out)) (⟨by first | decide | (dsimp only; decide), by first | decide | (dsimp only; decide), by show _ = strOfNums (rP p 2); rw [rp_z1 hx, ho]; try simp only [strOfNums_append, List.append_assoc, show (⟨#[84]⟩ : ByteArray) = strOfNums [84] from rfl]⟩) (by first | decide | (dsimp only; decide))
    · have hI1 := b_dec p.b rb'
      have hdl := decL_len p.b
      have hdz : (strOfNums (decL p.b)).size ≤ 4 := by rw [strOfNums_size]; exact hdl.2
      have hxp : 0 < p.b := by omega
      have hle : (lettS.extract (1 : Int).toNat ((1 : Int) + 1).toNat).size ≤ 1 := by rw [lett1]; decide
      (repeat' (first | intro (b : Nat) | refine go ?_ | (refine br ?_ ?_ <;> first | exact trivial | intro hq)))
      ((repeat (refine C.seq ?_)); apply C.draww 16 [none, none, none, none, none, some _, none, none, some _, none, none, none, some _, none, none, none])
      (repeat (first | intro (b : Nat) | refine gg ?_))
      (repeat' (first | intro (b : Nat) | refine go ?_ | (refine br ?_ ?_ <;> first | exact trivial | intro hq)))
      ((repeat (refine C.seq ?_)); apply C.draww 12 [none, none, none, none, some _, some _, none, none, none, none, none, none])
      (repeat (first | intro (b : Nat) | refine gg ?_))
      (refine G.call (h := by intro W hW; exact hI1 W hW.base) (k := ?_))
      (repeat (first | intro (b : Nat) | refine gg ?_))
      refine G.p rfl rfl (PV.slSt (s := lettS) rfl rfl rfl (by first | decide | (dsimp only; decide)) (by first | decide | (dsimp only; decide)) (by omega)) ?_
      (repeat (first | intro (b : Nat) | refine gg ?_))
      (repeat (first | intro (b : Nat) | refine go ?_))
      refine X.roundw ((2, out ++ strOfNums (decL p.b) ++ lettS.extract (1 : Int).toNat ((1 : Int) + 1).toNat)) (⟨by first | decide | (dsimp only; decide), by first | decide | (dsimp only; decide), by show _ = strOfNums (rP p 2); rw [rp_n1 hx, lett1, ho]; simp only [strOfNums_append, List.append_assoc, show (⟨#[84]⟩ : ByteArray) = strOfNums [84] from rfl]⟩) (by first | decide | (dsimp only; decide))
  · have g0 : decide ((2 : Int) = 3) = false := by first | decide | (dsimp only; decide)
    by_cases hx : p.c = 0
    · (repeat' (first | intro (b : Nat) | refine go ?_ | (refine br ?_ ?_ <;> first | exact trivial | intro hq)))
      ((repeat (refine C.seq ?_)); apply C.draww 16 [none, none, none, none, none, some _, none, none, some _, none, none, none, some _, none, none, none])
      (repeat (first | intro (b : Nat) | refine gg ?_))
      (repeat' (first | intro (b : Nat) | refine go ?_ | (refine br ?_ ?_ <;> first | exact trivial | intro hq)))
      refine X.roundw ((3, out)) (⟨by first | decide | (dsimp only; decide), by first | decide | (dsimp only; decide), by show _ = strOfNums (rP p 3); rw [rp_z2 hx, ho]; try simp only [strOfNums_append, List.append_assoc, show (⟨#[84]⟩ : ByteArray) = strOfNums [84] from rfl]⟩) (by first | decide | (dsimp only; decide))
    · have hI1 := b_dec p.c rc'
      have hdl := decL_len p.c
      have hdz : (strOfNums (decL p.c)).size ≤ 4 := by rw [strOfNums_size]; exact hdl.2
      have hxp : 0 < p.c := by omega
      have hle : (lettS.extract (2 : Int).toNat ((2 : Int) + 1).toNat).size ≤ 1 := by rw [lett2]; decide
      (repeat' (first | intro (b : Nat) | refine go ?_ | (refine br ?_ ?_ <;> first | exact trivial | intro hq)))
      ((repeat (refine C.seq ?_)); apply C.draww 16 [none, none, none, none, none, some _, none, none, some _, none, none, none, some _, none, none, none])
      (repeat (first | intro (b : Nat) | refine gg ?_))
      (repeat' (first | intro (b : Nat) | refine go ?_ | (refine br ?_ ?_ <;> first | exact trivial | intro hq)))
      ((repeat (refine C.seq ?_)); apply C.draww 12 [none, none, none, none, some _, some _, none, none, none, none, none, none])
      (repeat (first | intro (b : Nat) | refine gg ?_))
      (refine G.call (h := by intro W hW; exact hI1 W hW.base) (k := ?_))
      (repeat (first | intro (b : Nat) | refine gg ?_))
      refine G.p rfl rfl (PV.slSt (s := lettS) rfl rfl rfl (by first | decide | (dsimp only; decide)) (by first | decide | (dsimp only; decide)) (by omega)) ?_
      (repeat (first | intro (b : Nat) | refine gg ?_))
      (repeat (first | intro (b : Nat) | refine go ?_))
      refine X.roundw ((3, out ++ strOfNums (decL p.c) ++ lettS.extract (2 : Int).toNat ((2 : Int) + 1).toNat)) (⟨by first | decide | (dsimp only; decide), by first | decide | (dsimp only; decide), by show _ = strOfNums (rP p 3); rw [rp_n2 hx, lett2, ho]; simp only [strOfNums_append, List.append_assoc, show (⟨#[84]⟩ : ByteArray) = strOfNums [84] from rfl]⟩) (by first | decide | (dsimp only; decide))
  · have g0 : decide ((3 : Int) = 3) = true := by first | decide | (dsimp only; decide)
    have ht := tI_nil (p := p) rd.1 re.1 rf.1
    by_cases hT : 0 < p.d + p.e + p.f
    · have htn : ¬ tItems p = [] := fun h => (ht.1 h) hT
      by_cases hx : p.d = 0
      · (repeat' (first | intro (b : Nat) | refine go ?_ | (refine br ?_ ?_ <;> first | exact trivial | intro hq)))
        ((repeat (refine C.seq ?_)); apply C.draww 16 [none, none, none, none, none, some _, none, none, some _, none, none, none, some _, none, none, none])
        (repeat (first | intro (b : Nat) | refine gg ?_))
        (repeat' (first | intro (b : Nat) | refine go ?_ | (refine br ?_ ?_ <;> first | exact trivial | intro hq)))
        refine X.roundw ((4, out ++ ⟨#[84]⟩)) (⟨by first | decide | (dsimp only; decide), by first | decide | (dsimp only; decide), by show _ = strOfNums (rP p 4); rw [rp_3b htn hx, ho]; try simp only [strOfNums_append, List.append_assoc, show (⟨#[84]⟩ : ByteArray) = strOfNums [84] from rfl]⟩) (by first | decide | (dsimp only; decide))
      · have hI1 := b_dec p.d rd
        have hdl := decL_len p.d
        have hdz : (strOfNums (decL p.d)).size ≤ 4 := by rw [strOfNums_size]; exact hdl.2
        have hxp : 0 < p.d := by omega
        have hle : (lettS.extract (3 : Int).toNat ((3 : Int) + 1).toNat).size ≤ 1 := by rw [lett3]; decide
        (repeat' (first | intro (b : Nat) | refine go ?_ | (refine br ?_ ?_ <;> first | exact trivial | intro hq)))
        ((repeat (refine C.seq ?_)); apply C.draww 16 [none, none, none, none, none, some _, none, none, some _, none, none, none, some _, none, none, none])
        (repeat (first | intro (b : Nat) | refine gg ?_))
        (repeat' (first | intro (b : Nat) | refine go ?_ | (refine br ?_ ?_ <;> first | exact trivial | intro hq)))
        ((repeat (refine C.seq ?_)); apply C.draww 12 [none, none, none, none, some _, some _, none, none, none, none, none, none])
        (repeat (first | intro (b : Nat) | refine gg ?_))
        (refine G.call (h := by intro W hW; exact hI1 W hW.base) (k := ?_))
        (repeat (first | intro (b : Nat) | refine gg ?_))
        refine G.p rfl rfl (PV.slSt (s := lettS) rfl rfl rfl (by first | decide | (dsimp only; decide)) (by first | decide | (dsimp only; decide)) (by omega)) ?_
        (repeat (first | intro (b : Nat) | refine gg ?_))
        (repeat (first | intro (b : Nat) | refine go ?_))
        refine X.roundw ((4, out ++ ⟨#[84]⟩ ++ strOfNums (decL p.d) ++ lettS.extract (3 : Int).toNat ((3 : Int) + 1).toNat)) (⟨by first | decide | (dsimp only; decide), by first | decide | (dsimp only; decide), by show _ = strOfNums (rP p 4); rw [rp_3c htn hx, lett3, ho]; simp only [strOfNums_append, List.append_assoc, show (⟨#[84]⟩ : ByteArray) = strOfNums [84] from rfl]⟩) (by first | decide | (dsimp only; decide))
    · have htn := ht.2 hT
      have hx : p.d = 0 := by omega
      (repeat' (first | intro (b : Nat) | refine go ?_ | (refine br ?_ ?_ <;> first | exact trivial | intro hq)))
      ((repeat (refine C.seq ?_)); apply C.draww 16 [none, none, none, none, none, some _, none, none, some _, none, none, none, some _, none, none, none])
      (repeat (first | intro (b : Nat) | refine gg ?_))
      (repeat' (first | intro (b : Nat) | refine go ?_ | (refine br ?_ ?_ <;> first | exact trivial | intro hq)))
      refine X.roundw ((4, out)) (⟨by first | decide | (dsimp only; decide), by first | decide | (dsimp only; decide), by show _ = strOfNums (rP p 4); rw [rp_3a htn, ho]; try simp only [strOfNums_append, List.append_assoc, show (⟨#[84]⟩ : ByteArray) = strOfNums [84] from rfl]⟩) (by first | decide | (dsimp only; decide))
  · have g0 : decide ((4 : Int) = 3) = false := by first | decide | (dsimp only; decide)
    by_cases hx : p.e = 0
    · (repeat' (first | intro (b : Nat) | refine go ?_ | (refine br ?_ ?_ <;> first | exact trivial | intro hq)))
      ((repeat (refine C.seq ?_)); apply C.draww 16 [none, none, none, none, none, some _, none, none, some _, none, none, none, some _, none, none, none])
      (repeat (first | intro (b : Nat) | refine gg ?_))
      (repeat' (first | intro (b : Nat) | refine go ?_ | (refine br ?_ ?_ <;> first | exact trivial | intro hq)))
      refine X.roundw ((5, out)) (⟨by first | decide | (dsimp only; decide), by first | decide | (dsimp only; decide), by show _ = strOfNums (rP p 5); rw [rp_z4 hx, ho]; try simp only [strOfNums_append, List.append_assoc, show (⟨#[84]⟩ : ByteArray) = strOfNums [84] from rfl]⟩) (by first | decide | (dsimp only; decide))
    · have hI1 := b_dec p.e re
      have hdl := decL_len p.e
      have hdz : (strOfNums (decL p.e)).size ≤ 4 := by rw [strOfNums_size]; exact hdl.2
      have hxp : 0 < p.e := by omega
      have hle : (lettS.extract (4 : Int).toNat ((4 : Int) + 1).toNat).size ≤ 1 := by rw [lett4]; decide
      (repeat' (first | intro (b : Nat) | refine go ?_ | (refine br ?_ ?_ <;> first | exact trivial | intro hq)))
      ((repeat (refine C.seq ?_)); apply C.draww 16 [none, none, none, none, none, some _, none, none, some _, none, none, none, some _, none, none, none])
      (repeat (first | intro (b : Nat) | refine gg ?_))
      (repeat' (first | intro (b : Nat) | refine go ?_ | (refine br ?_ ?_ <;> first | exact trivial | intro hq)))
      ((repeat (refine C.seq ?_)); apply C.draww 12 [none, none, none, none, some _, some _, none, none, none, none, none, none])
      (repeat (first | intro (b : Nat) | refine gg ?_))
      (refine G.call (h := by intro W hW; exact hI1 W hW.base) (k := ?_))
      (repeat (first | intro (b : Nat) | refine gg ?_))
      refine G.p rfl rfl (PV.slSt (s := lettS) rfl rfl rfl (by first | decide | (dsimp only; decide)) (by first | decide | (dsimp only; decide)) (by omega)) ?_
      (repeat (first | intro (b : Nat) | refine gg ?_))
      (repeat (first | intro (b : Nat) | refine go ?_))
      refine X.roundw ((5, out ++ strOfNums (decL p.e) ++ lettS.extract (4 : Int).toNat ((4 : Int) + 1).toNat)) (⟨by first | decide | (dsimp only; decide), by first | decide | (dsimp only; decide), by show _ = strOfNums (rP p 5); rw [rp_n4 hx, lett4, ho]; simp only [strOfNums_append, List.append_assoc, show (⟨#[84]⟩ : ByteArray) = strOfNums [84] from rfl]⟩) (by first | decide | (dsimp only; decide))
  · have g0 : decide ((5 : Int) = 3) = false := by first | decide | (dsimp only; decide)
    by_cases hx : p.f = 0
    · (repeat' (first | intro (b : Nat) | refine go ?_ | (refine br ?_ ?_ <;> first | exact trivial | intro hq)))
      ((repeat (refine C.seq ?_)); apply C.draww 16 [none, none, none, none, none, some _, none, none, some _, none, none, none, some _, none, none, none])
      (repeat (first | intro (b : Nat) | refine gg ?_))
      (repeat' (first | intro (b : Nat) | refine go ?_ | (refine br ?_ ?_ <;> first | exact trivial | intro hq)))
      refine X.roundw ((6, out)) (⟨by first | decide | (dsimp only; decide), by first | decide | (dsimp only; decide), by show _ = strOfNums (rP p 6); rw [rp_z5 hx, ho]; try simp only [strOfNums_append, List.append_assoc, show (⟨#[84]⟩ : ByteArray) = strOfNums [84] from rfl]⟩) (by first | decide | (dsimp only; decide))
    · have hI1 := b_dec p.f rf
      have hdl := decL_len p.f
      have hdz : (strOfNums (decL p.f)).size ≤ 4 := by rw [strOfNums_size]; exact hdl.2
      have hxp : 0 < p.f := by omega
      have hle : (lettS.extract (5 : Int).toNat ((5 : Int) + 1).toNat).size ≤ 1 := by rw [lett5]; decide
      (repeat' (first | intro (b : Nat) | refine go ?_ | (refine br ?_ ?_ <;> first | exact trivial | intro hq)))
      ((repeat (refine C.seq ?_)); apply C.draww 16 [none, none, none, none, none, some _, none, none, some _, none, none, none, some _, none, none, none])
      (repeat (first | intro (b : Nat) | refine gg ?_))
      (repeat' (first | intro (b : Nat) | refine go ?_ | (refine br ?_ ?_ <;> first | exact trivial | intro hq)))
      ((repeat (refine C.seq ?_)); apply C.draww 12 [none, none, none, none, some _, some _, none, none, none, none, none, none])
      (repeat (first | intro (b : Nat) | refine gg ?_))
      (refine G.call (h := by intro W hW; exact hI1 W hW.base) (k := ?_))
      (repeat (first | intro (b : Nat) | refine gg ?_))
      refine G.p rfl rfl (PV.slSt (s := lettS) rfl rfl rfl (by first | decide | (dsimp only; decide)) (by first | decide | (dsimp only; decide)) (by omega)) ?_
      (repeat (first | intro (b : Nat) | refine gg ?_))
      (repeat (first | intro (b : Nat) | refine go ?_))
      refine X.roundw ((6, out ++ strOfNums (decL p.f) ++ lettS.extract (5 : Int).toNat ((5 : Int) + 1).toNat)) (⟨by first | decide | (dsimp only; decide), by first | decide | (dsimp only; decide), by show _ = strOfNums (rP p 6); rw [rp_n5 hx, lett5, ho]; simp only [strOfNums_append, List.append_assoc, show (⟨#[84]⟩ : ByteArray) = strOfNums [84] from rfl]⟩) (by first | decide | (dsimp only; decide))
  · cases hz : pzero p with
    | true =>
      rw [rP_endz p hz] at ho
      have ho2 : out = ⟨#[80]⟩ := ho
      rw [perL_z p hz]
      (repeat' (first | intro (b : Nat) | refine go ?_ | (refine br ?_ ?_ <;> first | exact trivial | intro hq)))
      all_goals first | (exfalso; contradiction) | (refine ret ?_; try exact rfl)
    | false =>
      rw [rP_end p hz] at ho
      have hl := perL_long p
      have hne : ¬ out = ⟨#[80]⟩ := fun h => by
        have h2 : out.size = 1 := by rw [h]; rfl
        rw [ho, strOfNums_size] at h2
        omega
      (repeat' (first | intro (b : Nat) | refine go ?_ | (refine br ?_ ?_ <;> first | exact trivial | intro hq)))
      all_goals first | (exfalso; contradiction) | ((refine ret ?_; try exact rfl); exact congrArg Value.string ho)

theorem b_PeriodText (p : P6) (w : World) (hb : D.Base w) : Calls Tryz.prog 54 #[.agg #[.int .i64 p.a, .int .i64 p.b, .int .i64 p.c, .int .i64 p.d, .int .i64 p.e, .int .i64 p.f]] w fun e w' => e = .returned (.string (perX p)) ∧ Below w.heap.size w w' := by
  have hV := b_PeriodValid p.a p.b p.c p.d p.e p.f
  unfold perX
  cases hv : perV p.a p.b p.c p.d p.e p.f with
  | false =>
    rw [hv] at hV
    rw [if_neg (by rw [← perV_ok, hv]; simp)]
    refine enter Tryz.func54 rfl Tryz.ntmps54 rfl (by assumption) ?_
    (repeat' (first | intro (b : Nat) | refine go ?_ | (refine br ?_ ?_ <;> first | exact trivial | intro hq) | refine L.call (h := by intro W hW; apply hV W hW.base) (k := ?_)))
    (refine ret ?_; try exact rfl)
  | true =>
    rw [hv] at hV
    have hok := perV_ok.1 hv
    have hT := b_l15Text p hok
    rw [if_pos hok]
    refine enter Tryz.func54 rfl Tryz.ntmps54 rfl (by assumption) ?_
    (repeat' (first | intro (b : Nat) | refine go ?_ | (refine br ?_ ?_ <;> first | exact trivial | intro hq) | refine L.call (h := by intro W hW; first | apply hV W hW.base | apply hT W hW.base) (k := ?_)))
    (refine ret ?_; try exact rfl)

end D
end Go.Proofs.YtboglbdhibcacaaGreatDoor
