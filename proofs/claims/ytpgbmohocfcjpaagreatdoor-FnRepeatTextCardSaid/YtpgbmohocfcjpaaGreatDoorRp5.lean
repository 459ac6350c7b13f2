/- Plain laws: a repeat's text is read. -/
import Derived.Test.YtpgbmohocfcjpaaGreatDoorRp3
import Derived.Test.YtpgbmohocfcjpaaGreatDoorSp4
import Derived.Test.YtpgbmohocfcjpaaGreatDoorPx
import Derived.Test.YtpgbmohocfcjpaaGreatDoorRp4
import Derived.Test.YtpgbmohocfcjpaaGreatDoorEq
namespace Go.Proofs.YtpgbmohocfcjpaaGreatDoor
set_option linter.unusedVariables false
set_option linter.unusedSimpArgs false
set_option maxRecDepth 100000
set_option maxHeartbeats 1000000
namespace D
open Go.RowKit
open Go.PlainAid (bt bt_nonneg bt_le bt_end)
attribute [local irreducible] Calls

open Classical in
/-- The repeat of a text, as a value. -/
noncomputable def repR (s : ByteArray) : Value := if h : ∃ k, rOne s k then repAt s (Classical.choose h) else repNo
theorem repR_yes {s : ByteArray} {k : Nat} (h : rOne s k) : repR s = repAt s k := by
  have hh : ∃ k, rOne s k := ⟨k, h⟩
  unfold repR
  rw [dif_pos hh]
  rw [h.2 _ (Classical.choose_spec hh).1]
theorem repR_no {s : ByteArray} (h : ∀ k, ¬ rOne s k) : repR s = repNo := by
  unfold repR
  rw [dif_neg fun ⟨j, hj⟩ => h j hj]
theorem repP_eq {s : ByteArray} {v : Value} (h : RepP s v) : v = repR s := by
  rcases h with ⟨k, hk, rfl⟩ | ⟨hk, rfl⟩
  · by_cases h1 : rOne s k
    · rw [repR_yes h1]
    · have hno : ∀ i, ¬ rOne s i := fun i hi => h1 (by rw [hi.2 k hk]; exact hi)
      rw [repR_no hno, repAt_two hk hno]
  · rw [repR_no fun k h => hk k h.1]
theorem repRR_eq {s : ByteArray} {v : Value} (h : RepR s v) : v = repR s := by
  rcases h with ⟨k, hk, rfl⟩ | ⟨hk, rfl⟩
  · rw [repR_yes hk]
  · rw [repR_no hk]
theorem repR_form (s : ByteArray) : ∃ (S : SR) (p : P6) (n : Int) (ok : Bool), repR s = .tuple #[ra S p n, .bool ok] ∧ (ok = true → repOk S p n = true) := by
  by_cases h : ∃ k, rOne s k
  · obtain ⟨k, hk⟩ := h
    rw [repR_yes hk]
    unfold repAt repV
    split
    · exact ⟨SR.no, P6.zero, 0, false, rfl, fun h => by cases h⟩
    · split
      · rename_i hh
        exact ⟨_, _, _, true, rfl, fun _ => hh.2⟩
      · exact ⟨SR.no, P6.zero, 0, false, rfl, fun h => by cases h⟩
  · rw [repR_no fun k hk => h ⟨k, hk⟩]
    exact ⟨SR.no, P6.zero, 0, false, rfl, fun h => by cases h⟩

theorem repOk_iff {S : SR} {p : P6} {n : Int} (h : repOk S p n = true) : valS S ∧ pOk p = true ∧ 0 ≤ n ∧ n ≤ 99 := by
  unfold repOk at h
  simp only [Bool.and_eq_true] at h
  exact ⟨h.1.1.1, perV_ok.1 h.1.1.2, (inR_true.1 h.2).1, (inR_true.1 h.2).2⟩

/-! ### The text of a repeat -/
abbrev s82 : ByteArray := ⟨#[82]⟩
/-- What stands ahead of the stamp. -/
def rhead (n : Int) : ByteArray := s82 ++ strOfNums (decL n) ++ s47
theorem rhead_eq (n : Int) : rhead n = strOfNums ([82] ++ decL n ++ [47]) := by
  unfold rhead
  rw [show s82 = strOfNums [82] from rfl, show s47 = strOfNums [47] from rfl, strOfNums_append, strOfNums_append]
theorem rhead_size (n : Int) : (rhead n).size = (decL n).length + 2 := by
  rw [rhead_eq, strOfNums_size]
  simp only [List.length_append, List.length_cons, List.length_nil]
  omega
theorem rhead_in (n : Int) : ∀ x ∈ [82] ++ decL n ++ [47], 0 ≤ x ∧ x ≤ 255 := fun x hx => by
  have := decL_in n x
  simp only [List.mem_append, List.mem_singleton] at hx
  rcases hx with (hx | hx) | hx
  · omega
  · have := this hx; omega
  · omega
theorem bt_pre {a b : ByteArray} {i : Nat} (h : i < a.size) : bt (a ++ b) i = bt a i := by
  have e : (a ++ b).extract 0 a.size = a := ByteArray.extract_append_eq_left rfl
  have := bt_extract (s := a ++ b) (a := 0) (b := a.size) (i := i) (by rw [ByteArray.size_append]; omega) (by omega)
  rw [e, Nat.zero_add] at this
  exact this.symm
theorem bt_suf {a b : ByteArray} {i : Nat} (h : i < b.size) : bt (a ++ b) (a.size + i) = bt b i := by
  have e : (a ++ b).extract a.size (a.size + b.size) = b := ByteArray.extract_append_eq_right rfl rfl
  have := bt_extract (s := a ++ b) (a := a.size) (b := a.size + b.size) (i := i) (by rw [ByteArray.size_append]; omega) (by omega)
  rw [e] at this
  exact this.symm
/-- A number of one or two digits and a slash are read. -/
theorem rhead_read {n : Int} (hn : 0 ≤ n ∧ n ≤ 99) (r : ByteArray) : headOk (rhead n ++ r) ∧ 2 + runN (rhead n ++ r) 1 = (rhead n).size ∧ numL (rhead n ++ r) 1 (runN (rhead n ++ r) 1) = n := by
  have hz := rhead_size n
  have hb : ∀ i, i < (rhead n).size → bt (rhead n ++ r) i = ([82] ++ decL n ++ [47]).getD i 0 := fun i hi => by
    rw [bt_pre hi, rhead_eq, bt_strOf _ _ (rhead_in n)]
  have hs : (rhead n ++ r).size = (rhead n).size + r.size := ByteArray.size_append
  by_cases h10 : n < 10
  · have hd : decL n = [48 + n] := by
      unfold decL
      rw [if_pos h10, dig1, show n % 10 = n by omega]
    rw [hd] at hz hb
    have z : (rhead n).size = 3 := hz
    have b0 := hb 0 (by omega)
    have b1 := hb 1 (by omega)
    have b2 := hb 2 (by omega)
    have b0' : bt (rhead n ++ r) 0 = 82 := b0
    have b1' : bt (rhead n ++ r) 1 = 48 + n := b1
    have b2' : bt (rhead n ++ r) 2 = 47 := b2
    generalize rhead n ++ r = s at *
    have hr : 1 = runN s 1 := runN_eq (fun i hi => by
      obtain rfl : i = 0 := by omega
      exact isD_iff.2 (by rw [show 1 + 0 = 1 from rfl, b1']; omega)) (by
      refine bool_no fun h => ?_
      have := isD_iff.1 h
      rw [show 1 + 1 = 2 from rfl, b2'] at this
      omega)
    rw [← hr]
    refine ⟨⟨isB_iff.2 ⟨by omega, b0'⟩, by omega, ?_⟩, by omega, ?_⟩
    · rw [← hr]
      exact isB_iff.2 ⟨by omega, b2'⟩
    · exact (rd1 (by omega) (by rw [b1']; omega)).2
  · have hd : decL n = [48 + n / 10 % 10, 48 + n % 10] := by
      unfold decL
      rw [if_neg h10, if_pos (by omega), dig2]
    rw [hd] at hz hb
    have z : (rhead n).size = 4 := hz
    have b0 := hb 0 (by omega)
    have b1 := hb 1 (by omega)
    have b2 := hb 2 (by omega)
    have b3 := hb 3 (by omega)
    have b0' : bt (rhead n ++ r) 0 = 82 := b0
    have b1' : bt (rhead n ++ r) 1 = 48 + n / 10 % 10 := b1
    have b2' : bt (rhead n ++ r) 2 = 48 + n % 10 := b2
    have b3' : bt (rhead n ++ r) 3 = 47 := b3
    generalize rhead n ++ r = s at *
    have hr : 2 = runN s 1 := runN_eq (fun i hi => by
      rcases (by omega : i = 0 ∨ i = 1) with rfl | rfl
      · exact isD_iff.2 (by rw [show 1 + 0 = 1 from rfl, b1']; omega)
      · exact isD_iff.2 (by rw [show 1 + 1 = 2 from rfl, b2']; omega)) (by
      refine bool_no fun h => ?_
      have := isD_iff.1 h
      rw [show 1 + 2 = 3 from rfl, b3'] at this
      omega)
    rw [← hr]
    refine ⟨⟨isB_iff.2 ⟨by omega, b0'⟩, by omega, ?_⟩, by omega, ?_⟩
    · rw [← hr]
      exact isB_iff.2 ⟨by omega, b3'⟩
    · exact (rd2 (by omega) b1' (by rw [show 1 + 1 = 2 from rfl]; exact b2')).2
/-- The text of a repeat: what the program joins. -/
def rtx (n : Int) (t u : ByteArray) : ByteArray := rhead n ++ t ++ s47 ++ u
theorem rtx_size (n : Int) (t u : ByteArray) : (rtx n t u).size = (rhead n).size + t.size + 1 + u.size := by
  unfold rtx
  rw [join_size, ByteArray.size_append]
theorem rtx_read {n : Int} {t u : ByteArray} (hn : 0 ≤ n ∧ n ≤ 99) (h1 : noSl t) (h2 : noSl u) : repR (rtx n t u) = repV (stampR t) (perR u) n := by
  obtain ⟨g1, g2, g3⟩ := rhead_read hn (t ++ (s47 ++ u))
  have e : rhead n ++ (t ++ (s47 ++ u)) = rtx n t u := by
    unfold rtx
    simp only [ByteArray.append_assoc]
  rw [e] at g1 g2 g3
  have hz := rtx_size n t u
  have hA : (rhead n ++ t).size = (rhead n).size + t.size := ByteArray.size_append
  have hone : rOne (rtx n t u) ((rhead n).size + t.size) := by
    refine ⟨⟨g1, by omega, by omega, ?_⟩, fun i hi => ?_⟩
    · rw [← hA]
      exact join_bt_m (rhead n ++ t) u
    · have i1 := hi.2.1
      have i2 := hi.2.2.1
      have i3 := hi.2.2.2
      rcases (by omega : i < (rhead n).size + t.size ∨ i = (rhead n).size + t.size ∨ (rhead n).size + t.size < i) with h | h | h
      · have b1 : bt (rtx n t u) i = bt (rhead n ++ t) i := join_bt_l (t := rhead n ++ t) (u := u) (by omega)
        have b2 := bt_suf (a := rhead n) (b := t) (i := i - (rhead n).size) (by omega)
        rw [show (rhead n).size + (i - (rhead n).size) = i by omega] at b2
        exact (h1 (i - (rhead n).size) (by omega) (by rw [← b2, ← b1]; exact i3)).elim
      · exact h
      · have b1 : bt (rtx n t u) ((rhead n ++ t).size + 1 + (i - ((rhead n ++ t).size + 1))) = bt u (i - ((rhead n ++ t).size + 1)) := join_bt_r (t := rhead n ++ t) (u := u) (by omega)
        rw [show (rhead n ++ t).size + 1 + (i - ((rhead n ++ t).size + 1)) = i by omega] at b1
        exact (h2 (i - ((rhead n ++ t).size + 1)) (by omega) (by rw [← b1]; exact i3)).elim
  rw [repR_yes hone]
  unfold repAt
  rw [g3, g2]
  have x1 : (rtx n t u).extract (rhead n).size ((rhead n).size + t.size) = t := by
    have := ext_ext (s := rtx n t u) (a := 0) (b := (rhead n ++ t).size) (c := 0) (by omega) (by omega)
    have y1 : (rtx n t u).extract 0 (rhead n ++ t).size = rhead n ++ t := join_l (rhead n ++ t) u
    have y2 : (rhead n ++ t).extract (rhead n).size ((rhead n).size + t.size) = t := ByteArray.extract_append_eq_right rfl rfl
    have y3 := ext_ext2 (s := rtx n t u) (a := 0) (b := (rhead n ++ t).size) (c := (rhead n).size) (by omega) (by omega)
    rw [y1, Nat.sub_zero, hA, Nat.zero_add, y2] at y3
    exact y3.symm
  have x2 : (rtx n t u).extract ((rhead n).size + t.size + 1) (rtx n t u).size = u := by
    have := join_r (rhead n ++ t) u
    rw [hA] at this
    exact this
  rw [x1, x2]
/-- A valid repeat's text is read as it. -/
theorem rtx_back {S : SR} {p : P6} {n : Int} (h : repOk S p n = true) : repR (rtx n (txS S) (strOfNums (perL p))) = .tuple #[ra S p n, .bool true] := by
  obtain ⟨h1, h2, h3⟩ := repOk_iff h
  rw [rtx_read h3 (txS_noSl h1) (per_noSl (per_text h2)), per_text h2, txS_read h1]
  unfold repV
  exact if_pos ⟨rfl, h⟩

end D
end Go.Proofs.YtpgbmohocfcjpaaGreatDoor

namespace Go.Proofs.YtpgbmohocfcjpaaGreatDoor
set_option linter.unusedVariables false
set_option linter.unusedSimpArgs false
set_option maxRecDepth 100000
set_option maxHeartbeats 1000000
namespace D
open Go.RowKit
open Go.PlainAid (bt bt_nonneg bt_le bt_end)
attribute [local irreducible] Calls

theorem a_RepeatFromR (s : ByteArray) (hs : s.size ≤ 1000000000000) (w : World) (hb : D.Base w) (hg : Hdl w) : Calls Tryz.prog 39 #[.string s] w fun e w' => e = .returned (repR s) ∧ Below w.heap.size w w' :=
  Calls.mono (a_RepeatFrom s hs w hb hg) fun e w' ⟨v, he, hR, hB⟩ => ⟨by rw [he, repP_eq hR], hB⟩

theorem b_RepeatFromR (s : ByteArray) (hs : s.size ≤ 1000000000000) (w : World) (hb : D.Base w) : Calls Tryz.prog 38 #[.string s] w fun e w' => e = .returned (repR s) ∧ Below w.heap.size w w' :=
  Calls.mono (b_RepeatFrom s hs w hb) fun e w' ⟨v, he, hR, hB⟩ => ⟨by rw [he, repRR_eq hR], hB⟩

/-- The text of a repeat, or nothing. -/
noncomputable def repT (S : SR) (p : P6) (n : Int) : ByteArray := if repOk S p n = true then rtx n (txS S) (strOfNums (perL p)) else ⟨#[]⟩

theorem perL_size (p : P6) (h : pOk p = true) : (strOfNums (perL p)).size ≤ 40 := by
  rw [strOfNums_size]
  cases hz : pzero p with
  | true => rw [perL_z p hz]; decide
  | false => rw [← preP_end p hz]; exact preP_len p 6

theorem a_RepeatText (S : SR) (p : P6) (n : Int) (w : World) (hb : D.Base w) (hp : Pw w) : Calls Tryz.prog 42 #[ra S p n] w fun e w' => e = .returned (.string (repT S p n)) ∧ Below w.heap.size w w' := by
  have hV := a_RepeatValid S p n
  unfold repT
  cases hok : repOk S p n with
  | false =>
    rw [hok] at hV
    refine enter Tryz.func42 rfl Tryz.ntmps42 rfl (by assumption) ?_
    (repeat' (first | intro (b : Nat) | refine go ?_ | (refine br ?_ ?_ <;> first | exact trivial | intro hq) | refine L.call (h := by intro W hW; apply hV W hW.base) (k := ?_) | refine gg ?_ | refine G.call (h := by intro W hW; apply hV W hW.base) (k := ?_) | (apply C.draww (id := 3) 15 [none, some _, some _, none, none, none, some _, some _, none, none, none, some _, some _, none, none])))
    (refine ret ?_; try exact rfl)
  | true =>
    rw [hok] at hV
    obtain ⟨h1, h2, h3⟩ := repOk_iff hok
    have hI := a_Itoa n (by omega)
    have hX := a_StampText S.y S.m S.d S.h S.i S.s S.k S.o
    have hY := a_PeriodText p
    rw [stT_of h1] at hX
    unfold perX at hY
    rw [if_pos h2] at hY
    have zA : (txS S).size ≤ 40 := stL_size.2
    have zB := perL_size p h2
    have zC := rhead_size n
    have zD : (strOfNums (decL n)).size ≤ 4 := by rw [strOfNums_size]; exact (decL_len n).2
    rw [if_pos rfl]
    unfold rtx rhead
    clear zC hok
    generalize txS S = t at *
    generalize strOfNums (perL p) = u at *
    generalize strOfNums (decL n) = z at *
    refine enter Tryz.func42 rfl Tryz.ntmps42 rfl (by assumption) ?_
    (repeat' (first | intro (b : Nat) | refine go ?_ | (refine br ?_ ?_ <;> first | exact trivial | intro hq) | refine L.call (h := by intro W hW; first | apply hV W hW.base | apply hI W hW.base (hp.old hW) | apply hX W hW.base | apply hY W hW.base (hp.old hW)) (k := ?_) | refine gg ?_ | refine G.call (h := by intro W hW; first | apply hV W hW.base | apply hI W hW.base (hp.old hW) | apply hX W hW.base | apply hY W hW.base (hp.old hW)) (k := ?_) | (apply C.draww (id := 3) 15 [none, some _, some _, none, none, none, some _, some _, none, none, none, some _, some _, none, none])))
    (refine ret ?_; try exact rfl)

theorem b_RepeatText (S : SR) (p : P6) (n : Int) (w : World) (hb : D.Base w) : Calls Tryz.prog 43 #[ra S p n] w fun e w' => e = .returned (.string (repT S p n)) ∧ Below w.heap.size w w' := by
  have hV := b_RepeatValid S p n
  unfold repT
  cases hok : repOk S p n with
  | false =>
    rw [hok] at hV
    refine enter Tryz.func43 rfl Tryz.ntmps43 rfl (by assumption) ?_
    (repeat' (first | intro (b : Nat) | refine go ?_ | (refine br ?_ ?_ <;> first | exact trivial | intro hq) | refine L.call (h := by intro W hW; apply hV W hW.base) (k := ?_) | refine gg ?_ | refine G.call (h := by intro W hW; apply hV W hW.base) (k := ?_) | (apply C.draww (id := 3) 15 [none, some _, some _, none, none, none, some _, some _, none, none, none, some _, some _, none, none])))
    (refine ret ?_; try exact rfl)
  | true =>
    rw [hok] at hV
    obtain ⟨h1, h2, h3⟩ := repOk_iff hok
    have hI := b_dec n (by omega)
    have hX := b_l13Text S.y S.m S.d S.h S.i S.s S.k S.o h1
    rw [show strOfNums (stL S.y S.m S.d S.h S.i S.s S.k S.o) = txS S from rfl] at hX
    have hY := b_l15Text p (by exact h2)
    have zA : (txS S).size ≤ 40 := stL_size.2
    have zB := perL_size p h2
    have zD : (strOfNums (decL n)).size ≤ 4 := by rw [strOfNums_size]; exact (decL_len n).2
    rw [if_pos rfl]
    unfold rtx rhead
    clear hok
    generalize txS S = t at *
    generalize strOfNums (perL p) = u at *
    generalize strOfNums (decL n) = z at *
    refine enter Tryz.func43 rfl Tryz.ntmps43 rfl (by assumption) ?_
    (repeat' (first | intro (b : Nat) | refine go ?_ | (refine br ?_ ?_ <;> first | exact trivial | intro hq) | refine L.call (h := by intro W hW; first | apply hV W hW.base | apply hI W hW.base | apply hX W hW.base | apply hY W hW.base) (k := ?_) | refine gg ?_ | refine G.call (h := by intro W hW; first | apply hV W hW.base | apply hI W hW.base | apply hX W hW.base | apply hY W hW.base) (k := ?_) | (apply C.draww (id := 3) 15 [none, some _, some _, none, none, none, some _, some _, none, none, none, some _, some _, none, none])))
    (refine ret ?_; try exact rfl)

end D
end Go.Proofs.YtpgbmohocfcjpaaGreatDoor

namespace Go.Proofs.YtpgbmohocfcjpaaGreatDoor
set_option linter.unusedVariables false
set_option linter.unusedSimpArgs false
set_option maxRecDepth 100000
set_option maxHeartbeats 1000000
namespace D
open Go.RowKit

theorem eqk_date (k : Nat) (a0 a1 a2 : Int) (w : World) : (Op.equalIn (k + 2) 33 (.agg #[.int .i64 a0, .int .i64 a1, .int .i64 a2]) (.agg #[.int .i64 a0, .int .i64 a1, .int .i64 a2])).run Tryz.prog w = .ok true w := by
  show (Op.equalIn (k + 1 + 1) 33 _ _).run Tryz.prog w = _
  rw [run_equalIn_struct w (k + 1) 33 _ _ (by rw [fieldsOf_eq Tryz.underlying33]; exact Tryz.underlying33) (by kernel_rfl), fieldsOf_eq Tryz.underlying33]
  have h3 : ∀ a b w, (Op.equalIn (k + 1) 3 (.int .i64 a) (.int .i64 b)).run Tryz.prog w = .ok (a == b) w := fun a b w => run_equalIn_int w k 3 .i64 .i64 a b Tryz.underlying3
  have hs : ∀ w, (isAgg 3).run Tryz.prog w = .ok false w := fun w => run_isAgg_sc w
  simp [Op.eqFields, part, hs, h3]

theorem eqk_clock (k : Nat) (a0 a1 a2 a3 : Int) (w : World) : (Op.equalIn (k + 2) 35 (.agg #[.int .i64 a0, .int .i64 a1, .int .i64 a2, .int .i64 a3]) (.agg #[.int .i64 a0, .int .i64 a1, .int .i64 a2, .int .i64 a3])).run Tryz.prog w = .ok true w := by
  show (Op.equalIn (k + 1 + 1) 35 _ _).run Tryz.prog w = _
  rw [run_equalIn_struct w (k + 1) 35 _ _ (by rw [fieldsOf_eq Tryz.underlying35]; exact Tryz.underlying35) (by kernel_rfl), fieldsOf_eq Tryz.underlying35]
  have h3 : ∀ a b w, (Op.equalIn (k + 1) 3 (.int .i64 a) (.int .i64 b)).run Tryz.prog w = .ok (a == b) w := fun a b w => run_equalIn_int w k 3 .i64 .i64 a b Tryz.underlying3
  have hs : ∀ w, (isAgg 3).run Tryz.prog w = .ok false w := fun w => run_isAgg_sc w
  simp [Op.eqFields, part, hs, h3]

theorem eqk_period (k : Nat) (a0 a1 a2 a3 a4 a5 : Int) (w : World) : (Op.equalIn (k + 2) 50 (.agg #[.int .i64 a0, .int .i64 a1, .int .i64 a2, .int .i64 a3, .int .i64 a4, .int .i64 a5]) (.agg #[.int .i64 a0, .int .i64 a1, .int .i64 a2, .int .i64 a3, .int .i64 a4, .int .i64 a5])).run Tryz.prog w = .ok true w := by
  show (Op.equalIn (k + 1 + 1) 50 _ _).run Tryz.prog w = _
  rw [run_equalIn_struct w (k + 1) 50 _ _ (by rw [fieldsOf_eq Tryz.underlying50]; exact Tryz.underlying50) (by kernel_rfl), fieldsOf_eq Tryz.underlying50]
  have h3 : ∀ a b w, (Op.equalIn (k + 1) 3 (.int .i64 a) (.int .i64 b)).run Tryz.prog w = .ok (a == b) w := fun a b w => run_equalIn_int w k 3 .i64 .i64 a b Tryz.underlying3
  have hs : ∀ w, (isAgg 3).run Tryz.prog w = .ok false w := fun w => run_isAgg_sc w
  simp [Op.eqFields, part, hs, h3]

theorem eqk_stamp (k : Nat) (a0 a1 a2 a3 a4 a5 a6 a7 : Int) (w : World) : (Op.equalIn (k + 3) 37 (.agg #[.int .i64 a0, .int .i64 a1, .int .i64 a2, .int .i64 a3, .int .i64 a4, .int .i64 a5, .int .i64 a6, .int .i64 a7]) (.agg #[.int .i64 a0, .int .i64 a1, .int .i64 a2, .int .i64 a3, .int .i64 a4, .int .i64 a5, .int .i64 a6, .int .i64 a7])).run Tryz.prog w = .ok true w := by
  show (Op.equalIn (k + 2 + 1) 37 _ _).run Tryz.prog w = _
  rw [run_equalIn_struct w (k + 2) 37 _ _ (by rw [fieldsOf_eq Tryz.underlying37]; exact Tryz.underlying37) (by kernel_rfl), fieldsOf_eq Tryz.underlying37]
  have h3 : ∀ a b w, (Op.equalIn (k + 2) 3 (.int .i64 a) (.int .i64 b)).run Tryz.prog w = .ok (a == b) w := fun a b w => run_equalIn_int w (k + 1) 3 .i64 .i64 a b Tryz.underlying3
  have hs : ∀ w, (isAgg 3).run Tryz.prog w = .ok false w := fun w => run_isAgg_sc w
  have hd : ∀ w, (isAgg 33).run Tryz.prog w = .ok true w := fun w => run_isAgg_ag w
  have hc : ∀ w, (isAgg 35).run Tryz.prog w = .ok true w := fun w => run_isAgg_ag w
  have zd : ∀ w, (sizeOf 33).run Tryz.prog w = .ok 3 w := fun w => run_sizeOf (Ag.sz (P := Tryz.prog)) w
  have zc : ∀ w, (sizeOf 35).run Tryz.prog w = .ok 4 w := fun w => run_sizeOf (Ag.sz (P := Tryz.prog)) w
  have e1 := fun w => eqk_date k a0 a1 a2 w
  have e2 := fun w => eqk_clock k a3 a4 a5 a6 w
  simp [Op.eqFields, part, hs, hd, hc, zd, zc, h3, e1, e2]

theorem eqr_repeat (a0 a1 a2 a3 a4 a5 a6 a7 a8 a9 a10 a11 a12 a13 a14 : Int) (w : World) : (Op.equal 56 (.agg #[.int .i64 a0, .int .i64 a1, .int .i64 a2, .int .i64 a3, .int .i64 a4, .int .i64 a5, .int .i64 a6, .int .i64 a7, .int .i64 a8, .int .i64 a9, .int .i64 a10, .int .i64 a11, .int .i64 a12, .int .i64 a13, .int .i64 a14]) (.agg #[.int .i64 a0, .int .i64 a1, .int .i64 a2, .int .i64 a3, .int .i64 a4, .int .i64 a5, .int .i64 a6, .int .i64 a7, .int .i64 a8, .int .i64 a9, .int .i64 a10, .int .i64 a11, .int .i64 a12, .int .i64 a13, .int .i64 a14])).run Tryz.prog w = .ok true w := by
  show (Op.equalIn (9999 + 1) 56 _ _).run Tryz.prog w = _
  rw [run_equalIn_struct w 9999 56 _ _ (by rw [fieldsOf_eq Tryz.underlying56]; exact Tryz.underlying56) (by kernel_rfl), fieldsOf_eq Tryz.underlying56]
  have h3 : ∀ a b w, (Op.equalIn 9999 3 (.int .i64 a) (.int .i64 b)).run Tryz.prog w = .ok (a == b) w := fun a b w => run_equalIn_int w 9998 3 .i64 .i64 a b Tryz.underlying3
  have hs : ∀ w, (isAgg 3).run Tryz.prog w = .ok false w := fun w => run_isAgg_sc w
  have hd : ∀ w, (isAgg 37).run Tryz.prog w = .ok true w := fun w => run_isAgg_ag w
  have hc : ∀ w, (isAgg 50).run Tryz.prog w = .ok true w := fun w => run_isAgg_ag w
  have zd : ∀ w, (sizeOf 37).run Tryz.prog w = .ok 8 w := fun w => run_sizeOf (Ag.sz (P := Tryz.prog)) w
  have zc : ∀ w, (sizeOf 50).run Tryz.prog w = .ok 6 w := fun w => run_sizeOf (Ag.sz (P := Tryz.prog)) w
  have e1 : ∀ w, (Op.equalIn 9999 37 (.agg #[.int .i64 a0, .int .i64 a1, .int .i64 a2, .int .i64 a3, .int .i64 a4, .int .i64 a5, .int .i64 a6, .int .i64 a7]) (.agg #[.int .i64 a0, .int .i64 a1, .int .i64 a2, .int .i64 a3, .int .i64 a4, .int .i64 a5, .int .i64 a6, .int .i64 a7])).run Tryz.prog w = .ok true w := fun w => eqk_stamp 9996 a0 a1 a2 a3 a4 a5 a6 a7 w
  have e2 : ∀ w, (Op.equalIn 9999 50 (.agg #[.int .i64 a8, .int .i64 a9, .int .i64 a10, .int .i64 a11, .int .i64 a12, .int .i64 a13]) (.agg #[.int .i64 a8, .int .i64 a9, .int .i64 a10, .int .i64 a11, .int .i64 a12, .int .i64 a13])).run Tryz.prog w = .ok true w := fun w => eqk_period 9997 a8 a9 a10 a11 a12 a13 w
  simp [Op.eqFields, part, hs, hd, hc, zd, zc, h3, e1, e2]

instance (a0 a1 a2 a3 a4 a5 a6 a7 a8 a9 a10 a11 a12 a13 a14 : Int) : EqV Tryz.prog 56 [.int .i64 a0, .int .i64 a1, .int .i64 a2, .int .i64 a3, .int .i64 a4, .int .i64 a5, .int .i64 a6, .int .i64 a7, .int .i64 a8, .int .i64 a9, .int .i64 a10, .int .i64 a11, .int .i64 a12, .int .i64 a13, .int .i64 a14] [.int .i64 a0, .int .i64 a1, .int .i64 a2, .int .i64 a3, .int .i64 a4, .int .i64 a5, .int .i64 a6, .int .i64 a7, .int .i64 a8, .int .i64 a9, .int .i64 a10, .int .i64 a11, .int .i64 a12, .int .i64 a13, .int .i64 a14] true := ⟨eqr_repeat a0 a1 a2 a3 a4 a5 a6 a7 a8 a9 a10 a11 a12 a13 a14⟩

instance : EqA Tryz.prog 56 := ⟨by kernel_rfl⟩

end D
end Go.Proofs.YtpgbmohocfcjpaaGreatDoor
