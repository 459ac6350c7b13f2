/- Walks: periods that the program reads. -/
import Derived.Test.YtboglbdhibcacaaGreatDoorVg
import Derived.Test.YtboglbdhibcacaaGreatDoorVf
import Derived.Test.YtboglbdhibcacaaGreatDoorVEI
import Derived.Test.YtboglbdhibcacaaGreatDoorVe
namespace Go.Proofs.YtboglbdhibcacaaGreatDoor
set_option linter.unusedVariables false
set_option linter.unusedSimpArgs false
set_option maxRecDepth 100000
set_option maxHeartbeats 1000000
namespace D
open Go.RowKit
open Go.PlainAid (bt bt_nonneg bt_le bt_end)
attribute [local irreducible] Calls

theorem a_runN (r : Nat) (s : ByteArray) (p : Nat) (hs : s.size ≤ 1000000000000) (hp : p ≤ s.size) (w : World) (h1 : w.cell? ⟨r, 0 + 0, none⟩ = some (.string s)) (h2 : w.cell? ⟨r, 0 + 1, none⟩ = some (.int .i64 p)) (hb : D.Base w) :
    Calls Tryz.prog 162 #[.pointer (some ⟨r, 0, none⟩)] w fun e w' => e = .returned (.int .i64 (runN s p)) ∧ Below w.heap.size w w' :=
  (a_run r s p hs hp w h1 h2 hb).mono fun e w' ⟨v, he, ⟨j, hv, h3, h4⟩, hn⟩ => ⟨by rw [he, hv, runN_eq h3 h4], hn⟩

theorem a_few_no (w0 : World) (F : SH) (r : Nat) (s : ByteArray) (p : Nat) (hs : s.size ≤ 1000000000000) (hp : p ≤ s.size) (h : ¬ (1 ≤ runN s p ∧ runN s p ≤ 4)) (w : World) (hst : St w0 ((r, rdB s p) :: F) w) :
    Calls Tryz.prog 205 #[.pointer (some ⟨r, 0, none⟩)] w (Turns w0 (.tuple #[.int .i64 0, .bool false]) ((r, rdB s p) :: F)) := by
  have hi : inR (runN s p) 1 4 = false := inR_false.2 (by omega)
  refine enterl Tryz.func205 rfl Tryz.ntmps205 rfl hst ?_
  (repeat' (first | intro (b : Nat) | refine go ?_ | (refine br ?_ ?_ <;> first | exact trivial | intro hq) | refine L.call (h := by intro W hW; first | apply a_runN r s p hs hp W (hW.cell (List.Mem.head _) rfl) (hW.cell (List.Mem.head _) rfl) hW.base | apply rvb hi (a_within _ _ _ W hW.base)) (k := ?_)))
  exact rett rfl

theorem a_few_yes (w0 : World) (F : SH) (r : Nat) (s : ByteArray) (p : Nat) (hs : s.size ≤ 1000000000000) (hp : p ≤ s.size) (h : 1 ≤ runN s p ∧ runN s p ≤ 4) (w : World) (hst : St w0 ((r, rdB s p) :: F) w) :
    Calls Tryz.prog 205 #[.pointer (some ⟨r, 0, none⟩)] w (Turns w0 (.tuple #[.int .i64 (numL s p (runN s p)), .bool true]) ((r, rdB s ((p : Int) + (runN s p : Int))) :: F)) := by
  have hi : inR (runN s p) 1 4 = true := inR_true.2 (by omega)
  refine enterl Tryz.func205 rfl Tryz.ntmps205 rfl hst ?_
  (repeat' (first | intro (b : Nat) | refine go ?_ | (refine br ?_ ?_ <;> first | exact trivial | intro hq) | refine L.call (h := by intro W hW; first | apply a_runN r s p hs hp W (hW.cell (List.Mem.head _) rfl) (hW.cell (List.Mem.head _) rfl) hW.base | apply rvb hi (a_within _ _ _ W hW.base)) (k := ?_)))
  refine L.tcall (h := by intro W hW; exact a_number_yes _ _ _ _ _ _ hs hp (by omega) (runN_allD s p) W hW) (k := ?_)
  (repeat' (first | intro (b : Nat) | refine go ?_ | (refine br ?_ ?_ <;> first | exact trivial | intro hq)))
  exact rett rfl

/-- The cells of a period. -/
abbrev c6 (v : P6) : List Value := [.int .i64 v.a, .int .i64 v.b, .int .i64 v.c, .int .i64 v.d, .int .i64 v.e, .int .i64 v.f]
abbrev perB (v : P6) : Blk := .cells 73 (c6 v)
theorem c6_set {j : Nat} (h : j < 6) (v : P6) (n : Int) : (c6 v).set j (.int .i64 n) = c6 (v.set j n) := by
  rcases (by omega : j = 0 ∨ j = 1 ∨ j = 2 ∨ j = 3 ∨ j = 4 ∨ j = 5) with rfl | rfl | rfl | rfl | rfl | rfl <;> rfl
theorem c6_wr {j : Nat} (h : j < 6) (v : P6) (n : Int) : Wr j [.int .i64 n] (c6 v) (c6 (v.set j n)) := by
  rw [← c6_set h v n]
  exact wr_sety _ _ _ h
def ltr : Nat → Int
  | 0 => 89
  | 1 => 77
  | 2 => 68
  | 3 => 72
  | 4 => 77
  | _ => 83
def tmd (j : Nat) : Bool := decide (3 ≤ j)
/-- The parts that wait, from number j on. -/
abbrev wV (bw j : Nat) : Value := .slice (some ⟨bw, 3 * min j 5, none⟩) (6 - j) (6 - j)
theorem parts_at {j : Nat} (h : j < 6) (p : Nat) : (partsV p)[3 * min j 5 + (0 : Int).toNat * 3 + 0]? = some (.int .u8 (ltr j)) ∧ (partsV p)[3 * min j 5 + (0 : Int).toNat * 3 + 1]? = some (.bool (tmd j)) ∧ (partsV p)[3 * min j 5 + (0 : Int).toNat * 3 + 2]? = some (.pointer (some ⟨p, j, none⟩)) := by
  rcases (by omega : j = 0 ∨ j = 1 ∨ j = 2 ∨ j = 3 ∨ j = 4 ∨ j = 5) with rfl | rfl | rfl | rfl | rfl | rfl <;> exact ⟨rfl, rfl, rfl⟩
theorem wV_next {bw j : Nat} (h : j < 6) : Value.slice (some ⟨bw, if 6 - j = (1 : Int).toNat then 3 * min j 5 else 3 * min j 5 + (1 : Int).toNat * 3, none⟩) (6 - j - (1 : Int).toNat) (6 - j - (1 : Int).toNat) = wV bw (j + 1) := by
  rcases (by omega : j = 0 ∨ j = 1 ∨ j = 2 ∨ j = 3 ∨ j = 4 ∨ j = 5) with rfl | rfl | rfl | rfl | rfl | rfl <;> rfl
theorem letN_of {c : Int} {t : Bool} {j : Nat} (h : j < 6) (h1 : ltr j = c) (h2 : tmd j = t) : letN c t = j := by
  subst h1
  subst h2
  rcases (by omega : j = 0 ∨ j = 1 ∨ j = 2 ∨ j = 3 ∨ j = 4 ∨ j = 5) with rfl | rfl | rfl | rfl | rfl | rfl <;> decide
theorem letN_lt {c : Int} {t : Bool} {k0 : Nat} (h : ∀ i, k0 ≤ i → i < 6 → ¬ (ltr i = c ∧ tmd i = t)) : letN c t ≤ (k0 : Int) - 1 := by
  have key : ∀ i, i < 6 → ltr i = c → tmd i = t → i < k0 := fun i h6 h1 h2 => by
    rcases Nat.lt_or_ge i k0 with hh | hh
    · exact hh
    · exact (h i hh h6 ⟨h1, h2⟩).elim
  unfold letN
  cases t with
  | true =>
    simp only [if_true]
    split
    · have := key 3 (by omega) (by simp only [ltr]; omega) rfl; omega
    · split
      · have := key 4 (by omega) (by simp only [ltr]; omega) rfl; omega
      · split
        · have := key 5 (by omega) (by simp only [ltr]; omega) rfl; omega
        · omega
  | false =>
    simp only [Bool.false_eq_true, if_false]
    split
    · have := key 0 (by omega) (by simp only [ltr]; omega) rfl; omega
    · split
      · have := key 1 (by omega) (by simp only [ltr]; omega) rfl; omega
      · split
        · have := key 2 (by omega) (by simp only [ltr]; omega) rfl; omega
        · omega

/-- What the program's reader of a period yields: a period and whether it is one; with what it has read up to. -/
def PerOk (s : ByteArray) (pos : Nat) (v : P6) (ok : Bool) : Prop := if ok = true ∧ pos = s.size then perP s = some v else perP s = none
def PerR (w0 : World) (r : Nat) (s : ByteArray) (F : SH) (v : Value) (H : SH) : Prop := ∃ (pos : Nat) (x : P6) (ok : Bool), v = .tuple #[.agg (c6 x).toArray, .bool ok] ∧ H = (r, rdB s (pos : Int)) :: F ∧ PerOk s pos x ok

theorem a_period_0 (w0 : World) (F : SH) (r : Nat) (s : ByteArray) (hs : s.size ≤ 1000000000000) (h0 : isB s 0 80 = false) (w : World) (hst : St w0 ((r, rdB s 0) :: F) w) :
    Calls Tryz.prog 165 #[.pointer (some ⟨r, 0, none⟩)] w (TurnsR w0 (PerR w0 r s F)) := by
  refine enterl Tryz.func165 rfl Tryz.ntmps165 rfl hst ?_
  (repeat' (first | intro (b : Nat) | refine go ?_ | (refine br ?_ ?_ <;> first | exact trivial | intro hq)))
  refine L.tcall (h := by intro W hW; exact a_take_no _ _ _ _ 0 _ hs (Nat.zero_le _) h0 W hW) (k := ?_)
  (repeat' (first | intro (b : Nat) | refine go ?_ | (refine br ?_ ?_ <;> first | exact trivial | intro hq)))
  refine rettR _ ⟨0, P6.zero, false, rfl, rfl, ?_⟩
  unfold PerOk perP
  rw [if_neg (by simp), if_pos h0]

theorem a_period_w (w0 : World) (F : SH) (r : Nat) (s : ByteArray) (hs : s.size ≤ 1000000000000) (h0 : isB s 0 80 = true) (hw : isWeeks s = true) (w : World) (hst : St w0 ((r, rdB s 0) :: F) w) :
    Calls Tryz.prog 165 #[.pointer (some ⟨r, 0, none⟩)] w (TurnsR w0 (PerR w0 r s F)) := by
  have h1 := (isB_iff.1 h0).1
  have hw' := hw
  simp only [isWeeks, Bool.and_eq_true, decide_eq_true_eq] at hw'
  have hn := numL_4 (s := s) (q := 1) rfl hw'.1.2
  refine enterl Tryz.func165 rfl Tryz.ntmps165 rfl hst ?_
  (repeat' (first | intro (b : Nat) | refine go ?_ | (refine br ?_ ?_ <;> first | exact trivial | intro hq)))
  refine L.tcall (h := by intro W hW; exact a_take_yes _ _ _ _ 0 _ hs h0 W hW) (k := ?_)
  (repeat' (first | intro (b : Nat) | refine go ?_ | (refine br ?_ ?_ <;> first | exact trivial | intro hq)))
  refine L.tcall (h := by intro W hW; exact a_few_yes _ _ _ _ 1 hs (by omega) hw'.1 W hW) (k := ?_)
  (repeat' (first | intro (b : Nat) | refine go ?_ | (refine br ?_ ?_ <;> first | exact trivial | intro hq)))
  refine L.tcall (h := by intro W hW; exact a_take_yes _ _ _ _ (1 + runN s 1) _ hs hw'.2 W hW) (k := ?_)
  (repeat' (first | intro (b : Nat) | refine go ?_ | (refine br ?_ ?_ <;> first | exact trivial | intro hq)))
  rename_i bp
  ((repeat (refine C.seq ?_)); apply C.drawsw 4 bp (.cells 73 [.int .i64 0, .int .i64 0, .int .i64 0, .int .i64 0, .int .i64 0, .int .i64 0]) 5 [some _, none, some _, none, some _])
  (repeat (first | intro (b : Nat) | refine gg ?_))
  (first | (apply G.stk; exact rfl; exact rfl; exact rfl; exact rfl; exact rfl; exact rfl; exact rfl; (· (repeat (first | exact Wr.nil | apply Wr.put | apply Wr.skip)))) | (apply G.st1; exact rfl; exact rfl; exact rfl; exact rfl; exact rfl; exact rfl; (· (repeat (first | exact Wr.nil | apply Wr.put | apply Wr.skip)))))
  (repeat (first | intro (b : Nat) | refine gg ?_))
  (repeat (first | intro (b : Nat) | refine go ?_))
  refine rettR _ ⟨1 + runN s 1 + 1, { P6.zero with c := 7 * numL s 1 (runN s 1) }, decide (7 * numL s 1 (runN s 1) ≤ 9999), rfl, rfl, ?_⟩
  unfold PerOk perP
  have e : (if isB s 0 80 = false then none else if isWeeks s = true then weeksOf s else pfP s s.size 1 (-1) false false false P6.zero) = weeksOf s := by
    rw [if_neg (by simp [h0]), if_pos hw]
  rw [e]
  unfold weeksOf
  by_cases h9 : 7 * numL s 1 (runN s 1) ≤ 9999
  · by_cases hz : 1 + runN s 1 + 1 = s.size
    · rw [if_pos ⟨by simp [h9], hz⟩, if_pos ⟨hz, h9⟩]
    · rw [if_neg (by simp [hz]), if_neg (by simp [hz])]
  · rw [if_neg (by simp [h9]), if_neg (by simp [h9])]

theorem pfP_end {s : ByteArray} {p : Nat} {last : Int} {t any op : Bool} {v : P6} (g : Nat) (h : s.size ≤ p) : pfP s (g + 1) p last t any op v = if any = true ∧ op = false then some v else none := by
  rw [pfP, if_pos h]
theorem pfP_T {s : ByteArray} {p : Nat} {last : Int} {any op : Bool} {v : P6} (g : Nat) (h : isB s p 84 = true) : pfP s (g + 1) p last false any op v = pfP s g (p + 1) last true any true v := by
  have := (isB_iff.1 h).1
  rw [pfP, if_neg (by omega), if_pos ⟨rfl, h⟩]
theorem pfP_bad {s : ByteArray} {p : Nat} {last : Int} {t any op : Bool} {v : P6} (g : Nat) (hp : p < s.size) (hT : ¬ (t = false ∧ isB s p 84 = true)) (h : ¬ (1 ≤ runN s p ∧ runN s p ≤ 4 ∧ p + runN s p < s.size)) : pfP s (g + 1) p last t any op v = none := by
  rw [pfP, if_neg (by omega), if_neg hT]
  simp only
  rw [if_neg h]
theorem pfP_let {s : ByteArray} {p : Nat} {last : Int} {t any op : Bool} {v : P6} (g : Nat) (hp : p < s.size) (hT : ¬ (t = false ∧ isB s p 84 = true)) (h : 1 ≤ runN s p ∧ runN s p ≤ 4 ∧ p + runN s p < s.size) :
    pfP s (g + 1) p last t any op v = if letN (bt s (p + runN s p)) t ≤ last then none else pfP s g (p + runN s p + 1) (letN (bt s (p + runN s p)) t) t true false (v.set (letN (bt s (p + runN s p)) t) (numL s p (runN s p))) := by
  rw [pfP, if_neg (by omega), if_neg hT]
  simp only
  rw [if_pos h]

/-- Where the reader of a period stands. -/
structure PSt where
  pos : Nat
  k0 : Nat
  t : Bool
  any : Bool
  op : Bool
  v : P6

theorem a_period_p (w0 : World) (F : SH) (r : Nat) (s : ByteArray) (hs : s.size ≤ 1000000000000) (h0 : isB s 0 80 = true) (hw : isWeeks s = false) (w : World) (hst : St w0 ((r, rdB s 0) :: F) w) :
    Calls Tryz.prog 165 #[.pointer (some ⟨r, 0, none⟩)] w (TurnsR w0 (PerR w0 r s F)) := by
  have h1 := (isB_iff.1 h0).1
  have hT : perP s = pfP s s.size 1 (-1) false false false P6.zero := by
    unfold perP
    rw [if_neg (by simp [h0]), if_neg (by simp [hw])]
  generalize hTg : pfP s s.size 1 (-1) false false false P6.zero = Tg at hT
  refine enterl Tryz.func165 rfl Tryz.ntmps165 rfl hst ?_
  (repeat' (first | intro (b : Nat) | refine go ?_ | (refine br ?_ ?_ <;> first | exact trivial | intro hq)))
  rename_i b1
  revert b
  intro bp
  refine L.tcall (h := by intro W hW; exact a_take_yes _ _ _ _ 0 _ hs h0 W hW) (k := ?_)
  (repeat' (first | intro (b : Nat) | refine go ?_ | (refine br ?_ ?_ <;> first | exact trivial | intro hq)))
  by_cases hf : 1 ≤ runN s 1 ∧ runN s 1 ≤ 4
  case' pos =>
    have hB : isB s (1 + runN s 1) 87 = false := by simpa [isWeeks, hf] using hw
    refine L.tcall (h := by intro W hW; exact a_few_yes _ _ _ _ 1 hs (by omega) hf W hW) (k := ?_)
    (repeat' (first | intro (b : Nat) | refine go ?_ | (refine br ?_ ?_ <;> first | exact trivial | intro hq)))
    refine L.tcall (h := by intro W hW; exact a_take_no _ _ _ _ (1 + runN s 1) _ hs (runN_le (by omega)) hB W hW) (k := ?_)
    (repeat' (first | intro (b : Nat) | refine go ?_ | (refine br ?_ ?_ <;> first | exact trivial | intro hq)))
  case' neg =>
    refine L.tcall (h := by intro W hW; exact a_few_no _ _ _ _ 1 hs (by omega) hf W hW) (k := ?_)
    (repeat' (first | intro (b : Nat) | refine go ?_ | (refine br ?_ ?_ <;> first | exact trivial | intro hq)))
  all_goals
    (refine L.slcall (h := by intro W hW; exact a_parts bp W hW.base) (k := ?_); intro b)
    (repeat' (first | intro (b : Nat) | refine go ?_ | (refine br ?_ ?_ <;> first | exact trivial | intro hq)))
    refine C.permy (List.Perm.swap _ _ _) ?_
    refine C.loopw (Y := PSt) (fun k => [(0, .pointer (some ⟨r, 0, none⟩)), (2, .pointer (some ⟨b1, 0, none⟩)), (3, .bool false), (4, .pointer (some ⟨bp, 0, none⟩)), (8, wV b k.k0), (9, .bool k.t), (10, .bool k.any), (11, .bool k.op)]) (fun k => (r, rdB s (k.pos : Int)) :: (b, .cells 146 (partsV bp)) :: (bp, perB k.v) :: (b1, perB P6.zero) :: F) (fun k => k.pos ≤ s.size ∧ k.k0 ≤ 6 ∧ ∃ g, s.size < k.pos + g ∧ pfP s g k.pos ((k.k0 : Int) - 1) k.t k.any k.op k.v = Tg) (fun k => s.size - k.pos) ⟨1, 0, false, false, false, P6.zero⟩ ⟨h1, Nat.zero_le _, s.size, by show s.size < 1 + s.size; omega, hTg⟩ (fun k hy => ?_)
    obtain ⟨pos, k0, t, any, op, v⟩ := k
    obtain ⟨hp, hk, g, hg, hpf⟩ := hy
    simp only at hp hk hg hpf
    obtain ⟨g, rfl⟩ : ∃ g', g = g' + 1 := ⟨g - 1, by omega⟩
    by_cases hd : pos = s.size
    · have hdv : decide ((pos : Int) = s.size) = true := decide_eq_true (by omega)
      rw [pfP_end g (by omega)] at hpf
      cases any <;> cases op
      all_goals
        (repeat' (first | intro (b : Nat) | refine go ?_ | (refine br ?_ ?_ <;> first | exact trivial | intro hq) | refine L.call (h := by intro W hW; apply rvb hdv (a_done r s pos W (hW.cell (List.Mem.head _) rfl) (hW.cell (List.Mem.head _) rfl) hW.base)) (k := ?_)))
        refine rettR _ ⟨pos, v, _, rfl, rfl, ?_⟩
        unfold PerOk
        rw [hT, ← hpf]
        simp [hd]
    · have hlt : pos < s.size := by omega
      have hdv : decide ((pos : Int) = s.size) = false := decide_eq_false (by omega)
      by_cases hTT : t = false ∧ isB s pos 84 = true
      · obtain ⟨rfl, hB⟩ := hTT
        rw [pfP_T g hB] at hpf
        (repeat' (first | intro (b : Nat) | refine go ?_ | (refine br ?_ ?_ <;> first | exact trivial | intro hq) | refine L.call (h := by intro W hW; apply rvb hdv (a_done r s pos W (hW.cell (List.Mem.head _) rfl) (hW.cell (List.Mem.head _) rfl) hW.base)) (k := ?_)))
        refine L.tcall (h := by intro W hW; exact a_take_yes _ _ _ _ pos _ hs hB W hW) (k := ?_)
        (repeat' (first | intro (b : Nat) | refine go ?_ | (refine br ?_ ?_ <;> first | exact trivial | intro hq)))
        refine X.roundw (⟨pos + 1, k0, true, any, true, v⟩) (⟨by show pos + 1 ≤ s.size; omega, hk, g, by show s.size < pos + 1 + g; omega, hpf⟩) (by show s.size - (pos + 1) < s.size - pos; omega)
      · cases t
        case' false =>
          have hB : isB s pos 84 = false := bool_no fun h => hTT ⟨rfl, h⟩
          (repeat' (first | intro (b : Nat) | refine go ?_ | (refine br ?_ ?_ <;> first | exact trivial | intro hq) | refine L.call (h := by intro W hW; apply rvb hdv (a_done r s pos W (hW.cell (List.Mem.head _) rfl) (hW.cell (List.Mem.head _) rfl) hW.base)) (k := ?_)))
          refine L.tcall (h := by intro W hW; exact a_take_no _ _ _ _ pos _ hs hp hB W hW) (k := ?_)
          (repeat' (first | intro (b : Nat) | refine go ?_ | (refine br ?_ ?_ <;> first | exact trivial | intro hq)))
          by_cases hm : 1 ≤ runN s pos ∧ runN s pos ≤ 4
          · by_cases he : pos + runN s pos = s.size
            · have hdv2 : decide ((pos : Int) + (runN s pos : Int) = s.size) = true := decide_eq_true (by omega)
              rw [pfP_bad g hlt hTT (by omega)] at hpf
              refine L.tcall (h := by intro W hW; exact a_few_yes _ _ _ _ pos hs hp hm W hW) (k := ?_)
              (repeat' (first | intro (b : Nat) | refine go ?_ | (refine br ?_ ?_ <;> first | exact trivial | intro hq) | refine L.call (h := by intro W hW; apply rvb hdv2 (a_done r s _ W (hW.cell (List.Mem.head _) rfl) (hW.cell (List.Mem.head _) rfl) hW.base)) (k := ?_)))
              refine rettR _ ⟨pos + runN s pos, P6.zero, false, rfl, rfl, ?_⟩
              unfold PerOk
              rw [hT, ← hpf]
              simp
            · have hrl := runN_le hp
              have hdv2 : decide ((pos : Int) + (runN s pos : Int) = s.size) = false := decide_eq_false (by omega)
              have e1 : ((pos : Int) + (runN s pos : Int)).toNat = pos + runN s pos := by omega
              rw [pfP_let g hlt hTT ⟨hm.1, hm.2, by omega⟩, ← e1] at hpf
              refine L.tcall (h := by intro W hW; exact a_few_yes _ _ _ _ pos hs hp hm W hW) (k := ?_)
              (repeat' (first | intro (b : Nat) | refine go ?_ | (refine br ?_ ?_ <;> first | exact trivial | intro hq) | refine L.call (h := by intro W hW; apply rvb hdv2 (a_done r s _ W (hW.cell (List.Mem.head _) rfl) (hW.cell (List.Mem.head _) rfl) hW.base)) (k := ?_)))
              ((repeat (refine C.seq ?_)); apply C.draww 10 [none, none, none, some _, none, none, none, some _, none, none])
              (repeat (first | intro (b : Nat) | refine gg ?_))
              (repeat (first | intro (b : Nat) | refine go ?_))
              generalize hcc : bt s ((pos : Int) + (runN s pos : Int)).toNat = c at hpf ⊢
              rw [e1] at hpf
              refine C.loopw (Y := Nat) (fun k => [(0, .pointer (some ⟨r, 0, none⟩)), (2, .pointer (some ⟨b1, 0, none⟩)), (3, .bool false), (4, .pointer (some ⟨bp, 0, none⟩)), (8, wV b k), (9, .bool false), (10, .bool any), (11, .bool op), (12, .int .i64 (numL s pos (runN s pos))), (14, .int .u8 c)]) (fun k => (r, rdB s ((pos : Int) + (runN s pos : Int))) :: (b, .cells 146 (partsV bp)) :: (bp, perB v) :: (b1, perB P6.zero) :: F) (fun k => k0 ≤ k ∧ k ≤ 6 ∧ ∀ i, k0 ≤ i → i < k → ¬ (ltr i = c ∧ tmd i = false)) (fun k => 6 - k) k0 ⟨Nat.le_refl _, hk, fun i a b => by omega⟩ (fun k hy => ?_)
              obtain ⟨hk0, hk6, hno⟩ := hy
              by_cases hj : k < 6
              · obtain ⟨hc1, hc2, hc3⟩ := parts_at hj bp
                by_cases hL1 : ltr k = c
                · by_cases hL2 : tmd k = false
                  · rw [hL2] at hc2
                    subst hL1
                    rw [letN_of hj rfl hL2, if_neg (by omega)] at hpf
                    have hb1 : numL s pos (runN s pos) = numL s pos (runN s pos) := rfl
                    (repeat' (first | intro (b : Nat) | refine go ?_ | (refine br ?_ ?_ <;> first | exact trivial | intro hq)))
                    refine L.s rfl rfl (OS.store1 rfl rfl rfl (by (repeat (first | exact Upd.here | apply Upd.there))) (c6_wr hj v _)) ?_
                    (repeat' (first | intro (b : Nat) | refine go ?_ | (refine br ?_ ?_ <;> first | exact trivial | intro hq)))
                    refine L.p (v := wV b (k + 1)) rfl rfl (by rw [← wV_next hj]; exact PV.sll rfl rfl (by omega) (by omega) (by omega)) ?_
                    (repeat' (first | intro (b : Nat) | refine go ?_ | (refine br ?_ ?_ <;> first | exact trivial | intro hq)))
                    refine X.roundw (⟨pos + runN s pos + 1, k + 1, false, true, false, v.set k (numL s pos (runN s pos))⟩) (⟨by show pos + runN s pos + 1 ≤ s.size; omega, hj, g, by show s.size < pos + runN s pos + 1 + g; omega, by rw [← hpf]; show pfP s g _ (((k + 1 : Nat) : Int) - 1) _ _ _ _ = _; rw [show ((k + 1 : Nat) : Int) - 1 = k by omega]⟩) (by show s.size - (pos + runN s pos + 1) < s.size - pos; omega)
                  · have hb : tmd k = !false := by cases h : tmd k <;> simp_all
                    rw [hb] at hc2
                    subst hL1
                    (repeat' (first | intro (b : Nat) | refine go ?_ | (refine br ?_ ?_ <;> first | exact trivial | intro hq)))
                    refine L.p (v := wV b (k + 1)) rfl rfl (by rw [← wV_next hj]; exact PV.sll rfl rfl (by omega) (by omega) (by omega)) ?_
                    (repeat' (first | intro (b : Nat) | refine go ?_ | (refine br ?_ ?_ <;> first | exact trivial | intro hq)))
                    refine X.roundw (k + 1) (⟨by omega, by omega, fun i a b' => by
                      by_cases hik : i = k
                      · subst hik; exact fun h => hL2 h.2
                      · exact hno i a (by omega)⟩) (by omega)
                · (repeat' (first | intro (b : Nat) | refine go ?_ | (refine br ?_ ?_ <;> first | exact trivial | intro hq)))
                  refine L.p (v := wV b (k + 1)) rfl rfl (by rw [← wV_next hj]; exact PV.sll rfl rfl (by omega) (by omega) (by omega)) ?_
                  (repeat' (first | intro (b : Nat) | refine go ?_ | (refine br ?_ ?_ <;> first | exact trivial | intro hq)))
                  refine X.roundw (k + 1) (⟨by omega, by omega, fun i a b' => by
                    by_cases hik : i = k
                    · subst hik; exact fun h => hL1 h.1
                    · exact hno i a (by omega)⟩) (by omega)
              · obtain rfl : k = 6 := by omega
                rw [if_pos (letN_lt hno)] at hpf
                (repeat' (first | intro (b : Nat) | refine go ?_ | (refine br ?_ ?_ <;> first | exact trivial | intro hq)))
                refine rettR _ ⟨pos + runN s pos, P6.zero, false, rfl, rfl, ?_⟩
                unfold PerOk
                rw [hT, ← hpf]
                simp
          · rw [pfP_bad g hlt hTT (by omega)] at hpf
            refine L.tcall (h := by intro W hW; exact a_few_no _ _ _ _ pos hs hp hm W hW) (k := ?_)
            (repeat' (first | intro (b : Nat) | refine go ?_ | (refine br ?_ ?_ <;> first | exact trivial | intro hq)))
            refine rettR _ ⟨pos, P6.zero, false, rfl, rfl, ?_⟩
            unfold PerOk
            rw [hT, ← hpf]
            simp
        case' true =>
          (repeat' (first | intro (b : Nat) | refine go ?_ | (refine br ?_ ?_ <;> first | exact trivial | intro hq) | refine L.call (h := by intro W hW; apply rvb hdv (a_done r s pos W (hW.cell (List.Mem.head _) rfl) (hW.cell (List.Mem.head _) rfl) hW.base)) (k := ?_)))
          by_cases hm : 1 ≤ runN s pos ∧ runN s pos ≤ 4
          · by_cases he : pos + runN s pos = s.size
            · have hdv2 : decide ((pos : Int) + (runN s pos : Int) = s.size) = true := decide_eq_true (by omega)
              rw [pfP_bad g hlt hTT (by omega)] at hpf
              refine L.tcall (h := by intro W hW; exact a_few_yes _ _ _ _ pos hs hp hm W hW) (k := ?_)
              (repeat' (first | intro (b : Nat) | refine go ?_ | (refine br ?_ ?_ <;> first | exact trivial | intro hq) | refine L.call (h := by intro W hW; apply rvb hdv2 (a_done r s _ W (hW.cell (List.Mem.head _) rfl) (hW.cell (List.Mem.head _) rfl) hW.base)) (k := ?_)))
              refine rettR _ ⟨pos + runN s pos, P6.zero, false, rfl, rfl, ?_⟩
              unfold PerOk
              rw [hT, ← hpf]
              simp
            · have hrl := runN_le hp
              have hdv2 : decide ((pos : Int) + (runN s pos : Int) = s.size) = false := decide_eq_false (by omega)
              have e1 : ((pos : Int) + (runN s pos : Int)).toNat = pos + runN s pos := by omega
              rw [pfP_let g hlt hTT ⟨hm.1, hm.2, by omega⟩, ← e1] at hpf
              refine L.tcall (h := by intro W hW; exact a_few_yes _ _ _ _ pos hs hp hm W hW) (k := ?_)
              (repeat' (first | intro (b : Nat) | refine go ?_ | (refine br ?_ ?_ <;> first | exact trivial | intro hq) | refine L.call (h := by intro W hW; apply rvb hdv2 (a_done r s _ W (hW.cell (List.Mem.head _) rfl) (hW.cell (List.Mem.head _) rfl) hW.base)) (k := ?_)))
              ((repeat (refine C.seq ?_)); apply C.draww 10 [none, none, none, some _, none, none, none, some _, none, none])
              (repeat (first | intro (b : Nat) | refine gg ?_))
              (repeat (first | intro (b : Nat) | refine go ?_))
              generalize hcc : bt s ((pos : Int) + (runN s pos : Int)).toNat = c at hpf ⊢
              rw [e1] at hpf
              refine C.loopw (Y := Nat) (fun k => [(0, .pointer (some ⟨r, 0, none⟩)), (2, .pointer (some ⟨b1, 0, none⟩)), (3, .bool false), (4, .pointer (some ⟨bp, 0, none⟩)), (8, wV b k), (9, .bool true), (10, .bool any), (11, .bool op), (12, .int .i64 (numL s pos (runN s pos))), (14, .int .u8 c)]) (fun k => (r, rdB s ((pos : Int) + (runN s pos : Int))) :: (b, .cells 146 (partsV bp)) :: (bp, perB v) :: (b1, perB P6.zero) :: F) (fun k => k0 ≤ k ∧ k ≤ 6 ∧ ∀ i, k0 ≤ i → i < k → ¬ (ltr i = c ∧ tmd i = true)) (fun k => 6 - k) k0 ⟨Nat.le_refl _, hk, fun i a b => by omega⟩ (fun k hy => ?_)
              obtain ⟨hk0, hk6, hno⟩ := hy
              by_cases hj : k < 6
              · obtain ⟨hc1, hc2, hc3⟩ := parts_at hj bp
                by_cases hL1 : ltr k = c
                · by_cases hL2 : tmd k = true
                  · rw [hL2] at hc2
                    subst hL1
                    rw [letN_of hj rfl hL2, if_neg (by omega)] at hpf
                    have hb1 : numL s pos (runN s pos) = numL s pos (runN s pos) := rfl
                    (repeat' (first | intro (b : Nat) | refine go ?_ | (refine br ?_ ?_ <;> first | exact trivial | intro hq)))
                    refine L.s rfl rfl (OS.store1 rfl rfl rfl (by (repeat (first | exact Upd.here | apply Upd.there))) (c6_wr hj v _)) ?_
                    (repeat' (first | intro (b : Nat) | refine go ?_ | (refine br ?_ ?_ <;> first | exact trivial | intro hq)))
                    refine L.p (v := wV b (k + 1)) rfl rfl (by rw [← wV_next hj]; exact PV.sll rfl rfl (by omega) (by omega) (by omega)) ?_
                    (repeat' (first | intro (b : Nat) | refine go ?_ | (refine br ?_ ?_ <;> first | exact trivial | intro hq)))
                    refine X.roundw (⟨pos + runN s pos + 1, k + 1, true, true, false, v.set k (numL s pos (runN s pos))⟩) (⟨by show pos + runN s pos + 1 ≤ s.size; omega, hj, g, by show s.size < pos + runN s pos + 1 + g; omega, by rw [← hpf]; show pfP s g _ (((k + 1 : Nat) : Int) - 1) _ _ _ _ = _; rw [show ((k + 1 : Nat) : Int) - 1 = k by omega]⟩) (by show s.size - (pos + runN s pos + 1) < s.size - pos; omega)
                  · have hb : tmd k = !true := by cases h : tmd k <;> simp_all
                    rw [hb] at hc2
                    subst hL1
                    (repeat' (first | intro (b : Nat) | refine go ?_ | (refine br ?_ ?_ <;> first | exact trivial | intro hq)))
                    refine L.p (v := wV b (k + 1)) rfl rfl (by rw [← wV_next hj]; exact PV.sll rfl rfl (by omega) (by omega) (by omega)) ?_
                    (repeat' (first | intro (b : Nat) | refine go ?_ | (refine br ?_ ?_ <;> first | exact trivial | intro hq)))
                    refine X.roundw (k + 1) (⟨by omega, by omega, fun i a b' => by
                      by_cases hik : i = k
                      · subst hik; exact fun h => hL2 h.2
                      · exact hno i a (by omega)⟩) (by omega)
                · (repeat' (first | intro (b : Nat) | refine go ?_ | (refine br ?_ ?_ <;> first | exact trivial | intro hq)))
                  refine L.p (v := wV b (k + 1)) rfl rfl (by rw [← wV_next hj]; exact PV.sll rfl rfl (by omega) (by omega) (by omega)) ?_
                  (repeat' (first | intro (b : Nat) | refine go ?_ | (refine br ?_ ?_ <;> first | exact trivial | intro hq)))
                  refine X.roundw (k + 1) (⟨by omega, by omega, fun i a b' => by
                    by_cases hik : i = k
                    · subst hik; exact fun h => hL1 h.1
                    · exact hno i a (by omega)⟩) (by omega)
              · obtain rfl : k = 6 := by omega
                rw [if_pos (letN_lt hno)] at hpf
                (repeat' (first | intro (b : Nat) | refine go ?_ | (refine br ?_ ?_ <;> first | exact trivial | intro hq)))
                refine rettR _ ⟨pos + runN s pos, P6.zero, false, rfl, rfl, ?_⟩
                unfold PerOk
                rw [hT, ← hpf]
                simp
          · rw [pfP_bad g hlt hTT (by omega)] at hpf
            refine L.tcall (h := by intro W hW; exact a_few_no _ _ _ _ pos hs hp hm W hW) (k := ?_)
            (repeat' (first | intro (b : Nat) | refine go ?_ | (refine br ?_ ?_ <;> first | exact trivial | intro hq)))
            refine rettR _ ⟨pos, P6.zero, false, rfl, rfl, ?_⟩
            unfold PerOk
            rw [hT, ← hpf]
            simp

end D
end Go.Proofs.YtboglbdhibcacaaGreatDoor

namespace Go.Proofs.YtboglbdhibcacaaGreatDoor
set_option linter.unusedVariables false
set_option linter.unusedSimpArgs false
set_option maxRecDepth 100000
set_option maxHeartbeats 1000000
namespace D
open Go.RowKit
open Go.PlainAid (bt bt_nonneg bt_le bt_end)
attribute [local irreducible] Calls

theorem a_period (w0 : World) (F : SH) (r : Nat) (s : ByteArray) (hs : s.size ≤ 1000000000000) (w : World) (hst : St w0 ((r, rdB s 0) :: F) w) :
    Calls Tryz.prog 165 #[.pointer (some ⟨r, 0, none⟩)] w (TurnsR w0 (PerR w0 r s F)) := by
  cases h0 : isB s 0 80 with
  | false => exact a_period_0 w0 F r s hs h0 w hst
  | true =>
    cases hw : isWeeks s with
    | false => exact a_period_p w0 F r s hs h0 hw w hst
    | true => exact a_period_w w0 F r s hs h0 hw w hst

/-- A period that is read, as a value. -/
def perT : Option P6 → Value
  | some v => .tuple #[.agg (c6 v).toArray, .bool true]
  | none => .tuple #[.agg (c6 P6.zero).toArray, .bool false]

theorem a_PeriodFrom (s : ByteArray) (hs : s.size ≤ 1000000000000) (w : World) (hb : D.Base w) : Calls Tryz.prog 107 #[.string s] w fun e w' => e = .returned (perT (perR s)) ∧ Below w.heap.size w w' := by
  rw [← per_eq]
  refine enter Tryz.func107 rfl Tryz.ntmps107 rfl (by assumption) ?_
  (repeat (first | intro (b : Nat) | refine go ?_))
  rename_i b1
  revert b
  intro rb
  (refine L.tcallR rb (h := by intro W hW; exact a_period _ _ rb s hs W hW) (k := ?_); intro v H hR)
  obtain ⟨pos, x, ok, rfl, rfl, hok⟩ := hR
  unfold PerOk at hok
  cases ok
  · rw [if_neg (by simp)] at hok
    (repeat' (first | intro (b : Nat) | refine go ?_ | (refine br ?_ ?_ <;> first | exact trivial | intro hq)))
    (refine ret ?_)
    rw [hok]; rfl
  · by_cases hp : pos = s.size
    · have hdv : decide ((pos : Int) = s.size) = true := decide_eq_true (by omega)
      rw [if_pos ⟨rfl, hp⟩] at hok
      (repeat' (first | intro (b : Nat) | refine go ?_ | (refine br ?_ ?_ <;> first | exact trivial | intro hq) | refine L.call (h := by intro W hW; apply rvb hdv (a_done rb s pos W (hW.cell (.tail _ (List.Mem.head _)) rfl) (hW.cell (.tail _ (List.Mem.head _)) rfl) hW.base)) (k := ?_)))
      (refine ret ?_)
      rw [hok]; rfl
    · have hdv : decide ((pos : Int) = s.size) = false := decide_eq_false (by omega)
      rw [if_neg (by simp [hp])] at hok
      (repeat' (first | intro (b : Nat) | refine go ?_ | (refine br ?_ ?_ <;> first | exact trivial | intro hq) | refine L.call (h := by intro W hW; apply rvb hdv (a_done rb s pos W (hW.cell (.tail _ (List.Mem.head _)) rfl) (hW.cell (.tail _ (List.Mem.head _)) rfl) hW.base)) (k := ?_)))
      (refine ret ?_)
      rw [hok]; rfl

end D
end Go.Proofs.YtboglbdhibcacaaGreatDoor

namespace Go.Proofs.YtboglbdhibcacaaGreatDoor
set_option linter.unusedVariables false
set_option linter.unusedSimpArgs false
set_option maxRecDepth 100000
set_option maxHeartbeats 1000000
namespace D
open Go.RowKit
open Go.PlainAid (bt bt_nonneg bt_le bt_end)
attribute [local irreducible] Calls

/-- The one slash of a text. -/
def oneSl (s : ByteArray) (j : Nat) : Prop := j < s.size ∧ bt s j = 47 ∧ ∀ i, i < s.size → bt s i = 47 → i = j
/-- A slash of a text. -/
def isSl (s : ByteArray) (j : Nat) : Prop := j < s.size ∧ bt s j = 47

theorem get_sl {s : ByteArray} {i : Nat} (h : i < s.size) : (s[i]! == (47 : Int).toNat.toUInt8) = true ↔ bt s i = 47 := by
  have e : s[i]! = s[i]'h := by simp [getElem!_def, h]
  rw [e, ← Go.PlainAid.get_bt s i h, beq_iff_eq]
  constructor
  · intro hh; rw [hh]; rfl
  · intro hh
    apply UInt8.toNat_inj.1
    have : (47 : Int).toNat.toUInt8.toNat = 47 := rfl
    omega

theorem firstIdx_sl (s : ByteArray) : (∃ j, isSl s j ∧ firstIdx s (47 : Int).toNat.toUInt8 = (j : Int)) ∨ ((∀ j, ¬ isSl s j) ∧ firstIdx s (47 : Int).toNat.toUInt8 = -1) := by
  unfold firstIdx
  cases hf : (List.range s.size).find? fun i => s[i]! == (47 : Int).toNat.toUInt8 with
  | some i =>
    have h1 := List.find?_some hf
    have h2 := List.mem_range.1 (List.mem_of_find?_eq_some hf)
    exact .inl ⟨i, ⟨h2, (get_sl h2).1 h1⟩, rfl⟩
  | none =>
    have h1 := List.find?_eq_none.1 hf
    refine .inr ⟨fun j hj => ?_, rfl⟩
    exact h1 j (List.mem_range.2 hj.1) ((get_sl hj.1).2 hj.2)

/-- What the program cuts. -/
def CutP (s : ByteArray) (v : Value) : Prop := (∃ j, isSl s j ∧ v = .tuple #[.string (s.extract 0 j), .string (s.extract (j + 1) s.size), .bool true]) ∨ ((∀ j, ¬ isSl s j) ∧ v = .tuple #[.string s, .string ⟨#[]⟩, .bool false])
/-- What the reference cuts. -/
def CutR (s : ByteArray) (v : Value) : Prop := (∃ j, oneSl s j ∧ v = .tuple #[.string (s.extract 0 j), .string (s.extract (j + 1) s.size), .bool true]) ∨ ((∀ j, ¬ oneSl s j) ∧ v = .tuple #[.string ⟨#[]⟩, .string ⟨#[]⟩, .bool false])

theorem a_IndexByteString (s : ByteArray) (w : World) : (callFunc 196 #[.string s, .int .u8 47]).run Tryz.prog w = .ok (.value (.int .i64 (firstIdx s (47 : Int).toNat.toUInt8))) w := by
  rw [run_callFunc_extern (fn := Tryz.f196) (e := Extern.BytealgIndexByte.indexByte) (by kernel_rfl) (by kernel_rfl) (by kernel_rfl) (by kernel_rfl) (by kernel_rfl), run_indexByte_string]
  rfl

theorem a_IndexByte (s : ByteArray) (w : World) (hb : D.Base w) : Calls Tryz.prog 153 #[.string s, .int .u8 47] w fun e w' => e = .returned (.int .i64 (firstIdx s (47 : Int).toNat.toUInt8)) ∧ Below w.heap.size w w' := by
  refine enter Tryz.func153 rfl Tryz.ntmps153 rfl (by assumption) ?_
  (repeat (first | intro (b : Nat) | refine go ?_))
  refine L.ext (h := fun w => a_IndexByteString s w) (k := ?_)
  (repeat (first | intro (b : Nat) | refine go ?_))
  (refine ret ?_; try exact rfl)

theorem a_Index (s sep : ByteArray) (h1 : sep.size = 1) (h47 : bt sep (Int.toNat 0) = 47) (w : World) (hb : D.Base w) : Calls Tryz.prog 98 #[.string s, .string sep] w (RetV w fun v => (∃ j, isSl s j ∧ v = .int .i64 (j : Int)) ∨ ((∀ j, ¬ isSl s j) ∧ v = .int .i64 (-1))) := by
  have hI := a_IndexByte s
  have hF := firstIdx_sl s
  have hz : sep = s → isSl s 0 := fun e => by subst e; exact ⟨by omega, h47⟩
  generalize firstIdx s (47 : Int).toNat.toUInt8 = N at *
  rw [← h47] at hI
  refine enter Tryz.func98 rfl Tryz.ntmps98 rfl (by assumption) ?_
  (repeat' (first | intro (b : Nat) | refine go ?_ | (refine br ?_ ?_ <;> first | exact trivial | intro hq) | refine L.call (h := by intro W hW; apply hI W hW.base) (k := ?_)))
  all_goals (refine retw ?_)
  · exact .inl ⟨0, hz hq, rfl⟩
  · rcases hF with ⟨j, h2, rfl⟩ | ⟨h2, rfl⟩
    · exact .inl ⟨j, h2, rfl⟩
    · exact .inr ⟨h2, rfl⟩

theorem a_LCut (s sep : ByteArray) (hs : s.size ≤ 1000000000000) (h1 : sep.size = 1) (h47 : bt sep (Int.toNat 0) = 47) (w : World) (hb : D.Base w) : Calls Tryz.prog 164 #[.string s, .string sep] w (RetV w (CutP s)) := by
  refine enter Tryz.func164 rfl Tryz.ntmps164 rfl (by assumption) ?_
  (repeat (first | intro (b : Nat) | refine go ?_))
  (refine L.vcall (h := by intro W hW; exact a_Index s sep h1 h47 W hW.base) (k := ?_); intro v hR)
  rcases hR with ⟨j, hj, rfl⟩ | ⟨hj, rfl⟩
  · have hj1 := hj.1
    (repeat' (first | intro (b : Nat) | refine go ?_ | (refine br ?_ ?_ <;> first | exact trivial | intro hq) | refine gg ?_ | (apply C.draww (id := 3) 12 [none, none, none, none, none, none, none, none, none, none, none, none])))
    (refine retw ?_)
    refine .inl ⟨j, hj, ?_⟩
    rw [show ((j : Int) + (sep.size : Int)).toNat = j + 1 by omega, show ((j : Int)).toNat = j by omega]
    rfl
  · (repeat' (first | intro (b : Nat) | refine go ?_ | (refine br ?_ ?_ <;> first | exact trivial | intro hq) | refine gg ?_ | (apply C.draww (id := 3) 12 [none, none, none, none, none, none, none, none, none, none, none, none])))
    (refine retw ?_)
    exact .inr ⟨hj, rfl⟩

theorem a_Cut (s sep : ByteArray) (hs : s.size ≤ 1000000000000) (h1 : sep.size = 1) (h47 : bt sep (Int.toNat 0) = 47) (w : World) (hb : D.Base w) : Calls Tryz.prog 106 #[.string s, .string sep] w (RetV w (CutP s)) := by
  refine enter Tryz.func106 rfl Tryz.ntmps106 rfl (by assumption) ?_
  (repeat (first | intro (b : Nat) | refine go ?_))
  (refine L.vcall (h := by intro W hW; exact a_LCut s sep hs h1 h47 W hW.base) (k := ?_); intro v hR)
  rcases hR with ⟨j, hj, rfl⟩ | ⟨hj, rfl⟩
  · (repeat' (first | intro (b : Nat) | refine go ?_ | (refine br ?_ ?_ <;> first | exact trivial | intro hq)))
    (refine retw ?_)
    exact .inl ⟨j, hj, rfl⟩
  · (repeat' (first | intro (b : Nat) | refine go ?_ | (refine br ?_ ?_ <;> first | exact trivial | intro hq)))
    (refine retw ?_)
    exact .inr ⟨hj, rfl⟩

theorem b_Cut (s : ByteArray) (hs : s.size ≤ 1000000000000) (w : World) (hb : D.Base w) : Calls Tryz.prog 127 #[.string s] w (RetV w (CutR s)) := by
  refine enter Tryz.func127 rfl Tryz.ntmps127 rfl (by assumption) ?_
  (repeat (first | intro (b : Nat) | refine go ?_))
  refine C.loopw (Y := Nat × Int) (fun k => [(0, .string s), (5, .int .i64 k.2), (6, .int .i64 (k.1 : Int))]) (fun k => []) (fun k => k.1 ≤ s.size ∧ ((k.2 = -1 ∧ ∀ i, i < k.1 → ¬ bt s i = 47) ∨ ∃ j : Nat, k.2 = (j : Int) ∧ j < k.1 ∧ bt s j = 47 ∧ ∀ i, i < k.1 → bt s i = 47 → i = j)) (fun k => s.size - k.1) (0, -1) ⟨Nat.zero_le _, .inl ⟨rfl, fun i hi => by omega⟩⟩ (fun k hy => ?_)
  generalize k.1 = q at *
  generalize k.2 = f at *
  obtain ⟨hq, hf⟩ := hy
  have e1 : ((q : Int)).toNat = q := by omega
  by_cases hlt : q < s.size
  · by_cases h47 : bt s ((q : Int)).toNat = 47
    · rcases hf with ⟨rfl, hno⟩ | ⟨j, rfl, hj1, hj2, hj3⟩
      · (repeat' (first | intro (b : Nat) | refine go ?_ | (refine br ?_ ?_ <;> first | exact trivial | intro hq) | refine gg ?_ | (apply C.draww (id := 11) 10 [none, none, none, none, none, none, none, none, none, none])))
        refine X.roundw ((q + 1, (q : Int))) (⟨hlt, .inr ⟨q, rfl, Nat.lt_succ_self _, by rw [← h47, e1], fun i hi h => by
          rcases (by omega : i < q ∨ i = q) with h2 | h2
          · exact (hno i h2 h).elim
          · exact h2⟩⟩) (by show s.size - (q + 1) < s.size - q; omega)
      · (repeat' (first | intro (b : Nat) | refine go ?_ | (refine br ?_ ?_ <;> first | exact trivial | intro hq) | refine gg ?_ | (apply C.draww (id := 11) 10 [none, none, none, none, none, none, none, none, none, none])))
        (refine retw ?_)
        refine .inr ⟨fun i hi => ?_, rfl⟩
        obtain ⟨a1, a2, a3⟩ := hi
        have b1 := a3 j (by omega) hj2
        have b2 := a3 q hlt (by rw [← h47, e1])
        omega
    · (repeat' (first | intro (b : Nat) | refine go ?_ | (refine br ?_ ?_ <;> first | exact trivial | intro hq) | refine gg ?_ | (apply C.draww (id := 11) 10 [none, none, none, none, none, none, none, none, none, none])))
      refine X.roundw ((q + 1, f)) (⟨hlt, by
        rcases hf with ⟨h1, hno⟩ | ⟨j, h1, hj1, hj2, hj3⟩
        · refine .inl ⟨h1, fun i hi h => ?_⟩
          rcases (by omega : i < q ∨ i = q) with h2 | h2
          · exact hno i h2 h
          · subst h2; rw [e1] at h47; exact h47 h
        · refine .inr ⟨j, h1, by show j < q + 1; omega, hj2, fun i hi h => ?_⟩
          rcases (by omega : i < q ∨ i = q) with h2 | h2
          · exact hj3 i h2 h
          · subst h2; rw [e1] at h47; exact (h47 h).elim⟩) (by show s.size - (q + 1) < s.size - q; omega)
  · obtain rfl : q = s.size := by omega
    rcases hf with ⟨rfl, hno⟩ | ⟨j, rfl, hj1, hj2, hj3⟩
    · (repeat' (first | intro (b : Nat) | refine go ?_ | (refine br ?_ ?_ <;> first | exact trivial | intro hq) | refine gg ?_ | (apply C.draww (id := 11) 10 [none, none, none, none, none, none, none, none, none, none])))
      (refine retw ?_)
      exact .inr ⟨fun i hi => hno i hi.1 hi.2.1, rfl⟩
    · (repeat' (first | intro (b : Nat) | refine go ?_ | (refine br ?_ ?_ <;> first | exact trivial | intro hq) | refine gg ?_ | (apply C.draww (id := 11) 10 [none, none, none, none, none, none, none, none, none, none])))
      (refine retw ?_)
      refine .inl ⟨j, ⟨hj1, hj2, hj3⟩, ?_⟩
      rw [show ((j : Int) + 1).toNat = j + 1 by omega, show ((j : Int)).toNat = j by omega]
      rfl

end D
end Go.Proofs.YtboglbdhibcacaaGreatDoor
