/- Walks: periods that the program reads. -/
import Derived.Test.YtpgbmohocfcjpaaGreatDoorB1
import Derived.Test.YtpgbmohocfcjpaaGreatDoorA6
import Derived.Test.YtpgbmohocfcjpaaGreatDoorEy
import Derived.Test.YtpgbmohocfcjpaaGreatDoorQS
namespace Go.Proofs.YtpgbmohocfcjpaaGreatDoor
set_option linter.unusedVariables false
set_option linter.unusedSimpArgs false
set_option maxRecDepth 100000
set_option maxHeartbeats 1000000
namespace D
open Go.RowKit
open Go.PlainAid (bt bt_nonneg bt_le bt_end)
attribute [local irreducible] Calls

theorem a_runN (r : Nat) (s : ByteArray) (p : Nat) (hs : s.size ≤ 1000000000000) (hp : p ≤ s.size) (w : World) (h1 : w.cell? ⟨r, 0 + 0, none⟩ = some (.string s)) (h2 : w.cell? ⟨r, 0 + 1, none⟩ = some (.int .i64 p)) (hb : D.Base w) :
    Calls Tryz.prog 92 #[.pointer (some ⟨r, 0, none⟩)] w fun e w' => e = .returned (.int .i64 (runN s p)) ∧ Below w.heap.size w w' :=
  (a_run r s p hs hp w h1 h2 hb).mono fun e w' ⟨v, he, ⟨j, hv, h3, h4⟩, hn⟩ => ⟨by rw [he, hv, runN_eq h3 h4], hn⟩

theorem a_few_no (w0 : World) (F : SH) (r : Nat) (s : ByteArray) (p : Nat) (hs : s.size ≤ 1000000000000) (hp : p ≤ s.size) (h : ¬ (1 ≤ runN s p ∧ runN s p ≤ 4)) (w : World) (hst : St w0 ((r, rdB s p) :: F) w) :
    Calls Tryz.prog 174 #[.pointer (some ⟨r, 0, none⟩)] w (Turns w0 (.tuple #[.int .i64 0, .bool false]) ((r, rdB s p) :: F)) := by
  have hi : inR (runN s p) 1 4 = false := inR_false.2 (by omega)
  refine enterl Tryz.func174 rfl Tryz.ntmps174 rfl hst ?_
  (repeat' (first | intro (b : Nat) | refine go ?_ | (refine br ?_ ?_ <;> first | exact trivial | intro hq) | refine L.call (h := by intro W hW; first | apply a_runN r s p hs hp W (hW.cell (List.Mem.head _) rfl) (hW.cell (List.Mem.head _) rfl) hW.base | apply rvb hi (a_within _ _ _ W hW.base)) (k := ?_)))
  exact rett rfl

theorem a_few_yes (w0 : World) (F : SH) (r : Nat) (s : ByteArray) (p : Nat) (hs : s.size ≤ 1000000000000) (hp : p ≤ s.size) (h : 1 ≤ runN s p ∧ runN s p ≤ 4) (w : World) (hst : St w0 ((r, rdB s p) :: F) w) :
    Calls Tryz.prog 174 #[.pointer (some ⟨r, 0, none⟩)] w (Turns w0 (.tuple #[.int .i64 (numL s p (runN s p)), .bool true]) ((r, rdB s ((p : Int) + (runN s p : Int))) :: F)) := by
  have hi : inR (runN s p) 1 4 = true := inR_true.2 (by omega)
  refine enterl Tryz.func174 rfl Tryz.ntmps174 rfl hst ?_
  (repeat' (first | intro (b : Nat) | refine go ?_ | (refine br ?_ ?_ <;> first | exact trivial | intro hq) | refine L.call (h := by intro W hW; first | apply a_runN r s p hs hp W (hW.cell (List.Mem.head _) rfl) (hW.cell (List.Mem.head _) rfl) hW.base | apply rvb hi (a_within _ _ _ W hW.base)) (k := ?_)))
  refine L.tcall (h := by intro W hW; exact a_number_yes _ _ _ _ _ _ hs hp (by omega) (runN_allD s p) W hW) (k := ?_)
  (repeat' (first | intro (b : Nat) | refine go ?_ | (refine br ?_ ?_ <;> first | exact trivial | intro hq)))
  exact rett rfl

/-- The cells of a period. -/
abbrev c6 (v : P6) : List Value := [.int .i64 v.a, .int .i64 v.b, .int .i64 v.c, .int .i64 v.d, .int .i64 v.e, .int .i64 v.f]
abbrev perB (v : P6) : Blk := .cells 50 (c6 v)
theorem c6_set {j : Nat} (h : j < 6) (v : P6) (n : Int) : (c6 v).set j (.int .i64 n) = c6 (v.set j n) := by
  rcases (by omega : j = 0 ∨ j = 1 ∨ j = 2 ∨ j = 3 ∨ j = 4 ∨ j = 5) with rfl | rfl | rfl | rfl | rfl | rfl <;> rfl
theorem c6_wr {j : Nat} (h : j < 6) (v : P6) (n : Int) : Wr j [.int .i64 n] (c6 v) (c6 (v.set j n)) := by
  rw [← c6_set h v n]
  exact wr_sety _ _ _ h
def ltr : Nat → Int
  | 0 => 89
  | 1 => 77
  | 2 => 68
  | 3 => 72
  | 4 => 77
  | _ => 83
def tmd (j : Nat) : Bool := decide (3 ≤ j)
/-- The parts that wait, from number j on. -/
abbrev wV (bw j : Nat) : Value := .slice (some ⟨bw, 3 * min j 5, none⟩) (6 - j) (6 - j)
theorem parts_at {j : Nat} (h : j < 6) (p : Nat) : (partsV p)[3 * min j 5 + (0 : Int).toNat * 3 + 0]? = some (.int .u8 (ltr j)) ∧ (partsV p)[3 * min j 5 + (0 : Int).toNat * 3 + 1]? = some (.bool (tmd j)) ∧ (partsV p)[3 * min j 5 + (0 : Int).toNat * 3 + 2]? = some (.pointer (some ⟨p, j, none⟩)) := by
  rcases (by omega : j = 0 ∨ j = 1 ∨ j = 2 ∨ j = 3 ∨ j = 4 ∨ j = 5) with rfl | rfl | rfl | rfl | rfl | rfl <;> exact ⟨rfl, rfl, rfl⟩
theorem wV_next {bw j : Nat} (h : j < 6) : Value.slice (some ⟨bw, if 6 - j = (1 : Int).toNat then 3 * min j 5 else 3 * min j 5 + (1 : Int).toNat * 3, none⟩) (6 - j - (1 : Int).toNat) (6 - j - (1 : Int).toNat) = wV bw (j + 1) := by
  rcases (by omega : j = 0 ∨ j = 1 ∨ j = 2 ∨ j = 3 ∨ j = 4 ∨ j = 5) with rfl | rfl | rfl | rfl | rfl | rfl <;> rfl
theorem letN_of {c : Int} {t : Bool} {j : Nat} (h : j < 6) (h1 : ltr j = c) (h2 : tmd j = t) : letN c t = j := by
  subst h1
  subst h2
  rcases (by omega : j = 0 ∨ j = 1 ∨ j = 2 ∨ j = 3 ∨ j = 4 ∨ j = 5) with rfl | rfl | rfl | rfl | rfl | rfl <;> decide
theorem letN_lt {c : Int} {t : Bool} {k0 : Nat} (h : ∀ i, k0 ≤ i → i < 6 → ¬ (ltr i = c ∧ tmd i = t)) : letN c t ≤ (k0 : Int) - 1 := by
  have key : ∀ i, i < 6 → ltr i = c → tmd i = t → i < k0 := fun i h6 h1 h2 => by
    rcases Nat.lt_or_ge i k0 with hh | hh
    · exact hh
    · exact (h i hh h6 ⟨h1, h2⟩).elim
  unfold letN
  cases t with
  | true =>
    simp only [if_true]
    split
    · have := key 3 (by omega) (by simp only [ltr]; omega) rfl; omega
    · split
      · have := key 4 (by omega) (by simp only [ltr]; omega) rfl; omega
      · split
        · have := key 5 (by omega) (by simp only [ltr]; omega) rfl; omega
        · omega
  | false =>
    simp only [Bool.false_eq_true, if_false]
    split
    · have := key 0 (by omega) (by simp only [ltr]; omega) rfl; omega
    · split
      · have := key 1 (by omega) (by simp only [ltr]; omega) rfl; omega
      · split
        · have := key 2 (by omega) (by simp only [ltr]; omega) rfl; omega
        · omega

/-- What the program's reader of a period yields: a period and whether it is one; with what it has read up to. -/
def PerOk (s : ByteArray) (pos : Nat) (v : P6) (ok : Bool) : Prop := if ok = true ∧ pos = s.size then perP s = some v else perP s = none
def PerR (w0 : World) (r : Nat) (s : ByteArray) (F : SH) (v : Value) (H : SH) : Prop := ∃ (pos : Nat) (x : P6) (ok : Bool), v = .tuple #[.agg (c6 x).toArray, .bool ok] ∧ H = (r, rdB s (pos : Int)) :: F ∧ PerOk s pos x ok

theorem a_period_0 (w0 : World) (F : SH) (r : Nat) (s : ByteArray) (hs : s.size ≤ 1000000000000) (h0 : isB s 0 80 = false) (w : World) (hst : St w0 ((r, rdB s 0) :: F) w) :
    Calls Tryz.prog 123 #[.pointer (some ⟨r, 0, none⟩)] w (TurnsR w0 (PerR w0 r s F)) := by
  refine enterl Tryz.func123 rfl Tryz.ntmps123 rfl hst ?_
  (repeat' (first | intro (b : Nat) | refine go ?_ | (refine br ?_ ?_ <;> first | exact trivial | intro hq)))
  refine L.tcall (h := by intro W hW; exact a_take_no _ _ _ _ 0 _ hs (Nat.zero_le _) h0 W hW) (k := ?_)
  (repeat' (first | intro (b : Nat) | refine go ?_ | (refine br ?_ ?_ <;> first | exact trivial | intro hq)))
  refine rettR _ ⟨0, P6.zero, false, rfl, rfl, ?_⟩
  unfold PerOk perP
  rw [if_neg (by simp), if_pos h0]

theorem a_period_w (w0 : World) (F : SH) (r : Nat) (s : ByteArray) (hs : s.size ≤ 1000000000000) (h0 : isB s 0 80 = true) (hw : isWeeks s = true) (w : World) (hst : St w0 ((r, rdB s 0) :: F) w) :
    Calls Tryz.prog 123 #[.pointer (some ⟨r, 0, none⟩)] w (TurnsR w0 (PerR w0 r s F)) := by
  have h1 := (isB_iff.1 h0).1
  have hw' := hw
  simp only [isWeeks, Bool.and_eq_true, decide_eq_true_eq] at hw'
  have hn := numL_4 (s := s) (q := 1) rfl hw'.1.2
  refine enterl Tryz.func123 rfl Tryz.ntmps123 rfl hst ?_
  (repeat' (first | intro (b : Nat) | refine go ?_ | (refine br ?_ ?_ <;> first | exact trivial | intro hq)))
  refine L.tcall (h := by intro W hW; exact a_take_yes _ _ _ _ 0 _ hs h0 W hW) (k := ?_)
  (repeat' (first | intro (b : Nat) | refine go ?_ | (refine br ?_ ?_ <;> first | exact trivial | intro hq)))
  refine L.tcall (h := by intro W hW; exact a_few_yes _ _ _ _ 1 hs (by omega) hw'.1 W hW) (k := ?_)
  (repeat' (first | intro (b : Nat) | refine go ?_ | (refine br ?_ ?_ <;> first | exact trivial | intro hq)))
  refine L.tcall (h := by intro W hW; exact a_take_yes _ _ _ _ (1 + runN s 1) _ hs hw'.2 W hW) (k := ?_)
  (repeat' (first | intro (b : Nat) | refine go ?_ | (refine br ?_ ?_ <;> first | exact trivial | intro hq)))
  rename_i bp
  ((repeat (refine C.seq ?_)); apply C.drawsw 4 bp (.cells 50 [.int .i64 0, .int .i64 0, .int .i64 0, .int .i64 0, .int .i64 0, .int .i64 0]) 5 [some _, none, some _, none, some _])
  (repeat (first | intro (b : Nat) | refine gg ?_))
  (first | (apply G.stk; exact rfl; exact rfl; exact rfl; exact rfl; exact rfl; exact rfl; exact rfl; (· (repeat (first | exact Wr.nil | apply Wr.put | apply Wr.skip)))) | (apply G.st1; exact rfl; exact rfl; exact rfl; exact rfl; exact rfl; exact rfl; (· (repeat (first | exact Wr.nil | apply Wr.put | apply Wr.skip)))))
  (repeat (first | intro (b : Nat) | refine gg ?_))
  (repeat (first | intro (b : Nat) | refine go ?_))
  refine rettR _ ⟨1 + runN s 1 + 1, { P6.zero with c := 7 * numL s 1 (runN s 1) }, decide (7 * numL s 1 (runN s 1) ≤ 9999), rfl, rfl, ?_⟩
  unfold PerOk perP
  have e : (if isB s 0 80 = false then none else if isWeeks s = true then weeksOf s else pfP s s.size 1 (-1) false false false P6.zero) = weeksOf s := by
    rw [if_neg (by simp [h0]), if_pos hw]
  rw [e]
  unfold weeksOf
  by_cases h9 : 7 * numL s 1 (runN s 1) ≤ 9999
  · by_cases hz : 1 + runN s 1 + 1 = s.size
    · rw [if_pos ⟨by simp [h9], hz⟩, if_pos ⟨hz, h9⟩]
    · rw [if_neg (by simp [hz]), if_neg (by simp [hz])]
  · rw [if_neg (by simp [h9]), if_neg (by simp [h9])]

theorem pfP_end {s : ByteArray} {p : Nat} {last : Int} {t any op : Bool} {v : P6} (g : Nat) (h : s.size ≤ p) : pfP s (g + 1) p last t any op v = if any = true ∧ op = false then some v else none := by
  rw [pfP, if_pos h]
theorem pfP_T {s : ByteArray} {p : Nat} {last : Int} {any op : Bool} {v : P6} (g : Nat) (h : isB s p 84 = true) : pfP s (g + 1) p last false any op v = pfP s g (p + 1) last true any true v := by
  have := (isB_iff.1 h).1
  rw [pfP, if_neg (by omega), if_pos ⟨rfl, h⟩]
theorem pfP_bad {s : ByteArray} {p : Nat} {last : Int} {t any op : Bool} {v : P6} (g : Nat) (hp : p < s.size) (hT : ¬ (t = false ∧ isB s p 84 = true)) (h : ¬ (1 ≤ runN s p ∧ runN s p ≤ 4 ∧ p + runN s p < s.size)) : pfP s (g + 1) p last t any op v = none := by
  rw [pfP, if_neg (by omega), if_neg hT]
  simp only
  rw [if_neg h]
theorem pfP_let {s : ByteArray} {p : Nat} {last : Int} {t any op : Bool} {v : P6} (g : Nat) (hp : p < s.size) (hT : ¬ (t = false ∧ isB s p 84 = true)) (h : 1 ≤ runN s p ∧ runN s p ≤ 4 ∧ p + runN s p < s.size) :
    pfP s (g + 1) p last t any op v = if letN (bt s (p + runN s p)) t ≤ last then none else pfP s g (p + runN s p + 1) (letN (bt s (p + runN s p)) t) t true false (v.set (letN (bt s (p + runN s p)) t) (numL s p (runN s p))) := by
  rw [pfP, if_neg (by omega), if_neg hT]
  simp only
  rw [if_pos h]

/-- Where the reader of a period stands. -/
structure PSt where
  pos : Nat
  k0 : Nat
  t : Bool
  any : Bool
  op : Bool
  v : P6

theorem a_period_p (w0 : World) (F : SH) (r : Nat) (s : ByteArray) (hs : s.size ≤ 1000000000000) (h0 : isB s 0 80 = true) (hw : isWeeks s = false) (w : World) (hst : St w0 ((r, rdB s 0) :: F) w) :
    Calls Tryz.prog 123 #[.pointer (some ⟨r, 0, none⟩)] w (TurnsR w0 (PerR w0 r s F)) := by
  have h1 := (isB_iff.1 h0).1
  have hT : perP s = pfP s s.size 1 (-1) false false false P6.zero := by
    unfold perP
    rw [if_neg (by simp [h0]), if_neg (by simp [hw])]
  generalize hTg : pfP s s.size 1 (-1) false false false P6.zero = Tg at hT
  refine enterl Tryz.func123 rfl Tryz.ntmps123 rfl hst ?_
  (repeat' (first | intro (b : Nat) | refine go ?_ | (refine br ?_ ?_ <;> first | exact trivial | intro hq)))
  rename_i b1
  revert b
  intro bp
  refine L.tcall (h := by intro W hW; exact a_take_yes _ _ _ _ 0 _ hs h0 W hW) (k := ?_)
  (repeat' (first | intro (b : Nat) | refine go ?_ | (refine br ?_ ?_ <;> first | exact trivial | intro hq)))
  by_cases hf : 1 ≤ runN s 1 ∧ runN s 1 ≤ 4
  case' pos =>
    have hB : isB s (1 + runN s 1) 87 = false := by simpa [isWeeks, hf] using hw
    refine L.tcall (h := by intro W hW; exact a_few_yes _ _ _ _ 1 hs (by omega) hf W hW) (k := ?_)
    (repeat' (first | intro (b : Nat) | refine go ?_ | (refine br ?_ ?_ <;> first | exact trivial | intro hq)))
    refine L.tcall (h := by intro W hW; exact a_take_no _ _ _ _ (1 + runN s 1) _ hs (runN_le (by omega)) hB W hW) (k := ?_)
    (repeat' (first | intro (b : Nat) | refine go ?_ | (refine br ?_ ?_ <;> first | exact trivial | intro hq)))
  case' neg =>
    refine L.tcall (h := by intro W hW; exact a_few_no _ _ _ _ 1 hs (by omega) hf W hW) (k := ?_)
    (repeat' (first | intro (b : Nat) | refine go ?_ | (refine br ?_ ?_ <;> first | exact trivial | intro hq)))
  all_goals
    (refine L.slcall (h := by intro W hW; exact a_parts bp W hW.base) (k := ?_); intro b)
    (repeat' (first | intro (b : Nat) | refine go ?_ | (refine br ?_ ?_ <;> first | exact trivial | intro hq)))
    refine C.permy (List.Perm.swap _ _ _) ?_
    refine C.loopw (Y := PSt) (fun k => [(0, .pointer (some ⟨r, 0, none⟩)), (2, .pointer (some ⟨b1, 0, none⟩)), (3, .bool false), (4, .pointer (some ⟨bp, 0, none⟩)), (8, wV b k.k0), (9, .bool k.t), (10, .bool k.any), (11, .bool k.op)]) (fun k => (r, rdB s (k.pos : Int)) :: (b, .cells 118 (partsV bp)) :: (bp, perB k.v) :: (b1, perB P6.zero) :: F) (fun k => k.pos ≤ s.size ∧ k.k0 ≤ 6 ∧ ∃ g, s.size < k.pos + g ∧ pfP s g k.pos ((k.k0 : Int) - 1) k.t k.any k.op k.v = Tg) (fun k => s.size - k.pos) ⟨1, 0, false, false, false, P6.zero⟩ ⟨h1, Nat.zero_le _, s.size, by show s.size < 1 + s.size; omega, hTg⟩ (fun k hy => ?_)
    obtain ⟨pos, k0, t, any, op, v⟩ := k
    obtain ⟨hp, hk, g, hg, hpf⟩ := hy
    simp only at hp hk hg hpf
    obtain ⟨g, rfl⟩ : ∃ g', g = g' + 1 := ⟨g - 1, by omega⟩
    by_cases hd : pos = s.size
    · have hdv : decide ((pos : Int) = s.size) = true := decide_eq_true (by omega)
      rw [pfP_end g (by omega)] at hpf
      cases any <;> cases op
      all_goals
        (repeat' (first | intro (b : Nat) | refine go ?_ | (refine br ?_ ?_ <;> first | exact trivial | intro hq) | refine L.call (h := by intro W hW; apply rvb hdv (a_done r s pos W (hW.cell (List.Mem.head _) rfl) (hW.cell (List.Mem.head _) rfl) hW.base)) (k := ?_)))
        refine rettR _ ⟨pos, v, _, rfl, rfl, ?_⟩
        unfold PerOk
        rw [hT, ← hpf]
        simp [hd]
    · have hlt : pos < s.size := by omega
      have hdv : decide ((pos : Int) = s.size) = false := decide_eq_false (by omega)
      by_cases hTT : t = false ∧ isB s pos 84 = true
      · obtain ⟨rfl, hB⟩ := hTT
        rw [pfP_T g hB] at hpf
        (repeat' (first | intro (b : Nat) | refine go ?_ | (refine br ?_ ?_ <;> first | exact trivial | intro hq) | refine L.call (h := by intro W hW; apply rvb hdv (a_done r s pos W (hW.cell (List.Mem.head _) rfl) (hW.cell (List.Mem.head _) rfl) hW.base)) (k := ?_)))
        refine L.tcall (h := by intro W hW; exact a_take_yes _ _ _ _ pos _ hs hB W hW) (k := ?_)
        (repeat' (first | intro (b : Nat) | refine go ?_ | (refine br ?_ ?_ <;> first | exact trivial | intro hq)))
        refine X.roundw (⟨pos + 1, k0, true, any, true, v⟩) (⟨by show pos + 1 ≤ s.size; omega, hk, g, by show s.size < pos + 1 + g; omega, hpf⟩) (by show s.size - (pos + 1) < s.size - pos; omega)
      · cases t
        case' false =>
          have hB : isB s pos 84 = false := bool_no fun h => hTT ⟨rfl, h⟩
          (repeat' (first | intro (b : Nat) | refine go ?_ | (refine br ?_ ?_ <;> first | exact trivial | intro hq) | refine L.call (h := by intro W hW; apply rvb hdv (a_done r s pos W (hW.cell (List.Mem.head _) rfl) (hW.cell (List.Mem.head _) rfl) hW.base)) (k := ?_)))
          refine L.tcall (h := by intro W hW; exact a_take_no _ _ _ _ pos _ hs hp hB W hW) (k := ?_)
          (repeat' (first | intro (b : Nat) | refine go ?_ | (refine br ?_ ?_ <;> first | exact trivial | intro hq)))
          by_cases hm : 1 ≤ runN s pos ∧ runN s pos ≤ 4
          · by_cases he : pos + runN s pos = s.size
            · have hdv2 : decide ((pos : Int) + (runN s pos : Int) = s.size) = true := decide_eq_true (by omega)
              rw [pfP_bad g hlt hTT (by omega)] at hpf
              refine L.tcall (h := by intro W hW; exact a_few_yes _ _ _ _ pos hs hp hm W hW) (k := ?_)
              (repeat' (first | intro (b : Nat) | refine go ?_ | (refine br ?_ ?_ <;> first | exact trivial | intro hq) | refine L.call (h := by intro W hW; apply rvb hdv2 (a_done r s _ W (hW.cell (List.Mem.head _) rfl) (hW.cell (List.Mem.head _) rfl) hW.base)) (k := ?_)))
              refine rettR _ ⟨pos + runN s pos, P6.zero, false, rfl, rfl, ?_⟩
              unfold PerOk
              rw [hT, ← hpf]
              simp
            · have hrl := runN_le hp
              have hdv2 : decide ((pos : Int) + (runN s pos : Int) = s.size) = false := decide_eq_false (by omega)
              have e1 : ((pos : Int) + (runN s pos : Int)).toNat = pos + runN s pos := by omega
              rw [pfP_let g hlt hTT ⟨hm.1, hm.2, by omega⟩, ← e1] at hpf
              refine L.tcall (h := by intro W hW; exact a_few_yes _ _ _ _ pos hs hp hm W hW) (k := ?_)
              (repeat' (first | intro (b : Nat) | refine go ?_ | (refine br ?_ ?_ <;> first | exact trivial | intro hq) | refine L.call (h := by intro W hW; apply rvb hdv2 (a_done r s _ W (hW.cell (List.Mem.head _) rfl) (hW.cell (List.Mem.head _) rfl) hW.base)) (k := ?_)))
              ((repeat (refine C.seq ?_)); apply C.draww 10 [none, none, none, some _, none, none, none, some _, none, none])
              (repeat (first | intro (b : Nat) | refine gg ?_))
              (repeat (first | intro (b : Nat) | refine go ?_))
              generalize hcc : bt s ((pos : Int) + (runN s pos : Int)).toNat = c at hpf ⊢
              rw [e1] at hpf
              refine C.loopw (Y := Nat) (fun k => [(0, .pointer (some ⟨r, 0, none⟩)), (2, .pointer (some ⟨b1, 0, none⟩)), (3, .bool false), (4, .pointer (some ⟨bp, 0, none⟩)), (8, wV b k), (9, .bool false), (10, .bool any), (11, .bool op), (12, .int .i64 (numL s pos (runN s pos))), (14, .int .u8 c)]) (fun k => (r, rdB s ((pos : Int) + (runN s pos : Int))) :: (b, .cells 118 (partsV bp)) :: (bp, perB v) :: (b1, perB P6.zero) :: F) (fun k => k0 ≤ k ∧ k ≤ 6 ∧ ∀ i, k0 ≤ i → i < k → ¬ (ltr i = c ∧ tmd i = false)) (fun k => 6 - k) k0 ⟨Nat.le_refl _, hk, fun i a b => by omega⟩ (fun k hy => ?_)
              obtain ⟨hk0, hk6, hno⟩ := hy
              by_cases hj : k < 6
              · obtain ⟨hc1, hc2, hc3⟩ := parts_at hj bp
                by_cases hL1 : ltr k = c
                · by_cases hL2 : tmd k = false
                  · rw [hL2] at hc2
                    subst hL1
                    rw [letN_of hj rfl hL2, if_neg (by omega)] at hpf
                    have hb1 : numL s pos (runN s pos) = numL s pos (runN s pos) := rfl
                    (repeat' (first | intro (b : Nat) | refine go ?_ | (refine br ?_ ?_ <;> first | exact trivial | intro hq)))
                    refine L.s rfl rfl (OS.store1 rfl rfl rfl (by (repeat (first | exact Upd.here | apply Upd.there))) (c6_wr hj v _)) ?_
                    (repeat' (first | intro (b : Nat) | refine go ?_ | (refine br ?_ ?_ <;> first | exact trivial | intro hq)))
                    refine L.p (v := wV b (k + 1)) rfl rfl (by rw [← wV_next hj]; exact PV.sll rfl rfl (by omega) (by omega) (by omega)) ?_
                    (repeat' (first | intro (b : Nat) | refine go ?_ | (refine br ?_ ?_ <;> first | exact trivial | intro hq)))
                    refine X.roundw (⟨pos + runN s pos + 1, k + 1, false, true, false, v.set k (numL s pos (runN s pos))⟩) (⟨by show pos + runN s pos + 1 ≤ s.size; omega, hj, g, by show s.size < pos + runN s pos + 1 + g; omega, by rw [← hpf]; show pfP s g _ (((k + 1 : Nat) : Int) - 1) _ _ _ _ = _; rw [show ((k + 1 : Nat) : Int) - 1 = k by omega]⟩) (by show s.size - (pos + runN s pos + 1) < s.size - pos; omega)
                  · have hb : tmd k = !false := by cases h : tmd k <;> simp_all
                    rw [hb] at hc2
                    subst hL1
                    (repeat' (first | intro (b : Nat) | refine go ?_ | (refine br ?_ ?_ <;> first | exact trivial | intro hq)))
                    refine L.p (v := wV b (k + 1)) rfl rfl (by rw [← wV_next hj]; exact PV.sll rfl rfl (by omega) (by omega) (by omega)) ?_
                    (repeat' (first | intro (b : Nat) | refine go ?_ | (refine br ?_ ?_ <;> first | exact trivial | intro hq)))
                    refine X.roundw (k + 1) (⟨by omega, by omega, fun i a b' => by
                      by_cases hik : i = k
                      · subst hik; exact fun h => hL2 h.2
                      · exact hno i a (by omega)⟩) (by omega)
                · (repeat' (first | intro (b : Nat) | refine go ?_ | (refine br ?_ ?_ <;> first | exact trivial | intro hq)))
                  refine L.p (v := wV b (k + 1)) rfl rfl (by rw [← wV_next hj]; exact PV.sll rfl rfl (by omega) (by omega) (by omega)) ?_
                  (repeat' (first | intro (b : Nat) | refine go ?_ | (refine br ?_ ?_ <;> first | exact trivial | intro hq)))
                  refine X.roundw (k + 1) (⟨by omega, by omega, fun i a b' => by
                    by_cases hik : i = k
                    · subst hik; exact fun h => hL1 h.1
                    · exact hno i a (by omega)⟩) (by omega)
              · obtain rfl : k = 6 := by omega
                rw [if_pos (letN_lt hno)] at hpf
                (repeat' (first | intro (b : Nat) | refine go ?_ | (refine br ?_ ?_ <;> first | exact trivial | intro hq)))
                refine rettR _ ⟨pos + runN s pos, P6.zero, false, rfl, rfl, ?_⟩
                unfold PerOk
                rw [hT, ← hpf]
                simp
          · rw [pfP_bad g hlt hTT (by omega)] at hpf
            refine L.tcall (h := by intro W hW; exact a_few_no _ _ _ _ pos hs hp hm W hW) (k := ?_)
            (repeat' (first | intro (b : Nat) | refine go ?_ | (refine br ?_ ?_ <;> first | exact trivial | intro hq)))
            refine rettR _ ⟨pos, P6.zero, false, rfl, rfl, ?_⟩
            unfold PerOk
            rw [hT, ← hpf]
            simp
        case' true =>
          (repeat' (first | intro (b : Nat) | refine go ?_ | (refine br ?_ ?_ <;> first | exact trivial | intro hq) | refine L.call (h := by intro W hW; apply rvb hdv (a_done r s pos W (hW.cell (List.Mem.head _) rfl) (hW.cell (List.Mem.head _) rfl) hW.base)) (k := ?_)))
          by_cases hm : 1 ≤ runN s pos ∧ runN s pos ≤ 4
          · by_cases he : pos + runN s pos = s.size
            · have hdv2 : decide ((pos : Int) + (runN s pos : Int) = s.size) = true := decide_eq_true (by omega)
              rw [pfP_bad g hlt hTT (by omega)] at hpf
              refine L.tcall (h := by intro W hW; exact a_few_yes _ _ _ _ pos hs hp hm W hW) (k := ?_)
              (repeat' (first | intro (b : Nat) | refine go ?_ | (refine br ?_ ?_ <;> first | exact trivial | intro hq) | refine L.call (h := by intro W hW; apply rvb hdv2 (a_done r s _ W (hW.cell (List.Mem.head _) rfl) (hW.cell (List.Mem.head _) rfl) hW.base)) (k := ?_)))
              refine rettR _ ⟨pos + runN s pos, P6.zero, false, rfl, rfl, ?_⟩
              unfold PerOk
              rw [hT, ← hpf]
              simp
            · have hrl := runN_le hp
              have hdv2 : decide ((pos : Int) + (runN s pos : Int) = s.size) = false := decide_eq_false (by omega)
              have e1 : ((pos : Int) + (runN s pos : Int)).toNat = pos + runN s pos := by omega
              rw [pfP_let g hlt hTT ⟨hm.1, hm.2, by omega⟩, ← e1] at hpf
              refine L.tcall (h := by intro W hW; exact a_few_yes _ _ _ _ pos hs hp hm W hW) (k := ?_)
              (repeat' (first | intro (b : Nat) | refine go ?_ | (refine br ?_ ?_ <;> first | exact trivial | intro hq) | refine L.call (h := by intro W hW; apply rvb hdv2 (a_done r s _ W (hW.cell (List.Mem.head _) rfl) (hW.cell (List.Mem.head _) rfl) hW.base)) (k := ?_)))
              ((repeat (refine C.seq ?_)); apply C.draww 10 [none, none, none, some _, none, none, none, some _, none, none])
              (repeat (first | intro (b : Nat) | refine gg ?_))
              (repeat (first | intro (b : Nat) | refine go ?_))
              generalize hcc : bt s ((pos : Int) + (runN s pos : Int)).toNat = c at hpf ⊢
              rw [e1] at hpf
              refine C.loopw (Y := Nat) (fun k => [(0, .pointer (some ⟨r, 0, none⟩)), (2, .pointer (some ⟨b1, 0, none⟩)), (3, .bool false), (4, .pointer (some ⟨bp, 0, none⟩)), (8, wV b k), (9, .bool true), (10, .bool any), (11, .bool op), (12, .int .i64 (numL s pos (runN s pos))), (14, .int .u8 c)]) (fun k => (r, rdB s ((pos : Int) + (runN s pos : Int))) :: (b, .cells 118 (partsV bp)) :: (bp, perB v) :: (b1, perB P6.zero) :: F) (fun k => k0 ≤ k ∧ k ≤ 6 ∧ ∀ i, k0 ≤ i → i < k → ¬ (ltr i = c ∧ tmd i = true)) (fun k => 6 - k) k0 ⟨Nat.le_refl _, hk, fun i a b => by omega⟩ (fun k hy => ?_)
              obtain ⟨hk0, hk6, hno⟩ := hy
              by_cases hj : k < 6
              · obtain ⟨hc1, hc2, hc3⟩ := parts_at hj bp
                by_cases hL1 : ltr k = c
                · by_cases hL2 : tmd k = true
                  · rw [hL2] at hc2
                    subst hL1
                    rw [letN_of hj rfl hL2, if_neg (by omega)] at hpf
                    have hb1 : numL s pos (runN s pos) = numL s pos (runN s pos) := rfl
                    (repeat' (first | intro (b : Nat) | refine go ?_ | (refine br ?_ ?_ <;> first | exact trivial | intro hq)))
                    refine L.s rfl rfl (OS.store1 rfl rfl rfl (by (repeat (first | exact Upd.here | apply Upd.there))) (c6_wr hj v _)) ?_
                    (repeat' (first | intro (b : Nat) | refine go ?_ | (refine br ?_ ?_ <;> first | exact trivial | intro hq)))
                    refine L.p (v := wV b (k + 1)) rfl rfl (by rw [← wV_next hj]; exact PV.sll rfl rfl (by omega) (by omega) (by omega)) ?_
                    (repeat' (first | intro (b : Nat) | refine go ?_ | (refine br ?_ ?_ <;> first | exact trivial | intro hq)))
                    refine X.roundw (⟨pos + runN s pos + 1, k + 1, true, true, false, v.set k (numL s pos (runN s pos))⟩) (⟨by show pos + runN s pos + 1 ≤ s.size; omega, hj, g, by show s.size < pos + runN s pos + 1 + g; omega, by rw [← hpf]; show pfP s g _ (((k + 1 : Nat) : Int) - 1) _ _ _ _ = _; rw [show ((k + 1 : Nat) : Int) - 1 = k by omega]⟩) (by show s.size - (pos + runN s pos + 1) < s.size - pos; omega)
                  · have hb : tmd k = !true := by cases h : tmd k <;> simp_all
                    rw [hb] at hc2
                    subst hL1
                    (repeat' (first | intro (b : Nat) | refine go ?_ | (refine br ?_ ?_ <;> first | exact trivial | intro hq)))
                    refine L.p (v := wV b (k + 1)) rfl rfl (by rw [← wV_next hj]; exact PV.sll rfl rfl (by omega) (by omega) (by omega)) ?_
                    (repeat' (first | intro (b : Nat) | refine go ?_ | (refine br ?_ ?_ <;> first | exact trivial | intro hq)))
                    refine X.roundw (k + 1) (⟨by omega, by omega, fun i a b' => by
                      by_cases hik : i = k
                      · subst hik; exact fun h => hL2 h.2
                      · exact hno i a (by omega)⟩) (by omega)
                · (repeat' (first | intro (b : Nat) | refine go ?_ | (refine br ?_ ?_ <;> first | exact trivial | intro hq)))
                  refine L.p (v := wV b (k + 1)) rfl rfl (by rw [← wV_next hj]; exact PV.sll rfl rfl (by omega) (by omega) (by omega)) ?_
                  (repeat' (first | intro (b : Nat) | refine go ?_ | (refine br ?_ ?_ <;> first | exact trivial | intro hq)))
                  refine X.roundw (k + 1) (⟨by omega, by omega, fun i a b' => by
                    by_cases hik : i = k
                    · subst hik; exact fun h => hL1 h.1
                    · exact hno i a (by omega)⟩) (by omega)
              · obtain rfl : k = 6 := by omega
                rw [if_pos (letN_lt hno)] at hpf
                (repeat' (first | intro (b : Nat) | refine go ?_ | (refine br ?_ ?_ <;> first | exact trivial | intro hq)))
                refine rettR _ ⟨pos + runN s pos, P6.zero, false, rfl, rfl, ?_⟩
                unfold PerOk
                rw [hT, ← hpf]
                simp
          · rw [pfP_bad g hlt hTT (by omega)] at hpf
            refine L.tcall (h := by intro W hW; exact a_few_no _ _ _ _ pos hs hp hm W hW) (k := ?_)
            (repeat' (first | intro (b : Nat) | refine go ?_ | (refine br ?_ ?_ <;> first | exact trivial | intro hq)))
            refine rettR _ ⟨pos, P6.zero, false, rfl, rfl, ?_⟩
            unfold PerOk
            rw [hT, ← hpf]
            simp

end D
end Go.Proofs.YtpgbmohocfcjpaaGreatDoor
