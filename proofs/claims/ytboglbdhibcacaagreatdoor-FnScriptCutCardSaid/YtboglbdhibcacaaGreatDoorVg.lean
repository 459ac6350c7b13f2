/- Walks: digits and readers of the program. -/
import Derived.Test.YtboglbdhibcacaaGreatDoorVf
import Derived.Test.YtboglbdhibcacaaGreatDoorVEI
import Derived.Test.YtboglbdhibcacaaGreatDoorVe
namespace Go.Proofs.YtboglbdhibcacaaGreatDoor
set_option linter.unusedVariables false
set_option linter.unusedSimpArgs false
set_option maxRecDepth 100000
set_option maxHeartbeats 1000000
namespace D
open Go.RowKit
open Go.PlainAid (bt bt_nonneg bt_le bt_end)
attribute [local irreducible] Calls

/-- A reader: its text and its place. -/
abbrev rdB (s : ByteArray) (p : Int) : Blk := .cells 121 [.string s, .int .i64 p]

theorem a_isDigit (c : Int) (w : World) (hb : D.Base w) : Calls Tryz.prog 202 #[.int .u8 c] w fun e w' => e = .returned (.bool (decide (48 ≤ c ∧ c ≤ 57))) ∧ Below w.heap.size w w' := by
  refine enter Tryz.func202 rfl Tryz.ntmps202 rfl (by assumption) ?_
  (repeat' (first | intro (b : Nat) | refine go ?_ | (refine br ?_ ?_ <;> first | exact trivial | intro hq)))
  all_goals (refine ret ?_; try exact rfl)
  all_goals (refine congrArg Value.bool ?_; rw [Bool.eq_iff_iff]; simp; omega)

theorem a_isD (s : ByteArray) (k : Nat) (w : World) (hb : D.Base w) : Calls Tryz.prog 202 #[.int .u8 (bt s k)] w fun e w' => e = .returned (.bool (isD s k)) ∧ Below w.heap.size w w' := a_isDigit (bt s k) w hb

/-- So many digits follow, and then none. -/
def RunV (s : ByteArray) (p : Nat) (v : Value) : Prop := ∃ j : Nat, v = .int .i64 j ∧ (∀ i, i < j → isD s (p + i) = true) ∧ isD s (p + j) = false

theorem a_run (r : Nat) (s : ByteArray) (p : Nat) (hs : s.size ≤ 1000000000000) (hp : p ≤ s.size) (w : World) (h1 : w.cell? ⟨r, 0 + 0, none⟩ = some (.string s)) (h2 : w.cell? ⟨r, 0 + 1, none⟩ = some (.int .i64 p)) (hb : D.Base w) :
    Calls Tryz.prog 162 #[.pointer (some ⟨r, 0, none⟩)] w (RetV w (RunV s p)) := by
  refine enter Tryz.func162 rfl Tryz.ntmps162 rfl (by assumption) ?_
  (repeat (first | intro (b : Nat) | refine go ?_))
  refine C.loopw (Y := Nat) (fun k => [(0, .pointer (some ⟨r, 0, none⟩)), (3, .int .i64 (k : Int)), (4, .int .i64 ((p : Int) + k))]) (fun k => []) (fun k => p + k ≤ s.size ∧ ∀ i, i < k → isD s (p + i) = true) (fun k => s.size - p - k) 0 ⟨hp, fun i hi => (by omega)⟩ (fun k hy => ?_)
  have e1 : ((p : Int) + (k : Int)).toNat = p + k := by omega
  by_cases hlt : p + k < s.size
  · cases hd : isD s (p + k)
    · (repeat' (first | intro (b : Nat) | refine go ?_ | (refine br ?_ ?_ <;> first | exact trivial | intro hq) | refine L.call (h := by intro W hW; apply rvb hd (e1 ▸ a_isD s _ W hW.base)) (k := ?_)))
      (refine retw ?_)
      exact ⟨k, rfl, hy.2, hd⟩
    · (repeat' (first | intro (b : Nat) | refine go ?_ | (refine br ?_ ?_ <;> first | exact trivial | intro hq) | refine L.call (h := by intro W hW; apply rvb hd (e1 ▸ a_isD s _ W hW.base)) (k := ?_)))
      refine X.roundw (k + 1) (⟨by omega, fun i hi => by
        by_cases e : i = k
        · subst e; exact hd
        · exact hy.2 i (by omega)⟩) (by omega)
  · (repeat' (first | intro (b : Nat) | refine go ?_ | (refine br ?_ ?_ <;> first | exact trivial | intro hq)))
    (refine retw ?_)
    refine ⟨k, rfl, hy.2, ?_⟩
    cases hd : isD s (p + k) with
    | false => rfl
    | true => exact (hlt (isD_lt hd)).elim

theorem run_ge {s : ByteArray} {p j m : Nat} (h1 : ∀ i, i < j → isD s (p + i) = true) (h2 : isD s (p + j) = false) : (allD s p m = true ↔ m ≤ j) := by
  rw [allD_iff]
  constructor
  · intro h
    refine Nat.le_of_not_lt fun hlt => ?_
    have := h j hlt
    rw [h2] at this
    cases this
  · exact fun h i hi => h1 i (by omega)

theorem a_number_no (w0 : World) (F : SH) (r : Nat) (s : ByteArray) (p m : Nat) (hs : s.size ≤ 1000000000000) (hp : p ≤ s.size) (hm : m ≤ 6) (h : allD s p m = false) (w : World) (hst : St w0 ((r, rdB s p) :: F) w) :
    Calls Tryz.prog 104 #[.pointer (some ⟨r, 0, none⟩), .int .i64 (m : Int)] w (Turns w0 (.tuple #[.int .i64 0, .bool false]) ((r, rdB s p) :: F)) := by
  refine enterl Tryz.func104 rfl Tryz.ntmps104 rfl hst ?_
  (repeat (first | intro (b : Nat) | refine go ?_))
  (refine L.vcall (h := by intro W hW; exact a_run r s p hs hp W (hW.cell (List.Mem.head _) rfl) (hW.cell (List.Mem.head _) rfl) hW.base) (k := ?_); intro v hR)
  obtain ⟨j, rfl, hj1, hj2⟩ := hR
  have hjm : ¬ m ≤ j := fun hle => by
    have := (run_ge hj1 hj2 (m := m)).2 hle
    rw [h] at this
    cases this
  (repeat' (first | intro (b : Nat) | refine go ?_ | (refine br ?_ ?_ <;> first | exact trivial | intro hq)))
  (refine rett rfl)

theorem a_number_yes (w0 : World) (F : SH) (r : Nat) (s : ByteArray) (p m : Nat) (hs : s.size ≤ 1000000000000) (hp : p ≤ s.size) (hm : m ≤ 6) (h : allD s p m = true) (w : World) (hst : St w0 ((r, rdB s p) :: F) w) :
    Calls Tryz.prog 104 #[.pointer (some ⟨r, 0, none⟩), .int .i64 (m : Int)] w (Turns w0 (.tuple #[.int .i64 (numL s p m), .bool true]) ((r, rdB s ((p : Int) + m)) :: F)) := by
  refine enterl Tryz.func104 rfl Tryz.ntmps104 rfl hst ?_
  (repeat (first | intro (b : Nat) | refine go ?_))
  (refine L.vcall (h := by intro W hW; exact a_run r s p hs hp W (hW.cell (List.Mem.head _) rfl) (hW.cell (List.Mem.head _) rfl) hW.base) (k := ?_); intro v hR)
  obtain ⟨j, rfl, hj1, hj2⟩ := hR
  have hjm : m ≤ j := (run_ge hj1 hj2 (m := m)).1 h
  (repeat' (first | intro (b : Nat) | refine go ?_ | (refine br ?_ ?_ <;> first | exact trivial | intro hq)))
  refine C.loopw (Y := Nat) (fun k => [(0, .pointer (some ⟨r, 0, none⟩)), (6, .int .i64 (numL s p k)), (11, .int .i64 (m : Int)), (12, .int .i64 (k : Int))]) (fun k => (r, rdB s ((p : Int) + k)) :: F) (fun k => k ≤ m) (fun k => m - k) 0 (by omega) (fun k hy => ?_)
  have hk : allD s p k = true := allD_iff.2 fun i hi => hj1 i (by omega)
  have hbd := numL_bd hk
  have hp10 := p10_le (k := k) (by omega)
  by_cases hlt : k < m
  · have hdk := hj1 k (by omega)
    have hsz := isD_lt hdk
    have e1 : ((p : Int) + (k : Int)).toNat = p + k := by omega
    have hb1 : 48 ≤ bt s ((p : Int) + (k : Int)).toNat ∧ bt s ((p : Int) + (k : Int)).toNat ≤ 57 := by rw [e1]; exact isD_iff.1 hdk
    have e2 : numL s p (k + 1) = 10 * numL s p k + (bt s ((p : Int) + (k : Int)).toNat - 48) := by rw [e1]; rfl
    clear hj1 hj2
    (repeat' (first | intro (b : Nat) | refine go ?_ | (refine br ?_ ?_ <;> first | exact trivial | intro hq) | refine gg ?_ | (apply C.draww (id := 6) 14 [none, none, none, none, none, some _, none, none, none, some _, none, none, none, none])))
    refine X.roundw (k + 1) (by omega) (by omega)
  · obtain rfl : k = m := by omega
    clear hj1 hj2
    (repeat' (first | intro (b : Nat) | refine go ?_ | (refine br ?_ ?_ <;> first | exact trivial | intro hq)))
    (refine rett rfl)

theorem a_take_no (w0 : World) (F : SH) (r : Nat) (s : ByteArray) (p : Nat) (c : Int) (hs : s.size ≤ 1000000000000) (hp : p ≤ s.size) (h : isB s p c = false) (w : World) (hst : St w0 ((r, rdB s p) :: F) w) :
    Calls Tryz.prog 159 #[.pointer (some ⟨r, 0, none⟩), .int .u8 c] w (Turns w0 (.bool false) ((r, rdB s p) :: F)) := by
  have h0 : decide ((p : Int) < 0) = false := decide_eq_false (by omega)
  have e1 : ((p : Int)).toNat = p := by omega
  by_cases hlt : p < s.size
  · have h1 : decide ((s.size : Int) ≤ (p : Int)) = false := decide_eq_false (by omega)
    have h2 : ¬ bt s ((p : Int)).toNat = c := by
      rw [e1]
      intro hc
      simp [isB, hlt, hc] at h
    refine enterl Tryz.func159 rfl Tryz.ntmps159 rfl hst ?_
    (repeat' (first | intro (b : Nat) | refine go ?_ | (refine br ?_ ?_ <;> first | exact trivial | intro hq) | refine gg ?_ | (apply C.draww (id := 1) 30 [none, none, none, some _, none, none, none, none, none, some _, none, none, none, some _, none, none, none, none, none, none, none, some _, none, none, none, some _, none, none, none, none])))
    (refine rett rfl)
  · have h1 : decide ((s.size : Int) ≤ (p : Int)) = true := decide_eq_true (by omega)
    refine enterl Tryz.func159 rfl Tryz.ntmps159 rfl hst ?_
    (repeat' (first | intro (b : Nat) | refine go ?_ | (refine br ?_ ?_ <;> first | exact trivial | intro hq) | refine gg ?_ | (apply C.draww (id := 1) 30 [none, none, none, some _, none, none, none, none, none, some _, none, none, none, some _, none, none, none, none, none, none, none, some _, none, none, none, some _, none, none, none, none])))
    (refine rett rfl)

theorem a_take_yes (w0 : World) (F : SH) (r : Nat) (s : ByteArray) (p : Nat) (c : Int) (hs : s.size ≤ 1000000000000) (h : isB s p c = true) (w : World) (hst : St w0 ((r, rdB s p) :: F) w) :
    Calls Tryz.prog 159 #[.pointer (some ⟨r, 0, none⟩), .int .u8 c] w (Turns w0 (.bool true) ((r, rdB s ((p : Int) + 1)) :: F)) := by
  have h0 : decide ((p : Int) < 0) = false := decide_eq_false (by omega)
  have e1 : ((p : Int)).toNat = p := by omega
  simp only [isB, decide_eq_true_eq] at h
  obtain ⟨hlt, hc⟩ := h
  have h1 : decide ((s.size : Int) ≤ (p : Int)) = false := decide_eq_false (by omega)
  have h2 : bt s ((p : Int)).toNat = c := by rw [e1]; exact hc
  refine enterl Tryz.func159 rfl Tryz.ntmps159 rfl hst ?_
  (repeat' (first | intro (b : Nat) | refine go ?_ | (refine br ?_ ?_ <;> first | exact trivial | intro hq) | refine gg ?_ | (apply C.draww (id := 1) 30 [none, none, none, some _, none, none, none, none, none, some _, none, none, none, some _, none, none, none, none, none, none, none, some _, none, none, none, some _, none, none, none, none])))
  (refine rett rfl)

theorem a_done (r : Nat) (s : ByteArray) (p : Int) (w : World) (h1 : w.cell? ⟨r, 0 + 0, none⟩ = some (.string s)) (h2 : w.cell? ⟨r, 0 + 1, none⟩ = some (.int .i64 p)) (hb : D.Base w) :
    Calls Tryz.prog 99 #[.pointer (some ⟨r, 0, none⟩)] w fun e w' => e = .returned (.bool (decide (p = s.size))) ∧ Below w.heap.size w w' := by
  refine enter Tryz.func99 rfl Tryz.ntmps99 rfl (by assumption) ?_
  (repeat' (first | intro (b : Nat) | refine go ?_ | (refine br ?_ ?_ <;> first | exact trivial | intro hq) | refine gg ?_ | (apply C.draww (id := 1) 11 [none, none, none, some _, none, none, none, some _, none, none, none])))
  (refine ret ?_; try exact rfl)

theorem a_digits1 (n : Int) (h : 0 ≤ n ∧ n ≤ 1000000000) (w : World) (hb : D.Base w) : Calls Tryz.prog 173 #[.int .i64 n, .int .i64 1] w fun e w' => e = .returned (.string (strOfNums (digL n 1))) ∧ Below w.heap.size w w' := by
  refine enter Tryz.func173 rfl Tryz.ntmps173 rfl (by assumption) ?_
  (repeat (first | intro (b : Nat) | refine go ?_))
  refine C.rounds 6 ?_
  (repeat' (first | intro (b : Nat) | refine go ?_ | (refine br ?_ ?_ <;> first | exact trivial | intro hq)))
  (refine ret ?_; try exact rfl)

theorem a_digits2 (n : Int) (h : 0 ≤ n ∧ n ≤ 1000000000) (w : World) (hb : D.Base w) : Calls Tryz.prog 173 #[.int .i64 n, .int .i64 2] w fun e w' => e = .returned (.string (strOfNums (digL n 2))) ∧ Below w.heap.size w w' := by
  refine enter Tryz.func173 rfl Tryz.ntmps173 rfl (by assumption) ?_
  (repeat (first | intro (b : Nat) | refine go ?_))
  refine C.rounds 6 ?_
  (repeat' (first | intro (b : Nat) | refine go ?_ | (refine br ?_ ?_ <;> first | exact trivial | intro hq)))
  (refine ret ?_; try exact rfl)

theorem a_digits3 (n : Int) (h : 0 ≤ n ∧ n ≤ 1000000000) (w : World) (hb : D.Base w) : Calls Tryz.prog 173 #[.int .i64 n, .int .i64 3] w fun e w' => e = .returned (.string (strOfNums (digL n 3))) ∧ Below w.heap.size w w' := by
  refine enter Tryz.func173 rfl Tryz.ntmps173 rfl (by assumption) ?_
  (repeat (first | intro (b : Nat) | refine go ?_))
  refine C.rounds 6 ?_
  (repeat' (first | intro (b : Nat) | refine go ?_ | (refine br ?_ ?_ <;> first | exact trivial | intro hq)))
  (refine ret ?_; try exact rfl)

theorem a_digits4 (n : Int) (h : 0 ≤ n ∧ n ≤ 1000000000) (w : World) (hb : D.Base w) : Calls Tryz.prog 173 #[.int .i64 n, .int .i64 4] w fun e w' => e = .returned (.string (strOfNums (digL n 4))) ∧ Below w.heap.size w w' := by
  refine enter Tryz.func173 rfl Tryz.ntmps173 rfl (by assumption) ?_
  (repeat (first | intro (b : Nat) | refine go ?_))
  refine C.rounds 6 ?_
  (repeat' (first | intro (b : Nat) | refine go ?_ | (refine br ?_ ?_ <;> first | exact trivial | intro hq)))
  (refine ret ?_; try exact rfl)

end D
end Go.Proofs.YtboglbdhibcacaaGreatDoor
