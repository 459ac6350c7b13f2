/- Walks: a whole period that the program reads; texts that are cut. -/
import Derived.Test.YtpgbmohocfcjpaaGreatDoorPa
namespace Go.Proofs.YtpgbmohocfcjpaaGreatDoor
set_option linter.unusedVariables false
set_option linter.unusedSimpArgs false
set_option maxRecDepth 100000
set_option maxHeartbeats 1000000
namespace D
open Go.RowKit
open Go.PlainAid (bt bt_nonneg bt_le bt_end)
attribute [local irreducible] Calls

theorem a_period (w0 : World) (F : SH) (r : Nat) (s : ByteArray) (hs : s.size ≤ 1000000000000) (w : World) (hst : St w0 ((r, rdB s 0) :: F) w) :
    Calls Tryz.prog 123 #[.pointer (some ⟨r, 0, none⟩)] w (TurnsR w0 (PerR w0 r s F)) := by
  cases h0 : isB s 0 80 with
  | false => exact a_period_0 w0 F r s hs h0 w hst
  | true =>
    cases hw : isWeeks s with
    | false => exact a_period_p w0 F r s hs h0 hw w hst
    | true => exact a_period_w w0 F r s hs h0 hw w hst

/-- A period that is read, as a value. -/
def perT : Option P6 → Value
  | some v => .tuple #[.agg (c6 v).toArray, .bool true]
  | none => .tuple #[.agg (c6 P6.zero).toArray, .bool false]

theorem a_PeriodFrom (s : ByteArray) (hs : s.size ≤ 1000000000000) (w : World) (hb : D.Base w) : Calls Tryz.prog 67 #[.string s] w fun e w' => e = .returned (perT (perR s)) ∧ Below w.heap.size w w' := by
  rw [← per_eq]
  refine enter Tryz.func67 rfl Tryz.ntmps67 rfl (by assumption) ?_
  (repeat (first | intro (b : Nat) | refine go ?_))
  rename_i b1
  revert b
  intro rb
  (refine L.tcallR rb (h := by intro W hW; exact a_period _ _ rb s hs W hW) (k := ?_); intro v H hR)
  obtain ⟨pos, x, ok, rfl, rfl, hok⟩ := hR
  unfold PerOk at hok
  cases ok
  · rw [if_neg (by simp)] at hok
    (repeat' (first | intro (b : Nat) | refine go ?_ | (refine br ?_ ?_ <;> first | exact trivial | intro hq)))
    (refine ret ?_)
    rw [hok]; rfl
  · by_cases hp : pos = s.size
    · have hdv : decide ((pos : Int) = s.size) = true := decide_eq_true (by omega)
      rw [if_pos ⟨rfl, hp⟩] at hok
      (repeat' (first | intro (b : Nat) | refine go ?_ | (refine br ?_ ?_ <;> first | exact trivial | intro hq) | refine L.call (h := by intro W hW; apply rvb hdv (a_done rb s pos W (hW.cell (.tail _ (List.Mem.head _)) rfl) (hW.cell (.tail _ (List.Mem.head _)) rfl) hW.base)) (k := ?_)))
      (refine ret ?_)
      rw [hok]; rfl
    · have hdv : decide ((pos : Int) = s.size) = false := decide_eq_false (by omega)
      rw [if_neg (by simp [hp])] at hok
      (repeat' (first | intro (b : Nat) | refine go ?_ | (refine br ?_ ?_ <;> first | exact trivial | intro hq) | refine L.call (h := by intro W hW; apply rvb hdv (a_done rb s pos W (hW.cell (.tail _ (List.Mem.head _)) rfl) (hW.cell (.tail _ (List.Mem.head _)) rfl) hW.base)) (k := ?_)))
      (refine ret ?_)
      rw [hok]; rfl

end D
end Go.Proofs.YtpgbmohocfcjpaaGreatDoor

namespace Go.Proofs.YtpgbmohocfcjpaaGreatDoor
set_option linter.unusedVariables false
set_option linter.unusedSimpArgs false
set_option maxRecDepth 100000
set_option maxHeartbeats 1000000
namespace D
open Go.RowKit
open Go.PlainAid (bt bt_nonneg bt_le bt_end)
attribute [local irreducible] Calls

/-- The one slash of a text. -/
def oneSl (s : ByteArray) (j : Nat) : Prop := j < s.size ∧ bt s j = 47 ∧ ∀ i, i < s.size → bt s i = 47 → i = j
/-- A slash of a text. -/
def isSl (s : ByteArray) (j : Nat) : Prop := j < s.size ∧ bt s j = 47

theorem get_sl {s : ByteArray} {i : Nat} (h : i < s.size) : (s[i]! == (47 : Int).toNat.toUInt8) = true ↔ bt s i = 47 := by
  have e : s[i]! = s[i]'h := by simp [getElem!_def, h]
  rw [e, ← Go.PlainAid.get_bt s i h, beq_iff_eq]
  constructor
  · intro hh; rw [hh]; rfl
  · intro hh
    apply UInt8.toNat_inj.1
    have : (47 : Int).toNat.toUInt8.toNat = 47 := rfl
    omega

theorem firstIdx_sl (s : ByteArray) : (∃ j, isSl s j ∧ firstIdx s (47 : Int).toNat.toUInt8 = (j : Int)) ∨ ((∀ j, ¬ isSl s j) ∧ firstIdx s (47 : Int).toNat.toUInt8 = -1) := by
  unfold firstIdx
  cases hf : (List.range s.size).find? fun i => s[i]! == (47 : Int).toNat.toUInt8 with
  | some i =>
    have h1 := List.find?_some hf
    have h2 := List.mem_range.1 (List.mem_of_find?_eq_some hf)
    exact .inl ⟨i, ⟨h2, (get_sl h2).1 h1⟩, rfl⟩
  | none =>
    have h1 := List.find?_eq_none.1 hf
    refine .inr ⟨fun j hj => ?_, rfl⟩
    exact h1 j (List.mem_range.2 hj.1) ((get_sl hj.1).2 hj.2)

/-- What the program cuts. -/
def CutP (s : ByteArray) (v : Value) : Prop := (∃ j, isSl s j ∧ v = .tuple #[.string (s.extract 0 j), .string (s.extract (j + 1) s.size), .bool true]) ∨ ((∀ j, ¬ isSl s j) ∧ v = .tuple #[.string s, .string ⟨#[]⟩, .bool false])
/-- What the reference cuts. -/
def CutR (s : ByteArray) (v : Value) : Prop := (∃ j, oneSl s j ∧ v = .tuple #[.string (s.extract 0 j), .string (s.extract (j + 1) s.size), .bool true]) ∨ ((∀ j, ¬ oneSl s j) ∧ v = .tuple #[.string ⟨#[]⟩, .string ⟨#[]⟩, .bool false])

theorem a_IndexByteString (s : ByteArray) (w : World) : (callFunc 213 #[.string s, .int .u8 47]).run Tryz.prog w = .ok (.value (.int .i64 (firstIdx s (47 : Int).toNat.toUInt8))) w := by
  rw [run_callFunc_extern (fn := Tryz.f213) (e := Extern.BytealgIndexByte.indexByte) (by kernel_rfl) (by kernel_rfl) (by kernel_rfl) (by kernel_rfl) (by kernel_rfl), run_indexByte_string]
  rfl

theorem a_IndexByte (s : ByteArray) (w : World) (hb : D.Base w) : Calls Tryz.prog 199 #[.string s, .int .u8 47] w fun e w' => e = .returned (.int .i64 (firstIdx s (47 : Int).toNat.toUInt8)) ∧ Below w.heap.size w w' := by
  refine enter Tryz.func199 rfl Tryz.ntmps199 rfl (by assumption) ?_
  (repeat (first | intro (b : Nat) | refine go ?_))
  refine L.ext (h := fun w => a_IndexByteString s w) (k := ?_)
  (repeat (first | intro (b : Nat) | refine go ?_))
  (refine ret ?_; try exact rfl)

theorem a_Index (s sep : ByteArray) (h1 : sep.size = 1) (h47 : bt sep (Int.toNat 0) = 47) (w : World) (hb : D.Base w) : Calls Tryz.prog 173 #[.string s, .string sep] w (RetV w fun v => (∃ j, isSl s j ∧ v = .int .i64 (j : Int)) ∨ ((∀ j, ¬ isSl s j) ∧ v = .int .i64 (-1))) := by
  have hI := a_IndexByte s
  have hF := firstIdx_sl s
  have hz : sep = s → isSl s 0 := fun e => by subst e; exact ⟨by omega, h47⟩
  generalize firstIdx s (47 : Int).toNat.toUInt8 = N at *
  rw [← h47] at hI
  refine enter Tryz.func173 rfl Tryz.ntmps173 rfl (by assumption) ?_
  (repeat' (first | intro (b : Nat) | refine go ?_ | (refine br ?_ ?_ <;> first | exact trivial | intro hq) | refine L.call (h := by intro W hW; apply hI W hW.base) (k := ?_)))
  all_goals (refine retw ?_)
  · exact .inl ⟨0, hz hq, rfl⟩
  · rcases hF with ⟨j, h2, rfl⟩ | ⟨h2, rfl⟩
    · exact .inl ⟨j, h2, rfl⟩
    · exact .inr ⟨h2, rfl⟩

theorem a_LCut (s sep : ByteArray) (hs : s.size ≤ 1000000000000) (h1 : sep.size = 1) (h47 : bt sep (Int.toNat 0) = 47) (w : World) (hb : D.Base w) : Calls Tryz.prog 122 #[.string s, .string sep] w (RetV w (CutP s)) := by
  refine enter Tryz.func122 rfl Tryz.ntmps122 rfl (by assumption) ?_
  (repeat (first | intro (b : Nat) | refine go ?_))
  (refine L.vcall (h := by intro W hW; exact a_Index s sep h1 h47 W hW.base) (k := ?_); intro v hR)
  rcases hR with ⟨j, hj, rfl⟩ | ⟨hj, rfl⟩
  · have hj1 := hj.1
    (repeat' (first | intro (b : Nat) | refine go ?_ | (refine br ?_ ?_ <;> first | exact trivial | intro hq) | refine gg ?_ | (apply C.draww (id := 3) 12 [none, none, none, none, none, none, none, none, none, none, none, none])))
    (refine retw ?_)
    refine .inl ⟨j, hj, ?_⟩
    rw [show ((j : Int) + (sep.size : Int)).toNat = j + 1 by omega, show ((j : Int)).toNat = j by omega]
    rfl
  · (repeat' (first | intro (b : Nat) | refine go ?_ | (refine br ?_ ?_ <;> first | exact trivial | intro hq) | refine gg ?_ | (apply C.draww (id := 3) 12 [none, none, none, none, none, none, none, none, none, none, none, none])))
    (refine retw ?_)
    exact .inr ⟨hj, rfl⟩

theorem a_Cut (s sep : ByteArray) (hs : s.size ≤ 1000000000000) (h1 : sep.size = 1) (h47 : bt sep (Int.toNat 0) = 47) (w : World) (hb : D.Base w) : Calls Tryz.prog 66 #[.string s, .string sep] w (RetV w (CutP s)) := by
  refine enter Tryz.func66 rfl Tryz.ntmps66 rfl (by assumption) ?_
  (repeat (first | intro (b : Nat) | refine go ?_))
  (refine L.vcall (h := by intro W hW; exact a_LCut s sep hs h1 h47 W hW.base) (k := ?_); intro v hR)
  rcases hR with ⟨j, hj, rfl⟩ | ⟨hj, rfl⟩
  · (repeat' (first | intro (b : Nat) | refine go ?_ | (refine br ?_ ?_ <;> first | exact trivial | intro hq)))
    (refine retw ?_)
    exact .inl ⟨j, hj, rfl⟩
  · (repeat' (first | intro (b : Nat) | refine go ?_ | (refine br ?_ ?_ <;> first | exact trivial | intro hq)))
    (refine retw ?_)
    exact .inr ⟨hj, rfl⟩

theorem b_Cut (s : ByteArray) (hs : s.size ≤ 1000000000000) (w : World) (hb : D.Base w) : Calls Tryz.prog 64 #[.string s] w (RetV w (CutR s)) := by
  refine enter Tryz.func64 rfl Tryz.ntmps64 rfl (by assumption) ?_
  (repeat (first | intro (b : Nat) | refine go ?_))
  refine C.loopw (Y := Nat × Int) (fun k => [(0, .string s), (5, .int .i64 k.2), (6, .int .i64 (k.1 : Int))]) (fun k => []) (fun k => k.1 ≤ s.size ∧ ((k.2 = -1 ∧ ∀ i, i < k.1 → ¬ bt s i = 47) ∨ ∃ j : Nat, k.2 = (j : Int) ∧ j < k.1 ∧ bt s j = 47 ∧ ∀ i, i < k.1 → bt s i = 47 → i = j)) (fun k => s.size - k.1) (0, -1) ⟨Nat.zero_le _, .inl ⟨rfl, fun i hi => by omega⟩⟩ (fun k hy => ?_)
  generalize k.1 = q at *
  generalize k.2 = f at *
  obtain ⟨hq, hf⟩ := hy
  have e1 : ((q : Int)).toNat = q := by omega
  by_cases hlt : q < s.size
  · by_cases h47 : bt s ((q : Int)).toNat = 47
    · rcases hf with ⟨rfl, hno⟩ | ⟨j, rfl, hj1, hj2, hj3⟩
      · (repeat' (first | intro (b : Nat) | refine go ?_ | (refine br ?_ ?_ <;> first | exact trivial | intro hq) | refine gg ?_ | (apply C.draww (id := 11) 10 [none, none, none, none, none, none, none, none, none, none])))
        refine X.roundw ((q + 1, (q : Int))) (⟨hlt, .inr ⟨q, rfl, Nat.lt_succ_self _, by rw [← h47, e1], fun i hi h => by
          rcases (by omega : i < q ∨ i = q) with h2 | h2
          · exact (hno i h2 h).elim
          · exact h2⟩⟩) (by show s.size - (q + 1) < s.size - q; omega)
      · (repeat' (first | intro (b : Nat) | refine go ?_ | (refine br ?_ ?_ <;> first | exact trivial | intro hq) | refine gg ?_ | (apply C.draww (id := 11) 10 [none, none, none, none, none, none, none, none, none, none])))
        (refine retw ?_)
        refine .inr ⟨fun i hi => ?_, rfl⟩
        obtain ⟨a1, a2, a3⟩ := hi
        have b1 := a3 j (by omega) hj2
        have b2 := a3 q hlt (by rw [← h47, e1])
        omega
    · (repeat' (first | intro (b : Nat) | refine go ?_ | (refine br ?_ ?_ <;> first | exact trivial | intro hq) | refine gg ?_ | (apply C.draww (id := 11) 10 [none, none, none, none, none, none, none, none, none, none])))
      refine X.roundw ((q + 1, f)) (⟨hlt, by
        rcases hf with ⟨h1, hno⟩ | ⟨j, h1, hj1, hj2, hj3⟩
        · refine .inl ⟨h1, fun i hi h => ?_⟩
          rcases (by omega : i < q ∨ i = q) with h2 | h2
          · exact hno i h2 h
          · subst h2; rw [e1] at h47; exact h47 h
        · refine .inr ⟨j, h1, by show j < q + 1; omega, hj2, fun i hi h => ?_⟩
          rcases (by omega : i < q ∨ i = q) with h2 | h2
          · exact hj3 i h2 h
          · subst h2; rw [e1] at h47; exact (h47 h).elim⟩) (by show s.size - (q + 1) < s.size - q; omega)
  · obtain rfl : q = s.size := by omega
    rcases hf with ⟨rfl, hno⟩ | ⟨j, rfl, hj1, hj2, hj3⟩
    · (repeat' (first | intro (b : Nat) | refine go ?_ | (refine br ?_ ?_ <;> first | exact trivial | intro hq) | refine gg ?_ | (apply C.draww (id := 11) 10 [none, none, none, none, none, none, none, none, none, none])))
      (refine retw ?_)
      exact .inr ⟨fun i hi => hno i hi.1 hi.2.1, rfl⟩
    · (repeat' (first | intro (b : Nat) | refine go ?_ | (refine br ?_ ?_ <;> first | exact trivial | intro hq) | refine gg ?_ | (apply C.draww (id := 11) 10 [none, none, none, none, none, none, none, none, none, none])))
      (refine retw ?_)
      refine .inl ⟨j, ⟨hj1, hj2, hj3⟩, ?_⟩
      rw [show ((j : Int) + 1).toNat = j + 1 by omega, show ((j : Int)).toNat = j by omega]
      rfl

end D
end Go.Proofs.YtpgbmohocfcjpaaGreatDoor
