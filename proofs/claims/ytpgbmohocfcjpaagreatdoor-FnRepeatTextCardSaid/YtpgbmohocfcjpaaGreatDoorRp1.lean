/- Walks: valid repeats, of both. -/
import Derived.Test.YtpgbmohocfcjpaaGreatDoorSp2
import Derived.Test.YtpgbmohocfcjpaaGreatDoorSp3
namespace Go.Proofs.YtpgbmohocfcjpaaGreatDoor
set_option linter.unusedVariables false
set_option linter.unusedSimpArgs false
set_option maxRecDepth 100000
set_option maxHeartbeats 1000000
namespace D
open Go.RowKit
open Go.PlainAid (bt bt_nonneg bt_le bt_end)
attribute [local irreducible] Calls

section
variable {P : Program} {e : Env} {d : Option Tmp} {ty : TypeId} {pos : String} {af : Array Edge} {g : Option (Nat × Bool)}
theorem PV.max6 {xs : List Operand} {ts : Array TypeId} {a b c d' e' f : Int} {k : IntKind} (hv : evs e xs = some [.int k a, .int k b, .int k c, .int k d', .int k e', .int k f]) : PV P ⟨d, .call ⟨.builtin .max, xs.toArray, ts⟩, ty, pos, af, g⟩ e (.int k (Max.max (Max.max (Max.max (Max.max (Max.max a b) c) d') e') f)) := .builtin hv fun cs w => by
  have key : ∀ (m n : Int) (w : World), (Builtin.max2 (.int k m) (.int k n)).run P w = .ok (.int k (Max.max m n)) w := fun m n w => by
    simp [Builtin.max2]
    rw [Int.max_def]
    split <;> split <;> omega
  simp [Go.builtin, Builtin.max_, key]
end

theorem a_most (p : P6) (w : World) (hb : D.Base w) : Calls Tryz.prog 99 #[.agg (c6 p).toArray] w fun e w' => e = .returned (.int .i64 (max (max (max (max (max p.a p.b) p.c) p.d) p.e) p.f)) ∧ Below w.heap.size w w' := by
  refine enter Tryz.func99 rfl Tryz.ntmps99 rfl (by assumption) ?_
  (repeat (first | intro (b : Nat) | refine go ?_))
  refine L.p rfl rfl (PV.max6 rfl) ?_
  (repeat (first | intro (b : Nat) | refine go ?_))
  (refine ret ?_; try exact rfl)

/-- Is it a valid repeat? -/
def repOk (S : SR) (p : P6) (n : Int) : Bool := sval S.y S.m S.d S.h S.i S.s S.k S.o && perV p.a p.b p.c p.d p.e p.f && inR (max (max (max (max (max p.a p.b) p.c) p.d) p.e) p.f) 1 99 && inR n 0 99
/-- A repeat, as a value. -/
abbrev ra (S : SR) (p : P6) (n : Int) : Value := .agg #[.int .i64 S.y, .int .i64 S.m, .int .i64 S.d, .int .i64 S.h, .int .i64 S.i, .int .i64 S.s, .int .i64 S.k, .int .i64 S.o, .int .i64 p.a, .int .i64 p.b, .int .i64 p.c, .int .i64 p.d, .int .i64 p.e, .int .i64 p.f, .int .i64 n]

theorem a_RepeatValid (S : SR) (p : P6) (n : Int) (w : World) (hb : D.Base w) : Calls Tryz.prog 45 #[ra S p n] w fun e w' => e = .returned (.bool (repOk S p n)) ∧ Below w.heap.size w w' := by
  have hM := a_most p
  have hm := a_within (max (max (max (max (max p.a p.b) p.c) p.d) p.e) p.f) 1 99
  have hn := a_within n 0 99
  unfold repOk
  generalize max (max (max (max (max p.a p.b) p.c) p.d) p.e) p.f = M at *
  cases h1 : sval S.y S.m S.d S.h S.i S.s S.k S.o <;> cases h2 : perV p.a p.b p.c p.d p.e p.f <;> cases h3 : inR M 1 99 <;> cases h4 : inR n 0 99
  all_goals
    rw [h3] at hm
    rw [h4] at hn
    refine enter Tryz.func45 rfl Tryz.ntmps45 rfl (by assumption) ?_
    (repeat' (first | intro (b : Nat) | refine go ?_ | (refine br ?_ ?_ <;> first | exact trivial | intro hq) | refine L.call (h := by intro W hW; first | apply rvb h1 (a_StampValid _ _ _ _ _ _ _ _ W hW.base) | apply rvb h2 (a_PeriodValid _ _ _ _ _ _ W hW.base) | apply hM W hW.base | apply hm W hW.base | apply hn W hW.base) (k := ?_)))
    (refine ret ?_; try exact rfl)

theorem b_RepeatValid (S : SR) (p : P6) (n : Int) (w : World) (hb : D.Base w) : Calls Tryz.prog 91 #[ra S p n] w fun e w' => e = .returned (.bool (repOk S p n)) ∧ Below w.heap.size w w' := by
  have hn := b_in n 0 99
  unfold repOk
  cases h1 : sval S.y S.m S.d S.h S.i S.s S.k S.o
  · refine enter Tryz.func91 rfl Tryz.ntmps91 rfl (by assumption) ?_
    (repeat' (first | intro (b : Nat) | refine go ?_ | (refine br ?_ ?_ <;> first | exact trivial | intro hq) | refine L.call (h := by intro W hW; apply rvb h1 (b_StampValid _ _ _ _ _ _ _ _ W hW.base)) (k := ?_)))
    (refine ret ?_; try exact rfl)
  cases h2 : perV p.a p.b p.c p.d p.e p.f
  · refine enter Tryz.func91 rfl Tryz.ntmps91 rfl (by assumption) ?_
    (repeat' (first | intro (b : Nat) | refine go ?_ | (refine br ?_ ?_ <;> first | exact trivial | intro hq) | refine L.call (h := by intro W hW; first | apply rvb h1 (b_StampValid _ _ _ _ _ _ _ _ W hW.base) | apply rvb h2 (b_PeriodValid _ _ _ _ _ _ W hW.base)) (k := ?_)))
    (refine ret ?_; try exact rfl)
  cases h4 : inR n 0 99
  · rw [h4] at hn
    refine enter Tryz.func91 rfl Tryz.ntmps91 rfl (by assumption) ?_
    (repeat' (first | intro (b : Nat) | refine go ?_ | (refine br ?_ ?_ <;> first | exact trivial | intro hq) | refine L.call (h := by intro W hW; first | apply rvb h1 (b_StampValid _ _ _ _ _ _ _ _ W hW.base) | apply rvb h2 (b_PeriodValid _ _ _ _ _ _ W hW.base) | apply hn W hW.base) (k := ?_)))
    (refine ret ?_; try exact rfl)
    simp [tupleOf]
  rw [h4] at hn
  have hv := perV_iff.1 h2
  refine enter Tryz.func91 rfl Tryz.ntmps91 rfl (by assumption) ?_
  (repeat' (first | intro (b : Nat) | refine go ?_ | (refine br ?_ ?_ <;> first | exact trivial | intro hq) | refine L.call (h := by intro W hW; first | apply rvb h1 (b_StampValid _ _ _ _ _ _ _ _ W hW.base) | apply rvb h2 (b_PeriodValid _ _ _ _ _ _ W hW.base) | apply hn W hW.base) (k := ?_)))
  (refine L.slcall (h := by intro W hW; exact b_Parts _ _ _ _ _ _ W hW.base) (k := ?_); intro b)
  (repeat (first | intro (b : Nat) | refine go ?_))
  refine C.rounds 8 ?_
  (repeat' (first | intro (b : Nat) | refine go ?_ | (refine br ?_ ?_ <;> first | exact trivial | intro hq)))
  all_goals (refine ret ?_; try exact rfl)
  all_goals
    refine congrArg Value.bool ?_
    simp only [Bool.true_and, Bool.and_true]
    rw [Bool.eq_iff_iff, inR_true]
    simp
    omega

end D
end Go.Proofs.YtpgbmohocfcjpaaGreatDoor

namespace Go.Proofs.YtpgbmohocfcjpaaGreatDoor
set_option linter.unusedVariables false
set_option linter.unusedSimpArgs false
set_option maxRecDepth 100000
set_option maxHeartbeats 1000000
namespace D
open Go.RowKit
open Go.PlainAid (bt bt_nonneg bt_le bt_end)
attribute [local irreducible] Calls

abbrev repNo : Value := .tuple #[ra SR.no P6.zero 0, .bool false]
/-- A repeat that is read, as a value. -/
noncomputable def repV (S : SR) (p : Option P6) (n : Int) : Value :=
  match p with
  | none => repNo
  | some v => if S.ok = true ∧ repOk S v n = true then .tuple #[ra S v n, .bool true] else repNo
def headOk (s : ByteArray) : Prop := isB s 0 82 = true ∧ (1 ≤ runN s 1 ∧ runN s 1 ≤ 2) ∧ isB s (1 + runN s 1) 47 = true
noncomputable def repAt (s : ByteArray) (k : Nat) : Value := repV (stampR (s.extract (2 + runN s 1) k)) (perR (s.extract (k + 1) s.size)) (numL s 1 (runN s 1))
/-- A slash of the rest. -/
def rSl (s : ByteArray) (k : Nat) : Prop := headOk s ∧ 2 + runN s 1 ≤ k ∧ isSl s k
def RepP (s : ByteArray) (v : Value) : Prop := (∃ k, rSl s k ∧ v = repAt s k) ∨ ((∀ k, ¬ rSl s k) ∧ v = repNo)
/-- The one slash of the rest. -/
def rOne (s : ByteArray) (k : Nat) : Prop := rSl s k ∧ ∀ i, rSl s i → i = k
def RepR (s : ByteArray) (v : Value) : Prop := (∃ k, rOne s k ∧ v = repAt s k) ∨ ((∀ k, ¬ rOne s k) ∧ v = repNo)

theorem repV_no {S : SR} {p : Option P6} {n : Int} (h : S.ok = false ∨ p = none) : repV S p n = repNo := by
  cases p with
  | none => rfl
  | some v =>
    rcases h with h | h
    · show (if S.ok = true ∧ repOk S v n = true then _ else repNo) = repNo
      rw [if_neg (by simp [h])]
    · cases h

/-- Two slashes: no repeat. -/
theorem repAt_two {s : ByteArray} {k : Nat} (hk : rSl s k) (hno : ∀ k, ¬ rOne s k) : repAt s k = repNo := by
  obtain ⟨i, hi, hik⟩ : ∃ i, rSl s i ∧ ¬ i = k := Classical.byContradiction fun h => hno k ⟨hk, fun i h1 => Classical.byContradiction fun h3 => h ⟨i, h1, h3⟩⟩
  have hz := hk.2.2.1
  have hi1 := hi.2.2.1
  have hi2 := hi.2.1
  refine repV_no ?_
  by_cases hlt : i < k
  · refine .inl (bool_no fun h => ?_)
    exact st_noSl h (i - (2 + runN s 1)) (by rw [size_ext (by omega)]; omega) (by rw [bt_extract (by omega) (by omega), show 2 + runN s 1 + (i - (2 + runN s 1)) = i by omega]; exact hi.2.2.2)
  · refine .inr ?_
    cases hp : perR (s.extract (k + 1) s.size) with
    | none => rfl
    | some v => exact (per_noSl hp (i - (k + 1)) (by rw [size_ext (by omega)]; omega) (by rw [bt_extract (by omega) (by omega), show k + 1 + (i - (k + 1)) = i by omega]; exact hi.2.2.2)).elim

theorem l_eqPeriod (p : P6) (w : World) (hb : D.Base w) : Calls Tryz.prog 95 #[.agg (c6 p).toArray, .agg (c6 p).toArray] w fun e w' => e = .returned (.bool true) ∧ Below w.heap.size w w' := by
  refine enter Tryz.func95 rfl Tryz.ntmps95 rfl (by assumption) ?_
  (repeat' (first | intro (b : Nat) | refine go ?_ | (refine br ?_ ?_ <;> first | exact trivial | intro hq)))
  all_goals (refine ret ?_; try exact rfl)

theorem l_eqRepeat (S : SR) (p : P6) (n : Int) (w : World) (hb : D.Base w) : Calls Tryz.prog 40 #[ra S p n, ra S p n] w fun e w' => e = .returned (.bool true) ∧ Below w.heap.size w w' := by
  have hS := l_eqStamp S.y S.m S.d S.h S.i S.s S.k S.o
  have hP := l_eqPeriod p
  refine enter Tryz.func40 rfl Tryz.ntmps40 rfl (by assumption) ?_
  (repeat' (first | intro (b : Nat) | refine go ?_ | (refine br ?_ ?_ <;> first | exact trivial | intro hq) | refine L.call (h := by intro W hW; first | apply hS W hW.base | apply hP W hW.base) (k := ?_)))
  all_goals (refine ret ?_; try exact rfl)

end D
end Go.Proofs.YtpgbmohocfcjpaaGreatDoor
