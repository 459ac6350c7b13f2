/- Walks: periods. -/
import Derived.Test.YtpgbmohocfcjpaaGreatDoorA1
namespace Go.Proofs.YtpgbmohocfcjpaaGreatDoor
set_option linter.unusedVariables false
set_option linter.unusedSimpArgs false
set_option maxRecDepth 100000
set_option maxHeartbeats 1000000
namespace D
open Go.RowKit

def perV (a b c d f g : Int) : Bool := inR a 0 9999 && inR b 0 9999 && inR c 0 9999 && inR d 0 9999 && inR f 0 9999 && inR g 0 9999

theorem perV_iff {a b c d f g : Int} : perV a b c d f g = true ↔ (0 ≤ a ∧ a ≤ 9999) ∧ (0 ≤ b ∧ b ≤ 9999) ∧ (0 ≤ c ∧ c ≤ 9999) ∧ (0 ≤ d ∧ d ≤ 9999) ∧ (0 ≤ f ∧ f ≤ 9999) ∧ (0 ≤ g ∧ g ≤ 9999) := by
  simp [perV, inR, and_assoc]

theorem perV_of {a b c d f g : Int} (h : (0 ≤ a ∧ a ≤ 9999) ∧ (0 ≤ b ∧ b ≤ 9999) ∧ (0 ≤ c ∧ c ≤ 9999) ∧ (0 ≤ d ∧ d ≤ 9999) ∧ (0 ≤ f ∧ f ≤ 9999) ∧ (0 ≤ g ∧ g ≤ 9999)) : perV a b c d f g = true := perV_iff.2 h

/-- The parts of a period that lies in a block: a new row of letters, marks and places. -/
def partsV (p : Nat) : List Value := [.int .u8 89, .bool false, .pointer (some ⟨p, 0, none⟩), .int .u8 77, .bool false, .pointer (some ⟨p, 1, none⟩), .int .u8 68, .bool false, .pointer (some ⟨p, 2, none⟩), .int .u8 72, .bool true, .pointer (some ⟨p, 3, none⟩), .int .u8 77, .bool true, .pointer (some ⟨p, 4, none⟩), .int .u8 83, .bool true, .pointer (some ⟨p, 5, none⟩)]

theorem a_parts (p : Nat) (w : World) (hb : D.Base w) : Calls Tryz.prog 83 #[.pointer (some ⟨p, 0, none⟩)] w (Ret w (NewSl 6 6 (.cells 118 (partsV p)))) := by
  refine enter Tryz.func83 rfl Tryz.ntmps83 rfl (by assumption) ?_
  (repeat' (first | intro (b : Nat) | refine go ?_ | (refine br ?_ ?_ <;> first | exact trivial | intro hq) | refine gg ?_ | (apply C.draww (id := 1) 26 [none, none, none, none, none, none, none, none, none, none, none, none, none, none, none, none, none, none, none, none, none, none, none, none, some _, none])))
  exact retsl

theorem a_PeriodValid (a x c d f g : Int) (w : World) (hb : D.Base w) :
    Calls Tryz.prog 82 #[.agg #[.int .i64 a, .int .i64 x, .int .i64 c, .int .i64 d, .int .i64 f, .int .i64 g]] w fun e w' => e = .returned (.bool (perV a x c d f g)) ∧ Below w.heap.size w w' := by
  refine enter Tryz.func82 rfl Tryz.ntmps82 rfl (by assumption) ?_
  (repeat (first | intro (b : Nat) | refine go ?_))
  revert b; intro bp
  (refine L.slcall (h := by intro W hW; exact a_parts bp W hW.base) (k := ?_); intro b)
  revert b; intro bs
  (repeat (first | intro (b : Nat) | refine go ?_))
  refine C.loopw (Y := Int) (fun k => [(1, .pointer (some ⟨bp, 0, none⟩)), (5, .slice (some ⟨bs, 0, none⟩) 6 6), (6, .int .i64 6), (7, .int .i64 k)]) (fun k => [(bs, .cells 118 (partsV bp)), (bp, .cells 50 [.int .i64 a, .int .i64 x, .int .i64 c, .int .i64 d, .int .i64 f, .int .i64 g])]) (fun k => 0 ≤ k ∧ k ≤ 6 ∧ (1 ≤ k → inR a 0 9999 = true) ∧ (2 ≤ k → inR x 0 9999 = true) ∧ (3 ≤ k → inR c 0 9999 = true) ∧ (4 ≤ k → inR d 0 9999 = true) ∧ (5 ≤ k → inR f 0 9999 = true) ∧ (6 ≤ k → inR g 0 9999 = true)) (fun k => (6 - k).toNat) 0 (by omega) (fun k hy => ?_)
  obtain ⟨h0, h6, ha, hb', hc, hd, hf, hg⟩ := hy
  rcases (by omega : k = 0 ∨ k = 1 ∨ k = 2 ∨ k = 3 ∨ k = 4 ∨ k = 5 ∨ k = 6) with rfl | rfl | rfl | rfl | rfl | rfl | rfl
  all_goals (repeat' (first | intro (b : Nat) | refine go ?_ | (refine br ?_ ?_ <;> first | exact trivial | intro hq) | refine L.call (h := by intro W hW; apply a_within _ _ _ W hW.base) (k := ?_)))
  all_goals first | ((refine ret ?_; try exact rfl); simp_all [tupleOf, perV]; done) | (refine X.rounda ?_ ?_ <;> simp_all; done)

end D
end Go.Proofs.YtpgbmohocfcjpaaGreatDoor
