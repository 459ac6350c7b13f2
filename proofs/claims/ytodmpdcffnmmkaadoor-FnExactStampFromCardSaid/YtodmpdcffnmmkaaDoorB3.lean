/- Walks: reading forms of dates; dates in forms. -/
import Derived.Test.YtodmpdcffnmmkaaDoorB4
namespace Go.Proofs.YtodmpdcffnmmkaaDoor
set_option linter.unusedVariables false
set_option linter.unusedSimpArgs false
set_option maxRecDepth 100000
set_option maxHeartbeats 1000000
namespace D
open Go.RowKit
open Go.PlainAid (bt bt_nonneg bt_le bt_end)
attribute [local irreducible] Calls

theorem m_le (s : ByteArray) (h : Bool) : m1 s ≤ s.size ∧ m2 s h ≤ s.size ∧ m3 s h ≤ s.size ∧ m4 s h ≤ s.size ∧ m5 s h ≤ s.size := by
  have h1 : m1 s ≤ s.size := nxt_le (by omega) (by omega)
  have h2 : m2 s h ≤ s.size := btN_le h1
  have h3 : m3 s h ≤ s.size := nxt_le (by omega) h2
  have h4 : m4 s h ≤ s.size := btN_le h3
  exact ⟨h1, h2, h3, h4, nxt_le (by omega) h4⟩

theorem a_monthRead (w0 : World) (F : SH) (r : Nat) (s : ByteArray) (h : Bool) (hs : s.size ≤ 1000000000000) (w : World) (hst : St w0 ((r, rdB s 0) :: F) w) :
    Calls Tryd.prog 11 #[.agg #[], .pointer (some ⟨r, 0, none⟩), .bool h] w (Turns w0 (drV (rdM s h)) ((r, rdB s (m5 s h : Nat)) :: F)) := by
  obtain ⟨h1, h2, h3, h4, h5⟩ := m_le s h
  have e : rdM s h = ⟨numV s 0 4, numV s (m2 s h) 2, numV s (m4 s h) 2, allD s 0 4 && allD s (m2 s h) 2 && allD s (m4 s h) 2 && btV s (m1 s) h && btV s (m3 s h) h && dval (numV s 0 4) (numV s (m2 s h) 2) (numV s (m4 s h) 2)⟩ := rfl
  rw [e]
  refine enterl Tryd.func11 rfl Tryd.ntmps11 rfl hst ?_
  (repeat (first | intro (b : Nat) | refine go ?_))
  (refine L.tcallb r (h := by intro W hW; exact n_any _ _ _ _ 0 4 _ rfl hs (by omega) (by omega) W hW) (k := ?_))
  change L _ _ _ _ _ _ _ _ ((r, rdB s (m1 s : Nat)) :: _)
  (repeat (first | intro (b : Nat) | refine go ?_))
  (refine L.tcallb r (h := by intro W hW; exact bt_any _ _ _ _ (m1 s) h hs h1 W hW) (k := ?_))
  change L _ _ _ _ _ _ _ _ ((r, rdB s (m2 s h : Nat)) :: _)
  (repeat (first | intro (b : Nat) | refine go ?_))
  (refine L.tcallb r (h := by intro W hW; exact n_any _ _ _ _ (m2 s h) 2 _ rfl hs h2 (by omega) W hW) (k := ?_))
  change L _ _ _ _ _ _ _ _ ((r, rdB s (m3 s h : Nat)) :: _)
  (repeat (first | intro (b : Nat) | refine go ?_))
  (refine L.tcallb r (h := by intro W hW; exact bt_any _ _ _ _ (m3 s h) h hs h3 W hW) (k := ?_))
  change L _ _ _ _ _ _ _ _ ((r, rdB s (m4 s h : Nat)) :: _)
  (repeat (first | intro (b : Nat) | refine go ?_))
  (refine L.tcallb r (h := by intro W hW; exact n_any _ _ _ _ (m4 s h) 2 _ rfl hs h4 (by omega) W hW) (k := ?_))
  change L _ _ _ _ _ _ _ _ ((r, rdB s (m5 s h : Nat)) :: _)
  generalize allD s 0 4 = x1
  generalize allD s (m2 s h) 2 = x2
  generalize allD s (m4 s h) 2 = x3
  generalize btV s (m1 s) h = x4
  generalize btV s (m3 s h) h = x5
  cases x1
  · (repeat' (first | intro (b : Nat) | refine go ?_ | (refine br ?_ ?_ <;> first | exact trivial | intro hq) | refine L.call (h := by intro W hW; apply a_DateValid _ _ _ W hW.base) (k := ?_) | refine gg ?_ | refine G.call (h := by intro W hW; apply a_DateValid _ _ _ W hW.base) (k := ?_) | (apply C.draww (id := 7) 18 [some _, none, none, none, none, none, none, none, none, none, none, none, none, none, none, some _, some _, none])))
    all_goals (refine rett ?_)
    all_goals simp [tupleOf, drV]
  cases x2
  · (repeat' (first | intro (b : Nat) | refine go ?_ | (refine br ?_ ?_ <;> first | exact trivial | intro hq) | refine L.call (h := by intro W hW; apply a_DateValid _ _ _ W hW.base) (k := ?_) | refine gg ?_ | refine G.call (h := by intro W hW; apply a_DateValid _ _ _ W hW.base) (k := ?_) | (apply C.draww (id := 7) 18 [some _, none, none, none, none, none, none, none, none, none, none, none, none, none, none, some _, some _, none])))
    all_goals (refine rett ?_)
    all_goals simp [tupleOf, drV]
  cases x3
  · (repeat' (first | intro (b : Nat) | refine go ?_ | (refine br ?_ ?_ <;> first | exact trivial | intro hq) | refine L.call (h := by intro W hW; apply a_DateValid _ _ _ W hW.base) (k := ?_) | refine gg ?_ | refine G.call (h := by intro W hW; apply a_DateValid _ _ _ W hW.base) (k := ?_) | (apply C.draww (id := 7) 18 [some _, none, none, none, none, none, none, none, none, none, none, none, none, none, none, some _, some _, none])))
    all_goals (refine rett ?_)
    all_goals simp [tupleOf, drV]
  cases x4
  · (repeat' (first | intro (b : Nat) | refine go ?_ | (refine br ?_ ?_ <;> first | exact trivial | intro hq) | refine L.call (h := by intro W hW; apply a_DateValid _ _ _ W hW.base) (k := ?_) | refine gg ?_ | refine G.call (h := by intro W hW; apply a_DateValid _ _ _ W hW.base) (k := ?_) | (apply C.draww (id := 7) 18 [some _, none, none, none, none, none, none, none, none, none, none, none, none, none, none, some _, some _, none])))
    all_goals (refine rett ?_)
    all_goals simp [tupleOf, drV]
  cases x5
  · (repeat' (first | intro (b : Nat) | refine go ?_ | (refine br ?_ ?_ <;> first | exact trivial | intro hq) | refine L.call (h := by intro W hW; apply a_DateValid _ _ _ W hW.base) (k := ?_) | refine gg ?_ | refine G.call (h := by intro W hW; apply a_DateValid _ _ _ W hW.base) (k := ?_) | (apply C.draww (id := 7) 18 [some _, none, none, none, none, none, none, none, none, none, none, none, none, none, none, some _, some _, none])))
    all_goals (refine rett ?_)
    all_goals simp [tupleOf, drV]
  · (repeat' (first | intro (b : Nat) | refine go ?_ | (refine br ?_ ?_ <;> first | exact trivial | intro hq) | refine L.call (h := by intro W hW; apply a_DateValid _ _ _ W hW.base) (k := ?_) | refine gg ?_ | refine G.call (h := by intro W hW; apply a_DateValid _ _ _ W hW.base) (k := ?_) | (apply C.draww (id := 7) 18 [some _, none, none, none, none, none, none, none, none, none, none, none, none, none, none, some _, some _, none])))
    all_goals (refine rett ?_)
    all_goals simp [tupleOf, drV]

theorem k_le (s : ByteArray) (h : Bool) : k2 s h ≤ s.size ∧ k3 s h ≤ s.size ∧ k4 s h ≤ s.size ∧ k5 s h ≤ s.size := by
  have h2 : k2 s h ≤ s.size := by
    unfold k2
    split
    · exact takN_le (m_le s h).2.1
    · exact (m_le s h).2.1
  have h3 : k3 s h ≤ s.size := nxt_le (by omega) h2
  have h4 : k4 s h ≤ s.size := btN_le h3
  exact ⟨h2, h3, h4, nxt_le (by omega) h4⟩

end D
end Go.Proofs.YtodmpdcffnmmkaaDoor
