/- Walks: dates of texts. -/
import Derived.Test.YtboglbdhibcacaaGreatDoorVB2
namespace Go.Proofs.YtboglbdhibcacaaGreatDoor
set_option linter.unusedVariables false
set_option linter.unusedSimpArgs false
set_option maxRecDepth 100000
set_option maxHeartbeats 1000000
namespace D
open Go.RowKit
open Go.PlainAid (bt bt_nonneg bt_le bt_end)
attribute [local irreducible] Calls

theorem a_numberOfForm0 (w : World) (hb : D.Base w) : Calls Tryz.prog 100 #[.iface 125 (.agg #[])] w fun e w' => e = .returned (.int .i64 0) ∧ Below w.heap.size w w' := by
  refine enter Tryz.func100 rfl Tryz.ntmps100 rfl (by assumption) ?_
  (repeat' (first | intro (b : Nat) | refine go ?_ | (refine br ?_ ?_ <;> first | exact trivial | intro hq)))
  all_goals (refine ret ?_; try exact rfl)

theorem a_numberOfForm1 (w : World) (hb : D.Base w) : Calls Tryz.prog 100 #[.iface 126 (.agg #[])] w fun e w' => e = .returned (.int .i64 1) ∧ Below w.heap.size w w' := by
  refine enter Tryz.func100 rfl Tryz.ntmps100 rfl (by assumption) ?_
  (repeat' (first | intro (b : Nat) | refine go ?_ | (refine br ?_ ?_ <;> first | exact trivial | intro hq)))
  all_goals (refine ret ?_; try exact rfl)

theorem a_numberOfForm2 (w : World) (hb : D.Base w) : Calls Tryz.prog 100 #[.iface 127 (.agg #[])] w fun e w' => e = .returned (.int .i64 2) ∧ Below w.heap.size w w' := by
  refine enter Tryz.func100 rfl Tryz.ntmps100 rfl (by assumption) ?_
  (repeat' (first | intro (b : Nat) | refine go ?_ | (refine br ?_ ?_ <;> first | exact trivial | intro hq)))
  all_goals (refine ret ?_; try exact rfl)

theorem a_DateFrom (s : ByteArray) (hs : s.size ≤ 1000000000000) (w : World) (hb : D.Base w) : Calls Tryz.prog 60 #[.string s] w fun e w' => e = .returned (dfV (okP s) (dP s)) ∧ Below w.heap.size w w' := by
  refine enter Tryz.func60 rfl Tryz.ntmps60 rfl (by assumption) ?_
  (repeat (first | intro (b : Nat) | refine go ?_))
  revert b; intro b2
  (refine L.slcall (h := by intro W hW; exact a_forms W hW.base) (k := ?_); intro b)
  revert b; intro bf
  (repeat (first | intro (b : Nat) | refine go ?_))
  refine C.loopw (Y := Nat) (fun k => [(0, .string s), (2, .pointer (some ⟨b2, 0, none⟩)), (3, .int .i64 0), (4, .bool false), (5, .bool false), (13, .slice (some ⟨bf, 0, none⟩) 3 3), (14, .int .i64 3), (15, .int .i64 (k : Int))]) (fun k => [(bf, .cells 84 formsV), (b2, .cells 63 [.int .i64 0, .int .i64 0, .int .i64 0])]) (fun k => k ≤ 3 ∧ ∀ j, j < 2 * k → okP s j = false) (fun k => 3 - k) 0 ⟨by omega, fun j hj => by omega⟩ (fun k hy => ?_)
  obtain ⟨hk, hno⟩ := hy
  by_cases hlt : k < 3
  · rcases (by omega : k = 0 ∨ k = 1 ∨ k = 2) with rfl | rfl | rfl
    · (repeat (first | intro (b : Nat) | refine go ?_))
      revert b; intro bb
      refine C.loopw (Y := Nat) (fun k => [(0, .string s), (2, .pointer (some ⟨b2, 0, none⟩)), (3, .int .i64 0), (4, .bool false), (5, .bool false), (7, .iface 125 (.agg #[])), (13, .slice (some ⟨bf, 0, none⟩) 3 3), (14, .int .i64 3), (15, .int .i64 0), (19, .slice (some ⟨bb, 0, none⟩) 2 2), (20, .int .i64 2), (21, .int .i64 (k : Int))]) (fun k => [(bb, .cells 4 [.bool true, .bool false]), (bf, .cells 84 formsV), (b2, .cells 63 [.int .i64 0, .int .i64 0, .int .i64 0])]) (fun k => k ≤ 2 ∧ ∀ j, j < 0 + k → okP s j = false) (fun k => 2 - k) 0 ⟨by omega, fun j hj => hno j (by omega)⟩ (fun k hy => ?_)
      obtain ⟨hk2, hn2⟩ := hy
      by_cases hl2 : k < 2
      · rcases (by omega : k = 0 ∨ k = 1) with rfl | rfl
        · have e0 : okP s 0 = ((rdM s true).ok && decide ((m5 s true : Int) = s.size)) := rfl
          have e1 : dP s 0 = rdM s true := rfl
          have hread : ∀ (w0 : World) (F : SH) (r : Nat) (W : World), St w0 ((r, rdB s 0) :: F) W → Calls Tryz.prog 158 #[.agg #[], .pointer (some ⟨r, 0, none⟩), .bool true] W (Turns w0 (drV (rdM s true)) ((r, rdB s (m5 s true : Nat)) :: F)) := fun w0 F r W hW => a_monthRead w0 F r s true hs W hW
          generalize rdM s true = x at *
          generalize m5 s true = q at *
          obtain ⟨y, m, d, ok⟩ := x
          cases ok
          · (repeat (first | intro (b : Nat) | refine go ?_))
            revert b; intro r
            (refine L.tinv r (h := by intro W hW; exact hread _ _ _ W hW) (k := ?_))
            (repeat' (first | intro (b : Nat) | refine go ?_ | (refine br ?_ ?_ <;> first | exact trivial | intro hq) | refine gg ?_ | (apply C.draww (id := 10) 4 [some _, none, some _, none])))
            refine X.roundw (1) (⟨by omega, fun j hj => by
              by_cases e : j = 0
              · rw [e, e0]; rfl
              · exact hn2 j (by omega)⟩) (by omega)
          · cases hq : decide ((q : Int) = s.size)
            · (repeat (first | intro (b : Nat) | refine go ?_))
              revert b; intro r
              (refine L.tinv r (h := by intro W hW; exact hread _ _ _ W hW) (k := ?_))
              (repeat' (first | intro (b : Nat) | refine go ?_ | (refine br ?_ ?_ <;> first | exact trivial | intro hq) | refine L.call (h := by intro W hW; apply rvb hq (a_done r s q W (hW.cell (by (repeat (first | exact List.Mem.head _ | apply List.Mem.tail))) rfl) (hW.cell (by (repeat (first | exact List.Mem.head _ | apply List.Mem.tail))) rfl) hW.base)) (k := ?_) | refine gg ?_ | refine G.call (h := by intro W hW; apply rvb hq (a_done r s q W (hW.cell (by (repeat (first | exact List.Mem.head _ | apply List.Mem.tail))) rfl) (hW.cell (by (repeat (first | exact List.Mem.head _ | apply List.Mem.tail))) rfl) hW.base)) (k := ?_) | (apply C.draww (id := 10) 4 [some _, none, some _, none])))
              refine X.roundw (1) (⟨by omega, fun j hj => by
                by_cases e : j = 0
                · rw [e, e0, hq]; rfl
                · exact hn2 j (by omega)⟩) (by omega)
            · (repeat (first | intro (b : Nat) | refine go ?_))
              revert b; intro r
              (refine L.tinv r (h := by intro W hW; exact hread _ _ _ W hW) (k := ?_))
              (repeat' (first | intro (b : Nat) | refine go ?_ | (refine br ?_ ?_ <;> first | exact trivial | intro hq) | refine L.call (h := by intro W hW; first | apply rvb hq (a_done r s q W (hW.cell (by (repeat (first | exact List.Mem.head _ | apply List.Mem.tail))) rfl) (hW.cell (by (repeat (first | exact List.Mem.head _ | apply List.Mem.tail))) rfl) hW.base) | apply a_numberOfForm0 W hW.base) (k := ?_) | refine gg ?_ | refine G.call (h := by intro W hW; first | apply rvb hq (a_done r s q W (hW.cell (by (repeat (first | exact List.Mem.head _ | apply List.Mem.tail))) rfl) (hW.cell (by (repeat (first | exact List.Mem.head _ | apply List.Mem.tail))) rfl) hW.base) | apply a_numberOfForm0 W hW.base) (k := ?_) | (apply C.draww (id := 10) 4 [some _, none, some _, none])))
              (refine ret ?_)
              rw [dfV_at (k := 0) (by omega) (fun j hj => hn2 j (by omega)) (by rw [e0, hq]; rfl), e1]
              rfl
        · have e0 : okP s 1 = ((rdM s false).ok && decide ((m5 s false : Int) = s.size)) := rfl
          have e1 : dP s 1 = rdM s false := rfl
          have hread : ∀ (w0 : World) (F : SH) (r : Nat) (W : World), St w0 ((r, rdB s 0) :: F) W → Calls Tryz.prog 158 #[.agg #[], .pointer (some ⟨r, 0, none⟩), .bool false] W (Turns w0 (drV (rdM s false)) ((r, rdB s (m5 s false : Nat)) :: F)) := fun w0 F r W hW => a_monthRead w0 F r s false hs W hW
          generalize rdM s false = x at *
          generalize m5 s false = q at *
          obtain ⟨y, m, d, ok⟩ := x
          cases ok
          · (repeat (first | intro (b : Nat) | refine go ?_))
            revert b; intro r
            (refine L.tinv r (h := by intro W hW; exact hread _ _ _ W hW) (k := ?_))
            (repeat' (first | intro (b : Nat) | refine go ?_ | (refine br ?_ ?_ <;> first | exact trivial | intro hq) | refine gg ?_ | (apply C.draww (id := 10) 4 [some _, none, some _, none])))
            refine X.roundw (2) (⟨by omega, fun j hj => by
              by_cases e : j = 1
              · rw [e, e0]; rfl
              · exact hn2 j (by omega)⟩) (by omega)
          · cases hq : decide ((q : Int) = s.size)
            · (repeat (first | intro (b : Nat) | refine go ?_))
              revert b; intro r
              (refine L.tinv r (h := by intro W hW; exact hread _ _ _ W hW) (k := ?_))
              (repeat' (first | intro (b : Nat) | refine go ?_ | (refine br ?_ ?_ <;> first | exact trivial | intro hq) | refine L.call (h := by intro W hW; apply rvb hq (a_done r s q W (hW.cell (by (repeat (first | exact List.Mem.head _ | apply List.Mem.tail))) rfl) (hW.cell (by (repeat (first | exact List.Mem.head _ | apply List.Mem.tail))) rfl) hW.base)) (k := ?_) | refine gg ?_ | refine G.call (h := by intro W hW; apply rvb hq (a_done r s q W (hW.cell (by (repeat (first | exact List.Mem.head _ | apply List.Mem.tail))) rfl) (hW.cell (by (repeat (first | exact List.Mem.head _ | apply List.Mem.tail))) rfl) hW.base)) (k := ?_) | (apply C.draww (id := 10) 4 [some _, none, some _, none])))
              refine X.roundw (2) (⟨by omega, fun j hj => by
                by_cases e : j = 1
                · rw [e, e0, hq]; rfl
                · exact hn2 j (by omega)⟩) (by omega)
            · (repeat (first | intro (b : Nat) | refine go ?_))
              revert b; intro r
              (refine L.tinv r (h := by intro W hW; exact hread _ _ _ W hW) (k := ?_))
              (repeat' (first | intro (b : Nat) | refine go ?_ | (refine br ?_ ?_ <;> first | exact trivial | intro hq) | refine L.call (h := by intro W hW; first | apply rvb hq (a_done r s q W (hW.cell (by (repeat (first | exact List.Mem.head _ | apply List.Mem.tail))) rfl) (hW.cell (by (repeat (first | exact List.Mem.head _ | apply List.Mem.tail))) rfl) hW.base) | apply a_numberOfForm0 W hW.base) (k := ?_) | refine gg ?_ | refine G.call (h := by intro W hW; first | apply rvb hq (a_done r s q W (hW.cell (by (repeat (first | exact List.Mem.head _ | apply List.Mem.tail))) rfl) (hW.cell (by (repeat (first | exact List.Mem.head _ | apply List.Mem.tail))) rfl) hW.base) | apply a_numberOfForm0 W hW.base) (k := ?_) | (apply C.draww (id := 10) 4 [some _, none, some _, none])))
              (refine ret ?_)
              rw [dfV_at (k := 1) (by omega) (fun j hj => hn2 j (by omega)) (by rw [e0, hq]; rfl), e1]
              rfl
      · obtain rfl : k = 2 := by omega
        (repeat' (first | intro (b : Nat) | refine go ?_ | (refine br ?_ ?_ <;> first | exact trivial | intro hq) | refine gg ?_ | (apply C.draww (id := 10) 4 [some _, none, some _, none])))
        refine X.roundw (1) (⟨by omega, fun j hj => hn2 j (by omega)⟩) (by omega)
    · (repeat (first | intro (b : Nat) | refine go ?_))
      revert b; intro bb
      refine C.loopw (Y := Nat) (fun k => [(0, .string s), (2, .pointer (some ⟨b2, 0, none⟩)), (3, .int .i64 0), (4, .bool false), (5, .bool false), (7, .iface 126 (.agg #[])), (13, .slice (some ⟨bf, 0, none⟩) 3 3), (14, .int .i64 3), (15, .int .i64 1), (19, .slice (some ⟨bb, 0, none⟩) 2 2), (20, .int .i64 2), (21, .int .i64 (k : Int))]) (fun k => [(bb, .cells 4 [.bool true, .bool false]), (bf, .cells 84 formsV), (b2, .cells 63 [.int .i64 0, .int .i64 0, .int .i64 0])]) (fun k => k ≤ 2 ∧ ∀ j, j < 2 + k → okP s j = false) (fun k => 2 - k) 0 ⟨by omega, fun j hj => hno j (by omega)⟩ (fun k hy => ?_)
      obtain ⟨hk2, hn2⟩ := hy
      by_cases hl2 : k < 2
      · rcases (by omega : k = 0 ∨ k = 1) with rfl | rfl
        · have e0 : okP s 2 = ((rdK s true).ok && decide ((k5 s true : Int) = s.size)) := rfl
          have e1 : dP s 2 = rdK s true := rfl
          have hread : ∀ (w0 : World) (F : SH) (r : Nat) (W : World), St w0 ((r, rdB s 0) :: F) W → Calls Tryz.prog 264 #[.agg #[], .pointer (some ⟨r, 0, none⟩), .bool true] W (Turns w0 (drV (rdK s true)) ((r, rdB s (k5 s true : Nat)) :: F)) := fun w0 F r W hW => a_weekRead w0 F r s true hs W hW
          generalize rdK s true = x at *
          generalize k5 s true = q at *
          obtain ⟨y, m, d, ok⟩ := x
          cases ok
          · (repeat (first | intro (b : Nat) | refine go ?_))
            revert b; intro r
            (refine L.tinv r (h := by intro W hW; exact hread _ _ _ W hW) (k := ?_))
            (repeat' (first | intro (b : Nat) | refine go ?_ | (refine br ?_ ?_ <;> first | exact trivial | intro hq) | refine gg ?_ | (apply C.draww (id := 10) 4 [some _, none, some _, none])))
            refine X.roundw (1) (⟨by omega, fun j hj => by
              by_cases e : j = 2
              · rw [e, e0]; rfl
              · exact hn2 j (by omega)⟩) (by omega)
          · cases hq : decide ((q : Int) = s.size)
            · (repeat (first | intro (b : Nat) | refine go ?_))
              revert b; intro r
              (refine L.tinv r (h := by intro W hW; exact hread _ _ _ W hW) (k := ?_))
              (repeat' (first | intro (b : Nat) | refine go ?_ | (refine br ?_ ?_ <;> first | exact trivial | intro hq) | refine L.call (h := by intro W hW; apply rvb hq (a_done r s q W (hW.cell (by (repeat (first | exact List.Mem.head _ | apply List.Mem.tail))) rfl) (hW.cell (by (repeat (first | exact List.Mem.head _ | apply List.Mem.tail))) rfl) hW.base)) (k := ?_) | refine gg ?_ | refine G.call (h := by intro W hW; apply rvb hq (a_done r s q W (hW.cell (by (repeat (first | exact List.Mem.head _ | apply List.Mem.tail))) rfl) (hW.cell (by (repeat (first | exact List.Mem.head _ | apply List.Mem.tail))) rfl) hW.base)) (k := ?_) | (apply C.draww (id := 10) 4 [some _, none, some _, none])))
              refine X.roundw (1) (⟨by omega, fun j hj => by
                by_cases e : j = 2
                · rw [e, e0, hq]; rfl
                · exact hn2 j (by omega)⟩) (by omega)
            · (repeat (first | intro (b : Nat) | refine go ?_))
              revert b; intro r
              (refine L.tinv r (h := by intro W hW; exact hread _ _ _ W hW) (k := ?_))
              (repeat' (first | intro (b : Nat) | refine go ?_ | (refine br ?_ ?_ <;> first | exact trivial | intro hq) | refine L.call (h := by intro W hW; first | apply rvb hq (a_done r s q W (hW.cell (by (repeat (first | exact List.Mem.head _ | apply List.Mem.tail))) rfl) (hW.cell (by (repeat (first | exact List.Mem.head _ | apply List.Mem.tail))) rfl) hW.base) | apply a_numberOfForm1 W hW.base) (k := ?_) | refine gg ?_ | refine G.call (h := by intro W hW; first | apply rvb hq (a_done r s q W (hW.cell (by (repeat (first | exact List.Mem.head _ | apply List.Mem.tail))) rfl) (hW.cell (by (repeat (first | exact List.Mem.head _ | apply List.Mem.tail))) rfl) hW.base) | apply a_numberOfForm1 W hW.base) (k := ?_) | (apply C.draww (id := 10) 4 [some _, none, some _, none])))
              (refine ret ?_)
              rw [dfV_at (k := 2) (by omega) (fun j hj => hn2 j (by omega)) (by rw [e0, hq]; rfl), e1]
              rfl
        · have e0 : okP s 3 = ((rdK s false).ok && decide ((k5 s false : Int) = s.size)) := rfl
          have e1 : dP s 3 = rdK s false := rfl
          have hread : ∀ (w0 : World) (F : SH) (r : Nat) (W : World), St w0 ((r, rdB s 0) :: F) W → Calls Tryz.prog 264 #[.agg #[], .pointer (some ⟨r, 0, none⟩), .bool false] W (Turns w0 (drV (rdK s false)) ((r, rdB s (k5 s false : Nat)) :: F)) := fun w0 F r W hW => a_weekRead w0 F r s false hs W hW
          generalize rdK s false = x at *
          generalize k5 s false = q at *
          obtain ⟨y, m, d, ok⟩ := x
          cases ok
          · (repeat (first | intro (b : Nat) | refine go ?_))
            revert b; intro r
            (refine L.tinv r (h := by intro W hW; exact hread _ _ _ W hW) (k := ?_))
            (repeat' (first | intro (b : Nat) | refine go ?_ | (refine br ?_ ?_ <;> first | exact trivial | intro hq) | refine gg ?_ | (apply C.draww (id := 10) 4 [some _, none, some _, none])))
            refine X.roundw (2) (⟨by omega, fun j hj => by
              by_cases e : j = 3
              · rw [e, e0]; rfl
              · exact hn2 j (by omega)⟩) (by omega)
          · cases hq : decide ((q : Int) = s.size)
            · (repeat (first | intro (b : Nat) | refine go ?_))
              revert b; intro r
              (refine L.tinv r (h := by intro W hW; exact hread _ _ _ W hW) (k := ?_))
              (repeat' (first | intro (b : Nat) | refine go ?_ | (refine br ?_ ?_ <;> first | exact trivial | intro hq) | refine L.call (h := by intro W hW; apply rvb hq (a_done r s q W (hW.cell (by (repeat (first | exact List.Mem.head _ | apply List.Mem.tail))) rfl) (hW.cell (by (repeat (first | exact List.Mem.head _ | apply List.Mem.tail))) rfl) hW.base)) (k := ?_) | refine gg ?_ | refine G.call (h := by intro W hW; apply rvb hq (a_done r s q W (hW.cell (by (repeat (first | exact List.Mem.head _ | apply List.Mem.tail))) rfl) (hW.cell (by (repeat (first | exact List.Mem.head _ | apply List.Mem.tail))) rfl) hW.base)) (k := ?_) | (apply C.draww (id := 10) 4 [some _, none, some _, none])))
              refine X.roundw (2) (⟨by omega, fun j hj => by
                by_cases e : j = 3
                · rw [e, e0, hq]; rfl
                · exact hn2 j (by omega)⟩) (by omega)
            · (repeat (first | intro (b : Nat) | refine go ?_))
              revert b; intro r
              (refine L.tinv r (h := by intro W hW; exact hread _ _ _ W hW) (k := ?_))
              (repeat' (first | intro (b : Nat) | refine go ?_ | (refine br ?_ ?_ <;> first | exact trivial | intro hq) | refine L.call (h := by intro W hW; first | apply rvb hq (a_done r s q W (hW.cell (by (repeat (first | exact List.Mem.head _ | apply List.Mem.tail))) rfl) (hW.cell (by (repeat (first | exact List.Mem.head _ | apply List.Mem.tail))) rfl) hW.base) | apply a_numberOfForm1 W hW.base) (k := ?_) | refine gg ?_ | refine G.call (h := by intro W hW; first | apply rvb hq (a_done r s q W (hW.cell (by (repeat (first | exact List.Mem.head _ | apply List.Mem.tail))) rfl) (hW.cell (by (repeat (first | exact List.Mem.head _ | apply List.Mem.tail))) rfl) hW.base) | apply a_numberOfForm1 W hW.base) (k := ?_) | (apply C.draww (id := 10) 4 [some _, none, some _, none])))
              (refine ret ?_)
              rw [dfV_at (k := 3) (by omega) (fun j hj => hn2 j (by omega)) (by rw [e0, hq]; rfl), e1]
              rfl
      · obtain rfl : k = 2 := by omega
        (repeat' (first | intro (b : Nat) | refine go ?_ | (refine br ?_ ?_ <;> first | exact trivial | intro hq) | refine gg ?_ | (apply C.draww (id := 10) 4 [some _, none, some _, none])))
        refine X.roundw (2) (⟨by omega, fun j hj => hn2 j (by omega)⟩) (by omega)
    · (repeat (first | intro (b : Nat) | refine go ?_))
      revert b; intro bb
      refine C.loopw (Y := Nat) (fun k => [(0, .string s), (2, .pointer (some ⟨b2, 0, none⟩)), (3, .int .i64 0), (4, .bool false), (5, .bool false), (7, .iface 127 (.agg #[])), (13, .slice (some ⟨bf, 0, none⟩) 3 3), (14, .int .i64 3), (15, .int .i64 2), (19, .slice (some ⟨bb, 0, none⟩) 2 2), (20, .int .i64 2), (21, .int .i64 (k : Int))]) (fun k => [(bb, .cells 4 [.bool true, .bool false]), (bf, .cells 84 formsV), (b2, .cells 63 [.int .i64 0, .int .i64 0, .int .i64 0])]) (fun k => k ≤ 2 ∧ ∀ j, j < 4 + k → okP s j = false) (fun k => 2 - k) 0 ⟨by omega, fun j hj => hno j (by omega)⟩ (fun k hy => ?_)
      obtain ⟨hk2, hn2⟩ := hy
      by_cases hl2 : k < 2
      · rcases (by omega : k = 0 ∨ k = 1) with rfl | rfl
        · have e0 : okP s 4 = ((rdO s true).ok && decide ((o3 s true : Int) = s.size)) := rfl
          have e1 : dP s 4 = rdO s true := rfl
          have hread : ∀ (w0 : World) (F : SH) (r : Nat) (W : World), St w0 ((r, rdB s 0) :: F) W → Calls Tryz.prog 271 #[.agg #[], .pointer (some ⟨r, 0, none⟩), .bool true] W (Turns w0 (drV (rdO s true)) ((r, rdB s (o3 s true : Nat)) :: F)) := fun w0 F r W hW => a_dayRead w0 F r s true hs W hW
          generalize rdO s true = x at *
          generalize o3 s true = q at *
          obtain ⟨y, m, d, ok⟩ := x
          cases ok
          · (repeat (first | intro (b : Nat) | refine go ?_))
            revert b; intro r
            (refine L.tinv r (h := by intro W hW; exact hread _ _ _ W hW) (k := ?_))
            (repeat' (first | intro (b : Nat) | refine go ?_ | (refine br ?_ ?_ <;> first | exact trivial | intro hq) | refine gg ?_ | (apply C.draww (id := 10) 4 [some _, none, some _, none])))
            refine X.roundw (1) (⟨by omega, fun j hj => by
              by_cases e : j = 4
              · rw [e, e0]; rfl
              · exact hn2 j (by omega)⟩) (by omega)
          · cases hq : decide ((q : Int) = s.size)
            · (repeat (first | intro (b : Nat) | refine go ?_))
              revert b; intro r
              (refine L.tinv r (h := by intro W hW; exact hread _ _ _ W hW) (k := ?_))
              (repeat' (first | intro (b : Nat) | refine go ?_ | (refine br ?_ ?_ <;> first | exact trivial | intro hq) | refine L.call (h := by intro W hW; apply rvb hq (a_done r s q W (hW.cell (by (repeat (first | exact List.Mem.head _ | apply List.Mem.tail))) rfl) (hW.cell (by (repeat (first | exact List.Mem.head _ | apply List.Mem.tail))) rfl) hW.base)) (k := ?_) | refine gg ?_ | refine G.call (h := by intro W hW; apply rvb hq (a_done r s q W (hW.cell (by (repeat (first | exact List.Mem.head _ | apply List.Mem.tail))) rfl) (hW.cell (by (repeat (first | exact List.Mem.head _ | apply List.Mem.tail))) rfl) hW.base)) (k := ?_) | (apply C.draww (id := 10) 4 [some _, none, some _, none])))
              refine X.roundw (1) (⟨by omega, fun j hj => by
                by_cases e : j = 4
                · rw [e, e0, hq]; rfl
                · exact hn2 j (by omega)⟩) (by omega)
            · (repeat (first | intro (b : Nat) | refine go ?_))
              revert b; intro r
              (refine L.tinv r (h := by intro W hW; exact hread _ _ _ W hW) (k := ?_))
              (repeat' (first | intro (b : Nat) | refine go ?_ | (refine br ?_ ?_ <;> first | exact trivial | intro hq) | refine L.call (h := by intro W hW; first | apply rvb hq (a_done r s q W (hW.cell (by (repeat (first | exact List.Mem.head _ | apply List.Mem.tail))) rfl) (hW.cell (by (repeat (first | exact List.Mem.head _ | apply List.Mem.tail))) rfl) hW.base) | apply a_numberOfForm2 W hW.base) (k := ?_) | refine gg ?_ | refine G.call (h := by intro W hW; first | apply rvb hq (a_done r s q W (hW.cell (by (repeat (first | exact List.Mem.head _ | apply List.Mem.tail))) rfl) (hW.cell (by (repeat (first | exact List.Mem.head _ | apply List.Mem.tail))) rfl) hW.base) | apply a_numberOfForm2 W hW.base) (k := ?_) | (apply C.draww (id := 10) 4 [some _, none, some _, none])))
              (refine ret ?_)
              rw [dfV_at (k := 4) (by omega) (fun j hj => hn2 j (by omega)) (by rw [e0, hq]; rfl), e1]
              rfl
        · have e0 : okP s 5 = ((rdO s false).ok && decide ((o3 s false : Int) = s.size)) := rfl
          have e1 : dP s 5 = rdO s false := rfl
          have hread : ∀ (w0 : World) (F : SH) (r : Nat) (W : World), St w0 ((r, rdB s 0) :: F) W → Calls Tryz.prog 271 #[.agg #[], .pointer (some ⟨r, 0, none⟩), .bool false] W (Turns w0 (drV (rdO s false)) ((r, rdB s (o3 s false : Nat)) :: F)) := fun w0 F r W hW => a_dayRead w0 F r s false hs W hW
          generalize rdO s false = x at *
          generalize o3 s false = q at *
          obtain ⟨y, m, d, ok⟩ := x
          cases ok
          · (repeat (first | intro (b : Nat) | refine go ?_))
            revert b; intro r
            (refine L.tinv r (h := by intro W hW; exact hread _ _ _ W hW) (k := ?_))
            (repeat' (first | intro (b : Nat) | refine go ?_ | (refine br ?_ ?_ <;> first | exact trivial | intro hq) | refine gg ?_ | (apply C.draww (id := 10) 4 [some _, none, some _, none])))
            refine X.roundw (2) (⟨by omega, fun j hj => by
              by_cases e : j = 5
              · rw [e, e0]; rfl
              · exact hn2 j (by omega)⟩) (by omega)
          · cases hq : decide ((q : Int) = s.size)
            · (repeat (first | intro (b : Nat) | refine go ?_))
              revert b; intro r
              (refine L.tinv r (h := by intro W hW; exact hread _ _ _ W hW) (k := ?_))
              (repeat' (first | intro (b : Nat) | refine go ?_ | (refine br ?_ ?_ <;> first | exact trivial | intro hq) | refine L.call (h := by intro W hW; apply rvb hq (a_done r s q W (hW.cell (by (repeat (first | exact List.Mem.head _ | apply List.Mem.tail))) rfl) (hW.cell (by (repeat (first | exact List.Mem.head _ | apply List.Mem.tail))) rfl) hW.base)) (k := ?_) | refine gg ?_ | refine G.call (h := by intro W hW; apply rvb hq (a_done r s q W (hW.cell (by (repeat (first | exact List.Mem.head _ | apply List.Mem.tail))) rfl) (hW.cell (by (repeat (first | exact List.Mem.head _ | apply List.Mem.tail))) rfl) hW.base)) (k := ?_) | (apply C.draww (id := 10) 4 [some _, none, some _, none])))
              refine X.roundw (2) (⟨by omega, fun j hj => by
                by_cases e : j = 5
                · rw [e, e0, hq]; rfl
                · exact hn2 j (by omega)⟩) (by omega)
            · (repeat (first | intro (b : Nat) | refine go ?_))
              revert b; intro r
              (refine L.tinv r (h := by intro W hW; exact hread _ _ _ W hW) (k := ?_))
              (repeat' (first | intro (b : Nat) | refine go ?_ | (refine br ?_ ?_ <;> first | exact trivial | intro hq) | refine L.call (h := by intro W hW; first | apply rvb hq (a_done r s q W (hW.cell (by (repeat (first | exact List.Mem.head _ | apply List.Mem.tail))) rfl) (hW.cell (by (repeat (first | exact List.Mem.head _ | apply List.Mem.tail))) rfl) hW.base) | apply a_numberOfForm2 W hW.base) (k := ?_) | refine gg ?_ | refine G.call (h := by intro W hW; first | apply rvb hq (a_done r s q W (hW.cell (by (repeat (first | exact List.Mem.head _ | apply List.Mem.tail))) rfl) (hW.cell (by (repeat (first | exact List.Mem.head _ | apply List.Mem.tail))) rfl) hW.base) | apply a_numberOfForm2 W hW.base) (k := ?_) | (apply C.draww (id := 10) 4 [some _, none, some _, none])))
              (refine ret ?_)
              rw [dfV_at (k := 5) (by omega) (fun j hj => hn2 j (by omega)) (by rw [e0, hq]; rfl), e1]
              rfl
      · obtain rfl : k = 2 := by omega
        (repeat' (first | intro (b : Nat) | refine go ?_ | (refine br ?_ ?_ <;> first | exact trivial | intro hq) | refine gg ?_ | (apply C.draww (id := 10) 4 [some _, none, some _, none])))
        refine X.roundw (3) (⟨by omega, fun j hj => hn2 j (by omega)⟩) (by omega)
  · obtain rfl : k = 3 := by omega
    (repeat' (first | intro (b : Nat) | refine go ?_ | (refine br ?_ ?_ <;> first | exact trivial | intro hq) | refine gg ?_ | (apply C.draww (id := 10) 4 [some _, none, some _, none])))
    (refine ret ?_; try exact rfl)
    exact (dfV_no hno).symm

end D
end Go.Proofs.YtboglbdhibcacaaGreatDoor
