/- Walks: times of texts of the program. -/
import Derived.Test.YtpgbmohocfcjpaaGreatDoorF1
import Derived.Test.YtpgbmohocfcjpaaGreatDoorE3m
import Derived.Test.YtpgbmohocfcjpaaGreatDoorAs
namespace Go.Proofs.YtpgbmohocfcjpaaGreatDoor
set_option linter.unusedVariables false
set_option linter.unusedSimpArgs false
set_option maxRecDepth 100000
set_option maxHeartbeats 1000000
namespace D
open Go.RowKit
open Go.PlainAid (bt bt_nonneg bt_le bt_end)
attribute [local irreducible] Calls

theorem n_yes (w0 : World) (F : SH) (r : Nat) (s : ByteArray) (q q' : Int) (p m : Nat) (k v : Int) (hq : q = (p : Int)) (hq' : q' = (p : Int) + (m : Int)) (hk : k = (m : Int)) (hv : numL s p m = v) (hs : s.size ≤ 1000000000000) (hp : p ≤ s.size) (hm : m ≤ 6) (h : allD s p m = true) (w : World) (hst : St w0 ((r, rdB s q) :: F) w) :
    Calls Tryz.prog 94 #[.pointer (some ⟨r, 0, none⟩), .int .i64 k] w (Turns w0 (.tuple #[.int .i64 v, .bool true]) ((r, rdB s q') :: F)) := by
  subst hq hq' hk hv
  exact a_number_yes w0 F r s p m hs hp hm h w hst

theorem n_no (w0 : World) (F : SH) (r : Nat) (s : ByteArray) (q : Int) (p m : Nat) (k : Int) (hq : q = (p : Int)) (hk : k = (m : Int)) (hs : s.size ≤ 1000000000000) (hp : p ≤ s.size) (hm : m ≤ 6) (h : allD s p m = false) (w : World) (hst : St w0 ((r, rdB s q) :: F) w) :
    Calls Tryz.prog 94 #[.pointer (some ⟨r, 0, none⟩), .int .i64 k] w (Turns w0 (.tuple #[.int .i64 0, .bool false]) ((r, rdB s q) :: F)) := by
  subst hq hk
  exact a_number_no w0 F r s p m hs hp hm h w hst

theorem t_yes (w0 : World) (F : SH) (r : Nat) (s : ByteArray) (q q' : Int) (p : Nat) (c : Int) (hq : q = (p : Int)) (hq' : q' = (p : Int) + 1) (hs : s.size ≤ 1000000000000) (h : isB s p c = true) (w : World) (hst : St w0 ((r, rdB s q) :: F) w) :
    Calls Tryz.prog 61 #[.pointer (some ⟨r, 0, none⟩), .int .u8 c] w (Turns w0 (.bool true) ((r, rdB s q') :: F)) := by
  subst hq hq'
  exact a_take_yes w0 F r s p c hs h w hst

theorem t_no (w0 : World) (F : SH) (r : Nat) (s : ByteArray) (q : Int) (p : Nat) (c : Int) (hq : q = (p : Int)) (hs : s.size ≤ 1000000000000) (hp : p ≤ s.size) (h : isB s p c = false) (w : World) (hst : St w0 ((r, rdB s q) :: F) w) :
    Calls Tryz.prog 61 #[.pointer (some ⟨r, 0, none⟩), .int .u8 c] w (Turns w0 (.bool false) ((r, rdB s q) :: F)) := by
  subst hq
  exact a_take_no w0 F r s p c hs hp h w hst

/-- What a time that is read, or not, leaves. -/
def ClkR (s : ByteArray) (h : Bool) (r : Nat) (F : SH) (v : Value) (H : SH) : Prop :=
  (clkOk s h = true ∧ v = .tuple #[.agg #[.int .i64 (numL s 0 2), .int .i64 (numL s (2 + b2 h) 2), .int .i64 (numL s (4 + 2 * b2 h) 2), .int .i64 (frK s (6 + 2 * b2 h))], .nilIface] ∧ ∃ q : Int, H = (r, rdB s q) :: F) ∨
  (clkOk s h = false ∧ ∃ (b : Nat) (p q : Int), v = .tuple #[.agg #[.int .i64 0, .int .i64 0, .int .i64 0, .int .i64 0], .iface 154 (.pointer (some ⟨b, 0, none⟩))] ∧ H = (b, .cells 192 [.int .i64 p]) :: (r, rdB s q) :: F)

theorem a_clock1 (w0 : World) (F : SH) (r : Nat) (s : ByteArray) (hs : s.size ≤ 1000000000000) (w : World) (hst : St w0 ((r, rdB s 0) :: F) w) :
    Calls Tryz.prog 118 #[.pointer (some ⟨r, 0, none⟩), .bool true] w (TurnsR w0 (ClkR s true r F)) := by
  refine enterl Tryz.func118 rfl Tryz.ntmps118 rfl hst ?_
  (repeat (first | intro (b : Nat) | refine go ?_))
  rename_i bc
  refine C.rounds 5 ?_
  (repeat (first | intro (b : Nat) | refine go ?_))
  cases a1 : allD s 0 2
  · (refine L.tcallb r (h := by intro W hW; exact n_no _ _ _ s 0 0 2 2 rfl rfl hs (by omega) (by omega) a1 W hW) (k := ?_))
    (repeat' (first | intro (b : Nat) | refine go ?_ | (refine br ?_ ?_ <;> first | exact trivial | intro hq)))
    ((repeat (refine C.seq ?_)); apply C.drawsw 8 bc (.cells 35 [.int .i64 0, .int .i64 0, .int .i64 0, .int .i64 0]) 9 [none, none, none, none, some _, none, some _, none, some _])
    (repeat (first | intro (b : Nat) | refine gg ?_))
    (first | (apply G.stk; exact rfl; exact rfl; exact rfl; exact rfl; exact rfl; exact rfl; exact rfl; (· (repeat (first | exact Wr.nil | apply Wr.put | apply Wr.skip)))) | (apply G.st1; exact rfl; exact rfl; exact rfl; exact rfl; exact rfl; exact rfl; (· (repeat (first | exact Wr.nil | apply Wr.put | apply Wr.skip)))))
    (repeat (first | intro (b : Nat) | refine gg ?_))
    (repeat (first | intro (b : Nat) | refine go ?_))
    (refine rettR ((b, .cells 192 [.int .i64 0]) :: (r, rdB s 0) :: F) ?_)
    exact .inr ⟨by simp [clkOk, coV, b2, a1], _, _, _, rfl, rfl⟩
  · have za1 := isD_lt (allD_iff.1 a1 1 (by omega))
    (refine L.tcallb r (h := by intro W hW; exact n_yes _ _ _ s 0 2 0 2 2 _ rfl rfl rfl rfl hs (by omega) (by omega) a1 W hW) (k := ?_))
    (repeat (first | intro (b : Nat) | refine go ?_))
    cases c1 : isB s 2 58
    · (refine L.tcallb r (h := by intro W hW; exact t_no _ _ _ s 2 2 58 rfl hs (by omega) c1 W hW) (k := ?_))
      (repeat' (first | intro (b : Nat) | refine go ?_ | (refine br ?_ ?_ <;> first | exact trivial | intro hq)))
      ((repeat (refine C.seq ?_)); apply C.drawsw 8 bc (.cells 35 [.int .i64 0, .int .i64 0, .int .i64 0, .int .i64 0]) 9 [none, none, none, none, some _, none, some _, none, some _])
      (repeat (first | intro (b : Nat) | refine gg ?_))
      (first | (apply G.stk; exact rfl; exact rfl; exact rfl; exact rfl; exact rfl; exact rfl; exact rfl; (· (repeat (first | exact Wr.nil | apply Wr.put | apply Wr.skip)))) | (apply G.st1; exact rfl; exact rfl; exact rfl; exact rfl; exact rfl; exact rfl; (· (repeat (first | exact Wr.nil | apply Wr.put | apply Wr.skip)))))
      (repeat (first | intro (b : Nat) | refine gg ?_))
      (repeat (first | intro (b : Nat) | refine go ?_))
      (refine rettR ((b, .cells 192 [.int .i64 2]) :: (r, rdB s 2) :: F) ?_)
      exact .inr ⟨by simp [clkOk, coV, b2, a1, c1], _, _, _, rfl, rfl⟩
    · have zc1 := (isB_iff.1 c1).1
      (refine L.tcallb r (h := by intro W hW; exact t_yes _ _ _ s 2 3 2 58 rfl rfl hs c1 W hW) (k := ?_))
      (repeat (first | intro (b : Nat) | refine go ?_))
      cases a2 : allD s 3 2
      · (refine L.tcallb r (h := by intro W hW; exact n_no _ _ _ s 3 3 2 2 rfl rfl hs (by omega) (by omega) a2 W hW) (k := ?_))
        (repeat' (first | intro (b : Nat) | refine go ?_ | (refine br ?_ ?_ <;> first | exact trivial | intro hq)))
        ((repeat (refine C.seq ?_)); apply C.drawsw 8 bc (.cells 35 [.int .i64 0, .int .i64 0, .int .i64 0, .int .i64 0]) 9 [none, none, none, none, some _, none, some _, none, some _])
        (repeat (first | intro (b : Nat) | refine gg ?_))
        (first | (apply G.stk; exact rfl; exact rfl; exact rfl; exact rfl; exact rfl; exact rfl; exact rfl; (· (repeat (first | exact Wr.nil | apply Wr.put | apply Wr.skip)))) | (apply G.st1; exact rfl; exact rfl; exact rfl; exact rfl; exact rfl; exact rfl; (· (repeat (first | exact Wr.nil | apply Wr.put | apply Wr.skip)))))
        (repeat (first | intro (b : Nat) | refine gg ?_))
        (repeat (first | intro (b : Nat) | refine go ?_))
        (refine rettR ((b, .cells 192 [.int .i64 3]) :: (r, rdB s 3) :: F) ?_)
        exact .inr ⟨by simp [clkOk, coV, b2, a1, c1, a2], _, _, _, rfl, rfl⟩
      · have za2 := isD_lt (allD_iff.1 a2 1 (by omega))
        (refine L.tcallb r (h := by intro W hW; exact n_yes _ _ _ s 3 5 3 2 2 _ rfl rfl rfl rfl hs (by omega) (by omega) a2 W hW) (k := ?_))
        (repeat (first | intro (b : Nat) | refine go ?_))
        cases c2 : isB s 5 58
        · (refine L.tcallb r (h := by intro W hW; exact t_no _ _ _ s 5 5 58 rfl hs (by omega) c2 W hW) (k := ?_))
          (repeat' (first | intro (b : Nat) | refine go ?_ | (refine br ?_ ?_ <;> first | exact trivial | intro hq)))
          ((repeat (refine C.seq ?_)); apply C.drawsw 8 bc (.cells 35 [.int .i64 0, .int .i64 0, .int .i64 0, .int .i64 0]) 9 [none, none, none, none, some _, none, some _, none, some _])
          (repeat (first | intro (b : Nat) | refine gg ?_))
          (first | (apply G.stk; exact rfl; exact rfl; exact rfl; exact rfl; exact rfl; exact rfl; exact rfl; (· (repeat (first | exact Wr.nil | apply Wr.put | apply Wr.skip)))) | (apply G.st1; exact rfl; exact rfl; exact rfl; exact rfl; exact rfl; exact rfl; (· (repeat (first | exact Wr.nil | apply Wr.put | apply Wr.skip)))))
          (repeat (first | intro (b : Nat) | refine gg ?_))
          (repeat (first | intro (b : Nat) | refine go ?_))
          (refine rettR ((b, .cells 192 [.int .i64 5]) :: (r, rdB s 5) :: F) ?_)
          exact .inr ⟨by simp [clkOk, coV, b2, a1, c1, a2, c2], _, _, _, rfl, rfl⟩
        · have zc2 := (isB_iff.1 c2).1
          (refine L.tcallb r (h := by intro W hW; exact t_yes _ _ _ s 5 6 5 58 rfl rfl hs c2 W hW) (k := ?_))
          (repeat (first | intro (b : Nat) | refine go ?_))
          cases a3 : allD s 6 2
          · (refine L.tcallb r (h := by intro W hW; exact n_no _ _ _ s 6 6 2 2 rfl rfl hs (by omega) (by omega) a3 W hW) (k := ?_))
            (repeat' (first | intro (b : Nat) | refine go ?_ | (refine br ?_ ?_ <;> first | exact trivial | intro hq)))
            ((repeat (refine C.seq ?_)); apply C.drawsw 8 bc (.cells 35 [.int .i64 0, .int .i64 0, .int .i64 0, .int .i64 0]) 9 [none, none, none, none, some _, none, some _, none, some _])
            (repeat (first | intro (b : Nat) | refine gg ?_))
            (first | (apply G.stk; exact rfl; exact rfl; exact rfl; exact rfl; exact rfl; exact rfl; exact rfl; (· (repeat (first | exact Wr.nil | apply Wr.put | apply Wr.skip)))) | (apply G.st1; exact rfl; exact rfl; exact rfl; exact rfl; exact rfl; exact rfl; (· (repeat (first | exact Wr.nil | apply Wr.put | apply Wr.skip)))))
            (repeat (first | intro (b : Nat) | refine gg ?_))
            (repeat (first | intro (b : Nat) | refine go ?_))
            (refine rettR ((b, .cells 192 [.int .i64 6]) :: (r, rdB s 6) :: F) ?_)
            exact .inr ⟨by simp [clkOk, coV, b2, a1, c1, a2, c2, a3], _, _, _, rfl, rfl⟩
          · have za3 := isD_lt (allD_iff.1 a3 1 (by omega))
            (refine L.tcallb r (h := by intro W hW; exact n_yes _ _ _ s 6 8 6 2 2 _ rfl rfl rfl rfl hs (by omega) (by omega) a3 W hW) (k := ?_))
            (repeat (first | intro (b : Nat) | refine go ?_))
            cases hd : isB s 8 46
            · (refine L.tcallb r (h := by intro W hW; exact t_no _ _ _ s 8 8 46 rfl hs (by omega) hd W hW) (k := ?_))
              cases hq : decide ((8 : Int) = s.size)
              · have hne : ¬ s.size = 8 := by have := of_decide_eq_false hq; omega
                (repeat' (first | intro (b : Nat) | refine go ?_ | (refine br ?_ ?_ <;> first | exact trivial | intro hq) | refine L.call (h := by intro W hW; apply rvb hq (a_done r s 8 W (hW.cell (List.Mem.head _) rfl) (hW.cell (List.Mem.head _) rfl) hW.base)) (k := ?_)))
                ((repeat (refine C.seq ?_)); apply C.drawsw 8 bc (.cells 35 [.int .i64 0, .int .i64 0, .int .i64 0, .int .i64 0]) 9 [none, none, none, none, some _, none, some _, none, some _])
                (repeat (first | intro (b : Nat) | refine gg ?_))
                (first | (apply G.stk; exact rfl; exact rfl; exact rfl; exact rfl; exact rfl; exact rfl; exact rfl; (· (repeat (first | exact Wr.nil | apply Wr.put | apply Wr.skip)))) | (apply G.st1; exact rfl; exact rfl; exact rfl; exact rfl; exact rfl; exact rfl; (· (repeat (first | exact Wr.nil | apply Wr.put | apply Wr.skip)))))
                (repeat (first | intro (b : Nat) | refine gg ?_))
                (repeat (first | intro (b : Nat) | refine go ?_))
                (refine rettR ((b, .cells 192 [.int .i64 8]) :: (r, rdB s 8) :: F) ?_)
                exact .inr ⟨by simp [clkOk, coV, b2, frOk, a1, c1, a2, c2, a3, hd, hne], _, _, _, rfl, rfl⟩
              · have hz : s.size = 8 := by have := of_decide_eq_true hq; omega
                have eK : frK s 8 = 0 := if_pos hz
                cases hv : cval (numL s 0 2) (numL s 3 2) (numL s 6 2) 0
                · (repeat' (first | intro (b : Nat) | refine go ?_ | (refine br ?_ ?_ <;> first | exact trivial | intro hq) | refine L.call (h := by intro W hW; first | apply rvb hq (a_done r s 8 W (hW.cell (List.Mem.head _) rfl) (hW.cell (List.Mem.head _) rfl) hW.base) | apply rvb hv (a_ClockValid _ _ _ _ W hW.base)) (k := ?_)))
                  ((repeat (refine C.seq ?_)); apply C.drawsw 8 bc (.cells 35 [.int .i64 0, .int .i64 0, .int .i64 0, .int .i64 0]) 9 [none, none, none, none, some _, none, some _, none, some _])
                  (repeat (first | intro (b : Nat) | refine gg ?_))
                  (first | (apply G.stk; exact rfl; exact rfl; exact rfl; exact rfl; exact rfl; exact rfl; exact rfl; (· (repeat (first | exact Wr.nil | apply Wr.put | apply Wr.skip)))) | (apply G.st1; exact rfl; exact rfl; exact rfl; exact rfl; exact rfl; exact rfl; (· (repeat (first | exact Wr.nil | apply Wr.put | apply Wr.skip)))))
                  (repeat (first | intro (b : Nat) | refine gg ?_))
                  (repeat (first | intro (b : Nat) | refine go ?_))
                  (refine rettR ((b, .cells 192 [.int .i64 8]) :: (r, rdB s 8) :: F) ?_)
                  exact .inr ⟨by simp [clkOk, coV, b2, a1, c1, a2, c2, a3, eK, hv], _, _, _, rfl, rfl⟩
                · (repeat' (first | intro (b : Nat) | refine go ?_ | (refine br ?_ ?_ <;> first | exact trivial | intro hq) | refine L.call (h := by intro W hW; first | apply rvb hq (a_done r s 8 W (hW.cell (List.Mem.head _) rfl) (hW.cell (List.Mem.head _) rfl) hW.base) | apply rvb hv (a_ClockValid _ _ _ _ W hW.base)) (k := ?_) | refine gg ?_ | refine G.call (h := by intro W hW; first | apply rvb hq (a_done r s 8 W (hW.cell (List.Mem.head _) rfl) (hW.cell (List.Mem.head _) rfl) hW.base) | apply rvb hv (a_ClockValid _ _ _ _ W hW.base)) (k := ?_) | (apply C.draww (id := 6) 8 [none, none, none, none, some _, none, some _, none]) | (apply C.draww (id := 9) 8 [none, none, none, none, some _, none, some _, none]) | (apply C.draww (id := 16) 8 [none, none, none, none, some _, none, some _, none]) | (apply C.draww (id := 23) 8 [none, none, none, none, some _, none, some _, none])))
                  (refine rettR ((r, rdB s 8) :: F) ?_)
                  refine .inl ⟨by simp [clkOk, coV, b2, a1, c1, a2, c2, a3, eK, hv, frOk, hz], ?_, _, rfl⟩
                  show _ = Value.tuple #[.agg #[.int .i64 (numL s 0 2), .int .i64 (numL s 3 2), .int .i64 (numL s 6 2), .int .i64 (frK s 8)], .nilIface]
                  rw [eK]
                  rfl
            · have zd := (isB_iff.1 hd).1
              (refine L.tcallb r (h := by intro W hW; exact t_yes _ _ _ s 8 9 8 46 rfl rfl hs hd W hW) (k := ?_))
              (repeat (first | intro (b : Nat) | refine go ?_))
              (refine L.vcall (h := by intro W hW; exact a_run r s 9 hs (by omega) W (hW.cell (List.Mem.head _) rfl) (hW.cell (List.Mem.head _) rfl) hW.base) (k := ?_); intro v hR)
              obtain ⟨j, rfl, hj1, hj2⟩ := hR
              have hfr := fr_run hd hj1 hj2
              cases hr : inR (j : Int) 1 3
              · have hr' := inR_false.1 hr
                have hf : frOk s 8 = false := by rw [hfr]; exact decide_eq_false (by omega)
                (repeat' (first | intro (b : Nat) | refine go ?_ | (refine br ?_ ?_ <;> first | exact trivial | intro hq) | refine L.call (h := by intro W hW; apply rvb hr (a_within _ _ _ W hW.base)) (k := ?_)))
                ((repeat (refine C.seq ?_)); apply C.drawsw 8 bc (.cells 35 [.int .i64 0, .int .i64 0, .int .i64 0, .int .i64 0]) 9 [none, none, none, none, some _, none, some _, none, some _])
                (repeat (first | intro (b : Nat) | refine gg ?_))
                (first | (apply G.stk; exact rfl; exact rfl; exact rfl; exact rfl; exact rfl; exact rfl; exact rfl; (· (repeat (first | exact Wr.nil | apply Wr.put | apply Wr.skip)))) | (apply G.st1; exact rfl; exact rfl; exact rfl; exact rfl; exact rfl; exact rfl; (· (repeat (first | exact Wr.nil | apply Wr.put | apply Wr.skip)))))
                (repeat (first | intro (b : Nat) | refine gg ?_))
                (repeat (first | intro (b : Nat) | refine go ?_))
                (refine rettR ((b, .cells 192 [.int .i64 9]) :: (r, rdB s 9) :: F) ?_)
                exact .inr ⟨by simp [clkOk, coV, b2, a1, c1, a2, c2, a3, hf], _, _, _, rfl, rfl⟩
              · have hr' := inR_true.1 hr
                have haj : allD s 9 j = true := allD_iff.2 hj1
                have hbj := numL_bd haj
                clear hj1 hj2
                rcases (by omega : j = 1 ∨ j = 2 ∨ j = 3) with rfl | rfl | rfl
                · simp only [p10] at hbj
                  have eM : ∀ h : 9 + 1 = s.size, frK s 8 = numL s 9 1 * 10 * 10 := fun h => by
                    rw [frK_run (j := 1) (by omega) h]
                    show numL s 9 1 * 100 = numL s 9 1 * 10 * 10
                    first | rfl | omega
                  (repeat' (first | intro (b : Nat) | refine go ?_ | (refine br ?_ ?_ <;> first | exact trivial | intro hq) | refine L.call (h := by intro W hW; apply rvb hr (a_within _ _ _ W hW.base)) (k := ?_)))
                  (refine L.tcallb r (h := by intro W hW; exact n_yes _ _ _ s 9 10 9 1 _ _ rfl rfl rfl rfl hs (by omega) (by omega) haj W hW) (k := ?_))
                  (repeat (first | intro (b : Nat) | refine go ?_))
                  refine C.rounds 4 ?_
                  cases hq : decide ((10 : Int) = s.size)
                  · have hf : frOk s 8 = false := by rw [hfr]; exact decide_eq_false (by have := of_decide_eq_false hq; omega)
                    (repeat' (first | intro (b : Nat) | refine go ?_ | (refine br ?_ ?_ <;> first | exact trivial | intro hq) | refine L.call (h := by intro W hW; apply rvb hq (a_done r s 10 W (hW.cell (List.Mem.head _) rfl) (hW.cell (List.Mem.head _) rfl) hW.base)) (k := ?_)))
                    ((repeat (refine C.seq ?_)); apply C.drawsw 8 bc (.cells 35 [.int .i64 0, .int .i64 0, .int .i64 0, .int .i64 0]) 9 [none, none, none, none, some _, none, some _, none, some _])
                    (repeat (first | intro (b : Nat) | refine gg ?_))
                    (first | (apply G.stk; exact rfl; exact rfl; exact rfl; exact rfl; exact rfl; exact rfl; exact rfl; (· (repeat (first | exact Wr.nil | apply Wr.put | apply Wr.skip)))) | (apply G.st1; exact rfl; exact rfl; exact rfl; exact rfl; exact rfl; exact rfl; (· (repeat (first | exact Wr.nil | apply Wr.put | apply Wr.skip)))))
                    (repeat (first | intro (b : Nat) | refine gg ?_))
                    (repeat (first | intro (b : Nat) | refine go ?_))
                    (refine rettR ((b, .cells 192 [.int .i64 10]) :: (r, rdB s 10) :: F) ?_)
                    exact .inr ⟨by simp [clkOk, coV, b2, a1, c1, a2, c2, a3, hf], _, _, _, rfl, rfl⟩
                  · have hz : 9 + 1 = s.size := by have := of_decide_eq_true hq; omega
                    have hf : frOk s 8 = true := by rw [hfr]; exact decide_eq_true (by omega)
                    have eK := eM hz
                    clear eM hfr
                    cases hv : cval (numL s 0 2) (numL s 3 2) (numL s 6 2) (numL s 9 1 * 10 * 10)
                    · (repeat' (first | intro (b : Nat) | refine go ?_ | (refine br ?_ ?_ <;> first | exact trivial | intro hq) | refine L.call (h := by intro W hW; first | apply rvb hq (a_done r s 10 W (hW.cell (List.Mem.head _) rfl) (hW.cell (List.Mem.head _) rfl) hW.base) | apply rvb hv (a_ClockValid _ _ _ _ W hW.base)) (k := ?_)))
                      ((repeat (refine C.seq ?_)); apply C.drawsw 8 bc (.cells 35 [.int .i64 0, .int .i64 0, .int .i64 0, .int .i64 0]) 9 [none, none, none, none, some _, none, some _, none, some _])
                      (repeat (first | intro (b : Nat) | refine gg ?_))
                      (first | (apply G.stk; exact rfl; exact rfl; exact rfl; exact rfl; exact rfl; exact rfl; exact rfl; (· (repeat (first | exact Wr.nil | apply Wr.put | apply Wr.skip)))) | (apply G.st1; exact rfl; exact rfl; exact rfl; exact rfl; exact rfl; exact rfl; (· (repeat (first | exact Wr.nil | apply Wr.put | apply Wr.skip)))))
                      (repeat (first | intro (b : Nat) | refine gg ?_))
                      (repeat (first | intro (b : Nat) | refine go ?_))
                      (refine rettR ((b, .cells 192 [.int .i64 10]) :: (r, rdB s 10) :: F) ?_)
                      exact .inr ⟨by simp [clkOk, coV, b2, a1, c1, a2, c2, a3, eK, hv], _, _, _, rfl, rfl⟩
                    · (repeat' (first | intro (b : Nat) | refine go ?_ | (refine br ?_ ?_ <;> first | exact trivial | intro hq) | refine L.call (h := by intro W hW; first | apply rvb hq (a_done r s 10 W (hW.cell (List.Mem.head _) rfl) (hW.cell (List.Mem.head _) rfl) hW.base) | apply rvb hv (a_ClockValid _ _ _ _ W hW.base)) (k := ?_) | refine gg ?_ | refine G.call (h := by intro W hW; first | apply rvb hq (a_done r s 10 W (hW.cell (List.Mem.head _) rfl) (hW.cell (List.Mem.head _) rfl) hW.base) | apply rvb hv (a_ClockValid _ _ _ _ W hW.base)) (k := ?_) | (apply C.draww (id := 6) 8 [none, none, none, none, some _, none, some _, none]) | (apply C.draww (id := 9) 8 [none, none, none, none, some _, none, some _, none]) | (apply C.draww (id := 16) 8 [none, none, none, none, some _, none, some _, none]) | (apply C.draww (id := 23) 8 [none, none, none, none, some _, none, some _, none])))
                      (refine rettR ((r, rdB s 10) :: F) ?_)
                      refine .inl ⟨by simp [clkOk, coV, b2, a1, c1, a2, c2, a3, eK, hv, hf], ?_, _, rfl⟩
                      show _ = Value.tuple #[.agg #[.int .i64 (numL s 0 2), .int .i64 (numL s 3 2), .int .i64 (numL s 6 2), .int .i64 (frK s 8)], .nilIface]
                      rw [eK]
                      rfl
                · simp only [p10] at hbj
                  have eM : ∀ h : 9 + 2 = s.size, frK s 8 = numL s 9 2 * 10 := fun h => by
                    rw [frK_run (j := 2) (by omega) h]
                    show numL s 9 2 * 10 = numL s 9 2 * 10
                    first | rfl | omega
                  (repeat' (first | intro (b : Nat) | refine go ?_ | (refine br ?_ ?_ <;> first | exact trivial | intro hq) | refine L.call (h := by intro W hW; apply rvb hr (a_within _ _ _ W hW.base)) (k := ?_)))
                  (refine L.tcallb r (h := by intro W hW; exact n_yes _ _ _ s 9 11 9 2 _ _ rfl rfl rfl rfl hs (by omega) (by omega) haj W hW) (k := ?_))
                  (repeat (first | intro (b : Nat) | refine go ?_))
                  refine C.rounds 4 ?_
                  cases hq : decide ((11 : Int) = s.size)
                  · have hf : frOk s 8 = false := by rw [hfr]; exact decide_eq_false (by have := of_decide_eq_false hq; omega)
                    (repeat' (first | intro (b : Nat) | refine go ?_ | (refine br ?_ ?_ <;> first | exact trivial | intro hq) | refine L.call (h := by intro W hW; apply rvb hq (a_done r s 11 W (hW.cell (List.Mem.head _) rfl) (hW.cell (List.Mem.head _) rfl) hW.base)) (k := ?_)))
                    ((repeat (refine C.seq ?_)); apply C.drawsw 8 bc (.cells 35 [.int .i64 0, .int .i64 0, .int .i64 0, .int .i64 0]) 9 [none, none, none, none, some _, none, some _, none, some _])
                    (repeat (first | intro (b : Nat) | refine gg ?_))
                    (first | (apply G.stk; exact rfl; exact rfl; exact rfl; exact rfl; exact rfl; exact rfl; exact rfl; (· (repeat (first | exact Wr.nil | apply Wr.put | apply Wr.skip)))) | (apply G.st1; exact rfl; exact rfl; exact rfl; exact rfl; exact rfl; exact rfl; (· (repeat (first | exact Wr.nil | apply Wr.put | apply Wr.skip)))))
                    (repeat (first | intro (b : Nat) | refine gg ?_))
                    (repeat (first | intro (b : Nat) | refine go ?_))
                    (refine rettR ((b, .cells 192 [.int .i64 11]) :: (r, rdB s 11) :: F) ?_)
                    exact .inr ⟨by simp [clkOk, coV, b2, a1, c1, a2, c2, a3, hf], _, _, _, rfl, rfl⟩
                  · have hz : 9 + 2 = s.size := by have := of_decide_eq_true hq; omega
                    have hf : frOk s 8 = true := by rw [hfr]; exact decide_eq_true (by omega)
                    have eK := eM hz
                    clear eM hfr
                    cases hv : cval (numL s 0 2) (numL s 3 2) (numL s 6 2) (numL s 9 2 * 10)
                    · (repeat' (first | intro (b : Nat) | refine go ?_ | (refine br ?_ ?_ <;> first | exact trivial | intro hq) | refine L.call (h := by intro W hW; first | apply rvb hq (a_done r s 11 W (hW.cell (List.Mem.head _) rfl) (hW.cell (List.Mem.head _) rfl) hW.base) | apply rvb hv (a_ClockValid _ _ _ _ W hW.base)) (k := ?_)))
                      ((repeat (refine C.seq ?_)); apply C.drawsw 8 bc (.cells 35 [.int .i64 0, .int .i64 0, .int .i64 0, .int .i64 0]) 9 [none, none, none, none, some _, none, some _, none, some _])
                      (repeat (first | intro (b : Nat) | refine gg ?_))
                      (first | (apply G.stk; exact rfl; exact rfl; exact rfl; exact rfl; exact rfl; exact rfl; exact rfl; (· (repeat (first | exact Wr.nil | apply Wr.put | apply Wr.skip)))) | (apply G.st1; exact rfl; exact rfl; exact rfl; exact rfl; exact rfl; exact rfl; (· (repeat (first | exact Wr.nil | apply Wr.put | apply Wr.skip)))))
                      (repeat (first | intro (b : Nat) | refine gg ?_))
                      (repeat (first | intro (b : Nat) | refine go ?_))
                      (refine rettR ((b, .cells 192 [.int .i64 11]) :: (r, rdB s 11) :: F) ?_)
                      exact .inr ⟨by simp [clkOk, coV, b2, a1, c1, a2, c2, a3, eK, hv], _, _, _, rfl, rfl⟩
                    · (repeat' (first | intro (b : Nat) | refine go ?_ | (refine br ?_ ?_ <;> first | exact trivial | intro hq) | refine L.call (h := by intro W hW; first | apply rvb hq (a_done r s 11 W (hW.cell (List.Mem.head _) rfl) (hW.cell (List.Mem.head _) rfl) hW.base) | apply rvb hv (a_ClockValid _ _ _ _ W hW.base)) (k := ?_) | refine gg ?_ | refine G.call (h := by intro W hW; first | apply rvb hq (a_done r s 11 W (hW.cell (List.Mem.head _) rfl) (hW.cell (List.Mem.head _) rfl) hW.base) | apply rvb hv (a_ClockValid _ _ _ _ W hW.base)) (k := ?_) | (apply C.draww (id := 6) 8 [none, none, none, none, some _, none, some _, none]) | (apply C.draww (id := 9) 8 [none, none, none, none, some _, none, some _, none]) | (apply C.draww (id := 16) 8 [none, none, none, none, some _, none, some _, none]) | (apply C.draww (id := 23) 8 [none, none, none, none, some _, none, some _, none])))
                      (refine rettR ((r, rdB s 11) :: F) ?_)
                      refine .inl ⟨by simp [clkOk, coV, b2, a1, c1, a2, c2, a3, eK, hv, hf], ?_, _, rfl⟩
                      show _ = Value.tuple #[.agg #[.int .i64 (numL s 0 2), .int .i64 (numL s 3 2), .int .i64 (numL s 6 2), .int .i64 (frK s 8)], .nilIface]
                      rw [eK]
                      rfl
                · simp only [p10] at hbj
                  have eM : ∀ h : 9 + 3 = s.size, frK s 8 = numL s 9 3 := fun h => by
                    rw [frK_run (j := 3) (by omega) h]
                    show numL s 9 3 * 1 = numL s 9 3
                    first | rfl | omega
                  (repeat' (first | intro (b : Nat) | refine go ?_ | (refine br ?_ ?_ <;> first | exact trivial | intro hq) | refine L.call (h := by intro W hW; apply rvb hr (a_within _ _ _ W hW.base)) (k := ?_)))
                  (refine L.tcallb r (h := by intro W hW; exact n_yes _ _ _ s 9 12 9 3 _ _ rfl rfl rfl rfl hs (by omega) (by omega) haj W hW) (k := ?_))
                  (repeat (first | intro (b : Nat) | refine go ?_))
                  refine C.rounds 4 ?_
                  cases hq : decide ((12 : Int) = s.size)
                  · have hf : frOk s 8 = false := by rw [hfr]; exact decide_eq_false (by have := of_decide_eq_false hq; omega)
                    (repeat' (first | intro (b : Nat) | refine go ?_ | (refine br ?_ ?_ <;> first | exact trivial | intro hq) | refine L.call (h := by intro W hW; apply rvb hq (a_done r s 12 W (hW.cell (List.Mem.head _) rfl) (hW.cell (List.Mem.head _) rfl) hW.base)) (k := ?_)))
                    ((repeat (refine C.seq ?_)); apply C.drawsw 8 bc (.cells 35 [.int .i64 0, .int .i64 0, .int .i64 0, .int .i64 0]) 9 [none, none, none, none, some _, none, some _, none, some _])
                    (repeat (first | intro (b : Nat) | refine gg ?_))
                    (first | (apply G.stk; exact rfl; exact rfl; exact rfl; exact rfl; exact rfl; exact rfl; exact rfl; (· (repeat (first | exact Wr.nil | apply Wr.put | apply Wr.skip)))) | (apply G.st1; exact rfl; exact rfl; exact rfl; exact rfl; exact rfl; exact rfl; (· (repeat (first | exact Wr.nil | apply Wr.put | apply Wr.skip)))))
                    (repeat (first | intro (b : Nat) | refine gg ?_))
                    (repeat (first | intro (b : Nat) | refine go ?_))
                    (refine rettR ((b, .cells 192 [.int .i64 12]) :: (r, rdB s 12) :: F) ?_)
                    exact .inr ⟨by simp [clkOk, coV, b2, a1, c1, a2, c2, a3, hf], _, _, _, rfl, rfl⟩
                  · have hz : 9 + 3 = s.size := by have := of_decide_eq_true hq; omega
                    have hf : frOk s 8 = true := by rw [hfr]; exact decide_eq_true (by omega)
                    have eK := eM hz
                    clear eM hfr
                    cases hv : cval (numL s 0 2) (numL s 3 2) (numL s 6 2) (numL s 9 3)
                    · (repeat' (first | intro (b : Nat) | refine go ?_ | (refine br ?_ ?_ <;> first | exact trivial | intro hq) | refine L.call (h := by intro W hW; first | apply rvb hq (a_done r s 12 W (hW.cell (List.Mem.head _) rfl) (hW.cell (List.Mem.head _) rfl) hW.base) | apply rvb hv (a_ClockValid _ _ _ _ W hW.base)) (k := ?_)))
                      ((repeat (refine C.seq ?_)); apply C.drawsw 8 bc (.cells 35 [.int .i64 0, .int .i64 0, .int .i64 0, .int .i64 0]) 9 [none, none, none, none, some _, none, some _, none, some _])
                      (repeat (first | intro (b : Nat) | refine gg ?_))
                      (first | (apply G.stk; exact rfl; exact rfl; exact rfl; exact rfl; exact rfl; exact rfl; exact rfl; (· (repeat (first | exact Wr.nil | apply Wr.put | apply Wr.skip)))) | (apply G.st1; exact rfl; exact rfl; exact rfl; exact rfl; exact rfl; exact rfl; (· (repeat (first | exact Wr.nil | apply Wr.put | apply Wr.skip)))))
                      (repeat (first | intro (b : Nat) | refine gg ?_))
                      (repeat (first | intro (b : Nat) | refine go ?_))
                      (refine rettR ((b, .cells 192 [.int .i64 12]) :: (r, rdB s 12) :: F) ?_)
                      exact .inr ⟨by simp [clkOk, coV, b2, a1, c1, a2, c2, a3, eK, hv], _, _, _, rfl, rfl⟩
                    · (repeat' (first | intro (b : Nat) | refine go ?_ | (refine br ?_ ?_ <;> first | exact trivial | intro hq) | refine L.call (h := by intro W hW; first | apply rvb hq (a_done r s 12 W (hW.cell (List.Mem.head _) rfl) (hW.cell (List.Mem.head _) rfl) hW.base) | apply rvb hv (a_ClockValid _ _ _ _ W hW.base)) (k := ?_) | refine gg ?_ | refine G.call (h := by intro W hW; first | apply rvb hq (a_done r s 12 W (hW.cell (List.Mem.head _) rfl) (hW.cell (List.Mem.head _) rfl) hW.base) | apply rvb hv (a_ClockValid _ _ _ _ W hW.base)) (k := ?_) | (apply C.draww (id := 6) 8 [none, none, none, none, some _, none, some _, none]) | (apply C.draww (id := 9) 8 [none, none, none, none, some _, none, some _, none]) | (apply C.draww (id := 16) 8 [none, none, none, none, some _, none, some _, none]) | (apply C.draww (id := 23) 8 [none, none, none, none, some _, none, some _, none])))
                      (refine rettR ((r, rdB s 12) :: F) ?_)
                      refine .inl ⟨by simp [clkOk, coV, b2, a1, c1, a2, c2, a3, eK, hv, hf], ?_, _, rfl⟩
                      show _ = Value.tuple #[.agg #[.int .i64 (numL s 0 2), .int .i64 (numL s 3 2), .int .i64 (numL s 6 2), .int .i64 (frK s 8)], .nilIface]
                      rw [eK]
                      rfl

theorem a_clock0 (w0 : World) (F : SH) (r : Nat) (s : ByteArray) (hs : s.size ≤ 1000000000000) (w : World) (hst : St w0 ((r, rdB s 0) :: F) w) :
    Calls Tryz.prog 118 #[.pointer (some ⟨r, 0, none⟩), .bool false] w (TurnsR w0 (ClkR s false r F)) := by
  refine enterl Tryz.func118 rfl Tryz.ntmps118 rfl hst ?_
  (repeat (first | intro (b : Nat) | refine go ?_))
  rename_i bc
  refine C.rounds 5 ?_
  (repeat (first | intro (b : Nat) | refine go ?_))
  cases a1 : allD s 0 2
  · (refine L.tcallb r (h := by intro W hW; exact n_no _ _ _ s 0 0 2 2 rfl rfl hs (by omega) (by omega) a1 W hW) (k := ?_))
    (repeat' (first | intro (b : Nat) | refine go ?_ | (refine br ?_ ?_ <;> first | exact trivial | intro hq)))
    ((repeat (refine C.seq ?_)); apply C.drawsw 8 bc (.cells 35 [.int .i64 0, .int .i64 0, .int .i64 0, .int .i64 0]) 9 [none, none, none, none, some _, none, some _, none, some _])
    (repeat (first | intro (b : Nat) | refine gg ?_))
    (first | (apply G.stk; exact rfl; exact rfl; exact rfl; exact rfl; exact rfl; exact rfl; exact rfl; (· (repeat (first | exact Wr.nil | apply Wr.put | apply Wr.skip)))) | (apply G.st1; exact rfl; exact rfl; exact rfl; exact rfl; exact rfl; exact rfl; (· (repeat (first | exact Wr.nil | apply Wr.put | apply Wr.skip)))))
    (repeat (first | intro (b : Nat) | refine gg ?_))
    (repeat (first | intro (b : Nat) | refine go ?_))
    (refine rettR ((b, .cells 192 [.int .i64 0]) :: (r, rdB s 0) :: F) ?_)
    exact .inr ⟨by simp [clkOk, coV, b2, a1], _, _, _, rfl, rfl⟩
  · have za1 := isD_lt (allD_iff.1 a1 1 (by omega))
    (refine L.tcallb r (h := by intro W hW; exact n_yes _ _ _ s 0 2 0 2 2 _ rfl rfl rfl rfl hs (by omega) (by omega) a1 W hW) (k := ?_))
    (repeat (first | intro (b : Nat) | refine go ?_))
    cases a2 : allD s 2 2
    · (refine L.tcallb r (h := by intro W hW; exact n_no _ _ _ s 2 2 2 2 rfl rfl hs (by omega) (by omega) a2 W hW) (k := ?_))
      (repeat' (first | intro (b : Nat) | refine go ?_ | (refine br ?_ ?_ <;> first | exact trivial | intro hq)))
      ((repeat (refine C.seq ?_)); apply C.drawsw 8 bc (.cells 35 [.int .i64 0, .int .i64 0, .int .i64 0, .int .i64 0]) 9 [none, none, none, none, some _, none, some _, none, some _])
      (repeat (first | intro (b : Nat) | refine gg ?_))
      (first | (apply G.stk; exact rfl; exact rfl; exact rfl; exact rfl; exact rfl; exact rfl; exact rfl; (· (repeat (first | exact Wr.nil | apply Wr.put | apply Wr.skip)))) | (apply G.st1; exact rfl; exact rfl; exact rfl; exact rfl; exact rfl; exact rfl; (· (repeat (first | exact Wr.nil | apply Wr.put | apply Wr.skip)))))
      (repeat (first | intro (b : Nat) | refine gg ?_))
      (repeat (first | intro (b : Nat) | refine go ?_))
      (refine rettR ((b, .cells 192 [.int .i64 2]) :: (r, rdB s 2) :: F) ?_)
      exact .inr ⟨by simp [clkOk, coV, b2, a1, a2], _, _, _, rfl, rfl⟩
    · have za2 := isD_lt (allD_iff.1 a2 1 (by omega))
      (refine L.tcallb r (h := by intro W hW; exact n_yes _ _ _ s 2 4 2 2 2 _ rfl rfl rfl rfl hs (by omega) (by omega) a2 W hW) (k := ?_))
      (repeat (first | intro (b : Nat) | refine go ?_))
      cases a3 : allD s 4 2
      · (refine L.tcallb r (h := by intro W hW; exact n_no _ _ _ s 4 4 2 2 rfl rfl hs (by omega) (by omega) a3 W hW) (k := ?_))
        (repeat' (first | intro (b : Nat) | refine go ?_ | (refine br ?_ ?_ <;> first | exact trivial | intro hq)))
        ((repeat (refine C.seq ?_)); apply C.drawsw 8 bc (.cells 35 [.int .i64 0, .int .i64 0, .int .i64 0, .int .i64 0]) 9 [none, none, none, none, some _, none, some _, none, some _])
        (repeat (first | intro (b : Nat) | refine gg ?_))
        (first | (apply G.stk; exact rfl; exact rfl; exact rfl; exact rfl; exact rfl; exact rfl; exact rfl; (· (repeat (first | exact Wr.nil | apply Wr.put | apply Wr.skip)))) | (apply G.st1; exact rfl; exact rfl; exact rfl; exact rfl; exact rfl; exact rfl; (· (repeat (first | exact Wr.nil | apply Wr.put | apply Wr.skip)))))
        (repeat (first | intro (b : Nat) | refine gg ?_))
        (repeat (first | intro (b : Nat) | refine go ?_))
        (refine rettR ((b, .cells 192 [.int .i64 4]) :: (r, rdB s 4) :: F) ?_)
        exact .inr ⟨by simp [clkOk, coV, b2, a1, a2, a3], _, _, _, rfl, rfl⟩
      · have za3 := isD_lt (allD_iff.1 a3 1 (by omega))
        (refine L.tcallb r (h := by intro W hW; exact n_yes _ _ _ s 4 6 4 2 2 _ rfl rfl rfl rfl hs (by omega) (by omega) a3 W hW) (k := ?_))
        (repeat (first | intro (b : Nat) | refine go ?_))
        cases hd : isB s 6 46
        · (refine L.tcallb r (h := by intro W hW; exact t_no _ _ _ s 6 6 46 rfl hs (by omega) hd W hW) (k := ?_))
          cases hq : decide ((6 : Int) = s.size)
          · have hne : ¬ s.size = 6 := by have := of_decide_eq_false hq; omega
            (repeat' (first | intro (b : Nat) | refine go ?_ | (refine br ?_ ?_ <;> first | exact trivial | intro hq) | refine L.call (h := by intro W hW; apply rvb hq (a_done r s 6 W (hW.cell (List.Mem.head _) rfl) (hW.cell (List.Mem.head _) rfl) hW.base)) (k := ?_)))
            ((repeat (refine C.seq ?_)); apply C.drawsw 8 bc (.cells 35 [.int .i64 0, .int .i64 0, .int .i64 0, .int .i64 0]) 9 [none, none, none, none, some _, none, some _, none, some _])
            (repeat (first | intro (b : Nat) | refine gg ?_))
            (first | (apply G.stk; exact rfl; exact rfl; exact rfl; exact rfl; exact rfl; exact rfl; exact rfl; (· (repeat (first | exact Wr.nil | apply Wr.put | apply Wr.skip)))) | (apply G.st1; exact rfl; exact rfl; exact rfl; exact rfl; exact rfl; exact rfl; (· (repeat (first | exact Wr.nil | apply Wr.put | apply Wr.skip)))))
            (repeat (first | intro (b : Nat) | refine gg ?_))
            (repeat (first | intro (b : Nat) | refine go ?_))
            (refine rettR ((b, .cells 192 [.int .i64 6]) :: (r, rdB s 6) :: F) ?_)
            exact .inr ⟨by simp [clkOk, coV, b2, frOk, a1, a2, a3, hd, hne], _, _, _, rfl, rfl⟩
          · have hz : s.size = 6 := by have := of_decide_eq_true hq; omega
            have eK : frK s 6 = 0 := if_pos hz
            cases hv : cval (numL s 0 2) (numL s 2 2) (numL s 4 2) 0
            · (repeat' (first | intro (b : Nat) | refine go ?_ | (refine br ?_ ?_ <;> first | exact trivial | intro hq) | refine L.call (h := by intro W hW; first | apply rvb hq (a_done r s 6 W (hW.cell (List.Mem.head _) rfl) (hW.cell (List.Mem.head _) rfl) hW.base) | apply rvb hv (a_ClockValid _ _ _ _ W hW.base)) (k := ?_)))
              ((repeat (refine C.seq ?_)); apply C.drawsw 8 bc (.cells 35 [.int .i64 0, .int .i64 0, .int .i64 0, .int .i64 0]) 9 [none, none, none, none, some _, none, some _, none, some _])
              (repeat (first | intro (b : Nat) | refine gg ?_))
              (first | (apply G.stk; exact rfl; exact rfl; exact rfl; exact rfl; exact rfl; exact rfl; exact rfl; (· (repeat (first | exact Wr.nil | apply Wr.put | apply Wr.skip)))) | (apply G.st1; exact rfl; exact rfl; exact rfl; exact rfl; exact rfl; exact rfl; (· (repeat (first | exact Wr.nil | apply Wr.put | apply Wr.skip)))))
              (repeat (first | intro (b : Nat) | refine gg ?_))
              (repeat (first | intro (b : Nat) | refine go ?_))
              (refine rettR ((b, .cells 192 [.int .i64 6]) :: (r, rdB s 6) :: F) ?_)
              exact .inr ⟨by simp [clkOk, coV, b2, a1, a2, a3, eK, hv], _, _, _, rfl, rfl⟩
            · (repeat' (first | intro (b : Nat) | refine go ?_ | (refine br ?_ ?_ <;> first | exact trivial | intro hq) | refine L.call (h := by intro W hW; first | apply rvb hq (a_done r s 6 W (hW.cell (List.Mem.head _) rfl) (hW.cell (List.Mem.head _) rfl) hW.base) | apply rvb hv (a_ClockValid _ _ _ _ W hW.base)) (k := ?_) | refine gg ?_ | refine G.call (h := by intro W hW; first | apply rvb hq (a_done r s 6 W (hW.cell (List.Mem.head _) rfl) (hW.cell (List.Mem.head _) rfl) hW.base) | apply rvb hv (a_ClockValid _ _ _ _ W hW.base)) (k := ?_) | (apply C.draww (id := 6) 8 [none, none, none, none, some _, none, some _, none]) | (apply C.draww (id := 9) 8 [none, none, none, none, some _, none, some _, none]) | (apply C.draww (id := 16) 8 [none, none, none, none, some _, none, some _, none]) | (apply C.draww (id := 23) 8 [none, none, none, none, some _, none, some _, none])))
              (refine rettR ((r, rdB s 6) :: F) ?_)
              refine .inl ⟨by simp [clkOk, coV, b2, a1, a2, a3, eK, hv, frOk, hz], ?_, _, rfl⟩
              show _ = Value.tuple #[.agg #[.int .i64 (numL s 0 2), .int .i64 (numL s 2 2), .int .i64 (numL s 4 2), .int .i64 (frK s 6)], .nilIface]
              rw [eK]
              rfl
        · have zd := (isB_iff.1 hd).1
          (refine L.tcallb r (h := by intro W hW; exact t_yes _ _ _ s 6 7 6 46 rfl rfl hs hd W hW) (k := ?_))
          (repeat (first | intro (b : Nat) | refine go ?_))
          (refine L.vcall (h := by intro W hW; exact a_run r s 7 hs (by omega) W (hW.cell (List.Mem.head _) rfl) (hW.cell (List.Mem.head _) rfl) hW.base) (k := ?_); intro v hR)
          obtain ⟨j, rfl, hj1, hj2⟩ := hR
          have hfr := fr_run hd hj1 hj2
          cases hr : inR (j : Int) 1 3
          · have hr' := inR_false.1 hr
            have hf : frOk s 6 = false := by rw [hfr]; exact decide_eq_false (by omega)
            (repeat' (first | intro (b : Nat) | refine go ?_ | (refine br ?_ ?_ <;> first | exact trivial | intro hq) | refine L.call (h := by intro W hW; apply rvb hr (a_within _ _ _ W hW.base)) (k := ?_)))
            ((repeat (refine C.seq ?_)); apply C.drawsw 8 bc (.cells 35 [.int .i64 0, .int .i64 0, .int .i64 0, .int .i64 0]) 9 [none, none, none, none, some _, none, some _, none, some _])
            (repeat (first | intro (b : Nat) | refine gg ?_))
            (first | (apply G.stk; exact rfl; exact rfl; exact rfl; exact rfl; exact rfl; exact rfl; exact rfl; (· (repeat (first | exact Wr.nil | apply Wr.put | apply Wr.skip)))) | (apply G.st1; exact rfl; exact rfl; exact rfl; exact rfl; exact rfl; exact rfl; (· (repeat (first | exact Wr.nil | apply Wr.put | apply Wr.skip)))))
            (repeat (first | intro (b : Nat) | refine gg ?_))
            (repeat (first | intro (b : Nat) | refine go ?_))
            (refine rettR ((b, .cells 192 [.int .i64 7]) :: (r, rdB s 7) :: F) ?_)
            exact .inr ⟨by simp [clkOk, coV, b2, a1, a2, a3, hf], _, _, _, rfl, rfl⟩
          · have hr' := inR_true.1 hr
            have haj : allD s 7 j = true := allD_iff.2 hj1
            have hbj := numL_bd haj
            clear hj1 hj2
            rcases (by omega : j = 1 ∨ j = 2 ∨ j = 3) with rfl | rfl | rfl
            · simp only [p10] at hbj
              have eM : ∀ h : 7 + 1 = s.size, frK s 6 = numL s 7 1 * 10 * 10 := fun h => by
                rw [frK_run (j := 1) (by omega) h]
                show numL s 7 1 * 100 = numL s 7 1 * 10 * 10
                first | rfl | omega
              (repeat' (first | intro (b : Nat) | refine go ?_ | (refine br ?_ ?_ <;> first | exact trivial | intro hq) | refine L.call (h := by intro W hW; apply rvb hr (a_within _ _ _ W hW.base)) (k := ?_)))
              (refine L.tcallb r (h := by intro W hW; exact n_yes _ _ _ s 7 8 7 1 _ _ rfl rfl rfl rfl hs (by omega) (by omega) haj W hW) (k := ?_))
              (repeat (first | intro (b : Nat) | refine go ?_))
              refine C.rounds 4 ?_
              cases hq : decide ((8 : Int) = s.size)
              · have hf : frOk s 6 = false := by rw [hfr]; exact decide_eq_false (by have := of_decide_eq_false hq; omega)
                (repeat' (first | intro (b : Nat) | refine go ?_ | (refine br ?_ ?_ <;> first | exact trivial | intro hq) | refine L.call (h := by intro W hW; apply rvb hq (a_done r s 8 W (hW.cell (List.Mem.head _) rfl) (hW.cell (List.Mem.head _) rfl) hW.base)) (k := ?_)))
                ((repeat (refine C.seq ?_)); apply C.drawsw 8 bc (.cells 35 [.int .i64 0, .int .i64 0, .int .i64 0, .int .i64 0]) 9 [none, none, none, none, some _, none, some _, none, some _])
                (repeat (first | intro (b : Nat) | refine gg ?_))
                (first | (apply G.stk; exact rfl; exact rfl; exact rfl; exact rfl; exact rfl; exact rfl; exact rfl; (· (repeat (first | exact Wr.nil | apply Wr.put | apply Wr.skip)))) | (apply G.st1; exact rfl; exact rfl; exact rfl; exact rfl; exact rfl; exact rfl; (· (repeat (first | exact Wr.nil | apply Wr.put | apply Wr.skip)))))
                (repeat (first | intro (b : Nat) | refine gg ?_))
                (repeat (first | intro (b : Nat) | refine go ?_))
                (refine rettR ((b, .cells 192 [.int .i64 8]) :: (r, rdB s 8) :: F) ?_)
                exact .inr ⟨by simp [clkOk, coV, b2, a1, a2, a3, hf], _, _, _, rfl, rfl⟩
              · have hz : 7 + 1 = s.size := by have := of_decide_eq_true hq; omega
                have hf : frOk s 6 = true := by rw [hfr]; exact decide_eq_true (by omega)
                have eK := eM hz
                clear eM hfr
                cases hv : cval (numL s 0 2) (numL s 2 2) (numL s 4 2) (numL s 7 1 * 10 * 10)
                · (repeat' (first | intro (b : Nat) | refine go ?_ | (refine br ?_ ?_ <;> first | exact trivial | intro hq) | refine L.call (h := by intro W hW; first | apply rvb hq (a_done r s 8 W (hW.cell (List.Mem.head _) rfl) (hW.cell (List.Mem.head _) rfl) hW.base) | apply rvb hv (a_ClockValid _ _ _ _ W hW.base)) (k := ?_)))
                  ((repeat (refine C.seq ?_)); apply C.drawsw 8 bc (.cells 35 [.int .i64 0, .int .i64 0, .int .i64 0, .int .i64 0]) 9 [none, none, none, none, some _, none, some _, none, some _])
                  (repeat (first | intro (b : Nat) | refine gg ?_))
                  (first | (apply G.stk; exact rfl; exact rfl; exact rfl; exact rfl; exact rfl; exact rfl; exact rfl; (· (repeat (first | exact Wr.nil | apply Wr.put | apply Wr.skip)))) | (apply G.st1; exact rfl; exact rfl; exact rfl; exact rfl; exact rfl; exact rfl; (· (repeat (first | exact Wr.nil | apply Wr.put | apply Wr.skip)))))
                  (repeat (first | intro (b : Nat) | refine gg ?_))
                  (repeat (first | intro (b : Nat) | refine go ?_))
                  (refine rettR ((b, .cells 192 [.int .i64 8]) :: (r, rdB s 8) :: F) ?_)
                  exact .inr ⟨by simp [clkOk, coV, b2, a1, a2, a3, eK, hv], _, _, _, rfl, rfl⟩
                · (repeat' (first | intro (b : Nat) | refine go ?_ | (refine br ?_ ?_ <;> first | exact trivial | intro hq) | refine L.call (h := by intro W hW; first | apply rvb hq (a_done r s 8 W (hW.cell (List.Mem.head _) rfl) (hW.cell (List.Mem.head _) rfl) hW.base) | apply rvb hv (a_ClockValid _ _ _ _ W hW.base)) (k := ?_) | refine gg ?_ | refine G.call (h := by intro W hW; first | apply rvb hq (a_done r s 8 W (hW.cell (List.Mem.head _) rfl) (hW.cell (List.Mem.head _) rfl) hW.base) | apply rvb hv (a_ClockValid _ _ _ _ W hW.base)) (k := ?_) | (apply C.draww (id := 6) 8 [none, none, none, none, some _, none, some _, none]) | (apply C.draww (id := 9) 8 [none, none, none, none, some _, none, some _, none]) | (apply C.draww (id := 16) 8 [none, none, none, none, some _, none, some _, none]) | (apply C.draww (id := 23) 8 [none, none, none, none, some _, none, some _, none])))
                  (refine rettR ((r, rdB s 8) :: F) ?_)
                  refine .inl ⟨by simp [clkOk, coV, b2, a1, a2, a3, eK, hv, hf], ?_, _, rfl⟩
                  show _ = Value.tuple #[.agg #[.int .i64 (numL s 0 2), .int .i64 (numL s 2 2), .int .i64 (numL s 4 2), .int .i64 (frK s 6)], .nilIface]
                  rw [eK]
                  rfl
            · simp only [p10] at hbj
              have eM : ∀ h : 7 + 2 = s.size, frK s 6 = numL s 7 2 * 10 := fun h => by
                rw [frK_run (j := 2) (by omega) h]
                show numL s 7 2 * 10 = numL s 7 2 * 10
                first | rfl | omega
              (repeat' (first | intro (b : Nat) | refine go ?_ | (refine br ?_ ?_ <;> first | exact trivial | intro hq) | refine L.call (h := by intro W hW; apply rvb hr (a_within _ _ _ W hW.base)) (k := ?_)))
              (refine L.tcallb r (h := by intro W hW; exact n_yes _ _ _ s 7 9 7 2 _ _ rfl rfl rfl rfl hs (by omega) (by omega) haj W hW) (k := ?_))
              (repeat (first | intro (b : Nat) | refine go ?_))
              refine C.rounds 4 ?_
              cases hq : decide ((9 : Int) = s.size)
              · have hf : frOk s 6 = false := by rw [hfr]; exact decide_eq_false (by have := of_decide_eq_false hq; omega)
                (repeat' (first | intro (b : Nat) | refine go ?_ | (refine br ?_ ?_ <;> first | exact trivial | intro hq) | refine L.call (h := by intro W hW; apply rvb hq (a_done r s 9 W (hW.cell (List.Mem.head _) rfl) (hW.cell (List.Mem.head _) rfl) hW.base)) (k := ?_)))
                ((repeat (refine C.seq ?_)); apply C.drawsw 8 bc (.cells 35 [.int .i64 0, .int .i64 0, .int .i64 0, .int .i64 0]) 9 [none, none, none, none, some _, none, some _, none, some _])
                (repeat (first | intro (b : Nat) | refine gg ?_))
                (first | (apply G.stk; exact rfl; exact rfl; exact rfl; exact rfl; exact rfl; exact rfl; exact rfl; (· (repeat (first | exact Wr.nil | apply Wr.put | apply Wr.skip)))) | (apply G.st1; exact rfl; exact rfl; exact rfl; exact rfl; exact rfl; exact rfl; (· (repeat (first | exact Wr.nil | apply Wr.put | apply Wr.skip)))))
                (repeat (first | intro (b : Nat) | refine gg ?_))
                (repeat (first | intro (b : Nat) | refine go ?_))
                (refine rettR ((b, .cells 192 [.int .i64 9]) :: (r, rdB s 9) :: F) ?_)
                exact .inr ⟨by simp [clkOk, coV, b2, a1, a2, a3, hf], _, _, _, rfl, rfl⟩
              · have hz : 7 + 2 = s.size := by have := of_decide_eq_true hq; omega
                have hf : frOk s 6 = true := by rw [hfr]; exact decide_eq_true (by omega)
                have eK := eM hz
                clear eM hfr
                cases hv : cval (numL s 0 2) (numL s 2 2) (numL s 4 2) (numL s 7 2 * 10)
                · (repeat' (first | intro (b : Nat) | refine go ?_ | (refine br ?_ ?_ <;> first | exact trivial | intro hq) | refine L.call (h := by intro W hW; first | apply rvb hq (a_done r s 9 W (hW.cell (List.Mem.head _) rfl) (hW.cell (List.Mem.head _) rfl) hW.base) | apply rvb hv (a_ClockValid _ _ _ _ W hW.base)) (k := ?_)))
                  ((repeat (refine C.seq ?_)); apply C.drawsw 8 bc (.cells 35 [.int .i64 0, .int .i64 0, .int .i64 0, .int .i64 0]) 9 [none, none, none, none, some _, none, some _, none, some _])
                  (repeat (first | intro (b : Nat) | refine gg ?_))
                  (first | (apply G.stk; exact rfl; exact rfl; exact rfl; exact rfl; exact rfl; exact rfl; exact rfl; (· (repeat (first | exact Wr.nil | apply Wr.put | apply Wr.skip)))) | (apply G.st1; exact rfl; exact rfl; exact rfl; exact rfl; exact rfl; exact rfl; (· (repeat (first | exact Wr.nil | apply Wr.put | apply Wr.skip)))))
                  (repeat (first | intro (b : Nat) | refine gg ?_))
                  (repeat (first | intro (b : Nat) | refine go ?_))
                  (refine rettR ((b, .cells 192 [.int .i64 9]) :: (r, rdB s 9) :: F) ?_)
                  exact .inr ⟨by simp [clkOk, coV, b2, a1, a2, a3, eK, hv], _, _, _, rfl, rfl⟩
                · (repeat' (first | intro (b : Nat) | refine go ?_ | (refine br ?_ ?_ <;> first | exact trivial | intro hq) | refine L.call (h := by intro W hW; first | apply rvb hq (a_done r s 9 W (hW.cell (List.Mem.head _) rfl) (hW.cell (List.Mem.head _) rfl) hW.base) | apply rvb hv (a_ClockValid _ _ _ _ W hW.base)) (k := ?_) | refine gg ?_ | refine G.call (h := by intro W hW; first | apply rvb hq (a_done r s 9 W (hW.cell (List.Mem.head _) rfl) (hW.cell (List.Mem.head _) rfl) hW.base) | apply rvb hv (a_ClockValid _ _ _ _ W hW.base)) (k := ?_) | (apply C.draww (id := 6) 8 [none, none, none, none, some _, none, some _, none]) | (apply C.draww (id := 9) 8 [none, none, none, none, some _, none, some _, none]) | (apply C.draww (id := 16) 8 [none, none, none, none, some _, none, some _, none]) | (apply C.draww (id := 23) 8 [none, none, none, none, some _, none, some _, none])))
                  (refine rettR ((r, rdB s 9) :: F) ?_)
                  refine .inl ⟨by simp [clkOk, coV, b2, a1, a2, a3, eK, hv, hf], ?_, _, rfl⟩
                  show _ = Value.tuple #[.agg #[.int .i64 (numL s 0 2), .int .i64 (numL s 2 2), .int .i64 (numL s 4 2), .int .i64 (frK s 6)], .nilIface]
                  rw [eK]
                  rfl
            · simp only [p10] at hbj
              have eM : ∀ h : 7 + 3 = s.size, frK s 6 = numL s 7 3 := fun h => by
                rw [frK_run (j := 3) (by omega) h]
                show numL s 7 3 * 1 = numL s 7 3
                first | rfl | omega
              (repeat' (first | intro (b : Nat) | refine go ?_ | (refine br ?_ ?_ <;> first | exact trivial | intro hq) | refine L.call (h := by intro W hW; apply rvb hr (a_within _ _ _ W hW.base)) (k := ?_)))
              (refine L.tcallb r (h := by intro W hW; exact n_yes _ _ _ s 7 10 7 3 _ _ rfl rfl rfl rfl hs (by omega) (by omega) haj W hW) (k := ?_))
              (repeat (first | intro (b : Nat) | refine go ?_))
              refine C.rounds 4 ?_
              cases hq : decide ((10 : Int) = s.size)
              · have hf : frOk s 6 = false := by rw [hfr]; exact decide_eq_false (by have := of_decide_eq_false hq; omega)
                (repeat' (first | intro (b : Nat) | refine go ?_ | (refine br ?_ ?_ <;> first | exact trivial | intro hq) | refine L.call (h := by intro W hW; apply rvb hq (a_done r s 10 W (hW.cell (List.Mem.head _) rfl) (hW.cell (List.Mem.head _) rfl) hW.base)) (k := ?_)))
                ((repeat (refine C.seq ?_)); apply C.drawsw 8 bc (.cells 35 [.int .i64 0, .int .i64 0, .int .i64 0, .int .i64 0]) 9 [none, none, none, none, some _, none, some _, none, some _])
                (repeat (first | intro (b : Nat) | refine gg ?_))
                (first | (apply G.stk; exact rfl; exact rfl; exact rfl; exact rfl; exact rfl; exact rfl; exact rfl; (· (repeat (first | exact Wr.nil | apply Wr.put | apply Wr.skip)))) | (apply G.st1; exact rfl; exact rfl; exact rfl; exact rfl; exact rfl; exact rfl; (· (repeat (first | exact Wr.nil | apply Wr.put | apply Wr.skip)))))
                (repeat (first | intro (b : Nat) | refine gg ?_))
                (repeat (first | intro (b : Nat) | refine go ?_))
                (refine rettR ((b, .cells 192 [.int .i64 10]) :: (r, rdB s 10) :: F) ?_)
                exact .inr ⟨by simp [clkOk, coV, b2, a1, a2, a3, hf], _, _, _, rfl, rfl⟩
              · have hz : 7 + 3 = s.size := by have := of_decide_eq_true hq; omega
                have hf : frOk s 6 = true := by rw [hfr]; exact decide_eq_true (by omega)
                have eK := eM hz
                clear eM hfr
                cases hv : cval (numL s 0 2) (numL s 2 2) (numL s 4 2) (numL s 7 3)
                · (repeat' (first | intro (b : Nat) | refine go ?_ | (refine br ?_ ?_ <;> first | exact trivial | intro hq) | refine L.call (h := by intro W hW; first | apply rvb hq (a_done r s 10 W (hW.cell (List.Mem.head _) rfl) (hW.cell (List.Mem.head _) rfl) hW.base) | apply rvb hv (a_ClockValid _ _ _ _ W hW.base)) (k := ?_)))
                  ((repeat (refine C.seq ?_)); apply C.drawsw 8 bc (.cells 35 [.int .i64 0, .int .i64 0, .int .i64 0, .int .i64 0]) 9 [none, none, none, none, some _, none, some _, none, some _])
                  (repeat (first | intro (b : Nat) | refine gg ?_))
                  (first | (apply G.stk; exact rfl; exact rfl; exact rfl; exact rfl; exact rfl; exact rfl; exact rfl; (· (repeat (first | exact Wr.nil | apply Wr.put | apply Wr.skip)))) | (apply G.st1; exact rfl; exact rfl; exact rfl; exact rfl; exact rfl; exact rfl; (· (repeat (first | exact Wr.nil | apply Wr.put | apply Wr.skip)))))
                  (repeat (first | intro (b : Nat) | refine gg ?_))
                  (repeat (first | intro (b : Nat) | refine go ?_))
                  (refine rettR ((b, .cells 192 [.int .i64 10]) :: (r, rdB s 10) :: F) ?_)
                  exact .inr ⟨by simp [clkOk, coV, b2, a1, a2, a3, eK, hv], _, _, _, rfl, rfl⟩
                · (repeat' (first | intro (b : Nat) | refine go ?_ | (refine br ?_ ?_ <;> first | exact trivial | intro hq) | refine L.call (h := by intro W hW; first | apply rvb hq (a_done r s 10 W (hW.cell (List.Mem.head _) rfl) (hW.cell (List.Mem.head _) rfl) hW.base) | apply rvb hv (a_ClockValid _ _ _ _ W hW.base)) (k := ?_) | refine gg ?_ | refine G.call (h := by intro W hW; first | apply rvb hq (a_done r s 10 W (hW.cell (List.Mem.head _) rfl) (hW.cell (List.Mem.head _) rfl) hW.base) | apply rvb hv (a_ClockValid _ _ _ _ W hW.base)) (k := ?_) | (apply C.draww (id := 6) 8 [none, none, none, none, some _, none, some _, none]) | (apply C.draww (id := 9) 8 [none, none, none, none, some _, none, some _, none]) | (apply C.draww (id := 16) 8 [none, none, none, none, some _, none, some _, none]) | (apply C.draww (id := 23) 8 [none, none, none, none, some _, none, some _, none])))
                  (refine rettR ((r, rdB s 10) :: F) ?_)
                  refine .inl ⟨by simp [clkOk, coV, b2, a1, a2, a3, eK, hv, hf], ?_, _, rfl⟩
                  show _ = Value.tuple #[.agg #[.int .i64 (numL s 0 2), .int .i64 (numL s 2 2), .int .i64 (numL s 4 2), .int .i64 (frK s 6)], .nilIface]
                  rw [eK]
                  rfl

end D
end Go.Proofs.YtpgbmohocfcjpaaGreatDoor
