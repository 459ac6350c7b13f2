/- The walks of the reference's dates. -/
import Derived.Test.YtbpdhehjnhefhaaDoorPlain
import Derived.Test.YtbpdhehjnhefhaaDoorRows
import Derived.Handy
import Derived.WalkSpells
import Derived.WalkLawsBesides
import Derived.BigQuiet
import Derived.Deep.RegionHeld3
import Derived.Deep.MidRow
namespace Go.Proofs.YtbpdhehjnhefhaaDoor
set_option linter.unusedVariables false
set_option linter.unusedSimpArgs false
open Go.RowKit

set_option maxHeartbeats 400000 in
theorem s_in (n a b : Int) (w : World) : Calls Tryd.prog 31 #[.int .i64 n, .int .i64 a, .int .i64 b] w fun e w' => e = .returned (.bool (D.inR n a b)) ∧ w = w' := by
  by_cases h1 : a ≤ n
  all_goals
    by_cases h2 : n ≤ b
    all_goals
      go_enter Tryd.func31, Tryd.ntmps31
      go_wp2
      go_ret
      simp [D.inR, h1, h2]

set_option maxHeartbeats 400000 in
theorem s_leap (n : Int) (w : World) : Calls Tryd.prog 48 #[.int .i64 n] w fun e w' => e = .returned (.bool (D.leap n)) ∧ w = w' := by
  cases h1 : D.inR n 1 9999
  · go_enter Tryd.func48, Tryd.ntmps48
    go_wp2_with (go_at_call 31; refine (s_in _ _ _ _).mono ?_; rintro e w' ⟨rfl, rfl⟩)
    go_ret
    simp [D.leap, h1]
  · have h0 := (D.inR_true.1 h1)
    have h01 := h0.1
    have h02 := h0.2
    clear h0
    cases h2 : (n % 4 == 0)
    all_goals
      cases h3 : (n % 100 == 0)
      all_goals
        cases h4 : (n % 400 == 0)
        all_goals
          go_enter Tryd.func48, Tryd.ntmps48
          go_wp2_with (go_at_call 31; refine (s_in _ _ _ _).mono ?_; rintro e w' ⟨rfl, rfl⟩)
          all_goals
            go_ret
            simp_all [D.leap]

set_option maxHeartbeats 400000 in
theorem s_years (y : Int) (w : World) (h1 : 1 ≤ y) (h2 : y ≤ 10000) : Calls Tryd.prog 33 #[.int .i64 y] w fun e w' => e = .returned (.int .i64 (D.ny y)) ∧ w = w' := by
  go_enter Tryd.func33, Tryd.ntmps33
  go_wp2
  go_ret
  simp [D.ny]

set_option maxHeartbeats 400000 in
theorem s_md (y m : Int) (w : World) (hb : D.Base w) : Calls Tryd.prog 32 #[.int .i64 y, .int .i64 m] w fun e w' => e = .returned (.int .i64 (D.md y m)) ∧ Below w.heap.size w w' := by
  cases h1 : D.inR y 1 9999
  · go_enter Tryd.func32, Tryd.ntmps32
    go_wp2_with (go_at_call 31; refine (s_in _ _ _ _).mono ?_; rintro e w' ⟨rfl, rfl⟩)
    go_ret
    exact ⟨by simp [D.md, h1], Below.refl _ _⟩
  · cases h2 : D.inR m 1 12
    · go_enter Tryd.func32, Tryd.ntmps32
      go_wp2_with (go_at_call 31; refine (s_in _ _ _ _).mono ?_; rintro e w' ⟨rfl, rfl⟩)
      go_ret
      exact ⟨by simp [D.md, h1, h2], Below.refl _ _⟩
    · have h0 := (D.inR_true.1 h2)
      have h01 := h0.1
      have h02 := h0.2
      clear h0
      cases h3 : (m == 2)
      · obtain ⟨k, hk⟩ : ∃ k : Nat, m = k + 1 := ⟨(m - 1).toNat, by omega⟩
        have HE : Hid (D.md y m = D.mdTab.getD k 0) := by
          show D.md y m = _
          have e : (m - 1).toNat = k := by omega
          have h3' : ¬ m = 2 := by simpa using h3
          simp [D.md, h1, h2, h3', e]
        have hk12 : k < 12 := by omega
        have hcell : (w.alloc (Obj.cells #[.int .i64 31, .int .i64 28, .int .i64 31, .int .i64 30, .int .i64 31, .int .i64 30, .int .i64 31, .int .i64 31, .int .i64 30, .int .i64 31, .int .i64 30, .int .i64 31] 3)).cell? ⟨w.heap.size, m.toNat - 1, none⟩ = some (.int .i64 (D.md y m)) := by
          have e : m.toNat - 1 = k := by omega
          rw [e, HE.out]
          have : k = 0 ∨ k = 1 ∨ k = 2 ∨ k = 3 ∨ k = 4 ∨ k = 5 ∨ k = 6 ∨ k = 7 ∨ k = 8 ∨ k = 9 ∨ k = 10 ∨ k = 11 := by omega
          rcases this with rfl | rfl | rfl | rfl | rfl | rfl | rfl | rfl | rfl | rfl | rfl | rfl <;> simp [D.mdTab]
        clear HE hk hk12
        go_enter Tryd.func32, Tryd.ntmps32
        go_wp2_with (first | (go_at_call 31; refine (s_in _ _ _ _).mono ?_; rintro e w' ⟨rfl, rfl⟩))
        go_ret
        exact ⟨by simp, by go_grown⟩
      · have h3' : m = 2 := by simpa using h3
        subst h3'
        clear h01 h02 h2 h3
        have h2 : D.inR 2 1 12 = true := by decide
        cases h4 : D.leap y
        · have HE : Hid (D.md y 2 = 28) := by
            show D.md y 2 = _
            simp [D.md, h1, h2, h4]
            rfl
          go_enter Tryd.func32, Tryd.ntmps32
          go_wp2_with (first | (go_at_call 31; refine (s_in _ _ _ _).mono ?_; rintro e w' ⟨rfl, rfl⟩) | (go_at_call 48; refine (s_leap _ _).mono ?_; rintro e w' ⟨rfl, rfl⟩))
          go_ret
          rw [HE.out]
          exact ⟨by simp, by go_grown⟩
        · go_enter Tryd.func32, Tryd.ntmps32
          go_wp2_with (first | (go_at_call 31; refine (s_in _ _ _ _).mono ?_; rintro e w' ⟨rfl, rfl⟩) | (go_at_call 48; refine (s_leap _ _).mono ?_; rintro e w' ⟨rfl, rfl⟩))
          go_ret
          exact ⟨by simp [D.md, h1, h2, h4], Below.refl _ _⟩

set_option maxHeartbeats 400000 in
theorem s_dval (y m d : Int) (w : World) (hb : D.Base w) : Calls Tryd.prog 15 #[.agg #[.int .i64 y, .int .i64 m, .int .i64 d]] w fun e w' => e = .returned (.bool (D.dval y m d)) ∧ Below w.heap.size w w' := by
  go_enter Tryd.func15, Tryd.ntmps15
  go_wp2_with fail
  go_region_held3 (fun w' => w'.cell? ⟨w.heap.size, 0, none⟩ = some (.int .i64 y) ∧ w'.cell? ⟨w.heap.size, 1, none⟩ = some (.int .i64 m) ∧ w'.cell? ⟨w.heap.size, 2, none⟩ = some (.int .i64 d) ∧ D.Kp w.heap.size 1 w w') ((go_split_ands; and_intros; all_goals (first | (with_reducible assumption) | (exact D.Kp.next (by assumption) hbr) | (exact (D.Kp.cell (by assumption) hbr (by omega)).trans (by assumption)) | (exact (D.Kp.free (by assumption) hbr (by omega)).trans (by assumption)) | (exact D.ic_of ((D.Kp.cell (by assumption) hbr (by omega)).trans (by assumption))) | (simp; done) | (exact D.ic_of (by simp; rfl)) | (exact D.ic_set (by assumption)) | (exact D.Kp.set (by assumption) (by omega) _) | (exact D.Kp.mk' (by assumption) (by go_grown) (by first | (simp; done) | (simp; omega))) | (simp (disch := (first | (with_reducible assumption) | omega | (simp; done) | (simp; omega))) [go_sem, hc1]; done) | (exact D.ic_of (by simp (disch := (first | (with_reducible assumption) | omega | (simp; done) | (simp; omega))) [go_sem, hc1]; rfl)) | (simp (disch := (first | (with_reducible assumption) | omega | (simp; done) | (simp; omega))) [go_sem, hf1]; done) | (exact D.ic_of (by simp (disch := (first | (with_reducible assumption) | omega | (simp; done) | (simp; omega))) [go_sem, hf1]; rfl)) | (simp (disch := (first | (with_reducible assumption) | omega | (simp; done) | (simp; omega))) [go_sem, hc2, hc1]; done) | (exact D.ic_of (by simp (disch := (first | (with_reducible assumption) | omega | (simp; done) | (simp; omega))) [go_sem, hc2, hc1]; rfl)) | (simp (disch := (first | (with_reducible assumption) | omega | (simp; done) | (simp; omega))) [go_sem, hf2, hf1]; done) | (exact D.ic_of (by simp (disch := (first | (with_reducible assumption) | omega | (simp; done) | (simp; omega))) [go_sem, hf2, hf1]; rfl)) | (simp (disch := (first | (with_reducible assumption) | omega | (simp; done) | (simp; omega))) [go_sem, hc3, hc2, hc1]; done) | (exact D.ic_of (by simp (disch := (first | (with_reducible assumption) | omega | (simp; done) | (simp; omega))) [go_sem, hc3, hc2, hc1]; rfl)) | (simp (disch := (first | (with_reducible assumption) | omega | (simp; done) | (simp; omega))) [go_sem, hf3, hf2, hf1]; done) | (exact D.ic_of (by simp (disch := (first | (with_reducible assumption) | omega | (simp; done) | (simp; omega))) [go_sem, hf3, hf2, hf1]; rfl)) | (simp (disch := (first | (with_reducible assumption) | omega | (simp; done) | (simp; omega))) [go_sem, hc4, hc3, hc2, hc1]; done) | (exact D.ic_of (by simp (disch := (first | (with_reducible assumption) | omega | (simp; done) | (simp; omega))) [go_sem, hc4, hc3, hc2, hc1]; rfl)) | (simp (disch := (first | (with_reducible assumption) | omega | (simp; done) | (simp; omega))) [go_sem, hf4, hf3, hf2, hf1]; done) | (exact D.ic_of (by simp (disch := (first | (with_reducible assumption) | omega | (simp; done) | (simp; omega))) [go_sem, hf4, hf3, hf2, hf1]; rfl)) | (simp (disch := (first | (with_reducible assumption) | omega | (simp; done) | (simp; omega))) [go_sem, *]; done) | (exact D.ic_of (by simp (disch := (first | (with_reducible assumption) | omega | (simp; done) | (simp; omega))) [go_sem, *]; rfl)))))
    (first | (go_at_call 32; go_split_ands; refine (s_md _ _ _ (D.Kp.base (by assumption))).mono ?_; rintro e wr ⟨rfl, hbr⟩) | (go_at_call 31; refine (s_in _ _ _ _).mono ?_; rintro e w' ⟨rfl, rfl⟩))
  go_wp2
  go_ret
  go_split_ands
  exact ⟨by simp [D.dval], D.Kp.low (by assumption)⟩

set_option maxHeartbeats 400000 in
theorem s_cum (y m : Int) (w : World) (hb : D.Base w) (hm : 1 ≤ m) (hm' : m ≤ 13) : Calls Tryd.prog 34 #[.int .i64 y, .int .i64 m] w fun e w' => e = .returned (.int .i64 (D.cum y m)) ∧ Below w.heap.size w w' := by
  go_enter Tryd.func34, Tryd.ntmps34
  go_wp2
  go_loopw [5, 6] (fun t k wr => ∃ j : Int, 1 ≤ j ∧ j ≤ m ∧ k = .int .i64 j ∧ t = .int .i64 (D.cum y j) ∧ Below w.heap.size w wr) (fun _ k _ => (m - intOf k).toNat)
  case atStart => exact ⟨1, by omega, by omega, rfl, by simp [D.cum, D.cumN], Below.refl _ _⟩
  case round =>
    obtain ⟨j, hj1, hj2, rfl, rfl, hlow⟩ := hrel
    have cb := D.cum_bd y j (by omega)
    have mb := D.md_bd y j
    have HS : Hid (D.cum y (j + 1) = D.cum y j + D.md y j) := D.cum_succ y j hj1
    by_cases hlt : j < m
    · go_wp2_with (go_at_call 32; refine (s_md _ _ _ (hb.low hlow)).mono ?_; rintro e w1 ⟨rfl, hb1⟩)
      go_roundw
      case rel => exact ⟨j + 1, by omega, by omega, rfl, by rw [HS.out], D.after hlow hb1 hlow.size⟩
      case measure => simp [intOf]; omega
    · obtain rfl : j = m := by omega
      go_wp2
      go_ret
      exact ⟨by simp, hlow⟩

set_option maxHeartbeats 400000 in
theorem s_num (y m d : Int) (w : World) (hb : D.Base w) : Calls Tryd.prog 16 #[.agg #[.int .i64 y, .int .i64 m, .int .i64 d]] w fun e w' => e = .returned (.int .i64 (if D.dval y m d = true then D.num y m d else -1)) ∧ Below w.heap.size w w' := by
  cases h1 : D.dval y m d
  · go_enter Tryd.func16, Tryd.ntmps16
    go_wp2_with fail
    refine (s_dval _ _ _ _ (hb.alloc _)).mono ?_
    rintro e w1 ⟨rfl, hb1⟩; obtain ⟨hc1, hf1⟩ := D.bcell hb1; have hz1 := hb1.size; (try simp only [World.size_alloc, World.size_setCell, World.size_drew, Nat.add_one_le_iff] at hz1); have hB1 : Below w.heap.size w w1 := D.after (by go_grown) hb1 (by first | omega | (simp; done) | (simp; omega)); have hG1 := hb.low hB1; (try have hx10 : w.heap.size < w1.heap.size := (by omega)); (try have hx11 : w.heap.size + 1 < w1.heap.size := (by omega)); (try have hx12 : w.heap.size + 1 + 1 < w1.heap.size := (by omega)); (try have hx13 : w.heap.size + 1 + 1 + 1 < w1.heap.size := (by omega))
    go_wp2
    go_ret
    exact ⟨by simp, by go_grown⟩
  · have hd := D.dval_bd h1
    have nb := D.ny_bd y (by omega) (by omega)
    have cb := D.cum_bd y m (by omega)
    go_enter Tryd.func16, Tryd.ntmps16
    go_wp2_with fail
    refine (s_dval _ _ _ _ (hb.alloc _)).mono ?_
    rintro e w1 ⟨rfl, hb1⟩; obtain ⟨hc1, hf1⟩ := D.bcell hb1; have hz1 := hb1.size; (try simp only [World.size_alloc, World.size_setCell, World.size_drew, Nat.add_one_le_iff] at hz1); have hB1 : Below w.heap.size w w1 := D.after (by go_grown) hb1 (by first | omega | (simp; done) | (simp; omega)); have hG1 := hb.low hB1; (try have hx10 : w.heap.size < w1.heap.size := (by omega)); (try have hx11 : w.heap.size + 1 < w1.heap.size := (by omega)); (try have hx12 : w.heap.size + 1 + 1 < w1.heap.size := (by omega)); (try have hx13 : w.heap.size + 1 + 1 + 1 < w1.heap.size := (by omega))
    go_wp2_with fail
    go_region_held3 (fun w' => w'.cell? ⟨w.heap.size, 0, none⟩ = some (.int .i64 y) ∧ w'.cell? ⟨w.heap.size, 1, none⟩ = some (.int .i64 m) ∧ w'.cell? ⟨w.heap.size, 2, none⟩ = some (.int .i64 d) ∧ D.Kp w.heap.size 1 w w') ((go_split_ands; and_intros; all_goals (first | (with_reducible assumption) | (exact D.Kp.next (by assumption) hbr) | (exact (D.Kp.cell (by assumption) hbr (by omega)).trans (by assumption)) | (exact (D.Kp.free (by assumption) hbr (by omega)).trans (by assumption)) | (exact D.ic_of ((D.Kp.cell (by assumption) hbr (by omega)).trans (by assumption))) | (simp; done) | (exact D.ic_of (by simp; rfl)) | (exact D.ic_set (by assumption)) | (exact D.Kp.set (by assumption) (by omega) _) | (exact D.Kp.mk' (by assumption) (by go_grown) (by first | (simp; done) | (simp; omega))) | (simp (disch := (first | (with_reducible assumption) | omega | (simp; done) | (simp; omega))) [go_sem, hc1]; done) | (exact D.ic_of (by simp (disch := (first | (with_reducible assumption) | omega | (simp; done) | (simp; omega))) [go_sem, hc1]; rfl)) | (simp (disch := (first | (with_reducible assumption) | omega | (simp; done) | (simp; omega))) [go_sem, hf1]; done) | (exact D.ic_of (by simp (disch := (first | (with_reducible assumption) | omega | (simp; done) | (simp; omega))) [go_sem, hf1]; rfl)) | (simp (disch := (first | (with_reducible assumption) | omega | (simp; done) | (simp; omega))) [go_sem, hc2, hc1]; done) | (exact D.ic_of (by simp (disch := (first | (with_reducible assumption) | omega | (simp; done) | (simp; omega))) [go_sem, hc2, hc1]; rfl)) | (simp (disch := (first | (with_reducible assumption) | omega | (simp; done) | (simp; omega))) [go_sem, hf2, hf1]; done) | (exact D.ic_of (by simp (disch := (first | (with_reducible assumption) | omega | (simp; done) | (simp; omega))) [go_sem, hf2, hf1]; rfl)) | (simp (disch := (first | (with_reducible assumption) | omega | (simp; done) | (simp; omega))) [go_sem, hc3, hc2, hc1]; done) | (exact D.ic_of (by simp (disch := (first | (with_reducible assumption) | omega | (simp; done) | (simp; omega))) [go_sem, hc3, hc2, hc1]; rfl)) | (simp (disch := (first | (with_reducible assumption) | omega | (simp; done) | (simp; omega))) [go_sem, hf3, hf2, hf1]; done) | (exact D.ic_of (by simp (disch := (first | (with_reducible assumption) | omega | (simp; done) | (simp; omega))) [go_sem, hf3, hf2, hf1]; rfl)) | (simp (disch := (first | (with_reducible assumption) | omega | (simp; done) | (simp; omega))) [go_sem, hc4, hc3, hc2, hc1]; done) | (exact D.ic_of (by simp (disch := (first | (with_reducible assumption) | omega | (simp; done) | (simp; omega))) [go_sem, hc4, hc3, hc2, hc1]; rfl)) | (simp (disch := (first | (with_reducible assumption) | omega | (simp; done) | (simp; omega))) [go_sem, hf4, hf3, hf2, hf1]; done) | (exact D.ic_of (by simp (disch := (first | (with_reducible assumption) | omega | (simp; done) | (simp; omega))) [go_sem, hf4, hf3, hf2, hf1]; rfl)) | (simp (disch := (first | (with_reducible assumption) | omega | (simp; done) | (simp; omega))) [go_sem, *]; done) | (exact D.ic_of (by simp (disch := (first | (with_reducible assumption) | omega | (simp; done) | (simp; omega))) [go_sem, *]; rfl)))))
      (first | (go_at_call 34; go_split_ands; refine (s_cum _ _ _ (D.Kp.base (by assumption)) (by omega) (by omega)).mono ?_; rintro e wr ⟨rfl, hbr⟩) | (go_at_call 33; refine (s_years _ _ (by omega) (by omega)).mono ?_; rintro e w' ⟨rfl, rfl⟩))
    go_wp2
    go_ret
    go_split_ands
    refine ⟨?_, D.Kp.low (by assumption)⟩
    show Ending.returned (.int .i64 (IntKind.i64.wrap (IntKind.i64.wrap (IntKind.i64.wrap (D.ny y + D.cum y m) + d) - 1))) = _
    rw [IntWalk.i64_in (D.ny y + D.cum y m) (by omega), IntWalk.i64_in (D.ny y + D.cum y m + d) (by omega), IntWalk.i64_in _ (by omega)]
    simp [D.num, D.ord]
    omega

end Go.Proofs.YtbpdhehjnhefhaaDoor
