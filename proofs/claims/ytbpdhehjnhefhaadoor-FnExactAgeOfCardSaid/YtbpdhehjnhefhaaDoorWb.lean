/- The walks of dates: valid dates, numbers of days, comparing. -/
import Derived.Test.YtbpdhehjnhefhaaDoorWa
import Derived.Handy
import Derived.Deep.RegionHeld3
import Derived.Deep.MidRow
import Derived.Deep.DeepFit
namespace Go.Proofs.YtbpdhehjnhefhaaDoor
set_option linter.unusedVariables false
set_option linter.unusedSimpArgs false
open Go.RowKit

set_option maxHeartbeats 400000 in
theorem dval_any (y m d : Int) (w : World) (hb : D.Base w) : Calls Tryd.prog 19 #[.agg #[.int .i64 y, .int .i64 m, .int .i64 d]] w fun e w' => e = .returned (.bool (D.dval y m d)) ∧ Below w.heap.size w w' := by
  go_enter Tryd.func19, Tryd.ntmps19
  go_wp2_with fail
  go_quiet (first | (go_at_call 36; exact D.qs (md_any _ _ _ ((hb.alloc _).drewN _))) | (go_at_call 35; exact D.qs (within_any _ _ _ _)))
  go_wp2
  go_ret
  refine ⟨by simp [D.dval], ?_⟩
  exact D.below_drewN ((Below.refl _ _).alloc (Nat.le_refl _) _) _

set_option maxHeartbeats 400000 in
theorem ny_any (y : Int) (w : World) (h1 : 1 ≤ y) (h2 : y ≤ 10000) : Calls Tryd.prog 38 #[.int .i64 y] w fun e w' => e = .returned (.int .i64 (D.ny y)) ∧ w = w' := by
  go_enter Tryd.func38, Tryd.ntmps38
  go_wp2
  go_ret
  simp [D.ny]

set_option maxHeartbeats 400000 in
theorem isNaN_any (a : Int) (w : World) : Calls Tryd.prog 51 #[.int .i64 a] w fun e w' => e = .returned (.bool false) ∧ w = w' := by
  go_enter Tryd.func51, Tryd.ntmps51
  go_wp2
  go_ret
  simp

set_option maxHeartbeats 400000 in
theorem compare_any (a b : Int) (w : World) : Calls Tryd.prog 37 #[.int .i64 a, .int .i64 b] w fun e w' => e = .returned (.int .i64 (D.cmp a b)) ∧ w = w' := by
  by_cases h : a < b
  · go_enter Tryd.func37, Tryd.ntmps37
    go_wp2_with (go_at_call 51; refine (isNaN_any _ _).mono ?_; rintro e w' ⟨rfl, rfl⟩)
    go_ret
    simp [D.cmp, h]
  · by_cases h' : b < a
    · have HE : Hid (D.cmp a b = 1) := by show D.cmp a b = 1; rw [D.cmp, if_neg h, if_pos h']
      go_enter Tryd.func37, Tryd.ntmps37
      go_wp2_with (go_at_call 51; refine (isNaN_any _ _).mono ?_; rintro e w' ⟨rfl, rfl⟩)
      go_ret
      rw [HE.out]
      simp
    · have HE : Hid (D.cmp a b = 0) := by show D.cmp a b = 0; rw [D.cmp, if_neg h, if_neg h']
      go_enter Tryd.func37, Tryd.ntmps37
      go_wp2_with (go_at_call 51; refine (isNaN_any _ _).mono ?_; rintro e w' ⟨rfl, rfl⟩)
      go_ret
      rw [HE.out]
      simp

set_option maxHeartbeats 400000 in
theorem ord_any (y m d : Int) (w : World) (hb : D.Base w) (hv : D.dval y m d = true) : Calls Tryd.prog 39 #[.agg #[.int .i64 y, .int .i64 m, .int .i64 d]] w fun e w' => e = .returned (.int .i64 (D.ord y m d)) ∧ Below w.heap.size w w' := by
  have hd := D.dval_bd hv
  go_enter Tryd.func39, Tryd.ntmps39
  go_wp2
  go_loop [3, 4] (fun t k => ∃ j : Int, 1 ≤ j ∧ j ≤ m ∧ k = .int .i64 j ∧ t = .int .i64 (d + D.cum y j)) (fun _ k => (m - intOf k).toNat)
  case atStart => exact ⟨1, by omega, by omega, rfl, by simp [D.cum, D.cumN]⟩
  case round =>
    obtain ⟨j, hj1, hj2, rfl, rfl⟩ := hrel
    have cb := D.cum_bd y j (by omega)
    have cb1 := D.cum_bd y (j + 1) (by omega)
    have mb := D.md_bd y j
    have HS : Hid (D.cum y (j + 1) = D.cum y j + D.md y j) := D.cum_succ y j hj1
    by_cases hlt : j < m
    · go_wp2_with (go_at_call 36; refine (md_any _ _ _ (by exact hb.alloc _)).mono ?_; rintro e w' ⟨rfl, rfl⟩)
      go_round
      case rel => exact ⟨j + 1, by omega, by omega, rfl, by rw [HS.out]; go_num⟩
      case measure => simp [intOf]; omega
    · obtain rfl : j = m := by omega
      go_wp2
      go_ret
      exact ⟨by simp [D.ord]; omega, (Below.refl _ _).alloc (Nat.le_refl _) _⟩

set_option maxHeartbeats 400000 in
theorem num_any (y m d : Int) (w : World) (hb : D.Base w) (hv : D.dval y m d = true) : Calls Tryd.prog 21 #[.agg #[.int .i64 y, .int .i64 m, .int .i64 d]] w fun e w' => e = .returned (.int .i64 (D.num y m d)) ∧ Below w.heap.size w w' := by
  have hd := D.dval_bd hv
  have nb := D.ny_bd y (by omega) (by omega)
  go_enter Tryd.func21, Tryd.ntmps21
  go_wp2_with fail
  go_region_held3 (fun w' => w'.cell? ⟨w.heap.size, 0, none⟩ = some (.int .i64 y) ∧ w'.cell? ⟨w.heap.size, 1, none⟩ = some (.int .i64 m) ∧ w'.cell? ⟨w.heap.size, 2, none⟩ = some (.int .i64 d) ∧ D.Kp w.heap.size 1 w w')
    ((go_split_ands; and_intros; all_goals (first | (with_reducible assumption) | (exact D.Kp.next (by assumption) hbr) | (exact (D.Kp.cell (by assumption) hbr (by omega)).trans (by assumption)) | (exact (D.Kp.free (by assumption) hbr (by omega)).trans (by assumption)) | (exact D.ic_of ((D.Kp.cell (by assumption) hbr (by omega)).trans (by assumption))) | (simp; done) | (exact D.ic_of (by simp; rfl)) | (exact D.ic_set (by assumption)) | (exact D.Kp.set (by assumption) (by omega) _) | (exact D.Kp.mk' (by assumption) (by go_grown) (by first | (simp; done) | (simp; omega))) | (simp (disch := (first | (with_reducible assumption) | omega | (simp; done) | (simp; omega))) [go_sem, hc1]; done) | (exact D.ic_of (by simp (disch := (first | (with_reducible assumption) | omega | (simp; done) | (simp; omega))) [go_sem, hc1]; rfl)) | (simp (disch := (first | (with_reducible assumption) | omega | (simp; done) | (simp; omega))) [go_sem, hf1]; done) | (exact D.ic_of (by simp (disch := (first | (with_reducible assumption) | omega | (simp; done) | (simp; omega))) [go_sem, hf1]; rfl)) | (simp (disch := (first | (with_reducible assumption) | omega | (simp; done) | (simp; omega))) [go_sem, hc2, hc1]; done) | (exact D.ic_of (by simp (disch := (first | (with_reducible assumption) | omega | (simp; done) | (simp; omega))) [go_sem, hc2, hc1]; rfl)) | (simp (disch := (first | (with_reducible assumption) | omega | (simp; done) | (simp; omega))) [go_sem, hf2, hf1]; done) | (exact D.ic_of (by simp (disch := (first | (with_reducible assumption) | omega | (simp; done) | (simp; omega))) [go_sem, hf2, hf1]; rfl)) | (simp (disch := (first | (with_reducible assumption) | omega | (simp; done) | (simp; omega))) [go_sem, hc3, hc2, hc1]; done) | (exact D.ic_of (by simp (disch := (first | (with_reducible assumption) | omega | (simp; done) | (simp; omega))) [go_sem, hc3, hc2, hc1]; rfl)) | (simp (disch := (first | (with_reducible assumption) | omega | (simp; done) | (simp; omega))) [go_sem, hf3, hf2, hf1]; done) | (exact D.ic_of (by simp (disch := (first | (with_reducible assumption) | omega | (simp; done) | (simp; omega))) [go_sem, hf3, hf2, hf1]; rfl)) | (simp (disch := (first | (with_reducible assumption) | omega | (simp; done) | (simp; omega))) [go_sem, hc4, hc3, hc2, hc1]; done) | (exact D.ic_of (by simp (disch := (first | (with_reducible assumption) | omega | (simp; done) | (simp; omega))) [go_sem, hc4, hc3, hc2, hc1]; rfl)) | (simp (disch := (first | (with_reducible assumption) | omega | (simp; done) | (simp; omega))) [go_sem, hf4, hf3, hf2, hf1]; done) | (exact D.ic_of (by simp (disch := (first | (with_reducible assumption) | omega | (simp; done) | (simp; omega))) [go_sem, hf4, hf3, hf2, hf1]; rfl)) | (simp (disch := (first | (with_reducible assumption) | omega | (simp; done) | (simp; omega))) [go_sem, *]; done) | (exact D.ic_of (by simp (disch := (first | (with_reducible assumption) | omega | (simp; done) | (simp; omega))) [go_sem, *]; rfl)))))
    (first | (go_at_call 38; refine (ny_any _ _ (by omega) (by omega)).mono ?_; rintro e w' ⟨rfl, rfl⟩) | (go_at_call 39; go_split_ands; refine (ord_any _ _ _ _ (D.Kp.base (by assumption)) hv).mono ?_; rintro e wr ⟨rfl, hbr⟩))
  go_wp2
  go_ret
  have ob := D.ord_bd y m d (by omega) (by omega) (by omega)
  go_split_ands
  refine ⟨?_, D.Kp.low (by assumption)⟩
  show Ending.returned (.int .i64 (IntKind.i64.wrap (IntKind.i64.wrap (D.ny y + D.ord y m d) - 1))) = _
  rw [IntWalk.i64_in (D.ny y + D.ord y m d) (by omega), IntWalk.i64_in _ (by omega)]
  rfl

set_option maxHeartbeats 400000 in
theorem dcompare_any (y m d y' m' d' : Int) (w : World) (hb : D.Base w) (hv : D.dval y m d = true) (hv' : D.dval y' m' d' = true) : Calls Tryd.prog 24 #[.agg #[.int .i64 y, .int .i64 m, .int .i64 d], .agg #[.int .i64 y', .int .i64 m', .int .i64 d']] w fun e w' => e = .returned (.int .i64 (D.cmp (D.num y m d) (D.num y' m' d'))) ∧ Below w.heap.size w w' := by
  go_enter Tryd.func24, Tryd.ntmps24
  go_wp2_with fail
  go_region_held3 (fun w' => w'.cell? ⟨w.heap.size, 0, none⟩ = some (.int .i64 y) ∧ w'.cell? ⟨w.heap.size, 1, none⟩ = some (.int .i64 m) ∧ w'.cell? ⟨w.heap.size, 2, none⟩ = some (.int .i64 d) ∧ w'.cell? ⟨w.heap.size + 1, 0, none⟩ = some (.int .i64 y') ∧ w'.cell? ⟨w.heap.size + 1, 1, none⟩ = some (.int .i64 m') ∧ w'.cell? ⟨w.heap.size + 1, 2, none⟩ = some (.int .i64 d') ∧ D.Kp w.heap.size 2 w w')
    ((go_split_ands; and_intros; all_goals (first | (with_reducible assumption) | (exact D.Kp.next (by assumption) hbr) | (exact (D.Kp.cell (by assumption) hbr (by omega)).trans (by assumption)) | (exact (D.Kp.free (by assumption) hbr (by omega)).trans (by assumption)) | (exact D.ic_of ((D.Kp.cell (by assumption) hbr (by omega)).trans (by assumption))) | (simp; done) | (exact D.ic_of (by simp; rfl)) | (exact D.ic_set (by assumption)) | (exact D.Kp.set (by assumption) (by omega) _) | (exact D.Kp.mk' (by assumption) (by go_grown) (by first | (simp; done) | (simp; omega))) | (simp (disch := (first | (with_reducible assumption) | omega | (simp; done) | (simp; omega))) [go_sem, hc1]; done) | (exact D.ic_of (by simp (disch := (first | (with_reducible assumption) | omega | (simp; done) | (simp; omega))) [go_sem, hc1]; rfl)) | (simp (disch := (first | (with_reducible assumption) | omega | (simp; done) | (simp; omega))) [go_sem, hf1]; done) | (exact D.ic_of (by simp (disch := (first | (with_reducible assumption) | omega | (simp; done) | (simp; omega))) [go_sem, hf1]; rfl)) | (simp (disch := (first | (with_reducible assumption) | omega | (simp; done) | (simp; omega))) [go_sem, hc2, hc1]; done) | (exact D.ic_of (by simp (disch := (first | (with_reducible assumption) | omega | (simp; done) | (simp; omega))) [go_sem, hc2, hc1]; rfl)) | (simp (disch := (first | (with_reducible assumption) | omega | (simp; done) | (simp; omega))) [go_sem, hf2, hf1]; done) | (exact D.ic_of (by simp (disch := (first | (with_reducible assumption) | omega | (simp; done) | (simp; omega))) [go_sem, hf2, hf1]; rfl)) | (simp (disch := (first | (with_reducible assumption) | omega | (simp; done) | (simp; omega))) [go_sem, hc3, hc2, hc1]; done) | (exact D.ic_of (by simp (disch := (first | (with_reducible assumption) | omega | (simp; done) | (simp; omega))) [go_sem, hc3, hc2, hc1]; rfl)) | (simp (disch := (first | (with_reducible assumption) | omega | (simp; done) | (simp; omega))) [go_sem, hf3, hf2, hf1]; done) | (exact D.ic_of (by simp (disch := (first | (with_reducible assumption) | omega | (simp; done) | (simp; omega))) [go_sem, hf3, hf2, hf1]; rfl)) | (simp (disch := (first | (with_reducible assumption) | omega | (simp; done) | (simp; omega))) [go_sem, hc4, hc3, hc2, hc1]; done) | (exact D.ic_of (by simp (disch := (first | (with_reducible assumption) | omega | (simp; done) | (simp; omega))) [go_sem, hc4, hc3, hc2, hc1]; rfl)) | (simp (disch := (first | (with_reducible assumption) | omega | (simp; done) | (simp; omega))) [go_sem, hf4, hf3, hf2, hf1]; done) | (exact D.ic_of (by simp (disch := (first | (with_reducible assumption) | omega | (simp; done) | (simp; omega))) [go_sem, hf4, hf3, hf2, hf1]; rfl)) | (simp (disch := (first | (with_reducible assumption) | omega | (simp; done) | (simp; omega))) [go_sem, *]; done) | (exact D.ic_of (by simp (disch := (first | (with_reducible assumption) | omega | (simp; done) | (simp; omega))) [go_sem, *]; rfl)))))
    (first | (go_at_call 21; go_split_ands; refine (num_any _ _ _ _ (D.Kp.base (by assumption)) (by assumption)).mono ?_; rintro e wr ⟨rfl, hbr⟩) | (go_at_call 37; refine (compare_any _ _ _).mono ?_; rintro e w' ⟨rfl, rfl⟩))
  go_wp2
  go_ret
  go_split_ands
  exact ⟨rfl, D.Kp.low (by assumption)⟩

end Go.Proofs.YtbpdhehjnhefhaaDoor
