/- The walks of the reference's months. -/
import Derived.Test.YtbpdhehjnhefhaaDoorSa
namespace Go.Proofs.YtbpdhehjnhefhaaDoor
set_option linter.unusedVariables false
set_option linter.unusedSimpArgs false
open Go.RowKit

set_option maxRecDepth 100000 in
set_option maxHeartbeats 1000000 in
theorem s_mplus_no (y m d n : Int) (w : World) (hb : D.Base w) (hno : D.dval y m d = false ∨ D.inR n (-119988) 119988 = false ∨ D.inR (12 * y + m - 1 + n) 12 119999 = false) : Calls Tryd.prog 18 #[.agg #[.int .i64 y, .int .i64 m, .int .i64 d], .int .i64 n] w fun e w' => e = .returned (.tuple #[.agg #[.int .i64 0, .int .i64 0, .int .i64 0], .bool false]) ∧ Below w.heap.size w w' := by
  cases h1 : D.dval y m d
  · go_enter Tryd.func18, Tryd.ntmps18
    go_wp2_with fail
    refine (s_dval _ _ _ _ ((hb.alloc _).alloc _)).mono ?_
    rintro e w1 ⟨rfl, hb1⟩; obtain ⟨hc1, hf1⟩ := D.bcell hb1; have hz1 := hb1.size; (try simp only [World.size_alloc, World.size_setCell, World.size_drew, Nat.add_one_le_iff] at hz1); have hB1 : Below w.heap.size w w1 := D.after (by go_grown) hb1 (by first | omega | (simp; done) | (simp; omega)); have hG1 := hb.low hB1; (try have hx10 : w.heap.size < w1.heap.size := (by omega)); (try have hx11 : w.heap.size + 1 < w1.heap.size := (by omega)); (try have hx12 : w.heap.size + 1 + 1 < w1.heap.size := (by omega)); (try have hx13 : w.heap.size + 1 + 1 + 1 < w1.heap.size := (by omega))
    go_wp2
    refine bodyPost_ret (v := .tuple #[.agg #[.int .i64 0, .int .i64 0, .int .i64 0], .bool false]) (by simp [results, Tryd.results18, go_sem, hc1]) rfl ⟨by simp, by go_grown⟩
  · cases h2 : D.inR n (-119988) 119988
    · go_enter Tryd.func18, Tryd.ntmps18
      go_wp2_with fail
      refine (s_dval _ _ _ _ ((hb.alloc _).alloc _)).mono ?_
      rintro e w1 ⟨rfl, hb1⟩; obtain ⟨hc1, hf1⟩ := D.bcell hb1; have hz1 := hb1.size; (try simp only [World.size_alloc, World.size_setCell, World.size_drew, Nat.add_one_le_iff] at hz1); have hB1 : Below w.heap.size w w1 := D.after (by go_grown) hb1 (by first | omega | (simp; done) | (simp; omega)); have hG1 := hb.low hB1; (try have hx10 : w.heap.size < w1.heap.size := (by omega)); (try have hx11 : w.heap.size + 1 < w1.heap.size := (by omega)); (try have hx12 : w.heap.size + 1 + 1 < w1.heap.size := (by omega)); (try have hx13 : w.heap.size + 1 + 1 + 1 < w1.heap.size := (by omega))
      go_wp2_with (go_at_call 31; refine (s_in _ _ _ _).mono ?_; rintro e w' ⟨rfl, rfl⟩)
      refine bodyPost_ret (v := .tuple #[.agg #[.int .i64 0, .int .i64 0, .int .i64 0], .bool false]) (by simp [results, Tryd.results18, go_sem, hc1]) rfl ⟨by simp, by go_grown⟩
    · have hd := D.dval_bd h1
      have hn := D.inR_true.1 h2
      have h4 : D.inR (12 * y + m - 1 + n) 12 119999 = false := by simpa [h1, h2] using hno
      go_enter Tryd.func18, Tryd.ntmps18
      go_wp2_with fail
      refine (s_dval _ _ _ _ ((hb.alloc _).alloc _)).mono ?_
      rintro e w1 ⟨rfl, hb1⟩; obtain ⟨hc1, hf1⟩ := D.bcell hb1; have hz1 := hb1.size; (try simp only [World.size_alloc, World.size_setCell, World.size_drew, Nat.add_one_le_iff] at hz1); have hB1 : Below w.heap.size w w1 := D.after (by go_grown) hb1 (by first | omega | (simp; done) | (simp; omega)); have hG1 := hb.low hB1; (try have hx10 : w.heap.size < w1.heap.size := (by omega)); (try have hx11 : w.heap.size + 1 < w1.heap.size := (by omega)); (try have hx12 : w.heap.size + 1 + 1 < w1.heap.size := (by omega)); (try have hx13 : w.heap.size + 1 + 1 + 1 < w1.heap.size := (by omega))
      go_wp2_with (go_at_call 31; refine (s_in _ _ _ _).mono ?_; rintro e w' ⟨rfl, rfl⟩)
      refine bodyPost_ret (v := .tuple #[.agg #[.int .i64 0, .int .i64 0, .int .i64 0], .bool false]) (by simp [results, Tryd.results18, go_sem, hc1]) rfl ⟨by simp, by go_grown⟩

set_option maxRecDepth 100000 in
set_option maxHeartbeats 1000000 in
theorem s_mplus_yes (y m d n Y M : Int) (w : World) (hb : D.Base w) (h1 : D.dval y m d = true) (h2 : D.inR n (-119988) 119988 = true) (h4 : D.inR (12 * y + m - 1 + n) 12 119999 = true) (hY : Y = (12 * y + m - 1 + n) / 12) (hM : M = (12 * y + m - 1 + n) % 12 + 1) :
    Calls Tryd.prog 18 #[.agg #[.int .i64 y, .int .i64 m, .int .i64 d], .int .i64 n] w fun e w' => e = .returned (.tuple #[.agg #[.int .i64 Y, .int .i64 M, .int .i64 (min d (D.md Y M))], .bool true]) ∧ Below w.heap.size w w' := by
  have hd := D.dval_bd h1
  have hn := D.inR_true.1 h2
  have h5 : 12 ≤ 12 * y + m - 1 + n := by have := D.inR_true.1 h4; omega
  have h6 : 12 * y + m - 1 + n ≤ 119999 := by have := D.inR_true.1 h4; omega
  subst hY hM
  by_cases hle : D.md ((12 * y + m - 1 + n) / 12) ((12 * y + m - 1 + n) % 12 + 1) < d
  · rw [Int.min_eq_right (Int.le_of_lt hle)]
    go_enter Tryd.func18, Tryd.ntmps18
    go_wp2_with fail
    refine (s_dval _ _ _ _ ((hb.alloc _).alloc _)).mono ?_
    rintro e w1 ⟨rfl, hb1⟩; obtain ⟨hc1, hf1⟩ := D.bcell hb1; have hz1 := hb1.size; (try simp only [World.size_alloc, World.size_setCell, World.size_drew, Nat.add_one_le_iff] at hz1); have hB1 : Below w.heap.size w w1 := D.after (by go_grown) hb1 (by first | omega | (simp; done) | (simp; omega)); have hG1 := hb.low hB1; (try have hx10 : w.heap.size < w1.heap.size := (by omega)); (try have hx11 : w.heap.size + 1 < w1.heap.size := (by omega)); (try have hx12 : w.heap.size + 1 + 1 < w1.heap.size := (by omega)); (try have hx13 : w.heap.size + 1 + 1 + 1 < w1.heap.size := (by omega))
    go_wp2_with (go_at_call 31; refine (s_in _ _ _ _).mono ?_; rintro e w' ⟨rfl, rfl⟩)
    go_region_held3 (fun w' => w'.cell? ⟨w.heap.size, 2, none⟩ = some (.int .i64 d) ∧ w'.cell? ⟨w1.heap.size, 0, none⟩ = some (.int .i64 ((12 * y + m - 1 + n) / 12)) ∧ w'.cell? ⟨w1.heap.size, 1, none⟩ = some (.int .i64 ((12 * y + m - 1 + n) % 12 + 1)) ∧ w'.cell? ⟨w1.heap.size, 2, none⟩ = some (.int .i64 (D.ic w' (w1.heap.size) 2)) ∧ w'.frozen? ⟨w1.heap.size, 2, none⟩ = false ∧ w'.cell? ⟨w.heap.size + 1, 0, none⟩ = some (.int .i64 (D.ic w' (w.heap.size + 1) 0)) ∧ w'.frozen? ⟨w.heap.size + 1, 0, none⟩ = false ∧ w'.cell? ⟨w.heap.size + 1, 1, none⟩ = some (.int .i64 (D.ic w' (w.heap.size + 1) 1)) ∧ w'.frozen? ⟨w.heap.size + 1, 1, none⟩ = false ∧ w'.cell? ⟨w.heap.size + 1, 2, none⟩ = some (.int .i64 (D.ic w' (w.heap.size + 1) 2)) ∧ w'.frozen? ⟨w.heap.size + 1, 2, none⟩ = false ∧ D.Kp w1.heap.size 1 w1 w') ((go_split_ands; and_intros; all_goals (first | (with_reducible assumption) | (exact D.Kp.next (by assumption) hbr) | (exact (D.Kp.cell (by assumption) hbr (by omega)).trans (by assumption)) | (exact (D.Kp.free (by assumption) hbr (by omega)).trans (by assumption)) | (exact D.ic_of ((D.Kp.cell (by assumption) hbr (by omega)).trans (by assumption))) | (simp; done) | (exact D.ic_of (by simp; rfl)) | (exact D.ic_set (by assumption)) | (exact D.Kp.set (by assumption) (by omega) _) | (exact D.Kp.mk' (by assumption) (by go_grown) (by first | (simp; done) | (simp; omega))) | (simp (disch := (first | (with_reducible assumption) | omega | (simp; done) | (simp; omega))) [go_sem, hc1]; done) | (exact D.ic_of (by simp (disch := (first | (with_reducible assumption) | omega | (simp; done) | (simp; omega))) [go_sem, hc1]; rfl)) | (simp (disch := (first | (with_reducible assumption) | omega | (simp; done) | (simp; omega))) [go_sem, hf1]; done) | (exact D.ic_of (by simp (disch := (first | (with_reducible assumption) | omega | (simp; done) | (simp; omega))) [go_sem, hf1]; rfl)) | (simp (disch := (first | (with_reducible assumption) | omega | (simp; done) | (simp; omega))) [go_sem, hc2, hc1]; done) | (exact D.ic_of (by simp (disch := (first | (with_reducible assumption) | omega | (simp; done) | (simp; omega))) [go_sem, hc2, hc1]; rfl)) | (simp (disch := (first | (with_reducible assumption) | omega | (simp; done) | (simp; omega))) [go_sem, hf2, hf1]; done) | (exact D.ic_of (by simp (disch := (first | (with_reducible assumption) | omega | (simp; done) | (simp; omega))) [go_sem, hf2, hf1]; rfl)) | (simp (disch := (first | (with_reducible assumption) | omega | (simp; done) | (simp; omega))) [go_sem, hc3, hc2, hc1]; done) | (exact D.ic_of (by simp (disch := (first | (with_reducible assumption) | omega | (simp; done) | (simp; omega))) [go_sem, hc3, hc2, hc1]; rfl)) | (simp (disch := (first | (with_reducible assumption) | omega | (simp; done) | (simp; omega))) [go_sem, hf3, hf2, hf1]; done) | (exact D.ic_of (by simp (disch := (first | (with_reducible assumption) | omega | (simp; done) | (simp; omega))) [go_sem, hf3, hf2, hf1]; rfl)) | (simp (disch := (first | (with_reducible assumption) | omega | (simp; done) | (simp; omega))) [go_sem, hc4, hc3, hc2, hc1]; done) | (exact D.ic_of (by simp (disch := (first | (with_reducible assumption) | omega | (simp; done) | (simp; omega))) [go_sem, hc4, hc3, hc2, hc1]; rfl)) | (simp (disch := (first | (with_reducible assumption) | omega | (simp; done) | (simp; omega))) [go_sem, hf4, hf3, hf2, hf1]; done) | (exact D.ic_of (by simp (disch := (first | (with_reducible assumption) | omega | (simp; done) | (simp; omega))) [go_sem, hf4, hf3, hf2, hf1]; rfl)) | (simp (disch := (first | (with_reducible assumption) | omega | (simp; done) | (simp; omega))) [go_sem, *]; done) | (exact D.ic_of (by simp (disch := (first | (with_reducible assumption) | omega | (simp; done) | (simp; omega))) [go_sem, *]; rfl)))))
      (first | (go_at_call 32; go_split_ands; refine (s_md _ _ _ (D.Kp.base (by assumption))).mono ?_; rintro e wr ⟨rfl, hbr⟩))
    go_split_ands
    have hy := D.ic_back (w := wr) (b := w1.heap.size) (o := 2) (n := D.md ((12 * y + m - 1 + n) / 12) ((12 * y + m - 1 + n) % 12 + 1)) (by assumption)
    have hl := D.Kp.low (B := w1.heap.size) (by assumption)
    have hl2 : Below w.heap.size w _ := hB1.trans (hl.mono hB1.size)
    go_wp2
    refine bodyPost_ret (v := .tuple #[.agg #[.int .i64 ((12 * y + m - 1 + n) / 12), .int .i64 ((12 * y + m - 1 + n) % 12 + 1), .int .i64 (D.md ((12 * y + m - 1 + n) / 12) ((12 * y + m - 1 + n) % 12 + 1))], .bool true]) (by simp [results, Tryd.results18, go_sem, *]) rfl ⟨rfl, by go_grown⟩
  · have hle' : d ≤ D.md ((12 * y + m - 1 + n) / 12) ((12 * y + m - 1 + n) % 12 + 1) := by omega
    rw [Int.min_eq_left hle']
    have hif : (if D.md ((12 * y + m - 1 + n) / 12) ((12 * y + m - 1 + n) % 12 + 1) < d then D.md ((12 * y + m - 1 + n) / 12) ((12 * y + m - 1 + n) % 12 + 1) else d) = d := if_neg hle
    clear hle hle'
    go_enter Tryd.func18, Tryd.ntmps18
    go_wp2_with fail
    refine (s_dval _ _ _ _ ((hb.alloc _).alloc _)).mono ?_
    rintro e w1 ⟨rfl, hb1⟩; obtain ⟨hc1, hf1⟩ := D.bcell hb1; have hz1 := hb1.size; (try simp only [World.size_alloc, World.size_setCell, World.size_drew, Nat.add_one_le_iff] at hz1); have hB1 : Below w.heap.size w w1 := D.after (by go_grown) hb1 (by first | omega | (simp; done) | (simp; omega)); have hG1 := hb.low hB1; (try have hx10 : w.heap.size < w1.heap.size := (by omega)); (try have hx11 : w.heap.size + 1 < w1.heap.size := (by omega)); (try have hx12 : w.heap.size + 1 + 1 < w1.heap.size := (by omega)); (try have hx13 : w.heap.size + 1 + 1 + 1 < w1.heap.size := (by omega))
    go_wp2_with (go_at_call 31; refine (s_in _ _ _ _).mono ?_; rintro e w' ⟨rfl, rfl⟩)
    go_region_held3 (fun w' => w'.cell? ⟨w.heap.size, 2, none⟩ = some (.int .i64 d) ∧ w'.cell? ⟨w1.heap.size, 0, none⟩ = some (.int .i64 ((12 * y + m - 1 + n) / 12)) ∧ w'.cell? ⟨w1.heap.size, 1, none⟩ = some (.int .i64 ((12 * y + m - 1 + n) % 12 + 1)) ∧ w'.cell? ⟨w1.heap.size, 2, none⟩ = some (.int .i64 (D.ic w' (w1.heap.size) 2)) ∧ w'.frozen? ⟨w1.heap.size, 2, none⟩ = false ∧ w'.cell? ⟨w.heap.size + 1, 0, none⟩ = some (.int .i64 (D.ic w' (w.heap.size + 1) 0)) ∧ w'.frozen? ⟨w.heap.size + 1, 0, none⟩ = false ∧ w'.cell? ⟨w.heap.size + 1, 1, none⟩ = some (.int .i64 (D.ic w' (w.heap.size + 1) 1)) ∧ w'.frozen? ⟨w.heap.size + 1, 1, none⟩ = false ∧ w'.cell? ⟨w.heap.size + 1, 2, none⟩ = some (.int .i64 (D.ic w' (w.heap.size + 1) 2)) ∧ w'.frozen? ⟨w.heap.size + 1, 2, none⟩ = false ∧ D.Kp w1.heap.size 1 w1 w') ((go_split_ands; and_intros; all_goals (first | (with_reducible assumption) | (exact D.Kp.next (by assumption) hbr) | (exact (D.Kp.cell (by assumption) hbr (by omega)).trans (by assumption)) | (exact (D.Kp.free (by assumption) hbr (by omega)).trans (by assumption)) | (exact D.ic_of ((D.Kp.cell (by assumption) hbr (by omega)).trans (by assumption))) | (simp; done) | (exact D.ic_of (by simp; rfl)) | (exact D.ic_set (by assumption)) | (exact D.Kp.set (by assumption) (by omega) _) | (exact D.Kp.mk' (by assumption) (by go_grown) (by first | (simp; done) | (simp; omega))) | (simp (disch := (first | (with_reducible assumption) | omega | (simp; done) | (simp; omega))) [go_sem, hc1]; done) | (exact D.ic_of (by simp (disch := (first | (with_reducible assumption) | omega | (simp; done) | (simp; omega))) [go_sem, hc1]; rfl)) | (simp (disch := (first | (with_reducible assumption) | omega | (simp; done) | (simp; omega))) [go_sem, hf1]; done) | (exact D.ic_of (by simp (disch := (first | (with_reducible assumption) | omega | (simp; done) | (simp; omega))) [go_sem, hf1]; rfl)) | (simp (disch := (first | (with_reducible assumption) | omega | (simp; done) | (simp; omega))) [go_sem, hc2, hc1]; done) | (exact D.ic_of (by simp (disch := (first | (with_reducible assumption) | omega | (simp; done) | (simp; omega))) [go_sem, hc2, hc1]; rfl)) | (simp (disch := (first | (with_reducible assumption) | omega | (simp; done) | (simp; omega))) [go_sem, hf2, hf1]; done) | (exact D.ic_of (by simp (disch := (first | (with_reducible assumption) | omega | (simp; done) | (simp; omega))) [go_sem, hf2, hf1]; rfl)) | (simp (disch := (first | (with_reducible assumption) | omega | (simp; done) | (simp; omega))) [go_sem, hc3, hc2, hc1]; done) | (exact D.ic_of (by simp (disch := (first | (with_reducible assumption) | omega | (simp; done) | (simp; omega))) [go_sem, hc3, hc2, hc1]; rfl)) | (simp (disch := (first | (with_reducible assumption) | omega | (simp; done) | (simp; omega))) [go_sem, hf3, hf2, hf1]; done) | (exact D.ic_of (by simp (disch := (first | (with_reducible assumption) | omega | (simp; done) | (simp; omega))) [go_sem, hf3, hf2, hf1]; rfl)) | (simp (disch := (first | (with_reducible assumption) | omega | (simp; done) | (simp; omega))) [go_sem, hc4, hc3, hc2, hc1]; done) | (exact D.ic_of (by simp (disch := (first | (with_reducible assumption) | omega | (simp; done) | (simp; omega))) [go_sem, hc4, hc3, hc2, hc1]; rfl)) | (simp (disch := (first | (with_reducible assumption) | omega | (simp; done) | (simp; omega))) [go_sem, hf4, hf3, hf2, hf1]; done) | (exact D.ic_of (by simp (disch := (first | (with_reducible assumption) | omega | (simp; done) | (simp; omega))) [go_sem, hf4, hf3, hf2, hf1]; rfl)) | (simp (disch := (first | (with_reducible assumption) | omega | (simp; done) | (simp; omega))) [go_sem, *]; done) | (exact D.ic_of (by simp (disch := (first | (with_reducible assumption) | omega | (simp; done) | (simp; omega))) [go_sem, *]; rfl)))))
      (first | (go_at_call 32; go_split_ands; refine (s_md _ _ _ (D.Kp.base (by assumption))).mono ?_; rintro e wr ⟨rfl, hbr⟩))
    go_split_ands
    have hy := D.ic_back (w := wr) (b := w1.heap.size) (o := 2) (n := d) (by assumption)
    have hl := D.Kp.low (B := w1.heap.size) (by assumption)
    have hl2 : Below w.heap.size w _ := hB1.trans (hl.mono hB1.size)
    go_wp2
    refine bodyPost_ret (v := .tuple #[.agg #[.int .i64 ((12 * y + m - 1 + n) / 12), .int .i64 ((12 * y + m - 1 + n) % 12 + 1), .int .i64 d], .bool true]) (by simp [results, Tryd.results18, go_sem, *]) rfl ⟨rfl, by go_grown⟩

theorem s_mplus (y m d n : Int) (w : World) (hb : D.Base w) : Calls Tryd.prog 18 #[.agg #[.int .i64 y, .int .i64 m, .int .i64 d], .int .i64 n] w fun e w' => e = .returned (.tuple #[.agg #[.int .i64 (D.mplus y m d n).y, .int .i64 (D.mplus y m d n).m, .int .i64 (D.mplus y m d n).d], .bool (D.mplus y m d n).ok]) ∧ Below w.heap.size w w' := by
  cases h1 : D.dval y m d
  · rw [D.mplus_invalid h1]
    exact s_mplus_no y m d n w hb (.inl h1)
  · cases h2 : D.inR n (-119988) 119988
    · rw [D.mplus_range h2]
      exact s_mplus_no y m d n w hb (.inr (.inl h2))
    · by_cases h3 : 0 ≤ D.mpT y m n ∧ D.mpT y m n / 12 < 9999
      · rw [D.mplus_in h1 h2 h3]
        have hd := D.dval_bd h1
        exact s_mplus_yes y m d n (D.mpT y m n / 12 + 1) (D.mpT y m n % 12 + 1) w hb h1 h2 (by rw [D.inR_true]; unfold D.mpT at h3; omega) (by unfold D.mpT at h3 ⊢; omega) (by unfold D.mpT at h3 ⊢; omega)
      · rw [D.mplus_out h3]
        exact s_mplus_no y m d n w hb (.inr (.inr (by rw [D.inR_false]; unfold D.mpT at h3; omega)))

end Go.Proofs.YtbpdhehjnhefhaaDoor
