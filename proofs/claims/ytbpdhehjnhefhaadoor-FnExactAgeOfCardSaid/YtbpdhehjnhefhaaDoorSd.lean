/- The reference's period between dates, where there is one; its age. -/
import Derived.Test.YtbpdhehjnhefhaaDoorSc
import Derived.Test.YtbpdhehjnhefhaaDoorPlain3
namespace Go.Proofs.YtbpdhehjnhefhaaDoor
set_option linter.unusedVariables false
set_option linter.unusedSimpArgs false
open Go.RowKit

set_option maxRecDepth 100000 in
set_option maxHeartbeats 1000000 in
theorem s_between_yes (y m d y' m' d' : Int) (w : World) (hb : D.Base w) (h1 : D.dval y m d = true) (h2 : D.dval y' m' d' = true) (hle : D.num y m d ≤ D.num y' m' d') :
    Calls Tryd.prog 9 #[.agg #[.int .i64 y, .int .i64 m, .int .i64 d], .agg #[.int .i64 y', .int .i64 m', .int .i64 d']] w fun e w' => e = .returned (.tuple #[.agg #[.int .i64 (D.bn y m d y' m' d' / 12), .int .i64 (D.bn y m d y' m' d' % 12), .int .i64 (D.bd y m d y' m' d'), .int .i64 0, .int .i64 0, .int .i64 0], .bool true]) ∧ Below w.heap.size w w' := by
  have hB := D.btw h1 h2 hle
  have hv := D.mplus_val h1 hB.2.2.2.2.2.2.1 hB.2.2.2.2.2.2.2.1
  have hv1 := hv.1
  have hv2 := hv.2.1
  have HD : Hid (D.bd y m d y' m' d' = D.num y' m' d' - D.numR (D.mplus y m d (D.bn y m d y' m' d'))) := rfl
  have hb0 := hB.2.2.2.2.1
  have hb1 := hB.2.2.2.2.2.1
  have HB := Lib.hid hB.2.2.2.2.2.2.2.2.1
  have HB2 := Lib.hid hB.2.2.2.2.2.2.2.2.2.1
  clear hB hv
  generalize hn : D.bn y m d y' m' d' = n at *
  have HN := Lib.hid hn
  clear hn
  generalize hx : D.mplus y m d n = x at hv1 hv2 HD
  have Hx := Lib.hid hx
  clear hx
  have hq1 : (if D.dval y m d = true then D.num y m d else -1) = D.num y m d := if_pos h1
  have hq : (if D.dval x.y x.m x.d = true then D.num x.y x.m x.d else -1) = D.num x.y x.m x.d := if_pos hv2
  have hq' : (if D.dval y' m' d' = true then D.num y' m' d' else -1) = D.num y' m' d' := if_pos h2
  have HV := Lib.hid hv2
  clear hv2
  go_enter Tryd.func9, Tryd.ntmps9
  go_wp2_with fail
  refine D.named ?_; intro W hW; have hWL : Below w.heap.size w W := (by rw [hW]; go_grown); have hWB : D.Base W := hb.low hWL; have hWc := D.cells_of hW; have hWf := D.frees_of hW; have hWz := D.size_of hW; (try simp only [World.size_alloc, World.size_setCell, World.size_drew] at hWz); clear hW; (first | (go_region_held3 (fun w' => (∀ b o, b < W.heap.size → w'.cell? ⟨b, o, none⟩ = W.cell? ⟨b, o, none⟩) ∧ (∀ b o, b < W.heap.size → w'.frozen? ⟨b, o, none⟩ = W.frozen? ⟨b, o, none⟩) ∧ D.Kp W.heap.size 0 W w') ((first | exact D.same_drew hWB | (go_split_ands; exact D.same_next (by assumption) (by assumption) (by assumption) hbr))) (first | (go_at_call 15; go_split_ands; refine (s_dval _ _ _ _ (D.Kp.base (by assumption))).mono ?_; rintro e wr ⟨rfl, hbr⟩) | (go_at_call 16; go_split_ands; refine (s_num _ _ _ _ (D.Kp.base (by assumption))).mono ?_; rintro e wr ⟨rfl, hbr⟩))))
  go_split_ands; have hBr : Below w.heap.size w _ := D.after hWL (D.Kp.low (by assumption)) hWL.size; have hGr := hb.low hBr; (try have hxr0 := D.Kp.lt (B := W.heap.size) (w := W) (k := w.heap.size) (by assumption) (by omega)); (try have hxr1 := D.Kp.lt (B := W.heap.size) (w := W) (k := w.heap.size + 1) (by assumption) (by omega)); (try have hxr2 := D.Kp.lt (B := W.heap.size) (w := W) (k := w.heap.size + 1 + 1) (by assumption) (by omega)); (try have hxr3 := D.Kp.lt (B := W.heap.size) (w := W) (k := w.heap.size + 1 + 1 + 1) (by assumption) (by omega))
  go_wp2_with fail
  refine (s_months _ _ _ _ _ _ _ (by assumption) h1 h2 hle).mono ?_
  rw [HN.out]
  rintro e w1 ⟨rfl, hb1⟩; obtain ⟨hc1, hf1⟩ := D.bcell hb1; have hz1 := hb1.size; (try simp only [World.size_alloc, World.size_setCell, World.size_drew, Nat.add_one_le_iff] at hz1); have hB1 : Below w.heap.size w w1 := D.after (by go_grown) hb1 (by first | omega | (simp; done) | (simp; omega)); have hG1 := hb.low hB1; (try have hx10 : w.heap.size < w1.heap.size := (by omega)); (try have hx11 : w.heap.size + 1 < w1.heap.size := (by omega)); (try have hx12 : w.heap.size + 1 + 1 < w1.heap.size := (by omega)); (try have hx13 : w.heap.size + 1 + 1 + 1 < w1.heap.size := (by omega))
  go_wp2_with fail
  refine (s_mplus _ _ _ _ _ (by assumption)).mono ?_
  rw [Hx.out]
  rintro e w2 ⟨rfl, hb2⟩; obtain ⟨hc2, hf2⟩ := D.bcell hb2; have hz2 := hb2.size; (try simp only [World.size_alloc, World.size_setCell, World.size_drew, Nat.add_one_le_iff] at hz2); have hB2 : Below w.heap.size w w2 := D.after (by go_grown) hb2 (by first | omega | (simp; done) | (simp; omega)); have hG2 := hb.low hB2; (try have hx20 : w.heap.size < w2.heap.size := (by omega)); (try have hx21 : w.heap.size + 1 < w2.heap.size := (by omega)); (try have hx22 : w.heap.size + 1 + 1 < w2.heap.size := (by omega)); (try have hx23 : w.heap.size + 1 + 1 + 1 < w2.heap.size := (by omega))
  go_wp2_with fail
  have hne2 : w2.heap.size ≠ w.heap.size + 1 + 1 := by omega
  refine D.named ?_; intro W hW; have hWL : Below w.heap.size w W := (by rw [hW]; go_grown); have hWB : D.Base W := hb.low hWL; have hWc := D.cells_of hW; have hWf := D.frees_of hW; have hWz := D.size_of hW; (try simp only [World.size_alloc, World.size_setCell, World.size_drew] at hWz); clear hW; have hWr : ∀ o, o < 6 → ∃ n : Int, W.cell? ⟨w.heap.size + 1 + 1, o, none⟩ = some (.int .i64 n) := (by intro o ho; have ho' : o = 0 ∨ o = 1 ∨ o = 2 ∨ o = 3 ∨ o = 4 ∨ o = 5 := (by omega); clear ho; rcases ho' with rfl | rfl | rfl | rfl | rfl | rfl <;> exact ⟨_, by simp (disch := (first | (with_reducible assumption) | omega | (simp; done) | (simp; omega))) [go_sem, *]; rfl⟩); have hrW : w.heap.size + 1 + 1 < W.heap.size := (by omega); have hrB : w.heap.size ≤ w.heap.size + 1 + 1 := (by omega); (first | (go_region_held3 (fun w' => (∀ b o, b < W.heap.size → b ≠ w.heap.size + 1 + 1 → w'.cell? ⟨b, o, none⟩ = W.cell? ⟨b, o, none⟩) ∧ (∀ b o, b < W.heap.size → w'.frozen? ⟨b, o, none⟩ = W.frozen? ⟨b, o, none⟩) ∧ (∀ o, o < 6 → w'.cell? ⟨w.heap.size + 1 + 1, o, none⟩ = some (.int .i64 (D.ic w' (w.heap.size + 1 + 1) o))) ∧ W.heap.size ≤ w'.heap.size ∧ D.Kp w.heap.size 0 w w') ((first | (with_reducible exact D.Same2.drew hb hWL hWr) | (with_reducible assumption) | (with_reducible exact (D.Same2.set (by go_split_ands; exact ⟨by with_reducible assumption, by with_reducible assumption, by with_reducible assumption, by with_reducible assumption, by with_reducible assumption⟩) hrB _ _)) | (with_reducible exact (D.Same2.set (D.Same2.set (D.Same2.set (D.Same2.set (D.Same2.set (D.Same2.set (by go_split_ands; exact ⟨by with_reducible assumption, by with_reducible assumption, by with_reducible assumption, by with_reducible assumption, by with_reducible assumption⟩) hrB _ _) hrB _ _) hrB _ _) hrB _ _) hrB _ _) hrB _ _)))) (first | (go_at_call 16; go_split_ands; refine (s_num _ _ _ _ (D.Kp.base (by assumption))).mono ?_; rintro e wr ⟨rfl, hbr⟩; have hSr := D.Same2.next (W := W) (w := w) ⟨by with_reducible assumption, by with_reducible assumption, by with_reducible assumption, by with_reducible assumption, by with_reducible assumption⟩ hbr hrW))))
  go_split_ands; have hBr : Below w.heap.size w _ := (D.Kp.low (by with_reducible assumption)); have hGr := hb.low hBr
  obtain ⟨i0, i1, i2, i3, i4, i5⟩ := D.back6i (by with_reducible assumption)
  go_wp2
  refine bodyPost_ret (v := .tuple #[.agg #[.int .i64 (n / 12), .int .i64 (n % 12), .int .i64 (D.num y' m' d' - D.num x.y x.m x.d), .int .i64 0, .int .i64 0, .int .i64 0], .bool true]) (by simp [results, Tryd.results9, go_sem, *]; exact ⟨by rw [Int.tdiv_eq_ediv_of_nonneg hb0]; exact IntWalk.i64_in _ (by omega), Int.tmod_eq_emod_of_nonneg hb0, IntWalk.i64_in _ (by have := D.num_bd HV.out; have := D.num_bd h2; omega)⟩) rfl ⟨by rw [HD.out]; rfl, by assumption⟩

set_option maxRecDepth 100000 in
set_option maxHeartbeats 1000000 in
theorem s_age (y m d y' m' d' : Int) (w : World) (hb : D.Base w) :
    Calls Tryd.prog 6 #[.agg #[.int .i64 y, .int .i64 m, .int .i64 d], .agg #[.int .i64 y', .int .i64 m', .int .i64 d']] w fun e w' => e = .returned (.int .i64 (D.age y m d y' m' d')) ∧ Below w.heap.size w w' := by
  by_cases h : D.dval y m d = true ∧ D.dval y' m' d' = true ∧ D.num y m d ≤ D.num y' m' d'
  · rw [D.age_yes h]
    go_enter Tryd.func6, Tryd.ntmps6
    go_wp2_with fail
    refine (s_between_yes _ _ _ _ _ _ _ ((hb.alloc _).alloc _) h.1 h.2.1 h.2.2).mono ?_
    rintro e w1 ⟨rfl, hb1⟩; obtain ⟨hc1, hf1⟩ := D.bcell hb1; have hz1 := hb1.size; (try simp only [World.size_alloc, World.size_setCell, World.size_drew, Nat.add_one_le_iff] at hz1); have hB1 : Below w.heap.size w w1 := D.after (by go_grown) hb1 (by first | omega | (simp; done) | (simp; omega)); have hG1 := hb.low hB1; (try have hx10 : w.heap.size < w1.heap.size := (by omega)); (try have hx11 : w.heap.size + 1 < w1.heap.size := (by omega)); (try have hx12 : w.heap.size + 1 + 1 < w1.heap.size := (by omega)); (try have hx13 : w.heap.size + 1 + 1 + 1 < w1.heap.size := (by omega))
    go_wp2
    go_ret
    exact ⟨by simp, by go_grown⟩
  · rw [D.age_no h]
    go_enter Tryd.func6, Tryd.ntmps6
    go_wp2_with fail
    refine (s_between_no _ _ _ _ _ _ _ ((hb.alloc _).alloc _) h).mono ?_
    rintro e w1 ⟨rfl, hb1⟩; obtain ⟨hc1, hf1⟩ := D.bcell hb1; have hz1 := hb1.size; (try simp only [World.size_alloc, World.size_setCell, World.size_drew, Nat.add_one_le_iff] at hz1); have hB1 : Below w.heap.size w w1 := D.after (by go_grown) hb1 (by first | omega | (simp; done) | (simp; omega)); have hG1 := hb.low hB1; (try have hx10 : w.heap.size < w1.heap.size := (by omega)); (try have hx11 : w.heap.size + 1 < w1.heap.size := (by omega)); (try have hx12 : w.heap.size + 1 + 1 < w1.heap.size := (by omega)); (try have hx13 : w.heap.size + 1 + 1 + 1 < w1.heap.size := (by omega))
    go_wp2
    go_ret
    exact ⟨by simp, by go_grown⟩

end Go.Proofs.YtbpdhehjnhefhaaDoor
