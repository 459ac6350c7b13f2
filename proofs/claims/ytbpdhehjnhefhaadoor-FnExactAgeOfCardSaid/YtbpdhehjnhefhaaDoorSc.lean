/- The walks of the reference's periods between dates. -/
import Derived.Test.YtbpdhehjnhefhaaDoorSb
import Derived.Test.YtbpdhehjnhefhaaDoorPlain2
namespace Go.Proofs.YtbpdhehjnhefhaaDoor
set_option linter.unusedVariables false
set_option linter.unusedSimpArgs false
open Go.RowKit

set_option maxRecDepth 100000 in
set_option maxHeartbeats 1000000 in
theorem s_months (y m d y' m' d' : Int) (w : World) (hb : D.Base w) (h : D.dval y m d = true) (h' : D.dval y' m' d' = true) (hle : D.num y m d ≤ D.num y' m' d') :
    Calls Tryd.prog 17 #[.agg #[.int .i64 y, .int .i64 m, .int .i64 d], .agg #[.int .i64 y', .int .i64 m', .int .i64 d']] w fun e w' => e = .returned (.int .i64 (D.bn y m d y' m' d')) ∧ Below w.heap.size w w' := by
  have hd := D.dval_bd h
  have hd' := D.dval_bd h'
  have hB := D.btw h h' hle
  have hv := D.mplus_val h hB.2.2.1 hB.2.2.2.1
  have hn1 : 0 ≤ 12 * (y' - y) + m' - m := hB.1
  have hn2 : 12 * (y' - y) + m' - m ≤ 119988 := hB.2.1
  have hv1 : (D.mplus y m d (12 * (y' - y) + m' - m)).ok = true := hv.1
  have hv2 : D.dval (D.mplus y m d (12 * (y' - y) + m' - m)).y (D.mplus y m d (12 * (y' - y) + m' - m)).m (D.mplus y m d (12 * (y' - y) + m' - m)).d = true := hv.2.1
  have HD : Hid (D.bn y m d y' m' d' = if D.num y' m' d' < D.numR (D.mplus y m d (12 * (y' - y) + m' - m)) then 12 * (y' - y) + m' - m - 1 else 12 * (y' - y) + m' - m) := rfl
  clear hB hv
  generalize hx : D.mplus y m d (12 * (y' - y) + m' - m) = x at hv1 hv2 HD
  have Hx := Lib.hid hx
  clear hx
  have hq : (if D.dval x.y x.m x.d = true then D.num x.y x.m x.d else -1) = D.num x.y x.m x.d := if_pos hv2
  have hq' : (if D.dval y' m' d' = true then D.num y' m' d' else -1) = D.num y' m' d' := if_pos h'
  have HV := Lib.hid hv2
  have H' := Lib.hid h'
  clear hv2 h' h hle
  by_cases hc : D.num y' m' d' < D.num x.y x.m x.d
  all_goals
    go_enter Tryd.func17, Tryd.ntmps17
    go_wp2_with fail
    refine (s_mplus _ _ _ _ _ ((hb.alloc _).alloc _)).mono ?_
    rw [Hx.out]
    rintro e w1 ⟨rfl, hb1⟩; obtain ⟨hc1, hf1⟩ := D.bcell hb1; have hz1 := hb1.size; (try simp only [World.size_alloc, World.size_setCell, World.size_drew, Nat.add_one_le_iff] at hz1); have hB1 : Below w.heap.size w w1 := D.after (by go_grown) hb1 (by first | omega | (simp; done) | (simp; omega)); have hG1 := hb.low hB1; (try have hx10 : w.heap.size < w1.heap.size := (by omega)); (try have hx11 : w.heap.size + 1 < w1.heap.size := (by omega)); (try have hx12 : w.heap.size + 1 + 1 < w1.heap.size := (by omega)); (try have hx13 : w.heap.size + 1 + 1 + 1 < w1.heap.size := (by omega))
    go_wp2_with fail
    refine D.named ?_; intro W hW; have hWL : Below w.heap.size w W := (by rw [hW]; go_grown); have hWB : D.Base W := hb.low hWL; have hWc := D.cells_of hW; have hWf := D.frees_of hW; have hWz := D.size_of hW; (try simp only [World.size_alloc, World.size_setCell, World.size_drew] at hWz); clear hW; (first | (go_region_held3 (fun w' => (∀ b o, b < W.heap.size → w'.cell? ⟨b, o, none⟩ = W.cell? ⟨b, o, none⟩) ∧ (∀ b o, b < W.heap.size → w'.frozen? ⟨b, o, none⟩ = W.frozen? ⟨b, o, none⟩) ∧ D.Kp W.heap.size 0 W w') ((first | exact D.same_drew hWB | (go_split_ands; exact D.same_next (by assumption) (by assumption) (by assumption) hbr))) (first | (go_at_call 16; go_split_ands; refine (s_num _ _ _ _ (D.Kp.base (by assumption))).mono ?_; rintro e wr ⟨rfl, hbr⟩))))
    go_split_ands; have hBr : Below w.heap.size w _ := D.after hWL (D.Kp.low (by assumption)) hWL.size; have hGr := hb.low hBr; (try have hxr0 := D.Kp.lt (B := W.heap.size) (w := W) (k := w.heap.size) (by assumption) (by omega)); (try have hxr1 := D.Kp.lt (B := W.heap.size) (w := W) (k := w.heap.size + 1) (by assumption) (by omega)); (try have hxr2 := D.Kp.lt (B := W.heap.size) (w := W) (k := w.heap.size + 1 + 1) (by assumption) (by omega)); (try have hxr3 := D.Kp.lt (B := W.heap.size) (w := W) (k := w.heap.size + 1 + 1 + 1) (by assumption) (by omega))
    go_wp2
    go_ret
    refine ⟨?_, by assumption⟩
    rw [HD.out]
    first | (rw [if_pos (by exact hc)]; simp; done) | (rw [if_neg (by unfold D.numR; omega)]; simp)

set_option maxRecDepth 100000 in
set_option maxHeartbeats 1000000 in
theorem s_between_no (y m d y' m' d' : Int) (w : World) (hb : D.Base w) (h : ¬ (D.dval y m d = true ∧ D.dval y' m' d' = true ∧ D.num y m d ≤ D.num y' m' d')) :
    Calls Tryd.prog 9 #[.agg #[.int .i64 y, .int .i64 m, .int .i64 d], .agg #[.int .i64 y', .int .i64 m', .int .i64 d']] w fun e w' => e = .returned (.tuple #[.agg #[.int .i64 0, .int .i64 0, .int .i64 0, .int .i64 0, .int .i64 0, .int .i64 0], .bool false]) ∧ Below w.heap.size w w' := by
  cases h1 : D.dval y m d
  · go_enter Tryd.func9, Tryd.ntmps9
    go_wp2_with fail
    refine D.named ?_; intro W hW; have hWL : Below w.heap.size w W := (by rw [hW]; go_grown); have hWB : D.Base W := hb.low hWL; have hWc := D.cells_of hW; have hWf := D.frees_of hW; have hWz := D.size_of hW; (try simp only [World.size_alloc, World.size_setCell, World.size_drew] at hWz); clear hW; go_region_with (first | (go_at_call 15; refine (s_dval _ _ _ _ (by first | exact hGr | exact hWB.drew)).mono ?_; rintro e wr ⟨rfl, hbr⟩; have hBr : Below w.heap.size w wr := D.after (by first | exact hBr | exact hWL.drew) hbr (by first | exact hBr.size | exact hWL.size); have hGr := hb.low hBr; obtain ⟨hcr, hfr⟩ := D.bcell hbr; have hzr := hbr.size; (try simp only [World.size_drew] at hzr); (try have hxr0 : w.heap.size < wr.heap.size := (by omega)); (try have hxr1 : w.heap.size + 1 < wr.heap.size := (by omega)); (try have hxr2 : w.heap.size + 1 + 1 < wr.heap.size := (by omega)); (try have hxr3 : w.heap.size + 1 + 1 + 1 < wr.heap.size := (by omega))))
    all_goals
      go_wp2
      refine bodyPost_ret (v := .tuple #[.agg #[.int .i64 0, .int .i64 0, .int .i64 0, .int .i64 0, .int .i64 0, .int .i64 0], .bool false]) (by simp [results, Tryd.results9, go_sem, *]) rfl ⟨by simp, by go_grown⟩
  · cases h2 : D.dval y' m' d'
    · go_enter Tryd.func9, Tryd.ntmps9
      go_wp2_with fail
      refine D.named ?_; intro W hW; have hWL : Below w.heap.size w W := (by rw [hW]; go_grown); have hWB : D.Base W := hb.low hWL; have hWc := D.cells_of hW; have hWf := D.frees_of hW; have hWz := D.size_of hW; (try simp only [World.size_alloc, World.size_setCell, World.size_drew] at hWz); clear hW; go_region_with (first | (go_at_call 15; refine (s_dval _ _ _ _ (by first | exact hGr | exact hWB.drew)).mono ?_; rintro e wr ⟨rfl, hbr⟩; have hBr : Below w.heap.size w wr := D.after (by first | exact hBr | exact hWL.drew) hbr (by first | exact hBr.size | exact hWL.size); have hGr := hb.low hBr; obtain ⟨hcr, hfr⟩ := D.bcell hbr; have hzr := hbr.size; (try simp only [World.size_drew] at hzr); (try have hxr0 : w.heap.size < wr.heap.size := (by omega)); (try have hxr1 : w.heap.size + 1 < wr.heap.size := (by omega)); (try have hxr2 : w.heap.size + 1 + 1 < wr.heap.size := (by omega)); (try have hxr3 : w.heap.size + 1 + 1 + 1 < wr.heap.size := (by omega))))
      all_goals
        go_wp2
        refine bodyPost_ret (v := .tuple #[.agg #[.int .i64 0, .int .i64 0, .int .i64 0, .int .i64 0, .int .i64 0, .int .i64 0], .bool false]) (by simp [results, Tryd.results9, go_sem, *]) rfl ⟨by simp, by go_grown⟩
    · have hlt : D.num y' m' d' < D.num y m d := by
        have : ¬ D.num y m d ≤ D.num y' m' d' := fun a => h ⟨h1, h2, a⟩
        omega
      have hq : (if D.dval y m d = true then D.num y m d else -1) = D.num y m d := if_pos h1
      have hq' : (if D.dval y' m' d' = true then D.num y' m' d' else -1) = D.num y' m' d' := if_pos h2
      clear h
      go_enter Tryd.func9, Tryd.ntmps9
      go_wp2_with fail
      refine D.named ?_; intro W hW; have hWL : Below w.heap.size w W := (by rw [hW]; go_grown); have hWB : D.Base W := hb.low hWL; have hWc := D.cells_of hW; have hWf := D.frees_of hW; have hWz := D.size_of hW; (try simp only [World.size_alloc, World.size_setCell, World.size_drew] at hWz); clear hW; (first | (go_region_held3 (fun w' => (∀ b o, b < W.heap.size → w'.cell? ⟨b, o, none⟩ = W.cell? ⟨b, o, none⟩) ∧ (∀ b o, b < W.heap.size → w'.frozen? ⟨b, o, none⟩ = W.frozen? ⟨b, o, none⟩) ∧ D.Kp W.heap.size 0 W w') ((first | exact D.same_drew hWB | (go_split_ands; exact D.same_next (by assumption) (by assumption) (by assumption) hbr))) (first | (go_at_call 15; go_split_ands; refine (s_dval _ _ _ _ (D.Kp.base (by assumption))).mono ?_; rintro e wr ⟨rfl, hbr⟩) | (go_at_call 16; go_split_ands; refine (s_num _ _ _ _ (D.Kp.base (by assumption))).mono ?_; rintro e wr ⟨rfl, hbr⟩))))
      go_split_ands; have hBr : Below w.heap.size w _ := D.after hWL (D.Kp.low (by assumption)) hWL.size; have hGr := hb.low hBr; (try have hxr0 := D.Kp.lt (B := W.heap.size) (w := W) (k := w.heap.size) (by assumption) (by omega)); (try have hxr1 := D.Kp.lt (B := W.heap.size) (w := W) (k := w.heap.size + 1) (by assumption) (by omega)); (try have hxr2 := D.Kp.lt (B := W.heap.size) (w := W) (k := w.heap.size + 1 + 1) (by assumption) (by omega)); (try have hxr3 := D.Kp.lt (B := W.heap.size) (w := W) (k := w.heap.size + 1 + 1 + 1) (by assumption) (by omega))
      go_wp2
      refine bodyPost_ret (v := .tuple #[.agg #[.int .i64 0, .int .i64 0, .int .i64 0, .int .i64 0, .int .i64 0, .int .i64 0], .bool false]) (by simp [results, Tryd.results9, go_sem, *]) rfl ⟨by simp, by go_grown⟩

end Go.Proofs.YtbpdhehjnhefhaaDoor
