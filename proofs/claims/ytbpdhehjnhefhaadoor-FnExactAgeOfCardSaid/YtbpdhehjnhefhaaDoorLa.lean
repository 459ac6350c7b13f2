/- The walks of the laws on ages and periods between dates. -/
import Derived.Test.YtbpdhehjnhefhaaDoorSd
import Derived.Test.YtbpdhehjnhefhaaDoorWf
namespace Go.Proofs.YtbpdhehjnhefhaaDoor
set_option linter.unusedVariables false
set_option linter.unusedSimpArgs false
open Go.RowKit

set_option maxHeartbeats 400000 in
theorem toDate_any (y m d : Int) (w : World) (hb : D.Base w) : Calls Tryd.prog 7 #[.agg #[.int .i64 y, .int .i64 m, .int .i64 d]] w fun e w' => e = .returned (.agg #[.int .i64 y, .int .i64 m, .int .i64 d]) ∧ Below w.heap.size w w' := by
  go_enter Tryd.func7, Tryd.ntmps7
  go_wp2
  refine bodyPost_ret (v := .agg #[.int .i64 y, .int .i64 m, .int .i64 d]) (by simp [results, Tryd.results7, go_sem]) rfl ⟨rfl, by go_grown⟩

set_option maxRecDepth 100000 in
set_option maxHeartbeats 1000000 in
theorem lawAgeOf_any (y m d y' m' d' : Int) (w : World) (hb : D.Base w) :
    Calls Tryd.prog 3 #[.agg #[.int .i64 y, .int .i64 m, .int .i64 d], .agg #[.int .i64 y', .int .i64 m', .int .i64 d']] w fun e w' => e = .returned (.bool true) ∧ Below w.heap.size w w' := by
  go_enter Tryd.func3, Tryd.ntmps3
  go_wp2_with fail
  refine D.named ?_; intro W hW; have hWL : Below w.heap.size w W := (by rw [hW]; go_grown); have hWB : D.Base W := hb.low hWL; have hWc := D.cells_of hW; have hWf := D.frees_of hW; have hWz := D.size_of hW; (try simp only [World.size_alloc, World.size_setCell, World.size_drew] at hWz); clear hW; (first | (go_region_held3 (fun w' => (∀ b o, b < W.heap.size → w'.cell? ⟨b, o, none⟩ = W.cell? ⟨b, o, none⟩) ∧ (∀ b o, b < W.heap.size → w'.frozen? ⟨b, o, none⟩ = W.frozen? ⟨b, o, none⟩) ∧ D.Kp W.heap.size 0 W w') ((first | exact D.same_drew hWB | (go_split_ands; exact D.same_next (by assumption) (by assumption) (by assumption) hbr))) (first | (go_at_call 7; go_split_ands; refine (toDate_any _ _ _ _ (D.Kp.base (by assumption))).mono ?_; rintro e wr ⟨rfl, hbr⟩) | (go_at_call 6; go_split_ands; refine (s_age _ _ _ _ _ _ _ (D.Kp.base (by assumption))).mono ?_; rintro e wr ⟨rfl, hbr⟩))))
  go_split_ands; have hBr : Below w.heap.size w _ := D.after hWL (D.Kp.low (by assumption)) hWL.size; have hGr := hb.low hBr; (try have hxr0 := D.Kp.lt (B := W.heap.size) (w := W) (k := w.heap.size) (by assumption) (by omega)); (try have hxr1 := D.Kp.lt (B := W.heap.size) (w := W) (k := w.heap.size + 1) (by assumption) (by omega)); (try have hxr2 := D.Kp.lt (B := W.heap.size) (w := W) (k := w.heap.size + 1 + 1) (by assumption) (by omega)); (try have hxr3 := D.Kp.lt (B := W.heap.size) (w := W) (k := w.heap.size + 1 + 1 + 1) (by assumption) (by omega))
  go_wp2_with fail
  refine D.named ?_; intro W hW; have hWL : Below w.heap.size w W := (by rw [hW]; go_grown); have hWB : D.Base W := hb.low hWL; have hWc := D.cells_of hW; have hWf := D.frees_of hW; have hWz := D.size_of hW; (try simp only [World.size_alloc, World.size_setCell, World.size_drew] at hWz); clear hW; (first | (go_region_held3 (fun w' => (∀ b o, b < W.heap.size → w'.cell? ⟨b, o, none⟩ = W.cell? ⟨b, o, none⟩) ∧ (∀ b o, b < W.heap.size → w'.frozen? ⟨b, o, none⟩ = W.frozen? ⟨b, o, none⟩) ∧ D.Kp W.heap.size 0 W w') ((first | exact D.same_drew hWB | (go_split_ands; exact D.same_next (by assumption) (by assumption) (by assumption) hbr))) (first | (go_at_call 7; go_split_ands; refine (toDate_any _ _ _ _ (D.Kp.base (by assumption))).mono ?_; rintro e wr ⟨rfl, hbr⟩) | (go_at_call 8; go_split_ands; refine (age_any _ _ _ _ _ _ _ (D.Kp.base (by assumption))).mono ?_; rintro e wr ⟨rfl, hbr⟩))))
  go_split_ands; have hBr : Below w.heap.size w _ := D.after hWL (D.Kp.low (by assumption)) hWL.size; have hGr := hb.low hBr; (try have hxr0 := D.Kp.lt (B := W.heap.size) (w := W) (k := w.heap.size) (by assumption) (by omega)); (try have hxr1 := D.Kp.lt (B := W.heap.size) (w := W) (k := w.heap.size + 1) (by assumption) (by omega)); (try have hxr2 := D.Kp.lt (B := W.heap.size) (w := W) (k := w.heap.size + 1 + 1) (by assumption) (by omega)); (try have hxr3 := D.Kp.lt (B := W.heap.size) (w := W) (k := w.heap.size + 1 + 1 + 1) (by assumption) (by omega))
  go_wp2
  go_ret
  exact ⟨rfl, by assumption⟩

end Go.Proofs.YtbpdhehjnhefhaaDoor
