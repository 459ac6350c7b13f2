/- The walks of what is between dates. -/
import Derived.Test.YtbpdhehjnhefhaaDoorWc
import Derived.Test.YtbpdhehjnhefhaaDoorWd
import Derived.Test.YtbpdhehjnhefhaaDoorPlain2
namespace Go.Proofs.YtbpdhehjnhefhaaDoor
set_option linter.unusedVariables false
set_option linter.unusedSimpArgs false
open Go.RowKit

set_option maxHeartbeats 1000000 in
theorem apartD_ok (y m d y' m' d' : Int) (w : World) (hb : D.Base w) (h : D.dval y m d = true) (h' : D.dval y' m' d' = true) (hle : D.num y m d ≤ D.num y' m' d') :
    Calls Tryd.prog 20 #[.agg #[.int .i64 y, .int .i64 m, .int .i64 d], .agg #[.int .i64 y', .int .i64 m', .int .i64 d'], .func (.func 21) #[] #[]] w fun e w' => e = .returned (.tuple #[.int .i64 (D.num y' m' d' - D.num y m d), .nilIface]) ∧ Below w.heap.size w w' := by
  have hn := D.num_bd h
  have hn' := D.num_bd h'
  have hc : D.cmp (D.num y m d) (D.num y' m' d') ≤ 0 := by unfold D.cmp; split <;> (try split) <;> omega
  go_enter Tryd.func20, Tryd.ntmps20
  go_wp2_with fail
  refine D.named ?_; intro W hW; have hWL : Below w.heap.size w W := (by rw [hW]; go_grown); have hWB : D.Base W := hb.low hWL; have hWc := D.cells_of hW; have hWf := D.frees_of hW; have hWz := D.size_of hW; (try simp only [World.size_alloc, World.size_setCell, World.size_drew] at hWz); clear hW; (first | (go_region_held3 (fun w' => (∀ b o, b < W.heap.size → w'.cell? ⟨b, o, none⟩ = W.cell? ⟨b, o, none⟩) ∧ (∀ b o, b < W.heap.size → w'.frozen? ⟨b, o, none⟩ = W.frozen? ⟨b, o, none⟩) ∧ D.Kp W.heap.size 0 W w') ((first | exact D.same_drew hWB | (go_split_ands; exact D.same_next (by assumption) (by assumption) (by assumption) hbr))) (first | (go_at_call 21; go_split_ands; refine (num_any _ _ _ _ (D.Kp.base (by assumption)) (by assumption)).mono ?_; rintro e wr ⟨rfl, hbr⟩) | (go_at_call 37; refine (compare_any _ _ _).mono ?_; rintro e w' ⟨rfl, rfl⟩))))
  go_split_ands; have hBr : Below w.heap.size w _ := D.after hWL (D.Kp.low (by assumption)) hWL.size; have hGr := hb.low hBr; (try have hxr0 := D.Kp.lt (B := W.heap.size) (w := W) (k := w.heap.size) (by assumption) (by omega)); (try have hxr1 := D.Kp.lt (B := W.heap.size) (w := W) (k := w.heap.size + 1) (by assumption) (by omega)); (try have hxr2 := D.Kp.lt (B := W.heap.size) (w := W) (k := w.heap.size + 1 + 1) (by assumption) (by omega)); (try have hxr3 := D.Kp.lt (B := W.heap.size) (w := W) (k := w.heap.size + 1 + 1 + 1) (by assumption) (by omega))
  go_wp2_with fail
  refine D.named ?_; intro W hW; have hWL : Below w.heap.size w W := (by rw [hW]; go_grown); have hWB : D.Base W := hb.low hWL; have hWc := D.cells_of hW; have hWf := D.frees_of hW; have hWz := D.size_of hW; (try simp only [World.size_alloc, World.size_setCell, World.size_drew] at hWz); clear hW; (first | (go_region_held3 (fun w' => (∀ b o, b < W.heap.size → w'.cell? ⟨b, o, none⟩ = W.cell? ⟨b, o, none⟩) ∧ (∀ b o, b < W.heap.size → w'.frozen? ⟨b, o, none⟩ = W.frozen? ⟨b, o, none⟩) ∧ D.Kp W.heap.size 0 W w') ((first | exact D.same_drew hWB | (go_split_ands; exact D.same_next (by assumption) (by assumption) (by assumption) hbr))) (first | (go_at_call 21; go_split_ands; refine (num_any _ _ _ _ (D.Kp.base (by assumption)) (by assumption)).mono ?_; rintro e wr ⟨rfl, hbr⟩))))
  go_split_ands; have hBr : Below w.heap.size w _ := D.after hWL (D.Kp.low (by assumption)) hWL.size; have hGr := hb.low hBr; (try have hxr0 := D.Kp.lt (B := W.heap.size) (w := W) (k := w.heap.size) (by assumption) (by omega)); (try have hxr1 := D.Kp.lt (B := W.heap.size) (w := W) (k := w.heap.size + 1) (by assumption) (by omega)); (try have hxr2 := D.Kp.lt (B := W.heap.size) (w := W) (k := w.heap.size + 1 + 1) (by assumption) (by omega)); (try have hxr3 := D.Kp.lt (B := W.heap.size) (w := W) (k := w.heap.size + 1 + 1 + 1) (by assumption) (by omega))
  go_wp2
  go_ret2
  refine ⟨?_, by assumption⟩
  show Ending.returned (.tuple #[.int .i64 (IntKind.i64.wrap (D.num y' m' d' - D.num y m d)), .nilIface]) = _
  rw [IntWalk.i64_in _ (by omega)]

set_option maxHeartbeats 1000000 in
theorem apartD_back (y m d y' m' d' : Int) (ea : Addr) (w : World) (hb : D.Base w) (hea : w.cell? ⟨0, 0, none⟩ = some (.iface 86 (.pointer (some ea)))) (h : D.dval y m d = true) (h' : D.dval y' m' d' = true) (hlt : D.num y' m' d' < D.num y m d) :
    Calls Tryd.prog 20 #[.agg #[.int .i64 y, .int .i64 m, .int .i64 d], .agg #[.int .i64 y', .int .i64 m', .int .i64 d'], .func (.func 21) #[] #[]] w fun e w' => e = .returned (.tuple #[.int .i64 0, .iface 86 (.pointer (some ea))]) ∧ Below w.heap.size w w' := by
  have hc : 0 < D.cmp (D.num y m d) (D.num y' m' d') := by unfold D.cmp; rw [if_neg (by omega), if_pos (by omega)]; omega
  have hg0 : 0 < w.heap.size := by have := hb.size; omega
  go_enter Tryd.func20, Tryd.ntmps20
  go_wp2_with fail
  refine D.named ?_; intro W hW; have hWL : Below w.heap.size w W := (by rw [hW]; go_grown); have hWB : D.Base W := hb.low hWL; have hWc := D.cells_of hW; have hWf := D.frees_of hW; have hWz := D.size_of hW; (try simp only [World.size_alloc, World.size_setCell, World.size_drew] at hWz); clear hW; (first | (go_region_held3 (fun w' => (∀ b o, b < W.heap.size → w'.cell? ⟨b, o, none⟩ = W.cell? ⟨b, o, none⟩) ∧ (∀ b o, b < W.heap.size → w'.frozen? ⟨b, o, none⟩ = W.frozen? ⟨b, o, none⟩) ∧ D.Kp W.heap.size 0 W w') ((first | exact D.same_drew hWB | (go_split_ands; exact D.same_next (by assumption) (by assumption) (by assumption) hbr))) (first | (go_at_call 21; go_split_ands; refine (num_any _ _ _ _ (D.Kp.base (by assumption)) (by assumption)).mono ?_; rintro e wr ⟨rfl, hbr⟩) | (go_at_call 37; refine (compare_any _ _ _).mono ?_; rintro e w' ⟨rfl, rfl⟩))))
  go_split_ands; have hBr : Below w.heap.size w _ := D.after hWL (D.Kp.low (by assumption)) hWL.size; have hGr := hb.low hBr; (try have hxr0 := D.Kp.lt (B := W.heap.size) (w := W) (k := w.heap.size) (by assumption) (by omega)); (try have hxr1 := D.Kp.lt (B := W.heap.size) (w := W) (k := w.heap.size + 1) (by assumption) (by omega)); (try have hxr2 := D.Kp.lt (B := W.heap.size) (w := W) (k := w.heap.size + 1 + 1) (by assumption) (by omega)); (try have hxr3 := D.Kp.lt (B := W.heap.size) (w := W) (k := w.heap.size + 1 + 1 + 1) (by assumption) (by omega))
  go_wp2_with fail
  have hea1 : wr.cell? ⟨0, 0, none⟩ = some (.iface 86 (.pointer (some ea))) := (hBr.cell (p := ⟨0, 0, none⟩) hg0).trans hea
  have hg1 : 0 < wr.heap.size := by have := hGr.size; omega
  go_quiet (fail)
  go_wp2
  go_ret2
  exact ⟨rfl, D.below_drewN (by assumption) _⟩

set_option maxRecDepth 100000 in
set_option maxHeartbeats 1000000 in
theorem between_no (y m d y' m' d' : Int) (w : World) (hb : D.Base w) (h : ¬ (D.dval y m d = true ∧ D.dval y' m' d' = true ∧ D.num y m d ≤ D.num y' m' d')) :
    Calls Tryd.prog 10 #[.agg #[.int .i64 y, .int .i64 m, .int .i64 d], .agg #[.int .i64 y', .int .i64 m', .int .i64 d']] w fun e w' => e = .returned (.tuple #[.agg #[.int .i64 0, .int .i64 0, .int .i64 0, .int .i64 0, .int .i64 0, .int .i64 0], .bool false]) ∧ Below w.heap.size w w' := by
  cases h1 : D.dval y m d
  · go_enter Tryd.func10, Tryd.ntmps10
    go_wp2_with fail
    refine (dval_any _ _ _ _ (((hb.alloc _).alloc _).alloc _)).mono ?_
    rintro e w1 ⟨rfl, hb1⟩; obtain ⟨hc1, hf1⟩ := D.bcell hb1; have hz1 := hb1.size; (try simp only [World.size_alloc, World.size_setCell, World.size_drew, Nat.add_one_le_iff] at hz1); have hB1 : Below w.heap.size w w1 := D.after (by go_grown) hb1 (by first | omega | (simp; done) | (simp; omega)); have hG1 := hb.low hB1; (try have hx10 : w.heap.size < w1.heap.size := (by omega)); (try have hx11 : w.heap.size + 1 < w1.heap.size := (by omega)); (try have hx12 : w.heap.size + 1 + 1 < w1.heap.size := (by omega)); (try have hx13 : w.heap.size + 1 + 1 + 1 < w1.heap.size := (by omega))
    go_wp2
    refine bodyPost_ret (v := .tuple #[.agg #[.int .i64 0, .int .i64 0, .int .i64 0, .int .i64 0, .int .i64 0, .int .i64 0], .bool false]) (by simp [results, Tryd.results10, go_sem, *]) rfl ⟨by simp, by go_grown⟩
  · cases h2 : D.dval y' m' d'
    · go_enter Tryd.func10, Tryd.ntmps10
      go_wp2_with fail
      refine (dval_any _ _ _ _ (((hb.alloc _).alloc _).alloc _)).mono ?_
      rintro e w1 ⟨rfl, hb1⟩; obtain ⟨hc1, hf1⟩ := D.bcell hb1; have hz1 := hb1.size; (try simp only [World.size_alloc, World.size_setCell, World.size_drew, Nat.add_one_le_iff] at hz1); have hB1 : Below w.heap.size w w1 := D.after (by go_grown) hb1 (by first | omega | (simp; done) | (simp; omega)); have hG1 := hb.low hB1; (try have hx10 : w.heap.size < w1.heap.size := (by omega)); (try have hx11 : w.heap.size + 1 < w1.heap.size := (by omega)); (try have hx12 : w.heap.size + 1 + 1 < w1.heap.size := (by omega)); (try have hx13 : w.heap.size + 1 + 1 + 1 < w1.heap.size := (by omega))
      go_wp2_with fail
      refine (dval_any _ _ _ _ (by assumption)).mono ?_
      rintro e w2 ⟨rfl, hb2⟩; obtain ⟨hc2, hf2⟩ := D.bcell hb2; have hz2 := hb2.size; (try simp only [World.size_alloc, World.size_setCell, World.size_drew, Nat.add_one_le_iff] at hz2); have hB2 : Below w.heap.size w w2 := D.after (by go_grown) hb2 (by first | omega | (simp; done) | (simp; omega)); have hG2 := hb.low hB2; (try have hx20 : w.heap.size < w2.heap.size := (by omega)); (try have hx21 : w.heap.size + 1 < w2.heap.size := (by omega)); (try have hx22 : w.heap.size + 1 + 1 < w2.heap.size := (by omega)); (try have hx23 : w.heap.size + 1 + 1 + 1 < w2.heap.size := (by omega))
      go_wp2
      refine bodyPost_ret (v := .tuple #[.agg #[.int .i64 0, .int .i64 0, .int .i64 0, .int .i64 0, .int .i64 0, .int .i64 0], .bool false]) (by simp [results, Tryd.results10, go_sem, *]) rfl ⟨by simp, by go_grown⟩
    · have hlt : D.num y' m' d' < D.num y m d := by
        have : ¬ D.num y m d ≤ D.num y' m' d' := fun a => h ⟨h1, h2, a⟩
        omega
      clear h
      have hg0 : 0 < w.heap.size := by have := hb.size; omega
      obtain ⟨ea, hea⟩ := hb.err
      go_enter Tryd.func10, Tryd.ntmps10
      go_wp2_with fail
      refine (dval_any _ _ _ _ (((hb.alloc _).alloc _).alloc _)).mono ?_
      rintro e w1 ⟨rfl, hb1⟩; obtain ⟨hc1, hf1⟩ := D.bcell hb1; have hz1 := hb1.size; (try simp only [World.size_alloc, World.size_setCell, World.size_drew, Nat.add_one_le_iff] at hz1); have hB1 : Below w.heap.size w w1 := D.after (by go_grown) hb1 (by first | omega | (simp; done) | (simp; omega)); have hG1 := hb.low hB1; (try have hx10 : w.heap.size < w1.heap.size := (by omega)); (try have hx11 : w.heap.size + 1 < w1.heap.size := (by omega)); (try have hx12 : w.heap.size + 1 + 1 < w1.heap.size := (by omega)); (try have hx13 : w.heap.size + 1 + 1 + 1 < w1.heap.size := (by omega))
      go_wp2_with fail
      refine (dval_any _ _ _ _ (by assumption)).mono ?_
      rintro e w2 ⟨rfl, hb2⟩; obtain ⟨hc2, hf2⟩ := D.bcell hb2; have hz2 := hb2.size; (try simp only [World.size_alloc, World.size_setCell, World.size_drew, Nat.add_one_le_iff] at hz2); have hB2 : Below w.heap.size w w2 := D.after (by go_grown) hb2 (by first | omega | (simp; done) | (simp; omega)); have hG2 := hb.low hB2; (try have hx20 : w.heap.size < w2.heap.size := (by omega)); (try have hx21 : w.heap.size + 1 < w2.heap.size := (by omega)); (try have hx22 : w.heap.size + 1 + 1 < w2.heap.size := (by omega)); (try have hx23 : w.heap.size + 1 + 1 + 1 < w2.heap.size := (by omega))
      go_wp2_with fail
      have hea2 : w2.cell? ⟨0, 0, none⟩ = some (.iface 86 (.pointer (some ea))) := (hB2.cell (p := ⟨0, 0, none⟩) hg0).trans hea
      refine (apartD_back _ _ _ _ _ _ _ _ (by assumption) hea2 h1 h2 hlt).mono ?_
      rintro e w3 ⟨rfl, hb3⟩; obtain ⟨hc3, hf3⟩ := D.bcell hb3; have hz3 := hb3.size; (try simp only [World.size_alloc, World.size_setCell, World.size_drew, Nat.add_one_le_iff] at hz3); have hB3 : Below w.heap.size w w3 := D.after (by go_grown) hb3 (by first | omega | (simp; done) | (simp; omega)); have hG3 := hb.low hB3; (try have hx30 : w.heap.size < w3.heap.size := (by omega)); (try have hx31 : w.heap.size + 1 < w3.heap.size := (by omega)); (try have hx32 : w.heap.size + 1 + 1 < w3.heap.size := (by omega)); (try have hx33 : w.heap.size + 1 + 1 + 1 < w3.heap.size := (by omega))
      have hea3 : w3.cell? ⟨0, 0, none⟩ = some (.iface 86 (.pointer (some ea))) := (hB3.cell (p := ⟨0, 0, none⟩) hg0).trans hea
      go_wp2_with fail
      refine (is_same _ _).mono ?_
      rintro e w' ⟨rfl, rfl⟩
      go_wp2
      refine bodyPost_ret (v := .tuple #[.agg #[.int .i64 0, .int .i64 0, .int .i64 0, .int .i64 0, .int .i64 0, .int .i64 0], .bool false]) (by simp [results, Tryd.results10, go_sem, *]) rfl ⟨by simp, by go_grown⟩

end Go.Proofs.YtbpdhehjnhefhaaDoor
