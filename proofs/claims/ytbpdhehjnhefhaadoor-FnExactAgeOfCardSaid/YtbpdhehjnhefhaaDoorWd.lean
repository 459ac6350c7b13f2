/- Months later. -/
import Derived.Test.YtbpdhehjnhefhaaDoorWb
import Derived.StillTailTactics
namespace Go.Proofs.YtbpdhehjnhefhaaDoor
set_option linter.unusedVariables false
set_option linter.unusedSimpArgs false
open Go.RowKit

set_option maxRecDepth 100000 in
set_option maxHeartbeats 1000000 in
theorem mplus_any (y m d n : Int) (w : World) (hb : D.Base w) : Calls Tryd.prog 23 #[.agg #[.int .i64 y, .int .i64 m, .int .i64 d], .int .i64 n] w fun e w' => e = .returned (.tuple #[.agg #[.int .i64 (D.mplus y m d n).y, .int .i64 (D.mplus y m d n).m, .int .i64 (D.mplus y m d n).d], .bool (D.mplus y m d n).ok]) ∧ Below w.heap.size w w' := by
  cases h1 : D.dval y m d
  · rw [D.mplus_invalid h1]
    go_enter Tryd.func23, Tryd.ntmps23
    go_wp2_with fail
    refine (dval_any _ _ _ _ ((hb.alloc _).alloc _)).mono ?_
    rintro e w1 ⟨rfl, hb1⟩; obtain ⟨hc1, hf1⟩ := D.bcell hb1; have hz1 := hb1.size; (try simp only [World.size_alloc, World.size_setCell, World.size_drew, Nat.add_one_le_iff] at hz1); have hB1 : Below w.heap.size w w1 := D.after (by go_grown) hb1 (by first | omega | (simp; done) | (simp; omega)); have hG1 := hb.low hB1; (try have hx10 : w.heap.size < w1.heap.size := (by omega)); (try have hx11 : w.heap.size + 1 < w1.heap.size := (by omega)); (try have hx12 : w.heap.size + 1 + 1 < w1.heap.size := (by omega)); (try have hx13 : w.heap.size + 1 + 1 + 1 < w1.heap.size := (by omega))
    go_wp2
    refine bodyPost_ret (v := .tuple #[.agg #[.int .i64 0, .int .i64 0, .int .i64 0], .bool false]) (by simp [results, Tryd.results23, go_sem, hc1]) rfl ⟨by simp [D.DR.no], by go_grown⟩
  · cases h2 : D.inR n (-119988) 119988
    · rw [D.mplus_range h2]
      go_enter Tryd.func23, Tryd.ntmps23
      go_wp2_with fail
      refine (dval_any _ _ _ _ ((hb.alloc _).alloc _)).mono ?_
      rintro e w1 ⟨rfl, hb1⟩; obtain ⟨hc1, hf1⟩ := D.bcell hb1; have hz1 := hb1.size; (try simp only [World.size_alloc, World.size_setCell, World.size_drew, Nat.add_one_le_iff] at hz1); have hB1 : Below w.heap.size w w1 := D.after (by go_grown) hb1 (by first | omega | (simp; done) | (simp; omega)); have hG1 := hb.low hB1; (try have hx10 : w.heap.size < w1.heap.size := (by omega)); (try have hx11 : w.heap.size + 1 < w1.heap.size := (by omega)); (try have hx12 : w.heap.size + 1 + 1 < w1.heap.size := (by omega)); (try have hx13 : w.heap.size + 1 + 1 + 1 < w1.heap.size := (by omega))
      go_wp2_with (go_at_call 35; refine (within_any _ _ _ _).mono ?_; rintro e w' ⟨rfl, rfl⟩)
      refine bodyPost_ret (v := .tuple #[.agg #[.int .i64 0, .int .i64 0, .int .i64 0], .bool false]) (by simp [results, Tryd.results23, go_sem, hc1]) rfl ⟨by simp [D.DR.no], by go_grown⟩
    · have hd := D.dval_bd h1
      have hn := D.inR_true.1 h2
      by_cases h3 : 0 ≤ D.mpT y m n
      · by_cases h4 : D.mpT y m n / 12 < 9999
        · rw [D.mplus_in h1 h2 ⟨h3, h4⟩]
          have ht : D.mpT y m n < 119988 := by omega
          unfold D.mpT at h3 h4 ht
          have HT : Hid (D.mpT y m n = 12 * (y - 1) + m - 1 + n) := rfl
          go_enter Tryd.func23, Tryd.ntmps23
          go_wp2_with fail
          refine (dval_any _ _ _ _ ((hb.alloc _).alloc _)).mono ?_
          rintro e w1 ⟨rfl, hb1⟩; obtain ⟨hc1, hf1⟩ := D.bcell hb1; have hz1 := hb1.size; (try simp only [World.size_alloc, World.size_setCell, World.size_drew, Nat.add_one_le_iff] at hz1); have hB1 : Below w.heap.size w w1 := D.after (by go_grown) hb1 (by first | omega | (simp; done) | (simp; omega)); have hG1 := hb.low hB1; (try have hx10 : w.heap.size < w1.heap.size := (by omega)); (try have hx11 : w.heap.size + 1 < w1.heap.size := (by omega)); (try have hx12 : w.heap.size + 1 + 1 < w1.heap.size := (by omega)); (try have hx13 : w.heap.size + 1 + 1 + 1 < w1.heap.size := (by omega))
          go_wp2_with (go_at_call 35; refine (within_any _ _ _ _).mono ?_; rintro e w' ⟨rfl, rfl⟩)
          refine D.tail 9 (by kernel_rfl) (by kernel_rfl) ?_; simp only [List.take_succ_cons, List.take_zero, List.drop_succ_cons, List.drop_zero]
          repeat still_step
          still_call (D.ss (md_any _ _ _ (by exact (hG1.alloc _).drew)))
          repeat still_step
          refine wpStill_nil ?_
          go_wp2
          · have hle : D.md ((12 * (y - 1) + m - 1 + n) / 12 + 1) ((12 * (y - 1) + m - 1 + n) % 12 + 1) < d := by assumption
            refine bodyPost_ret (v := .tuple #[.agg #[.int .i64 ((12 * (y - 1) + m - 1 + n) / 12 + 1), .int .i64 ((12 * (y - 1) + m - 1 + n) % 12 + 1), .int .i64 (D.md ((12 * (y - 1) + m - 1 + n) / 12 + 1) ((12 * (y - 1) + m - 1 + n) % 12 + 1))], .bool true]) (by simp [results, Tryd.results23, go_sem, hc1, hz1]) rfl ⟨?_, by go_grown⟩
            rw [HT.out, Int.min_eq_right (Int.le_of_lt hle)]
          · have hle : d ≤ D.md ((12 * (y - 1) + m - 1 + n) / 12 + 1) ((12 * (y - 1) + m - 1 + n) % 12 + 1) := by assumption
            refine bodyPost_ret (v := .tuple #[.agg #[.int .i64 ((12 * (y - 1) + m - 1 + n) / 12 + 1), .int .i64 ((12 * (y - 1) + m - 1 + n) % 12 + 1), .int .i64 d], .bool true]) (by simp [results, Tryd.results23, go_sem, hc1, hz1]) rfl ⟨?_, by go_grown⟩
            rw [HT.out, Int.min_eq_left hle]
        · rw [D.mplus_out (fun h => h4 h.2)]
          unfold D.mpT at h3 h4
          go_enter Tryd.func23, Tryd.ntmps23
          go_wp2_with fail
          refine (dval_any _ _ _ _ ((hb.alloc _).alloc _)).mono ?_
          rintro e w1 ⟨rfl, hb1⟩; obtain ⟨hc1, hf1⟩ := D.bcell hb1; have hz1 := hb1.size; (try simp only [World.size_alloc, World.size_setCell, World.size_drew, Nat.add_one_le_iff] at hz1); have hB1 : Below w.heap.size w w1 := D.after (by go_grown) hb1 (by first | omega | (simp; done) | (simp; omega)); have hG1 := hb.low hB1; (try have hx10 : w.heap.size < w1.heap.size := (by omega)); (try have hx11 : w.heap.size + 1 < w1.heap.size := (by omega)); (try have hx12 : w.heap.size + 1 + 1 < w1.heap.size := (by omega)); (try have hx13 : w.heap.size + 1 + 1 + 1 < w1.heap.size := (by omega))
          go_wp2_with (go_at_call 35; refine (within_any _ _ _ _).mono ?_; rintro e w' ⟨rfl, rfl⟩)
          refine bodyPost_ret (v := .tuple #[.agg #[.int .i64 0, .int .i64 0, .int .i64 0], .bool false]) (by simp [results, Tryd.results23, go_sem, hc1]) rfl ⟨by simp [D.DR.no], by go_grown⟩
      · rw [D.mplus_out (fun h => h3 h.1)]
        unfold D.mpT at h3
        go_enter Tryd.func23, Tryd.ntmps23
        go_wp2_with fail
        refine (dval_any _ _ _ _ ((hb.alloc _).alloc _)).mono ?_
        rintro e w1 ⟨rfl, hb1⟩; obtain ⟨hc1, hf1⟩ := D.bcell hb1; have hz1 := hb1.size; (try simp only [World.size_alloc, World.size_setCell, World.size_drew, Nat.add_one_le_iff] at hz1); have hB1 : Below w.heap.size w w1 := D.after (by go_grown) hb1 (by first | omega | (simp; done) | (simp; omega)); have hG1 := hb.low hB1; (try have hx10 : w.heap.size < w1.heap.size := (by omega)); (try have hx11 : w.heap.size + 1 < w1.heap.size := (by omega)); (try have hx12 : w.heap.size + 1 + 1 < w1.heap.size := (by omega)); (try have hx13 : w.heap.size + 1 + 1 + 1 < w1.heap.size := (by omega))
        go_wp2_with (go_at_call 35; refine (within_any _ _ _ _).mono ?_; rintro e w' ⟨rfl, rfl⟩)
        refine bodyPost_ret (v := .tuple #[.agg #[.int .i64 0, .int .i64 0, .int .i64 0], .bool false]) (by simp [results, Tryd.results23, go_sem, hc1]) rfl ⟨by simp [D.DR.no], by go_grown⟩

end Go.Proofs.YtbpdhehjnhefhaaDoor
