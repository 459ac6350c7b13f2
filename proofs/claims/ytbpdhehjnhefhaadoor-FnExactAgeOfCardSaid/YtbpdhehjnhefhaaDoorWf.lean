/- The program's period between dates, where there is one; its age. -/
import Derived.Test.YtbpdhehjnhefhaaDoorWe
import Derived.Test.YtbpdhehjnhefhaaDoorPlain3
namespace Go.Proofs.YtbpdhehjnhefhaaDoor
set_option linter.unusedVariables false
set_option linter.unusedSimpArgs false
open Go.RowKit

set_option maxRecDepth 100000 in
set_option maxHeartbeats 1000000 in
theorem between_yes (y m d y' m' d' : Int) (w : World) (hb : D.Base w) (h1 : D.dval y m d = true) (h2 : D.dval y' m' d' = true) (hle : D.num y m d ≤ D.num y' m' d') :
    Calls Tryd.prog 10 #[.agg #[.int .i64 y, .int .i64 m, .int .i64 d], .agg #[.int .i64 y', .int .i64 m', .int .i64 d']] w fun e w' => e = .returned (.tuple #[.agg #[.int .i64 (D.bn y m d y' m' d' / 12), .int .i64 (D.bn y m d y' m' d' % 12), .int .i64 (D.bd y m d y' m' d'), .int .i64 0, .int .i64 0, .int .i64 0], .bool true]) ∧ Below w.heap.size w w' := by
  have hd := D.dval_bd h1
  have hd' := D.dval_bd h2
  have hB := D.btw h1 h2 hle
  have hv0 := D.mplus_val h1 hB.2.2.1 hB.2.2.2.1
  have hv := D.mplus_val h1 hB.2.2.2.2.2.2.1 hB.2.2.2.2.2.2.2.1
  have hn1 : 0 ≤ 12 * (y' - y) + m' - m := hB.1
  have hn2 : 12 * (y' - y) + m' - m ≤ 119988 := hB.2.1
  have hw1 : (D.mplus y m d (12 * (y' - y) + m' - m)).ok = true := hv0.1
  have hw2 : D.dval (D.mplus y m d (12 * (y' - y) + m' - m)).y (D.mplus y m d (12 * (y' - y) + m' - m)).m (D.mplus y m d (12 * (y' - y) + m' - m)).d = true := hv0.2.1
  have HD0 : Hid (D.bn y m d y' m' d' = if D.num y' m' d' < D.numR (D.mplus y m d (12 * (y' - y) + m' - m)) then 12 * (y' - y) + m' - m - 1 else 12 * (y' - y) + m' - m) := rfl
  have HD : Hid (D.bd y m d y' m' d' = D.num y' m' d' - D.numR (D.mplus y m d (D.bn y m d y' m' d'))) := rfl
  have hv1 := hv.1
  have hv2 := hv.2.1
  have hdd : D.numR (D.mplus y m d (D.bn y m d y' m' d')) ≤ D.num y' m' d' := by
    have := hB.2.2.2.2.2.2.2.2.1
    have e := HD.out
    omega
  have hb0 := hB.2.2.2.2.1
  have hb1 := hB.2.2.2.2.2.1
  have HB := Lib.hid hB.2.2.2.2.2.2.2.2
  clear hB hv hv0
  have hg0 : 0 < w.heap.size := by have := hb.size; omega
  obtain ⟨ea, hea⟩ := hb.err
  generalize hx : D.mplus y m d (12 * (y' - y) + m' - m) = x at hw1 hw2 HD0
  have Hx := Lib.hid hx
  clear hx
  by_cases hc : D.num y' m' d' < D.num x.y x.m x.d
  · have e : D.bn y m d y' m' d' = 12 * (y' - y) + m' - m - 1 := by rw [HD0.out]; exact if_pos hc
    rw [e] at HD hv1 hv2 hdd hb0 hb1 ⊢
    have hcm : 0 < D.cmp (D.num x.y x.m x.d) (D.num y' m' d') := by unfold D.cmp; rw [if_neg (by omega), if_pos (by omega)]; omega
    clear e
    generalize hz : D.mplus y m d (12 * (y' - y) + m' - m - 1) = z at hv1 hv2 hdd HD
    have Hz := Lib.hid hz
    clear hz
    go_enter Tryd.func10, Tryd.ntmps10
    go_wp2_with fail
    refine (dval_any _ _ _ _ (((hb.alloc _).alloc _).alloc _)).mono ?_
    rintro e w1 ⟨rfl, hb1⟩; obtain ⟨hc1, hf1⟩ := D.bcell hb1; have hz1 := hb1.size; (try simp only [World.size_alloc, World.size_setCell, World.size_drew, Nat.add_one_le_iff] at hz1); have hB1 : Below w.heap.size w w1 := D.after (by go_grown) hb1 (by first | omega | (simp; done) | (simp; omega)); have hG1 := hb.low hB1; (try have hx10 : w.heap.size < w1.heap.size := (by omega)); (try have hx11 : w.heap.size + 1 < w1.heap.size := (by omega)); (try have hx12 : w.heap.size + 1 + 1 < w1.heap.size := (by omega)); (try have hx13 : w.heap.size + 1 + 1 + 1 < w1.heap.size := (by omega))
    go_wp2_with fail
    refine (dval_any _ _ _ _ (by assumption)).mono ?_
    rintro e w2 ⟨rfl, hb2⟩; obtain ⟨hc2, hf2⟩ := D.bcell hb2; have hz2 := hb2.size; (try simp only [World.size_alloc, World.size_setCell, World.size_drew, Nat.add_one_le_iff] at hz2); have hB2 : Below w.heap.size w w2 := D.after (by go_grown) hb2 (by first | omega | (simp; done) | (simp; omega)); have hG2 := hb.low hB2; (try have hx20 : w.heap.size < w2.heap.size := (by omega)); (try have hx21 : w.heap.size + 1 < w2.heap.size := (by omega)); (try have hx22 : w.heap.size + 1 + 1 < w2.heap.size := (by omega)); (try have hx23 : w.heap.size + 1 + 1 + 1 < w2.heap.size := (by omega))
    go_wp2_with fail
    refine (apartD_ok _ _ _ _ _ _ _ (by assumption) h1 h2 hle).mono ?_
    rintro e w3 ⟨rfl, hb3⟩; obtain ⟨hc3, hf3⟩ := D.bcell hb3; have hz3 := hb3.size; (try simp only [World.size_alloc, World.size_setCell, World.size_drew, Nat.add_one_le_iff] at hz3); have hB3 : Below w.heap.size w w3 := D.after (by go_grown) hb3 (by first | omega | (simp; done) | (simp; omega)); have hG3 := hb.low hB3; (try have hx30 : w.heap.size < w3.heap.size := (by omega)); (try have hx31 : w.heap.size + 1 < w3.heap.size := (by omega)); (try have hx32 : w.heap.size + 1 + 1 < w3.heap.size := (by omega)); (try have hx33 : w.heap.size + 1 + 1 + 1 < w3.heap.size := (by omega))
    have hea3 : w3.cell? ⟨0, 0, none⟩ = some (.iface 86 (.pointer (some ea))) := (hB3.cell (p := ⟨0, 0, none⟩) hg0).trans hea
    go_wp2_with fail
    refine (is_nil _ _).mono ?_
    rintro e w' ⟨rfl, rfl⟩
    go_wp2_with fail
    refine (mplus_any _ _ _ _ _ (by assumption)).mono ?_
    rw [Hx.out]
    rintro e w4 ⟨rfl, hb4⟩; obtain ⟨hc4, hf4⟩ := D.bcell hb4; have hz4 := hb4.size; (try simp only [World.size_alloc, World.size_setCell, World.size_drew, Nat.add_one_le_iff] at hz4); have hB4 : Below w.heap.size w w4 := D.after (by go_grown) hb4 (by first | omega | (simp; done) | (simp; omega)); have hG4 := hb.low hB4; (try have hx40 : w.heap.size < w4.heap.size := (by omega)); (try have hx41 : w.heap.size + 1 < w4.heap.size := (by omega)); (try have hx42 : w.heap.size + 1 + 1 < w4.heap.size := (by omega)); (try have hx43 : w.heap.size + 1 + 1 + 1 < w4.heap.size := (by omega))
    go_wp2_with fail
    refine (dcompare_any _ _ _ _ _ _ _ (hG4.alloc _) hw2 h2).mono ?_
    rintro e w5 ⟨rfl, hb5⟩; obtain ⟨hc5, hf5⟩ := D.bcell hb5; have hz5 := hb5.size; (try simp only [World.size_alloc, World.size_setCell, World.size_drew, Nat.add_one_le_iff] at hz5); have hB5 : Below w.heap.size w w5 := D.after (by go_grown) hb5 (by first | omega | (simp; done) | (simp; omega)); have hG5 := hb.low hB5; (try have hx50 : w.heap.size < w5.heap.size := (by omega)); (try have hx51 : w.heap.size + 1 < w5.heap.size := (by omega)); (try have hx52 : w.heap.size + 1 + 1 < w5.heap.size := (by omega)); (try have hx53 : w.heap.size + 1 + 1 + 1 < w5.heap.size := (by omega))
    go_wp2_with fail
    refine (mplus_any _ _ _ _ _ (by assumption)).mono ?_
    rw [Hz.out]
    rintro e w6 ⟨rfl, hb6⟩; obtain ⟨hc6, hf6⟩ := D.bcell hb6; have hz6 := hb6.size; (try simp only [World.size_alloc, World.size_setCell, World.size_drew, Nat.add_one_le_iff] at hz6); have hB6 : Below w.heap.size w w6 := D.after (by go_grown) hb6 (by first | omega | (simp; done) | (simp; omega)); have hG6 := hb.low hB6; (try have hx60 : w.heap.size < w6.heap.size := (by omega)); (try have hx61 : w.heap.size + 1 < w6.heap.size := (by omega)); (try have hx62 : w.heap.size + 1 + 1 < w6.heap.size := (by omega)); (try have hx63 : w.heap.size + 1 + 1 + 1 < w6.heap.size := (by omega))
    go_wp2_with fail
    refine (apartD_ok _ _ _ _ _ _ _ (hb.low (by go_grown)) hv2 h2 hdd).mono ?_
    rintro e w7 ⟨rfl, hb7⟩; obtain ⟨hc7, hf7⟩ := D.bcell hb7; have hz7 := hb7.size; (try simp only [World.size_alloc, World.size_setCell, World.size_drew, Nat.add_one_le_iff] at hz7); have hB7 : Below w.heap.size w w7 := D.after (by go_grown) hb7 (by first | omega | (simp; done) | (simp; omega)); have hG7 := hb.low hB7; (try have hx70 : w.heap.size < w7.heap.size := (by omega)); (try have hx71 : w.heap.size + 1 < w7.heap.size := (by omega)); (try have hx72 : w.heap.size + 1 + 1 < w7.heap.size := (by omega)); (try have hx73 : w.heap.size + 1 + 1 + 1 < w7.heap.size := (by omega))
    go_wp2
    refine bodyPost_ret (v := .tuple #[.agg #[.int .i64 ((12 * (y' - y) + m' - m - 1) / 12), .int .i64 ((12 * (y' - y) + m' - m - 1) % 12), .int .i64 (D.num y' m' d' - D.num z.y z.m z.d), .int .i64 0, .int .i64 0, .int .i64 0], .bool true]) (by simp [results, Tryd.results10, go_sem, *]) rfl ⟨by rw [HD.out]; rfl, by go_grown⟩
  · have e : D.bn y m d y' m' d' = 12 * (y' - y) + m' - m := by rw [HD0.out]; exact if_neg hc
    rw [e] at HD hv1 hv2 hdd hb0 hb1 ⊢
    have hxx := Hx.out
    rw [hxx] at HD hv1 hv2 hdd
    clear hxx
    have hcm : D.cmp (D.num x.y x.m x.d) (D.num y' m' d') ≤ 0 := by unfold D.cmp; split <;> (try split) <;> omega
    clear e hc hv1 hv2
    have hddx : D.num x.y x.m x.d ≤ D.num y' m' d' := hdd
    go_enter Tryd.func10, Tryd.ntmps10
    go_wp2_with fail
    refine (dval_any _ _ _ _ (((hb.alloc _).alloc _).alloc _)).mono ?_
    rintro e w1 ⟨rfl, hb1⟩; obtain ⟨hc1, hf1⟩ := D.bcell hb1; have hz1 := hb1.size; (try simp only [World.size_alloc, World.size_setCell, World.size_drew, Nat.add_one_le_iff] at hz1); have hB1 : Below w.heap.size w w1 := D.after (by go_grown) hb1 (by first | omega | (simp; done) | (simp; omega)); have hG1 := hb.low hB1; (try have hx10 : w.heap.size < w1.heap.size := (by omega)); (try have hx11 : w.heap.size + 1 < w1.heap.size := (by omega)); (try have hx12 : w.heap.size + 1 + 1 < w1.heap.size := (by omega)); (try have hx13 : w.heap.size + 1 + 1 + 1 < w1.heap.size := (by omega))
    go_wp2_with fail
    refine (dval_any _ _ _ _ (by assumption)).mono ?_
    rintro e w2 ⟨rfl, hb2⟩; obtain ⟨hc2, hf2⟩ := D.bcell hb2; have hz2 := hb2.size; (try simp only [World.size_alloc, World.size_setCell, World.size_drew, Nat.add_one_le_iff] at hz2); have hB2 : Below w.heap.size w w2 := D.after (by go_grown) hb2 (by first | omega | (simp; done) | (simp; omega)); have hG2 := hb.low hB2; (try have hx20 : w.heap.size < w2.heap.size := (by omega)); (try have hx21 : w.heap.size + 1 < w2.heap.size := (by omega)); (try have hx22 : w.heap.size + 1 + 1 < w2.heap.size := (by omega)); (try have hx23 : w.heap.size + 1 + 1 + 1 < w2.heap.size := (by omega))
    go_wp2_with fail
    refine (apartD_ok _ _ _ _ _ _ _ (by assumption) h1 h2 hle).mono ?_
    rintro e w3 ⟨rfl, hb3⟩; obtain ⟨hc3, hf3⟩ := D.bcell hb3; have hz3 := hb3.size; (try simp only [World.size_alloc, World.size_setCell, World.size_drew, Nat.add_one_le_iff] at hz3); have hB3 : Below w.heap.size w w3 := D.after (by go_grown) hb3 (by first | omega | (simp; done) | (simp; omega)); have hG3 := hb.low hB3; (try have hx30 : w.heap.size < w3.heap.size := (by omega)); (try have hx31 : w.heap.size + 1 < w3.heap.size := (by omega)); (try have hx32 : w.heap.size + 1 + 1 < w3.heap.size := (by omega)); (try have hx33 : w.heap.size + 1 + 1 + 1 < w3.heap.size := (by omega))
    have hea3 : w3.cell? ⟨0, 0, none⟩ = some (.iface 86 (.pointer (some ea))) := (hB3.cell (p := ⟨0, 0, none⟩) hg0).trans hea
    go_wp2_with fail
    refine (is_nil _ _).mono ?_
    rintro e w' ⟨rfl, rfl⟩
    go_wp2_with fail
    refine (mplus_any _ _ _ _ _ (by assumption)).mono ?_
    rw [Hx.out]
    rintro e w4 ⟨rfl, hb4⟩; obtain ⟨hc4, hf4⟩ := D.bcell hb4; have hz4 := hb4.size; (try simp only [World.size_alloc, World.size_setCell, World.size_drew, Nat.add_one_le_iff] at hz4); have hB4 : Below w.heap.size w w4 := D.after (by go_grown) hb4 (by first | omega | (simp; done) | (simp; omega)); have hG4 := hb.low hB4; (try have hx40 : w.heap.size < w4.heap.size := (by omega)); (try have hx41 : w.heap.size + 1 < w4.heap.size := (by omega)); (try have hx42 : w.heap.size + 1 + 1 < w4.heap.size := (by omega)); (try have hx43 : w.heap.size + 1 + 1 + 1 < w4.heap.size := (by omega))
    go_wp2_with fail
    refine (dcompare_any _ _ _ _ _ _ _ (hG4.alloc _) hw2 h2).mono ?_
    rintro e w5 ⟨rfl, hb5⟩; obtain ⟨hc5, hf5⟩ := D.bcell hb5; have hz5 := hb5.size; (try simp only [World.size_alloc, World.size_setCell, World.size_drew, Nat.add_one_le_iff] at hz5); have hB5 : Below w.heap.size w w5 := D.after (by go_grown) hb5 (by first | omega | (simp; done) | (simp; omega)); have hG5 := hb.low hB5; (try have hx50 : w.heap.size < w5.heap.size := (by omega)); (try have hx51 : w.heap.size + 1 < w5.heap.size := (by omega)); (try have hx52 : w.heap.size + 1 + 1 < w5.heap.size := (by omega)); (try have hx53 : w.heap.size + 1 + 1 + 1 < w5.heap.size := (by omega))
    go_wp2_with fail
    refine (apartD_ok _ _ _ _ _ _ _ (by assumption) hw2 h2 hddx).mono ?_
    rintro e w6 ⟨rfl, hb6⟩; obtain ⟨hc6, hf6⟩ := D.bcell hb6; have hz6 := hb6.size; (try simp only [World.size_alloc, World.size_setCell, World.size_drew, Nat.add_one_le_iff] at hz6); have hB6 : Below w.heap.size w w6 := D.after (by go_grown) hb6 (by first | omega | (simp; done) | (simp; omega)); have hG6 := hb.low hB6; (try have hx60 : w.heap.size < w6.heap.size := (by omega)); (try have hx61 : w.heap.size + 1 < w6.heap.size := (by omega)); (try have hx62 : w.heap.size + 1 + 1 < w6.heap.size := (by omega)); (try have hx63 : w.heap.size + 1 + 1 + 1 < w6.heap.size := (by omega))
    go_wp2
    refine bodyPost_ret (v := .tuple #[.agg #[.int .i64 ((12 * (y' - y) + m' - m) / 12), .int .i64 ((12 * (y' - y) + m' - m) % 12), .int .i64 (D.num y' m' d' - D.num x.y x.m x.d), .int .i64 0, .int .i64 0, .int .i64 0], .bool true]) (by simp [results, Tryd.results10, go_sem, *]) rfl ⟨by rw [HD.out]; rfl, by go_grown⟩

set_option maxRecDepth 100000 in
set_option maxHeartbeats 1000000 in
theorem age_any (y m d y' m' d' : Int) (w : World) (hb : D.Base w) :
    Calls Tryd.prog 8 #[.agg #[.int .i64 y, .int .i64 m, .int .i64 d], .agg #[.int .i64 y', .int .i64 m', .int .i64 d']] w fun e w' => e = .returned (.int .i64 (D.age y m d y' m' d')) ∧ Below w.heap.size w w' := by
  by_cases h : D.dval y m d = true ∧ D.dval y' m' d' = true ∧ D.num y m d ≤ D.num y' m' d'
  · rw [D.age_yes h]
    go_enter Tryd.func8, Tryd.ntmps8
    go_wp2_with fail
    refine (between_yes _ _ _ _ _ _ _ ((hb.alloc _).alloc _) h.1 h.2.1 h.2.2).mono ?_
    rintro e w1 ⟨rfl, hb1⟩; obtain ⟨hc1, hf1⟩ := D.bcell hb1; have hz1 := hb1.size; (try simp only [World.size_alloc, World.size_setCell, World.size_drew, Nat.add_one_le_iff] at hz1); have hB1 : Below w.heap.size w w1 := D.after (by go_grown) hb1 (by first | omega | (simp; done) | (simp; omega)); have hG1 := hb.low hB1; (try have hx10 : w.heap.size < w1.heap.size := (by omega)); (try have hx11 : w.heap.size + 1 < w1.heap.size := (by omega)); (try have hx12 : w.heap.size + 1 + 1 < w1.heap.size := (by omega)); (try have hx13 : w.heap.size + 1 + 1 + 1 < w1.heap.size := (by omega))
    go_wp2
    go_ret
    exact ⟨by simp, by go_grown⟩
  · rw [D.age_no h]
    go_enter Tryd.func8, Tryd.ntmps8
    go_wp2_with fail
    refine (between_no _ _ _ _ _ _ _ ((hb.alloc _).alloc _) h).mono ?_
    rintro e w1 ⟨rfl, hb1⟩; obtain ⟨hc1, hf1⟩ := D.bcell hb1; have hz1 := hb1.size; (try simp only [World.size_alloc, World.size_setCell, World.size_drew, Nat.add_one_le_iff] at hz1); have hB1 : Below w.heap.size w w1 := D.after (by go_grown) hb1 (by first | omega | (simp; done) | (simp; omega)); have hG1 := hb.low hB1; (try have hx10 : w.heap.size < w1.heap.size := (by omega)); (try have hx11 : w.heap.size + 1 < w1.heap.size := (by omega)); (try have hx12 : w.heap.size + 1 + 1 < w1.heap.size := (by omega)); (try have hx13 : w.heap.size + 1 + 1 + 1 < w1.heap.size := (by omega))
    go_wp2
    go_ret
    exact ⟨by simp, by go_grown⟩

end Go.Proofs.YtbpdhehjnhefhaaDoor
