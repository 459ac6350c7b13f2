/- The walks of the laws on sorted texts. -/
import Derived.Test.YtpgbmohocfcjpaaGreatDoorDs
namespace Go.Proofs.YtpgbmohocfcjpaaGreatDoor
set_option linter.unusedVariables false
set_option linter.unusedSimpArgs false
set_option maxRecDepth 100000
set_option maxHeartbeats 2000000
namespace D
open Go.RowKit
attribute [local irreducible] Calls

theorem l_sameT (p q : Option Addr) (ca cb : Nat) (Ts : List ByteArray) (hl : Ts.length ≤ 1000000000) (w : World) (hA : sE.Rd w p Ts) (hB : sE.Rd w q Ts) (hb : D.Base w) : Calls Tryz.prog 23 #[.slice p Ts.length ca, .slice q Ts.length cb] w fun e w' => e = .returned (.bool true) ∧ Below w.heap.size w w' := by
  refine enter Tryz.func23 rfl Tryz.ntmps23 rfl (by assumption) ?_
  (repeat' (first | intro (b : Nat) | refine go ?_ | (refine br ?_ ?_ <;> first | exact trivial | intro hq)))
  refine C.loopw (Y := Nat) (fun k => [(0, .slice p Ts.length ca), (1, .slice q Ts.length cb), (4, .bool false), (5, .int .i64 (k : Int))]) (fun k => []) (fun k => k ≤ Ts.length) (fun k => Ts.length - k) 0 (Nat.zero_le _) (fun k hy => ?_)
  by_cases hlt : k < Ts.length
  · obtain ⟨b1, o1, rfl, h1⟩ := rdS hA hlt
    obtain ⟨b2, o2, rfl, h2⟩ := rdS hB hlt
    generalize Ts.getD k ⟨#[]⟩ = s at *
    (repeat' (first | intro (b : Nat) | refine go ?_ | (refine br ?_ ?_ <;> first | exact trivial | intro hq) | refine gg ?_ | (apply C.draww (id := 6) 9 [none, none, none, some _, none, none, none, some _, none])))
    all_goals first | (exfalso; omega) | (refine X.roundw (k + 1) (by omega) (by omega)) | (exact absurd rfl hq)
  · (repeat' (first | intro (b : Nat) | refine go ?_ | (refine br ?_ ?_ <;> first | exact trivial | intro hq)))
    (refine ret ?_; try exact rfl)

theorem a_tidyG (s : ByteArray) (hs : s.size ≤ 1000000000000) (hok : (stampR s).ok = true) (w : World) (hb : D.Base w) (hg : Hdl w) : Calls Tryz.prog 24 #[.string s] w fun e w' => e = .returned (.tuple #[.string (txS (stampR s)), .bool true]) ∧ Below w.heap.size w w' := by
  have h := a_StampTidy s hs w hb hg
  rw [show tdV s = .tuple #[.string (txS (stampR s)), .bool true] from if_pos hok] at h
  exact h
theorem a_read (S : SR) (hv : valS S) (w : World) (hb : D.Base w) (hg : Hdl w) : Calls Tryz.prog 25 #[.string (txS S)] w fun e w' => e = .returned (.tuple #[sa S, .bool true]) ∧ Below w.heap.size w w' := by
  have hz : (txS S).size ≤ 40 := stL_size.2
  have h := a_StampFrom (txS S) (by omega) w hb hg
  rw [show stR (txS S) (cutP (txS S)) = stampR (txS S) from rfl, txS_read hv] at h
  exact h
theorem a_tidyT (S : SR) (hv : valS S) (w : World) (hb : D.Base w) (hg : Hdl w) : Calls Tryz.prog 24 #[.string (txS S)] w fun e w' => e = .returned (.tuple #[.string (txS S), .bool true]) ∧ Below w.heap.size w w' := by
  have hz : (txS S).size ≤ 40 := stL_size.2
  have h := a_tidyG (txS S) (by omega) (txS_ok hv) w hb hg
  rw [tx_read hv] at h
  exact h

theorem asc_get {Ls : List SR} (h : Asc Ls) {i : Nat} (hi : i < Ls.length) : valS (Ls.getD i SR.no) ∧ (Ls.map (fun S => txS S)).getD i ⟨#[]⟩ = txS (Ls.getD i SR.no) := by
  have e : Ls.getD i SR.no = Ls[i] := by simp [List.getD, hi]
  rw [e]
  exact ⟨h.1 _ (List.getElem_mem hi), by simp [List.getD, hi]⟩
theorem asc_le {Ls : List SR} (h : Asc Ls) {i j : Nat} (hij : i < j) (hj : j < Ls.length) : insS (Ls.getD i SR.no) ≤ insS (Ls.getD j SR.no) := by
  have e1 : Ls.getD i SR.no = Ls[i] := by simp [List.getD, show i < Ls.length by omega]
  have e2 : Ls.getD j SR.no = Ls[j] := by simp [List.getD, hj]
  rw [e1, e2]
  exact List.pairwise_iff_getElem.1 h.2.1 i j (by omega) hj hij
theorem own_s {A1 : List ByteArray} {pad : List Value} {i : Int} (h0 : 0 ≤ i) (h1 : i < A1.length) : (flat sE.fc A1 ++ pad)[0 + i.toNat * 1]? = some (.string (A1.getD i.toNat ⟨#[]⟩)) :=
  sE.own_at (M := A1) (pad := pad) h0 h1 0 _ rfl

theorem law_FnSortTwice (a : Option Addr) (n c : Nat) (w : World) (hc : n ≤ 1048576 → CodeAt w (.slice a n c)) (hb : D.Base w) (hg : Hdl w) :
    Calls Tryz.prog 4 #[.slice a n c] w fun e w' => e = .returned (.bool true) ∧ Below w.heap.size w w' := by
  by_cases hn : n ≤ 1048576
  · refine enter Tryz.func4 rfl Tryz.ntmps4 rfl (by assumption) ?_
    (repeat' (first | intro (b : Nat) | refine go ?_ | (refine br ?_ ?_ <;> first | exact trivial | intro hq)))
    (refine L.ncall (h := by intro W hW; exact d_SortD _ W ((hc hn).keep hW.low) hW.base) (k := ?_); intro v H hR)
    obtain ⟨Ts, ⟨bl, cl, pl, rfl, rfl, hSl⟩, hlen, htx⟩ := hR
    simp only [List.cons_append, List.nil_append]
    (repeat' (first | intro (b : Nat) | refine go ?_ | (refine br ?_ ?_ <;> first | exact trivial | intro hq)))
    (refine L.ncall (h := by intro W hW; exact a_StampsSort (some ⟨bl, 0, none⟩) cl Ts (by omega) (fun s hs => by have := htx s hs; omega) W (sE.own hW (List.Mem.head _)) hW.base (hW.old hg)) (k := ?_); intro v H hR)
    obtain ⟨b1, c1, p1, rfl, rfl, hS1⟩ := hR
    simp only [List.cons_append, List.nil_append]
    (repeat' (first | intro (b : Nat) | refine go ?_ | (refine br ?_ ?_ <;> first | exact trivial | intro hq)))
    (refine L.ncall (h := by intro W hW; exact b_StampsSort (some ⟨bl, 0, none⟩) cl Ts (by omega) (fun s hs => by have := htx s hs; omega) W (sE.own hW (List.Mem.tail _ (List.Mem.head _))) hW.base) (k := ?_); intro v H hR)
    obtain ⟨b2, c2, p2, rfl, rfl, hS2⟩ := hR
    simp only [List.cons_append, List.nil_append]
    have hlO := sort_len Ts
    have hid := sort_idem Ts
    have hzO := sort_txs Ts
    generalize sortR Ts = O at *
    by_cases h0 : O.length = 0
    · (repeat' (first | intro (b : Nat) | refine go ?_ | (refine br ?_ ?_ <;> first | exact trivial | intro hq) | refine L.call (h := by intro W hW; apply l_sameT (some ⟨b1, 0, none⟩) (some ⟨b2, 0, none⟩) c1 c2 O (by omega) W (sE.own hW (List.Mem.tail _ (List.Mem.head _))) (sE.own hW (List.Mem.head _)) hW.base) (k := ?_)))
      all_goals (refine ret ?_; try exact rfl)
    · (repeat' (first | intro (b : Nat) | refine go ?_ | (refine br ?_ ?_ <;> first | exact trivial | intro hq) | refine L.call (h := by intro W hW; apply l_sameT (some ⟨b1, 0, none⟩) (some ⟨b2, 0, none⟩) c1 c2 O (by omega) W (sE.own hW (List.Mem.tail _ (List.Mem.head _))) (sE.own hW (List.Mem.head _)) hW.base) (k := ?_)))
      (refine L.ncall (h := by intro W hW; exact a_StampsSort (some ⟨b1, 0, none⟩) c1 O (by omega) (fun s hs => by have := hzO s hs; omega) W (sE.own hW (List.Mem.tail _ (List.Mem.head _))) hW.base (hW.old hg)) (k := ?_); intro v H hR)
      rw [hid] at hR
      obtain ⟨b3, c3, p3, rfl, rfl, hS3⟩ := hR
      simp only [List.cons_append, List.nil_append]
      (repeat' (first | intro (b : Nat) | refine go ?_ | (refine br ?_ ?_ <;> first | exact trivial | intro hq) | refine L.call (h := by intro W hW; apply l_sameT (some ⟨b3, 0, none⟩) (some ⟨b1, 0, none⟩) c3 c1 O (by omega) W (sE.own hW (List.Mem.head _)) (sE.own hW (List.Mem.tail _ (List.Mem.tail _ (List.Mem.head _)))) hW.base) (k := ?_)))
      all_goals (refine ret ?_; try exact rfl)
  · refine enter Tryz.func4 rfl Tryz.ntmps4 rfl (by assumption) ?_
    (repeat' (first | intro (b : Nat) | refine go ?_ | (refine br ?_ ?_ <;> first | exact trivial | intro hq)))
    (refine ret ?_; try exact rfl)

theorem law_FnSort (a : Option Addr) (n c : Nat) (w : World) (hc : n ≤ 1048576 → CodeAt w (.slice a n c)) (hb : D.Base w) (hg : Hdl w) :
    Calls Tryz.prog 6 #[.slice a n c] w fun e w' => e = .returned (.bool true) ∧ Below w.heap.size w w' := by
  by_cases hn : n ≤ 1048576
  · refine enter Tryz.func6 rfl Tryz.ntmps6 rfl (by assumption) ?_
    (repeat' (first | intro (b : Nat) | refine go ?_ | (refine br ?_ ?_ <;> first | exact trivial | intro hq)))
    (refine L.ncall (h := by intro W hW; exact d_SortD _ W ((hc hn).keep hW.low) hW.base) (k := ?_); intro v H hR)
    obtain ⟨Ts, ⟨bl, cl, pl, rfl, rfl, hSl⟩, hlen, htx⟩ := hR
    simp only [List.cons_append, List.nil_append]
    (repeat' (first | intro (b : Nat) | refine go ?_ | (refine br ?_ ?_ <;> first | exact trivial | intro hq)))
    (refine L.ncall (h := by intro W hW; exact a_StampsSort (some ⟨bl, 0, none⟩) cl Ts (by omega) (fun s hs => by have := htx s hs; omega) W (sE.own hW (List.Mem.head _)) hW.base (hW.old hg)) (k := ?_); intro v H hR)
    obtain ⟨b1, c1, p1, rfl, rfl, hS1⟩ := hR
    simp only [List.cons_append, List.nil_append]
    (repeat' (first | intro (b : Nat) | refine go ?_ | (refine br ?_ ?_ <;> first | exact trivial | intro hq)))
    (refine L.ncall (h := by intro W hW; exact b_StampsSort (some ⟨bl, 0, none⟩) cl Ts (by omega) (fun s hs => by have := htx s hs; omega) W (sE.own hW (List.Mem.tail _ (List.Mem.head _))) hW.base) (k := ?_); intro v H hR)
    obtain ⟨b2, c2, p2, rfl, rfl, hS2⟩ := hR
    simp only [List.cons_append, List.nil_append]
    have hlO := sort_len Ts
    obtain ⟨Ls, hasc, hLs⟩ := sortR_asc Ts
    generalize sortR Ts = O at *
    have hll : Ls.length = O.length := by rw [hLs, List.length_map]
    (repeat' (first | intro (b : Nat) | refine go ?_ | (refine br ?_ ?_ <;> first | exact trivial | intro hq) | refine L.call (h := by intro W hW; apply l_sameT (some ⟨b1, 0, none⟩) (some ⟨b2, 0, none⟩) c1 c2 O (by omega) W (sE.own hW (List.Mem.tail _ (List.Mem.head _))) (sE.own hW (List.Mem.head _)) hW.base) (k := ?_)))
    refine C.loopw (Y := Nat) (fun k => [(2, .bool false), (4, .slice (some ⟨b1, 0, none⟩) O.length c1), (6, .int .i64 (k : Int))]) (fun k => [(b1, sE.blk O p1)]) (fun k => k ≤ O.length) (fun k => O.length - k) 0 (Nat.zero_le _) (fun k hy => ?_)
    by_cases hlt : k < O.length
    · obtain ⟨v1, e1⟩ := asc_get hasc (i := k) (by omega)
      have g1 := own_s (A1 := O) (pad := p1) (i := (k : Int)) (by omega) (by omega)
      rw [show ((k : Int)).toNat = k by omega] at g1
      rw [show O.getD k ⟨#[]⟩ = txS (Ls.getD k SR.no) by rw [hLs]; exact e1] at g1
      have g1' : (flat sE.fc O ++ p1)[0 + ((k : Int)).toNat * 1]? = some (.string (txS (Ls.getD k SR.no))) := by rw [show ((k : Int)).toNat = k by omega]; exact g1
      clear g1
      have hF := a_read _ v1
      have hT := a_tidyT _ v1
      by_cases hk0 : k = 0
      · subst hk0
        generalize txS (Ls.getD 0 SR.no) = t at *
        generalize Ls.getD 0 SR.no = S at *
        (repeat' (first | intro (b : Nat) | refine go ?_ | (refine br ?_ ?_ <;> first | exact trivial | intro hq) | refine L.call (h := by intro W hW; first | apply hF W hW.base (hW.old hg) | apply hT W hW.base (hW.old hg)) (k := ?_)))
        all_goals first | (exfalso; omega) | (exact absurd rfl hq) | (refine X.roundw (0 + 1) (by omega) (by omega))
      · obtain ⟨v2, e2⟩ := asc_get hasc (i := k - 1) (by omega)
        have g2 := own_s (A1 := O) (pad := p1) (i := (k : Int) - 1) (by omega) (by omega)
        have eI : ((k : Int) - 1).toNat = k - 1 := by omega
        have g2' : (flat sE.fc O ++ p1)[0 + ((k : Int) - 1).toNat * 1]? = some (.string (txS (Ls.getD (k - 1) SR.no))) := by
          rw [g2, eI, show O.getD (k - 1) ⟨#[]⟩ = txS (Ls.getD (k - 1) SR.no) by rw [hLs]; exact e2]
        clear g2
        have hF2 := a_read _ v2
        have hLe := asc_le hasc (i := k - 1) (j := k) (by omega) (by omega)
        have hLt := a_StampLess _ _ v1 v2
        rw [decide_eq_false (by omega)] at hLt
        generalize txS (Ls.getD (k - 1) SR.no) = t2 at *
        generalize txS (Ls.getD k SR.no) = t at *
        generalize Ls.getD (k - 1) SR.no = S2 at *
        generalize Ls.getD k SR.no = S at *
        (repeat' (first | intro (b : Nat) | refine go ?_ | (refine br ?_ ?_ <;> first | exact trivial | intro hq) | refine L.call (h := by intro W hW; first | apply hF W hW.base (hW.old hg) | apply hT W hW.base (hW.old hg) | apply hF2 W hW.base (hW.old hg) | apply hLt W hW.base) (k := ?_)))
        all_goals first | (exfalso; omega) | (exact absurd rfl hq) | (refine X.roundw (k + 1) (by omega) (by omega))
    · (repeat' (first | intro (b : Nat) | refine go ?_ | (refine br ?_ ?_ <;> first | exact trivial | intro hq)))
      (refine ret ?_; try exact rfl)
  · refine enter Tryz.func6 rfl Tryz.ntmps6 rfl (by assumption) ?_
    (repeat' (first | intro (b : Nat) | refine go ?_ | (refine br ?_ ?_ <;> first | exact trivial | intro hq)))
    (refine ret ?_; try exact rfl)

end D
end Go.Proofs.YtpgbmohocfcjpaaGreatDoor

namespace Go.Proofs.YtpgbmohocfcjpaaGreatDoor
set_option linter.unusedVariables false
set_option linter.unusedSimpArgs false
set_option maxRecDepth 100000
set_option maxHeartbeats 2000000
namespace D
open Go.RowKit
attribute [local irreducible] Calls

def cntB (X : List ByteArray) (t : ByteArray) : Nat := X.countP fun x => decide (x = t)
theorem cnt_step {X : List ByteArray} {k : Nat} (h : k < X.length) (t : ByteArray) : cntB (X.take (k + 1)) t = cntB (X.take k) t + (if X.getD k ⟨#[]⟩ = t then 1 else 0) := by
  unfold cntB
  rw [take_snoc' h, List.countP_append, List.countP_singleton]
  by_cases hh : X.getD k ⟨#[]⟩ = t
  · rw [if_pos hh, if_pos (decide_eq_true hh)]
  · rw [if_neg hh, if_neg (by rw [decide_eq_false hh]; decide)]
theorem cnt_le (X : List ByteArray) (k : Nat) (t : ByteArray) : cntB (X.take k) t ≤ k := Nat.le_trans List.countP_le_length (by rw [List.length_take]; omega)

theorem law_FnSortAll (a : Option Addr) (n c : Nat) (w : World) (hc : n ≤ 1048576 → CodeAt w (.slice a n c)) (hb : D.Base w) (hg : Hdl w) :
    Calls Tryz.prog 5 #[.slice a n c] w fun e w' => e = .returned (.bool true) ∧ Below w.heap.size w w' := by
  by_cases hn : n ≤ 1048576
  · refine enter Tryz.func5 rfl Tryz.ntmps5 rfl (by assumption) ?_
    (repeat' (first | intro (b : Nat) | refine go ?_ | (refine br ?_ ?_ <;> first | exact trivial | intro hq)))
    (refine L.ncall (h := by intro W hW; exact d_SortD _ W ((hc hn).keep hW.low) hW.base) (k := ?_); intro v H hR)
    obtain ⟨Ts, ⟨bl, cl, pl, rfl, rfl, hSl⟩, hlen, htx⟩ := hR
    simp only [List.cons_append, List.nil_append]
    (repeat' (first | intro (b : Nat) | refine go ?_ | (refine br ?_ ?_ <;> first | exact trivial | intro hq)))
    (refine L.ncall (h := by intro W hW; exact a_StampsSort (some ⟨bl, 0, none⟩) cl Ts (by omega) (fun s hs => by have := htx s hs; omega) W (sE.own hW (List.Mem.head _)) hW.base (hW.old hg)) (k := ?_); intro v H hR)
    obtain ⟨b1, c1, p1, rfl, rfl, hS1⟩ := hR
    simp only [List.cons_append, List.nil_append]
    (repeat' (first | intro (b : Nat) | refine go ?_ | (refine br ?_ ?_ <;> first | exact trivial | intro hq)))
    (refine L.ncall (h := by intro W hW; exact b_StampsSort (some ⟨bl, 0, none⟩) cl Ts (by omega) (fun s hs => by have := htx s hs; omega) W (sE.own hW (List.Mem.tail _ (List.Mem.head _))) hW.base) (k := ?_); intro v H hR)
    obtain ⟨b2, c2, p2, rfl, rfl, hS2⟩ := hR
    simp only [List.cons_append, List.nil_append]
    have hlO := sort_len Ts
    have hokP : ¬ sortR Ts = [] → (∀ s ∈ Ts, (stampR s).ok = true) ∧ (sortR Ts).Perm (Ts.map (fun s => txS (stampR s))) := fun h => ⟨(sort_ok h).2, sort_perm (sort_ok h)⟩
    generalize sortR Ts = O at *
    by_cases h0 : O.length = 0
    · (repeat' (first | intro (b : Nat) | refine go ?_ | (refine br ?_ ?_ <;> first | exact trivial | intro hq) | refine L.call (h := by intro W hW; apply l_sameT (some ⟨b1, 0, none⟩) (some ⟨b2, 0, none⟩) c1 c2 O (by omega) W (sE.own hW (List.Mem.tail _ (List.Mem.head _))) (sE.own hW (List.Mem.head _)) hW.base) (k := ?_)))
      all_goals (refine ret ?_; try exact rfl)
    · obtain ⟨hok, hperm⟩ := hokP (fun h => h0 (by rw [h]; rfl))
      have hgF : ∀ k, k < Ts.length → (Ts.map (fun s => txS (stampR s))).getD k ⟨#[]⟩ = txS (stampR (Ts.getD k ⟨#[]⟩)) := fun k hk => by simp [List.getD, hk]
      have hFl : (Ts.map (fun s => txS (stampR s))).length = Ts.length := List.length_map _
      have hOl : O.length = Ts.length := by rw [hperm.length_eq, hFl]
      have hcnt : ∀ t, cntB O t = cntB (Ts.map (fun s => txS (stampR s))) t := fun t => hperm.countP_eq _
      generalize Ts.map (fun s => txS (stampR s)) = Fs at *
      (repeat' (first | intro (b : Nat) | refine go ?_ | (refine br ?_ ?_ <;> first | exact trivial | intro hq) | refine L.call (h := by intro W hW; apply l_sameT (some ⟨b1, 0, none⟩) (some ⟨b2, 0, none⟩) c1 c2 O (by omega) W (sE.own hW (List.Mem.tail _ (List.Mem.head _))) (sE.own hW (List.Mem.head _)) hW.base) (k := ?_)))
      refine C.loopw (Y := Nat) (fun k => [(2, .bool false), (3, .slice (some ⟨bl, 0, none⟩) Ts.length cl), (4, .slice (some ⟨b1, 0, none⟩) O.length c1), (6, .int .i64 (k : Int))]) (fun k => [(b1, sE.blk O p1), (bl, sE.blk Ts pl)]) (fun k => k ≤ Ts.length) (fun k => Ts.length - k) 0 (Nat.zero_le _) (fun k hy => ?_)
      by_cases hlt : k < Ts.length
      · have hmk := getD_mem' hlt
        have hT := a_tidyG (Ts.getD k ⟨#[]⟩) (by have := htx _ hmk; omega) (hok _ hmk)
        have g1 := own_s (A1 := Ts) (pad := pl) (i := (k : Int)) (by omega) (by omega)
        rw [show Ts.getD ((k : Int)).toNat ⟨#[]⟩ = Ts.getD k ⟨#[]⟩ by rw [show ((k : Int)).toNat = k by omega]] at g1
        generalize txS (stampR (Ts.getD k ⟨#[]⟩)) = t at hT
        generalize Ts.getD k ⟨#[]⟩ = sk at hT g1
        (repeat' (first | intro (b : Nat) | refine go ?_ | (refine br ?_ ?_ <;> first | exact trivial | intro hq) | refine L.call (h := by intro W hW; apply hT W hW.base (hW.old hg)) (k := ?_)))
        clear hT g1 hmk
        refine C.loopw (Y := Nat) (fun j => [(2, .bool false), (3, .slice (some ⟨bl, 0, none⟩) Ts.length cl), (4, .slice (some ⟨b1, 0, none⟩) O.length c1), (6, .int .i64 (k : Int)), (7, .string t), (9, .int .i64 ((cntB (Fs.take j) t : Nat) : Int)), (10, .int .i64 (j : Int))]) (fun j => [(b1, sE.blk O p1), (bl, sE.blk Ts pl)]) (fun j => j ≤ Ts.length) (fun j => Ts.length - j) 0 (Nat.zero_le _) (fun j hj => ?_)
        have hcl := cnt_le Fs j t
        by_cases hjl : j < Ts.length
        · have hmj := getD_mem' hjl
          have hT := a_tidyG (Ts.getD j ⟨#[]⟩) (by have := htx _ hmj; omega) (hok _ hmj)
          have g1 := own_s (A1 := Ts) (pad := pl) (i := (j : Int)) (by omega) (by omega)
          rw [show Ts.getD ((j : Int)).toNat ⟨#[]⟩ = Ts.getD j ⟨#[]⟩ by rw [show ((j : Int)).toNat = j by omega]] at g1
          have hst := cnt_step (X := Fs) (k := j) (by omega) t
          rw [hgF j hjl] at hst
          generalize txS (stampR (Ts.getD j ⟨#[]⟩)) = u at hT hst
          generalize Ts.getD j ⟨#[]⟩ = sj at hT g1
          clear hmj
          by_cases hu : u = t
          · subst hu
            rw [if_pos rfl] at hst
            (repeat' (first | intro (b : Nat) | refine go ?_ | (refine br ?_ ?_ <;> first | exact trivial | intro hq) | refine L.call (h := by intro W hW; apply hT W hW.base (hW.old hg)) (k := ?_)))
            all_goals first | (exact absurd rfl hq) | (refine X.roundw (j + 1) (by omega) (by omega))
          · rw [if_neg hu] at hst
            (repeat' (first | intro (b : Nat) | refine go ?_ | (refine br ?_ ?_ <;> first | exact trivial | intro hq) | refine L.call (h := by intro W hW; apply hT W hW.base (hW.old hg)) (k := ?_)))
            all_goals first | (exact absurd hq hu) | (refine X.roundw (j + 1) (by omega) (by omega))
        · obtain rfl : j = Ts.length := by omega
          have eF : cntB (Fs.take Ts.length) t = cntB Fs t := by rw [← hFl, List.take_length]
          (repeat' (first | intro (b : Nat) | refine go ?_ | (refine br ?_ ?_ <;> first | exact trivial | intro hq)))
          refine C.loopw (Y := Nat) (fun m => [(2, .bool false), (3, .slice (some ⟨bl, 0, none⟩) Ts.length cl), (4, .slice (some ⟨b1, 0, none⟩) O.length c1), (6, .int .i64 (k : Int)), (7, .string t), (9, .int .i64 (((cntB Fs t : Nat) : Int) - ((cntB (O.take m) t : Nat) : Int))), (13, .int .i64 (m : Int))]) (fun m => [(b1, sE.blk O p1), (bl, sE.blk Ts pl)]) (fun m => m ≤ O.length) (fun m => O.length - m) 0 (Nat.zero_le _) (h1 := by have e0 : cntB (O.take 0) t = 0 := rfl; (repeat (first | exact Sub.nil | (apply Sub.cons; exact rfl; (· first | with_reducible rfl | exact congrArg (Value.int IntKind.i64) (by omega) | rfl))))) (fun m hm => ?_)
          have hcm := cnt_le O m t
          by_cases hml : m < O.length
          · have g1 := own_s (A1 := O) (pad := p1) (i := (m : Int)) (by omega) (by omega)
            rw [show O.getD ((m : Int)).toNat ⟨#[]⟩ = O.getD m ⟨#[]⟩ by rw [show ((m : Int)).toNat = m by omega]] at g1
            have hst := cnt_step (X := O) (k := m) hml t
            generalize O.getD m ⟨#[]⟩ = u at hst g1
            by_cases hu : u = t
            · subst hu
              rw [if_pos rfl] at hst
              (repeat' (first | intro (b : Nat) | refine go ?_ | (refine br ?_ ?_ <;> first | exact trivial | intro hq)))
              all_goals first | (exact absurd rfl hq) | (refine X.roundw (m + 1) (by omega) (by omega))
            · rw [if_neg hu] at hst
              (repeat' (first | intro (b : Nat) | refine go ?_ | (refine br ?_ ?_ <;> first | exact trivial | intro hq)))
              all_goals first | (exact absurd hq hu) | (refine X.roundw (m + 1) (by omega) (by omega))
          · obtain rfl : m = O.length := by omega
            have eO : cntB (O.take O.length) t = cntB Fs t := by rw [List.take_length, hcnt t]
            (repeat' (first | intro (b : Nat) | refine go ?_ | (refine br ?_ ?_ <;> first | exact trivial | intro hq)))
            all_goals first | (exfalso; omega) | (refine X.roundw (k + 1) (by omega) (by omega))
      · (repeat' (first | intro (b : Nat) | refine go ?_ | (refine br ?_ ?_ <;> first | exact trivial | intro hq)))
        (refine ret ?_; try exact rfl)
        simp [tupleOf]
        omega
  · refine enter Tryz.func5 rfl Tryz.ntmps5 rfl (by assumption) ?_
    (repeat' (first | intro (b : Nat) | refine go ?_ | (refine br ?_ ?_ <;> first | exact trivial | intro hq)))
    (refine ret ?_; try exact rfl)

end D
end Go.Proofs.YtpgbmohocfcjpaaGreatDoor
