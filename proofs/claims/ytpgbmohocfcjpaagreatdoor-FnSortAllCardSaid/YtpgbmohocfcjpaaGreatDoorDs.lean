/- Walks: lists of stamps' texts that are drawn. -/
import Derived.Test.YtpgbmohocfcjpaaGreatDoorHs
namespace Go.Proofs.YtpgbmohocfcjpaaGreatDoor
set_option linter.unusedVariables false
set_option linter.unusedSimpArgs false
set_option maxRecDepth 100000
set_option maxHeartbeats 2000000
namespace D
open Go.RowKit
attribute [local irreducible] Calls

theorem b_Turn (y m d h i s k o : Int) (hv : sval y m d h i s k o = true) (off : Int) (w : World) (hb : D.Base w) : Calls Tryz.prog 57 #[.agg #[.int .i64 y, .int .i64 m, .int .i64 d, .int .i64 h, .int .i64 i, .int .i64 s, .int .i64 k, .int .i64 o], .int .i64 off] w fun e w' => e = .returned (srV (stampAt (inst y m d h i s k o) off)) ∧ Below w.heap.size w w' := by
  have h1 := b_StampValid y m d h i s k o
  rw [hv] at h1
  have h2 := b_l12 _ _ _ _ _ _ _ _ hv
  have h3 := b_StampAt (inst y m d h i s k o) off
  unfold srV at h3 ⊢
  generalize inst y m d h i s k o = n at *
  generalize stampAt n off = S at *
  refine enter Tryz.func57 rfl Tryz.ntmps57 rfl (by assumption) ?_
  (repeat' (first | intro (b : Nat) | refine go ?_ | (refine br ?_ ?_ <;> first | exact trivial | intro hq) | refine L.call (h := by intro W hW; first | apply h1 W hW.base | apply h2 W hW.base | apply h3 W hW.base) (k := ?_)))
  (refine ret ?_; try exact rfl)

def TurnV (v : Value) : Prop := ∃ S : SR, v = srV S ∧ (S.ok = true → valS S)
theorem b_TurnV (y m d h i s k o : Int) (hv : sval y m d h i s k o = true) (off : Int) (w : World) (hb : D.Base w) : Calls Tryz.prog 57 #[.agg #[.int .i64 y, .int .i64 m, .int .i64 d, .int .i64 h, .int .i64 i, .int .i64 s, .int .i64 k, .int .i64 o], .int .i64 off] w (RetV w TurnV) :=
  Calls.mono (b_Turn y m d h i s k o hv off w hb) fun e w' ⟨he, hB⟩ => ⟨_, he, ⟨_, rfl, fun hh => by
    obtain ⟨z1, z2, z3, z4, z5, z6, z7, e1, e2, _⟩ := stampAt_ok hh
    rw [e1]
    exact e2⟩, hB⟩

def Txs (A : List ByteArray) : Prop := ∀ s ∈ A, s.size ≤ 1000
theorem Txs.nil : Txs [] := fun s hs => by cases hs
theorem Txs.snoc {A : List ByteArray} (h : Txs A) {t : ByteArray} (ht : t.size ≤ 1000) : Txs (A ++ [t]) := fun s hs => by
  rcases List.mem_append.1 hs with hs | hs
  · exact h s hs
  · rw [List.mem_singleton.1 hs]; exact ht
def SomeTexts (v : Value) (H : SH) : Prop := ∃ A : List ByteArray, sE.S A v H ∧ A.length ≤ 100 ∧ Txs A

theorem d_SortD (s0 : Value) (w : World) (hc0 : CodeAt w s0) (hb : D.Base w) : Calls Tryz.prog 22 #[s0] w (Ret w SomeTexts) := by
  refine enter Tryz.func22 rfl Tryz.ntmps22 rfl (by assumption) ?_
  (repeat (first | intro (b : Nat) | refine go ?_))
  (refine L.ncall (h := by intro W hW; exact d_open w s0 hc0 W hW.base) (k := ?_); intro v H hR)
  obtain ⟨r, s, rfl, rfl, hc⟩ := hR
  simp only [List.cons_append, List.nil_append]
  (repeat (first | intro (b : Nat) | refine go ?_))
  (refine L.lcall (bs := rb s) (h := by intro W hW; exact d_pick1 _ _ _ _ _ _ hc (by omega) (by omega) (by omega) W hW) (k := ?_); intro v q1 hR hq1 hq2; obtain ⟨n1, rfl, hn0, hn1⟩ := hR)
  (repeat (first | intro (b : Nat) | refine go ?_))
  (refine L.lcall (bs := rb s) (h := by intro W hW; exact d_pick1 _ _ _ _ _ _ hc (by omega) (by omega) (by omega) W hW) (k := ?_); intro v q2 hR hq3 hq4; obtain ⟨n2, rfl, hn2, hn3⟩ := hR)
  (repeat' (first | intro (b : Nat) | refine go ?_ | (refine br ?_ ?_ <;> first | exact trivial | intro hq)))
  case' refine_1 =>
    (refine L.lcall (bs := rb s) (h := by intro W hW; exact d_pick1 _ _ _ _ _ _ hc (by omega) (by omega) (by omega) W hW) (k := ?_); intro v q3 hR hq5 hq6; obtain ⟨n3, rfl, hn4, hn5⟩ := hR)
    (repeat' (first | intro (b : Nat) | refine go ?_ | (refine br ?_ ?_ <;> first | exact trivial | intro hq)))
    have hN : 0 ≤ 20 + n3 ∧ 20 + n3 ≤ 21 := by omega
    have hQ : 0 ≤ q3 ∧ q3 ≤ 10 := by omega
    clear hn0 hn1 hn2 hn3 hn4 hn5 hq1 hq2 hq3 hq4 hq5 hq6
    generalize 20 + n3 = N at *
    generalize q3 = q at *
  case' refine_2 =>
    have hN : 0 ≤ n1 ∧ n1 ≤ 21 := by omega
    have hQ : 0 ≤ q2 ∧ q2 ≤ 10 := by omega
    clear hn0 hn1 hn2 hn3 hq1 hq2 hq3 hq4
    generalize n1 = N at *
    generalize q2 = q at *
  all_goals (
    refine C.loopw (Y := Nat × List ByteArray × Nat × Nat × List Value × Int) (fun k => [(2, .slice none 0 0), (3, .pointer (some ⟨r, 0, none⟩)), (4, .slice (some ⟨k.2.2.1, 0, none⟩) k.2.1.length k.2.2.2.1), (5, .int .i64 N), (6, .int .i64 (k.1 : Int))])
      (fun k => (r, rb s k.2.2.2.2.2) :: (k.2.2.1, sE.blk k.2.1 k.2.2.2.2.1) :: [])
      (fun k => k.1 ≤ 21 ∧ (k.1 : Int) ≤ N ∧ Txs k.2.1 ∧ k.2.1.length ≤ 2 * k.1 ∧ sE.Sf k.2.1 k.2.2.2.1 k.2.2.2.2.1 ∧ 0 ≤ k.2.2.2.2.2 ∧ k.2.2.2.2.2 ≤ 10 + 1000 * (k.1 : Int)) (fun k => N.toNat - k.1) (0, [], b, 0, [], q)
      ⟨Nat.zero_le _, by show ((0 : Nat) : Int) ≤ N; omega, Txs.nil, Nat.le_refl _, El.Sf.nil sE, hQ.1, by show q ≤ 10 + 1000 * ((0 : Nat) : Int); omega⟩ (fun k hy => ?_)
    generalize k.2.2.2.2.2 = p at *
    generalize k.2.2.2.2.1 = po at *
    generalize k.2.2.2.1 = co at *
    generalize k.2.2.1 = bo at *
    generalize k.2.1 = A1 at *
    generalize k.1 = i at *
    obtain ⟨g1, g2, g3, g4, g5, g6, g7⟩ := hy
    by_cases hlt : (i : Int) < N
    · (repeat' (first | intro (b : Nat) | refine go ?_ | (refine br ?_ ?_ <;> first | exact trivial | intro hq)))
      (refine L.lcall (bs := rb s) (h := by intro W hW; exact d_sound _ _ _ _ _ hc (by omega) (by omega) W hW) (k := ?_); intro v p1 hR hp1 hp2)
      obtain ⟨y, mo, d, h, i', s', k', o, rfl, hv⟩ := hR
      have hz := stL_size (y := y) (m := mo) (d := d) (h := h) (i := i') (s := s') (k := k') (o := o)
      have hT := b_l13Text y mo d h i' s' k' o hv
      have hTu := b_TurnV y mo d h i' s' k' o hv
      generalize strOfNums (stL y mo d h i' s' k' o) = t at *
      (repeat (first | intro (b : Nat) | refine go ?_))
      (refine L.call (h := by intro W hW; exact hT W hW.base) (k := ?_))
      (repeat (first | intro (b : Nat) | refine go ?_))
      refine L.gapp sE g5 (hb := by omega) (hb2 := by omega) (kk := fun b' c' pad' hS' => ?_)
      rw [show A1.length + 1 = (A1 ++ [t]).length by simp]
      (repeat (first | intro (b : Nat) | refine go ?_))
      ((repeat (refine C.seq ?_)); apply C.drawlw (rb s) 4 40 8 [some _, none, some _, some _, none, none, none, some _])
      (repeat (first | intro (b : Nat) | refine gg ?_))
      (refine G.lcall (h := by intro p F W hlo hhi hW; exact d_offset _ _ _ _ _ hc (by omega) (by omega) W hW) (k := ?_); intro v hR; obtain ⟨off, rfl, ho0, ho1⟩ := hR)
      (repeat (first | intro (b : Nat) | refine gg ?_))
      (refine G.vcall (by exact rfl) (by exact rfl) (by exact rfl) (h := by intro W hW; exact hTu off W hW.base) (k := ?_))
      rintro v ⟨S2, rfl, hval⟩
      unfold srV
      (repeat (first | intro (b : Nat) | refine gg ?_))
      intro p2 hp3 hp4
      (repeat (first | intro (b : Nat) | refine go ?_))
      cases oS : S2.ok with
      | false =>
        (repeat' (first | intro (b : Nat) | refine go ?_ | (refine br ?_ ?_ <;> first | exact trivial | intro hq)))
        (refine X.roundw (i + 1, A1 ++ [t], b', c', pad', p2) ⟨by show i + 1 ≤ 21; omega, by show ((i + 1 : Nat) : Int) ≤ N; omega, g3.snoc (by omega), by show (A1 ++ [t]).length ≤ 2 * (i + 1); rw [List.length_append, List.length_singleton]; omega, hS', by show 0 ≤ p2; omega, by show p2 ≤ 10 + 1000 * ((i + 1 : Nat) : Int); omega⟩ (by show N.toNat - (i + 1) < N.toNat - i; omega))
      | true =>
        have hv2 := hval oS
        have hT2 := b_l13Text S2.y S2.m S2.d S2.h S2.i S2.s S2.k S2.o hv2
        have hz2 := stL_size (y := S2.y) (m := S2.m) (d := S2.d) (h := S2.h) (i := S2.i) (s := S2.s) (k := S2.k) (o := S2.o)
        generalize strOfNums (stL S2.y S2.m S2.d S2.h S2.i S2.s S2.k S2.o) = t2 at *
        (repeat' (first | intro (b : Nat) | refine go ?_ | (refine br ?_ ?_ <;> first | exact trivial | intro hq)))
        (refine L.lcall (bs := rb s) (h := by intro W hW; exact d_pick1 _ _ _ _ _ _ hc (by omega) (by omega) (by omega) W hW) (k := ?_); intro v p3 hR hp5 hp6; obtain ⟨n5, rfl, hn6, hn7⟩ := hR)
        (repeat' (first | intro (b : Nat) | refine go ?_ | (refine br ?_ ?_ <;> first | exact trivial | intro hq)))
        · (refine L.call (h := by intro W hW; exact hT2 W hW.base) (k := ?_))
          (repeat (first | intro (b : Nat) | refine go ?_))
          refine L.gapp sE hS' (hb := by rw [List.length_append, List.length_singleton]; omega) (hb2 := by rw [List.length_append, List.length_singleton]; omega) (kk := fun b2 c2 pad2 hS2 => ?_)
          rw [show (A1 ++ [t]).length + 1 = (A1 ++ [t] ++ [t2]).length by simp]
          (repeat' (first | intro (b : Nat) | refine go ?_ | (refine br ?_ ?_ <;> first | exact trivial | intro hq)))
          refine X.perm' (Pull.perm (x := (r, rb s p3)) (by (repeat (first | exact Pull.here | apply Pull.there)))) ?_
          (refine X.roundw (i + 1, A1 ++ [t] ++ [t2], b2, c2, pad2, p3) ⟨by show i + 1 ≤ 21; omega, by show ((i + 1 : Nat) : Int) ≤ N; omega, (g3.snoc (by omega)).snoc (by omega), by show (A1 ++ [t] ++ [t2]).length ≤ 2 * (i + 1); simp only [List.length_append, List.length_singleton]; omega, hS2, by show 0 ≤ p3; omega, by show p3 ≤ 10 + 1000 * ((i + 1 : Nat) : Int); omega⟩ (by show N.toNat - (i + 1) < N.toNat - i; omega))
        · (refine X.roundw (i + 1, A1 ++ [t], b', c', pad', p3) ⟨by show i + 1 ≤ 21; omega, by show ((i + 1 : Nat) : Int) ≤ N; omega, g3.snoc (by omega), by show (A1 ++ [t]).length ≤ 2 * (i + 1); rw [List.length_append, List.length_singleton]; omega, hS', by show 0 ≤ p3; omega, by show p3 ≤ 10 + 1000 * ((i + 1 : Nat) : Int); omega⟩ (by show N.toNat - (i + 1) < N.toNat - i; omega))
    · (repeat' (first | intro (b : Nat) | refine go ?_ | (refine br ?_ ?_ <;> first | exact trivial | intro hq)))
      (refine L.lcall (bs := rb s) (h := by intro W hW; exact d_pick1 _ _ _ _ _ _ hc (by omega) (by omega) (by omega) W hW) (k := ?_); intro v p3 hR hp5 hp6; obtain ⟨n5, rfl, hn6, hn7⟩ := hR)
      (repeat' (first | intro (b : Nat) | refine go ?_ | (refine br ?_ ?_ <;> first | exact trivial | intro hq)))
      · (refine L.lcall (bs := rb s) (h := by intro W hW; exact d_StampTextT _ _ _ _ _ hc (by omega) (by omega) W hW) (k := ?_); intro v p1 hR hp1 hp2)
        obtain ⟨u, rfl, hu⟩ := hR
        (repeat (first | intro (b : Nat) | refine go ?_))
        refine L.gapp sE g5 (hb := by omega) (hb2 := by omega) (kk := fun b2 c2 pad2 hS2 => ?_)
        rw [show A1.length + 1 = (A1 ++ [u]).length by simp]
        (repeat' (first | intro (b : Nat) | refine go ?_ | (refine br ?_ ?_ <;> first | exact trivial | intro hq)))
        (apply X.retr [(b2, sE.blk (A1 ++ [u]) pad2)]; (· exact rfl); (· (repeat (first | exact RVs.nil | (apply RVs.cons; (· first | exact RV.tmp rfl | (apply RV.cellk; exact rfl; (· (repeat (first | exact List.Mem.head _ | apply List.Mem.tail))); (· (repeat (first | exact Rd.nil | apply Rd.take | apply Rd.skip)))) | (apply RV.cell1; exact rfl; (· (repeat (first | exact List.Mem.head _ | apply List.Mem.tail))); (· (repeat (first | exact Rd.nil | apply Rd.take | apply Rd.skip))))))))); (· (repeat (first | exact SubH.nil | (apply SubH.cons; (· first | with_reducible rfl | (simp only [List.cons.injEq, Value.int.injEq, and_true, true_and] <;> omega) | rfl)) | apply SubH.skip | exact SubH.refl))))
        exact ⟨A1 ++ [u], ⟨b2, c2, pad2, rfl, rfl, hS2⟩, by rw [List.length_append, List.length_singleton]; omega, g3.snoc (by omega)⟩
      · (apply X.retr [(bo, sE.blk A1 po)]; (· exact rfl); (· (repeat (first | exact RVs.nil | (apply RVs.cons; (· first | exact RV.tmp rfl | (apply RV.cellk; exact rfl; (· (repeat (first | exact List.Mem.head _ | apply List.Mem.tail))); (· (repeat (first | exact Rd.nil | apply Rd.take | apply Rd.skip)))) | (apply RV.cell1; exact rfl; (· (repeat (first | exact List.Mem.head _ | apply List.Mem.tail))); (· (repeat (first | exact Rd.nil | apply Rd.take | apply Rd.skip))))))))); (· (repeat (first | exact SubH.nil | (apply SubH.cons; (· first | with_reducible rfl | (simp only [List.cons.injEq, Value.int.injEq, and_true, true_and] <;> omega) | rfl)) | apply SubH.skip | exact SubH.refl))))
        exact ⟨A1, ⟨bo, co, po, rfl, rfl, g5⟩, by omega, g3⟩)

end D
end Go.Proofs.YtpgbmohocfcjpaaGreatDoor

namespace Go.Proofs.YtpgbmohocfcjpaaGreatDoor
set_option linter.unusedVariables false
set_option linter.unusedSimpArgs false
set_option maxRecDepth 100000
set_option maxHeartbeats 1000000
namespace D
open Go.RowKit

theorem odsF_map : ∀ (k : Nat) (A : List ByteArray), (odsF k A).map txO = A.map (fun s => txS (stampR s))
  | _, [] => rfl
  | k, s :: r => by
    simp only [odsF, List.map_cons]
    rw [odsF_map (k + 1) r]
    rfl
/-- Texts of valid stamps whose instants ascend. -/
def Asc (Ls : List SR) : Prop := (∀ S ∈ Ls, valS S) ∧ Ls.Pairwise (fun S T => insS S ≤ insS T) ∧ Ls.length ≤ 20
theorem sortR_asc (A : List ByteArray) : ∃ Ls : List SR, Asc Ls ∧ sortR A = Ls.map (fun S => txS S) := by
  by_cases h : allOk A
  · refine ⟨(refL (odsF 0 A)).map (fun x => x.1), ⟨fun S hS => ?_, ?_, ?_⟩, ?_⟩
    · obtain ⟨x, hx, rfl⟩ := List.mem_map.1 hS
      exact (ods_val h.2 x ((refL_perm _).mem_iff.1 hx)).1
    · refine List.pairwise_map.2 ((refL_sorted A h.1).imp_of_mem fun {x y} hx hy hxy => ?_)
      have h1 := (refL_perm _).mem_iff.1 hx
      have h2 := (refL_perm _).mem_iff.1 hy
      have p1 := odsF_place 0 A x h1
      have p2 := odsF_place 0 A y h2
      have hl := h.1
      have e := (oK_le (x := x) (y := y) (by omega) (by omega)).1 hxy
      rw [← (ods_val h.2 x h1).2, ← (ods_val h.2 y h2).2]
      omega
    · rw [List.length_map, (refL_perm _).length_eq, odsF_len]
      exact h.1
    · rw [List.map_map]
      exact if_pos h
  · exact ⟨[], ⟨fun S hS => absurd hS List.not_mem_nil, List.Pairwise.nil, Nat.zero_le _⟩, if_neg h⟩
theorem ins_read {S : SR} (h : valS S) : insS (stampR (txS S)) = insS S := by
  rw [txS_read h]
  rfl
theorem tx_read {S : SR} (h : valS S) : txS (stampR (txS S)) = txS S := by
  rw [txS_read h]
theorem odsF_asc : ∀ (Ls : List SR) (k : Nat), (∀ S ∈ Ls, valS S) → Ls.Pairwise (fun S T => insS S ≤ insS T) → k + Ls.length ≤ 50 → (odsF k (Ls.map (fun S => txS S))).Pairwise (fun a b => oK a ≤ oK b)
  | [], _, _, _, _ => .nil
  | S :: r, k, hv, hp, hk => by
    obtain ⟨p1, p2⟩ := List.pairwise_cons.1 hp
    simp only [List.length_cons] at hk
    simp only [List.map_cons, odsF]
    refine List.pairwise_cons.2 ⟨fun y hy => ?_, odsF_asc r (k + 1) (fun T hT => hv T (List.mem_cons_of_mem _ hT)) p2 (by omega)⟩
    have h1 := odsF_place (k + 1) _ y hy
    rw [List.length_map] at h1
    obtain ⟨t, ht, h2, h3⟩ := odsF_mem (k + 1) _ y hy
    obtain ⟨T, hT, rfl⟩ := List.mem_map.1 ht
    rw [ins_read (hv T (List.mem_cons_of_mem _ hT))] at h3
    have h4 := p1 T hT
    have h5 := ins_read (hv S List.mem_cons_self)
    have : oK (odO (txS S) k) = insS S * 100 + (k : Int) := by
      show insS (stampR (txS S)) * 100 + (k : Int) = _
      rw [h5]
    rw [this]
    unfold oK
    rw [h3]
    omega
theorem asc_idem {Ls : List SR} (h : Asc Ls) : sortR (Ls.map (fun S => txS S)) = Ls.map (fun S => txS S) := by
  obtain ⟨hv, hp, hl⟩ := h
  have ho : allOk (Ls.map (fun S => txS S)) := ⟨by rw [List.length_map]; exact hl, fun s hs => by
    obtain ⟨S, hS, rfl⟩ := List.mem_map.1 hs
    exact txS_ok (hv S hS)⟩
  have e := refL_eq ho.1 (List.Perm.refl (odsF 0 (Ls.map (fun S => txS S)))) (odsF_asc Ls 0 hv hp (by omega))
  unfold sortR
  rw [if_pos ho, ← e, odsF_map, List.map_map]
  refine List.map_congr_left fun S hS => ?_
  exact tx_read (hv S hS)
theorem sort_idem (A : List ByteArray) : sortR (sortR A) = sortR A := by
  obtain ⟨Ls, h, e⟩ := sortR_asc A
  rw [e]
  exact asc_idem h
theorem sort_perm {A : List ByteArray} (h : allOk A) : (sortR A).Perm (A.map (fun s => txS (stampR s))) := by
  unfold sortR
  rw [if_pos h, ← odsF_map 0 A]
  exact (refL_perm _).map _
theorem sort_len (A : List ByteArray) : (sortR A).length ≤ 20 := by
  obtain ⟨Ls, h, e⟩ := sortR_asc A
  rw [e, List.length_map]
  exact h.2.2
theorem sort_txs (A : List ByteArray) : ∀ t ∈ sortR A, t.size ≤ 40 := fun t ht => by
  obtain ⟨Ls, h, e⟩ := sortR_asc A
  rw [e] at ht
  obtain ⟨S, hS, rfl⟩ := List.mem_map.1 ht
  exact stL_size.2
theorem sort_ok {A : List ByteArray} (h : ¬ sortR A = []) : allOk A := Classical.byContradiction fun hh => h (if_neg hh)

end D
end Go.Proofs.YtpgbmohocfcjpaaGreatDoor
