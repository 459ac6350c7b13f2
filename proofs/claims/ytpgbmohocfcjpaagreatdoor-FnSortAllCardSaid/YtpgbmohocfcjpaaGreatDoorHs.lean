/- Plain laws: stamps in the order of their instants. -/
import Derived.Test.YtpgbmohocfcjpaaGreatDoorHp
import Derived.Test.YtpgbmohocfcjpaaGreatDoorQr
import Derived.Test.YtpgbmohocfcjpaaGreatDoorEy
namespace Go.Proofs.YtpgbmohocfcjpaaGreatDoor
set_option linter.unusedVariables false
set_option linter.unusedSimpArgs false
set_option maxRecDepth 100000
set_option maxHeartbeats 1000000
namespace D
open Go.RowKit
open Go.PlainAid (bt bt_nonneg bt_le bt_end)

/-- A text's stamp with its instant and its place. -/
noncomputable def odO (s : ByteArray) (i : Nat) : Od := (stampR s, insS (stampR s), (i : Int))
noncomputable def odsF : Nat → List ByteArray → List Od
  | _, [] => []
  | k, s :: r => odO s k :: odsF (k + 1) r
theorem odsF_len : ∀ (k : Nat) (A : List ByteArray), (odsF k A).length = A.length
  | _, [] => rfl
  | k, s :: r => by simp [odsF, odsF_len (k + 1) r]
theorem odsF_snoc : ∀ (k : Nat) (A : List ByteArray) (s : ByteArray), odsF k (A ++ [s]) = odsF k A ++ [odO s (k + A.length)]
  | k, [], s => by simp [odsF]
  | k, a :: r, s => by
    simp only [List.cons_append, odsF, List.cons_append, List.length_cons]
    rw [odsF_snoc (k + 1) r s, show k + 1 + r.length = k + (r.length + 1) by omega]
theorem odsF_place : ∀ (k : Nat) (A : List ByteArray), ∀ x ∈ odsF k A, (k : Int) ≤ x.2.2 ∧ x.2.2 < (k : Int) + (A.length : Int)
  | _, [], x, h => by simp [odsF] at h
  | k, s :: r, x, h => by
    simp only [odsF, List.mem_cons] at h
    rcases h with rfl | h
    · simp only [odO, List.length_cons]; omega
    · have := odsF_place (k + 1) r x h
      simp only [List.length_cons]
      omega
theorem odsF_inj : ∀ (k : Nat) (A : List ByteArray), ∀ x ∈ odsF k A, ∀ y ∈ odsF k A, x.2.2 = y.2.2 → x = y
  | _, [], x, h, _, _, _ => by simp [odsF] at h
  | k, s :: r, x, h, y, h2, e => by
    simp only [odsF, List.mem_cons] at h h2
    rcases h with rfl | h <;> rcases h2 with rfl | h2
    · rfl
    · have := odsF_place (k + 1) r y h2
      simp only [odO] at e
      omega
    · have := odsF_place (k + 1) r x h
      simp only [odO] at e
      omega
    · exact odsF_inj (k + 1) r x h y h2 e
theorem odsF_mem : ∀ (k : Nat) (A : List ByteArray), ∀ x ∈ odsF k A, ∃ s ∈ A, x.1 = stampR s ∧ x.2.1 = insS (stampR s)
  | _, [], x, h => by simp [odsF] at h
  | k, s :: r, x, h => by
    simp only [odsF, List.mem_cons] at h
    rcases h with rfl | h
    · exact ⟨s, List.mem_cons_self, rfl, rfl⟩
    · obtain ⟨t, ht, h1⟩ := odsF_mem (k + 1) r x h
      exact ⟨t, List.mem_cons_of_mem _ ht, h1⟩
theorem odsF_pl {A : List ByteArray} (h : A.length ≤ 20) : Pl (odsF 0 A) := fun x hx => by
  have := odsF_place 0 A x hx
  omega

/-- One more, behind those that are not later. -/
def insO (x : Od) : List Od → List Od
  | [] => [x]
  | y :: r => if y.2.1 ≤ x.2.1 then y :: insO x r else x :: y :: r
theorem insO_perm (x : Od) : ∀ L : List Od, (insO x L).Perm (x :: L)
  | [] => .refl _
  | y :: r => by
    unfold insO
    split
    · exact ((insO_perm x r).cons y).trans (.swap _ _ _)
    · exact .refl _
theorem oK_le {x y : Od} (hx : 0 ≤ x.2.2 ∧ x.2.2 ≤ 50) (hy : 0 ≤ y.2.2 ∧ y.2.2 ≤ 50) : oK x ≤ oK y ↔ (x.2.1 < y.2.1 ∨ (x.2.1 = y.2.1 ∧ x.2.2 ≤ y.2.2)) := by
  unfold oK; omega
theorem insO_sorted {x : Od} (hx : 0 ≤ x.2.2 ∧ x.2.2 ≤ 50) : ∀ L : List Od, Pl L → (∀ y ∈ L, y.2.2 ≤ x.2.2) → L.Pairwise (fun a b => oK a ≤ oK b) → (insO x L).Pairwise (fun a b => oK a ≤ oK b)
  | [], _, _, _ => by simp [insO]
  | y :: r, hP, hy, hs => by
    have hpy := hP y List.mem_cons_self
    have hyx := hy y List.mem_cons_self
    obtain ⟨s1, s2⟩ := List.pairwise_cons.1 hs
    have hPr : Pl r := fun z hz => hP z (List.mem_cons_of_mem _ hz)
    unfold insO
    split
    · rename_i hle
      refine List.pairwise_cons.2 ⟨fun z hz => ?_, insO_sorted hx r hPr (fun z hz => hy z (List.mem_cons_of_mem _ hz)) s2⟩
      rcases List.mem_cons.1 ((insO_perm x r).mem_iff.1 hz) with rfl | hz
      · exact (oK_le hpy hx).2 (by omega)
      · exact s1 z hz
    · rename_i hlt
      have h1 : oK x ≤ oK y := (oK_le hx hpy).2 (by omega)
      refine List.pairwise_cons.2 ⟨fun z hz => ?_, hs⟩
      rcases List.mem_cons.1 hz with rfl | hz
      · exact h1
      · exact Int.le_trans h1 (s1 z hz)
/-- All in order. -/
def refL (M : List Od) : List Od := M.foldl (fun L x => insO x L) []
theorem refL_snoc (M : List Od) (x : Od) : refL (M ++ [x]) = insO x (refL M) := by simp [refL, List.foldl_append]
theorem refL_perm (M : List Od) : (refL M).Perm M := by
  have : ∀ (M L : List Od), (M.foldl (fun L x => insO x L) L).Perm (L ++ M) := by
    intro M
    induction M with
    | nil => intro L; simp
    | cons x r ih =>
      intro L
      rw [List.foldl_cons]
      refine (ih _).trans ?_
      refine ((insO_perm x L).append_right r).trans ?_
      simpa using (List.perm_middle (a := x) (l₁ := L) (l₂ := r)).symm
  simpa [refL] using this M []
theorem snoc_ind {α : Type} {P : List α → Prop} (h0 : P []) (h1 : ∀ A x, P A → P (A ++ [x])) : ∀ A, P A := fun A => by
  have : ∀ R : List α, P R.reverse := by
    intro R
    induction R with
    | nil => exact h0
    | cons x r ih => rw [List.reverse_cons]; exact h1 _ _ ih
  have h := this A.reverse
  rwa [List.reverse_reverse] at h
theorem refL_sorted (A : List ByteArray) : A.length ≤ 20 → (refL (odsF 0 A)).Pairwise (fun a b => oK a ≤ oK b) := by
  induction A using snoc_ind with
  | h0 => intro _; simp [odsF, refL]
  | h1 A s ih =>
    intro h
    rw [List.length_append] at h
    have h' : A.length ≤ 20 := by simp only [List.length_cons, List.length_nil] at h; omega
    rw [odsF_snoc, refL_snoc]
    have hp : Pl (refL (odsF 0 A)) := (odsF_pl h').perm (refL_perm _)
    refine insO_sorted ?_ _ hp (fun y hy => ?_) (ih h')
    · show 0 ≤ ((0 + A.length : Nat) : Int) ∧ ((0 + A.length : Nat) : Int) ≤ 50
      simp only [List.length_cons, List.length_nil] at h
      omega
    · have := odsF_place 0 A y ((refL_perm _).mem_iff.1 hy)
      show y.2.2 ≤ ((0 + A.length : Nat) : Int)
      omega
/-- However the members are brought into order, it is this order. -/
theorem refL_eq {A : List ByteArray} (h : A.length ≤ 20) {L : List Od} (hp : L.Perm (odsF 0 A)) (hs : L.Pairwise (fun a b => oK a ≤ oK b)) : L = refL (odsF 0 A) := by
  refine sorted_eq oK (hp.trans (refL_perm _).symm) hs (refL_sorted A h) fun x hx y hy hk => ?_
  have hx' := hp.mem_iff.1 hx
  have hy' := hp.mem_iff.1 hy
  have p1 := odsF_place 0 A x hx'
  have p2 := odsF_place 0 A y hy'
  refine odsF_inj 0 A x hx' y hy' ?_
  unfold oK at hk
  omega

/-- The text of a stamp in order. -/
noncomputable abbrev txO (x : Od) : ByteArray := txS x.1
def allOk (A : List ByteArray) : Prop := A.length ≤ 20 ∧ ∀ s ∈ A, (stampR s).ok = true
open Classical in
/-- The sorted texts. -/
noncomputable def sortR (A : List ByteArray) : List ByteArray := if allOk A then (refL (odsF 0 A)).map txO else []
theorem ods_val {A : List ByteArray} (h : ∀ s ∈ A, (stampR s).ok = true) : ∀ x ∈ odsF 0 A, valS x.1 ∧ x.2.1 = insS x.1 := fun x hx => by
  obtain ⟨s, hs, h1, h2⟩ := odsF_mem 0 A x hx
  rw [h1, h2]
  exact ⟨stampR_ok (h s hs), rfl⟩

end D
end Go.Proofs.YtpgbmohocfcjpaaGreatDoor

namespace Go.Proofs.YtpgbmohocfcjpaaGreatDoor
set_option linter.unusedVariables false
set_option linter.unusedSimpArgs false
set_option maxRecDepth 100000
set_option maxHeartbeats 1000000
namespace D
open Go.RowKit
open Go.PlainAid (bt bt_nonneg bt_le bt_end)
attribute [local irreducible] Calls

abbrev sE : El ByteArray := ⟨9, 1, fun s => [.string s], ⟨#[]⟩, fun _ => rfl, fun s u hu => by
  simp only [List.mem_singleton] at hu
  subst hu
  rfl⟩
theorem sE_at (A : List ByteArray) (i : Nat) : sE.at A i = A.getD i ⟨#[]⟩ := rfl

theorem a_Sort_big (p : Option Addr) (c : Nat) (A : List ByteArray) (hl : ¬ A.length ≤ 20) (hm : A.length ≤ 1000000000000) (w : World) (hb : D.Base w) : Calls Tryz.prog 18 #[.slice p A.length c] w (Ret w (sE.S (sortR A))) := by
  have e : sortR A = [] := if_neg fun h => hl h.1
  rw [e]
  refine enter Tryz.func18 rfl Tryz.ntmps18 rfl (by assumption) ?_
  (repeat' (first | intro (b : Nat) | refine go ?_ | (refine br ?_ ?_ <;> first | exact trivial | intro hq)))
  (apply X.retr [(b, .cells 9 [])]; (· exact rfl); (· (repeat (first | exact RVs.nil | (apply RVs.cons; (· first | exact RV.tmp rfl | (apply RV.cellk; exact rfl; (· (repeat (first | exact List.Mem.head _ | apply List.Mem.tail))); (· (repeat (first | exact Rd.nil | apply Rd.take | apply Rd.skip)))) | (apply RV.cell1; exact rfl; (· (repeat (first | exact List.Mem.head _ | apply List.Mem.tail))); (· (repeat (first | exact Rd.nil | apply Rd.take | apply Rd.skip))))))))); (· (repeat (first | exact SubH.nil | (apply SubH.cons; (· first | with_reducible rfl | (simp only [List.cons.injEq, Value.int.injEq, and_true, true_and] <;> omega) | rfl)) | apply SubH.skip | exact SubH.refl))))
  exact ⟨b, 0, [], rfl, rfl, El.Sf.nil sE⟩

theorem rdS {w : World} {p : Option Addr} {A : List ByteArray} (h : sE.Rd w p A) {i : Nat} (hi : i < A.length) : ∃ b o, p = some ⟨b, o, none⟩ ∧ w.cell? ⟨b, o + ((i : Int)).toNat * 1, none⟩ = some (.string (A.getD i ⟨#[]⟩)) := by
  obtain ⟨b, o, e, h1⟩ := El.Rd.get sE h (i := (i : Int)) (by omega) (by omega)
  have h2 : w.cell? ⟨b, o + ((i : Int)).toNat * 1, none⟩ = some (.string (A.getD ((i : Int)).toNat ⟨#[]⟩)) := h1 0 _ rfl
  have e1 : ((i : Int)).toNat = i := by omega
  refine ⟨b, o, e, ?_⟩
  rw [h2, e1]
theorem getD_mem' {A : List ByteArray} {i : Nat} (h : i < A.length) : A.getD i ⟨#[]⟩ ∈ A := by
  have := sE.at_mem (M := A) h
  exact this
theorem take_snoc' {A : List ByteArray} {i : Nat} (h : i < A.length) : A.take (i + 1) = A.take i ++ [A.getD i ⟨#[]⟩] := by
  rw [List.take_add_one]
  congr 1
  have := sE.at_some (M := A) h
  rw [this]
  rfl
theorem popAll_succ {M : List Od} (h : 0 < M.length) : popAll oD oK M.length M = oA M 0 :: popAll oD oK (popH oD oK M).length (popH oD oK M) ∧ (popH oD oK M).length = M.length - 1 := by
  have hl : (popH oD oK M).length = M.length - 1 := by
    unfold popH
    rw [List.length_take, downL_len, swp_len]
    omega
  refine ⟨?_, hl⟩
  rw [hl]
  obtain ⟨m, hm⟩ : ∃ m, M.length = m + 1 := ⟨M.length - 1, by omega⟩
  rw [hm, Nat.add_sub_cancel]
  conv => lhs; unfold popAll
  rw [if_neg (by omega)]

theorem a_Sort_small (p : Option Addr) (c : Nat) (A : List ByteArray) (hl : A.length ≤ 20) (hz : ∀ s ∈ A, s.size ≤ 1000000000000) (w : World) (hA : sE.Rd w p A) (hb : D.Base w) (hg : Hdl w) : Calls Tryz.prog 18 #[.slice p A.length c] w (Ret w (sE.S (sortR A))) := by
  refine enter Tryz.func18 rfl Tryz.ntmps18 rfl (by assumption) ?_
  (repeat' (first | intro (b : Nat) | refine go ?_ | (refine br ?_ ?_ <;> first | exact trivial | intro hq)))
  revert b
  intro bq
  rename_i bo
  refine C.loopw (Y := Nat × List Od × Nat × Nat × List Value) (fun k => [(2, .slice none 0 0), (3, .slice (some ⟨bo, 0, none⟩) 0 0), (4, qP bq), (16, .slice p A.length c), (17, .int .i64 A.length), (18, .int .i64 (k.1 : Int))])
    (fun k => (bq, qB k.2.2.1 k.2.1.length k.2.2.2.1) :: (k.2.2.1, oE.blk k.2.1 k.2.2.2.2) :: [(bo, .cells 9 [])])
    (fun k => k.1 ≤ A.length ∧ (∀ i, i < k.1 → (stampR (A.getD i ⟨#[]⟩)).ok = true) ∧ k.2.1.Perm (odsF 0 (A.take k.1)) ∧ HP oD oK k.2.1 k.2.1.length ∧ oE.Sf k.2.1 k.2.2.2.1 k.2.2.2.2) (fun k => A.length - k.1) (0, [], b, 0, [])
    ⟨Nat.zero_le _, fun i hi => absurd hi (Nat.not_lt_zero i), .refl _, fun i h0 h1 => absurd h1 (Nat.not_lt_zero i), El.Sf.nil oE⟩ (fun k hy => ?_)
  generalize k.2.2.2.2 = pad at *
  generalize k.2.2.2.1 = c1 at *
  generalize k.2.2.1 = b1 at *
  generalize k.2.1 = M at *
  generalize k.1 = i at *
  obtain ⟨hk, hok, hp, hh, hS⟩ := hy
  have hlen : M.length = i := by
    have := hp.length_eq
    rw [odsF_len, List.length_take] at this
    omega
  by_cases hlt : i < A.length
  · obtain ⟨bb, o, rfl, h1⟩ := rdS hA hlt
    have hmem := getD_mem' hlt
    have hF := a_StampFrom (A.getD i ⟨#[]⟩) (hz _ hmem)
    rw [show stR (A.getD i ⟨#[]⟩) (cutP (A.getD i ⟨#[]⟩)) = stampR (A.getD i ⟨#[]⟩) from rfl] at hF
    simp only [srV] at hF
    cases hso : (stampR (A.getD i ⟨#[]⟩)).ok with
    | false =>
      have e : sortR A = [] := if_neg fun h => by
        have := h.2 _ hmem
        rw [hso] at this
        cases this
      rw [e]
      rw [hso] at hF
      generalize A.getD i ⟨#[]⟩ = s at *
      (repeat' (first | intro (b : Nat) | refine go ?_ | (refine br ?_ ?_ <;> first | exact trivial | intro hq) | refine L.call (h := by intro W hW; apply hF W hW.base (hW.old hg)) (k := ?_)))
      (apply X.retr [(bo, .cells 9 [])]; (· exact rfl); (· (repeat (first | exact RVs.nil | (apply RVs.cons; (· first | exact RV.tmp rfl | (apply RV.cellk; exact rfl; (· (repeat (first | exact List.Mem.head _ | apply List.Mem.tail))); (· (repeat (first | exact Rd.nil | apply Rd.take | apply Rd.skip)))) | (apply RV.cell1; exact rfl; (· (repeat (first | exact List.Mem.head _ | apply List.Mem.tail))); (· (repeat (first | exact Rd.nil | apply Rd.take | apply Rd.skip))))))))); (· (repeat (first | exact SubH.nil | (apply SubH.cons; (· first | with_reducible rfl | (simp only [List.cons.injEq, Value.int.injEq, and_true, true_and] <;> omega) | rfl)) | apply SubH.skip | exact SubH.refl))))
      exact ⟨bo, 0, [], rfl, rfl, El.Sf.nil sE⟩
    | true =>
      have hv : valS (stampR (A.getD i ⟨#[]⟩)) := stampR_ok hso
      have hI := a_instantOf _ _ _ _ _ _ _ _ hv
      have hpush := pushH_ok oD oK (x := odO (A.getD i ⟨#[]⟩) i) hh
      have hP1 : Pl (M ++ [odO (A.getD i ⟨#[]⟩) i]) := by
        refine (odsF_pl (A := A.take (i + 1)) (by rw [List.length_take]; omega)).perm ?_
        rw [take_snoc' hlt, odsF_snoc, List.length_take, show 0 + min i A.length = i by omega]
        exact hp.append_right _
      have hp2 : (pushH oD oK M (odO (A.getD i ⟨#[]⟩) i)).Perm (odsF 0 (A.take (i + 1))) := by
        rw [take_snoc' hlt, odsF_snoc, List.length_take, show 0 + min i A.length = i by omega]
        exact hpush.2.1.trans ((hp.cons _).trans (List.perm_append_singleton _ _).symm)
      have hok2 : ∀ j, j < i + 1 → (stampR (A.getD j ⟨#[]⟩)).ok = true := fun j hj => by
        rcases (by omega : j < i ∨ j = i) with h | rfl
        · exact hok j h
        · exact hso
      unfold odO insS at hP1 hpush hp2
      rw [hso] at hF
      generalize inst (stampR (A.getD i ⟨#[]⟩)).y (stampR (A.getD i ⟨#[]⟩)).m (stampR (A.getD i ⟨#[]⟩)).d (stampR (A.getD i ⟨#[]⟩)).h (stampR (A.getD i ⟨#[]⟩)).i (stampR (A.getD i ⟨#[]⟩)).s (stampR (A.getD i ⟨#[]⟩)).k (stampR (A.getD i ⟨#[]⟩)).o = ins at *
      clear hv
      generalize stampR (A.getD i ⟨#[]⟩) = S at hF hI hP1 hpush hp2
      generalize A.getD i ⟨#[]⟩ = s at hF h1 hmem
      (repeat' (first | intro (b : Nat) | refine go ?_ | (refine br ?_ ?_ <;> first | exact trivial | intro hq) | refine L.call (h := by intro W hW; apply hF W hW.base (hW.old hg)) (k := ?_)))
      ((repeat (refine C.seq ?_)); apply C.draww 8 [none, none, some _, some _, some _, none, none, none])
      (repeat (first | intro (b : Nat) | refine gg ?_))
      (refine G.call (h := by intro W hW; exact hI W hW.base) (k := ?_))
      (repeat (first | intro (b : Nat) | refine gg ?_))
      (refine L.tcallR2 bq b1 (h := fun W hW => h_Push _ _ bq b1 c1 M pad (S, ins, (i : Int)) hS (by omega) hP1 W hW) (k := ?_))
      rintro v H ⟨rfl, b2, c2, pad2, hS2, rfl⟩
      rw [← hpush.2.2]
      (repeat' (first | intro (b : Nat) | refine go ?_ | (refine br ?_ ?_ <;> first | exact trivial | intro hq)))
      (refine X.roundw (i + 1, pushH oD oK M (S, ins, (i : Int)), b2, c2, pad2) ⟨by show i + 1 ≤ A.length; omega, hok2, hp2, by rw [hpush.2.2]; exact hpush.1, hS2⟩ (by show A.length - (i + 1) < A.length - i; omega))
  · have hi : i = A.length := by omega
    subst hi
    have hall : allOk A := ⟨hl, fun s hs => by
      obtain ⟨j, hj, rfl⟩ := List.getElem_of_mem hs
      have := hok j hj
      rwa [show A.getD j ⟨#[]⟩ = A[j] by simp [List.getD, hj]] at this⟩
    rw [List.take_length] at hp
    have hpa := popAll_ok oD oK M.length M (Nat.le_refl _) hh
    have eL : popAll oD oK M.length M = refL (odsF 0 A) := refL_eq hl (hpa.1.trans hp) hpa.2
    have eR : sortR A = (popAll oD oK M.length M).map txO := by rw [eL]; exact if_pos hall
    rw [eR]
    have hval : ∀ x ∈ M, valS x.1 := fun x hx => (ods_val hall.2 x (hp.mem_iff.1 hx)).1
    have hPM : Pl M := (odsF_pl hl).perm hp
    (repeat' (first | intro (b : Nat) | refine go ?_ | (refine br ?_ ?_ <;> first | exact trivial | intro hq)))
    refine C.perm' (List.perm_append_singleton (bo, Blk.cells 9 []) [_, _]) ?_
    refine C.loopw (Y := List Od × List ByteArray × List Value × Nat × Nat × List Value) (fun k => [(2, .slice none 0 0), (3, .slice (some ⟨k.2.2.2.1, 0, none⟩) k.2.1.length k.2.2.2.2.1), (4, qP bq)])
      (fun k => (k.2.2.2.1, sE.blk k.2.1 k.2.2.2.2.2) :: (bq, qB b1 k.1.length c1) :: (b1, oE.blk k.1 k.2.2.1) :: [])
      (fun k => k.2.1 ++ (popAll oD oK k.1.length k.1).map txO = (popAll oD oK M.length M).map txO ∧ HP oD oK k.1 k.1.length ∧ oE.Sf k.1 c1 k.2.2.1 ∧ sE.Sf k.2.1 k.2.2.2.2.1 k.2.2.2.2.2 ∧ (∀ x ∈ k.1, valS x.1) ∧ Pl k.1 ∧ k.1.length ≤ 20 ∧ k.2.1.length + k.1.length ≤ 20) (fun k => k.1.length) (M, [], pad, bo, 0, [])
      ⟨by simp, hh, hS, El.Sf.nil sE, hval, hPM, by show M.length ≤ 20; omega, by show 0 + M.length ≤ 20; omega⟩ (fun k hy => ?_)
    generalize k.2.2.2.2.2 = pado at *
    generalize k.2.2.2.2.1 = co at *
    generalize k.2.2.2.1 = bo2 at *
    generalize k.2.2.1 = pad2 at *
    generalize k.2.1 = out at *
    generalize k.1 = N at *
    obtain ⟨g1, g2, g3, g4, g5, g6, g7, g8⟩ := hy
    by_cases h0 : N.length = 0
    · have hN : N = [] := List.eq_nil_of_length_eq_zero h0
      subst hN
      have hout : out = (popAll oD oK M.length M).map txO := by simpa [popAll] using g1
      rw [← hout]
      (repeat' (first | intro (b : Nat) | refine go ?_ | (refine br ?_ ?_ <;> first | exact trivial | intro hq) | refine L.call (h := by intro W hW; apply a_qLen _ _ _ W hW.base) (k := ?_)))
      (apply X.retr [(bo2, sE.blk out pado)]; (· exact rfl); (· (repeat (first | exact RVs.nil | (apply RVs.cons; (· first | exact RV.tmp rfl | (apply RV.cellk; exact rfl; (· (repeat (first | exact List.Mem.head _ | apply List.Mem.tail))); (· (repeat (first | exact Rd.nil | apply Rd.take | apply Rd.skip)))) | (apply RV.cell1; exact rfl; (· (repeat (first | exact List.Mem.head _ | apply List.Mem.tail))); (· (repeat (first | exact Rd.nil | apply Rd.take | apply Rd.skip))))))))); (· (repeat (first | exact SubH.nil | (apply SubH.cons; (· first | with_reducible rfl | (simp only [List.cons.injEq, Value.int.injEq, and_true, true_and] <;> omega) | rfl)) | apply SubH.skip | exact SubH.refl))))
      exact ⟨bo2, co, pado, rfl, rfl, g4⟩
    · obtain ⟨e1, e2⟩ := popAll_succ (M := N) (by omega)
      have hpk := popH_ok oD oK g2 (by omega)
      have hm0 : oA N 0 ∈ N := hpk.2.1.mem_iff.2 List.mem_cons_self
      have hv0 : valS (oA N 0).1 := g5 _ hm0
      have hX := a_StampText (oA N 0).1.y (oA N 0).1.m (oA N 0).1.d (oA N 0).1.h (oA N 0).1.i (oA N 0).1.s (oA N 0).1.k (oA N 0).1.o
      rw [stT_of hv0] at hX
      rw [e1] at g1
      have hPop := fun (F : SH) W (hW : St w ((bq, qB b1 N.length c1) :: (b1, oE.blk N pad2) :: F) W) => h_Pop w F bq b1 c1 N pad2 g3 (by omega) (by omega) g6 W hW
      have g1' : (out ++ [txO (oA N 0)]) ++ (popAll oD oK (popH oD oK N).length (popH oD oK N)).map txO = (popAll oD oK M.length M).map txO := by simpa using g1
      unfold txO at g1'
      generalize txS (oA N 0).1 = t at hX g1'
      clear hv0 hm0 e1 g1
      generalize oA N 0 = x at hX hPop
      (repeat' (first | intro (b : Nat) | refine go ?_ | (refine br ?_ ?_ <;> first | exact trivial | intro hq) | refine L.call (h := by intro W hW; apply a_qLen _ _ _ W hW.base) (k := ?_)))
      (refine L.tcallR2 bq b1 (h := fun W hW => hPop _ W hW) (k := ?_))
      rintro v H ⟨rfl, pad3, hS3, rfl⟩
      rw [← e2]
      (repeat' (first | intro (b : Nat) | refine go ?_ | (refine br ?_ ?_ <;> first | exact trivial | intro hq)))
      (refine L.call (h := by intro W hW; exact hX W hW.base) (k := ?_))
      (repeat' (first | intro (b : Nat) | refine go ?_ | (refine br ?_ ?_ <;> first | exact trivial | intro hq)))
      refine L.gapp sE g4 (hb := by omega) (hb2 := by omega) (kk := fun b' c' pad' hS' => ?_)
      rw [show out.length + 1 = (out ++ [t]).length by simp]
      (repeat' (first | intro (b : Nat) | refine go ?_ | (refine br ?_ ?_ <;> first | exact trivial | intro hq)))
      (refine X.roundw (popH oD oK N, out ++ [t], pad3, b', c', pad') ⟨g1', by rw [hpk.2.2.1]; exact hpk.1, hS3, hS', fun y hy => g5 y (hpk.2.1.mem_iff.2 (List.mem_cons_of_mem _ hy)), fun y hy => g6 y (hpk.2.1.mem_iff.2 (List.mem_cons_of_mem _ hy)), by show (popH oD oK N).length ≤ 20; omega, by show (out ++ [t]).length + (popH oD oK N).length ≤ 20; rw [List.length_append, List.length_singleton]; omega⟩ (by show (popH oD oK N).length < N.length; omega))

theorem a_StampsSort (p : Option Addr) (c : Nat) (A : List ByteArray) (hm : A.length ≤ 1000000000000) (hz : ∀ s ∈ A, s.size ≤ 1000000000000) (w : World) (hA : sE.Rd w p A) (hb : D.Base w) (hg : Hdl w) : Calls Tryz.prog 18 #[.slice p A.length c] w (Ret w (sE.S (sortR A))) := by
  by_cases hl : A.length ≤ 20
  · exact a_Sort_small p c A hl hz w hA hb hg
  · exact a_Sort_big p c A hl hm w hb

end D
end Go.Proofs.YtpgbmohocfcjpaaGreatDoor

namespace Go.Proofs.YtpgbmohocfcjpaaGreatDoor
set_option linter.unusedVariables false
set_option linter.unusedSimpArgs false
set_option maxRecDepth 100000
set_option maxHeartbeats 1000000
namespace D
open Go.RowKit
open Go.PlainAid (bt bt_nonneg bt_le bt_end)
attribute [local irreducible] Calls

section
variable {P : Program} {n : Nat} {ds : List Deferred} {w0 : World} {hs : SH} {e : Env} {ops : List Oper} {Q : Exit → Act → World → Prop} {l : List Oper} {d : Option Tmp} {ty : TypeId} {pos : String} {af : Array Edge} {g : Option (Nat × Bool)}
variable {α : Type} (E : El α)
/-- What a slice holds, in a block of its own, or nowhere. -/
def El.V (X : List α) (v : Value) (H : SH) : Prop := SlS E.T E.sz X.length (flat E.fc X) v H
theorem El.V.one {X : List α} {b c : Nat} {pad : List Value} (h : E.Sf X c pad) : E.V X (.slice (some ⟨b, 0, none⟩) X.length c) [(b, E.blk X pad)] := h.sls
theorem Tail.perm' {H F r : SH} (h : Tail H F r) : r.Perm (F ++ H) := h.eq ▸ .refl _
theorem Pull.perm2 {x : Nat × Blk} {F r : SH} (h : Pull x r F) : r.Perm (F ++ [x]) := h.perm.trans (List.perm_append_singleton _ _).symm
/-- Elements are appended, wherever they lie. -/
theorem L.appV {t bytes : Nat} [i : Ap P t E.T E.sz bytes] {X Y : List α} {v : Value} {H F : SH} {b o c m : Nat} {xa : List Operand} (hS : E.V X v H)
    (hw : wantE ops e ⟨d, .call ⟨.builtin .append, xa.toArray, #[t, t]⟩, ty, pos, af, g⟩ = some true := by exact rfl) (hd : dstOk n d = true := by exact rfl) (hv : evs e xa = some [v, .slice (some ⟨b, o, none⟩) m c] := by exact rfl)
    (hq : hs.Perm (F ++ H)) (hm : m = Y.length) (hn : ∀ w, St w0 hs w → ∀ j u, (flat E.fc Y)[j]? = some u → w.cell? ⟨b, o + j, none⟩ = some u)
    (hb : (X.length + Y.length) * bytes ≤ 140737488355328) (hb2 : X.length + Y.length ≤ 1000000000000)
    (kk : ∀ v' H', E.V (X ++ Y) v' H' → L P n ds w0 ops Q l (consE d v' e) (F ++ H')) : L P n ds w0 ops Q (⟨d, .call ⟨.builtin .append, xa.toArray, #[t, t]⟩, ty, pos, af, g⟩ :: l) e hs := by
  subst hm
  refine L.perm' hq (L.app (us := flat E.fc Y) (k := X.length) (xs := flat E.fc X) (H := H) (F := F) (c := c) (b := b) (o := o) (m := Y.length) hS hw hd hv (Tail.of' F) (fun w hst j u hj => hn w (hst.perm hq.symm) j u hj) (flat_length E.len Y) (E.one_flat Y) hb (by omega) fun v' H' hS' => ?_)
  refine kk v' H' ?_
  unfold El.V
  rw [List.length_append, show flat E.fc (X ++ Y) = flat E.fc X ++ flat E.fc Y by simp [flat]]
  exact hS'
end

abbrev kE : El Int := ⟨3, 1, fun k => [.int .i64 k], 0, fun _ => rfl, fun s u hu => by
  simp only [List.mem_singleton] at hu
  subst hu
  rfl⟩
theorem flat_one {α : Type} (f : α → Value) (X : List α) : flat (fun x => [f x]) X = X.map f := by
  induction X with
  | nil => rfl
  | cons x r ih => simp only [flat, List.map_cons, List.flatten_cons] at ih ⊢; rw [ih]; rfl
/-- The head of a list that lies in a block. -/
theorem src_take {w0 w : World} {hs : SH} {α : Type} {f : α → Value} {b at_ : Nat} {T : TypeId} {X : List α} {pad : List Value} (hst : St w0 hs w) (hm : (b, Blk.cells T (flat (fun x => [f x]) X ++ pad)) ∈ hs) : ∀ j u, (flat (fun x => [f x]) (X.take at_))[j]? = some u → w.cell? ⟨b, 0 + j, none⟩ = some u := fun j u hj => by
  rw [flat_one] at hj
  rw [Nat.zero_add]
  refine hst.cell hm ?_
  rw [flat_one]
  rw [List.map_take, List.getElem?_take] at hj
  split at hj
  · rw [List.getElem?_append_left (by have := (List.getElem?_eq_some_iff.1 hj).1; exact this)]
    exact hj
  · cases hj
/-- The rest of a list that lies in a block. -/
theorem src_drop {w0 w : World} {hs : SH} {α : Type} {f : α → Value} {b at_ q c : Nat} {T : TypeId} {X : List α} {pad : List Value} (hst : St w0 hs w) (hm : (b, Blk.cells T (flat (fun x => [f x]) X ++ pad)) ∈ hs) (hc : X.length ≤ c) (hq : q = at_) : ∀ j u, (flat (fun x => [f x]) (X.drop at_))[j]? = some u → w.cell? ⟨b, (if c = q then 0 else 0 + q * 1) + j, none⟩ = some u := fun j u hj => by
  subst hq
  rw [flat_one, List.map_drop, List.getElem?_drop] at hj
  have h1 := (List.getElem?_eq_some_iff.1 hj).1
  rw [List.length_map] at h1
  rw [if_neg (by omega), show 0 + q * 1 + j = q + j by omega]
  refine hst.cell hm ?_
  rw [flat_one, List.getElem?_append_left (by rw [List.length_map]; omega)]
  exact hj

/-- Where a stamp is put. -/
def cutO (x : Int) : List Od → Nat
  | [] => 0
  | y :: r => if y.2.1 ≤ x then cutO x r + 1 else 0
theorem cutO_le (x : Int) : ∀ L : List Od, cutO x L ≤ L.length
  | [] => Nat.le_refl _
  | y :: r => by
    unfold cutO
    split
    · have := cutO_le x r; simp only [List.length_cons]; omega
    · exact Nat.zero_le _
theorem cutO_ins (x : Od) : ∀ L : List Od, insO x L = L.take (cutO x.2.1 L) ++ x :: L.drop (cutO x.2.1 L)
  | [] => rfl
  | y :: r => by
    unfold insO cutO
    split
    · rw [cutO_ins x r]; rfl
    · rfl
theorem cutO_at (x : Int) : ∀ (L : List Od) (i : Nat), i < L.length → (i < cutO x L → (oA L i).2.1 ≤ x) ∧ (i = cutO x L → ¬ (oA L i).2.1 ≤ x)
  | [], i, h => absurd h (Nat.not_lt_zero i)
  | y :: r, i, h => by
    unfold cutO
    cases i with
    | zero =>
      show (0 < _ → y.2.1 ≤ x) ∧ (0 = _ → ¬ y.2.1 ≤ x)
      split
      · rename_i hh
        exact ⟨fun _ => hh, fun h => by omega⟩
      · rename_i hh
        exact ⟨fun h => by omega, fun _ => hh⟩
    | succ i =>
      have ih := cutO_at x r i (by simpa using h)
      show (i + 1 < _ → (oA r i).2.1 ≤ x) ∧ (i + 1 = _ → ¬ (oA r i).2.1 ≤ x)
      split
      · exact ⟨fun h => ih.1 (by omega), fun h => ih.2 (by omega)⟩
      · exact ⟨fun h => by omega, fun h => by omega⟩

end D
end Go.Proofs.YtpgbmohocfcjpaaGreatDoor

namespace Go.Proofs.YtpgbmohocfcjpaaGreatDoor
set_option linter.unusedVariables false
set_option linter.unusedSimpArgs false
set_option maxRecDepth 100000
set_option maxHeartbeats 2000000
namespace D
open Go.RowKit
open Go.PlainAid (bt bt_nonneg bt_le bt_end)
attribute [local irreducible] Calls

noncomputable abbrev ordA (Ts : List ByteArray) (k : Nat) : List Od := refL (odsF 0 (Ts.take k))
theorem ordA_len {Ts : List ByteArray} {k : Nat} (h : k ≤ Ts.length) : (ordA Ts k).length = k := by
  rw [(refL_perm _).length_eq, odsF_len, List.length_take]
  omega
theorem ordA_succ {Ts : List ByteArray} {k : Nat} (h : k < Ts.length) : ordA Ts (k + 1) = insO (odO (Ts.getD k ⟨#[]⟩) k) (ordA Ts k) := by
  unfold ordA
  rw [take_snoc' h, odsF_snoc, refL_snoc, List.length_take, show 0 + min k Ts.length = k by omega]

theorem b_Sort_big (p : Option Addr) (c : Nat) (Ts : List ByteArray) (hl : ¬ Ts.length ≤ 20) (hm : Ts.length ≤ 1000000000000) (w : World) (hb : D.Base w) : Calls Tryz.prog 16 #[.slice p Ts.length c] w (Ret w (sE.S (sortR Ts))) := by
  have e : sortR Ts = [] := if_neg fun h => hl h.1
  rw [e]
  refine enter Tryz.func16 rfl Tryz.ntmps16 rfl (by assumption) ?_
  (repeat' (first | intro (b : Nat) | refine go ?_ | (refine br ?_ ?_ <;> first | exact trivial | intro hq)))
  rename_i bo
  (apply X.retr [(bo, .cells 9 [])]; (· exact rfl); (· (repeat (first | exact RVs.nil | (apply RVs.cons; (· first | exact RV.tmp rfl | (apply RV.cellk; exact rfl; (· (repeat (first | exact List.Mem.head _ | apply List.Mem.tail))); (· (repeat (first | exact Rd.nil | apply Rd.take | apply Rd.skip)))) | (apply RV.cell1; exact rfl; (· (repeat (first | exact List.Mem.head _ | apply List.Mem.tail))); (· (repeat (first | exact Rd.nil | apply Rd.take | apply Rd.skip))))))))); (· (repeat (first | exact SubH.nil | (apply SubH.cons; (· first | with_reducible rfl | (simp only [List.cons.injEq, Value.int.injEq, and_true, true_and] <;> omega) | rfl)) | apply SubH.skip | exact SubH.refl))))
  exact ⟨bo, 0, [], rfl, rfl, El.Sf.nil sE⟩

theorem b_Sort_small (p : Option Addr) (c : Nat) (Ts : List ByteArray) (hl : Ts.length ≤ 20) (hz : ∀ s ∈ Ts, s.size ≤ 1000000000000) (w : World) (hA : sE.Rd w p Ts) (hb : D.Base w) : Calls Tryz.prog 16 #[.slice p Ts.length c] w (Ret w (sE.S (sortR Ts))) := by
  refine enter Tryz.func16 rfl Tryz.ntmps16 rfl (by assumption) ?_
  (repeat' (first | intro (b : Nat) | refine go ?_ | (refine br ?_ ?_ <;> first | exact trivial | intro hq)))
  revert b
  intro bk0
  refine C.loopw (Y := Nat × (Nat × Nat × List Value) × (Nat × Nat × List Value)) (fun k => [(0, .slice p Ts.length c), (2, .slice none 0 0), (3, .slice (some ⟨k.2.1.1, 0, none⟩) k.1 k.2.1.2.1), (4, .slice (some ⟨k.2.2.1, 0, none⟩) k.1 k.2.2.2.1), (5, .int .i64 (k.1 : Int))])
    (fun k => (k.2.2.1, kE.blk ((ordA Ts k.1).map (fun x => x.2.1)) k.2.2.2.2) :: (k.2.1.1, sE.blk ((ordA Ts k.1).map txO) k.2.1.2.2) :: [])
    (fun k => k.1 ≤ Ts.length ∧ (∀ i, i < k.1 → (stampR (Ts.getD i ⟨#[]⟩)).ok = true) ∧ sE.Sf ((ordA Ts k.1).map txO) k.2.1.2.1 k.2.1.2.2 ∧ kE.Sf ((ordA Ts k.1).map (fun x => x.2.1)) k.2.2.2.1 k.2.2.2.2) (fun k => Ts.length - k.1) (0, (b, 0, []), (bk0, 0, []))
    ⟨Nat.zero_le _, fun i hi => absurd hi (Nat.not_lt_zero i), El.Sf.nil sE, El.Sf.nil kE⟩ (fun k hy => ?_)
  generalize k.2.2.2.2 = pk at *
  generalize k.2.2.2.1 = ck at *
  generalize k.2.2.1 = bk at *
  generalize k.2.1.2.2 = po at *
  generalize k.2.1.2.1 = co at *
  generalize k.2.1.1 = bo at *
  generalize k.1 = i at *
  obtain ⟨hk, hok, hSo, hSk⟩ := hy
  have hlen := ordA_len hk
  by_cases hlt : i < Ts.length
  · obtain ⟨bb, o, rfl, h1⟩ := rdS hA hlt
    have hmem := getD_mem' hlt
    have hF := b_StampFrom (Ts.getD i ⟨#[]⟩) (hz _ hmem)
    rw [show stR (Ts.getD i ⟨#[]⟩) (cutP (Ts.getD i ⟨#[]⟩)) = stampR (Ts.getD i ⟨#[]⟩) from rfl] at hF
    simp only [srV] at hF
    cases hso : (stampR (Ts.getD i ⟨#[]⟩)).ok with
    | false =>
      have e : sortR Ts = [] := if_neg fun h => by
        have := h.2 _ hmem
        rw [hso] at this
        cases this
      rw [e]
      rw [hso] at hF
      clear hSo hSk hlen
      generalize (ordA Ts i).map txO = outs at *
      generalize (ordA Ts i).map (fun x => x.2.1) = keys at *
      generalize Ts.getD i ⟨#[]⟩ = s at *
      (repeat' (first | intro (b : Nat) | refine go ?_ | (refine br ?_ ?_ <;> first | exact trivial | intro hq) | refine L.call (h := by intro W hW; apply hF W hW.base) (k := ?_)))
      (apply X.retr [(b, .cells 9 [])]; (· exact rfl); (· (repeat (first | exact RVs.nil | (apply RVs.cons; (· first | exact RV.tmp rfl | (apply RV.cellk; exact rfl; (· (repeat (first | exact List.Mem.head _ | apply List.Mem.tail))); (· (repeat (first | exact Rd.nil | apply Rd.take | apply Rd.skip)))) | (apply RV.cell1; exact rfl; (· (repeat (first | exact List.Mem.head _ | apply List.Mem.tail))); (· (repeat (first | exact Rd.nil | apply Rd.take | apply Rd.skip))))))))); (· (repeat (first | exact SubH.nil | (apply SubH.cons; (· first | with_reducible rfl | (simp only [List.cons.injEq, Value.int.injEq, and_true, true_and] <;> omega) | rfl)) | apply SubH.skip | exact SubH.refl))))
      exact ⟨b, 0, [], rfl, rfl, El.Sf.nil sE⟩
    | true =>
      have hv : valS (stampR (Ts.getD i ⟨#[]⟩)) := stampR_ok hso
      have hI := b_l12 _ _ _ _ _ _ _ _ hv
      have hT := b_l13Text _ _ _ _ _ _ _ _ hv
      have hzt : (txS (stampR (Ts.getD i ⟨#[]⟩))).size ≤ 40 := stL_size.2
      have hok2 : ∀ j, j < i + 1 → (stampR (Ts.getD j ⟨#[]⟩)).ok = true := fun j hj => by
        rcases (by omega : j < i ∨ j = i) with h | rfl
        · exact hok j h
        · exact hso
      have hins := cutO_ins (odO (Ts.getD i ⟨#[]⟩) i) (ordA Ts i)
      rw [← ordA_succ hlt] at hins
      have eO : (ordA Ts (i + 1)).map txO = ((ordA Ts i).map txO).take (cutO (insS (stampR (Ts.getD i ⟨#[]⟩))) (ordA Ts i)) ++ [txS (stampR (Ts.getD i ⟨#[]⟩))] ++ ((ordA Ts i).map txO).drop (cutO (insS (stampR (Ts.getD i ⟨#[]⟩))) (ordA Ts i)) := by
        rw [hins]
        simp [odO]
      have eK : (ordA Ts (i + 1)).map (fun x => x.2.1) = ((ordA Ts i).map (fun x => x.2.1)).take (cutO (insS (stampR (Ts.getD i ⟨#[]⟩))) (ordA Ts i)) ++ [insS (stampR (Ts.getD i ⟨#[]⟩))] ++ ((ordA Ts i).map (fun x => x.2.1)).drop (cutO (insS (stampR (Ts.getD i ⟨#[]⟩))) (ordA Ts i)) := by
        rw [hins]
        simp [odO]
      have hkey : ∀ j, j < i → ((ordA Ts i).map (fun x => x.2.1)).getD j 0 = (oA (ordA Ts i) j).2.1 := fun j hj => by
        have h2 := oE.at_some (M := ordA Ts i) (i := j) (by omega)
        simp only [List.getD, List.getElem?_map, h2]
        rfl
      have hcut := cutO_at (insS (stampR (Ts.getD i ⟨#[]⟩))) (ordA Ts i)
      have hcl := cutO_le (insS (stampR (Ts.getD i ⟨#[]⟩))) (ordA Ts i)
      have hlo : ((ordA Ts i).map txO).length = i := by rw [List.length_map, hlen]
      have hlk : ((ordA Ts i).map (fun x => x.2.1)).length = i := by rw [List.length_map, hlen]
      rw [hlen] at hcl hcut
      have hcut2 : ∀ j, j < i → (j < cutO (insS (stampR (Ts.getD i ⟨#[]⟩))) (ordA Ts i) → ((ordA Ts i).map (fun x => x.2.1)).getD j 0 ≤ insS (stampR (Ts.getD i ⟨#[]⟩))) ∧ (j = cutO (insS (stampR (Ts.getD i ⟨#[]⟩))) (ordA Ts i) → ¬ ((ordA Ts i).map (fun x => x.2.1)).getD j 0 ≤ insS (stampR (Ts.getD i ⟨#[]⟩))) := fun j hj => by
        rw [hkey j hj]
        exact hcut j hj
      clear hcut hkey hins hlen
      unfold txO at hSo hlo eO
      rw [hso] at hF
      rw [show strOfNums (stL (stampR (Ts.getD i ⟨#[]⟩)).y (stampR (Ts.getD i ⟨#[]⟩)).m (stampR (Ts.getD i ⟨#[]⟩)).d (stampR (Ts.getD i ⟨#[]⟩)).h (stampR (Ts.getD i ⟨#[]⟩)).i (stampR (Ts.getD i ⟨#[]⟩)).s (stampR (Ts.getD i ⟨#[]⟩)).k (stampR (Ts.getD i ⟨#[]⟩)).o) = txS (stampR (Ts.getD i ⟨#[]⟩)) from rfl] at hT
      generalize cutO (insS (stampR (Ts.getD i ⟨#[]⟩))) (ordA Ts i) = at_ at *
      unfold insS at hcut2 eK
      generalize inst (stampR (Ts.getD i ⟨#[]⟩)).y (stampR (Ts.getD i ⟨#[]⟩)).m (stampR (Ts.getD i ⟨#[]⟩)).d (stampR (Ts.getD i ⟨#[]⟩)).h (stampR (Ts.getD i ⟨#[]⟩)).i (stampR (Ts.getD i ⟨#[]⟩)).s (stampR (Ts.getD i ⟨#[]⟩)).k (stampR (Ts.getD i ⟨#[]⟩)).o = ins at *
      generalize txS (stampR (Ts.getD i ⟨#[]⟩)) = tx at hT hzt eO
      clear hv
      generalize stampR (Ts.getD i ⟨#[]⟩) = S at hF hI hT
      generalize Ts.getD i ⟨#[]⟩ = s at hF h1 hmem
      generalize hO2 : (ordA Ts (i + 1)).map (fun x => txS x.1) = outs2 at *
      generalize hK2 : (ordA Ts (i + 1)).map (fun x => x.2.1) = keys2 at *
      generalize hO1 : (ordA Ts i).map (fun x => txS x.1) = outs at *
      generalize hK1 : (ordA Ts i).map (fun x => x.2.1) = keys at *
      (repeat' (first | intro (b : Nat) | refine go ?_ | (refine br ?_ ?_ <;> first | exact trivial | intro hq) | refine L.call (h := by intro W hW; first | apply hF W hW.base | apply hI W hW.base) (k := ?_)))
      revert b
      intro bx
      have hlk2 : keys2.length = i + 1 := by rw [eK]; simp only [List.length_append, List.length_take, List.length_drop, List.length_cons, List.length_nil]; omega
      have hlo2 : outs2.length = i + 1 := by rw [eO]; simp only [List.length_append, List.length_take, List.length_drop, List.length_cons, List.length_nil]; omega
      have eA : ((at_ : Int)).toNat = at_ := by omega
      refine C.loopw (Y := Nat) (fun j => [(0, .slice (some ⟨bb, o, none⟩) Ts.length c), (2, .slice none 0 0), (3, .slice (some ⟨bo, 0, none⟩) i co), (4, .slice (some ⟨bk, 0, none⟩) i ck), (5, .int .i64 (i : Int)), (6, .pointer (some ⟨bx, 0, none⟩)), (8, .int .i64 ins), (9, .int .i64 (j : Int))])
        (fun j => (bx, .cells 37 [.int .i64 S.y, .int .i64 S.m, .int .i64 S.d, .int .i64 S.h, .int .i64 S.i, .int .i64 S.s, .int .i64 S.k, .int .i64 S.o]) :: (bk, kE.blk keys pk) :: (bo, sE.blk outs po) :: [])
        (fun j => j ≤ at_) (fun j => at_ - j) 0 (Nat.zero_le _) (fun j hj => ?_)
      have hg : ∀ (hji : j < i), (flat kE.fc keys ++ pk)[0 + ((j : Int)).toNat * 1]? = some (.int .i64 (keys.getD j 0)) := fun hji => by
        have g1 := kE.own_at (M := keys) (pad := pk) (i := (j : Int)) (by omega) (by omega)
        have g2 : (flat kE.fc keys ++ pk)[0 + ((j : Int)).toNat * 1]? = some (.int .i64 (keys.getD ((j : Int)).toNat 0)) := g1 0 _ rfl
        rw [g2, show ((j : Int)).toNat = j by omega]
      by_cases hja : j < at_
      · have hji : j < i := by omega
        have hle := (hcut2 j hji).1 hja
        have hg1 := hg hji
        generalize keys.getD j 0 = key at hle hg1
        (repeat' (first | intro (b : Nat) | refine go ?_ | (refine br ?_ ?_ <;> first | exact trivial | intro hq)))
        (refine X.roundw (j + 1) (by omega) (by omega))
      · obtain rfl : j = at_ := by omega
        have hx : (¬ j < i) ∨ (j < i ∧ ¬ keys.getD j 0 ≤ ins) := by
          by_cases h : j < i
          · exact .inr ⟨h, (hcut2 j h).2 rfl⟩
          · exact .inl h
        rcases hx with hji | ⟨hji, hnle⟩
        case' inr =>
          have hg1 := hg hji
          generalize keys.getD j 0 = key at hnle hg1
        all_goals (repeat' (first | intro (b : Nat) | refine go ?_ | (refine br ?_ ?_ <;> first | exact trivial | intro hq)))
        all_goals (
          refine C.any (h := ?_)
          refine A.take 1 (k := ?_)
          refine A.take 2 (k := ?_)
          refine A.take 3 (h := PV.slh rfl rfl (by omega) (by have := hSk.le; omega)) (k := ?_)
          refine A.take 5 (k := ?_)
          refine A.take 8 (k := ?_)
          refine A.take 9 (k := ?_)
          refine A.take 10 (h := PV.sll rfl rfl (by omega) (by omega) (by have := hSk.le; omega)) (k := ?_)
          (repeat' (first | intro (b : Nat) | refine go ?_ | refine X.then_any ?_ | refine A.done (k := ?_) | refine A.r1 (h := ?_) | refine A.r2 (h := ?_) (h' := ?_) | refine A.r3 (h := ?_) (h' := ?_) (h'' := ?_)))
          all_goals (
            refine L.appV kE (X := []) (Y := keys.take j) (El.V.one kE (El.Sf.nil kE)) (hq := Pull.perm2 (by (repeat (first | exact Pull.here | apply Pull.there)))) (hm := (by rw [List.length_take]; omega)) (hn := fun W hW => src_take hW (by (repeat (first | exact List.Mem.head _ | apply List.Mem.tail)))) (hb := (by simp only [List.length_append, List.length_take, List.length_drop, List.length_map, List.length_cons, List.length_nil]; omega)) (hb2 := (by simp only [List.length_append, List.length_take, List.length_drop, List.length_map, List.length_cons, List.length_nil]; omega)) (kk := fun v1 H1 hV1 => ?_)
            simp only [List.cons_append, List.nil_append]
            (repeat' (first | intro (b : Nat) | refine go ?_ | refine X.then_any ?_ | refine A.done (k := ?_) | refine A.r1 (h := ?_) | refine A.r2 (h := ?_) (h' := ?_) | refine A.r3 (h := ?_) (h' := ?_) (h'' := ?_)))
            refine L.appV kE (X := keys.take j) (Y := [ins]) hV1 (hq := Tail.perm' (by (repeat (first | exact Tail.nil | apply Tail.cons)))) (hm := rfl) (hn := fun W hW => src_take (X := [ins]) (at_ := 1) (pad := []) hW (by (repeat (first | exact List.Mem.head _ | apply List.Mem.tail)))) (hb := (by simp only [List.length_append, List.length_take, List.length_drop, List.length_map, List.length_cons, List.length_nil]; omega)) (hb2 := (by simp only [List.length_append, List.length_take, List.length_drop, List.length_map, List.length_cons, List.length_nil]; omega)) (kk := fun v2 H2 hV2 => ?_)
            simp only [List.cons_append, List.nil_append]
            (repeat' (first | intro (b : Nat) | refine go ?_ | refine X.then_any ?_ | refine A.done (k := ?_) | refine A.r1 (h := ?_) | refine A.r2 (h := ?_) (h' := ?_) | refine A.r3 (h := ?_) (h' := ?_) (h'' := ?_)))
            refine L.appV kE (X := keys.take j ++ [ins]) (Y := keys.drop j) hV2 (hq := Tail.perm' (by (repeat (first | exact Tail.nil | apply Tail.cons)))) (hm := (by rw [List.length_drop]; omega)) (hn := fun W hW => src_drop hW (by (repeat (first | exact List.Mem.head _ | apply List.Mem.tail))) (by have := hSk.le; omega) eA) (hb := (by simp only [List.length_append, List.length_take, List.length_drop, List.length_map, List.length_cons, List.length_nil]; omega)) (hb2 := (by simp only [List.length_append, List.length_take, List.length_drop, List.length_map, List.length_cons, List.length_nil]; omega)) (kk := fun v3 H3 hV3 => ?_)
            obtain ⟨bk2, ck2, pk2, rfl, rfl, hSk2⟩ := El.of_sls kE (M := keys.take j ++ [ins] ++ keys.drop j) (by simp) hV3
            rw [← eK] at hSk2 ⊢
            rw [hlk2]
            simp only [List.cons_append, List.nil_append]
            (repeat' (first | intro (b : Nat) | refine go ?_ | refine X.then_any ?_ | refine A.done (k := ?_) | refine A.r1 (h := ?_) | refine A.r2 (h := ?_) (h' := ?_) | refine A.r3 (h := ?_) (h' := ?_) (h'' := ?_)))
            refine C.any (h := ?_)
            refine A.take 1 (k := ?_)
            refine A.take 2 (k := ?_)
            refine A.take 3 (h := PV.slh rfl rfl (by omega) (by have := hSo.le; omega)) (k := ?_)
            refine A.take 9 (k := ?_)
            refine A.take 10 (k := ?_)
            refine A.take 11 (h := PV.sll rfl rfl (by omega) (by omega) (by have := hSo.le; omega)) (k := ?_)
            (repeat' (first | intro (b : Nat) | refine go ?_ | refine X.then_any ?_ | refine A.done (k := ?_) | refine A.r1 (h := ?_) | refine A.r2 (h := ?_) (h' := ?_) | refine A.r3 (h := ?_) (h' := ?_) (h'' := ?_)))
            all_goals (
              refine L.appV sE (X := []) (Y := outs.take j) (El.V.one sE (El.Sf.nil sE)) (hq := Pull.perm2 (by (repeat (first | exact Pull.here | apply Pull.there)))) (hm := (by rw [List.length_take]; omega)) (hn := fun W hW => src_take hW (by (repeat (first | exact List.Mem.head _ | apply List.Mem.tail)))) (hb := (by simp only [List.length_append, List.length_take, List.length_drop, List.length_map, List.length_cons, List.length_nil]; omega)) (hb2 := (by simp only [List.length_append, List.length_take, List.length_drop, List.length_map, List.length_cons, List.length_nil]; omega)) (kk := fun v1 H1 hV1 => ?_)
              simp only [List.cons_append, List.nil_append]
              (repeat' (first | intro (b : Nat) | refine go ?_ | refine X.then_any ?_ | refine A.done (k := ?_) | refine A.r1 (h := ?_) | refine A.r2 (h := ?_) (h' := ?_) | refine A.r3 (h := ?_) (h' := ?_) (h'' := ?_)))
              (refine L.call (h := by intro W hW; exact hT W hW.base) (k := ?_))
              (repeat' (first | intro (b : Nat) | refine go ?_ | refine X.then_any ?_ | refine A.done (k := ?_) | refine A.r1 (h := ?_) | refine A.r2 (h := ?_) (h' := ?_) | refine A.r3 (h := ?_) (h' := ?_) (h'' := ?_)))
              refine L.appV sE (X := outs.take j) (Y := [tx]) hV1 (hq := Tail.perm' (by (repeat (first | exact Tail.nil | apply Tail.cons)))) (hm := rfl) (hn := fun W hW => src_take (X := [tx]) (at_ := 1) (pad := []) hW (by (repeat (first | exact List.Mem.head _ | apply List.Mem.tail)))) (hb := (by simp only [List.length_append, List.length_take, List.length_drop, List.length_map, List.length_cons, List.length_nil]; omega)) (hb2 := (by simp only [List.length_append, List.length_take, List.length_drop, List.length_map, List.length_cons, List.length_nil]; omega)) (kk := fun v2 H2 hV2 => ?_)
              simp only [List.cons_append, List.nil_append]
              (repeat' (first | intro (b : Nat) | refine go ?_ | refine X.then_any ?_ | refine A.done (k := ?_) | refine A.r1 (h := ?_) | refine A.r2 (h := ?_) (h' := ?_) | refine A.r3 (h := ?_) (h' := ?_) (h'' := ?_)))
              refine L.appV sE (X := outs.take j ++ [tx]) (Y := outs.drop j) hV2 (hq := Tail.perm' (by (repeat (first | exact Tail.nil | apply Tail.cons)))) (hm := (by rw [List.length_drop]; omega)) (hn := fun W hW => src_drop hW (by (repeat (first | exact List.Mem.head _ | apply List.Mem.tail))) (by have := hSo.le; omega) eA) (hb := (by simp only [List.length_append, List.length_take, List.length_drop, List.length_map, List.length_cons, List.length_nil]; omega)) (hb2 := (by simp only [List.length_append, List.length_take, List.length_drop, List.length_map, List.length_cons, List.length_nil]; omega)) (kk := fun v3 H3 hV3 => ?_)
              obtain ⟨bo2, co2, po2, rfl, rfl, hSo2⟩ := El.of_sls sE (M := outs.take j ++ [tx] ++ outs.drop j) (by simp) hV3
              rw [← eO] at hSo2 ⊢
              rw [hlo2]
              simp only [List.cons_append, List.nil_append]
              (repeat' (first | intro (b : Nat) | refine go ?_ | refine X.then_any ?_ | refine A.done (k := ?_) | refine A.r1 (h := ?_) | refine A.r2 (h := ?_) (h' := ?_) | refine A.r3 (h := ?_) (h' := ?_) (h'' := ?_)))
              (repeat' (first | intro (b : Nat) | refine go ?_ | (refine br ?_ ?_ <;> first | exact trivial | intro hq)))
              subst hO2
              subst hK2
              (refine X.roundw (i + 1, (bo2, co2, po2), (bk2, ck2, pk2)) ⟨by show i + 1 ≤ Ts.length; omega, hok2, hSo2, hSk2⟩ (by show Ts.length - (i + 1) < Ts.length - i; omega)))))
  · obtain rfl : i = Ts.length := by omega
    have hall : allOk Ts := ⟨hl, fun s hs => by
      obtain ⟨j, hj, rfl⟩ := List.getElem_of_mem hs
      have := hok j hj
      rwa [show Ts.getD j ⟨#[]⟩ = Ts[j] by simp [List.getD, hj]] at this⟩
    have eR : sortR Ts = (ordA Ts Ts.length).map txO := by
      unfold ordA
      rw [List.take_length]
      exact if_pos hall
    have hz : ((ordA Ts Ts.length).map txO).length = Ts.length := by rw [List.length_map, hlen]
    rw [eR]
    clear eR hall hlen hSk
    generalize (ordA Ts Ts.length).map txO = outs at *
    generalize (ordA Ts Ts.length).map (fun x => x.2.1) = keys at *
    (repeat' (first | intro (b : Nat) | refine go ?_ | (refine br ?_ ?_ <;> first | exact trivial | intro hq)))
    (apply X.retr [(bo, sE.blk outs po)]; (· exact rfl); (· (repeat (first | exact RVs.nil | (apply RVs.cons; (· first | exact RV.tmp rfl | (apply RV.cellk; exact rfl; (· (repeat (first | exact List.Mem.head _ | apply List.Mem.tail))); (· (repeat (first | exact Rd.nil | apply Rd.take | apply Rd.skip)))) | (apply RV.cell1; exact rfl; (· (repeat (first | exact List.Mem.head _ | apply List.Mem.tail))); (· (repeat (first | exact Rd.nil | apply Rd.take | apply Rd.skip))))))))); (· (repeat (first | exact SubH.nil | (apply SubH.cons; (· first | with_reducible rfl | (simp only [List.cons.injEq, Value.int.injEq, and_true, true_and] <;> omega) | rfl)) | apply SubH.skip | exact SubH.refl))))
    exact ⟨bo, co, po, by rw [hz]; rfl, rfl, hSo⟩

theorem b_StampsSort (p : Option Addr) (c : Nat) (Ts : List ByteArray) (hm : Ts.length ≤ 1000000000000) (hz : ∀ s ∈ Ts, s.size ≤ 1000000000000) (w : World) (hA : sE.Rd w p Ts) (hb : D.Base w) : Calls Tryz.prog 16 #[.slice p Ts.length c] w (Ret w (sE.S (sortR Ts))) := by
  by_cases hl : Ts.length ≤ 20
  · exact b_Sort_small p c Ts hl hz w hA hb
  · exact b_Sort_big p c Ts hl hm w hb

end D
end Go.Proofs.YtpgbmohocfcjpaaGreatDoor
