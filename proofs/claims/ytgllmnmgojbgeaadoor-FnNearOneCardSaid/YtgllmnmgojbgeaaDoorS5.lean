/- Walks of the reference: stamps of instants, rounding. -/
import Derived.Test.YtgllmnmgojbgeaaDoorS3
import Derived.Test.YtgllmnmgojbgeaaDoorS4
import Derived.Test.YtgllmnmgojbgeaaDoorA7
namespace Go.Proofs.YtgllmnmgojbgeaaDoor
set_option linter.unusedVariables false
set_option linter.unusedSimpArgs false
set_option maxRecDepth 100000
set_option maxHeartbeats 1000000
namespace D
open Go.RowKit
attribute [local irreducible] Calls

theorem b_DateOfG (n : Int) (w : World) (hb : D.Base w) : Calls Tryd.prog 72 #[.int .i64 n] w fun e w' => e = .returned (drV (dateOf n)) ∧ Below w.heap.size w w' := by
  cases h : inR n 0 3652058 with
  | true =>
    obtain ⟨y, m, d, h1, rfl, h2⟩ := dateOf_yes h
    rw [h2]
    exact b_DateOf y m d h1 w hb
  | false =>
    rw [dateOf_no h]
    exact b_DateOf_no n h w hb

theorem b_l5Of (n : Int) (h0 : 0 ≤ n ∧ n ≤ 9223372036854775807) (w : World) (hb : D.Base w) : Calls Tryd.prog 91 #[.int .i64 n] w fun e w' => e = .returned (.agg #[.int .i64 (n / 3600000), .int .i64 (n / 60000 % 60), .int .i64 (n / 1000 % 60), .int .i64 (n % 1000)]) ∧ Below w.heap.size w w' := by
  refine enter Tryd.func91 rfl Tryd.ntmps91 rfl (by assumption) ?_
  (repeat' (first | intro (b : Nat) | refine go ?_ | (refine br ?_ ?_ <;> first | exact trivial | intro hq)))
  (refine ret ?_; try exact rfl)

theorem b_l12Ok (n : Int) (w : World) (hb : D.Base w) : Calls Tryd.prog 90 #[.int .i64 n] w fun e w' => e = .returned (.bool (inR n (-86400000) 315537984000000)) ∧ Below w.heap.size w w' := by
  refine enter Tryd.func90 rfl Tryd.ntmps90 rfl (by assumption) ?_
  (repeat' (first | intro (b : Nat) | refine go ?_ | (refine br ?_ ?_ <;> first | exact trivial | intro hq) | refine L.call (h := by intro W hW; apply b_in _ _ _ W hW.base) (k := ?_)))
  (refine ret ?_; try exact rfl)

theorem b_StampAt (n o : Int) (w : World) (hb : D.Base w) : Calls Tryd.prog 57 #[.int .i64 n, .int .i64 o] w fun e w' => e = .returned (srV (stampAt n o)) ∧ Below w.heap.size w w' := by
  cases h2 : inR o (-1439) 1439
  · have e : stampAt n o = SR.no := if_neg (by simp [h2])
    rw [e]
    refine enter Tryd.func57 rfl Tryd.ntmps57 rfl (by assumption) ?_
    (repeat' (first | intro (b : Nat) | refine go ?_ | (refine br ?_ ?_ <;> first | exact trivial | intro hq) | refine L.call (h := by intro W hW; apply rvb h2 (b_in _ _ _ W hW.base)) (k := ?_) | refine gg ?_ | refine G.call (h := by intro W hW; apply rvb h2 (b_in _ _ _ W hW.base)) (k := ?_) | (apply C.draww (id := 9) 6 [some _, none, none, some _, none, none])))
    (refine ret ?_; try exact rfl)
  cases h1 : inR n (-86400000) 315537984000000
  · have e : stampAt n o = SR.no := if_neg (by simp [h1])
    rw [e]
    refine enter Tryd.func57 rfl Tryd.ntmps57 rfl (by assumption) ?_
    (repeat' (first | intro (b : Nat) | refine go ?_ | (refine br ?_ ?_ <;> first | exact trivial | intro hq) | refine L.call (h := by intro W hW; first | apply rvb h2 (b_in _ _ _ W hW.base) | apply rvb h1 (b_l12Ok _ W hW.base)) (k := ?_) | refine gg ?_ | refine G.call (h := by intro W hW; first | apply rvb h2 (b_in _ _ _ W hW.base) | apply rvb h1 (b_l12Ok _ W hW.base)) (k := ?_) | (apply C.draww (id := 9) 6 [some _, none, none, some _, none, none])))
    (refine ret ?_; try exact rfl)
  have hn := inR_true.1 h1
  have ho := inR_true.1 h2
  by_cases hL : 0 ≤ n + 60000 * o
  · have e : stampAt n o = stampL (n + 60000 * o) o := if_pos ⟨h1, h2, hL⟩
    rw [e]
    cases hr : inR ((n + 60000 * o) / 86400000) 0 3652058 with
    | true =>
      obtain ⟨y, m, d, k1, k2, k3⟩ := stampL_yes o hr
      rw [k3, srV]
      have k4 := b_DateOf y m d k1
      rw [k2] at k4
      refine enter Tryd.func57 rfl Tryd.ntmps57 rfl (by assumption) ?_
      (repeat' (first | intro (b : Nat) | refine go ?_ | (refine br ?_ ?_ <;> first | exact trivial | intro hq) | refine L.call (h := by intro W hW; first | apply rvb h2 (b_in _ _ _ W hW.base) | apply rvb h1 (b_l12Ok _ W hW.base) | apply k4 W hW.base | apply b_l5Of _ (by omega) W hW.base) (k := ?_) | refine gg ?_ | refine G.call (h := by intro W hW; first | apply rvb h2 (b_in _ _ _ W hW.base) | apply rvb h1 (b_l12Ok _ W hW.base) | apply k4 W hW.base | apply b_l5Of _ (by omega) W hW.base) (k := ?_) | (apply C.draww (id := 9) 6 [some _, none, none, some _, none, none])))
      (refine ret ?_; try exact rfl)
    | false =>
      rw [stampL_no o hr]
      refine enter Tryd.func57 rfl Tryd.ntmps57 rfl (by assumption) ?_
      (repeat' (first | intro (b : Nat) | refine go ?_ | (refine br ?_ ?_ <;> first | exact trivial | intro hq) | refine L.call (h := by intro W hW; first | apply rvb h2 (b_in _ _ _ W hW.base) | apply rvb h1 (b_l12Ok _ W hW.base) | apply b_DateOf_no _ hr W hW.base) (k := ?_) | refine gg ?_ | refine G.call (h := by intro W hW; first | apply rvb h2 (b_in _ _ _ W hW.base) | apply rvb h1 (b_l12Ok _ W hW.base) | apply b_DateOf_no _ hr W hW.base) (k := ?_) | (apply C.draww (id := 9) 6 [some _, none, none, some _, none, none])))
      (refine ret ?_; try exact rfl)
  · have e : stampAt n o = SR.no := if_neg (fun k => hL k.2.2)
    rw [e]
    refine enter Tryd.func57 rfl Tryd.ntmps57 rfl (by assumption) ?_
    (repeat' (first | intro (b : Nat) | refine go ?_ | (refine br ?_ ?_ <;> first | exact trivial | intro hq) | refine L.call (h := by intro W hW; first | apply rvb h2 (b_in _ _ _ W hW.base) | apply rvb h1 (b_l12Ok _ W hW.base)) (k := ?_) | refine gg ?_ | refine G.call (h := by intro W hW; first | apply rvb h2 (b_in _ _ _ W hW.base) | apply rvb h1 (b_l12Ok _ W hW.base)) (k := ?_) | (apply C.draww (id := 9) 6 [some _, none, none, some _, none, none])))
    (refine ret ?_; try exact rfl)

theorem b_l33Ok (y m d h i s k o u : Int) (w : World) (hb : D.Base w) : Calls Tryd.prog 56 #[.agg #[.int .i64 y, .int .i64 m, .int .i64 d, .int .i64 h, .int .i64 i, .int .i64 s, .int .i64 k, .int .i64 o], .int .i64 u] w fun e w' => e = .returned (.bool (sval y m d h i s k o && isUnit u)) ∧ Below w.heap.size w w' := by
  cases hv : sval y m d h i s k o
  · refine enter Tryd.func56 rfl Tryd.ntmps56 rfl (by assumption) ?_
    (repeat' (first | intro (b : Nat) | refine go ?_ | (refine br ?_ ?_ <;> first | exact trivial | intro hq) | refine L.call (h := by intro W hW; apply rvb hv (b_StampValid _ _ _ _ _ _ _ _ W hW.base)) (k := ?_)))
    all_goals (refine ret ?_; try exact rfl)
  · refine enter Tryd.func56 rfl Tryd.ntmps56 rfl (by assumption) ?_
    (repeat' (first | intro (b : Nat) | refine go ?_ | (refine br ?_ ?_ <;> first | exact trivial | intro hq) | refine L.call (h := by intro W hW; apply rvb hv (b_StampValid _ _ _ _ _ _ _ _ W hW.base)) (k := ?_)))
    all_goals (refine ret ?_; try exact rfl)
    all_goals first | (simp_all [tupleOf, isUnit]; done) | (refine congrArg Value.bool ?_; rw [Bool.eq_iff_iff]; simp [isUnit]; omega)

theorem b_l33Rest (y m d h i s k o u : Int) (hv : sval y m d h i s k o = true) (hu : isUnit u = true) (w : World) (hb : D.Base w) : Calls Tryd.prog 59 #[.agg #[.int .i64 y, .int .i64 m, .int .i64 d, .int .i64 h, .int .i64 i, .int .i64 s, .int .i64 k, .int .i64 o], .int .i64 u] w fun e w' => e = .returned (.int .i64 (cms h i s k % u)) ∧ Below w.heap.size w w' := by
  obtain ⟨h1, h2, h3, h4⟩ := sval_parts hv
  have hc := cms_bd h2
  have hu' := isUnit_iff.1 hu
  refine enter Tryd.func59 rfl Tryd.ntmps59 rfl (by assumption) ?_
  (repeat' (first | intro (b : Nat) | refine go ?_ | (refine br ?_ ?_ <;> first | exact trivial | intro hq) | refine L.call (h := by intro W hW; apply b_ClockMillis _ _ _ _ h2 W hW.base) (k := ?_)))
  (refine ret ?_; try exact rfl)

theorem b_RoundDown (y m d h i s k o u : Int) (w : World) (hb : D.Base w) :
    Calls Tryd.prog 22 #[.agg #[.int .i64 y, .int .i64 m, .int .i64 d, .int .i64 h, .int .i64 i, .int .i64 s, .int .i64 k, .int .i64 o], .int .i64 u] w fun e w' => e = .returned (srV (roundV (sval y m d h i s k o && isUnit u) (rdL (inst y m d h i s k o + 60000 * o) u) o)) ∧ Below w.heap.size w w' := by
  cases hk : sval y m d h i s k o && isUnit u
  · refine enter Tryd.func22 rfl Tryd.ntmps22 rfl (by assumption) ?_
    (repeat' (first | intro (b : Nat) | refine go ?_ | (refine br ?_ ?_ <;> first | exact trivial | intro hq) | refine L.call (h := by intro W hW; apply rvb hk (b_l33Ok _ _ _ _ _ _ _ _ _ W hW.base)) (k := ?_) | refine gg ?_ | refine G.call (h := by intro W hW; apply rvb hk (b_l33Ok _ _ _ _ _ _ _ _ _ W hW.base)) (k := ?_) | (apply C.draww (id := 3) 11 [some _, some _, some _, none, some _, none, none, some _, some _, none, none])))
    (refine ret ?_; try exact rfl)
  · obtain ⟨hv, hu⟩ := Bool.and_eq_true_iff.1 hk
    obtain ⟨h1, h2, h3, h4⟩ := sval_parts hv
    have hc := cms_bd h2
    have hi := inst_bd hv
    have hu' := isUnit_iff.1 hu
    have hS := b_StampAt (inst y m d h i s k o - cms h i s k % u) o
    have e : rdL (inst y m d h i s k o + 60000 * o) u - 60000 * o = inst y m d h i s k o - cms h i s k % u := by
      have e1 : inst y m d h i s k o + 60000 * o = 86400000 * num y m d + cms h i s k := by unfold inst; omega
      rw [e1, rdL_eq hu]; omega
    have hm : 0 ≤ cms h i s k % u ∧ cms h i s k % u < 86400000 := by rcases hu' with rfl | rfl | rfl | rfl <;> omega
    rw [roundV, if_pos rfl, e]
    generalize stampAt (inst y m d h i s k o - cms h i s k % u) o = S at hS ⊢
    obtain ⟨s1, s2, s3, s4, s5, s6, s7, s8, s9⟩ := S
    simp only [srV] at hS ⊢
    clear e
    refine enter Tryd.func22 rfl Tryd.ntmps22 rfl (by assumption) ?_
    (repeat' (first | intro (b : Nat) | refine go ?_ | (refine br ?_ ?_ <;> first | exact trivial | intro hq) | refine L.call (h := by intro W hW; first | apply rvb hk (b_l33Ok _ _ _ _ _ _ _ _ _ W hW.base) | apply b_l12 _ _ _ _ _ _ _ _ hv W hW.base | apply b_l33Rest _ _ _ _ _ _ _ _ _ hv hu W hW.base | apply hS W hW.base) (k := ?_) | refine gg ?_ | refine G.call (h := by intro W hW; first | apply rvb hk (b_l33Ok _ _ _ _ _ _ _ _ _ W hW.base) | apply b_l12 _ _ _ _ _ _ _ _ hv W hW.base | apply b_l33Rest _ _ _ _ _ _ _ _ _ hv hu W hW.base | apply hS W hW.base) (k := ?_) | (apply C.draww (id := 3) 11 [some _, some _, some _, none, some _, none, none, some _, some _, none, none])))
    (refine ret ?_; try exact rfl)

theorem b_RoundUp (y m d h i s k o u : Int) (w : World) (hb : D.Base w) :
    Calls Tryd.prog 27 #[.agg #[.int .i64 y, .int .i64 m, .int .i64 d, .int .i64 h, .int .i64 i, .int .i64 s, .int .i64 k, .int .i64 o], .int .i64 u] w fun e w' => e = .returned (srV (roundV (sval y m d h i s k o && isUnit u) (ruL (inst y m d h i s k o + 60000 * o) u) o)) ∧ Below w.heap.size w w' := by
  cases hk : sval y m d h i s k o && isUnit u
  · refine enter Tryd.func27 rfl Tryd.ntmps27 rfl (by assumption) ?_
    (repeat' (first | intro (b : Nat) | refine go ?_ | (refine br ?_ ?_ <;> first | exact trivial | intro hq) | refine L.call (h := by intro W hW; apply rvb hk (b_l33Ok _ _ _ _ _ _ _ _ _ W hW.base)) (k := ?_) | refine gg ?_ | refine G.call (h := by intro W hW; apply rvb hk (b_l33Ok _ _ _ _ _ _ _ _ _ W hW.base)) (k := ?_) | (apply C.draww (id := 3) 15 [some _, some _, none, some _, none, some _, none, none, none, none, none, some _, some _, none, none])))
    (refine ret ?_; try exact rfl)
  · obtain ⟨hv, hu⟩ := Bool.and_eq_true_iff.1 hk
    obtain ⟨h1, h2, h3, h4⟩ := sval_parts hv
    have hc := cms_bd h2
    have hi := inst_bd hv
    have hu' := isUnit_iff.1 hu
    have hS := b_StampAt (inst y m d h i s k o + (u - cms h i s k % u) % u) o
    have e : ruL (inst y m d h i s k o + 60000 * o) u - 60000 * o = inst y m d h i s k o + (u - cms h i s k % u) % u := by
      have e1 : inst y m d h i s k o + 60000 * o = 86400000 * num y m d + cms h i s k := by unfold inst; omega
      rw [e1, ruL_eq hu]; omega
    have hm : 0 ≤ u - cms h i s k % u ∧ u - cms h i s k % u ≤ 86400000 ∧ 0 ≤ cms h i s k % u ∧ 0 ≤ (u - cms h i s k % u) % u ∧ (u - cms h i s k % u) % u < 86400000 := by rcases hu' with rfl | rfl | rfl | rfl <;> omega
    rw [roundV, if_pos rfl, e]
    generalize stampAt (inst y m d h i s k o + (u - cms h i s k % u) % u) o = S at hS ⊢
    obtain ⟨s1, s2, s3, s4, s5, s6, s7, s8, s9⟩ := S
    simp only [srV] at hS ⊢
    clear e
    refine enter Tryd.func27 rfl Tryd.ntmps27 rfl (by assumption) ?_
    (repeat' (first | intro (b : Nat) | refine go ?_ | (refine br ?_ ?_ <;> first | exact trivial | intro hq) | refine L.call (h := by intro W hW; first | apply rvb hk (b_l33Ok _ _ _ _ _ _ _ _ _ W hW.base) | apply b_l12 _ _ _ _ _ _ _ _ hv W hW.base | apply b_l33Rest _ _ _ _ _ _ _ _ _ hv hu W hW.base | apply hS W hW.base) (k := ?_) | refine gg ?_ | refine G.call (h := by intro W hW; first | apply rvb hk (b_l33Ok _ _ _ _ _ _ _ _ _ W hW.base) | apply b_l12 _ _ _ _ _ _ _ _ hv W hW.base | apply b_l33Rest _ _ _ _ _ _ _ _ _ hv hu W hW.base | apply hS W hW.base) (k := ?_) | (apply C.draww (id := 3) 15 [some _, some _, none, some _, none, some _, none, none, none, none, none, some _, some _, none, none])))
    (refine ret ?_; try exact rfl)

theorem b_RoundNear (y m d h i s k o u : Int) (w : World) (hb : D.Base w) :
    Calls Tryd.prog 34 #[.agg #[.int .i64 y, .int .i64 m, .int .i64 d, .int .i64 h, .int .i64 i, .int .i64 s, .int .i64 k, .int .i64 o], .int .i64 u] w fun e w' => e = .returned (srV (roundV (sval y m d h i s k o && isUnit u) (rnL (inst y m d h i s k o + 60000 * o) u) o)) ∧ Below w.heap.size w w' := by
  have hD := b_RoundDown y m d h i s k o u
  have hU := b_RoundUp y m d h i s k o u
  cases hk : sval y m d h i s k o && isUnit u
  · rw [hk] at hU
    have e : srV (roundV false (ruL (inst y m d h i s k o + 60000 * o) u) o) = srV (roundV false (rnL (inst y m d h i s k o + 60000 * o) u) o) := rfl
    rw [e] at hU
    have e2 : srV (roundV false (rnL (inst y m d h i s k o + 60000 * o) u) o) = srV SR.no := rfl
    rw [e2] at hU ⊢
    simp only [srV, SR.no] at hU ⊢
    refine enter Tryd.func34 rfl Tryd.ntmps34 rfl (by assumption) ?_
    (repeat' (first | intro (b : Nat) | refine go ?_ | (refine br ?_ ?_ <;> first | exact trivial | intro hq) | refine L.call (h := by intro W hW; first | apply rvb hk (b_l33Ok _ _ _ _ _ _ _ _ _ W hW.base) | apply hU W hW.base) (k := ?_)))
    (refine ret ?_; try exact rfl)
  · obtain ⟨hv, hu⟩ := Bool.and_eq_true_iff.1 hk
    obtain ⟨h1, h2, h3, h4⟩ := sval_parts hv
    have hc := cms_bd h2
    have hu' := isUnit_iff.1 hu
    have e : rnL (inst y m d h i s k o + 60000 * o) u = if 2 * (cms h i s k % u) < u then rdL (inst y m d h i s k o + 60000 * o) u else ruL (inst y m d h i s k o + 60000 * o) u := by
      have e1 : inst y m d h i s k o + 60000 * o = 86400000 * num y m d + cms h i s k := by unfold inst; omega
      rw [e1, rnL_eq hu]
    have hm : 0 ≤ cms h i s k % u ∧ cms h i s k % u < 86400000 := by rcases hu' with rfl | rfl | rfl | rfl <;> omega
    rw [e]
    by_cases hlt : 2 * (cms h i s k % u) < u
    · rw [if_pos hlt]
      rw [hk] at hD
      generalize roundV true (rdL (inst y m d h i s k o + 60000 * o) u) o = S at hD ⊢
      obtain ⟨s1, s2, s3, s4, s5, s6, s7, s8, s9⟩ := S
      simp only [srV] at hD ⊢
      clear e
      refine enter Tryd.func34 rfl Tryd.ntmps34 rfl (by assumption) ?_
      (repeat' (first | intro (b : Nat) | refine go ?_ | (refine br ?_ ?_ <;> first | exact trivial | intro hq) | refine L.call (h := by intro W hW; first | apply rvb hk (b_l33Ok _ _ _ _ _ _ _ _ _ W hW.base) | apply b_l33Rest _ _ _ _ _ _ _ _ _ hv hu W hW.base | apply hD W hW.base) (k := ?_)))
      (refine ret ?_; try exact rfl)
    · rw [if_neg hlt]
      rw [hk] at hU
      generalize roundV true (ruL (inst y m d h i s k o + 60000 * o) u) o = S at hU ⊢
      obtain ⟨s1, s2, s3, s4, s5, s6, s7, s8, s9⟩ := S
      simp only [srV] at hU ⊢
      clear e
      refine enter Tryd.func34 rfl Tryd.ntmps34 rfl (by assumption) ?_
      (repeat' (first | intro (b : Nat) | refine go ?_ | (refine br ?_ ?_ <;> first | exact trivial | intro hq) | refine L.call (h := by intro W hW; first | apply rvb hk (b_l33Ok _ _ _ _ _ _ _ _ _ W hW.base) | apply b_l33Rest _ _ _ _ _ _ _ _ _ hv hu W hW.base | apply hU W hW.base) (k := ?_)))
      (refine ret ?_; try exact rfl)

end D
end Go.Proofs.YtgllmnmgojbgeaaDoor
