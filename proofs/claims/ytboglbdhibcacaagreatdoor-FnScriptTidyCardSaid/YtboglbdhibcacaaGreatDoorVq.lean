/- strings.Join, by the library's own proved summary, laid at this program. -/
import Derived.Shelf.Strings.OnBuilder
import Derived.Test.YtboglbdhibcacaaGreatDoorVEI
import Derived.Test.YtboglbdhibcacaaGreatDoorVo
import Derived.Test.YtboglbdhibcacaaGreatDoorVp
import Derived.Test.YtboglbdhibcacaaGreatDoorVB6
import Derived.Test.YtboglbdhibcacaaGreatDoorVm
import Derived.Test.YtboglbdhibcacaaGreatDoorVc
import Derived.Test.YtboglbdhibcacaaGreatDoorVIt
namespace Go.Proofs.YtboglbdhibcacaaGreatDoor
set_option linter.unusedVariables false
set_option linter.unusedSimpArgs false
set_option maxRecDepth 100000
set_option maxHeartbeats 2000000
namespace D
open Go.RowKit
open Go.Shelf

def joRen : Go.Shelf.Ren := ⟨fun | 156 => 63 | 165 => 101 | 166 => 22 | 169 => 25 | 240 => 33 | 241 => 157 | 276 => 59 | 277 => 198 | n => n, fun | 31 => 35 | 9 => 9 | 3 => 3 | 4 => 4 | 0 => 0 | 20 => 20 | 72 => 34 | 76 => 39 | 70 => 32 | 37 => 22 | 75 => 38 | 127 => 57 | 164 => 77 | 5 => 5 | 80 => 42 | n => n, fun | n => n⟩

theorem joLays : Go.Proofs.Lays.n156 Tryz.prog joRen := {
  mixed := by kernel_rfl
  f156 := Tryz.func63.trans (congrArg some (by kernel_rfl))
  f165 := Tryz.func101.trans (congrArg some (by kernel_rfl))
  f166 := Tryz.func22.trans (congrArg some (by kernel_rfl))
  f169 := Tryz.func25.trans (congrArg some (by kernel_rfl))
  f240 := Tryz.func33.trans (congrArg some (by kernel_rfl))
  f241 := Tryz.func157.trans (congrArg some (by kernel_rfl))
  f276 := Tryz.func59.trans (congrArg some (by kernel_rfl))
  f277 := Tryz.func198.trans (congrArg some (by kernel_rfl))
  t0 := Tryz.underlying0
  a0 := Tryz.isAgg0
  z0 := Tryz.sizeOf0
  v0 := Tryz.zeroValue0
  t3 := Tryz.underlying3
  a3 := Tryz.isAgg3
  z3 := Tryz.sizeOf3
  v3 := Tryz.zeroValue3
  t4 := Tryz.underlying4
  a4 := Tryz.isAgg4
  z4 := Tryz.sizeOf4
  v4 := Tryz.zeroValue4
  t9 := Tryz.underlying9
  a9 := Tryz.isAgg9
  z9 := Tryz.sizeOf9
  v9 := Tryz.zeroValue9
  t20 := Tryz.underlying20
  a20 := Tryz.isAgg20
  z20 := Tryz.sizeOf20
  v20 := Tryz.zeroValue20
  t31 := Tryz.underlying35
  a31 := Tryz.isAgg35
  z31 := Tryz.sizeOf35
  v31 := Tryz.zeroValue35
  t37 := Tryz.underlying22
  a37 := Tryz.isAgg22
  z37 := Tryz.sizeOf22
  v37 := Tryz.zeroValue22
  t70 := Tryz.underlying32
  a70 := Tryz.isAgg32
  z70 := Tryz.sizeOf32
  v70 := Tryz.zeroValue32
  t72 := Tryz.underlying34
  a72 := Tryz.isAgg34
  z72 := Tryz.sizeOf34
  v72 := Tryz.zeroValue34
  t75 := Tryz.underlying38
  a75 := Tryz.isAgg38
  z75 := Tryz.sizeOf38
  v75 := Tryz.zeroValue38
  t76 := Tryz.underlying39
  a76 := Tryz.isAgg39
  z76 := Tryz.sizeOf39
  v76 := Tryz.zeroValue39
  t127 := Tryz.underlying57
  a127 := Tryz.isAgg57
  z127 := Tryz.sizeOf57
  v127 := Tryz.zeroValue57
  t164 := Tryz.underlying77
  a164 := Tryz.isAgg77
  z164 := Tryz.sizeOf77
  v164 := Tryz.zeroValue77 }

theorem joExtra : Go.Proofs.Builder.Extra Tryz.prog joRen := {
  sizeBuilder := by kernel_rfl
  liesBuilder := by kernel_rfl
  t5 := Tryz.underlying5
  a5 := Tryz.isAgg5
  z5 := Tryz.sizeOf5
  v5 := Tryz.zeroValue5
  infoByte := by kernel_rfl
  cellsByte := by kernel_rfl
  sizeByte := by kernel_rfl
  neB5 := by decide }

/-- strings.Join. -/
theorem a_Join (bk o c : Nat) (xs : List ByteArray) (sep : ByteArray) (w : World) (hcells : ∀ (j : Nat) x, xs[j]? = some x → w.cell? ⟨bk, o + j, none⟩ = some (.string x)) (hbk : bk < w.heap.size) (hN : xs.length ≤ 140737488355328) (hcap : xs.length ≤ c) (hlen : (Lib.join (xs.map (·.data.toList)) sep.data.toList).length ≤ 140737488355328) :
    Calls Tryz.prog 63 #[.slice (some ⟨bk, o, none⟩) xs.length c, .string sep] w fun e w' => e = .returned (.string ⟨(Lib.join (xs.map (·.data.toList)) sep.data.toList).toArray⟩) ∧ Below w.heap.size w w' := Any.strings_Join joLays joExtra bk o c xs sep w hcells hbk hN hcap hlen

end D
end Go.Proofs.YtboglbdhibcacaaGreatDoor

namespace Go.Proofs.YtboglbdhibcacaaGreatDoor
set_option linter.unusedVariables false
set_option linter.unusedSimpArgs false
set_option maxRecDepth 100000
set_option maxHeartbeats 2000000
namespace D
open Go.RowKit
open Go.PlainAid (bt bt_nonneg bt_le bt_end)
attribute [local irreducible] Calls

abbrev okW (r : ByteArray × Bool) : Value := .tuple #[.string r.1, .bool r.2]

theorem a_tidyW (b o n c : Nat) (s : ByteArray) (hs : s.size ≤ 1000000000000) (hn : 1 ≤ n) (w : World) (h1 : w.cell? ⟨b, o + (0 : Int).toNat * 1, none⟩ = some (.string s)) (hb : D.Base w) (hg : Hdl w) :
    Calls Tryz.prog 35 #[.agg #[], .slice (some ⟨b, o, none⟩) n c] w fun e w' => e = .returned (okW (tidyW s)) ∧ Below w.heap.size w w' := by
  have hT := a_StampTidy s hs
  rw [tidy_val s] at hT
  refine enter Tryz.func35 rfl Tryz.ntmps35 rfl (by assumption) ?_
  (repeat' (first | intro (b : Nat) | refine go ?_ | (refine br ?_ ?_ <;> first | exact trivial | intro hq) | refine L.call (h := by intro W hW; apply hT W hW.base (hW.old hg)) (k := ?_)))
  (refine ret ?_; try exact rfl)

theorem a_eastW (b o n c : Nat) (s : ByteArray) (hs : s.size ≤ 1000000000000) (hn : 1 ≤ n) (w : World) (h1 : w.cell? ⟨b, o + (0 : Int).toNat * 1, none⟩ = some (.string s)) (hb : D.Base w) :
    Calls Tryz.prog 36 #[.agg #[], .slice (some ⟨b, o, none⟩) n c] w fun e w' => e = .returned (okW (eastW s)) ∧ Below w.heap.size w w' := by
  have hD := a_DigitsGet s 0 0 4 4 rfl rfl hs (Nat.zero_le _) (by omega)
  have hE := a_EasterOf (numV s 0 4)
  by_cases hc : (allD s 0 4 = true ∧ s.size = 4) ∧ inR (numL s 0 4) 1583 9999 = true
  · obtain ⟨⟨hd, hz⟩, hy⟩ := hc
    have hT := a_DateText (numL s 0 4) (eNn (numL s 0 4) / 31) (eNn (numL s 0 4) % 31 + 1) 0 true
    rw [show dtS (numL s 0 4) (eNn (numL s 0 4) / 31) (eNn (numL s 0 4) % 31 + 1) 0 true = _ from if_pos ⟨eas_val hy, rfl⟩] at hT
    rw [show numV s 0 4 = numL s 0 4 from if_pos hd, hd] at hD
    rw [show numV s 0 4 = numL s 0 4 from if_pos hd, show easV (numL s 0 4) = _ from if_pos hy] at hE
    rw [show eastW s = _ from if_pos ⟨⟨hd, hz⟩, hy⟩]
    refine enter Tryz.func36 rfl Tryz.ntmps36 rfl (by assumption) ?_
    (repeat' (first | intro (b : Nat) | refine go ?_ | (refine br ?_ ?_ <;> first | exact trivial | intro hq) | refine L.call (h := by intro W hW; first | apply hD W hW.base | apply hE W hW.base | apply hT W hW.base) (k := ?_)))
    (refine ret ?_; try exact rfl)
  · rw [show eastW s = _ from if_neg hc]
    cases hd : allD s 0 4 with
    | false =>
      rw [hd] at hD
      refine enter Tryz.func36 rfl Tryz.ntmps36 rfl (by assumption) ?_
      (repeat' (first | intro (b : Nat) | refine go ?_ | (refine br ?_ ?_ <;> first | exact trivial | intro hq) | refine L.call (h := by intro W hW; apply hD W hW.base) (k := ?_)))
      (refine ret ?_; try exact rfl)
    | true =>
      rw [hd] at hD
      by_cases hz : s.size = 4
      · have hy : ¬ inR (numL s 0 4) 1583 9999 = true := fun h => hc ⟨⟨hd, hz⟩, h⟩
        rw [show numV s 0 4 = numL s 0 4 from if_pos hd] at hD
        rw [show numV s 0 4 = numL s 0 4 from if_pos hd, show easV (numL s 0 4) = _ from if_neg hy] at hE
        refine enter Tryz.func36 rfl Tryz.ntmps36 rfl (by assumption) ?_
        (repeat' (first | intro (b : Nat) | refine go ?_ | (refine br ?_ ?_ <;> first | exact trivial | intro hq) | refine L.call (h := by intro W hW; first | apply hD W hW.base | apply hE W hW.base) (k := ?_)))
        (refine ret ?_; try exact rfl)
      · refine enter Tryz.func36 rfl Tryz.ntmps36 rfl (by assumption) ?_
        (repeat' (first | intro (b : Nat) | refine go ?_ | (refine br ?_ ?_ <;> first | exact trivial | intro hq) | refine L.call (h := by intro W hW; apply hD W hW.base) (k := ?_)))
        (refine ret ?_; try exact rfl)

instance : Ag Tryz.prog 50 0 := ⟨⟨_, Tryz.underlying50, rfl⟩, by kernel_rfl⟩

theorem join3 (x y z : ByteArray) : (⟨(Lib.join ([x, y, z].map (·.data.toList)) s32.data.toList).toArray⟩ : ByteArray) = x ++ s32 ++ y ++ s32 ++ z := by
  apply ByteArray.ext
  apply Array.ext'
  simp [Lib.join, List.intercalate]

theorem a_JoinAt {w0 W : World} {hs : SH} (b c : Nat) (pad : List Value) (x y z : ByteArray) (hc : 3 ≤ c) (hz : x.size + y.size + z.size ≤ 1000) (hst : St w0 hs W) (hm : (b, sE.blk ([] ++ [x] ++ [y] ++ [z]) pad) ∈ hs) :
    Calls Tryz.prog 63 #[.slice (some ⟨b, 0, none⟩) 3 c, .string s32] W fun e w' => e = .returned (.string ⟨(Lib.join ([x, y, z].map (·.data.toList)) s32.data.toList).toArray⟩) ∧ Below W.heap.size W w' := by
  have hR := sE.own hst hm
  refine a_Join b 0 c [x, y, z] s32 W (fun j t hj => ?_) (lt_of_some (hst.heap hm)) (by simp) hc ?_
  · obtain ⟨b', o', e, h⟩ := hR j t hj
    cases e
    have := h 0 (.string t) rfl
    rw [Nat.zero_add, Nat.mul_one, Nat.add_zero] at this
    rw [Nat.zero_add]
    exact this
  · have h2 := congrArg (fun t : ByteArray => t.size) (join3 x y z)
    have h3 : s32.size = 1 := rfl
    simp only [ByteArray.size_append, h3] at h2
    have h4 : ((Lib.join ([x, y, z].map (·.data.toList)) s32.data.toList).toArray).size = x.size + 1 + y.size + 1 + z.size := h2
    rw [List.size_toArray] at h4
    omega

theorem a_dateW (b o n c : Nat) (s : ByteArray) (hs : s.size ≤ 1000000000000) (hn : 1 ≤ n) (w : World) (h1 : w.cell? ⟨b, o + (0 : Int).toNat * 1, none⟩ = some (.string s)) (hb : D.Base w) :
    Calls Tryz.prog 34 #[.agg #[], .slice (some ⟨b, o, none⟩) n c] w fun e w' => e = .returned (okW (dateW s)) ∧ Below w.heap.size w w' := by
  have hD := a_DateFrom s hs
  rw [df_eq s] at hD
  rcases dateR_ok s with ⟨r, f, h, e1, hv, e2⟩ | ⟨e1, e2⟩
  · rw [e2] at hD
    have e3 : dateW s = (dt3 r.y r.m r.d, true) := by unfold dateW; rw [e1]
    rw [e3]
    have ht0 := a_dateText0 r.y r.m r.d true hv
    have ht1 := a_dateText1 r.y r.m r.d true hv
    have ht2 := a_dateText2 r.y r.m r.d true hv
    have z0 := dtL_sz r.y r.m r.d 0
    have z1 := dtL_sz r.y r.m r.d 1
    have z2 := dtL_sz r.y r.m r.d 2
    have hj : _ = dt3 r.y r.m r.d := join3 (strOfNums (dtL r.y r.m r.d 0 true)) (strOfNums (dtL r.y r.m r.d 1 true)) (strOfNums (dtL r.y r.m r.d 2 true))
    generalize strOfNums (dtL r.y r.m r.d 0 true) = x0 at *
    generalize strOfNums (dtL r.y r.m r.d 1 true) = x1 at *
    generalize strOfNums (dtL r.y r.m r.d 2 true) = x2 at *
    refine enter Tryz.func34 rfl Tryz.ntmps34 rfl (by assumption) ?_
    (repeat' (first | intro (b : Nat) | refine go ?_ | (refine br ?_ ?_ <;> first | exact trivial | intro hq)))
    (refine L.call (h := by intro W hW; exact hD W hW.base) (k := ?_))
    (repeat' (first | intro (b : Nat) | refine go ?_ | (refine br ?_ ?_ <;> first | exact trivial | intro hq)))
    (refine L.slcall (h := by intro W hW; exact a_forms W hW.base) (k := ?_); intro b)
    (repeat' (first | intro (b : Nat) | refine go ?_ | (refine br ?_ ?_ <;> first | exact trivial | intro hq)))
    refine C.rounds 3 ?_
    (repeat' (first | intro (b : Nat) | refine go ?_ | (refine br ?_ ?_ <;> first | exact trivial | intro hq)))
    (refine L.call (h := by intro W hW; exact ht0 W hW.base) (k := ?_))
    (repeat' (first | intro (b : Nat) | refine go ?_ | (refine br ?_ ?_ <;> first | exact trivial | intro hq)))
    refine L.gapp sE (El.Sf.nil sE) (hb := Nat.le_of_ble_eq_true rfl) (hb2 := Nat.le_of_ble_eq_true rfl) (kk := fun b1 c1 p1 hS1 => ?_)
    (repeat' (first | intro (b : Nat) | refine go ?_ | (refine br ?_ ?_ <;> first | exact trivial | intro hq)))
    (refine L.call (h := by intro W hW; exact ht1 W hW.base) (k := ?_))
    (repeat' (first | intro (b : Nat) | refine go ?_ | (refine br ?_ ?_ <;> first | exact trivial | intro hq)))
    refine L.gapp sE hS1 (hb := Nat.le_of_ble_eq_true rfl) (hb2 := Nat.le_of_ble_eq_true rfl) (kk := fun b2 c2 p2 hS2 => ?_)
    (repeat' (first | intro (b : Nat) | refine go ?_ | (refine br ?_ ?_ <;> first | exact trivial | intro hq)))
    (refine L.call (h := by intro W hW; exact ht2 W hW.base) (k := ?_))
    (repeat' (first | intro (b : Nat) | refine go ?_ | (refine br ?_ ?_ <;> first | exact trivial | intro hq)))
    refine L.gapp sE hS2 (hb := Nat.le_of_ble_eq_true rfl) (hb2 := Nat.le_of_ble_eq_true rfl) (kk := fun b3 c3 p3 hS3 => ?_)
    (repeat' (first | intro (b : Nat) | refine go ?_ | (refine br ?_ ?_ <;> first | exact trivial | intro hq)))
    (refine L.call (h := by intro W hW; exact a_JoinAt b3 c3 p3 x0 x1 x2 hS3.le (by omega) hW (by (repeat (first | exact List.Mem.head _ | apply List.Mem.tail)))) (k := ?_))
    (repeat' (first | intro (b : Nat) | refine go ?_ | (refine br ?_ ?_ <;> first | exact trivial | intro hq)))
    rw [hj]
    (refine ret ?_; try exact rfl)
  · rw [e2] at hD
    have e3 : dateW s = (sNil, false) := by unfold dateW; rw [e1]
    rw [e3]
    refine enter Tryz.func34 rfl Tryz.ntmps34 rfl (by assumption) ?_
    (repeat' (first | intro (b : Nat) | refine go ?_ | (refine br ?_ ?_ <;> first | exact trivial | intro hq) | refine L.call (h := by intro W hW; apply hD W hW.base) (k := ?_)))
    (refine ret ?_; try exact rfl)

theorem stT_none : stT 0 0 0 0 0 0 0 0 = sNil := if_neg (by decide)
theorem spanR_or (s : ByteArray) : (∃ S T : SR, spanR s = .tuple #[sa S, sa T, .bool true] ∧ valS S ∧ valS T) ∨ spanR s = spNo := by
  by_cases h : ∃ j, oneSl s j
  · obtain ⟨j, hj⟩ := h
    rw [spanR_yes hj]
    unfold spanAt spV
    split
    · rename_i hh
      exact .inl ⟨_, _, rfl, spA_val hh.1, spB_val hh.2.1⟩
    · exact .inr rfl
  · exact .inr (spanR_no fun j hj => h ⟨j, hj⟩)
theorem stampAt_no {n o : Int} (h : (stampAt n o).ok = false) : stampAt n o = SR.no := by
  unfold stampAt stampL at *
  split
  · rename_i h1
    rw [if_pos h1] at h
    split
    · rename_i h2
      rw [if_pos h2] at h
      cases h
    · rfl
  · rfl
theorem plusO_no {S : SR} {p : P6} {back : Bool} (h : (plusO S (some p) back).ok = false) : plusO S (some p) back = SR.no := by
  have e : plusO S (some p) back = splus S.y S.m S.d S.h S.i S.s S.k S.o p.a p.b p.c p.d p.e p.f back := rfl
  rw [e] at h ⊢
  unfold splus at *
  split
  · rename_i h1
    rw [if_pos h1] at h
    exact stampAt_no h
  · rfl

theorem a_spanW (b o n c : Nat) (s : ByteArray) (hs : s.size ≤ 1000000000000) (hn : 1 ≤ n) (w : World) (h1 : w.cell? ⟨b, o + (0 : Int).toNat * 1, none⟩ = some (.string s)) (hb : D.Base w) (hg : Hdl w) :
    Calls Tryz.prog 37 #[.agg #[], .slice (some ⟨b, o, none⟩) n c] w fun e w' => e = .returned (okW (spanW s)) ∧ Below w.heap.size w w' := by
  have hT := a_SpanFromR s hs
  rcases spanR_or s with ⟨S, T, e1, h2, h3⟩ | e1
  · rw [e1] at hT
    have ha := a_StampText S.y S.m S.d S.h S.i S.s S.k S.o
    have hb2 := a_StampText T.y T.m T.d T.h T.i T.s T.k T.o
    rw [stT_of h2] at ha
    rw [stT_of h3] at hb2
    rw [spanW_yes e1]
    have z1 := txS_sz S
    have z2 := txS_sz T
    generalize txS S = x at *
    generalize txS T = y at *
    have hz : s32.size = 1 := rfl
    have hz2 : (x ++ s32).size = x.size + 1 := by rw [ByteArray.size_append, hz]
    refine enter Tryz.func37 rfl Tryz.ntmps37 rfl (by assumption) ?_
    (repeat' (first | intro (b : Nat) | refine go ?_ | (refine br ?_ ?_ <;> first | exact trivial | intro hq) | refine L.call (h := by intro W hW; first | apply hT W hW.base (hW.old hg) | apply ha W hW.base | apply hb2 W hW.base) (k := ?_) | refine gg ?_ | refine G.call (h := by intro W hW; first | apply hT W hW.base (hW.old hg) | apply ha W hW.base | apply hb2 W hW.base) (k := ?_) | (apply C.draww (id := 2) 9 [some _, some _, none, some _, some _, none, none, none, none])))
    (refine ret ?_; try exact rfl)
  · rw [e1] at hT
    have ha := a_StampText 0 0 0 0 0 0 0 0
    rw [stT_none] at ha
    rw [spanW_no e1]
    refine enter Tryz.func37 rfl Tryz.ntmps37 rfl (by assumption) ?_
    (repeat' (first | intro (b : Nat) | refine go ?_ | (refine br ?_ ?_ <;> first | exact trivial | intro hq) | refine L.call (h := by intro W hW; first | apply hT W hW.base (hW.old hg) | apply ha W hW.base) (k := ?_) | refine gg ?_ | refine G.call (h := by intro W hW; first | apply hT W hW.base (hW.old hg) | apply ha W hW.base) (k := ?_) | (apply C.draww (id := 2) 9 [some _, some _, none, some _, some _, none, none, none, none])))
    (refine ret ?_; try exact rfl)

theorem a_shifted (b o n c : Nat) (s t : ByteArray) (back : Bool) (hs : s.size ≤ 1000000000000) (ht : t.size ≤ 1000000000000) (hn : 2 ≤ n) (w : World) (h1 : w.cell? ⟨b, o + (0 : Int).toNat * 1, none⟩ = some (.string s)) (h2 : w.cell? ⟨b, o + (1 : Int).toNat * 1, none⟩ = some (.string t)) (hb : D.Base w) (hg : Hdl w) :
    Calls Tryz.prog 70 #[.agg #[], .slice (some ⟨b, o, none⟩) n c, .bool back] w fun e w' => e = .returned (okW (plusW s t back)) ∧ Below w.heap.size w w' := by
  have hS := a_StampFrom s hs
  have hP := a_PeriodFrom t ht
  have hst := @stampR_ok s
  unfold plusW
  rw [show stR s (cutP s) = stampR s from rfl] at hS
  generalize stampR s = S at *
  cases hk : S.ok with
  | false =>
    unfold srV at hS
    rw [hk] at hS
    cases hp : perR t with
    | none =>
      rw [hp] at hP
      refine enter Tryz.func70 rfl Tryz.ntmps70 rfl (by assumption) ?_
      (repeat' (first | intro (b : Nat) | refine go ?_ | (refine br ?_ ?_ <;> first | exact trivial | intro hq) | refine L.call (h := by intro W hW; first | apply hS W hW.base (hW.old hg) | apply hP W hW.base) (k := ?_)))
      (refine ret ?_; try exact rfl)
    | some p =>
      rw [hp] at hP
      refine enter Tryz.func70 rfl Tryz.ntmps70 rfl (by assumption) ?_
      (repeat' (first | intro (b : Nat) | refine go ?_ | (refine br ?_ ?_ <;> first | exact trivial | intro hq) | refine L.call (h := by intro W hW; first | apply hS W hW.base (hW.old hg) | apply hP W hW.base) (k := ?_)))
      (refine ret ?_; try exact rfl)
  | true =>
    unfold srV at hS
    rw [hk] at hS
    cases hp : perR t with
    | none =>
      rw [hp] at hP
      refine enter Tryz.func70 rfl Tryz.ntmps70 rfl (by assumption) ?_
      (repeat' (first | intro (b : Nat) | refine go ?_ | (refine br ?_ ?_ <;> first | exact trivial | intro hq) | refine L.call (h := by intro W hW; first | apply hS W hW.base (hW.old hg) | apply hP W hW.base) (k := ?_)))
      (refine ret ?_; try exact rfl)
    | some p =>
      rw [hp] at hP
      have hQ := a_StampPlus S.y S.m S.d S.h S.i S.s S.k S.o p.a p.b p.c p.d p.e p.f back
      have hv := @plusO_ok S (some p) back
      rw [show splus S.y S.m S.d S.h S.i S.s S.k S.o p.a p.b p.c p.d p.e p.f back = plusO S (some p) back from rfl] at hQ
      generalize hR : plusO S (some p) back = R at *
      have hT := a_StampText R.y R.m R.d R.h R.i R.s R.k R.o
      unfold srV at hQ
      rw [if_pos rfl]
      cases hr : R.ok with
      | true =>
        rw [stT_of (hv hr)] at hT
        rw [hr] at hQ
        refine enter Tryz.func70 rfl Tryz.ntmps70 rfl (by assumption) ?_
        (repeat' (first | intro (b : Nat) | refine go ?_ | (refine br ?_ ?_ <;> first | exact trivial | intro hq) | refine L.call (h := by intro W hW; first | apply hS W hW.base (hW.old hg) | apply hP W hW.base | apply hQ W hW.base | apply hT W hW.base) (k := ?_)))
        (refine ret ?_; try exact rfl)
        show okW (txS R, true) = okW (if (plusO S (some p) back).ok = true then (txS (plusO S (some p) back), true) else (sNil, false))
        rw [hR, if_pos hr]
      | false =>
        have hn := plusO_no (S := S) (p := p) (back := back) (by rw [hR]; exact hr)
        have e : R = SR.no := hR.symm.trans hn
        rw [e, show stT SR.no.y SR.no.m SR.no.d SR.no.h SR.no.i SR.no.s SR.no.k SR.no.o = sNil from stT_none] at hT
        rw [e] at hQ
        refine enter Tryz.func70 rfl Tryz.ntmps70 rfl (by assumption) ?_
        (repeat' (first | intro (b : Nat) | refine go ?_ | (refine br ?_ ?_ <;> first | exact trivial | intro hq) | refine L.call (h := by intro W hW; first | apply hS W hW.base (hW.old hg) | apply hP W hW.base | apply hQ W hW.base | apply hT W hW.base) (k := ?_)))
        (refine ret ?_; try exact rfl)
        show okW (sNil, false) = okW (if (plusO S (some p) back).ok = true then (txS (plusO S (some p) back), true) else (sNil, false))
        rw [hn]
        rfl

theorem a_plusW (bw o n c : Nat) (s t : ByteArray) (hs : s.size ≤ 1000000000000) (ht : t.size ≤ 1000000000000) (hn : 2 ≤ n) (w : World) (h1 : w.cell? ⟨bw, o + (0 : Int).toNat * 1, none⟩ = some (.string s)) (h2 : w.cell? ⟨bw, o + (1 : Int).toNat * 1, none⟩ = some (.string t)) (hb : D.Base w) (hg : Hdl w) :
    Calls Tryz.prog 38 #[.agg #[], .slice (some ⟨bw, o, none⟩) n c] w fun e w' => e = .returned (okW (plusW s t false)) ∧ Below w.heap.size w w' := by
  refine enter Tryz.func38 rfl Tryz.ntmps38 rfl (by assumption) ?_
  (repeat' (first | intro (b : Nat) | refine go ?_ | (refine br ?_ ?_ <;> first | exact trivial | intro hq) | refine L.call (h := by intro W hW; apply a_shifted bw o n c s t false hs ht hn W (hW.old h1) (hW.old h2) hW.base (hW.old hg)) (k := ?_)))
  (refine ret ?_; try exact rfl)

theorem a_minusW (bw o n c : Nat) (s t : ByteArray) (hs : s.size ≤ 1000000000000) (ht : t.size ≤ 1000000000000) (hn : 2 ≤ n) (w : World) (h1 : w.cell? ⟨bw, o + (0 : Int).toNat * 1, none⟩ = some (.string s)) (h2 : w.cell? ⟨bw, o + (1 : Int).toNat * 1, none⟩ = some (.string t)) (hb : D.Base w) (hg : Hdl w) :
    Calls Tryz.prog 39 #[.agg #[], .slice (some ⟨bw, o, none⟩) n c] w fun e w' => e = .returned (okW (plusW s t true)) ∧ Below w.heap.size w w' := by
  refine enter Tryz.func39 rfl Tryz.ntmps39 rfl (by assumption) ?_
  (repeat' (first | intro (b : Nat) | refine go ?_ | (refine br ?_ ?_ <;> first | exact trivial | intro hq) | refine L.call (h := by intro W hW; apply a_shifted bw o n c s t true hs ht hn W (hW.old h1) (hW.old h2) hW.base (hW.old hg)) (k := ?_)))
  (refine ret ?_; try exact rfl)

theorem a_betwW (b o n c : Nat) (s t : ByteArray) (hs : s.size ≤ 1000000000000) (ht : t.size ≤ 1000000000000) (hn : 2 ≤ n) (w : World) (h1 : w.cell? ⟨b, o + (0 : Int).toNat * 1, none⟩ = some (.string s)) (h2 : w.cell? ⟨b, o + (1 : Int).toNat * 1, none⟩ = some (.string t)) (hb : D.Base w) (he : Err w) (hp : Pw w) :
    Calls Tryz.prog 40 #[.agg #[], .slice (some ⟨b, o, none⟩) n c] w fun e w' => e = .returned (okW (betwW s t)) ∧ Below w.heap.size w w' := by
  have hA := a_DateFrom s hs
  rw [df_eq s] at hA
  have hB := a_DateFrom t ht
  rw [df_eq t] at hB
  rcases dateR_ok s with ⟨r, f, h, e1, hv, e2⟩ | ⟨e1, e2⟩
  · rcases dateR_ok t with ⟨q, f', h', e3, hv', e4⟩ | ⟨e3, e4⟩
    · have e5 : betwW s t = (perX (perY r.y r.m r.d q.y q.m q.d), bOk r.y r.m r.d q.y q.m q.d) := by unfold betwW; rw [e1, e3]
      have hD := a_DatesBetween r.y r.m r.d q.y q.m q.d
      have hT := a_PeriodText (perY r.y r.m r.d q.y q.m q.d)
      unfold bV at hD
      rw [e2] at hA
      rw [e4] at hB
      rw [e5]
      refine enter Tryz.func40 rfl Tryz.ntmps40 rfl (by assumption) ?_
      (repeat' (first | intro (b : Nat) | refine go ?_ | (refine br ?_ ?_ <;> first | exact trivial | intro hq) | refine L.call (h := by intro W hW; first | apply hA W hW.base | apply hB W hW.base | apply hD W hW.base (hW.err he) | apply hT W hW.base (hp.old hW)) (k := ?_)))
      (refine ret ?_; try exact rfl)
    · have e5 : betwW s t = (sNil, false) := by unfold betwW; rw [e1, e3]
      rw [e2] at hA
      rw [e4] at hB
      rw [e5]
      refine enter Tryz.func40 rfl Tryz.ntmps40 rfl (by assumption) ?_
      (repeat' (first | intro (b : Nat) | refine go ?_ | (refine br ?_ ?_ <;> first | exact trivial | intro hq) | refine L.call (h := by intro W hW; first | apply hA W hW.base | apply hB W hW.base) (k := ?_)))
      (refine ret ?_; try exact rfl)
  · have e5 : betwW s t = (sNil, false) := by unfold betwW; rw [e1]
    rw [e2] at hA
    rw [e5]
    rcases dateR_ok t with ⟨q, f', h', e3, hv', e4⟩ | ⟨e3, e4⟩
    · rw [e4] at hB
      refine enter Tryz.func40 rfl Tryz.ntmps40 rfl (by assumption) ?_
      (repeat' (first | intro (b : Nat) | refine go ?_ | (refine br ?_ ?_ <;> first | exact trivial | intro hq) | refine L.call (h := by intro W hW; first | apply hA W hW.base | apply hB W hW.base) (k := ?_)))
      (refine ret ?_; try exact rfl)
    · rw [e4] at hB
      refine enter Tryz.func40 rfl Tryz.ntmps40 rfl (by assumption) ?_
      (repeat' (first | intro (b : Nat) | refine go ?_ | (refine br ?_ ?_ <;> first | exact trivial | intro hq) | refine L.call (h := by intro W hW; first | apply hA W hW.base | apply hB W hW.base) (k := ?_)))
      (refine ret ?_; try exact rfl)

end D
end Go.Proofs.YtboglbdhibcacaaGreatDoor

namespace Go.Proofs.YtboglbdhibcacaaGreatDoor
set_option linter.unusedVariables false
set_option linter.unusedSimpArgs false
set_option maxRecDepth 100000
set_option maxHeartbeats 4000000
namespace D
open Go.RowKit
open Go.PlainAid (bt bt_nonneg bt_le bt_end)
open Go.MapKept (IsKey findNow_spec)
attribute [local irreducible] Calls

section
variable {P : Program} {n : Nat} {ds : List Deferred} {w0 : World} {hs hs' : SH} {e : Env} {ops : List Oper} {Q : Exit → Act → World → Prop} {l : List Oper} {o : Oper}
variable {d : Option Tmp} {ty : TypeId} {pos : String} {af : Array Edge} {g : Option (Nat × Bool)}
theorem L.deferF {x : Operand} {ts : Array TypeId} {fn : Fn} {ca : List Value} (hw : wantE ops e ⟨d, .defer ⟨.value x, #[], ts⟩, ty, pos, af, g⟩ = some true := by exact rfl) (hd : dstOk n d = true := by exact rfl) (hx : ev e x = some (.func fn [].toArray ca.toArray) := by exact rfl)
    (k : L P n ({ target := .fn fn ca.toArray, args := #[] } :: ds) w0 ops Q l (consE d undef e) hs) : L P n ds w0 ops Q (⟨d, .defer ⟨.value x, #[], ts⟩, ty, pos, af, g⟩ :: l) e hs :=
  L.defers hw hd (fun ρ w hf hst => by simp [execOp, resolve, Deferred.ofValue, hf x _ hx]) k
theorem L.panicV {x : Operand} {t : TypeId} {u : Value} (hw : wantE ops e ⟨d, .panic x, ty, pos, af, g⟩ = some true := by exact rfl) (hx : ev e x = some (.iface t u) := by exact rfl)
    (k : X n ds w0 Q (.panic [{ v := .iface t u, recovered := false }]) e hs) : L P n ds w0 ops Q (⟨d, .panic x, ty, pos, af, g⟩ :: l) e hs :=
  L.panics hw (fun ρ w hf hst => by simp [execOp, hf x _ hx, Instr.panic]) k
theorem PV.eqNil0 {x : Operand} {xt yt : TypeId} {ms} (hu : P.underlying xt = some (.interface ms)) (hx : ev e x = some .nilIface) : PV P ⟨d, .binOp .eql xt x (.const .nilIface) yt, ty, pos, af, g⟩ e (.bool true) :=
  .bin hx rfl (fun w => by simp [eqGuard]) fun w => by
    have h : ∀ k : Nat, (Op.equalIn (k + 1) xt .nilIface .nilIface).run P w = .ok true w := fun k => by simp [Op.equalIn, run_underlying hu]
    simp [binOp, Op.equal, Op.maxDepth, h 9999]
theorem PV.eqNil1 {x : Operand} {xt yt t : TypeId} {u : Value} {ms} (hu : P.underlying xt = some (.interface ms)) (hx : ev e x = some (.iface t u)) : PV P ⟨d, .binOp .eql xt x (.const .nilIface) yt, ty, pos, af, g⟩ e (.bool false) :=
  .bin hx rfl (fun w => by simp [eqGuard]) fun w => by
    have h : ∀ k : Nat, (Op.equalIn (k + 1) xt (.iface t u) .nilIface).run P w = .ok false w := fun k => by simp [Op.equalIn, run_underlying hu]
    simp [binOp, Op.equal, Op.maxDepth, h 9999]
theorem PV.sl1 {t el b m c : Nat} {x y : Operand} {k : IntKind} [i : SlT P t el 1] (hx : ev e x = some (.slice (some ⟨b, 0, none⟩) (m + 1) c)) (hy : ev e y = some (.int k 1)) (h2 : m + 1 ≤ c) (h3 : ¬ c = 1) :
    PV P ⟨d, .slice t x (some y) none none, ty, pos, af, g⟩ e (.slice (some ⟨b, 1, none⟩) m (c - 1)) := by
  have h := PV.sll (P := P) (t := t) (d := d) (ty := ty) (pos := pos) (af := af) (g := g) hx hy (by omega) (by omega) h2
  have e1 : ((1 : Int)).toNat = 1 := rfl
  rw [e1, if_neg h3] at h
  exact h
/-- What ends without a panic. -/
def noP (Q : Exit → Act → World → Prop) : Exit → Act → World → Prop := fun e a w => (∀ c, e ≠ .panic c) ∧ Q e a w
theorem C.noP {c : Code} (h : C P n ds w0 (noP Q) c e hs) : C P n ds w0 Q c e hs := .mk fun a w ha hst => Code.wp_mono (fun e a w q => q.2) (h.ok a w ha hst)
theorem X.noP (h : X n ds w0 Q .normal e hs) : X n ds w0 (noP Q) .normal e hs := .mk fun a w ha hst => ⟨(fun c h => by cases h), h.ok a w ha hst⟩
theorem zero_of {t : TypeId} {z : Value} [k : Zv P t z] (w : World) : (zeroValue t).run P w = .ok z w := by
  have h := k.ok
  cases hq : P.info? t with
  | none => simp [hq] at h
  | some j => simp [hq] at h; simp [zeroValue, typeInfo, hq, h]
end

instance : MpT Tryz.prog 53 9 52 (.agg #[.int .i64 0, .nilFunc]) := ⟨Tryz.underlying53, Tryz.underlying9, fun w => zero_of w⟩

abbrev cmdV (n : Int) (f : Nat) : Value := .agg #[.int .i64 n, .func (.func f) #[] #[]]
abbrev tabE : List MapEntry := [⟨.string kDate, cmdV 1 34, 0⟩, ⟨.string kTidy, cmdV 1 35, 1⟩, ⟨.string kEast, cmdV 1 36, 2⟩, ⟨.string kSpan, cmdV 1 37, 3⟩, ⟨.string kPlus, cmdV 2 38, 4⟩, ⟨.string kMinu, cmdV 2 39, 5⟩, ⟨.string kBetw, cmdV 2 40, 6⟩]

instance : Ag Tryz.prog 54 0 := ⟨⟨_, Tryz.underlying54, rfl⟩, by kernel_rfl⟩
instance : Zr Tryz.prog 54 [] := ⟨by kernel_rfl⟩

/-! ### The deferred closure -/
theorem a_clos0 (w0 : World) (F : SH) (b : Nat) (v : Value) (w : World) (hst : St w0 ((b, .cells 9 [v]) :: F) w) :
    CallsD Tryz.prog 41 [.pointer (some ⟨b, 0, none⟩)].toArray .returning w fun e' u' w' => u' = .returning ∧ TurnsR w0 (fun r H => r = .tuple #[] ∧ H = (b, .cells 9 [v]) :: F) e' w' := by
  refine closD (u := .returning) Tryz.func41 rfl Tryz.ntmps41 rfl rfl ?_ hst
  rw [show (recM .returning).1 = Value.nilIface from rfl]
  (repeat' (first | intro (b : Nat) | refine go ?_ | (refine br ?_ ?_ <;> first | exact trivial | intro hq)))
  (refine L.p rfl rfl (PV.eqNil0 Tryz.underlying20 rfl) ?_)
  (repeat' (first | intro (b : Nat) | refine go ?_ | (refine br ?_ ?_ <;> first | exact trivial | intro hq)))
  (refine rettRq _ ⟨rfl, rfl⟩)

theorem a_clos1 (w0 : World) (F : SH) (b : Nat) (v : Value) (w : World) (hst : St w0 ((b, .cells 9 [v]) :: F) w) :
    CallsD Tryz.prog 41 [.pointer (some ⟨b, 0, none⟩)].toArray (.panicking [{ v := .iface 54 (.agg #[]), recovered := false }]) w fun e' u' w' => u' = .panicking [{ v := .iface 54 (.agg #[]), recovered := true }] ∧ TurnsR w0 (fun r H => r = .tuple #[] ∧ H = (b, .cells 9 [.string tWhat]) :: F) e' w' := by
  refine closD (u := .panicking [{ v := .iface 54 (.agg #[]), recovered := false }]) Tryz.func41 rfl Tryz.ntmps41 rfl rfl ?_ hst
  rw [show (recM (.panicking [{ v := .iface 54 (.agg #[]), recovered := false }])).1 = Value.iface 54 (.agg #[]) from rfl]
  (repeat' (first | intro (b : Nat) | refine go ?_ | (refine br ?_ ?_ <;> first | exact trivial | intro hq)))
  (refine L.p rfl rfl (PV.eqNil1 Tryz.underlying20 rfl) ?_)
  (repeat' (first | intro (b : Nat) | refine go ?_ | (refine br ?_ ?_ <;> first | exact trivial | intro hq)))
  (refine rettRq _ ⟨rfl, rfl⟩)

abbrev ansD (b : Nat) : Deferred := { target := .fn (.func 41) [Value.pointer (some ⟨b, 0, none⟩)].toArray, args := #[] }
theorem ans_inv (b : Nat) (w : World) : (invoke (.fn (.func 41) [Value.pointer (some ⟨b, 0, none⟩)].toArray) #[]).run Tryz.prog w = .ok (.enter 41 [Value.pointer (some ⟨b, 0, none⟩)].toArray) w := by
  have i : Ent Tryz.prog 41 := inferInstance
  simp [invoke, i.ok]
theorem ans_ret {w0 : World} {e : Env} {hs F : SH} {b : Nat} {v : ByteArray} (hx : get e 2 = some (.pointer (some ⟨b, 0, none⟩)) := by exact rfl) (hq : Pull (b, .cells 9 [.string v]) hs F := by (repeat (first | exact Pull.here | apply Pull.there))) {u : ByteArray} (hv : v = u) :
    X Tryz.f23.ntmps [ansD b] w0 (bodyPostD Tryz.prog Tryz.f23 (fun e w' => e = .returned (.string u) ∧ Below w0.heap.size w0 w')) .ret e hs := by
  subst hv
  refine X.leave_ret (ev := .tuple #[]) (hs' := (b, .cells 9 [.string v]) :: F) (vs := [.string v]) (ans_inv b) (fun w hst => ?_) rfl (.cons (.cell1 hx (List.Mem.head _) (Rd.take Rd.nil)) .nil) (fun w hst => ⟨rfl, hst.low⟩)
  refine (a_clos0 w0 F b (.string v) w (hst.perm hq.perm)).mono ?_
  rintro e' u' w' ⟨rfl, r, H, rfl, ⟨rfl, rfl⟩, h⟩
  exact ⟨rfl, rfl, h⟩
theorem ans_pan {w0 : World} {e : Env} {hs F : SH} {b : Nat} {v : Value} (hx : get e 2 = some (.pointer (some ⟨b, 0, none⟩)) := by exact rfl) (hq : Pull (b, .cells 9 [v]) hs F := by (repeat (first | exact Pull.here | apply Pull.there))) :
    X Tryz.f23.ntmps [ansD b] w0 (bodyPostD Tryz.prog Tryz.f23 (fun e w' => e = .returned (.string tWhat) ∧ Below w0.heap.size w0 w')) (.panic [{ v := .iface 54 (.agg #[]), recovered := false }]) e hs := by
  refine X.leave_panic (ev := .tuple #[]) (hs' := (b, .cells 9 [.string tWhat]) :: F) (vs := [.string tWhat]) (ans_inv b) (fun w hst => ?_) rfl (.cons (.cell1 hx (List.Mem.head _) (Rd.take Rd.nil)) .nil) (fun w hst => ⟨rfl, hst.low⟩)
  refine (a_clos1 w0 F b v w (hst.perm hq.perm)).mono ?_
  rintro e' u' w' ⟨rfl, r, H, rfl, ⟨rfl, rfl⟩, h⟩
  exact ⟨rfl, rfl, h⟩

theorem a_ans_none (s : ByteArray) (hs : s.size ≤ 1000000) (x : ByteArray) (R : List ByteArray) (hsp : splL 32 s = x :: R) (hf : Instr.findNow .string (.string x) tabE 0 = some none) (w : World) (hb : D.Base w) : Calls Tryz.prog 23 #[.string s] w fun e w' => e = .returned (.string tWhat) ∧ Below w.heap.size w w' := by
  refine enterD Tryz.func23 rfl rfl rfl hb ?_
  (repeat (first | intro (b : Nat) | refine go ?_))
  (refine L.nw rfl rfl ON.mkMap ?_; rintro v H ⟨bm, rfl, rfl⟩)
  simp only [List.cons_append, List.nil_append]
  (repeat (first | intro (b : Nat) | refine go ?_))
  (apply L.s; (· exact rfl); (· exact rfl); (· apply OS.insert; (· exact rfl); (· exact rfl); (· exact rfl); rotate_left; (· (repeat (first | exact Upd.here | apply Upd.there))); (· kernel_rfl)))
  (repeat (first | intro (b : Nat) | refine go ?_))
  (apply L.s; (· exact rfl); (· exact rfl); (· apply OS.insert; (· exact rfl); (· exact rfl); (· exact rfl); rotate_left; (· (repeat (first | exact Upd.here | apply Upd.there))); (· kernel_rfl)))
  (repeat (first | intro (b : Nat) | refine go ?_))
  (apply L.s; (· exact rfl); (· exact rfl); (· apply OS.insert; (· exact rfl); (· exact rfl); (· exact rfl); rotate_left; (· (repeat (first | exact Upd.here | apply Upd.there))); (· kernel_rfl)))
  (repeat (first | intro (b : Nat) | refine go ?_))
  (apply L.s; (· exact rfl); (· exact rfl); (· apply OS.insert; (· exact rfl); (· exact rfl); (· exact rfl); rotate_left; (· (repeat (first | exact Upd.here | apply Upd.there))); (· kernel_rfl)))
  (repeat (first | intro (b : Nat) | refine go ?_))
  (apply L.s; (· exact rfl); (· exact rfl); (· apply OS.insert; (· exact rfl); (· exact rfl); (· exact rfl); rotate_left; (· (repeat (first | exact Upd.here | apply Upd.there))); (· kernel_rfl)))
  (repeat (first | intro (b : Nat) | refine go ?_))
  (apply L.s; (· exact rfl); (· exact rfl); (· apply OS.insert; (· exact rfl); (· exact rfl); (· exact rfl); rotate_left; (· (repeat (first | exact Upd.here | apply Upd.there))); (· kernel_rfl)))
  (repeat (first | intro (b : Nat) | refine go ?_))
  (apply L.s; (· exact rfl); (· exact rfl); (· apply OS.insert; (· exact rfl); (· exact rfl); (· exact rfl); rotate_left; (· (repeat (first | exact Upd.here | apply Upd.there))); (· kernel_rfl)))
  (repeat (first | intro (b : Nat) | refine go ?_))
  (apply L.deferF (k := ?_))
  (repeat (first | intro (b : Nat) | refine go ?_))
  (refine L.ncall (h := by intro W hW; exact a_Split s s32 32 (by omega) (by omega) hs rfl rfl W hW.base) (k := ?_); rintro v H ⟨b1, n1, pad, rfl, rfl, hS⟩)
  have eb : sE.blk (x :: R) pad = .cells sE.T (.string x :: (flat sE.fc R ++ pad)) := rfl
  have hl : (x :: R).length = R.length + 1 := rfl
  have hfew := splL_few 32 s
  have hcap := hS.le
  rw [hsp, hl] at hcap hfew
  rw [hsp, eb, hl]
  simp only [List.cons_append, List.nil_append]
  (repeat (first | intro (b : Nat) | refine go ?_))
  (apply L.v; (· exact rfl); (· exact rfl); (· apply OV.look; (· exact rfl); (· exact rfl); (· (repeat (first | exact List.Mem.head _ | apply List.Mem.tail))); (· exact hf)))
  simp only [Option.map_some, Option.map_none, Option.getD_some, Option.getD_none, Option.isSome_some, Option.isSome_none]
  (repeat' (first | intro (b : Nat) | refine go ?_ | (refine br ?_ ?_ <;> first | exact trivial | intro hq)))
  (refine L.panicV (k := ?_))
  (repeat' (first | intro (b : Nat) | refine go ?_ | (refine br ?_ ?_ <;> first | exact trivial | intro hq)))
  (repeat (first | refine X.then_panic ?_ | refine X.block_panic ?_))
  exact ans_pan

theorem a_ans_len (s : ByteArray) (hs : s.size ≤ 1000000) (x : ByteArray) (R : List ByteArray) (hsp : splL 32 s = x :: R) (k : Nat) (n : Int) (f : Nat) (hne : ¬ (R.length : Int) = n) (hf : Instr.findNow .string (.string x) tabE 0 = some (some (k, cmdV n f))) (w : World) (hb : D.Base w) : Calls Tryz.prog 23 #[.string s] w fun e w' => e = .returned (.string tWhat) ∧ Below w.heap.size w w' := by
  refine enterD Tryz.func23 rfl rfl rfl hb ?_
  (repeat (first | intro (b : Nat) | refine go ?_))
  (refine L.nw rfl rfl ON.mkMap ?_; rintro v H ⟨bm, rfl, rfl⟩)
  simp only [List.cons_append, List.nil_append]
  (repeat (first | intro (b : Nat) | refine go ?_))
  (apply L.s; (· exact rfl); (· exact rfl); (· apply OS.insert; (· exact rfl); (· exact rfl); (· exact rfl); rotate_left; (· (repeat (first | exact Upd.here | apply Upd.there))); (· kernel_rfl)))
  (repeat (first | intro (b : Nat) | refine go ?_))
  (apply L.s; (· exact rfl); (· exact rfl); (· apply OS.insert; (· exact rfl); (· exact rfl); (· exact rfl); rotate_left; (· (repeat (first | exact Upd.here | apply Upd.there))); (· kernel_rfl)))
  (repeat (first | intro (b : Nat) | refine go ?_))
  (apply L.s; (· exact rfl); (· exact rfl); (· apply OS.insert; (· exact rfl); (· exact rfl); (· exact rfl); rotate_left; (· (repeat (first | exact Upd.here | apply Upd.there))); (· kernel_rfl)))
  (repeat (first | intro (b : Nat) | refine go ?_))
  (apply L.s; (· exact rfl); (· exact rfl); (· apply OS.insert; (· exact rfl); (· exact rfl); (· exact rfl); rotate_left; (· (repeat (first | exact Upd.here | apply Upd.there))); (· kernel_rfl)))
  (repeat (first | intro (b : Nat) | refine go ?_))
  (apply L.s; (· exact rfl); (· exact rfl); (· apply OS.insert; (· exact rfl); (· exact rfl); (· exact rfl); rotate_left; (· (repeat (first | exact Upd.here | apply Upd.there))); (· kernel_rfl)))
  (repeat (first | intro (b : Nat) | refine go ?_))
  (apply L.s; (· exact rfl); (· exact rfl); (· apply OS.insert; (· exact rfl); (· exact rfl); (· exact rfl); rotate_left; (· (repeat (first | exact Upd.here | apply Upd.there))); (· kernel_rfl)))
  (repeat (first | intro (b : Nat) | refine go ?_))
  (apply L.s; (· exact rfl); (· exact rfl); (· apply OS.insert; (· exact rfl); (· exact rfl); (· exact rfl); rotate_left; (· (repeat (first | exact Upd.here | apply Upd.there))); (· kernel_rfl)))
  (repeat (first | intro (b : Nat) | refine go ?_))
  (apply L.deferF (k := ?_))
  (repeat (first | intro (b : Nat) | refine go ?_))
  (refine L.ncall (h := by intro W hW; exact a_Split s s32 32 (by omega) (by omega) hs rfl rfl W hW.base) (k := ?_); rintro v H ⟨b1, n1, pad, rfl, rfl, hS⟩)
  have eb : sE.blk (x :: R) pad = .cells sE.T (.string x :: (flat sE.fc R ++ pad)) := rfl
  have hl : (x :: R).length = R.length + 1 := rfl
  have hfew := splL_few 32 s
  have hcap := hS.le
  rw [hsp, hl] at hcap hfew
  rw [hsp, eb, hl]
  simp only [List.cons_append, List.nil_append]
  (repeat (first | intro (b : Nat) | refine go ?_))
  (apply L.v; (· exact rfl); (· exact rfl); (· apply OV.look; (· exact rfl); (· exact rfl); (· (repeat (first | exact List.Mem.head _ | apply List.Mem.tail))); (· exact hf)))
  simp only [Option.map_some, Option.map_none, Option.getD_some, Option.getD_none, Option.isSome_some, Option.isSome_none]
  (repeat' (first | intro (b : Nat) | refine go ?_ | (refine br ?_ ?_ <;> first | exact trivial | intro hq)))
  (refine L.panicV (k := ?_))
  (repeat' (first | intro (b : Nat) | refine go ?_ | (refine br ?_ ?_ <;> first | exact trivial | intro hq)))
  (repeat (first | refine X.then_panic ?_ | refine X.block_panic ?_))
  exact ans_pan

theorem a_ans_yes (s : ByteArray) (hs : s.size ≤ 1000000) (x : ByteArray) (R : List ByteArray) (hsp : splL 32 s = x :: R) (h1R : 1 ≤ R.length) (k : Nat) (f : Nat) (ent : Ent Tryz.prog f) (r : ByteArray × Bool) (hf : Instr.findNow .string (.string x) tabE 0 = some (some (k, cmdV (R.length : Int) f)))
    (w : World) (hb : D.Base w) (hF : ∀ (b c : Nat) (W : World), Below w.heap.size w W → D.Base W → (∀ j, j < R.length → W.cell? ⟨b, 1 + j, none⟩ = some (.string (R.getD j ⟨#[]⟩))) → Calls Tryz.prog f [.agg #[], .slice (some ⟨b, 1, none⟩) R.length c].toArray W fun e w' => e = .returned (okW r) ∧ Below W.heap.size W w') :
    Calls Tryz.prog 23 #[.string s] w fun e w' => e = .returned (.string (tellW r)) ∧ Below w.heap.size w w' := by
  refine enterD Tryz.func23 rfl rfl rfl hb ?_
  (repeat (first | intro (b : Nat) | refine go ?_))
  (refine L.nw rfl rfl ON.mkMap ?_; rintro v H ⟨bm, rfl, rfl⟩)
  simp only [List.cons_append, List.nil_append]
  (repeat (first | intro (b : Nat) | refine go ?_))
  (apply L.s; (· exact rfl); (· exact rfl); (· apply OS.insert; (· exact rfl); (· exact rfl); (· exact rfl); rotate_left; (· (repeat (first | exact Upd.here | apply Upd.there))); (· kernel_rfl)))
  (repeat (first | intro (b : Nat) | refine go ?_))
  (apply L.s; (· exact rfl); (· exact rfl); (· apply OS.insert; (· exact rfl); (· exact rfl); (· exact rfl); rotate_left; (· (repeat (first | exact Upd.here | apply Upd.there))); (· kernel_rfl)))
  (repeat (first | intro (b : Nat) | refine go ?_))
  (apply L.s; (· exact rfl); (· exact rfl); (· apply OS.insert; (· exact rfl); (· exact rfl); (· exact rfl); rotate_left; (· (repeat (first | exact Upd.here | apply Upd.there))); (· kernel_rfl)))
  (repeat (first | intro (b : Nat) | refine go ?_))
  (apply L.s; (· exact rfl); (· exact rfl); (· apply OS.insert; (· exact rfl); (· exact rfl); (· exact rfl); rotate_left; (· (repeat (first | exact Upd.here | apply Upd.there))); (· kernel_rfl)))
  (repeat (first | intro (b : Nat) | refine go ?_))
  (apply L.s; (· exact rfl); (· exact rfl); (· apply OS.insert; (· exact rfl); (· exact rfl); (· exact rfl); rotate_left; (· (repeat (first | exact Upd.here | apply Upd.there))); (· kernel_rfl)))
  (repeat (first | intro (b : Nat) | refine go ?_))
  (apply L.s; (· exact rfl); (· exact rfl); (· apply OS.insert; (· exact rfl); (· exact rfl); (· exact rfl); rotate_left; (· (repeat (first | exact Upd.here | apply Upd.there))); (· kernel_rfl)))
  (repeat (first | intro (b : Nat) | refine go ?_))
  (apply L.s; (· exact rfl); (· exact rfl); (· apply OS.insert; (· exact rfl); (· exact rfl); (· exact rfl); rotate_left; (· (repeat (first | exact Upd.here | apply Upd.there))); (· kernel_rfl)))
  (repeat (first | intro (b : Nat) | refine go ?_))
  (apply L.deferF (k := ?_))
  (repeat (first | intro (b : Nat) | refine go ?_))
  (refine L.ncall (h := by intro W hW; exact a_Split s s32 32 (by omega) (by omega) hs rfl rfl W hW.base) (k := ?_); rintro v H ⟨b1, n1, pad, rfl, rfl, hS⟩)
  have eb : sE.blk (x :: R) pad = .cells sE.T (.string x :: (flat sE.fc R ++ pad)) := rfl
  have hl : (x :: R).length = R.length + 1 := rfl
  have hfew := splL_few 32 s
  have hcap := hS.le
  rw [hsp, hl] at hcap hfew
  rw [hsp, eb, hl]
  simp only [List.cons_append, List.nil_append]
  (repeat (first | intro (b : Nat) | refine go ?_))
  (apply L.v; (· exact rfl); (· exact rfl); (· apply OV.look; (· exact rfl); (· exact rfl); (· (repeat (first | exact List.Mem.head _ | apply List.Mem.tail))); (· exact hf)))
  have hv0 : r.2 = false → tNo = tellW r := fun h => by unfold tellW; rw [if_neg (by rw [h]; decide)]
  have hv1 : r.2 = true → r.1 = tellW r := fun h => by unfold tellW; rw [if_pos h]
  have hC : ∀ j, j < R.length → (Value.string x :: (flat sE.fc R ++ pad))[1 + j]? = some (.string (R.getD j ⟨#[]⟩)) := fun j hj => by
    have h := flat_get sE.len R pad j (R.getD j ⟨#[]⟩) (by simp [List.getD, hj]) 0 _ rfl
    rw [Nat.add_comm, List.getElem?_cons_succ]
    simpa using h
  simp only [Option.map_some, Option.map_none, Option.getD_some, Option.getD_none, Option.isSome_some, Option.isSome_none]
  (repeat' (first | intro (b : Nat) | refine go ?_ | (refine br ?_ ?_ <;> first | exact trivial | intro hq)))
  (repeat (refine C.seq ?_))
  (refine C.noP ?_)
  (refine C.any (h := ?_))
  (refine A.take 0 (hQ := fun c a a' w he h => absurd rfl (h.1 c)) (k := ?_))
  (refine A.take 2 (hQ := fun c a a' w he h => absurd rfl (h.1 c)) (k := ?_))
  (refine A.take 3 (hQ := fun c a a' w he h => absurd rfl (h.1 c)) (k := ?_))
  (refine A.take 4 (h := PV.sl1 rfl rfl hcap (by omega)) (hQ := fun c a a' w he h => absurd rfl (h.1 c)) (k := ?_))
  (repeat' (first | intro (b : Nat) | refine go ?_ | refine X.then_any ?_ | refine A.done (k := ?_) | refine A.r1 (h := ?_) | refine A.r2 (h := ?_) (h' := ?_) | refine A.r3 (h := ?_) (h' := ?_) (h'' := ?_)))
  (refine L.callx (j := ent) (h := by intro W hW; exact hF _ _ W hW.low hW.base fun j hj => hW.cell (by (repeat (first | exact List.Mem.head _ | apply List.Mem.tail))) (hC j hj)) (k := ?_))
  (repeat' (first | intro (b : Nat) | refine go ?_ | refine X.then_any ?_ | refine A.done (k := ?_) | refine A.r1 (h := ?_) | refine A.r2 (h := ?_) (h' := ?_) | refine A.r3 (h := ?_) (h' := ?_) (h'' := ?_)))
  all_goals (refine X.noP ?_)
  all_goals (repeat' (first | intro (b : Nat) | refine go ?_ | (refine br ?_ ?_ <;> first | exact trivial | intro hq)))
  all_goals first
    | exact ans_ret (hv := hv0 hq)
    | exact ans_ret (hv := hv1 hq)

theorem Hdl.keep {w w' : World} (h : Hdl w) (hB : Below w.heap.size w w') : Hdl w' := cell_keep h hB
theorem Err.keep {w w' : World} (h : Err w) (hB : Below w.heap.size w w') : Err w' := by
  obtain ⟨a, h⟩ := h
  exact ⟨a, cell_keep h hB⟩
theorem Pw.keep {w w' : World} (h : Pw w) (hB : Below w.heap.size w w') : Pw w' := ⟨cell_keep h.1 hB, cell_keep h.2.1 hB, cell_keep h.2.2 hB⟩
theorem find_none {x : ByteArray} (h : x ≠ kDate ∧ x ≠ kTidy ∧ x ≠ kEast ∧ x ≠ kSpan ∧ x ≠ kPlus ∧ x ≠ kMinu ∧ x ≠ kBetw) : Instr.findNow .string (.string x) tabE 0 = some none := by
  rcases findNow_spec (d := .string) (k := .string x) trivial tabE 0 (fun y hy => by
    simp only [tabE, List.mem_cons, List.not_mem_nil, or_false] at hy
    rcases hy with rfl | rfl | rfl | rfl | rfl | rfl | rfl <;> trivial) with ⟨h1, h2⟩ | ⟨j, e, h1, h2, h3⟩
  · exact h1
  · have hm := List.mem_of_getElem? h2
    simp only [tabE, List.mem_cons, List.not_mem_nil, or_false] at hm
    rcases hm with rfl | rfl | rfl | rfl | rfl | rfl | rfl <;> simp only [Value.string.injEq] at h3 <;> simp_all

theorem ans_what {W : List ByteArray} (h2 : W.length = 2 → W.getD 0 sNil ≠ kDate ∧ W.getD 0 sNil ≠ kTidy ∧ W.getD 0 sNil ≠ kEast ∧ W.getD 0 sNil ≠ kSpan) (h3 : W.length = 3 → W.getD 0 sNil ≠ kPlus ∧ W.getD 0 sNil ≠ kMinu ∧ W.getD 0 sNil ≠ kBetw) : ansW W = tWhat := by
  unfold ansW
  rw [if_neg fun h => (h2 h.2).1 h.1, if_neg fun h => (h2 h.2).2.1 h.1, if_neg fun h => (h2 h.2).2.2.1 h.1, if_neg fun h => (h2 h.2).2.2.2 h.1, if_neg fun h => (h3 h.2).1 h.1, if_neg fun h => (h3 h.2).2.1 h.1, if_neg fun h => (h3 h.2).2.2 h.1]
theorem one_or (R : List ByteArray) : (∃ y, R = [y]) ∨ ¬ R.length = 1 := by
  match R with
  | [] => exact .inr (by simp)
  | [y] => exact .inl ⟨y, rfl⟩
  | _ :: _ :: _ => exact .inr (by simp)
theorem two_or (R : List ByteArray) : (∃ y z, R = [y, z]) ∨ ¬ R.length = 2 := by
  match R with
  | [] => exact .inr (by simp)
  | [_] => exact .inr (by simp)
  | [y, z] => exact .inl ⟨y, z, rfl⟩
  | _ :: _ :: _ :: _ => exact .inr (by simp)

theorem ansDate (s : ByteArray) (hs : s.size ≤ 1000000) (R : List ByteArray) (hsp : splL 32 s = kDate :: R) (w : World) (hb : D.Base w) (he : Err w) (hg : Hdl w) (hp : Pw w) : Calls Tryz.prog 23 #[.string s] w fun e w' => e = .returned (.string (ansT s)) ∧ Below w.heap.size w w' := by
  unfold ansT
  have hm := splL_size 32 s
  rw [hsp] at hm ⊢
  rcases one_or R with ⟨y, rfl⟩ | hne
  · rw [show ansW [kDate, y] = tellW (dateW y) from if_pos ⟨rfl, rfl⟩]
    have hy := hm y (by simp)
    exact a_ans_yes s hs kDate [y] hsp (Nat.le_of_ble_eq_true rfl) 0 34 inferInstance (dateW y) (by kernel_rfl) w hb fun b c W hB hbW hc => a_dateW b 1 1 c y (by omega) (by omega) W (hc 0 (Nat.le_of_ble_eq_true rfl)) hbW 
  · rw [ans_what (fun h => ?_) (fun h => ?_)]
    · exact a_ans_len s hs kDate R hsp 0 1 34 (by omega) (by kernel_rfl) w hb
    · exact absurd h (by rw [List.length_cons]; omega)
    · refine ⟨?_, ?_, ?_⟩ <;> (show ¬ kDate = _; decide)

theorem ansTidy (s : ByteArray) (hs : s.size ≤ 1000000) (R : List ByteArray) (hsp : splL 32 s = kTidy :: R) (w : World) (hb : D.Base w) (he : Err w) (hg : Hdl w) (hp : Pw w) : Calls Tryz.prog 23 #[.string s] w fun e w' => e = .returned (.string (ansT s)) ∧ Below w.heap.size w w' := by
  unfold ansT
  have hm := splL_size 32 s
  rw [hsp] at hm ⊢
  rcases one_or R with ⟨y, rfl⟩ | hne
  · rw [show ansW [kTidy, y] = tellW (tidyW y) from (if_neg fun h => absurd h.1 (by show ¬ kTidy = kDate; decide)).trans (if_pos ⟨rfl, rfl⟩)]
    have hy := hm y (by simp)
    exact a_ans_yes s hs kTidy [y] hsp (Nat.le_of_ble_eq_true rfl) 1 35 inferInstance (tidyW y) (by kernel_rfl) w hb fun b c W hB hbW hc => a_tidyW b 1 1 c y (by omega) (by omega) W (hc 0 (Nat.le_of_ble_eq_true rfl)) hbW (hg.keep hB)
  · rw [ans_what (fun h => ?_) (fun h => ?_)]
    · exact a_ans_len s hs kTidy R hsp 1 1 35 (by omega) (by kernel_rfl) w hb
    · exact absurd h (by rw [List.length_cons]; omega)
    · refine ⟨?_, ?_, ?_⟩ <;> (show ¬ kTidy = _; decide)

theorem ansEast (s : ByteArray) (hs : s.size ≤ 1000000) (R : List ByteArray) (hsp : splL 32 s = kEast :: R) (w : World) (hb : D.Base w) (he : Err w) (hg : Hdl w) (hp : Pw w) : Calls Tryz.prog 23 #[.string s] w fun e w' => e = .returned (.string (ansT s)) ∧ Below w.heap.size w w' := by
  unfold ansT
  have hm := splL_size 32 s
  rw [hsp] at hm ⊢
  rcases one_or R with ⟨y, rfl⟩ | hne
  · rw [show ansW [kEast, y] = tellW (eastW y) from (if_neg fun h => absurd h.1 (by show ¬ kEast = kDate; decide)).trans ((if_neg fun h => absurd h.1 (by show ¬ kEast = kTidy; decide)).trans (if_pos ⟨rfl, rfl⟩))]
    have hy := hm y (by simp)
    exact a_ans_yes s hs kEast [y] hsp (Nat.le_of_ble_eq_true rfl) 2 36 inferInstance (eastW y) (by kernel_rfl) w hb fun b c W hB hbW hc => a_eastW b 1 1 c y (by omega) (by omega) W (hc 0 (Nat.le_of_ble_eq_true rfl)) hbW 
  · rw [ans_what (fun h => ?_) (fun h => ?_)]
    · exact a_ans_len s hs kEast R hsp 2 1 36 (by omega) (by kernel_rfl) w hb
    · exact absurd h (by rw [List.length_cons]; omega)
    · refine ⟨?_, ?_, ?_⟩ <;> (show ¬ kEast = _; decide)

theorem ansSpan (s : ByteArray) (hs : s.size ≤ 1000000) (R : List ByteArray) (hsp : splL 32 s = kSpan :: R) (w : World) (hb : D.Base w) (he : Err w) (hg : Hdl w) (hp : Pw w) : Calls Tryz.prog 23 #[.string s] w fun e w' => e = .returned (.string (ansT s)) ∧ Below w.heap.size w w' := by
  unfold ansT
  have hm := splL_size 32 s
  rw [hsp] at hm ⊢
  rcases one_or R with ⟨y, rfl⟩ | hne
  · rw [show ansW [kSpan, y] = tellW (spanW y) from (if_neg fun h => absurd h.1 (by show ¬ kSpan = kDate; decide)).trans ((if_neg fun h => absurd h.1 (by show ¬ kSpan = kTidy; decide)).trans ((if_neg fun h => absurd h.1 (by show ¬ kSpan = kEast; decide)).trans (if_pos ⟨rfl, rfl⟩)))]
    have hy := hm y (by simp)
    exact a_ans_yes s hs kSpan [y] hsp (Nat.le_of_ble_eq_true rfl) 3 37 inferInstance (spanW y) (by kernel_rfl) w hb fun b c W hB hbW hc => a_spanW b 1 1 c y (by omega) (by omega) W (hc 0 (Nat.le_of_ble_eq_true rfl)) hbW (hg.keep hB)
  · rw [ans_what (fun h => ?_) (fun h => ?_)]
    · exact a_ans_len s hs kSpan R hsp 3 1 37 (by omega) (by kernel_rfl) w hb
    · exact absurd h (by rw [List.length_cons]; omega)
    · refine ⟨?_, ?_, ?_⟩ <;> (show ¬ kSpan = _; decide)

theorem ansPlus (s : ByteArray) (hs : s.size ≤ 1000000) (R : List ByteArray) (hsp : splL 32 s = kPlus :: R) (w : World) (hb : D.Base w) (he : Err w) (hg : Hdl w) (hp : Pw w) : Calls Tryz.prog 23 #[.string s] w fun e w' => e = .returned (.string (ansT s)) ∧ Below w.heap.size w w' := by
  unfold ansT
  have hm := splL_size 32 s
  rw [hsp] at hm ⊢
  rcases two_or R with ⟨y, z, rfl⟩ | hne
  · rw [show ansW [kPlus, y, z] = tellW (plusW y z false) from (if_neg fun h => absurd h.2 (by show ¬ 3 = 2; omega)).trans ((if_neg fun h => absurd h.2 (by show ¬ 3 = 2; omega)).trans ((if_neg fun h => absurd h.2 (by show ¬ 3 = 2; omega)).trans ((if_neg fun h => absurd h.2 (by show ¬ 3 = 2; omega)).trans (if_pos ⟨rfl, rfl⟩))))]
    have hy := hm y (by simp)
    have hz := hm z (by simp)
    exact a_ans_yes s hs kPlus [y, z] hsp (Nat.le_of_ble_eq_true rfl) 4 38 inferInstance (plusW y z false) (by kernel_rfl) w hb fun b c W hB hbW hc => a_plusW b 1 2 c y z (by omega) (by omega) (by omega) W (hc 0 (Nat.le_of_ble_eq_true rfl)) (hc 1 (Nat.le_of_ble_eq_true rfl)) hbW (hg.keep hB)
  · rw [ans_what (fun h => ?_) (fun h => ?_)]
    · exact a_ans_len s hs kPlus R hsp 4 2 38 (by omega) (by kernel_rfl) w hb
    · refine ⟨?_, ?_, ?_, ?_⟩ <;> (show ¬ kPlus = _; decide)
    · exact absurd h (by rw [List.length_cons]; omega)

theorem ansMinu (s : ByteArray) (hs : s.size ≤ 1000000) (R : List ByteArray) (hsp : splL 32 s = kMinu :: R) (w : World) (hb : D.Base w) (he : Err w) (hg : Hdl w) (hp : Pw w) : Calls Tryz.prog 23 #[.string s] w fun e w' => e = .returned (.string (ansT s)) ∧ Below w.heap.size w w' := by
  unfold ansT
  have hm := splL_size 32 s
  rw [hsp] at hm ⊢
  rcases two_or R with ⟨y, z, rfl⟩ | hne
  · rw [show ansW [kMinu, y, z] = tellW (plusW y z true) from (if_neg fun h => absurd h.2 (by show ¬ 3 = 2; omega)).trans ((if_neg fun h => absurd h.2 (by show ¬ 3 = 2; omega)).trans ((if_neg fun h => absurd h.2 (by show ¬ 3 = 2; omega)).trans ((if_neg fun h => absurd h.2 (by show ¬ 3 = 2; omega)).trans ((if_neg fun h => absurd h.1 (by show ¬ kMinu = kPlus; decide)).trans (if_pos ⟨rfl, rfl⟩)))))]
    have hy := hm y (by simp)
    have hz := hm z (by simp)
    exact a_ans_yes s hs kMinu [y, z] hsp (Nat.le_of_ble_eq_true rfl) 5 39 inferInstance (plusW y z true) (by kernel_rfl) w hb fun b c W hB hbW hc => a_minusW b 1 2 c y z (by omega) (by omega) (by omega) W (hc 0 (Nat.le_of_ble_eq_true rfl)) (hc 1 (Nat.le_of_ble_eq_true rfl)) hbW (hg.keep hB)
  · rw [ans_what (fun h => ?_) (fun h => ?_)]
    · exact a_ans_len s hs kMinu R hsp 5 2 39 (by omega) (by kernel_rfl) w hb
    · refine ⟨?_, ?_, ?_, ?_⟩ <;> (show ¬ kMinu = _; decide)
    · exact absurd h (by rw [List.length_cons]; omega)

theorem ansBetw (s : ByteArray) (hs : s.size ≤ 1000000) (R : List ByteArray) (hsp : splL 32 s = kBetw :: R) (w : World) (hb : D.Base w) (he : Err w) (hg : Hdl w) (hp : Pw w) : Calls Tryz.prog 23 #[.string s] w fun e w' => e = .returned (.string (ansT s)) ∧ Below w.heap.size w w' := by
  unfold ansT
  have hm := splL_size 32 s
  rw [hsp] at hm ⊢
  rcases two_or R with ⟨y, z, rfl⟩ | hne
  · rw [show ansW [kBetw, y, z] = tellW (betwW y z) from (if_neg fun h => absurd h.2 (by show ¬ 3 = 2; omega)).trans ((if_neg fun h => absurd h.2 (by show ¬ 3 = 2; omega)).trans ((if_neg fun h => absurd h.2 (by show ¬ 3 = 2; omega)).trans ((if_neg fun h => absurd h.2 (by show ¬ 3 = 2; omega)).trans ((if_neg fun h => absurd h.1 (by show ¬ kBetw = kPlus; decide)).trans ((if_neg fun h => absurd h.1 (by show ¬ kBetw = kMinu; decide)).trans (if_pos ⟨rfl, rfl⟩))))))]
    have hy := hm y (by simp)
    have hz := hm z (by simp)
    exact a_ans_yes s hs kBetw [y, z] hsp (Nat.le_of_ble_eq_true rfl) 6 40 inferInstance (betwW y z) (by kernel_rfl) w hb fun b c W hB hbW hc => a_betwW b 1 2 c y z (by omega) (by omega) (by omega) W (hc 0 (Nat.le_of_ble_eq_true rfl)) (hc 1 (Nat.le_of_ble_eq_true rfl)) hbW (he.keep hB) (hp.keep hB)
  · rw [ans_what (fun h => ?_) (fun h => ?_)]
    · exact a_ans_len s hs kBetw R hsp 6 2 40 (by omega) (by kernel_rfl) w hb
    · refine ⟨?_, ?_, ?_, ?_⟩ <;> (show ¬ kBetw = _; decide)
    · exact absurd h (by rw [List.length_cons]; omega)

theorem a_answer (s : ByteArray) (hs : s.size ≤ 1000000) (w : World) (hb : D.Base w) (he : Err w) (hg : Hdl w) (hp : Pw w) : Calls Tryz.prog 23 #[.string s] w fun e w' => e = .returned (.string (ansT s)) ∧ Below w.heap.size w w' := by
  obtain ⟨x, R, hsp⟩ : ∃ x R, splL 32 s = x :: R := by
    cases h : splL 32 s with
    | nil => exact absurd h (splL_ne 32 s)
    | cons x R => exact ⟨x, R, rfl⟩
  by_cases kDate' : x = kDate
  · exact ansDate s hs R (by rw [hsp, kDate']) w hb he hg hp
  by_cases kTidy' : x = kTidy
  · exact ansTidy s hs R (by rw [hsp, kTidy']) w hb he hg hp
  by_cases kEast' : x = kEast
  · exact ansEast s hs R (by rw [hsp, kEast']) w hb he hg hp
  by_cases kSpan' : x = kSpan
  · exact ansSpan s hs R (by rw [hsp, kSpan']) w hb he hg hp
  by_cases kPlus' : x = kPlus
  · exact ansPlus s hs R (by rw [hsp, kPlus']) w hb he hg hp
  by_cases kMinu' : x = kMinu
  · exact ansMinu s hs R (by rw [hsp, kMinu']) w hb he hg hp
  by_cases kBetw' : x = kBetw
  · exact ansBetw s hs R (by rw [hsp, kBetw']) w hb he hg hp
  unfold ansT
  rw [hsp, ans_what (W := x :: R) (fun _ => ⟨kDate', kTidy', kEast', kSpan'⟩) (fun _ => ⟨kPlus', kMinu', kBetw'⟩)]
  exact a_ans_none s hs x R hsp (find_none ⟨kDate', kTidy', kEast', kSpan', kPlus', kMinu', kBetw'⟩) w hb

end D
end Go.Proofs.YtboglbdhibcacaaGreatDoor

namespace Go.Proofs.YtboglbdhibcacaaGreatDoor
set_option linter.unusedVariables false
set_option linter.unusedSimpArgs false
set_option maxRecDepth 100000
set_option maxHeartbeats 4000000
namespace D
open Go.RowKit
open Go.PlainAid (bt bt_nonneg bt_le bt_end)
open Go.Lib (strCells strCells_length)
attribute [local irreducible] Calls

theorem strCells_app (a b : ByteArray) : strCells (a ++ b) = strCells a ++ strCells b := by
  unfold strCells
  simp

theorem a_Execute (s : ByteArray) (hs : s.size ≤ 1048576) (w : World) (hb : D.Base w) (he : Err w) (hg : Hdl w) (hp : Pw w) : Calls Tryz.prog 13 #[.string s] w fun e w' => e = .returned (.string (exeT s)) ∧ Below w.heap.size w w' := by
  unfold exeT
  by_cases h6 : s.size ≤ 600
  · rw [if_pos h6]
    obtain ⟨Ls, z, hsp⟩ : ∃ Ls z, splL 10 s = Ls ++ [z] := ⟨_, _, (List.dropLast_concat_getLast (splL_ne 10 s)).symm⟩
    have hfew := splL_few 10 s
    have hmem := splL_size 10 s
    rw [hsp] at hfew hmem ⊢
    rw [List.dropLast_concat]
    have hlen : (Ls ++ [z]).length = Ls.length + 1 := by simp
    rw [hlen] at hfew
    refine enter Tryz.func13 rfl Tryz.ntmps13 rfl (by assumption) ?_
    (repeat' (first | intro (b : Nat) | refine go ?_ | (refine br ?_ ?_ <;> first | exact trivial | intro hq)))
    (refine L.ncall (h := by intro W hW; exact a_Split s s10 10 (by omega) (by omega) (by omega) rfl rfl W hW.base) (k := ?_); rintro v H ⟨b1, n1, pad, rfl, rfl, hS⟩)
    have hcap := hS.le
    rw [hsp, hlen] at hcap
    rw [hsp, hlen]
    simp only [List.cons_append, List.nil_append]
    (repeat' (first | intro (b : Nat) | refine go ?_ | (refine br ?_ ?_ <;> first | exact trivial | intro hq)))
    have hAns := fun x => a_answer x
    have hI := a_Itoa (Ls.length : Int) (by omega)
    (refine L.p rfl rfl (PV.slh rfl rfl (by omega) (by omega)) ?_)
    rw [show (((Ls.length + 1 : Nat) : Int) - 1).toNat = Ls.length by omega]
    (repeat' (first | intro (b : Nat) | refine go ?_ | (refine br ?_ ?_ <;> first | exact trivial | intro hq)))
    refine C.perm' (List.Perm.swap _ _ []) ?_
    refine C.loopw (Y := Nat × Bool × Value × SH) (fun k => [(3, .pointer (some ⟨b, 0, none⟩)), (4, .slice (some ⟨b1, 0, none⟩) Ls.length n1), (17, .slice (some ⟨b1, 0, none⟩) Ls.length n1), (18, .int .i64 (Ls.length : Int)), (19, .int .i64 (k.1 : Int))])
      (fun k => (b, bldB k.2.1 b k.2.2.1) :: (b1, sE.blk (Ls ++ [z]) pad) :: k.2.2.2)
      (fun k => k.1 ≤ Ls.length ∧ SlS 5 1 (outL (Ls.take k.1)).size (strCells (outL (Ls.take k.1))) k.2.2.1 k.2.2.2) (fun k => Ls.length - k.1) (0, false, .slice none 0 0, []) ⟨Nat.zero_le _, .inl ⟨rfl, rfl, rfl, rfl⟩⟩ (fun k hy => ?_)
    generalize k.1 = i at *
    generalize k.2.1 = u at *
    generalize k.2.2.1 = v at *
    generalize k.2.2.2 = Hs at *
    obtain ⟨h1, h2⟩ := hy
    have hos := outL_sz (Ls.take i)
    have htl : (Ls.take i).length ≤ i := by rw [List.length_take]; omega
    by_cases hlt : i < Ls.length
    · have hget : (flat sE.fc (Ls ++ [z]) ++ pad)[0 + ((i : Int)).toNat * 1]? = some (.string (Ls.getD i ⟨#[]⟩)) := by
        have h := flat_get sE.len (Ls ++ [z]) pad i (Ls.getD i ⟨#[]⟩) (by simp [List.getD, hlt, List.getElem?_append_left]) 0 _ rfl
        rw [Int.toNat_natCast, Nat.zero_add]
        exact h
      have hx : (Ls.getD i ⟨#[]⟩).size ≤ s.size := hmem _ (List.mem_append_left _ (getD_memS hlt))
      have hA := hAns (Ls.getD i ⟨#[]⟩) (by omega)
      have ho : outL (Ls.take (i + 1)) = outL (Ls.take i) ++ (ansT (Ls.getD i ⟨#[]⟩) ++ s10) := by rw [take_snocS hlt, outL_snoc]
      have hza : (ansT (Ls.getD i ⟨#[]⟩)).size ≤ 100 := ansW_sz _
      have hzz : (ansT (Ls.getD i ⟨#[]⟩) ++ s10).size = (ansT (Ls.getD i ⟨#[]⟩)).size + 1 := by rw [ByteArray.size_append]; rfl
      generalize Ls.getD i ⟨#[]⟩ = x at *
      generalize ansT x = ax at *
      (repeat' (first | intro (b : Nat) | refine go ?_ | (refine br ?_ ?_ <;> first | exact trivial | intro hq)))
      (refine L.call (h := by intro W hW; exact hA W hW.base (hW.err he) (hW.old hg) (hp.old hW)) (k := ?_))
      (repeat' (first | intro (b : Nat) | refine go ?_ | (refine br ?_ ?_ <;> first | exact trivial | intro hq)))
      (refine L.tcallR b (h := by intro W hW; exact a_WriteString w [(b1, sE.blk (Ls ++ [z]) pad)] Hs b (outL (Ls.take i)).size u (strCells (outL (Ls.take i))) v (ax ++ s10) h2 (by omega) W hW) (k := ?_))
      rintro r H2 ⟨rfl, v', Hb, hS', rfl⟩
      (repeat' (first | intro (b : Nat) | refine go ?_ | (refine br ?_ ?_ <;> first | exact trivial | intro hq)))
      (refine X.roundw (i + 1, true, v', Hb) ⟨by show i + 1 ≤ Ls.length; omega, by show SlS 5 1 (outL (Ls.take (i + 1))).size (strCells (outL (Ls.take (i + 1)))) v' Hb; rw [ho, ByteArray.size_append, strCells_app]; exact hS'⟩ (by show Ls.length - (i + 1) < Ls.length - i; omega))
    · have hd4 := (decL_len (Ls.length : Int)).2
      rw [← strOfNums_size] at hd4
      rw [List.take_of_length_le (by omega)] at h2 hos
      unfold exeL
      generalize strOfNums (decL (Ls.length : Int)) = t at *
      have ht : tLines.size = 6 := rfl
      have y1 : (tLines ++ t).size = 6 + t.size := by rw [ByteArray.size_append, ht]
      have y2 : (tLines ++ t ++ s10).size = 6 + t.size + 1 := by rw [ByteArray.size_append, y1]; rfl
      have y3 : (outL Ls ++ (tLines ++ t ++ s10)).size = (outL Ls).size + (6 + t.size + 1) := by rw [ByteArray.size_append, y2]
      (repeat' (first | intro (b : Nat) | refine go ?_ | (refine br ?_ ?_ <;> first | exact trivial | intro hq)))
      (refine L.call (h := by intro W hW; exact hI W hW.base (hp.old hW)) (k := ?_))
      (repeat' (first | intro (b : Nat) | refine go ?_ | (refine br ?_ ?_ <;> first | exact trivial | intro hq)))
      (refine L.tcallR b (h := by intro W hW; exact a_WriteString w [(b1, sE.blk (Ls ++ [z]) pad)] Hs b (outL Ls).size u (strCells (outL Ls)) v (tLines ++ t ++ s10) h2 (by omega) W hW) (k := ?_))
      rintro r H2 ⟨rfl, v', Hb, hS', rfl⟩
      rw [← strCells_app, ← ByteArray.size_append] at hS'
      generalize outL Ls ++ (tLines ++ t ++ s10) = T at *
      rcases hS' with ⟨_, h0, _, _⟩ | ⟨g, c2, pad2, rfl, rfl, hle, _, _, _⟩
      · omega
      (repeat' (first | intro (b : Nat) | refine go ?_ | (refine br ?_ ?_ <;> first | exact trivial | intro hq)))
      (refine L.tcallR b (h := by intro W hW; exact a_BString w [(b1, sE.blk (Ls ++ [z]) pad)] b g c2 T pad2 (by omega) (by omega) hle W (hW.perm (.cons _ (List.Perm.swap _ _ _)))) (k := ?_))
      rintro r H2 ⟨rfl, rfl⟩
      (repeat' (first | intro (b : Nat) | refine go ?_ | (refine br ?_ ?_ <;> first | exact trivial | intro hq)))
      (refine ret ?_; try exact rfl)
  · rw [if_neg h6]
    refine enter Tryz.func13 rfl Tryz.ntmps13 rfl (by assumption) ?_
    (repeat' (first | intro (b : Nat) | refine go ?_ | (refine br ?_ ?_ <;> first | exact trivial | intro hq)))
    (refine ret ?_; try exact rfl)

end D
end Go.Proofs.YtboglbdhibcacaaGreatDoor
