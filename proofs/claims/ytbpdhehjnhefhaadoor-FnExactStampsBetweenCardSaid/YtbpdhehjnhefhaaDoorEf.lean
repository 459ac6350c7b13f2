/- The engine, part 6: the rules of a region whose order is drawn. -/
import Derived.Test.YtbpdhehjnhefhaaDoorEe
namespace Go.Proofs.YtbpdhehjnhefhaaDoor
set_option linter.unusedVariables false
set_option linter.unusedSimpArgs false
namespace D
open Go.RowKit

variable {P : Program} {n m : Nat} {ds : List Deferred} {w0 : World} {ops : List Oper} {Q : Exit → Act → World → Prop} {hs : SH} {Rs : List Sp} {a0 : Act} {K : Env → SH → Prop}

theorem sel_sub (ops : List Oper) (i : Nat) : ∀ (acc : List (Nat × SH)), (sel ops i acc).Sublist (allH acc)
  | [] => .slnil
  | p :: r => by
    have ih := sel_sub ops i r
    unfold sel allH at *
    by_cases h : (bef ops i).testBit p.1 = true
    · simp only [List.filter_cons, h, if_true, List.map_cons, List.flatten_cons]
      exact (List.Sublist.refl _).append ih
    · simp only [List.filter_cons, h, if_false, List.map_cons, List.flatten_cons]
      exact ih.trans (List.sublist_append_right _ _)
theorem acts_upto {c c' : Nat → Value × SH} : ∀ i, (∀ j, j < i → c' j = c j) → acts P ops w0 Rs a0 c' i = acts P ops w0 Rs a0 c i
  | 0, _ => rfl
  | i + 1, h => by
    have ih := acts_upto i (fun j hj => h j (by omega))
    cases ho : ops[i]? with
    | none => simp only [acts, ho, ih]
    | some o =>
      rw [acts_succ ho, acts_succ ho, ih]
      congr 1
      unfold vl
      split
      · rw [h i (by omega)]
      · rfl
theorem accOf_upto {c c' : Nat → Value × SH} : ∀ i, (∀ j, j < i → c' j = c j) → accOf Rs c' i = accOf Rs c i
  | 0, _ => rfl
  | i + 1, h => by
    have ih := accOf_upto i (fun j hj => h j (by omega))
    unfold accOf
    rw [ih, h i (by omega)]
/-- Some choice of what the operations leave there is: the run in the text's order. -/
theorem canon {e0 : Env} (hlen : Rs.length = m) (hle : m ≤ ops.length) (h : RG P n w0 ops hs K 0 (ops.take m) Rs e0 [] hs) (ha : At n ds e0 a0) {w : World} (hst : St w0 hs w) :
    ∀ i, i ≤ m → ∃ c, (∀ (j : Nat) R, j < i → Rs[j]? = some (some R) → R (c j).1 (c j).2) ∧ ∃ w', St w0 (allH (accOf Rs c i) ++ hs) w'
  | 0, _ => ⟨fun _ => (undef, []), fun j R hj => by omega, w, by simpa [accOf, allH] using hst⟩
  | i + 1, hi => by
    obtain ⟨c, hg, w', hw'⟩ := canon hlen hle h ha hst i (by omega)
    obtain ⟨e, hA, hR⟩ := tree hlen hle h ha i (by omega) hg
    have hio : i < ops.length := by omega
    have ho : ops[i]? = some ops[i] := List.getElem?_eq_getElem hio
    have hRi : i < Rs.length := by omega
    have hr : Rs[i]? = some Rs[i] := List.getElem?_eq_getElem hRi
    have ed : (ops.take m).drop i = ops[i] :: (ops.take m).drop (i + 1) := by
      rw [List.drop_eq_getElem_cons (by simp; omega)]
      simp
    have eR : Rs.drop i = Rs[i] :: Rs.drop (i + 1) := List.drop_eq_getElem_cons hRi
    rw [ed, eR] at hR
    cases hq : Rs[i] with
    | none =>
      rw [hq] at hr
      refine ⟨c, fun j R hj hRj => ?_, w', ?_⟩
      · by_cases hji : j = i
        · subst hji; rw [hr] at hRj; cases hRj
        · exact hg j R (by omega) hRj
      · have : accOf Rs c (i + 1) = accOf Rs c i := by simp only [accOf, hr]
        rw [this]; exact hw'
    | some R =>
      rw [hq] at hR hr
      obtain ⟨hd, hv, _⟩ := hR
      have hex : ∃ v H w'', R v H ∧ New H w' w'' := by
        rcases hv with ⟨hw, hON⟩ | ⟨hw, hRe⟩
        · obtain ⟨v, w'', H, hRv, hN⟩ := (hON.ok _ w' hA.fits (hw'.sub ((sel_sub _ _ _).append (List.Sublist.refl _)))).some
          exact ⟨v, H, w'', hRv, hN⟩
        · exact ⟨undef, [], w', by rw [hRe]; exact ⟨rfl, rfl⟩, .refl _⟩
      obtain ⟨v, H, w'', hRv, hN⟩ := hex
      let c' : Nat → Value × SH := fun j => if j = i then (v, H) else c j
      have hc'i : c' i = (v, H) := if_pos rfl
      have hc'j : ∀ j, j < i → c' j = c j := fun j hj => if_neg (by omega)
      refine ⟨c', fun j R' hj hR' => ?_, w'', ?_⟩
      · by_cases hji : j = i
        · subst hji
          rw [hr] at hR'
          obtain rfl : R = R' := Option.some.inj (Option.some.inj hR')
          rw [hc'i]; exact hRv
        · rw [hc'j j (by omega)]; exact hg j R' (by omega) hR'
      · have : accOf Rs c' (i + 1) = consA i H (accOf Rs c i) := by simp only [accOf, hr, hc'i, accOf_upto i hc'j]
        rw [this, allH_consA, List.append_assoc]
        exact hw'.new hN

/-- The walk in the text's order, as a word that does not unfold. -/
structure G (P : Program) (n : Nat) (w0 : World) (ops : List Oper) (hs : SH) (K : Env → SH → Prop) (i : Nat) (l : List Oper) (Rs : List Sp) (e : Env) (acc : List (Nat × SH)) (own : SH) : Prop where
  ok : RG P n w0 ops hs K i l Rs e acc own

/-- **A region whose order is drawn**: m operations that may come in any order their edges allow, then the rest in the text's order. -/
theorem C.draw {id : Nat} {e0 : Env} (m : Nat) (Rs : List Sp) (hm : P.follows .mixedOrders = true) (hc : chk ops m (Rs.map isPure) = true) (hQ : ∀ c a a' w, a'.defers = a.defers → Q (.panic c) a w → Q (.panic c) a' w)
    (h' : G P n w0 ops hs (fun e' hs' => L P n ds w0 ops Q (ops.drop m) e' hs') 0 (ops.take m) Rs e0 [] hs) : C P n ds w0 Q (.region id ops.toArray true) e0 hs := .mk fun a w ha hst => by
  have hC := chk_spec hc
  have h := h'.ok
  have hlen : Rs.length = m := by have := hC.len; simpa using this
  obtain ⟨c, hg, _⟩ := canon hlen hC.le h ha hst m (Nat.le_refl _)
  have hno : ∀ i, ¬ Ls (Array.replicate ops.length false) i := fun i hi => by
    unfold Ls at hi
    by_cases hl : i < ops.length <;> simp [hl] at hi
  refine wp_region_any hm ?_
  refine any_main hC ha hQ h _ _ _ _ c
    { lsize := by simp
      dc := fun i o ho hi => (hno i (by simpa using hi)).elim
      pre := fun i hi => (hno i (by simpa using hi)).elim
      good := fun i R hR => hg i R (by have := (List.getElem?_eq_some_iff.1 hR).1; omega) hR
      defers := rfl
      tsize := rfl
      tin := fun t j o ho hd hi => (hno j (by simpa using hi)).elim
      tout := fun t _ => rfl
      st := hst.drew
      own := fun j R hR hi => (hno j (by simpa using hi)).elim
      cross := fun j k R R' hne hR hR' hi => (hno j (by simpa using hi)).elim } ?_
  unfold unl
  have := List.length_filter_le (fun j => !(Array.replicate ops.toArray.size false).getD j true) (List.range ops.length)
  simpa using this

/-! ### Its steps -/
variable {i : Nat} {o : Oper} {os : List Oper} {e : Env} {acc : List (Nat × SH)} {own : SH} {v : Value} {R : Value → SH → Prop}
def Eqv (v : Value) : Value → SH → Prop := fun v' H => v' = v ∧ H = []
theorem G.p (hw : wantE ops e o = some true) (hd : dstOk n o.dst = true) (h : PV P o e v) (k : G P n w0 ops hs K (i + 1) os Rs (consE o.dst v e) acc own) : G P n w0 ops hs K i (o :: os) (none :: Rs) e acc own :=
  .mk ⟨hd, v, .inl ⟨hw, h⟩, k.ok⟩
theorem G.ps (hw : wantE ops e o = some false) (hd : dstOk n o.dst = true) (k : G P n w0 ops hs K (i + 1) os Rs (consE o.dst undef e) acc own) : G P n w0 ops hs K i (o :: os) (none :: Rs) e acc own :=
  .mk ⟨hd, undef, .inr ⟨hw, rfl⟩, k.ok⟩
theorem G.pb {b c : Bool} (hw : wantE ops e o = some true) (hd : dstOk n o.dst = true) (h : PV P o e (.bool b)) (hb : b = c) (k : G P n w0 ops hs K (i + 1) os Rs (consE o.dst (.bool c) e) acc own) : G P n w0 ops hs K i (o :: os) (none :: Rs) e acc own :=
  G.p hw hd h (by rw [hb]; exact k)
theorem ON.wide {hs' : SH} (h : ON P o e w0 hs R) : ON P o e w0 (hs' ++ hs) R := .mk fun ρ w hf hst => h.ok ρ w hf (hst.sub (List.sublist_append_right _ _))
theorem OV.on (h : OV P o e w0 hs v) : ON P o e w0 hs (Eqv v) := .mk fun ρ w hf hst => (h.ok ρ w hf hst).mono fun v' w' ⟨hv, hn⟩ => ⟨[], ⟨hv, rfl⟩, hn⟩
theorem G.va (hw : wantE ops e o = some true) (hd : dstOk n o.dst = true) (h : OV P o e w0 hs v) (k : G P n w0 ops hs K (i + 1) os Rs (consE o.dst v e) acc own) : G P n w0 ops hs K i (o :: os) (some (Eqv v) :: Rs) e acc own :=
  .mk ⟨hd, .inl ⟨hw, h.on.wide⟩, fun v' H ⟨hv, hH⟩ => by subst hv; subst hH; exact k.ok⟩
theorem G.vb {b c : Bool} (hw : wantE ops e o = some true) (hd : dstOk n o.dst = true) (h : OV P o e w0 hs (.bool b)) (hb : b = c) (k : G P n w0 ops hs K (i + 1) os Rs (consE o.dst (.bool c) e) acc own) : G P n w0 ops hs K i (o :: os) (some (Eqv (.bool b)) :: Rs) e acc own :=
  G.va hw hd h (by rw [hb]; exact k)
theorem G.vs (hw : wantE ops e o = some false) (hd : dstOk n o.dst = true) (k : G P n w0 ops hs K (i + 1) os Rs (consE o.dst undef e) acc own) : G P n w0 ops hs K i (o :: os) (some (Eqv undef) :: Rs) e acc own :=
  .mk ⟨hd, .inr ⟨hw, rfl⟩, fun v' H ⟨hv, hH⟩ => by subst hv; subst hH; exact k.ok⟩
/-- One that looks at memory that the region itself has made. -/
theorem G.vd {X : SH} (hX : sel ops i acc = X) (hw : wantE ops e o = some true) (hd : dstOk n o.dst = true) (h : OV P o e w0 (X ++ hs) v) (k : G P n w0 ops hs K (i + 1) os Rs (consE o.dst v e) acc own) : G P n w0 ops hs K i (o :: os) (some (Eqv v) :: Rs) e acc own :=
  .mk ⟨hd, .inl ⟨hw, by rw [hX]; exact h.on⟩, fun v' H ⟨hv, hH⟩ => by subst hv; subst hH; exact k.ok⟩
theorem G.nw (hw : wantE ops e o = some true) (hd : dstOk n o.dst = true) (h : ON P o e w0 hs R) (k : ∀ v H, R v H → G P n w0 ops hs K (i + 1) os Rs (consE o.dst v e) (consA i H acc) (H ++ own)) : G P n w0 ops hs K i (o :: os) (some R :: Rs) e acc own :=
  .mk ⟨hd, .inl ⟨hw, h.wide⟩, fun v H hR => (k v H hR).ok⟩
theorem G.nd {X : SH} (hX : sel ops i acc = X) (hw : wantE ops e o = some true) (hd : dstOk n o.dst = true) (h : ON P o e w0 (X ++ hs) R) (k : ∀ v H, R v H → G P n w0 ops hs K (i + 1) os Rs (consE o.dst v e) (consA i H acc) (H ++ own)) : G P n w0 ops hs K i (o :: os) (some R :: Rs) e acc own :=
  .mk ⟨hd, .inl ⟨hw, by rw [hX]; exact h⟩, fun v H hR => (k v H hR).ok⟩
theorem G.na {B : Blk} (hw : wantE ops e o = some true) (hd : dstOk n o.dst = true) (h : ON P o e w0 hs (NewAt B)) (k : ∀ b : Nat, G P n w0 ops hs K (i + 1) os Rs (consE o.dst (.pointer (some ⟨b, 0, none⟩)) e) ((i, [(b, B)]) :: acc) ((b, B) :: own)) :
    G P n w0 ops hs K i (o :: os) (some (NewAt B) :: Rs) e acc own :=
  G.nw hw hd h fun v H ⟨b, hv, hH⟩ => by subst hv; subst hH; exact k b
theorem G.done (k : K e own) : G P n w0 ops hs K i [] [] e acc own := .mk k

end D
end Go.Proofs.YtbpdhehjnhefhaaDoor
