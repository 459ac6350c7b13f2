/- The engine, part 6: the rules of a region whose order is drawn. -/
import Derived.Test.YtpodhahlbdlgeaaDoorEe
namespace Go.Proofs.YtpodhahlbdlgeaaDoor
set_option linter.unusedVariables false
set_option linter.unusedSimpArgs false
namespace D
open Go.RowKit

variable {P : Program} {n m : Nat} {ds : List Deferred} {w0 : World} {ops : List Oper} {Q : Exit → Act → World → Prop} {hs : SH} {Rs : List Sp} {a0 : Act} {K : Env → SH → Prop} {Z : Lend}

theorem sel_sub (ops : List Oper) (i : Nat) : ∀ (acc : List (Nat × SH)), (sel ops i acc).Sublist (allH acc)
  | [] => .slnil
  | p :: r => by
    have ih := sel_sub ops i r
    unfold sel allH at *
    by_cases h : (bef ops i).testBit p.1 = true
    · simp only [List.filter_cons, h, if_true, List.map_cons, List.flatten_cons]
      exact (List.Sublist.refl _).append ih
    · simp only [List.filter_cons, h, if_false, List.map_cons, List.flatten_cons]
      exact ih.trans (List.sublist_append_right _ _)
theorem acts_upto {c c' : Nat → Value × SH} : ∀ i, (∀ j, j < i → c' j = c j) → acts P ops w0 Rs a0 c' i = acts P ops w0 Rs a0 c i
  | 0, _ => rfl
  | i + 1, h => by
    have ih := acts_upto i (fun j hj => h j (by omega))
    cases ho : ops[i]? with
    | none => simp only [acts, ho, ih]
    | some o =>
      rw [acts_succ ho, acts_succ ho, ih]
      congr 1
      unfold vl
      split
      · rw [h i (by omega)]
      · rfl
theorem accOf_upto {c c' : Nat → Value × SH} : ∀ i, (∀ j, j < i → c' j = c j) → accOf Rs c' i = accOf Rs c i
  | 0, _ => rfl
  | i + 1, h => by
    have ih := accOf_upto i (fun j hj => h j (by omega))
    unfold accOf
    rw [ih, h i (by omega)]
/-- What has come up, parted, for the run in the text's order. -/
theorem part_perm (ops : List Oper) (i : Nat) : ∀ acc : List (Nat × SH), (allH acc).Perm (sel ops i acc ++ allH (acc.filter fun q => !(bef ops i).testBit q.1))
  | [] => .nil
  | u :: r => by
    have ih := part_perm ops i r
    unfold sel allH at *
    by_cases h : (bef ops i).testBit u.1 = true
    · simp only [List.filter_cons, h, if_true, List.map_cons, List.flatten_cons, Bool.not_true, Bool.false_eq_true, if_false, List.append_assoc]
      exact List.Perm.append_left _ ih
    · simp only [List.filter_cons, h, if_false, List.map_cons, List.flatten_cons, Bool.not_false, if_true, Bool.eq_false_iff.2 h]
      exact (List.Perm.append_left _ ih).trans perm_mid
/-- Some choice of what the operations leave there is: the run in the text's order. -/
theorem canon {e0 : Env} (hlen : Rs.length = m) (hle : m ≤ ops.length) (hZ : Z.lo + tot Z.c ops.length ≤ Z.hi) (h : RG P n w0 Z ops hs K 0 (ops.take m) Rs e0 [] hs) (ha : At n ds e0 a0) {w : World} (hst : St w0 (Z.pre Z.lo ++ hs) w) :
    ∀ i : Nat, i ≤ m → ∃ c, (∀ (j : Nat) R, j < i → Rs[j]? = some (some R) → R (c j).1 (c j).2) ∧ ∃ p w', Z.lo ≤ p ∧ p ≤ Z.lo + tot Z.c i ∧ St w0 (Z.pre p ++ (allH (accOf Rs c i) ++ hs)) w'
  | 0, _ => ⟨fun _ => (undef, []), fun j R hj => by omega, Z.lo, w, by omega, by simp [tot], by simpa [accOf, allH] using hst⟩
  | i + 1, hi => by
    obtain ⟨c, hg, p, w', hp1, hp2, hw'⟩ := canon hlen hle hZ h ha hst i (by omega)
    have hstep : tot Z.c (i + 1) = tot Z.c i + Z.c i := rfl
    have hup : tot Z.c (i + 1) ≤ tot Z.c ops.length := tot_mono Z.c (by omega)
    obtain ⟨e, hA, hR⟩ := tree hlen hle h ha i (by omega) hg
    have hio : i < ops.length := by omega
    have ho : ops[i]? = some ops[i] := List.getElem?_eq_getElem hio
    have hRi : i < Rs.length := by omega
    have hr : Rs[i]? = some Rs[i] := List.getElem?_eq_getElem hRi
    have ed : (ops.take m).drop i = ops[i] :: (ops.take m).drop (i + 1) := by
      rw [List.drop_eq_getElem_cons (by simp; omega)]
      simp
    have eR : Rs.drop i = Rs[i] :: Rs.drop (i + 1) := List.drop_eq_getElem_cons hRi
    rw [ed, eR] at hR
    cases hq : Rs[i] with
    | none =>
      rw [hq] at hr
      refine ⟨c, fun j R hj hRj => ?_, p, w', hp1, by omega, ?_⟩
      · by_cases hji : j = i
        · subst hji; rw [hr] at hRj; cases hRj
        · exact hg j R (by omega) hRj
      · have : accOf Rs c (i + 1) = accOf Rs c i := by simp only [accOf, hr]
        rw [this]; exact hw'
    | some R =>
      rw [hq] at hR hr
      obtain ⟨hd, hv, _⟩ := hR
      have hex : ∃ v H p' w'', R v H ∧ Z.lo ≤ p' ∧ p' ≤ p + Z.c i ∧ St w0 (H ++ (Z.pre p' ++ (allH (accOf Rs c i) ++ hs))) w'' := by
        rcases hv with ⟨hw, hON⟩ | ⟨hw, hRe⟩
        · have hpm : (allH (accOf Rs c i) ++ hs).Perm ((sel ops i (accOf Rs c i) ++ hs) ++ allH ((accOf Rs c i).filter fun q => !(bef ops i).testBit q.1)) := by
            refine ((part_perm ops i _).append_right hs).trans ?_
            rw [List.append_assoc, List.append_assoc]
            exact List.Perm.append_left _ List.perm_append_comm
          obtain ⟨v, w'', H, p', hRv, h1, h2, hN⟩ := (hON.ok _ w' p _ hA.fits hp1 (by omega) (hw'.perm (List.Perm.append_left _ hpm))).some
          exact ⟨v, H, p', w'', hRv, by omega, h2, hN.perm (List.Perm.append_left _ (List.Perm.append_left _ hpm.symm))⟩
        · exact ⟨undef, [], p, w', by rw [hRe]; exact ⟨rfl, rfl⟩, hp1, by omega, hw'⟩
      obtain ⟨v, H, p', w'', hRv, h1, h2, hN⟩ := hex
      let c' : Nat → Value × SH := fun j => if j = i then (v, H) else c j
      have hc'i : c' i = (v, H) := if_pos rfl
      have hc'j : ∀ j, j < i → c' j = c j := fun j hj => if_neg (by omega)
      refine ⟨c', fun j R' hj hR' => ?_, p', w'', h1, by omega, ?_⟩
      · by_cases hji : j = i
        · subst hji
          rw [hr] at hR'
          obtain rfl : R = R' := Option.some.inj (Option.some.inj hR')
          rw [hc'i]; exact hRv
        · rw [hc'j j (by omega)]; exact hg j R' (by omega) hR'
      · have : accOf Rs c' (i + 1) = consA i H (accOf Rs c i) := by simp only [accOf, hr, hc'i, accOf_upto i hc'j]
        rw [this, allH_consA, List.append_assoc]
        exact hN.perm perm_mid

/-- The walk in the text's order, as a word that does not unfold. -/
structure G (P : Program) (n : Nat) (w0 : World) (Z : Lend) (ops : List Oper) (hs : SH) (K : Env → SH → Prop) (i : Nat) (l : List Oper) (Rs : List Sp) (e : Env) (acc : List (Nat × SH)) (own : SH) : Prop where
  ok : RG P n w0 Z ops hs K i l Rs e acc own

theorem tot_const (c : Nat) : ∀ n, tot (fun _ => c) n = c * n
  | 0 => rfl
  | n + 1 => by rw [tot, tot_const c n, Nat.mul_succ]
theorem draw_main {id : Nat} {e0 : Env} (hm : P.follows .mixedOrders = true) (hC : Chk ops m (Rs.map isPure)) (hQ : ∀ c a a' w, a'.defers = a.defers → Q (.panic c) a w → Q (.panic c) a' w) (hZ : Z.lo + tot Z.c ops.length ≤ Z.hi)
    (h : RG P n w0 Z ops hs K 0 (ops.take m) Rs e0 [] hs) (hK : ∀ e own, K e own → ∀ p, Z.lo ≤ p → p ≤ Z.hi → L P n ds w0 ops Q (ops.drop m) e (Z.pre p ++ own)) : C P n ds w0 Q (.region id ops.toArray true) e0 (Z.pre Z.lo ++ hs) := .mk fun a w ha hst => by
  have hlen : Rs.length = m := by have := hC.len; simpa using this
  obtain ⟨c, hg, _⟩ := canon hlen hC.le hZ h ha hst m (Nat.le_refl _)
  have hno : ∀ i, ¬ Ls (Array.replicate ops.length false) i := fun i hi => by
    unfold Ls at hi
    by_cases hl : i < ops.length <;> simp [hl] at hi
  have hun : unl ops.length (Array.replicate ops.toArray.size false) ≤ ops.length := by
    unfold unl
    have := List.length_filter_le (fun j => !(Array.replicate ops.toArray.size false).getD j true) (List.range ops.length)
    simpa using this
  refine wp_region_any hm ?_
  refine any_main hC ha hQ h hK _ _ _ _ c Z.lo
    { lsize := by simp
      dc := fun i o ho hi => (hno i (by simpa using hi)).elim
      pre := fun i hi => (hno i (by simpa using hi)).elim
      good := fun i R hR => hg i R (by have := (List.getElem?_eq_some_iff.1 hR).1; omega) hR
      defers := rfl
      tsize := rfl
      tin := fun t j o ho hd hi => (hno j (by simpa using hi)).elim
      tout := fun t _ => rfl
      st := hst.drew
      plo := Int.le_refl _
      phi := by
        have := bud_le Z.c (Array.replicate ops.toArray.size false) ops.length
        omega
      own := fun j R hR hi => (hno j (by simpa using hi)).elim
      cross := fun j k R R' hne hR hR' hi => (hno j (by simpa using hi)).elim } ?_
  simpa using hun

/-- **A region whose order is drawn**: m operations that may come in any order their edges allow, then the rest in the text's order. -/
theorem C.draw {id : Nat} {e0 : Env} (m : Nat) (Rs : List Sp) (hm : P.follows .mixedOrders = true) (hc : chk ops m (Rs.map isPure) = true) (hQ : ∀ c a a' w, a'.defers = a.defers → Q (.panic c) a w → Q (.panic c) a' w)
    (h' : G P n w0 ⟨fun _ => [], fun _ => 0, 0, 0⟩ ops hs (fun e' hs' => L P n ds w0 ops Q (ops.drop m) e' hs') 0 (ops.take m) Rs e0 [] hs) : C P n ds w0 Q (.region id ops.toArray true) e0 hs :=
  draw_main (Z := ⟨fun _ => [], fun _ => 0, 0, 0⟩) hm (chk_spec hc) hQ (by rw [tot_const]; simp) h'.ok fun _ _ h _ _ _ => h

/-- One block is taken out of a list. -/
inductive Pull (x : Nat × Blk) : SH → SH → Prop where
  | here {r : SH} : Pull x (x :: r) r
  | there {y : Nat × Blk} {r r' : SH} (h : Pull x r r') : Pull x (y :: r) (y :: r')
theorem Pull.perm {x : Nat × Blk} {hs r : SH} (h : Pull x hs r) : hs.Perm (x :: r) := by
  induction h with
  | here => exact .refl _
  | there h ih => exact (ih.cons _).trans (.swap _ _ _)
/-- The same, where the calls may turn a block that is lent. -/
theorem C.drawl {id : Nat} {e0 : Env} {r : Nat} {p0 : Int} {F : SH} (m : Nat) (Rs : List Sp) (hm : P.follows .mixedOrders = true) (hc : chk ops m (Rs.map isPure) = true) (hQ : ∀ c a a' w, a'.defers = a.defers → Q (.panic c) a w → Q (.panic c) a' w)
    (bs : Int → Blk) (c T : Nat) (hT : Nat.ble (c * ops.length) T = true) (hp : Pull (r, bs p0) hs F)
    (h' : G P n w0 ⟨fun p => [(r, bs p)], fun _ => c, p0, p0 + T⟩ ops F (fun e' own => ∀ p, p0 ≤ p → p ≤ p0 + T → L P n ds w0 ops Q (ops.drop m) e' ((r, bs p) :: own)) 0 (ops.take m) Rs e0 [] F) : C P n ds w0 Q (.region id ops.toArray true) e0 hs := .mk fun a w ha hst =>
  (draw_main (Z := ⟨fun p => [(r, bs p)], fun _ => c, p0, p0 + T⟩) hm (chk_spec hc) hQ (by have := Nat.le_of_ble_eq_true hT; show p0 + ((tot (fun _ => c) ops.length : Nat) : Int) ≤ p0 + T; rw [tot_const]; omega) h'.ok fun _ _ h p h1 h2 => h p h1 h2).ok a w ha (hst.perm hp.perm)

/-! ### Its steps -/
variable {i : Nat} {o : Oper} {os : List Oper} {e : Env} {acc : List (Nat × SH)} {own : SH} {v : Value} {R : Value → SH → Prop}
def Eqv (v : Value) : Value → SH → Prop := fun v' H => v' = v ∧ H = []
theorem G.p (hw : wantE ops e o = some true) (hd : dstOk n o.dst = true) (h : PV P o e v) (k : G P n w0 Z ops hs K (i + 1) os Rs (consE o.dst v e) acc own) : G P n w0 Z ops hs K i (o :: os) (none :: Rs) e acc own :=
  .mk ⟨hd, v, .inl ⟨hw, h⟩, k.ok⟩
theorem G.ps (hw : wantE ops e o = some false) (hd : dstOk n o.dst = true) (k : G P n w0 Z ops hs K (i + 1) os Rs (consE o.dst undef e) acc own) : G P n w0 Z ops hs K i (o :: os) (none :: Rs) e acc own :=
  .mk ⟨hd, undef, .inr ⟨hw, rfl⟩, k.ok⟩
theorem G.pb {b c : Bool} (hw : wantE ops e o = some true) (hd : dstOk n o.dst = true) (h : PV P o e (.bool b)) (hb : b = c) (k : G P n w0 Z ops hs K (i + 1) os Rs (consE o.dst (.bool c) e) acc own) : G P n w0 Z ops hs K i (o :: os) (none :: Rs) e acc own :=
  G.p hw hd h (by rw [hb]; exact k)
theorem ON.wide {hs' : SH} (h : ON P o e w0 hs R) : ON P o e w0 (hs' ++ hs) R := .mk fun ρ w hf hst => h.ok ρ w hf (hst.sub (List.sublist_append_right _ _))
theorem OV.on (h : OV P o e w0 hs v) : ON P o e w0 hs (Eqv v) := .mk fun ρ w hf hst => (h.ok ρ w hf hst).mono fun v' w' ⟨hv, hn⟩ => ⟨[], ⟨hv, rfl⟩, hn⟩
theorem G.va (hw : wantE ops e o = some true) (hd : dstOk n o.dst = true) (h : OV P o e w0 hs v) (k : G P n w0 Z ops hs K (i + 1) os Rs (consE o.dst v e) acc own) : G P n w0 Z ops hs K i (o :: os) (some (Eqv v) :: Rs) e acc own :=
  .mk ⟨hd, .inl ⟨hw, .on h.on.wide⟩, fun v' H ⟨hv, hH⟩ => by subst hv; subst hH; exact k.ok⟩
theorem G.vb {b c : Bool} (hw : wantE ops e o = some true) (hd : dstOk n o.dst = true) (h : OV P o e w0 hs (.bool b)) (hb : b = c) (k : G P n w0 Z ops hs K (i + 1) os Rs (consE o.dst (.bool c) e) acc own) : G P n w0 Z ops hs K i (o :: os) (some (Eqv (.bool b)) :: Rs) e acc own :=
  G.va hw hd h (by rw [hb]; exact k)
theorem G.vs (hw : wantE ops e o = some false) (hd : dstOk n o.dst = true) (k : G P n w0 Z ops hs K (i + 1) os Rs (consE o.dst undef e) acc own) : G P n w0 Z ops hs K i (o :: os) (some (Eqv undef) :: Rs) e acc own :=
  .mk ⟨hd, .inr ⟨hw, rfl⟩, fun v' H ⟨hv, hH⟩ => by subst hv; subst hH; exact k.ok⟩
/-- One that looks at memory that the region itself has made. -/
theorem G.vd {X : SH} (hX : sel ops i acc = X) (hw : wantE ops e o = some true) (hd : dstOk n o.dst = true) (h : OV P o e w0 (X ++ hs) v) (k : G P n w0 Z ops hs K (i + 1) os Rs (consE o.dst v e) acc own) : G P n w0 Z ops hs K i (o :: os) (some (Eqv v) :: Rs) e acc own :=
  .mk ⟨hd, .inl ⟨hw, by rw [hX]; exact .on h.on⟩, fun v' H ⟨hv, hH⟩ => by subst hv; subst hH; exact k.ok⟩
theorem G.nw (hw : wantE ops e o = some true) (hd : dstOk n o.dst = true) (h : ON P o e w0 hs R) (k : ∀ v H, R v H → G P n w0 Z ops hs K (i + 1) os Rs (consE o.dst v e) (consA i H acc) (H ++ own)) : G P n w0 Z ops hs K i (o :: os) (some R :: Rs) e acc own :=
  .mk ⟨hd, .inl ⟨hw, .on h.wide⟩, fun v H hR => (k v H hR).ok⟩
theorem G.nd {X : SH} (hX : sel ops i acc = X) (hw : wantE ops e o = some true) (hd : dstOk n o.dst = true) (h : ON P o e w0 (X ++ hs) R) (k : ∀ v H, R v H → G P n w0 Z ops hs K (i + 1) os Rs (consE o.dst v e) (consA i H acc) (H ++ own)) : G P n w0 Z ops hs K i (o :: os) (some R :: Rs) e acc own :=
  .mk ⟨hd, .inl ⟨hw, by rw [hX]; exact .on h⟩, fun v H hR => (k v H hR).ok⟩
theorem G.na {B : Blk} (hw : wantE ops e o = some true) (hd : dstOk n o.dst = true) (h : ON P o e w0 hs (NewAt B)) (k : ∀ b : Nat, G P n w0 Z ops hs K (i + 1) os Rs (consE o.dst (.pointer (some ⟨b, 0, none⟩)) e) ((i, [(b, B)]) :: acc) ((b, B) :: own)) :
    G P n w0 Z ops hs K i (o :: os) (some (NewAt B) :: Rs) e acc own :=
  G.nw hw hd h fun v H ⟨b, hv, hH⟩ => by subst hv; subst hH; exact k b
/-- What a call may do that a block is lent to. -/
def Lent (w0 : World) (r : Nat) (bs : Int → Blk) (p : Int) (c : Nat) (F : SH) (R : Value → SH → Prop) : Ending → World → Prop := fun e w' => ∃ v H p', e = .returned v ∧ R v H ∧ p ≤ p' ∧ p' ≤ p + c ∧ St w0 (H ++ (r, bs p') :: F) w'
theorem OP.call {f : FuncId} {xs : List Operand} {ts : Array TypeId} {vs : List Value} {r : Nat} {bs : Int → Blk} {c : Nat} {cc : Nat → Nat} {lo hi : Int} {d : Option Tmp} {ty : TypeId} {pos : String} {af : Array Edge} {g : Option (Nat × Bool)} [i : Ent P f] (hv : evs e xs = some vs)
    (h : ∀ p F w, lo ≤ p → p + c ≤ hi → St w0 ((r, bs p) :: F) w → Calls P f vs.toArray w (Lent w0 r bs p c F R)) : OP P w0 ⟨fun p => [(r, bs p)], cc, lo, hi⟩ c ⟨d, .call ⟨.value (.func f), xs.toArray, ts⟩, ty, pos, af, g⟩ e hs R := .mk fun ρ w p F hf h1 h2 hst => by
  unfold Does
  rw [run_call hf rfl hv]
  simpa using Calls.mono (h p (hs ++ F) w h1 h2 hst) fun e' w' ⟨v, H, p', he, hR, h3, h4, hn⟩ => ⟨v, he, H, hR, p', h3, h4, by simpa using hn⟩
theorem OP.wide {k : Nat} {hs' : SH} (h : OP P w0 Z k o e hs R) : OP P w0 Z k o e (hs' ++ hs) R := .mk fun ρ w p F hf h1 h2 hst => by
  have hp : ∀ q, (Z.pre q ++ ((hs' ++ hs) ++ F)).Perm (Z.pre q ++ (hs ++ (hs' ++ F))) := fun q => List.Perm.append_left _ (by rw [List.append_assoc]; exact perm_mid)
  exact (h.ok ρ w p (hs' ++ F) hf h1 h2 (hst.perm (hp p))).mono fun v w' ⟨H, p', hR, h3, h4, hn⟩ => ⟨H, p', hR, h3, h4, hn.perm (List.Perm.append_left _ (hp p').symm)⟩
theorem G.l (hw : wantE ops e o = some true) (hd : dstOk n o.dst = true) (h : OP P w0 Z (Z.c i) o e hs R) (k : ∀ v H, R v H → G P n w0 Z ops hs K (i + 1) os Rs (consE o.dst v e) (consA i H acc) (H ++ own)) : G P n w0 Z ops hs K i (o :: os) (some R :: Rs) e acc own :=
  .mk ⟨hd, .inl ⟨hw, h.wide⟩, fun v H hR => (k v H hR).ok⟩
/-- A region where one block is stored to at a place that is not bound to the others. -/
def preS (b : Nat) (o : Blk) (p : Int) : SH := if p ≤ 0 then [(b, o)] else []
def cS (ix i : Nat) : Nat := bif Nat.beq i ix then 1 else 0
theorem tot_cS (ix : Nat) : ∀ n, tot (cS ix) n ≤ 1 ∧ (n ≤ ix → tot (cS ix) n = 0)
  | 0 => ⟨by simp [tot], fun _ => rfl⟩
  | n + 1 => by
    obtain ⟨h1, h2⟩ := tot_cS ix n
    have e : tot (cS ix) (n + 1) = tot (cS ix) n + cS ix n := rfl
    by_cases h : n = ix
    · subst h
      have : cS n n = 1 := by simp [cS]
      have := h2 (Nat.le_refl _)
      exact ⟨by omega, fun h => by omega⟩
    · have : cS ix n = 0 := by
        have hb : Nat.beq n ix = false := by
          cases hb : Nat.beq n ix with
          | false => rfl
          | true => exact (h (Nat.eq_of_beq_eq_true hb)).elim
        unfold cS; rw [hb]; rfl
      exact ⟨by omega, fun h' => by have := h2 (by omega); omega⟩
theorem C.draws {id : Nat} {e0 : Env} {F : SH} (ix b : Nat) (o : Blk) (m : Nat) (Rs : List Sp) (hm : P.follows .mixedOrders = true) (hc : chk ops m (Rs.map isPure) = true) (hQ : ∀ c a a' w, a'.defers = a.defers → Q (.panic c) a w → Q (.panic c) a' w)
    (hp : Pull (b, o) hs F) (h' : G P n w0 ⟨preS b o, cS ix, 0, 1⟩ ops F (fun e' hs' => L P n ds w0 ops Q (ops.drop m) e' hs') 0 (ops.take m) Rs e0 [] F) : C P n ds w0 Q (.region id ops.toArray true) e0 hs := .mk fun a w ha hst =>
  (draw_main (Z := ⟨preS b o, cS ix, 0, 1⟩) hm (chk_spec hc) hQ (by have := (tot_cS ix ops.length).1; show (0 : Int) + (tot (cS ix) ops.length : Int) ≤ 1; omega) h'.ok
    fun _ _ h _ _ _ => .mk fun a w ha hst => h.ok a w ha (hst.sub (List.sublist_append_right _ _))).ok a w ha (hst.perm hp.perm)
def Stored (b : Nat) (B : Blk) : Value → SH → Prop := fun v H => v = undef ∧ H = [(b, B)]
theorem G.st {b : Nat} {B B' : Blk} {ix : Nat} (hi : Nat.beq i ix = true) (hw : wantE ops e o = some true) (hd : dstOk n o.dst = true) (h : ∀ F, OS P o e w0 ((b, B) :: F) ((b, B') :: F))
    (k : G P n w0 ⟨preS b B, cS ix, 0, 1⟩ ops hs K (i + 1) os Rs (consE o.dst undef e) ((i, [(b, B')]) :: acc) ((b, B') :: own)) : G P n w0 ⟨preS b B, cS ix, 0, 1⟩ ops hs K i (o :: os) (some (Stored b B') :: Rs) e acc own :=
  G.l (R := Stored b B') hw hd (.mk fun ρ w p F hf h1 h2 hst => by
    have hc1 : cS ix i = 1 := by simp [cS, hi]
    have hp0 : p = 0 := by
      have h2' : p + (cS ix i : Int) ≤ 1 := h2
      have h1' : 0 ≤ p := h1
      rw [hc1] at h2'
      omega
    subst hp0
    have e1 : preS b B 0 = [(b, B)] := rfl
    have e2 : preS b B 1 = [] := rfl
    have hst' : St w0 ((b, B) :: (hs ++ F)) w := hst
    refine ((h (hs ++ F)).ok ρ w hf hst').mono fun v w' ⟨hv, hs'⟩ => ⟨[(b, B')], 1, ⟨hv, rfl⟩, by omega, ?_, ?_⟩
    · show (1 : Int) ≤ 0 + (cS ix i : Int)
      rw [hc1]
      omega
    · show St w0 ([(b, B')] ++ (preS b B 1 ++ (hs ++ F))) w'
      rw [e2]
      exact hs') fun v H ⟨hv, hH⟩ => by subst hv; subst hH; exact k
/-- The same, where a list of operations goes on. -/
theorem L.l {id : List Oper} {l : List Oper} {r : Nat} {bs : Int → Blk} {c : Nat} {p : Int} {F : SH} {f : FuncId} {xs : List Operand} {ts : Array TypeId} {vs : List Value} {d : Option Tmp} {ty : TypeId} {pos : String} {af : Array Edge} {g : Option (Nat × Bool)} [i : Ent P f]
    (hw : wantE ops e ⟨d, .call ⟨.value (.func f), xs.toArray, ts⟩, ty, pos, af, g⟩ = some true) (hd : dstOk n d = true) (hv : evs e xs = some vs) (hp : Pull (r, bs p) hs F)
    (h : ∀ w, St w0 ((r, bs p) :: F) w → Calls P f vs.toArray w (Lent w0 r bs p c F R))
    (k : ∀ v H p', R v H → p ≤ p' → p' ≤ p + c → L P n ds w0 ops Q l (consE d v e) (H ++ (r, bs p') :: F)) : L P n ds w0 ops Q (⟨d, .call ⟨.value (.func f), xs.toArray, ts⟩, ty, pos, af, g⟩ :: l) e hs :=
  L.does (Y := Value × SH × Int) (Φ := fun y => R y.1 y.2.1 ∧ p ≤ y.2.2 ∧ y.2.2 ≤ p + c) (V := fun y => y.1) (H := fun y => y.2.1 ++ (r, bs y.2.2) :: F) hw hd
    (fun a w ha hst => by
      unfold Does
      rw [run_call ha.fits rfl hv]
      simpa using Calls.mono (h w (hst.perm hp.perm)) fun e' w' ⟨v, H, p', he, hR, h3, h4, hn⟩ => ⟨v, he, v, H, p', ⟨hR, h3, h4⟩, rfl, hn⟩)
    fun y hy => k y.1 y.2.1 y.2.2 hy.1 hy.2.1 hy.2.2
/-- The beginning and the end of a function that a block is lent to. -/
theorem enterl {f : FuncId} {fn : Func} {c : Code} {vs : List Value} {R : Ending → World → Prop} {w : World} (hf : P.funcs[f]? = some fn) (hb : fn.body = some c) (hn : fn.ntmps = n) (hl : Nat.ble vs.length n = true) (hst : St w0 hs w)
    (h : C P n [] w0 (bodyPost P fn R) c (args0 vs 0) hs) : Calls P f vs.toArray w R := by
  refine calls_of_wp hf hb (h.ok _ _ ⟨?_, rfl, fun t v ht => ?_⟩ hst)
  · have := Nat.le_of_ble_eq_true hl
    simp [hn]; omega
  · obtain ⟨_, h2⟩ := get_args0 vs 0 t v ht
    simp only [Nat.sub_zero] at h2
    have hlt : t < vs.length := (List.getElem?_eq_some_iff.1 h2).1
    simp [Array.getElem?_append, hlt]
    exact (List.getElem?_eq_some_iff.1 h2).2
theorem X.retl {fn : Func} {rs : List ResultVar} {vs : List Value} {r : Nat} {bs : Int → Blk} {p p' : Int} {c : Nat} {F : SH} (H : SH) (hrs : fn.results = rs.toArray) (h : RVs P n [] w0 e hs rs vs) (h1 : p ≤ p') (h2 : p' ≤ p + c) (hs' : (H ++ (r, bs p') :: F).Sublist hs) (hR : R (tupleOf vs) H) :
    X n [] w0 (bodyPost P fn (Lent w0 r bs p c F R)) .ret e hs :=
  X.body rfl hrs h fun w hst => ⟨_, H, p', rfl, hR, h1, h2, hst.sub hs'⟩
theorem G.done (k : K e own) : G P n w0 Z ops hs K i [] [] e acc own := .mk k

end D
end Go.Proofs.YtpodhahlbdlgeaaDoor
