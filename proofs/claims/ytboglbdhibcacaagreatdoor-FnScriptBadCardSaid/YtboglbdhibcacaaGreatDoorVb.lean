/- The engine, part 5: a region whose order is drawn: the proof that one walk stands for all orders. -/
import Derived.Test.YtboglbdhibcacaaGreatDoorVa
import Derived.Laws.Slices
namespace Go.Proofs.YtboglbdhibcacaaGreatDoor
set_option linter.unusedVariables false
set_option linter.unusedSimpArgs false
namespace D
open Go.RowKit

section
variable (P : Program) (ops : List Oper) (w0 : World) (Rs : List Sp) (a0 : Act) (c : Nat → Value × SH)
def pval (a : Act) (o : Oper) : Value :=
  if Region.wanted o (yielded ops.toArray a.tmps) then (match (execOp a.eval o).run P w0 with | .ok (.value v) _ => v | _ => undef) else undef
def vl (a : Act) (o : Oper) (i : Nat) : Value := match Rs[i]? with
  | some (some _) => (c i).1
  | _ => pval P ops w0 a o
def acts : Nat → Act
  | 0 => a0
  | k + 1 => match ops[k]? with
    | some o => (acts k).put o.dst (vl P ops w0 Rs c (acts k) o k)
    | none => acts k
def accOf : Nat → List (Nat × SH)
  | 0 => []
  | k + 1 => match Rs[k]? with
    | some (some _) => consA k (c k).2 (accOf k)
    | _ => accOf k
end

variable {P : Program} {n m : Nat} {ds : List Deferred} {w0 : World} {ops : List Oper} {Q : Exit → Act → World → Prop} {hs : SH} {Rs : List Sp} {a0 : Act} {c : Nat → Value × SH} {K : Env → SH → Prop} {Z : Lend} {p : Int}

theorem acts_succ {k : Nat} {o : Oper} (h : ops[k]? = some o) : acts P ops w0 Rs a0 c (k + 1) = (acts P ops w0 Rs a0 c k).put o.dst (vl P ops w0 Rs c (acts P ops w0 Rs a0 c k) o k) := by
  simp only [acts, h]
theorem put_size (a : Act) (d : Option Tmp) (v : Value) : (a.put d v).tmps.size = a.tmps.size := by cases d <;> simp [Act.put]
theorem put_defers (a : Act) (d : Option Tmp) (v : Value) : (a.put d v).defers = a.defers := by cases d <;> rfl
theorem put_ne (a : Act) (d : Option Tmp) (v : Value) (t : Nat) (h : d ≠ some t) : (a.put d v).tmps[t]? = a.tmps[t]? := by
  cases d with
  | none => rfl
  | some d => simp only [Act.put, Array.getElem?_setIfInBounds_ne (fun e => h (by rw [e]) : d ≠ t)]
theorem put_eq (a : Act) (d : Nat) (v : Value) (h : d < a.tmps.size) : (a.put (some d) v).tmps[d]? = some v := by simp [Act.put, h]
theorem acts_size : ∀ k, (acts P ops w0 Rs a0 c k).tmps.size = a0.tmps.size
  | 0 => rfl
  | k + 1 => by
    unfold acts
    split
    · rw [put_size, acts_size k]
    · exact acts_size k
theorem acts_defers : ∀ k, (acts P ops w0 Rs a0 c k).defers = a0.defers
  | 0 => rfl
  | k + 1 => by
    unfold acts
    split
    · rw [put_defers, acts_defers k]
    · exact acts_defers k
theorem acts_keep {t k : Nat} : ∀ k', k ≤ k' → (∀ j, k ≤ j → j < k' → ∀ o, ops[j]? = some o → o.dst ≠ some t) → (acts P ops w0 Rs a0 c k').tmps[t]? = (acts P ops w0 Rs a0 c k).tmps[t]?
  | 0, h, _ => by obtain rfl : k = 0 := by omega
                  rfl
  | k' + 1, h, hn => by
    by_cases hk : k = k' + 1
    · subst hk; rfl
    · rw [← acts_keep k' (by omega) (fun j h1 h2 o ho => hn j h1 (by omega) o ho)]
      cases ho : ops[k']? with
      | none => simp only [acts, ho]
      | some o => rw [acts_succ ho, put_ne _ _ _ _ (hn k' (by omega) (by omega) o ho)]
/-- What a prefix operation's slot holds, from the operation on. -/
theorem acts_val (hc : Chk ops m (Rs.map isPure)) {k k' : Nat} {o : Oper} {t : Nat} (hk : k < m) (ho : ops[k]? = some o) (hd : o.dst = some t) (h1 : k < k') :
    (acts P ops w0 Rs a0 c k').tmps[t]? = (acts P ops w0 Rs a0 c (k + 1)).tmps[t]? :=
  acts_keep k' h1 fun j hj _ oj hoj => hc.uniq k o ho hk j oj hoj (by omega) t hd
theorem look_same {o : Oper} {a b : Act} (hs : ∀ cs b, o.op ≠ .select cs b) (h : ∀ t ∈ o.looksAt ops.toArray, a.tmps[t]? = b.tmps[t]?) :
    execOp a.eval o = execOp b.eval o ∧ Region.wanted o (yielded ops.toArray a.tmps) = Region.wanted o (yielded ops.toArray b.tmps) := by
  refine ⟨execOp_congr o hs fun x hx => ?_, ?_⟩
  · cases x with
    | tmp t =>
      have := h t (List.mem_append_left _ (List.mem_filterMap.2 ⟨.tmp t, by simpa using hx, rfl⟩))
      simp [Act.eval, this]
    | _ => rfl
  · unfold Region.wanted
    cases hg : o.guard with
    | none => rfl
    | some p =>
      obtain ⟨g, want⟩ := p
      have hy : yielded ops.toArray a.tmps g = yielded ops.toArray b.tmps g := by
        unfold yielded
        cases ht : (ops.toArray[g]?).bind (·.dst) with
        | none => rfl
        | some t =>
          have := h t (List.mem_append_right _ (by simp only [hg, ht]; simp))
          simp [this]
      simp only [hy]
def Ls (listed : Array Bool) (i : Nat) : Prop := listed.getD i false = true
def unl (n : Nat) (listed : Array Bool) : Nat := ((List.range n).filter fun j => !listed.getD j true).length
/-- How much the number may still grow. -/
def bud (c : Nat → Nat) (listed : Array Bool) : Nat → Nat
  | 0 => 0
  | n + 1 => bud c listed n + (if listed.getD n true then 0 else c n)
def tot (c : Nat → Nat) : Nat → Nat
  | 0 => 0
  | n + 1 => tot c n + c n
theorem bud_le (c : Nat → Nat) (listed : Array Bool) : ∀ n, bud c listed n ≤ tot c n
  | 0 => Nat.le_refl _
  | n + 1 => by
    have := bud_le c listed n
    unfold bud tot
    split <;> omega
theorem tot_mono (c : Nat → Nat) {a b : Nat} (h : a ≤ b) : tot c a ≤ tot c b := by
  induction b with
  | zero => obtain rfl : a = 0 := by omega
            exact Nat.le_refl _
  | succ b ih =>
    by_cases hab : a = b + 1
    · subst hab; exact Nat.le_refl _
    · have := ih (by omega)
      have e : tot c (b + 1) = tot c b + c b := rfl
      omega
theorem bud_set (c : Nat → Nat) {listed : Array Bool} {i : Nat} (hi : i < listed.size) (hu : listed.getD i true = false) : ∀ n, bud c (listed.setIfInBounds i true) n + (if i < n then c i else 0) = bud c listed n
  | 0 => by simp [bud]
  | n + 1 => by
    have ih := bud_set c hi hu n
    unfold bud
    by_cases h : n = i
    · subst h
      simp only [hu, Bool.false_eq_true, if_false]
      have : (listed.setIfInBounds n true).getD n true = true := by simp [hi]
      rw [this]
      simp only [if_true]
      rw [if_neg (Nat.lt_irrefl _)] at ih
      rw [if_pos (Nat.lt_succ_self _)]
      omega
    · rw [getD_set_ne true (Ne.symm h)]
      by_cases h2 : i < n
      · rw [if_pos h2] at ih
        rw [if_pos (show i < n + 1 by omega)]
        split <;> omega
      · rw [if_neg h2] at ih
        rw [if_neg (show ¬ i < n + 1 by omega)]
        split <;> omega
/-- What is known in the middle of any order. -/
structure Inv (P : Program) (ops : List Oper) (w0 : World) (Z : Lend) (p : Int) (Rs : List Sp) (a0 : Act) (m : Nat) (hs : SH) (c : Nat → Value × SH) (listed : Array Bool) (a : Act) (w : World) : Prop where
  lsize : listed.size = ops.length
  dc : ∀ (i : Nat) o, ops[i]? = some o → Ls listed i → ∀ e ∈ o.after.toList, Region.binds .any e = true → Ls listed e.on
  pre : ∀ i, Ls listed i → i < m
  good : ∀ (i : Nat) R, Rs[i]? = some (some R) → R (c i).1 (c i).2
  defers : a.defers = a0.defers
  tsize : a.tmps.size = a0.tmps.size
  tin : ∀ (t j : Nat) o, ops[j]? = some o → o.dst = some t → Ls listed j → a.tmps[t]? = (acts P ops w0 Rs a0 c m).tmps[t]?
  tout : ∀ t : Nat, (∀ (j : Nat) o, ops[j]? = some o → o.dst = some t → ¬ Ls listed j) → a.tmps[t]? = a0.tmps[t]?
  st : St w0 (Z.pre p ++ hs) w
  plo : Z.lo ≤ p
  phi : p + bud Z.c listed ops.length ≤ Z.hi
  own : ∀ (j : Nat) R, Rs[j]? = some (some R) → Ls listed j → (∀ e ∈ (c j).2, w0.heap.size ≤ e.1 ∧ w.heap[e.1]? = some e.2.toObj) ∧ (c j).2.Pairwise (fun a b => a.1 ≠ b.1) ∧ ∀ x ∈ (c j).2, ∀ y ∈ Z.pre p ++ hs, x.1 ≠ y.1
  cross : ∀ (j k : Nat) R R', j ≠ k → Rs[j]? = some (some R) → Rs[k]? = some (some R') → Ls listed j → Ls listed k → ∀ x ∈ (c j).2, ∀ y ∈ (c k).2, x.1 ≠ y.1

theorem Inv.preds {listed : Array Bool} {a : Act} {w : World} (h : Inv P ops w0 Z p Rs a0 m hs c listed a w) (hc : Chk ops m (Rs.map isPure)) : ∀ (i : Nat) (o : Oper), ops[i]? = some o → (∀ e ∈ o.after.toList, Region.binds .any e = true → Ls listed e.on) → ∀ j, (bef ops i).testBit j = true → Ls listed j := by
  intro i
  induction i using Nat.strongRecOn with
  | _ i ih =>
    intro o ho hr j hj
    obtain ⟨o', ho', e, he, hb, h1⟩ := bef_spec hj
    obtain rfl : o = o' := by rw [ho] at ho'; exact Option.some.inj ho'
    have hl := hr e he hb
    rcases h1 with rfl | h1
    · exact hl
    · have hlt := hc.back i o ho e he hb
      have hm := h.pre _ hl
      have hin : e.on < ops.length := by have := hc.le; omega
      exact ih e.on hlt _ (List.getElem?_eq_getElem hin) (h.dc e.on _ (List.getElem?_eq_getElem hin) hl) j h1
/-- The pairs of some that have come up. -/
theorem Inv.stOf {listed : Array Bool} {a : Act} {w : World} (h : Inv P ops w0 Z p Rs a0 m hs c listed a w) : ∀ ps : List (Nat × SH), (∀ q ∈ ps, (∃ R, Rs[q.1]? = some (some R)) ∧ Ls listed q.1 ∧ q.2 = (c q.1).2) → ps.Pairwise (fun a b => a.1 ≠ b.1) → St w0 (allH ps ++ (Z.pre p ++ hs)) w
  | [], _, _ => by simpa [allH] using h.st
  | u :: r, hp, hd => by
    have hr := h.stOf r (fun q hq => hp q (List.Mem.tail _ hq)) (List.pairwise_cons.1 hd).2
    obtain ⟨⟨R, hR⟩, hl, he⟩ := hp u (List.Mem.head _)
    obtain ⟨h1, h2, h3⟩ := h.own _ R hR hl
    have e : allH (u :: r) ++ (Z.pre p ++ hs) = u.2 ++ (allH r ++ (Z.pre p ++ hs)) := by simp [allH]
    rw [e, he]
    refine ⟨hr.zero, hr.low, fun x hx => ?_, List.pairwise_append.2 ⟨h2, hr.dis, fun x hx y hy => ?_⟩⟩
    · rcases List.mem_append.1 hx with hx | hx
      · exact h1 x hx
      · exact hr.own x hx
    · rcases List.mem_append.1 hy with hy | hy
      · simp only [allH, List.mem_flatten, List.mem_map] at hy
        obtain ⟨_, ⟨q, hq, rfl⟩, hy⟩ := hy
        obtain ⟨⟨R', hR'⟩, hl', he'⟩ := hp q (List.Mem.tail _ hq)
        rw [he'] at hy
        exact h.cross _ _ R R' ((List.pairwise_cons.1 hd).1 q hq) hR hR' hl hl' x hx y hy
      · exact h3 x hx y hy
theorem accOf_mem : ∀ (i : Nat) (p : Nat × SH), p ∈ accOf Rs c i → p.1 < i ∧ (∃ R, Rs[p.1]? = some (some R)) ∧ p.2 = (c p.1).2
  | 0, _, h => by cases h
  | k + 1, p, h => by
    unfold accOf at h
    split at h
    · rename_i R hR
      rcases mem_consA h with rfl | h
      · exact ⟨Nat.lt_succ_self _, ⟨R, hR⟩, rfl⟩
      · have := accOf_mem k p h
        exact ⟨by omega, this.2⟩
    · have := accOf_mem k p h
      exact ⟨by omega, this.2⟩
theorem accOf_nodup : ∀ i, (accOf Rs c i).Pairwise (fun a b => a.1 ≠ b.1)
  | 0 => .nil
  | k + 1 => by
    unfold accOf
    split
    · refine consA_pairwise (accOf_nodup k) (fun q hq => ?_)
      have := (accOf_mem k q hq).1
      omega
    · exact accOf_nodup k
/-- The walk in the text's order, along any choice of what the operations leave. -/
theorem tree {e0 : Env} (hlen : Rs.length = m) (hle : m ≤ ops.length) (h : RG P n w0 Z ops hs K 0 (ops.take m) Rs e0 [] hs) (ha : At n ds e0 a0) :
    ∀ i, i ≤ m → (∀ (j : Nat) R, j < i → Rs[j]? = some (some R) → R (c j).1 (c j).2) → ∃ e, At n ds e (acts P ops w0 Rs a0 c i) ∧ RG P n w0 Z ops hs K i ((ops.take m).drop i) (Rs.drop i) e (accOf Rs c i) (allH (accOf Rs c i) ++ hs)
  | 0, _, _ => ⟨e0, ha, by simpa [accOf, allH] using h⟩
  | i + 1, hi, hg => by
    obtain ⟨e, hA, hR⟩ := tree hlen hle h ha i (by omega) (fun j R hj => hg j R (by omega))
    have hio : i < ops.length := by omega
    have ho : ops[i]? = some ops[i] := List.getElem?_eq_getElem hio
    have hRi : i < Rs.length := by omega
    have hr : Rs[i]? = some Rs[i] := List.getElem?_eq_getElem hRi
    have ed : (ops.take m).drop i = ops[i] :: (ops.take m).drop (i + 1) := by
      rw [List.drop_eq_getElem_cons (by simp; omega)]
      simp
    have eR : Rs.drop i = Rs[i] :: Rs.drop (i + 1) := List.drop_eq_getElem_cons hRi
    rw [ed, eR] at hR
    rw [acts_succ ho]
    cases hq : Rs[i] with
    | none =>
      rw [hq] at hR hr
      obtain ⟨hd, v, hv, hR⟩ := hR
      have ev : vl P ops w0 Rs c (acts P ops w0 Rs a0 c i) ops[i] i = v := by
        simp only [vl, hr, pval]
        rcases hv with ⟨hw, hp⟩ | ⟨hw, rfl⟩
        · rw [if_pos (wantE.eq hA hw), hp.ok _ hA.fits w0]
        · rw [if_neg (by rw [wantE.eq hA hw]; exact Bool.false_ne_true)]
      rw [ev]
      refine ⟨_, hA.put v hd, ?_⟩
      have : accOf Rs c (i + 1) = accOf Rs c i := by simp only [accOf, hr]
      rw [this]
      exact hR
    | some R =>
      rw [hq] at hR hr
      obtain ⟨hd, _, hR⟩ := hR
      have ev : vl P ops w0 Rs c (acts P ops w0 Rs a0 c i) ops[i] i = (c i).1 := by simp only [vl, hr]
      rw [ev]
      refine ⟨_, hA.put _ hd, ?_⟩
      have : accOf Rs c (i + 1) = consA i (c i).2 (accOf Rs c i) := by simp only [accOf, hr]
      rw [this, allH_consA, List.append_assoc]
      exact hR _ _ (hg i R (Nat.lt_succ_self _) hr)

/-- Two choices that agree on what has come up give its slots the same. -/
theorem vl_same {c' : Nat → Value × SH} {D : Nat → Prop} (hc : Chk ops m (Rs.map isPure)) (hD : ∀ j, j < m → D j → ∀ k, (bef ops j).testBit k = true → D k)
    (he : ∀ (j : Nat) R, Rs[j]? = some (some R) → D j → (c j).1 = (c' j).1) : ∀ j o, j < m → ops[j]? = some o → D j → vl P ops w0 Rs c (acts P ops w0 Rs a0 c j) o j = vl P ops w0 Rs c' (acts P ops w0 Rs a0 c' j) o j := by
  intro j
  induction j using Nat.strongRecOn with
  | _ j ih =>
    intro o hj ho hDj
    have key : ∀ t ∈ o.looksAt ops.toArray, (acts P ops w0 Rs a0 c j).tmps[t]? = (acts P ops w0 Rs a0 c' j).tmps[t]? := by
      intro t ht
      by_cases hex : ∃ (k : Nat) (ok : Oper), k < m ∧ ops[k]? = some ok ∧ ok.dst = some t
      · obtain ⟨k, ok, hkm, hk, hd⟩ := hex
        obtain ⟨hkj, hbit⟩ := (hc.looks j o ho hj t ht k ok hk hd).resolve_left (by omega)
        have hDk := hD j hj hDj k hbit
        rw [acts_val hc (by omega) hk hd hkj, acts_val hc (by omega) hk hd hkj, acts_succ hk, acts_succ hk, ih k hkj ok (by omega) hk hDk, hd]
        rcases Nat.lt_or_ge t a0.tmps.size with hs | hs
        · rw [put_eq _ _ _ (by rw [acts_size]; exact hs), put_eq _ _ _ (by rw [acts_size]; exact hs)]
        · have hz : ∀ (v : Value) c, ((acts P ops w0 Rs a0 c k).put (some t) v).tmps[t]? = none := fun v c => Array.getElem?_eq_none (by rw [put_size, acts_size]; omega)
          rw [hz, hz]
      · have h1 : ∀ c, (acts P ops w0 Rs a0 c j).tmps[t]? = a0.tmps[t]? := fun c => acts_keep (k := 0) j (Nat.zero_le _) fun k _ hkj ok hk hd => hex ⟨k, ok, by omega, hk, hd⟩
        rw [h1, h1]
    unfold vl
    split
    · rename_i R hR
      exact he j R hR hDj
    · obtain ⟨h1, h2⟩ := look_same (Region.noSelect_spec hc.nosel j o |> fun f cs b => f cs b (by simpa using ho)) key
      unfold pval
      rw [h1, h2]

theorem ls_set {listed : Array Bool} {i j : Nat} (hi : i < listed.size) : Ls (listed.setIfInBounds i true) j ↔ j = i ∨ Ls listed j := by
  unfold Ls
  by_cases h : j = i
  · subst h; simp [hi]
  · rw [getD_set_ne false (Ne.symm h)]; simp [h]
theorem unl_set {n : Nat} {listed : Array Bool} {i : Nat} (hn : listed.size = n) (hi : i < n) (hu : listed.getD i true = false) : unl n (listed.setIfInBounds i true) < unl n listed := by
  unfold unl
  have hsub : ((List.range n).filter fun j => !(listed.setIfInBounds i true).getD j true).Sublist ((List.range n).filter fun j => !listed.getD j true) := by
    have e : ((List.range n).filter fun j => !(listed.setIfInBounds i true).getD j true) = ((List.range n).filter fun j => !listed.getD j true).filter (fun j => !(listed.setIfInBounds i true).getD j true) := by
      rw [List.filter_filter]
      congr 1
      funext j
      by_cases h : j = i
      · subst h; simp [hn, hi]
      · rw [getD_set_ne true (Ne.symm h)]; simp
    rw [e]
    exact List.filter_sublist
  rcases Nat.lt_or_ge ((List.range n).filter fun j => !(listed.setIfInBounds i true).getD j true).length ((List.range n).filter fun j => !listed.getD j true).length with h | h
  · exact h
  · have he := hsub.eq_of_length_le h
    have : i ∈ ((List.range n).filter fun j => !listed.getD j true) := by
      rw [List.mem_filter]
      exact ⟨by simpa using hi, by simp [hu]⟩
    rw [← he, List.mem_filter] at this
    have h2 := this.2
    simp [hn, hi] at h2
theorem unl_zero {n : Nat} {listed : Array Bool} (h : unl n listed = 0) {i : Nat} (hi : i < n) : listed.getD i true = true := by
  cases hu : listed.getD i true with
  | true => rfl
  | false =>
    exfalso
    unfold unl at h
    have : i ∈ ((List.range n).filter fun j => !listed.getD j true) := by
      rw [List.mem_filter]
      exact ⟨by simpa using hi, by simp [hu]⟩
    rw [List.length_eq_zero_iff] at h
    rw [h] at this
    cases this
theorem ls_iff {listed : Array Bool} {i : Nat} (hi : i < listed.size) : listed.getD i true = true ↔ Ls listed i := by
  unfold Ls
  simp [hi]
theorem ls_not {listed : Array Bool} {i : Nat} (hi : i < listed.size) : listed.getD i true = false ↔ ¬ Ls listed i := by
  rw [← ls_iff hi]; simp

/-- The operations behind the drawn ones: one order alone. -/
theorem tail_any (hc : Chk ops m (Rs.map isPure)) : ∀ (fuel k : Nat) (listed : Array Bool) (a : Act) (w : World), m ≤ k → k ≤ ops.length → listed.size = ops.length → (∀ j, Ls listed j ↔ j < k) → ops.length - k ≤ fuel →
    wpList P ops.toArray Q (ops.drop k) a w → wpAny P .any ops.toArray Q fuel listed a w := by
  intro fuel
  induction fuel with
  | zero =>
    intro k listed a w hm hk hsz hl hf h
    obtain rfl : k = ops.length := by omega
    rw [List.drop_length] at h
    refine ⟨?_, h⟩
    rw [List.eq_nil_iff_forall_not_mem]
    intro j hj
    obtain ⟨hu, o, ho, _⟩ := mem_ready.1 hj
    have hjl : j < ops.length := (List.getElem?_eq_some_iff.1 (by simpa using ho)).1
    exact (ls_not (by omega)).1 hu ((hl j).2 hjl)
  | succ fuel ih =>
    intro k listed a w hm hk hsz hl hf h
    by_cases hkn : k = ops.length
    · subst hkn
      rw [List.drop_length] at h
      have hr : Region.ready .any ops.toArray listed = [] := by
        rw [List.eq_nil_iff_forall_not_mem]
        intro j hj
        obtain ⟨hu, o, ho, _⟩ := mem_ready.1 hj
        have hjl : j < ops.length := (List.getElem?_eq_some_iff.1 (by simpa using ho)).1
        exact (ls_not (by omega)).1 hu ((hl j).2 hjl)
      exact ⟨fun _ => h, by rw [hr]; simp⟩
    · have hkl : k < ops.length := by omega
      have hok : ops[k]? = some ops[k] := List.getElem?_eq_getElem hkl
      have hin : k ∈ Region.ready .any ops.toArray listed := mem_ready.2 ⟨(ls_not (by omega)).2 (fun h => by have := (hl k).1 h; omega), ops[k], by simp, fun e he hb => (hl e.on).2 (hc.back k _ hok e (by simpa using he) hb)⟩
      refine ⟨fun h0 => (by rw [h0] at hin; cases hin), fun j hj => ?_⟩
      obtain ⟨hu, o, ho, hall⟩ := mem_ready.1 hj
      have ho' : ops[j]? = some o := by simpa using ho
      have hjl : j < ops.length := (List.getElem?_eq_some_iff.1 ho').1
      have hjk : k ≤ j := Nat.le_of_not_lt fun h => (ls_not (by omega)).1 hu ((hl j).2 h)
      have hjk' : j = k := by
        rcases Nat.lt_or_ge k j with hlt | hge
        · exfalso
          rcases hc.late j o ho' (by omega) k hlt with ⟨h1, _⟩ | h1
          · omega
          · have : ∀ (i : Nat) (o : Oper), ops[i]? = some o → (∀ e ∈ o.after.toList, Region.binds .any e = true → Ls listed e.on) → ∀ j, (bef ops i).testBit j = true → Ls listed j := by
              intro i
              induction i using Nat.strongRecOn with
              | _ i ih =>
                intro o ho hr j hj
                obtain ⟨o', ho', e, he, hb, h1⟩ := bef_spec hj
                obtain rfl : o = o' := by rw [ho] at ho'; exact Option.some.inj ho'
                have hl' := hr e he hb
                rcases h1 with rfl | h1
                · exact hl'
                · have hlt := hc.back i o ho e he hb
                  have hm := (hl _).1 hl'
                  have hin : e.on < ops.length := by omega
                  exact ih e.on hlt _ (List.getElem?_eq_getElem hin) (fun e' he' hb' => (hl _).2 (by have := hc.back e.on _ (List.getElem?_eq_getElem hin) e' he' hb'; omega)) j h1
            have := (hl k).1 (this j o ho' (fun e he hb => hall e (by simpa using he) hb) k h1)
            omega
        · omega
      subst hjk'
      rw [List.drop_eq_getElem_cons hkl] at h
      unfold wpOp
      simp only [show ops.toArray[j]? = some ops[j] by simp]
      unfold wpList at h
      have hK : ∀ a w, wpList P ops.toArray Q (ops.drop (j + 1)) a w → wpAny P .any ops.toArray Q fuel (listed.setIfInBounds j true) a w := fun a w h => by
        refine ih (j + 1) _ a w (by omega) (by omega) (by simp [hsz]) (fun i => ?_) (by omega) h
        rw [ls_set (by omega), hl i]
        omega
      split
      · rename_i hw
        rw [if_pos hw] at h
        exact h.imp (Oper.wp_mono hK) id
      · rename_i hw
        rw [if_neg hw] at h
        exact hK _ _ h

theorem find_least {N : Nat} {p : Nat → Prop} (h : ∃ k, k < N ∧ ¬ p k) : ∃ k, k < N ∧ ¬ p k ∧ ∀ j, j < k → p j := by
  obtain ⟨k, h1, h2⟩ := least h
  refine ⟨k, h1.1, h1.2, fun j hj => Classical.byContradiction fun hn => ?_⟩
  have := h2 j ⟨by have := h1.1; omega, hn⟩
  omega

theorem perm_mid {α : Type} {a b c : List α} : (a ++ (b ++ c)).Perm (b ++ (a ++ c)) := by
  rw [← List.append_assoc, ← List.append_assoc]
  exact List.perm_append_comm.append_right c
theorem perm_four {α : Type} {a b c d : List α} : ((a ++ b) ++ (c ++ d)).Perm (c ++ ((a ++ d) ++ b)) := by
  refine perm_mid.trans (List.Perm.append_left c ?_)
  rw [List.append_assoc, List.append_assoc]
  exact List.Perm.append_left a List.perm_append_comm
theorem allH_append (x y : List (Nat × SH)) : allH (x ++ y) = allH x ++ allH y := by simp [allH]
theorem mem_accOf {j : Nat} {R : Value → SH → Prop} (hR : Rs[j]? = some (some R)) {x : Nat × Blk} (hx : x ∈ (c j).2) : ∀ k, j < k → (j, (c j).2) ∈ accOf Rs c k
  | k + 1, h => by
    unfold accOf
    by_cases hj : j = k
    · subst hj
      simp only [hR]
      unfold consA
      cases hc : (c j).2 with
      | nil => rw [hc] at hx; cases hx
      | cons y r => exact List.Mem.head _
    · have ih := mem_accOf hR hx k (by omega)
      split
      · unfold consA
        split
        · exact ih
        · exact List.Mem.tail _ ih
      · exact ih
/-- What has come up, parted: what operation i sees for sure; the others. -/
def selA (ops : List Oper) (i : Nat) (acc : List (Nat × SH)) : List (Nat × SH) := acc.filter fun q => (bef ops i).testBit q.1
def restA (ops : List Oper) (i : Nat) (listed : Array Bool) (acc : List (Nat × SH)) : List (Nat × SH) := acc.filter fun q => listed.getD q.1 false && !((bef ops i).testBit q.1 && Nat.blt q.1 i)
theorem selA_allH (ops : List Oper) (i : Nat) (acc : List (Nat × SH)) : allH (selA ops i acc) = sel ops i acc := rfl
theorem Inv.split {listed : Array Bool} {a : Act} {w : World} (I : Inv P ops w0 Z p Rs a0 m hs c listed a w) (hc : Chk ops m (Rs.map isPure)) {i : Nat} {o : Oper} (ho : ops[i]? = some o)
    (hpre : ∀ e ∈ o.after.toList, Region.binds .any e = true → Ls listed e.on) : St w0 (Z.pre p ++ ((sel ops i (accOf Rs c i) ++ hs) ++ allH (restA ops i listed (accOf Rs c m)))) w := by
  have h := I.stOf (selA ops i (accOf Rs c i) ++ restA ops i listed (accOf Rs c m)) (fun q hq => ?_) ?_
  · rw [allH_append, selA_allH] at h
    exact h.perm perm_four
  · rcases List.mem_append.1 hq with hq | hq
    · obtain ⟨hq1, hq2⟩ := List.mem_filter.1 hq
      obtain ⟨h1, h2, h3⟩ := accOf_mem i q hq1
      exact ⟨h2, I.preds hc i o ho hpre _ hq2, h3⟩
    · obtain ⟨hq1, hq2⟩ := List.mem_filter.1 hq
      obtain ⟨h1, h2, h3⟩ := accOf_mem m q hq1
      simp only [Bool.and_eq_true] at hq2
      exact ⟨h2, hq2.1, h3⟩
  · refine List.pairwise_append.2 ⟨(accOf_nodup i).sublist List.filter_sublist, (accOf_nodup m).sublist List.filter_sublist, fun x hx y hy he => ?_⟩
    obtain ⟨hx1, hx2⟩ := List.mem_filter.1 hx
    obtain ⟨hy1, hy2⟩ := List.mem_filter.1 hy
    have h1 := (accOf_mem i x hx1).1
    simp only [Bool.and_eq_true, Bool.not_eq_true'] at hy2
    rw [← he, hx2, blt_iff.2 h1] at hy2
    exact Bool.noConfusion hy2.2
theorem Inv.inRest {listed : Array Bool} {a : Act} {w : World} (I : Inv P ops w0 Z p Rs a0 m hs c listed a w) {i j : Nat} {R : Value → SH → Prop} (hR : Rs[j]? = some (some R)) (hl : Ls listed j) {x : Nat × Blk} (hx : x ∈ (c j).2) :
    x ∈ (sel ops i (accOf Rs c i) ++ hs) ++ allH (restA ops i listed (accOf Rs c m)) := by
  by_cases hb : (bef ops i).testBit j = true ∧ j < i
  · refine List.mem_append_left _ (List.mem_append_left _ ?_)
    exact List.mem_flatten.2 ⟨(c j).2, List.mem_map.2 ⟨(j, (c j).2), List.mem_filter.2 ⟨mem_accOf hR hx i hb.2, hb.1⟩, rfl⟩, hx⟩
  · refine List.mem_append_right _ ?_
    refine List.mem_flatten.2 ⟨(c j).2, List.mem_map.2 ⟨(j, (c j).2), List.mem_filter.2 ⟨mem_accOf hR hx m (I.pre j hl), ?_⟩, rfl⟩, hx⟩
    simp only [Bool.and_eq_true, Bool.not_eq_true']
    refine ⟨hl, ?_⟩
    cases h1 : (bef ops i).testBit j with
    | false => rfl
    | true =>
      cases h2 : Nat.blt j i with
      | false => rfl
      | true => exact (hb ⟨h1, blt_iff.1 h2⟩).elim

/-- All drawn ones have come up. -/
theorem any_done {e0 : Env} (hc : Chk ops m (Rs.map isPure)) (ha : At n ds e0 a0)
    (h : RG P n w0 Z ops hs K 0 (ops.take m) Rs e0 [] hs) (hK : ∀ e own, K e own → ∀ p, Z.lo ≤ p → p ≤ Z.hi → L P n ds w0 ops Q (ops.drop m) e (Z.pre p ++ own)) {fuel : Nat} {listed : Array Bool} {a : Act} {w : World} {c : Nat → Value × SH} (I : Inv P ops w0 Z p Rs a0 m hs c listed a w)
    (hf : unl ops.length listed ≤ fuel) (hall : ∀ j, j < m → Ls listed j) : wpAny P .any ops.toArray Q fuel listed a w := by
  have hlen : Rs.length = m := by have := hc.len; simpa using this
  obtain ⟨e, hA, hR⟩ := tree hlen hc.le h ha m (Nat.le_refl _) (fun j R _ hR => I.good j R hR)
  have hnil : (ops.take m).drop m = [] := by simp
  have hnil2 : Rs.drop m = [] := by rw [← hlen]; simp
  rw [hnil, hnil2] at hR
  have hst := I.stOf (accOf Rs c m) (fun p hp => ⟨(accOf_mem m p hp).2.1, hall _ (accOf_mem m p hp).1, (accOf_mem m p hp).2.2⟩) (accOf_nodup m)
  have hact : a = acts P ops w0 Rs a0 c m := by
    have h1 : a.tmps = (acts P ops w0 Rs a0 c m).tmps := by
      apply Array.ext_getElem?
      intro t
      by_cases hex : ∃ (j : Nat) (o : Oper), ops[j]? = some o ∧ o.dst = some t ∧ j < m
      · obtain ⟨j, o, ho, hd, hj⟩ := hex
        exact I.tin t j o ho hd (hall j hj)
      · rw [I.tout t (fun j o ho hd hl => hex ⟨j, o, ho, hd, I.pre j hl⟩)]
        exact (acts_keep (k := 0) m (Nat.zero_le _) fun j _ hj o ho hd => hex ⟨j, o, ho, hd, hj⟩).symm
    cases a with
    | mk t d =>
      have h2 := I.defers
      have h3 := acts_defers (P := P) (ops := ops) (w0 := w0) (Rs := Rs) (a0 := a0) (c := c) m
      cases hx : acts P ops w0 Rs a0 c m with
      | mk t' d' =>
        rw [hx] at h1 h3
        simp only at h1 h2 h3
        rw [h1, h2, h3]
  rw [hact]
  refine tail_any hc _ m listed _ _ (Nat.le_refl _) hc.le I.lsize (fun j => ⟨I.pre j, hall j⟩) ?_ (L.ok (hK _ _ hR p I.plo (by have := I.phi; omega)) _ _ hA (hst.perm perm_mid))
  have hcnt : ops.length - m ≤ unl ops.length listed := by
    unfold unl
    have : ((List.range ops.length).filter fun j => !listed.getD j true) = (List.range ops.length).filter fun j => !Nat.blt j m := by
      apply List.filter_congr
      intro j hj
      have hj' : j < ops.length := by simpa using hj
      by_cases hjm : j < m
      · rw [(ls_iff (by rw [I.lsize]; exact hj')).2 (hall j hjm), blt_iff.2 hjm]
      · rw [(ls_not (by rw [I.lsize]; exact hj')).2 (fun hl => hjm (I.pre j hl))]
        have : Nat.blt j m = false := by
          cases hb : Nat.blt j m with
          | false => rfl
          | true => exact (hjm (blt_iff.1 hb)).elim
        rw [this]
    rw [this]
    have hr : List.range ops.length = List.range m ++ (List.range (ops.length - m)).map (m + ·) := by
      rw [← List.range_add]
      congr 1
      have := hc.le
      omega
    rw [hr, List.filter_append, List.length_append]
    have : ((List.range (ops.length - m)).map (m + ·)).filter (fun j => !Nat.blt j m) = (List.range (ops.length - m)).map (m + ·) := by
      rw [List.filter_eq_self]
      intro j hj
      obtain ⟨i, _, rfl⟩ := List.mem_map.1 hj
      cases hb : Nat.blt (m + i) m with
      | false => rfl
      | true => have := blt_iff.1 hb; omega
    rw [this]
    simp
  omega

/-- What an operation of the text that may come up sees. -/
theorem Inv.looks {listed : Array Bool} {a : Act} {w : World} (I : Inv P ops w0 Z p Rs a0 m hs c listed a w) (hc : Chk ops m (Rs.map isPure)) {i : Nat} {o : Oper} (hi : i < m) (ho : ops[i]? = some o)
    (hr : ∀ e ∈ o.after.toList, Region.binds .any e = true → Ls listed e.on) : ∀ t ∈ o.looksAt ops.toArray, a.tmps[t]? = (acts P ops w0 Rs a0 c i).tmps[t]? := by
  intro t ht
  by_cases hex : ∃ (k : Nat) (ok : Oper), k < m ∧ ops[k]? = some ok ∧ ok.dst = some t
  · obtain ⟨k, ok, hkm, hk, hd⟩ := hex
    obtain ⟨hki, hbit⟩ := (hc.looks i o ho hi t ht k ok hk hd).resolve_left (by omega)
    have hl := I.preds hc i o ho hr k hbit
    rw [I.tin t k ok hk hd hl, acts_val hc (by omega) hk hd (by omega : k < m), acts_val hc (by omega) hk hd hki]
  · rw [I.tout t (fun j oj hj hd hl => hex ⟨j, oj, I.pre j hl, hj, hd⟩)]
    exact (acts_keep (k := 0) i (Nat.zero_le _) fun k _ hki ok hk hd => hex ⟨k, ok, by omega, hk, hd⟩).symm
theorem noSel (hc : Chk ops m (Rs.map isPure)) {i : Nat} {o : Oper} (ho : ops[i]? = some o) : ∀ cs b, o.op ≠ .select cs b := fun cs b => Region.noSelect_spec hc.nosel i o cs b (by simpa using ho)

/-- All orders, from the middle. -/
theorem any_main {e0 : Env} (hc : Chk ops m (Rs.map isPure)) (ha : At n ds e0 a0) (hQ : ∀ c a a' w, a'.defers = a.defers → Q (.panic c) a w → Q (.panic c) a' w)
    (h : RG P n w0 Z ops hs K 0 (ops.take m) Rs e0 [] hs) (hK : ∀ e own, K e own → ∀ p, Z.lo ≤ p → p ≤ Z.hi → L P n ds w0 ops Q (ops.drop m) e (Z.pre p ++ own)) :
    ∀ (fuel : Nat) (listed : Array Bool) (a : Act) (w : World) (c : Nat → Value × SH) (z : Int), Inv P ops w0 Z z Rs a0 m hs c listed a w → unl ops.length listed ≤ fuel → wpAny P .any ops.toArray Q fuel listed a w := by
  have hlen : Rs.length = m := by have := hc.len; simpa using this
  have hpure : ∀ i, (Rs.map isPure).getD i false = true ↔ Rs[i]? = some none := by
    intro i
    simp only [List.getD, List.getElem?_map]
    cases Rs[i]? with
    | none => simp
    | some r => cases r <;> simp [isPure]
  intro fuel
  induction fuel with
  | zero =>
    intro listed a w c z I hf
    exact any_done hc ha h hK I hf fun j hj => (ls_iff (by rw [I.lsize]; have := hc.le; omega)).1 (unl_zero (Nat.le_zero.1 hf) (by have := hc.le; omega))
  | succ fuel ih =>
    intro listed a w c z I hf
    by_cases hall : ∀ j, j < m → Ls listed j
    · exact any_done hc ha h hK I hf hall
    · have hle := hc.le
      -- the first of the drawn ones that has not come up may come up
      obtain ⟨p, hp, hpn, hpl⟩ : ∃ k, k < m ∧ ¬ Ls listed k ∧ ∀ j, j < k → Ls listed j := find_least (by
        refine Classical.byContradiction fun hn => hall fun j hj => Classical.byContradiction fun hl => hn ⟨j, hj, hl⟩)
      have hready : ∀ (i : Nat) (o : Oper), ops[i]? = some o → (i ∈ Region.ready .any ops.toArray listed ↔ ¬ Ls listed i ∧ ∀ e ∈ o.after.toList, Region.binds .any e = true → Ls listed e.on) := by
        intro i o ho
        have hil : i < ops.length := (List.getElem?_eq_some_iff.1 ho).1
        rw [mem_ready]
        constructor
        · rintro ⟨hu, o', ho', hall⟩
          obtain rfl : o = o' := by rw [show ops.toArray[i]? = some o by simpa using ho] at ho'; exact Option.some.inj ho'
          exact ⟨(ls_not (by rw [I.lsize]; exact hil)).1 hu, fun e he hb => hall e (by simpa using he) hb⟩
        · rintro ⟨hu, hall⟩
          exact ⟨(ls_not (by rw [I.lsize]; exact hil)).2 hu, o, by simpa using ho, fun e he hb => hall e (by simpa using he) hb⟩
      have hpo : ops[p]? = some ops[p] := List.getElem?_eq_getElem (by omega)
      have hpr : p ∈ Region.ready .any ops.toArray listed := (hready p _ hpo).2 ⟨hpn, fun e he hb => hpl _ (hc.back p _ hpo e he hb)⟩
      by_cases hex : ∃ i, i < m ∧ i ∈ Region.ready .any ops.toArray listed ∧ Rs[i]? = some none
      · -- a quiet one may come up: it is taken first
        obtain ⟨i, hi, hir, hRi⟩ := hex
        have hio : ops[i]? = some ops[i] := List.getElem?_eq_getElem (by omega)
        obtain ⟨hu, hpre⟩ := (hready i _ hio).1 hir
        obtain ⟨e, hA, hR⟩ := tree hlen hc.le h ha i (by omega) (fun j R _ hR => I.good j R hR)
        have hlk := I.looks hc hi hio hpre
        obtain ⟨hx, hwt⟩ := look_same (noSel hc hio) hlk
        have ed : (ops.take m).drop i = ops[i] :: (ops.take m).drop (i + 1) := by
          rw [List.drop_eq_getElem_cons (by simp; omega)]
          simp
        have hRi' : i < Rs.length := by omega
        have hg : Rs[i] = none := by rw [List.getElem?_eq_getElem hRi'] at hRi; exact Option.some.inj hRi
        have eR : Rs.drop i = none :: Rs.drop (i + 1) := by rw [List.drop_eq_getElem_cons hRi', hg]
        rw [ed, eR] at hR
        obtain ⟨hd, v, hv, _⟩ := hR
        have ev : vl P ops w0 Rs c (acts P ops w0 Rs a0 c i) ops[i] i = v := by
          simp only [vl, hRi, pval]
          rcases hv with ⟨hw, hp⟩ | ⟨hw, rfl⟩
          · rw [if_pos (wantE.eq hA hw), hp.ok _ hA.fits w0]
          · rw [if_neg (by rw [wantE.eq hA hw]; exact Bool.false_ne_true)]
        have hy : Yields P ops.toArray ops[i] v a := by
          unfold Yields
          rw [hwt, hx]
          rcases hv with ⟨hw, hp⟩ | ⟨hw, rfl⟩
          · exact .inl ⟨wantE.eq hA hw, hp.ok _ hA.fits⟩
          · exact .inr ⟨wantE.eq hA hw, rfl⟩
        refine wpAny_first (by simp) (fun j o cs b ho => noSel hc (by simpa using ho) cs b) (fun c a w hq => hQ c _ a w (put_defers a _ _).symm hq) fuel listed a w (fun j oj hoj hne hun hno => ?_) hir hy ?_
        · have hoj' : ops[j]? = some oj := by simpa using hoj
          have hjl : j < ops.length := (List.getElem?_eq_some_iff.1 hoj').1
          rcases hc.free i _ hio hi ((hpure i).2 hRi) j oj hoj' hne with ⟨e, he, hb, h1⟩ | h1 | h1
          · exact (hno e (by simpa using he) hb h1).elim
          · exact ((ls_not (by rw [I.lsize]; exact hjl)).1 hun (I.preds hc i _ hio hpre j h1)).elim
          · exact h1
        · refine ih _ _ w c z ?_ ?_
          · have hset := fun j => ls_set (listed := listed) (i := i) (j := j) (by rw [I.lsize]; omega)
            exact
              { lsize := by simp [I.lsize]
                dc := fun j o ho hj e he hb => by
                  rw [hset] at hj ⊢
                  rcases hj with rfl | hj
                  · rw [hio] at ho
                    obtain rfl := Option.some.inj ho
                    exact .inr (hpre e he hb)
                  · exact .inr (I.dc j o ho hj e he hb)
                pre := fun j hj => by
                  rw [hset] at hj
                  rcases hj with rfl | hj
                  · exact hi
                  · exact I.pre j hj
                good := I.good
                defers := by rw [put_defers]; exact I.defers
                tsize := by rw [put_size]; exact I.tsize
                tin := fun t j o ho hd' hj => by
                  rw [hset] at hj
                  by_cases hji : j = i
                  · subst hji
                    rw [hio] at ho
                    obtain rfl := Option.some.inj ho
                    rw [acts_val hc hi hio hd' hi, acts_succ hio, ev, hd']
                    rcases Nat.lt_or_ge t a0.tmps.size with hs | hs
                    · rw [put_eq _ _ _ (by rw [I.tsize]; exact hs), put_eq _ _ _ (by rw [acts_size]; exact hs)]
                    · have hz : ∀ (b : Act), b.tmps.size = a0.tmps.size → (b.put (some t) v).tmps[t]? = none := fun b hb => Array.getElem?_eq_none (by rw [put_size, hb]; omega)
                      rw [hz _ I.tsize, hz _ (acts_size _)]
                  · rw [put_ne _ _ _ _ (fun hq => hc.uniq i _ hio hi j o ho hji t hq hd')]
                    exact I.tin t j o ho hd' (hj.resolve_left hji)
                tout := fun t hn => by
                  rw [put_ne _ _ _ _ (fun hq => hn i _ hio hq ((hset i).2 (.inl rfl)))]
                  exact I.tout t fun j o ho hd' hj => hn j o ho hd' ((hset j).2 (.inr hj))
                st := I.st
                plo := I.plo
                phi := by
                  have h1 := I.phi
                  have h2 := bud_set Z.c (i := i) (by rw [I.lsize]; omega) ((ls_not (by rw [I.lsize]; omega)).2 hu) ops.length
                  omega
                own := fun j R hR hj => I.own j R hR (((hset j).1 hj).resolve_left (fun hji => by subst hji; rw [hRi] at hR; cases hR))
                cross := fun j k R R' hne hR hR' hj hk => I.cross j k R R' hne hR hR' (((hset j).1 hj).resolve_left (fun hji => by subst hji; rw [hRi] at hR; cases hR)) (((hset k).1 hk).resolve_left (fun hji => by subst hji; rw [hRi] at hR'; cases hR')) }
          · have := unl_set (n := ops.length) I.lsize (i := i) (by omega) ((ls_not (by rw [I.lsize]; omega)).2 hu)
            omega
      · refine ⟨fun h0 => (by rw [h0] at hpr; cases hpr), fun i hir => ?_⟩
        obtain ⟨_, o, hoA, _⟩ := mem_ready.1 hir
        have ho : ops[i]? = some o := by simpa using hoA
        obtain ⟨hu, hpre⟩ := (hready i _ ho).1 hir
        have hil : i < ops.length := (List.getElem?_eq_some_iff.1 ho).1
        have hi : i < m := by
          refine Nat.lt_of_not_le fun hmi => ?_
          -- an ordered one: then all drawn ones have come up
          have hRp : ∃ R, Rs[p]? = some (some R) := by
            have hpl' : p < Rs.length := by omega
            cases hq : Rs[p] with
            | none => exact (hex ⟨p, hp, hpr, by rw [List.getElem?_eq_getElem hpl', hq]⟩).elim
            | some R => exact ⟨R, by rw [List.getElem?_eq_getElem hpl', hq]⟩
          obtain ⟨R, hR⟩ := hRp
          rcases hc.late i o ho hmi p (by omega) with ⟨_, h1⟩ | h1
          · have := (hpure p).1 h1
            rw [hR] at this
            cases this
          · exact hpn (I.preds hc i o ho hpre p h1)
        have hRi' : i < Rs.length := by omega
        obtain ⟨R, hRi⟩ : ∃ R, Rs[i]? = some (some R) := by
          cases hq : Rs[i] with
          | none => exact (hex ⟨i, hi, hir, by rw [List.getElem?_eq_getElem hRi', hq]⟩).elim
          | some R => exact ⟨R, by rw [List.getElem?_eq_getElem hRi', hq]⟩
        obtain ⟨e, hA, hRG⟩ := tree hlen hc.le h ha i (by omega) (fun j R _ hR => I.good j R hR)
        have hlk := I.looks hc hi ho hpre
        obtain ⟨hx, hwt⟩ := look_same (noSel hc ho) hlk
        have ed : (ops.take m).drop i = o :: (ops.take m).drop (i + 1) := by
          rw [List.drop_eq_getElem_cons (by simp; omega)]
          rw [List.getElem?_eq_getElem hil] at ho
          simp [Option.some.inj ho]
        have eR : Rs.drop i = some R :: Rs.drop (i + 1) := by
          rw [List.drop_eq_getElem_cons hRi']
          rw [List.getElem?_eq_getElem hRi'] at hRi
          rw [Option.some.inj hRi]
        rw [ed, eR] at hRG
        obtain ⟨hd, hv, _⟩ := hRG
        -- behind it
        have step : ∀ (v : Value) (H : SH) (p' : Int) (w' : World), R v H → z ≤ p' → p' ≤ z + Z.c i → St w0 (H ++ (Z.pre p' ++ ((sel ops i (accOf Rs c i) ++ hs) ++ allH (restA ops i listed (accOf Rs c m))))) w' → wpAny P .any ops.toArray Q fuel (listed.setIfInBounds i true) (a.put o.dst v) w' := by
          intro v H p' w' hRv hp1 hp2 hS
          have hset := fun j => ls_set (listed := listed) (i := i) (j := j) (by rw [I.lsize]; omega)
          let c' : Nat → Value × SH := fun j => if j = i then (v, H) else c j
          have hc'i : c' i = (v, H) := if_pos rfl
          have hc'j : ∀ j, j ≠ i → c' j = c j := fun j hj => if_neg hj
          have hsame := vl_same (P := P) (w0 := w0) (a0 := a0) (c := c) (c' := c') (D := Ls listed) hc (fun j hj hl k hb => I.preds hc j _ (List.getElem?_eq_getElem (by omega)) (fun e he hb => I.dc j _ (List.getElem?_eq_getElem (by omega)) hl e he hb) k hb)
            (fun j R' hR' hl => by rw [hc'j j (fun hji => by subst hji; exact hu hl)])
          refine ih _ _ w' c' p' ?_ ?_
          · have hd := List.pairwise_append.1 hS.dis
            have hd2 := List.pairwise_append.1 hd.2.1
            have hin := fun {j : Nat} {R' : Value → SH → Prop} (hR' : Rs[j]? = some (some R')) (hl : Ls listed j) {x : Nat × Blk} (hx : x ∈ (c j).2) => I.inRest (i := i) hR' hl hx
            exact
              { lsize := by simp [I.lsize]
                dc := fun j oj hoj hj e he hb => by
                  rw [hset] at hj ⊢
                  rcases hj with rfl | hj
                  · rw [ho] at hoj
                    obtain rfl := Option.some.inj hoj
                    exact .inr (hpre e he hb)
                  · exact .inr (I.dc j oj hoj hj e he hb)
                pre := fun j hj => by
                  rw [hset] at hj
                  rcases hj with rfl | hj
                  · exact hi
                  · exact I.pre j hj
                good := fun j R' hR' => by
                  by_cases hji : j = i
                  · subst hji
                    rw [hRi] at hR'
                    obtain rfl : R = R' := Option.some.inj (Option.some.inj hR')
                    rw [hc'i]; exact hRv
                  · rw [hc'j j hji]; exact I.good j R' hR'
                defers := by rw [put_defers]; exact I.defers
                tsize := by rw [put_size]; exact I.tsize
                tin := fun t j oj hoj hd' hj => by
                  rw [hset] at hj
                  by_cases hji : j = i
                  · subst hji
                    rw [ho] at hoj
                    obtain rfl := Option.some.inj hoj
                    have evl : vl P ops w0 Rs c' (acts P ops w0 Rs a0 c' j) o j = v := by simp only [vl, hRi, hc'i]
                    rw [acts_val hc hi ho hd' hi, acts_succ ho, evl, hd']
                    rcases Nat.lt_or_ge t a0.tmps.size with hs | hs
                    · rw [put_eq _ _ _ (by rw [I.tsize]; exact hs), put_eq _ _ _ (by rw [acts_size]; exact hs)]
                    · have hz : ∀ (b : Act), b.tmps.size = a0.tmps.size → (b.put (some t) v).tmps[t]? = none := fun b hb => Array.getElem?_eq_none (by rw [put_size, hb]; omega)
                      rw [hz _ I.tsize, hz _ (acts_size _)]
                  · have hl := hj.resolve_left hji
                    have hjm := I.pre j hl
                    rw [put_ne _ _ _ _ (fun hq => hc.uniq i _ ho hi j oj hoj hji t hq hd'), I.tin t j oj hoj hd' hl, acts_val hc hjm hoj hd' hjm, acts_val hc hjm hoj hd' hjm, acts_succ hoj, acts_succ hoj, hsame j oj hjm hoj hl, hd']
                    rcases Nat.lt_or_ge t a0.tmps.size with hs | hs
                    · rw [put_eq _ _ _ (by rw [acts_size]; exact hs), put_eq _ _ _ (by rw [acts_size]; exact hs)]
                    · have hz : ∀ (b : Act) (v : Value), b.tmps.size = a0.tmps.size → (b.put (some t) v).tmps[t]? = none := fun b v hb => Array.getElem?_eq_none (by rw [put_size, hb]; omega)
                      rw [hz _ _ (acts_size _), hz _ _ (acts_size _)]
                tout := fun t hn => by
                  rw [put_ne _ _ _ _ (fun hq => hn i _ ho hq ((hset i).2 (.inl rfl)))]
                  exact I.tout t fun j oj hoj hd' hj => hn j oj hoj hd' ((hset j).2 (.inr hj))
                st := hS.sub (((List.Sublist.refl _).append ((List.sublist_append_right _ _).trans (List.sublist_append_left _ _))).trans (List.sublist_append_right _ _))
                plo := by have := I.plo; omega
                phi := by
                  have h1 := I.phi
                  have h2 := bud_set Z.c (i := i) (by rw [I.lsize]; omega) ((ls_not (by rw [I.lsize]; omega)).2 hu) ops.length
                  rw [if_pos hil] at h2
                  omega
                own := fun j R' hR' hj => by
                  by_cases hji : j = i
                  · subst hji
                    rw [hc'i]
                    refine ⟨fun e he => hS.own e (List.mem_append_left _ he), hd.1, fun x hx y hy => hd.2.2 x hx y ?_⟩
                    rcases List.mem_append.1 hy with hy | hy
                    · exact List.mem_append_left _ hy
                    · exact List.mem_append_right _ (List.mem_append_left _ (List.mem_append_right _ hy))
                  · rw [hc'j j hji]
                    have hl := ((hset j).1 hj).resolve_left hji
                    obtain ⟨h1, h2, h3⟩ := I.own j R' hR' hl
                    refine ⟨fun e he => hS.own e (List.mem_append_right _ (List.mem_append_right _ (hin hR' hl he))), h2, fun x hx y hy => ?_⟩
                    rcases List.mem_append.1 hy with hy | hy
                    · exact Ne.symm (hd2.2.2 y hy x (hin hR' hl hx))
                    · exact h3 x hx y (List.mem_append_right _ hy)
                cross := fun j k R1 R2 hne hR1 hR2 hj hk => by
                  by_cases hji : j = i
                  · subst hji
                    have hki : k ≠ j := Ne.symm hne
                    rw [hc'i, hc'j k hki]
                    have hl := ((hset k).1 hk).resolve_left hki
                    intro x hx y hy
                    exact hd.2.2 x hx y (List.mem_append_right _ (hin hR2 hl hy))
                  · have hlj := ((hset j).1 hj).resolve_left hji
                    by_cases hki : k = i
                    · subst hki
                      rw [hc'i, hc'j j hji]
                      intro x hx y hy
                      exact Ne.symm (hd.2.2 y hy x (List.mem_append_right _ (hin hR1 hlj hx)))
                    · rw [hc'j j hji, hc'j k hki]
                      exact I.cross j k R1 R2 hne hR1 hR2 hlj (((hset k).1 hk).resolve_left hki) }
          · have := unl_set (n := ops.length) I.lsize (i := i) (by omega) ((ls_not (by rw [I.lsize]; omega)).2 hu)
            omega
        unfold wpOp
        simp only [show ops.toArray[i]? = some o by simpa using ho]
        rcases hv with ⟨hw, hON⟩ | ⟨hw, hRe⟩
        · rw [if_pos (by rw [hwt]; exact wantE.eq hA hw)]
          refine .inl ?_
          have hdoes := hON.ok _ w z _ hA.fits I.plo (by have := I.phi; rw [← bud_set Z.c (by rw [I.lsize]; exact hil) ((ls_not (by rw [I.lsize]; exact hil)).2 hu) ops.length, if_pos hil] at this; omega) (I.split hc ho hpre)
          rw [← hx] at hdoes
          exact hdoes.upon fun v w' ⟨H, p', hRv, hp1, hp2, hS⟩ => step v H p' w' hRv hp1 hp2 hS
        · rw [if_neg (by rw [hwt, wantE.eq hA hw]; exact Bool.false_ne_true)]
          exact step undef [] z w (by rw [hRe]; exact ⟨rfl, rfl⟩) (by omega) (by omega) (I.split hc ho hpre)

end D
end Go.Proofs.YtboglbdhibcacaaGreatDoor

namespace Go.Proofs.YtboglbdhibcacaaGreatDoor
set_option linter.unusedVariables false
set_option linter.unusedSimpArgs false
namespace D
open Go.RowKit

variable {P : Program} {n m : Nat} {ds : List Deferred} {w0 : World} {ops : List Oper} {Q : Exit → Act → World → Prop} {hs : SH} {Rs : List Sp} {a0 : Act} {K : Env → SH → Prop} {Z : Lend}

theorem accOf_upto {c c' : Nat → Value × SH} : ∀ i, (∀ j, j < i → c' j = c j) → accOf Rs c' i = accOf Rs c i
  | 0, _ => rfl
  | i + 1, h => by
    have ih := accOf_upto i (fun j hj => h j (by omega))
    unfold accOf
    rw [ih, h i (by omega)]
/-- What has come up, parted, for the run in the text's order. -/
theorem part_perm (ops : List Oper) (i : Nat) : ∀ acc : List (Nat × SH), (allH acc).Perm (sel ops i acc ++ allH (acc.filter fun q => !(bef ops i).testBit q.1))
  | [] => .nil
  | u :: r => by
    have ih := part_perm ops i r
    unfold sel allH at *
    by_cases h : (bef ops i).testBit u.1 = true
    · simp only [List.filter_cons, h, if_true, List.map_cons, List.flatten_cons, Bool.not_true, Bool.false_eq_true, if_false, List.append_assoc]
      exact List.Perm.append_left _ ih
    · simp only [List.filter_cons, h, if_false, List.map_cons, List.flatten_cons, Bool.not_false, if_true, Bool.eq_false_iff.2 h]
      exact (List.Perm.append_left _ ih).trans perm_mid
/-- Some choice of what the operations leave there is: the run in the text's order. -/
theorem canon {e0 : Env} (hlen : Rs.length = m) (hle : m ≤ ops.length) (hZ : Z.lo + tot Z.c ops.length ≤ Z.hi) (h : RG P n w0 Z ops hs K 0 (ops.take m) Rs e0 [] hs) (ha : At n ds e0 a0) {w : World} (hst : St w0 (Z.pre Z.lo ++ hs) w) :
    ∀ i : Nat, i ≤ m → ∃ c, (∀ (j : Nat) R, j < i → Rs[j]? = some (some R) → R (c j).1 (c j).2) ∧ ∃ p w', Z.lo ≤ p ∧ p ≤ Z.lo + tot Z.c i ∧ St w0 (Z.pre p ++ (allH (accOf Rs c i) ++ hs)) w'
  | 0, _ => ⟨fun _ => (undef, []), fun j R hj => by omega, Z.lo, w, by omega, by simp [tot], by simpa [accOf, allH] using hst⟩
  | i + 1, hi => by
    obtain ⟨c, hg, p, w', hp1, hp2, hw'⟩ := canon hlen hle hZ h ha hst i (by omega)
    have hstep : tot Z.c (i + 1) = tot Z.c i + Z.c i := rfl
    have hup : tot Z.c (i + 1) ≤ tot Z.c ops.length := tot_mono Z.c (by omega)
    obtain ⟨e, hA, hR⟩ := tree hlen hle h ha i (by omega) hg
    have hio : i < ops.length := by omega
    have ho : ops[i]? = some ops[i] := List.getElem?_eq_getElem hio
    have hRi : i < Rs.length := by omega
    have hr : Rs[i]? = some Rs[i] := List.getElem?_eq_getElem hRi
    have ed : (ops.take m).drop i = ops[i] :: (ops.take m).drop (i + 1) := by
      rw [List.drop_eq_getElem_cons (by simp; omega)]
      simp
    have eR : Rs.drop i = Rs[i] :: Rs.drop (i + 1) := List.drop_eq_getElem_cons hRi
    rw [ed, eR] at hR
    cases hq : Rs[i] with
    | none =>
      rw [hq] at hr
      refine ⟨c, fun j R hj hRj => ?_, p, w', hp1, by omega, ?_⟩
      · by_cases hji : j = i
        · subst hji; rw [hr] at hRj; cases hRj
        · exact hg j R (by omega) hRj
      · have : accOf Rs c (i + 1) = accOf Rs c i := by simp only [accOf, hr]
        rw [this]; exact hw'
    | some R =>
      rw [hq] at hR hr
      obtain ⟨hd, hv, _⟩ := hR
      have hex : ∃ v H p' w'', R v H ∧ Z.lo ≤ p' ∧ p' ≤ p + Z.c i ∧ St w0 (H ++ (Z.pre p' ++ (allH (accOf Rs c i) ++ hs))) w'' := by
        rcases hv with ⟨hw, hON⟩ | ⟨hw, hRe⟩
        · have hpm : (allH (accOf Rs c i) ++ hs).Perm ((sel ops i (accOf Rs c i) ++ hs) ++ allH ((accOf Rs c i).filter fun q => !(bef ops i).testBit q.1)) := by
            refine ((part_perm ops i _).append_right hs).trans ?_
            rw [List.append_assoc, List.append_assoc]
            exact List.Perm.append_left _ List.perm_append_comm
          obtain ⟨v, w'', H, p', hRv, h1, h2, hN⟩ := (hON.ok _ w' p _ hA.fits hp1 (by omega) (hw'.perm (List.Perm.append_left _ hpm))).some
          exact ⟨v, H, p', w'', hRv, by omega, h2, hN.perm (List.Perm.append_left _ (List.Perm.append_left _ hpm.symm))⟩
        · exact ⟨undef, [], p, w', by rw [hRe]; exact ⟨rfl, rfl⟩, hp1, by omega, hw'⟩
      obtain ⟨v, H, p', w'', hRv, h1, h2, hN⟩ := hex
      let c' : Nat → Value × SH := fun j => if j = i then (v, H) else c j
      have hc'i : c' i = (v, H) := if_pos rfl
      have hc'j : ∀ j, j < i → c' j = c j := fun j hj => if_neg (by omega)
      refine ⟨c', fun j R' hj hR' => ?_, p', w'', h1, by omega, ?_⟩
      · by_cases hji : j = i
        · subst hji
          rw [hr] at hR'
          obtain rfl : R = R' := Option.some.inj (Option.some.inj hR')
          rw [hc'i]; exact hRv
        · rw [hc'j j (by omega)]; exact hg j R' (by omega) hR'
      · have : accOf Rs c' (i + 1) = consA i H (accOf Rs c i) := by simp only [accOf, hr, hc'i, accOf_upto i hc'j]
        rw [this, allH_consA, List.append_assoc]
        exact hN.perm perm_mid

/-- The walk in the text's order, as a word that does not unfold. -/
structure G (P : Program) (n : Nat) (w0 : World) (Z : Lend) (ops : List Oper) (hs : SH) (K : Env → SH → Prop) (i : Nat) (l : List Oper) (Rs : List Sp) (e : Env) (acc : List (Nat × SH)) (own : SH) : Prop where
  ok : RG P n w0 Z ops hs K i l Rs e acc own

theorem tot_const (c : Nat) : ∀ n, tot (fun _ => c) n = c * n
  | 0 => rfl
  | n + 1 => by rw [tot, tot_const c n, Nat.mul_succ]
theorem draw_main {id : Nat} {e0 : Env} (hm : P.follows .mixedOrders = true) (hC : Chk ops m (Rs.map isPure)) (hQ : ∀ c a a' w, a'.defers = a.defers → Q (.panic c) a w → Q (.panic c) a' w) (hZ : Z.lo + tot Z.c ops.length ≤ Z.hi)
    (h : RG P n w0 Z ops hs K 0 (ops.take m) Rs e0 [] hs) (hK : ∀ e own, K e own → ∀ p, Z.lo ≤ p → p ≤ Z.hi → L P n ds w0 ops Q (ops.drop m) e (Z.pre p ++ own)) : C P n ds w0 Q (.region id ops.toArray true) e0 (Z.pre Z.lo ++ hs) := .mk fun a w ha hst => by
  have hlen : Rs.length = m := by have := hC.len; simpa using this
  obtain ⟨c, hg, _⟩ := canon hlen hC.le hZ h ha hst m (Nat.le_refl _)
  have hno : ∀ i, ¬ Ls (Array.replicate ops.length false) i := fun i hi => by
    unfold Ls at hi
    by_cases hl : i < ops.length <;> simp [hl] at hi
  have hun : unl ops.length (Array.replicate ops.toArray.size false) ≤ ops.length := by
    unfold unl
    have := List.length_filter_le (fun j => !(Array.replicate ops.toArray.size false).getD j true) (List.range ops.length)
    simpa using this
  refine wp_region_any hm ?_
  refine any_main hC ha hQ h hK _ _ _ _ c Z.lo
    { lsize := by simp
      dc := fun i o ho hi => (hno i (by simpa using hi)).elim
      pre := fun i hi => (hno i (by simpa using hi)).elim
      good := fun i R hR => hg i R (by have := (List.getElem?_eq_some_iff.1 hR).1; omega) hR
      defers := rfl
      tsize := rfl
      tin := fun t j o ho hd hi => (hno j (by simpa using hi)).elim
      tout := fun t _ => rfl
      st := hst.drew
      plo := Int.le_refl _
      phi := by
        have := bud_le Z.c (Array.replicate ops.toArray.size false) ops.length
        omega
      own := fun j R hR hi => (hno j (by simpa using hi)).elim
      cross := fun j k R R' hne hR hR' hi => (hno j (by simpa using hi)).elim } ?_
  simpa using hun

/-- **A region whose order is drawn**: m operations that may come in any order their edges allow, then the rest in the text's order. -/
theorem C.draw {id : Nat} {e0 : Env} (m : Nat) (Rs : List Sp) (hm : P.follows .mixedOrders = true) (hc : chk ops m (Rs.map isPure) = true) (hQ : ∀ c a a' w, a'.defers = a.defers → Q (.panic c) a w → Q (.panic c) a' w)
    (h' : G P n w0 ⟨fun _ => [], fun _ => 0, 0, 0⟩ ops hs (fun e' hs' => L P n ds w0 ops Q (ops.drop m) e' hs') 0 (ops.take m) Rs e0 [] hs) : C P n ds w0 Q (.region id ops.toArray true) e0 hs :=
  draw_main (Z := ⟨fun _ => [], fun _ => 0, 0, 0⟩) hm (chk_spec hc) hQ (by rw [tot_const]; simp) h'.ok fun _ _ h _ _ _ => h

/-- One block is taken out of a list. -/
inductive Pull (x : Nat × Blk) : SH → SH → Prop where
  | here {r : SH} : Pull x (x :: r) r
  | there {y : Nat × Blk} {r r' : SH} (h : Pull x r r') : Pull x (y :: r) (y :: r')
theorem Pull.perm {x : Nat × Blk} {hs r : SH} (h : Pull x hs r) : hs.Perm (x :: r) := by
  induction h with
  | here => exact .refl _
  | there h ih => exact (ih.cons _).trans (.swap _ _ _)
/-- The same, where the calls may turn a block that is lent. -/
theorem C.drawl {id : Nat} {e0 : Env} {r : Nat} {p0 : Int} {F : SH} (m : Nat) (Rs : List Sp) (hm : P.follows .mixedOrders = true) (hc : chk ops m (Rs.map isPure) = true) (hQ : ∀ c a a' w, a'.defers = a.defers → Q (.panic c) a w → Q (.panic c) a' w)
    (bs : Int → Blk) (c T : Nat) (hT : Nat.ble (c * ops.length) T = true) (hp : Pull (r, bs p0) hs F)
    (h' : G P n w0 ⟨fun p => [(r, bs p)], fun _ => c, p0, p0 + T⟩ ops F (fun e' own => ∀ p, p0 ≤ p → p ≤ p0 + T → L P n ds w0 ops Q (ops.drop m) e' ((r, bs p) :: own)) 0 (ops.take m) Rs e0 [] F) : C P n ds w0 Q (.region id ops.toArray true) e0 hs := .mk fun a w ha hst =>
  (draw_main (Z := ⟨fun p => [(r, bs p)], fun _ => c, p0, p0 + T⟩) hm (chk_spec hc) hQ (by have := Nat.le_of_ble_eq_true hT; show p0 + ((tot (fun _ => c) ops.length : Nat) : Int) ≤ p0 + T; rw [tot_const]; omega) h'.ok fun _ _ h p h1 h2 => h p h1 h2).ok a w ha (hst.perm hp.perm)

/-! ### Its steps -/
variable {i : Nat} {o : Oper} {os : List Oper} {e : Env} {acc : List (Nat × SH)} {own : SH} {v : Value} {R : Value → SH → Prop}
def Eqv (v : Value) : Value → SH → Prop := fun v' H => v' = v ∧ H = []
theorem G.p (hw : wantE ops e o = some true) (hd : dstOk n o.dst = true) (h : PV P o e v) (k : G P n w0 Z ops hs K (i + 1) os Rs (consE o.dst v e) acc own) : G P n w0 Z ops hs K i (o :: os) (none :: Rs) e acc own :=
  .mk ⟨hd, v, .inl ⟨hw, h⟩, k.ok⟩
theorem G.ps (hw : wantE ops e o = some false) (hd : dstOk n o.dst = true) (k : G P n w0 Z ops hs K (i + 1) os Rs (consE o.dst undef e) acc own) : G P n w0 Z ops hs K i (o :: os) (none :: Rs) e acc own :=
  .mk ⟨hd, undef, .inr ⟨hw, rfl⟩, k.ok⟩
theorem G.pb {b c : Bool} (hw : wantE ops e o = some true) (hd : dstOk n o.dst = true) (h : PV P o e (.bool b)) (hb : b = c) (k : G P n w0 Z ops hs K (i + 1) os Rs (consE o.dst (.bool c) e) acc own) : G P n w0 Z ops hs K i (o :: os) (none :: Rs) e acc own :=
  G.p hw hd h (by rw [hb]; exact k)
theorem ON.wide {hs' : SH} (h : ON P o e w0 hs R) : ON P o e w0 (hs' ++ hs) R := .mk fun ρ w hf hst => h.ok ρ w hf (hst.sub (List.sublist_append_right _ _))
theorem OV.on (h : OV P o e w0 hs v) : ON P o e w0 hs (Eqv v) := .mk fun ρ w hf hst => (h.ok ρ w hf hst).mono fun v' w' ⟨hv, hn⟩ => ⟨[], ⟨hv, rfl⟩, hn⟩
theorem G.va (hw : wantE ops e o = some true) (hd : dstOk n o.dst = true) (h : OV P o e w0 hs v) (k : G P n w0 Z ops hs K (i + 1) os Rs (consE o.dst v e) acc own) : G P n w0 Z ops hs K i (o :: os) (some (Eqv v) :: Rs) e acc own :=
  .mk ⟨hd, .inl ⟨hw, .on h.on.wide⟩, fun v' H ⟨hv, hH⟩ => by subst hv; subst hH; exact k.ok⟩
theorem G.vs (hw : wantE ops e o = some false) (hd : dstOk n o.dst = true) (k : G P n w0 Z ops hs K (i + 1) os Rs (consE o.dst undef e) acc own) : G P n w0 Z ops hs K i (o :: os) (some (Eqv undef) :: Rs) e acc own :=
  .mk ⟨hd, .inr ⟨hw, rfl⟩, fun v' H ⟨hv, hH⟩ => by subst hv; subst hH; exact k.ok⟩
/-- One that looks at memory that the region itself has made. -/
theorem G.vd {X : SH} (hX : sel ops i acc = X) (hw : wantE ops e o = some true) (hd : dstOk n o.dst = true) (h : OV P o e w0 (X ++ hs) v) (k : G P n w0 Z ops hs K (i + 1) os Rs (consE o.dst v e) acc own) : G P n w0 Z ops hs K i (o :: os) (some (Eqv v) :: Rs) e acc own :=
  .mk ⟨hd, .inl ⟨hw, by rw [hX]; exact .on h.on⟩, fun v' H ⟨hv, hH⟩ => by subst hv; subst hH; exact k.ok⟩
theorem G.nw (hw : wantE ops e o = some true) (hd : dstOk n o.dst = true) (h : ON P o e w0 hs R) (k : ∀ v H, R v H → G P n w0 Z ops hs K (i + 1) os Rs (consE o.dst v e) (consA i H acc) (H ++ own)) : G P n w0 Z ops hs K i (o :: os) (some R :: Rs) e acc own :=
  .mk ⟨hd, .inl ⟨hw, .on h.wide⟩, fun v H hR => (k v H hR).ok⟩
theorem G.na {B : Blk} (hw : wantE ops e o = some true) (hd : dstOk n o.dst = true) (h : ON P o e w0 hs (NewAt B)) (k : ∀ b : Nat, G P n w0 Z ops hs K (i + 1) os Rs (consE o.dst (.pointer (some ⟨b, 0, none⟩)) e) ((i, [(b, B)]) :: acc) ((b, B) :: own)) :
    G P n w0 Z ops hs K i (o :: os) (some (NewAt B) :: Rs) e acc own :=
  G.nw hw hd h fun v H ⟨b, hv, hH⟩ => by subst hv; subst hH; exact k b
/-- What a call may do that a block is lent to. -/
def Lent (w0 : World) (r : Nat) (bs : Int → Blk) (p : Int) (c : Nat) (F : SH) (R : Value → SH → Prop) : Ending → World → Prop := fun e w' => ∃ v H p', e = .returned v ∧ R v H ∧ p ≤ p' ∧ p' ≤ p + c ∧ St w0 (H ++ (r, bs p') :: F) w'
theorem OP.call {f : FuncId} {xs : List Operand} {ts : Array TypeId} {vs : List Value} {r : Nat} {bs : Int → Blk} {c : Nat} {cc : Nat → Nat} {lo hi : Int} {d : Option Tmp} {ty : TypeId} {pos : String} {af : Array Edge} {g : Option (Nat × Bool)} [i : Ent P f] (hv : evs e xs = some vs)
    (h : ∀ p F w, lo ≤ p → p + c ≤ hi → St w0 ((r, bs p) :: F) w → Calls P f vs.toArray w (Lent w0 r bs p c F R)) : OP P w0 ⟨fun p => [(r, bs p)], cc, lo, hi⟩ c ⟨d, .call ⟨.value (.func f), xs.toArray, ts⟩, ty, pos, af, g⟩ e hs R := .mk fun ρ w p F hf h1 h2 hst => by
  unfold Does
  rw [run_call hf rfl hv]
  simpa using Calls.mono (h p (hs ++ F) w h1 h2 hst) fun e' w' ⟨v, H, p', he, hR, h3, h4, hn⟩ => ⟨v, he, H, hR, p', h3, h4, by simpa using hn⟩
theorem OP.wide {k : Nat} {hs' : SH} (h : OP P w0 Z k o e hs R) : OP P w0 Z k o e (hs' ++ hs) R := .mk fun ρ w p F hf h1 h2 hst => by
  have hp : ∀ q, (Z.pre q ++ ((hs' ++ hs) ++ F)).Perm (Z.pre q ++ (hs ++ (hs' ++ F))) := fun q => List.Perm.append_left _ (by rw [List.append_assoc]; exact perm_mid)
  exact (h.ok ρ w p (hs' ++ F) hf h1 h2 (hst.perm (hp p))).mono fun v w' ⟨H, p', hR, h3, h4, hn⟩ => ⟨H, p', hR, h3, h4, hn.perm (List.Perm.append_left _ (hp p').symm)⟩
theorem G.l (hw : wantE ops e o = some true) (hd : dstOk n o.dst = true) (h : OP P w0 Z (Z.c i) o e hs R) (k : ∀ v H, R v H → G P n w0 Z ops hs K (i + 1) os Rs (consE o.dst v e) (consA i H acc) (H ++ own)) : G P n w0 Z ops hs K i (o :: os) (some R :: Rs) e acc own :=
  .mk ⟨hd, .inl ⟨hw, h.wide⟩, fun v H hR => (k v H hR).ok⟩
/-- A region where one block is stored to at a place that is not bound to the others. -/
def preS (b : Nat) (o : Blk) (p : Int) : SH := if p ≤ 0 then [(b, o)] else []
def cS (ix i : Nat) : Nat := bif Nat.beq i ix then 1 else 0
theorem tot_cS (ix : Nat) : ∀ n, tot (cS ix) n ≤ 1 ∧ (n ≤ ix → tot (cS ix) n = 0)
  | 0 => ⟨by simp [tot], fun _ => rfl⟩
  | n + 1 => by
    obtain ⟨h1, h2⟩ := tot_cS ix n
    have e : tot (cS ix) (n + 1) = tot (cS ix) n + cS ix n := rfl
    by_cases h : n = ix
    · subst h
      have : cS n n = 1 := by simp [cS]
      have := h2 (Nat.le_refl _)
      exact ⟨by omega, fun h => by omega⟩
    · have : cS ix n = 0 := by
        have hb : Nat.beq n ix = false := by
          cases hb : Nat.beq n ix with
          | false => rfl
          | true => exact (h (Nat.eq_of_beq_eq_true hb)).elim
        unfold cS; rw [hb]; rfl
      exact ⟨by omega, fun h' => by have := h2 (by omega); omega⟩
theorem C.draws {id : Nat} {e0 : Env} {F : SH} (ix b : Nat) (o : Blk) (m : Nat) (Rs : List Sp) (hm : P.follows .mixedOrders = true) (hc : chk ops m (Rs.map isPure) = true) (hQ : ∀ c a a' w, a'.defers = a.defers → Q (.panic c) a w → Q (.panic c) a' w)
    (hp : Pull (b, o) hs F) (h' : G P n w0 ⟨preS b o, cS ix, 0, 1⟩ ops F (fun e' hs' => L P n ds w0 ops Q (ops.drop m) e' hs') 0 (ops.take m) Rs e0 [] F) : C P n ds w0 Q (.region id ops.toArray true) e0 hs := .mk fun a w ha hst =>
  (draw_main (Z := ⟨preS b o, cS ix, 0, 1⟩) hm (chk_spec hc) hQ (by have := (tot_cS ix ops.length).1; show (0 : Int) + (tot (cS ix) ops.length : Int) ≤ 1; omega) h'.ok
    fun _ _ h _ _ _ => .mk fun a w ha hst => h.ok a w ha (hst.sub (List.sublist_append_right _ _))).ok a w ha (hst.perm hp.perm)
def Stored (b : Nat) (B : Blk) : Value → SH → Prop := fun v H => v = undef ∧ H = [(b, B)]
theorem G.st {b : Nat} {B B' : Blk} {ix : Nat} (hi : Nat.beq i ix = true) (hw : wantE ops e o = some true) (hd : dstOk n o.dst = true) (h : ∀ F, OS P o e w0 ((b, B) :: F) ((b, B') :: F))
    (k : G P n w0 ⟨preS b B, cS ix, 0, 1⟩ ops hs K (i + 1) os Rs (consE o.dst undef e) ((i, [(b, B')]) :: acc) ((b, B') :: own)) : G P n w0 ⟨preS b B, cS ix, 0, 1⟩ ops hs K i (o :: os) (some (Stored b B') :: Rs) e acc own :=
  G.l (R := Stored b B') hw hd (.mk fun ρ w p F hf h1 h2 hst => by
    have hc1 : cS ix i = 1 := by simp [cS, hi]
    have hp0 : p = 0 := by
      have h2' : p + (cS ix i : Int) ≤ 1 := h2
      have h1' : 0 ≤ p := h1
      rw [hc1] at h2'
      omega
    subst hp0
    have e1 : preS b B 0 = [(b, B)] := rfl
    have e2 : preS b B 1 = [] := rfl
    have hst' : St w0 ((b, B) :: (hs ++ F)) w := hst
    refine ((h (hs ++ F)).ok ρ w hf hst').mono fun v w' ⟨hv, hs'⟩ => ⟨[(b, B')], 1, ⟨hv, rfl⟩, by omega, ?_, ?_⟩
    · show (1 : Int) ≤ 0 + (cS ix i : Int)
      rw [hc1]
      omega
    · show St w0 ([(b, B')] ++ (preS b B 1 ++ (hs ++ F))) w'
      rw [e2]
      exact hs') fun v H ⟨hv, hH⟩ => by subst hv; subst hH; exact k
/-- The same, where a list of operations goes on. -/
theorem L.l {id : List Oper} {l : List Oper} {r : Nat} {bs : Int → Blk} {c : Nat} {p : Int} {F : SH} {f : FuncId} {xs : List Operand} {ts : Array TypeId} {vs : List Value} {d : Option Tmp} {ty : TypeId} {pos : String} {af : Array Edge} {g : Option (Nat × Bool)} [i : Ent P f]
    (hw : wantE ops e ⟨d, .call ⟨.value (.func f), xs.toArray, ts⟩, ty, pos, af, g⟩ = some true) (hd : dstOk n d = true) (hv : evs e xs = some vs) (hp : Pull (r, bs p) hs F)
    (h : ∀ w, St w0 ((r, bs p) :: F) w → Calls P f vs.toArray w (Lent w0 r bs p c F R))
    (k : ∀ v H p', R v H → p ≤ p' → p' ≤ p + c → L P n ds w0 ops Q l (consE d v e) (H ++ (r, bs p') :: F)) : L P n ds w0 ops Q (⟨d, .call ⟨.value (.func f), xs.toArray, ts⟩, ty, pos, af, g⟩ :: l) e hs :=
  L.does (Y := Value × SH × Int) (Φ := fun y => R y.1 y.2.1 ∧ p ≤ y.2.2 ∧ y.2.2 ≤ p + c) (V := fun y => y.1) (H := fun y => y.2.1 ++ (r, bs y.2.2) :: F) hw hd
    (fun a w ha hst => by
      unfold Does
      rw [run_call ha.fits rfl hv]
      simpa using Calls.mono (h w (hst.perm hp.perm)) fun e' w' ⟨v, H, p', he, hR, h3, h4, hn⟩ => ⟨v, he, v, H, p', ⟨hR, h3, h4⟩, rfl, hn⟩)
    fun y hy => k y.1 y.2.1 y.2.2 hy.1 hy.2.1 hy.2.2
/-- The beginning and the end of a function that a block is lent to. -/
theorem enterl {f : FuncId} {fn : Func} {c : Code} {vs : List Value} {R : Ending → World → Prop} {w : World} (hf : P.funcs[f]? = some fn) (hb : fn.body = some c) (hn : fn.ntmps = n) (hl : Nat.ble vs.length n = true) (hst : St w0 hs w)
    (h : C P n [] w0 (bodyPost P fn R) c (args0 vs 0) hs) : Calls P f vs.toArray w R := by
  refine calls_of_wp hf hb (h.ok _ _ ⟨?_, rfl, fun t v ht => ?_⟩ hst)
  · have := Nat.le_of_ble_eq_true hl
    simp [hn]; omega
  · obtain ⟨_, h2⟩ := get_args0 vs 0 t v ht
    simp only [Nat.sub_zero] at h2
    have hlt : t < vs.length := (List.getElem?_eq_some_iff.1 h2).1
    simp [Array.getElem?_append, hlt]
    exact (List.getElem?_eq_some_iff.1 h2).2
theorem X.retl {fn : Func} {rs : List ResultVar} {vs : List Value} {r : Nat} {bs : Int → Blk} {p p' : Int} {c : Nat} {F : SH} (H : SH) (hrs : fn.results = rs.toArray) (h : RVs P n [] w0 e hs rs vs) (h1 : p ≤ p') (h2 : p' ≤ p + c) (hs' : (H ++ (r, bs p') :: F).Sublist hs) (hR : R (tupleOf vs) H) :
    X n [] w0 (bodyPost P fn (Lent w0 r bs p c F R)) .ret e hs :=
  X.body rfl hrs h fun w hst => ⟨_, H, p', rfl, hR, h1, h2, hst.sub hs'⟩
theorem G.done (k : K e own) : G P n w0 Z ops hs K i [] [] e acc own := .mk k

end D
end Go.Proofs.YtboglbdhibcacaaGreatDoor

namespace Go.Proofs.YtboglbdhibcacaaGreatDoor
set_option linter.unusedVariables false
set_option linter.unusedSimpArgs false
namespace D
open Go.RowKit

variable {P : Program} {e : Env} {w0 : World} {hs hs' : SH} {d : Option Tmp} {ty : TypeId} {pos : String} {af : Array Edge} {g : Option (Nat × Bool)}

/-! ### Composites -/
class Bd (P : Program) (t : TypeId) (pl : outParam (List (Nat × Nat))) (zs : outParam (List Value)) : Prop where
  ok : ∀ parts, P.built t parts = Instr.fill (fun i => pl.toArray[i]?) zs.toArray parts
inductive Fl (e : Env) (pf : Nat → Option (Nat × Nat)) : List (Nat × Operand) → List Value → List Value → Prop where
  | nil {cs : List Value} : Fl e pf [] cs cs
  | cons {i off : Nat} {x : Operand} {v : Value} {us cs cs' cs'' : List Value} {r : List (Nat × Operand)} (hx : ev e x = some v) (hv : v.cells = us.toArray) (hp : pf i = some (off, us.length)) (hw : Wr off us cs cs') (h : Fl e pf r cs' cs'') : Fl e pf ((i, x) :: r) cs cs''
theorem foldl_set : ∀ (us : List Value) (j off : Nat) (cs : Array Value), off + j + us.length ≤ cs.size →
    (us.zipIdx j).foldl (fun cs (p : Value × Nat) => cs.setIfInBounds (off + p.2) p.1) cs = (cs.toList.take (off + j) ++ us ++ cs.toList.drop (off + j + us.length)).toArray
  | [], j, off, cs, _ => by simp
  | u :: us, j, off, cs, h => by
    rw [List.zipIdx_cons, List.foldl_cons, foldl_set us (j + 1) off _ (by simp at h ⊢; omega)]
    have e := list_seg_step cs.toList (off + j) u us (by simp at h ⊢; omega)
    simpa [Array.toList_setIfInBounds, Nat.add_assoc] using e
theorem fill_fl {pf pf' : Nat → Option (Nat × Nat)} (hpf : ∀ i x, pf i = some x → pf' i = some x) {ps : List (Nat × Operand)} {cs us : List Value} (h : Fl e pf ps cs us) {ρ : Operand → Value} (hf : Fits e ρ) :
    Instr.fill pf' cs.toArray (ps.map fun p => (p.1, ρ p.2)) = some us.toArray := by
  induction h with
  | nil => rfl
  | cons hx hv hp hw h ih =>
    rename_i i off x v us cs cs' cs'' r
    obtain ⟨h1, h2⟩ := hw.eq
    have hp' := hpf _ _ hp
    simp only [List.map_cons, Instr.fill, hp', hf x _ hx, hv]
    have hz : us.toArray.zipIdx.foldl (fun cs (p : Value × Nat) => cs.setIfInBounds (off + p.2) p.1) cs.toArray = cs'.toArray := by
      have := foldl_set us 0 off cs.toArray (by simpa using h2)
      simp only [Nat.add_zero] at this
      rw [← Array.foldl_toList]
      simp only [Array.toList_zipIdx]
      rw [this, h1]
    rw [if_neg (by simp; omega)]
    rw [← ih]
    congr 1
theorem PV.build {t : TypeId} {pl : List (Nat × Nat)} {zs us : List Value} {ps : List (Nat × Operand)} [i : Bd P t pl zs] (h : Fl e (nthL pl) ps zs us) : PV P ⟨d, .build t ps.toArray, ty, pos, af, g⟩ e (.agg us.toArray) := .mk fun ρ hf w => by
  have hb : P.built t (ps.map fun p => (p.1, ρ p.2)) = some us.toArray := by rw [i.ok]; exact fill_fl (fun i x h => by simpa using nthL_some h) h hf
  have := run_build (P := P) w t (ps.map fun p => (p.1, ρ p.2)).toArray us.toArray (by simpa using hb)
  simp [execOp, this]

def rep : Nat → List Value → List Value
  | 0, _ => []
  | n + 1, zs => zs ++ rep n zs
theorem rep_length (n : Nat) (zs : List Value) : (rep n zs).length = n * zs.length := by
  induction n with
  | zero => simp [rep]
  | succ n ih => simp [rep, ih, Nat.succ_mul, Nat.add_comm]
theorem rep_get (n : Nat) (zs : List Value) : ∀ i, i < n * zs.length → (rep n zs)[i]? = zs[i % zs.length]? := by
  induction n with
  | zero => intro i h; simp at h
  | succ n ih =>
    intro i h
    rw [Nat.succ_mul] at h
    by_cases hi : i < zs.length
    · rw [rep, List.getElem?_append_left hi, Nat.mod_eq_of_lt hi]
    · rw [rep, List.getElem?_append_right (by omega), ih _ (by omega)]
      congr 1
      conv => rhs; rw [← Nat.sub_add_cancel (Nat.le_of_not_lt hi), Nat.add_mod_right]
theorem rep_range (n : Nat) (zs : List Value) : ((Array.range (n * zs.length)).map (zs.toArray[· % zs.toArray.size]!)) = (rep n zs).toArray := by
  apply Array.ext_getElem?
  intro i
  by_cases hi : i < n * zs.length
  · have hz : 0 < zs.length := by
      rcases Nat.eq_zero_or_pos zs.length with h | h
      · rw [h] at hi; simp at hi
      · exact h
    have hm : i % zs.length < zs.length := Nat.mod_lt _ hz
    have := rep_get n zs i hi
    simp [hi, this, hm]
  · have := rep_length n zs
    rw [Array.getElem?_eq_none (by simp; omega), Array.getElem?_eq_none (by simp [this]; omega)]
class BS (P : Program) (t : TypeId) (el : outParam Nat) (zs : outParam (List Value)) : Prop where
  ok : P.underlying t = some (.slice el)
  sz : (P.info? el).map (·.size) = some zs.length
  zr : (P.info? el).bind (·.zero.map (·.cells)) = some zs.toArray
/-- A new slice. -/
def NewSl (n c : Nat) (k : Blk) : Value → SH → Prop := fun v H => ∃ b : Nat, v = .slice (some ⟨b, 0, none⟩) n c ∧ H = [(b, k)]
theorem run_zeroCells {el : Nat} {zs : List Value} (h : (P.info? el).bind (·.zero.map (·.cells)) = some zs.toArray) (w : World) : ∃ v, (zeroValue el).run P w = .ok v w ∧ v.cells = zs.toArray := by
  cases hq : P.info? el with
  | none => simp [hq] at h
  | some i =>
    cases hz : i.zero with
    | none => simp [hq, hz] at h
    | some v =>
      simp only [hq, Option.bind_some, hz, Option.map_some, Option.some.injEq] at h
      exact ⟨v, by simp [zeroValue, typeInfo, hq, hz], h⟩
theorem ON.bslice {t el len : Nat} {zs us : List Value} {ps : List (Nat × Operand)} [i : BS P t el zs] (hb : Nat.ble (len * zs.length) (2 ^ 24) = true) (h : Fl e (fun i => some (i * zs.length, zs.length)) ps (rep len zs) us) :
    ON P ⟨d, .buildSlice t len ps.toArray, ty, pos, af, g⟩ e w0 hs (NewSl len len (.cells el us)) := .mk fun ρ w hf hst => by
  have hle := Nat.le_of_ble_eq_true hb
  have hfill := fill_fl (pf' := fun i => some (i * zs.length, zs.length)) (fun _ _ h => h) h hf
  obtain ⟨v, hv, hvc⟩ := run_zeroCells i.zr w
  refine .of_value (w' := w.alloc (.cells us.toArray el)) (v := .slice (some ⟨w.heap.size, 0, none⟩) len len) ?_ ⟨_, ⟨w.heap.size, rfl, rfl⟩, New.alloc w (.cells el us)⟩
  have hb2 : (Instr.buildSlice t len (ps.map fun p => (p.1, ρ p.2)).toArray).run P w = .ok (.slice (some ⟨w.heap.size, 0, none⟩) len len) (w.alloc (.cells us.toArray el)) := by
    rw [Instr.buildSlice, Sem.run_bind, run_underlying i.ok]
    simp only [Result.andThen_ok]
    rw [Sem.run_bind, run_sizeOf i.sz]
    simp only [Result.andThen_ok]
    rw [if_neg (Nat.not_lt.2 hle), pure_bind]
    by_cases h0 : len * zs.length = 0
    · have hl := rep_length len zs
      rw [h0] at hl
      rw [List.length_eq_zero_iff.1 hl] at hfill
      rw [if_pos h0]
      have ha : (Array.map (fun (x : Nat) => (#[] : Array Value)[x % (#[] : Array Value).size]!) (Array.range (len * zs.length))) = #[] := by rw [h0]; simp
      simp only [ha]
      simp only [hfill]
      rfl
    · rw [if_neg h0, Sem.run_bind, hv]
      simp only [Result.andThen_ok, pure_bind, hvc]
      rw [rep_range len zs]
      simp only [hfill]
      rfl
  simp [execOp, hb2]

section
variable {n m : Nat} {ds : List Deferred} {ops : List Oper} {Q : Exit → Act → World → Prop} {o : Oper} {l : List Oper} {Rs : List Sp} {K : Env → SH → Prop} {i : Nat} {acc : List (Nat × SH)} {own : SH} {Z : Lend}
theorem L.nsl {len c : Nat} {B : Blk} (hw : wantE ops e o = some true) (hd : dstOk n o.dst = true) (h : ON P o e w0 hs (NewSl len c B)) (k : ∀ b : Nat, L P n ds w0 ops Q l (consE o.dst (.slice (some ⟨b, 0, none⟩) len c) e) ((b, B) :: hs)) : L P n ds w0 ops Q (o :: l) e hs :=
  L.nw hw hd h fun v H ⟨b, hv, hH⟩ => by subst hv; subst hH; exact k b
theorem G.nsl {len c : Nat} {B : Blk} (hw : wantE ops e o = some true) (hd : dstOk n o.dst = true) (h : ON P o e w0 hs (NewSl len c B)) (k : ∀ b : Nat, G P n w0 Z ops hs K (i + 1) l Rs (consE o.dst (.slice (some ⟨b, 0, none⟩) len c) e) ((i, [(b, B)]) :: acc) ((b, B) :: own)) :
    G P n w0 Z ops hs K i (o :: l) (some (NewSl len c B) :: Rs) e acc own :=
  G.nw hw hd h fun v H ⟨b, hv, hH⟩ => by subst hv; subst hH; exact k b
end

/-! ### Indexes -/
class ArT (P : Program) (t : TypeId) (len es : outParam Nat) : Prop where
  ok : ∃ el, P.underlying t = some (.array len el) ∧ (P.info? el).map (·.size) = some es
class SlT (P : Program) (t : TypeId) (el es : outParam Nat) : Prop where
  ok : P.underlying t = some (.slice el)
  sz : (P.info? el).map (·.size) = some es
class StT (P : Program) (t : TypeId) : Prop where
  ok : P.underlying t = some .string
theorem PV.idxArr {t len es b o : Nat} {x y : Operand} {kk : IntKind} {k : Int} [i : ArT P t len es] (hx : ev e x = some (.pointer (some ⟨b, o, none⟩))) (hy : ev e y = some (.int kk k)) (h : 0 ≤ k ∧ k < len) :
    PV P ⟨d, .indexAddr t x y, ty, pos, af, g⟩ e (.pointer (some ⟨b, o + k.toNat * es, none⟩)) := .mk fun ρ hf w => by
  obtain ⟨el, hu, hz⟩ := i.ok
  simp [execOp, hf x _ hx, hf y _ hy, Instr.indexAt, asIntOf, run_underlying hu, Instr.sureAddr, h.1, h.2, run_sizeOf hz, add_plain]
theorem PV.idxSl {t el es b o n c : Nat} {x y : Operand} {kk : IntKind} {k : Int} [i : SlT P t el es] (hx : ev e x = some (.slice (some ⟨b, o, none⟩) n c)) (hy : ev e y = some (.int kk k)) (h : 0 ≤ k ∧ k < n) :
    PV P ⟨d, .indexAddr t x y, ty, pos, af, g⟩ e (.pointer (some ⟨b, o + k.toNat * es, none⟩)) := .mk fun ρ hf w => by
  simp [execOp, hf x _ hx, hf y _ hy, Instr.indexAt, asIntOf, run_underlying i.ok, h.1, h.2, run_sizeOf i.sz, add_plain]

/-! ### Built-in functions -/
theorem PV.builtin {b : Builtin} {xs : List Operand} {ts : Array TypeId} {vs : List Value} {v : Value} (hv : evs e xs = some vs) (h : ∀ cs w, (builtin b ts ty cs vs.toArray).run P w = .ok (.value v) w) :
    PV P ⟨d, .call ⟨.builtin b, xs.toArray, ts⟩, ty, pos, af, g⟩ e v := .mk fun ρ hf w => by
  have := evs_map hf hv
  simp [execOp, resolve, invoke, this, h]
theorem PV.min {xs : List Operand} {ts : Array TypeId} {m n : Int} {k : IntKind} (hv : evs e xs = some [.int k m, .int k n]) : PV P ⟨d, .call ⟨.builtin .min, xs.toArray, ts⟩, ty, pos, af, g⟩ e (.int k (min m n)) := .builtin hv fun cs w => by
  simp [Go.builtin, Builtin.min_, Builtin.min2]
  rw [Int.min_def]
  split <;> split <;> omega
theorem PV.max {xs : List Operand} {ts : Array TypeId} {m n : Int} {k : IntKind} (hv : evs e xs = some [.int k m, .int k n]) : PV P ⟨d, .call ⟨.builtin .max, xs.toArray, ts⟩, ty, pos, af, g⟩ e (.int k (max m n)) := .builtin hv fun cs w => by
  simp [Go.builtin, Builtin.max_, Builtin.max2]
  rw [Int.max_def]
  split <;> split <;> omega
theorem PV.lenSl {t el es n c : Nat} {b : Option Addr} {xs : List Operand} [i : SlT P t el es] (hv : evs e xs = some [.slice b n c]) : PV P ⟨d, .call ⟨.builtin .len, xs.toArray, #[t]⟩, ty, pos, af, g⟩ e (.int .i64 n) := .builtin hv fun cs w => by
  simp [Go.builtin, Builtin.len_, run_underlying i.ok, goInt]
theorem PV.lenSt {t : TypeId} {s : ByteArray} {xs : List Operand} [i : StT P t] (hv : evs e xs = some [.string s]) : PV P ⟨d, .call ⟨.builtin .len, xs.toArray, #[t]⟩, ty, pos, af, g⟩ e (.int .i64 s.size) := .builtin hv fun cs w => by
  simp [Go.builtin, Builtin.len_, run_underlying i.ok, goInt]

/-! ### Function values -/
theorem PV.makeFunc {fn : Fn} {xs ys : List Operand} {us vs : List Value} (hx : evs e xs = some us) (hy : evs e ys = some vs) : PV P ⟨d, .makeFunc fn xs.toArray ys.toArray, ty, pos, af, g⟩ e (.func fn us.toArray vs.toArray) := .mk fun ρ hf w => by
  have h1 := evs_map hf hx
  have h2 := evs_map hf hy
  simp [execOp, Instr.makeFunc, h1, h2]

/-! ### Bools and strings -/
theorem eqGuard_bools (op : BinOp) (t : TypeId) (x y : Operand) (a b : Bool) (w : World) : (eqGuard op t x y (.bool a) (.bool b)).run P w = .ok () w := by
  cases op <;> simp [eqGuard]
theorem eqGuard_strings (op : BinOp) (t : TypeId) (x y : Operand) (a b : ByteArray) (w : World) : (eqGuard op t x y (.string a) (.string b)).run P w = .ok () w := by
  cases op <;> simp [eqGuard]
class BoT (P : Program) (t : TypeId) : Prop where
  ok : P.underlying t = some .bool
theorem run_equal_bool {t : TypeId} {a b : Bool} (h : P.underlying t = some .bool) (w : World) : (Op.equal t (.bool a) (.bool b)).run P w = .ok (a == b) w := by
  show (Op.equalIn (9999 + 1) t (.bool a) (.bool b)).run P w = _
  rw [Op.equalIn]
  simp only [Sem.run_bind, run_underlying h, Result.andThen_ok]
  rfl
theorem PV.eqlB {x y : Operand} {a b : Bool} {xt yt : TypeId} [i : BoT P xt] (hx : ev e x = some (.bool a)) (hy : ev e y = some (.bool b)) : PV P ⟨d, .binOp .eql xt x y yt, ty, pos, af, g⟩ e (.bool (a == b)) :=
  .bin hx hy (eqGuard_bools _ _ _ _ _ _) fun w => by simp only [Go.binOp, Sem.run_bind, run_equal_bool i.ok, Result.andThen_ok]; rfl
theorem PV.neqB {x y : Operand} {a b : Bool} {xt yt : TypeId} [i : BoT P xt] (hx : ev e x = some (.bool a)) (hy : ev e y = some (.bool b)) : PV P ⟨d, .binOp .neq xt x y yt, ty, pos, af, g⟩ e (.bool (!(a == b))) :=
  .bin hx hy (eqGuard_bools _ _ _ _ _ _) fun w => by simp only [Go.binOp, Sem.run_bind, run_equal_bool i.ok, Result.andThen_ok]; rfl

end D
end Go.Proofs.YtboglbdhibcacaaGreatDoor

namespace Go.Proofs.YtboglbdhibcacaaGreatDoor
set_option linter.unusedVariables false
set_option linter.unusedSimpArgs false
namespace D
open Go.RowKit

variable {P : Program} {e : Env} {w0 : World} {hs hs' : SH} {d : Option Tmp} {ty : TypeId} {pos : String} {af : Array Edge} {g : Option (Nat × Bool)}

theorem PV.nilCheck {x : Operand} {a : Addr} (h : ev e x = some (.pointer (some a))) : PV P ⟨d, .nilCheck x, ty, pos, af, g⟩ e (.pointer (some a)) := .mk fun ρ hf w => by simp [execOp, hf x _ h]
class I64 (P : Program) (t : TypeId) : Prop where
  ok : P.underlying t = some (.int .i64)
theorem PV.conv {x : Operand} {k : IntKind} {n : Int} {st dt : TypeId} [j : Sc P st] [i : I64 P dt] (hx : ev e x = some (.int k n)) (h1 : -9223372036854775808 ≤ n) (h2 : n ≤ 9223372036854775807) :
    PV P ⟨d, .convert st dt x, ty, pos, af, g⟩ e (.int .i64 n) := .mk fun ρ hf w => by
  have hw : IntKind.i64.wrap n = n := by simp [IntKind.wrap, IntKind.bits, IntKind.signed]; omega
  obtain ⟨sd, hs, _⟩ := j.ok
  simp [execOp, hf x _ hx, convert, run_underlying hs, run_underlying i.ok, Conv.intToInt, hw]
theorem bits_xor_bd {m n : Int} (h0 : 0 ≤ m) (h1 : m < 4611686018427387904) (h2 : 0 ≤ n) (h3 : n < 4611686018427387904) : ∃ r : Int, Op.intBits .xor .i64 m n = pure (.int .i64 r) ∧ 0 ≤ r ∧ r < 4611686018427387904 := by
  obtain ⟨a, rfl⟩ := Int.eq_ofNat_of_zero_le h0
  obtain ⟨b, rfl⟩ := Int.eq_ofNat_of_zero_le h2
  have ha : a < 2 ^ 62 := by omega
  have hb : b < 2 ^ 62 := by omega
  have hx : a ^^^ b < 2 ^ 62 := Nat.xor_lt_two_pow ha hb
  have e1 : (BitVec.ofInt 64 (a : Int) ^^^ BitVec.ofInt 64 (b : Int)).toNat = a ^^^ b := by
    have e2 : (BitVec.ofInt 64 (a : Int)).toNat = a := by simp; omega
    have e3 : (BitVec.ofInt 64 (b : Int)).toNat = b := by simp; omega
    rw [BitVec.toNat_xor, e2, e3]
  refine ⟨((a ^^^ b : Nat) : Int), ?_, by omega, by omega⟩
  have e4 : IntKind.i64.wrap (((BitVec.ofInt 64 (a : Int) ^^^ BitVec.ofInt 64 (b : Int)).toNat : Nat) : Int) = ((a ^^^ b : Nat) : Int) := by
    rw [e1]
    simp [IntKind.wrap, IntKind.bits, IntKind.signed]; omega
  show pure (Value.int .i64 (IntKind.i64.wrap (((BitVec.ofInt 64 (a : Int) ^^^ BitVec.ofInt 64 (b : Int)).toNat : Nat) : Int))) = _
  rw [e4]
theorem PV.xor {x y : Operand} {m n r : Int} {xt yt : TypeId} (hx : ev e x = some (.int .i64 m)) (hy : ev e y = some (.int .i64 n)) (h : Op.intBits .xor .i64 m n = pure (.int .i64 r)) :
    PV P ⟨d, .binOp .xor xt x y yt, ty, pos, af, g⟩ e (.int .i64 r) :=
  .bin hx hy (eqGuard_ints _ _ _ _ _ _) fun w => by
    have : Go.binOp .xor xt (.int .i64 m) (.int .i64 n) = Op.intBits .xor .i64 m n := by simp [Go.binOp]
    rw [this, h]; rfl
theorem PV.and {x y : Operand} {k : IntKind} {m n : Int} (r : Int) {xt yt : TypeId} (hx : ev e x = some (.int k m)) (hy : ev e y = some (.int k n)) (h : k.wrap ((BitVec.ofInt k.bits m &&& BitVec.ofInt k.bits n).toNat : Int) = r) :
    PV P ⟨d, .binOp .and xt x y yt, ty, pos, af, g⟩ e (.int k r) :=
  .bin hx hy (eqGuard_ints _ _ _ _ _ _) fun w => by
    have : Go.binOp .and xt (.int k m) (.int k n) = Op.intBits .and k m n := by simp [Go.binOp]
    rw [this]
    subst h
    rfl
theorem PV.slh {t el es b o n c : Nat} {x y : Operand} {k : IntKind} {q : Int} [i : SlT P t el es] (hx : ev e x = some (.slice (some ⟨b, o, none⟩) n c)) (hy : ev e y = some (.int k q)) (h0 : 0 ≤ q) (h1 : q ≤ c) :
    PV P ⟨d, .slice t x none (some y) none, ty, pos, af, g⟩ e (.slice (some ⟨b, o, none⟩) q.toNat c) := .mk fun ρ hf w => by
  simp [execOp, hf x _ hx, hf y _ hy, Instr.sliceAt, Instr.slice, run_underlying i.ok, run_sizeOf i.sz, Instr.sliceBounds, run_sliceBound, h0, h1, add_plain]
theorem OV.load0i {x : Operand} {b o j q : Nat} {lt : TypeId} {v : Value} [Sc P lt] (hx : ev e x = some (.pointer (some ⟨b, q, none⟩))) (hq : q = o + j) (hv : w0.cell? ⟨b, o + j, none⟩ = some v) :
    OV P ⟨d, .load lt x, ty, pos, af, g⟩ e w0 hs v := OV.load0 hx (hq ▸ hv)

/-! ### Calls that a block is lent to -/
def LentV (w0 : World) (r : Nat) (bs : Int → Blk) (p : Int) (c : Nat) (F : SH) (R : Value → Prop) : Ending → World → Prop := fun e w' => ∃ v p', e = .returned v ∧ R v ∧ p ≤ p' ∧ p' ≤ p + c ∧ St w0 ((r, bs p') :: F) w'
def JustV (R : Value → Prop) : Value → SH → Prop := fun v H => H = [] ∧ R v
theorem OP.callv {f : FuncId} {xs : List Operand} {ts : Array TypeId} {vs : List Value} {r : Nat} {bs : Int → Blk} {c : Nat} {cc : Nat → Nat} {lo hi : Int} {R : Value → Prop} [i : Ent P f] (hv : evs e xs = some vs)
    (h : ∀ p F w, lo ≤ p → p + c ≤ hi → St w0 ((r, bs p) :: F) w → Calls P f vs.toArray w (LentV w0 r bs p c F R)) : OP P w0 ⟨fun p => [(r, bs p)], cc, lo, hi⟩ c ⟨d, .call ⟨.value (.func f), xs.toArray, ts⟩, ty, pos, af, g⟩ e hs (JustV R) :=
  .call hv fun p F w h1 h2 hst => (h p F w h1 h2 hst).mono fun e' w' ⟨v, p', he, hR, h3, h4, hn⟩ => ⟨v, [], p', he, ⟨rfl, hR⟩, h3, h4, hn⟩
variable {n m : Nat} {ds : List Deferred} {ops : List Oper} {Q : Exit → Act → World → Prop} {o : Oper} {l : List Oper} {Rs : List Sp} {K : Env → SH → Prop} {i : Nat} {acc : List (Nat × SH)} {own : SH} {Z : Lend} {R : Value → Prop}
theorem G.lv (hw : wantE ops e o = some true) (hd : dstOk n o.dst = true) (h : OP P w0 Z (Z.c i) o e hs (JustV R)) (k : ∀ v, R v → G P n w0 Z ops hs K (i + 1) l Rs (consE o.dst v e) acc own) : G P n w0 Z ops hs K i (o :: l) (some (JustV R) :: Rs) e acc own :=
  G.l hw hd h fun v H ⟨hH, hR⟩ => by subst hH; exact k v hR
theorem L.lv {r : Nat} {bs : Int → Blk} {c : Nat} {p : Int} {F : SH} {f : FuncId} {xs : List Operand} {ts : Array TypeId} {vs : List Value} [i : Ent P f]
    (hw : wantE ops e ⟨d, .call ⟨.value (.func f), xs.toArray, ts⟩, ty, pos, af, g⟩ = some true) (hd : dstOk n d = true) (hv : evs e xs = some vs) (hp : Pull (r, bs p) hs F)
    (h : ∀ w, St w0 ((r, bs p) :: F) w → Calls P f vs.toArray w (LentV w0 r bs p c F R))
    (k : ∀ v p', R v → p ≤ p' → p' ≤ p + c → L P n ds w0 ops Q l (consE d v e) ((r, bs p') :: F)) : L P n ds w0 ops Q (⟨d, .call ⟨.value (.func f), xs.toArray, ts⟩, ty, pos, af, g⟩ :: l) e hs :=
  L.l (id := []) (R := JustV R) hw hd hv hp (fun w hst => (h w hst).mono fun e' w' ⟨v, p', he, hR, h3, h4, hn⟩ => ⟨v, [], p', he, ⟨rfl, hR⟩, h3, h4, hn⟩)
    fun v H p' ⟨hH, hR⟩ h1 h2 => by subst hH; exact k v p' hR h1 h2
theorem X.retlv {fn : Func} {rs : List ResultVar} {vs : List Value} {r : Nat} {bs : Int → Blk} {p p' : Int} {c : Nat} {F : SH} (hrs : fn.results = rs.toArray) (h : RVs P n [] w0 e hs rs vs) (hs' : ((r, bs p') :: F).Sublist hs) (h1 : p ≤ p') (h2 : p' ≤ p + c) (hR : R (tupleOf vs)) :
    X n [] w0 (bodyPost P fn (LentV w0 r bs p c F R)) .ret e hs :=
  X.body rfl hrs h fun w hst => ⟨_, p', rfl, hR, h1, h2, hst.sub hs'⟩

theorem LentV.up {r : Nat} {bs : Int → Blk} {p : Int} {c c' : Nat} {F : SH} (hc : c ≤ c') (ed : Ending) (w' : World) (h : LentV w0 r bs p c F R ed w') : LentV w0 r bs p c' F R ed w' := by
  obtain ⟨v, p', h1, h2, h3, h4, h5⟩ := h
  exact ⟨v, p', h1, h2, h3, by omega, h5⟩
/-- Ints within bounds. -/
def IntIn (lo hi : Int) (v : Value) : Prop := ∃ m : Int, v = .int .i64 m ∧ lo ≤ m ∧ m ≤ hi
inductive AllI (lo hi : Int) : List Value → Prop where
  | nil : AllI lo hi []
  | cons {m : Int} {r : List Value} (h1 : lo ≤ m) (h2 : m ≤ hi) (h : AllI lo hi r) : AllI lo hi (.int .i64 m :: r)
theorem AllI.get {lo hi : Int} {vs : List Value} (h : AllI lo hi vs) : ∀ j, j < vs.length → ∃ m : Int, vs[j]? = some (.int .i64 m) ∧ lo ≤ m ∧ m ≤ hi := by
  induction h with
  | nil => intro j hj; simp at hj
  | cons h1 h2 h ih =>
    intro j hj
    cases j with
    | zero => exact ⟨_, rfl, h1, h2⟩
    | succ j => simpa using ih j (by simpa using hj)
theorem L.li {lo hi : Int} {x : Operand} {b q : Nat} {lt T : TypeId} {vs : List Value} [Sc P lt] (hw : wantE ops e ⟨d, .load lt x, ty, pos, af, g⟩ = some true) (hd : dstOk n d = true) (hx : ev e x = some (.pointer (some ⟨b, q, none⟩))) (hm : (b, Blk.cells T vs) ∈ hs)
    (hq : q < vs.length) (ha : AllI lo hi vs) (k : ∀ m : Int, lo ≤ m → m ≤ hi → L P n ds w0 ops Q l (consE d (.int .i64 m) e) hs) : L P n ds w0 ops Q (⟨d, .load lt x, ty, pos, af, g⟩ :: l) e hs := by
  obtain ⟨m, h1, h2, h3⟩ := ha.get q hq
  exact L.v hw hd (OV.loadi hx hm h1) (k m h2 h3)

theorem G.stk {ix b j k : Nat} {x y : Operand} {st T : TypeId} {vs vs' us : List Value} [z : Ag P st k] (hi : Nat.beq i ix = true) (hw : wantE ops e ⟨d, .store st x y, ty, pos, af, g⟩ = some true) (hd : dstOk n d = true) (hx : ev e x = some (.pointer (some ⟨b, j, none⟩))) (hy : ev e y = some (.agg us.toArray))
    (hl : us.length = k) (h1 : us.all Value.oneCell' = true) (hwr : Wr j us vs vs')
    (kk : G P n w0 ⟨preS b (.cells T vs), cS ix, 0, 1⟩ ops hs K (i + 1) l Rs (consE d undef e) ((i, [(b, .cells T vs')]) :: acc) ((b, .cells T vs') :: own)) :
    G P n w0 ⟨preS b (.cells T vs), cS ix, 0, 1⟩ ops hs K i (⟨d, .store st x y, ty, pos, af, g⟩ :: l) (some (Stored b (.cells T vs')) :: Rs) e acc own :=
  G.st hi hw hd (fun F => OS.storek hx hy hl h1 Upd.here hwr) kk
theorem G.st1 {ix b j : Nat} {x y : Operand} {st T : TypeId} {vs vs' : List Value} {v : Value} [z : Sz P st 1] (hi : Nat.beq i ix = true) (hw : wantE ops e ⟨d, .store st x y, ty, pos, af, g⟩ = some true) (hd : dstOk n d = true) (hx : ev e x = some (.pointer (some ⟨b, j, none⟩))) (hy : ev e y = some v)
    (h1 : v.oneCell' = true) (hwr : Wr j [v] vs vs')
    (kk : G P n w0 ⟨preS b (.cells T vs), cS ix, 0, 1⟩ ops hs K (i + 1) l Rs (consE d undef e) ((i, [(b, .cells T vs')]) :: acc) ((b, .cells T vs') :: own)) :
    G P n w0 ⟨preS b (.cells T vs), cS ix, 0, 1⟩ ops hs K i (⟨d, .store st x y, ty, pos, af, g⟩ :: l) (some (Stored b (.cells T vs')) :: Rs) e acc own :=
  G.st hi hw hd (fun F => OS.store1 hx hy h1 Upd.here hwr) kk

/-! ### Calls of whose value only something is told -/
def RetV (w : World) (R : Value → Prop) : Ending → World → Prop := fun e w' => ∃ v, e = .returned v ∧ R v ∧ Below w.heap.size w w'
theorem ON.callv {f : FuncId} {xs : List Operand} {ts : Array TypeId} {vs : List Value} [i : Ent P f] (hv : evs e xs = some vs)
    (h : ∀ w, St w0 hs w → Calls P f vs.toArray w (RetV w R)) : ON P ⟨d, .call ⟨.value (.func f), xs.toArray, ts⟩, ty, pos, af, g⟩ e w0 hs (JustV R) :=
  .call hv fun w hst => (h w hst).mono fun e' w' ⟨v, he, hR, hb⟩ => ⟨v, [], he, ⟨rfl, hR⟩, .of_below hb⟩
theorem L.nv (hw : wantE ops e o = some true) (hd : dstOk n o.dst = true) (h : ON P o e w0 hs (JustV R)) (k : ∀ v, R v → L P n ds w0 ops Q l (consE o.dst v e) hs) : L P n ds w0 ops Q (o :: l) e hs :=
  L.nw hw hd h fun v H ⟨hH, hR⟩ => by subst hH; exact k v hR
theorem G.nv (hw : wantE ops e o = some true) (hd : dstOk n o.dst = true) (h : ON P o e w0 hs (JustV R)) (k : ∀ v, R v → G P n w0 Z ops hs K (i + 1) l Rs (consE o.dst v e) acc own) : G P n w0 Z ops hs K i (o :: l) (some (JustV R) :: Rs) e acc own :=
  G.nw hw hd h fun v H ⟨hH, hR⟩ => by subst hH; exact k v hR
theorem X.retw {fn : Func} {rs : List ResultVar} {vs : List Value} (hrs : fn.results = rs.toArray) (h : RVs P n [] w0 e hs rs vs) (hR : R (tupleOf vs)) : X n [] w0 (bodyPost P fn (RetV w0 R)) .ret e hs :=
  X.body rfl hrs h fun w hst => ⟨_, rfl, hR, hst.low⟩

/-! ### The bytes that a reader reads -/
def CodeAt (w0 : World) (s : Value) : Prop := (∃ (a : Option Addr) (c : Nat), s = .slice a 0 c) ∨ ∃ b o n c : Nat, s = .slice (some ⟨b, o, none⟩) n c ∧ n ≤ c ∧ n ≤ 1048576 ∧ ∀ j, j < n → ∃ k : Int, 0 ≤ k ∧ k < 256 ∧ w0.cell? ⟨b, o + j, none⟩ = some (.int .u8 k)

end D
end Go.Proofs.YtboglbdhibcacaaGreatDoor

namespace Go.Proofs.YtboglbdhibcacaaGreatDoor
set_option linter.unusedVariables false
set_option linter.unusedSimpArgs false
namespace D
open Go.RowKit

structure Hold (A : Prop) : Prop where
  out : A

/-- Straight on. -/
theorem go {A B : Prop} (k : B) (s : Hold B → A := by intro kk; (first | (first | (apply L.p; exact rfl; exact rfl; (· (first | exact PV.move rfl | exact PV.assign rfl | exact PV.pickT rfl rfl | exact PV.pickF rfl rfl | exact PV.extract rfl rfl | exact PV.fieldAddr rfl | (apply PV.field1; exact rfl; (· (repeat (first | exact Rd.nil | apply Rd.take | apply Rd.skip)))) | (apply PV.fieldk; exact rfl; (· (repeat (first | exact Rd.nil | apply Rd.take | apply Rd.skip)))) | exact PV.not rfl | exact PV.lss rfl rfl | exact PV.leq rfl rfl | exact PV.gtr rfl rfl | exact PV.geq rfl rfl | exact PV.eql rfl rfl | exact PV.neq rfl rfl | (apply PV.add; exact rfl; exact rfl; omega) | (apply PV.sub; exact rfl; exact rfl; omega) | (apply PV.mul; exact rfl; exact rfl; omega) | (apply PV.quo; exact rfl; exact rfl; omega; omega; omega) | (apply PV.rem; exact rfl; exact rfl; omega; omega) | (apply PV.neg; exact rfl; omega; omega) | (apply PV.build; (· (repeat (first | exact Fl.nil | (apply Fl.cons; exact rfl; exact rfl; exact rfl; (· (repeat (first | exact Wr.nil | apply Wr.put | apply Wr.skip)))))))) | (apply PV.idxArr; exact rfl; exact rfl; omega) | (apply PV.idxSl; exact rfl; exact rfl; omega) | exact PV.min rfl | exact PV.max rfl | exact PV.lenSl rfl | exact PV.nilCheck rfl | (apply PV.conv; exact rfl; omega; omega) | exact PV.lenSt rfl | exact PV.eqlB rfl rfl | exact PV.neqB rfl rfl | (apply PV.addU8; exact rfl; exact rfl; omega; omega) | (apply PV.subU8; exact rfl; exact rfl; omega; omega) | exact PV.addw rfl rfl | exact PV.subw rfl rfl | exact PV.mulw rfl rfl | (apply PV.remt; exact rfl; exact rfl; omega) | (apply PV.quot; exact rfl; exact rfl; omega) | exact PV.makeFunc rfl rfl | (apply PV.eqlA; exact rfl; exact rfl; (· infer_instance)) | (apply PV.neqA; exact rfl; exact rfl; (· infer_instance)) | (apply PV.cat; exact rfl; exact rfl; (· first | (simp only [ByteArray.size_append, strOfNums_size, List.length_cons, List.length_nil, size_lit] <;> omega) | omega)) | exact PV.eqlS rfl rfl | exact PV.neqS rfl rfl | (apply PV.idxSt; exact rfl; exact rfl; omega) | (apply PV.slSt; exact rfl; exact rfl; exact rfl; omega; omega; omega) | (apply PV.slStTo; exact rfl; exact rfl; omega; omega) | (apply PV.slStFrom; exact rfl; exact rfl; omega; omega) | (apply PV.convU8; exact rfl; omega; omega) | exact PV.eqlP0 rfl rfl | exact PV.neqP0 rfl rfl | exact PV.neqPs rfl rfl | exact PV.mkIface rfl | exact PV.assertT rfl | exact PV.assert1 rfl | exact PV.assertF rfl rfl | (apply PV.and 0; exact rfl; exact rfl; (· decide +kernel)) | (apply PV.and 1; exact rfl; exact rfl; (· decide +kernel)) | (apply PV.and 2; exact rfl; exact rfl; (· decide +kernel))))) | (apply L.v; exact rfl; exact rfl; (· (first | (apply OV.load1; exact rfl; (· (repeat (first | exact List.Mem.head _ | apply List.Mem.tail))); (· (repeat (first | exact Rd.nil | apply Rd.take | apply Rd.skip)))) | (apply OV.loadk; exact rfl; (· (repeat (first | exact List.Mem.head _ | apply List.Mem.tail))); (· (repeat (first | exact Rd.nil | apply Rd.take | apply Rd.skip)))) | (apply OV.load0; exact rfl; (· assumption)) | (apply OV.load0k; exact rfl; rotate_left; (· assumption); exact rfl) | (apply OV.strOf; exact rfl; (· (repeat (first | exact List.Mem.head _ | apply List.Mem.tail))); (· (repeat (first | exact Rd.nil | apply Rd.take | apply Rd.skip))); (· (repeat (first | exact Nums.nil | apply Nums.cons)))) | (apply OV.loadi; exact rfl; (· (repeat (first | exact List.Mem.head _ | apply List.Mem.tail))); (· assumption)) | (apply OV.loadx; exact rfl; (· (repeat (first | exact List.Mem.head _ | apply List.Mem.tail))); rotate_left; (· assumption); exact rfl)))) | (apply L.na; exact rfl; exact rfl; (· (first | exact ON.alloc | (apply ON.bslice; exact rfl; (· (repeat (first | exact Fl.nil | (apply Fl.cons; exact rfl; exact rfl; exact rfl; (· (repeat (first | exact Wr.nil | apply Wr.put | apply Wr.skip)))))))) | exact ON.box rfl | exact ON.box1 rfl rfl | (apply ON.mkSl; exact rfl; exact rfl; omega; omega; omega; omega)))) | (apply L.nsl; exact rfl; exact rfl; (· (first | exact ON.alloc | (apply ON.bslice; exact rfl; (· (repeat (first | exact Fl.nil | (apply Fl.cons; exact rfl; exact rfl; exact rfl; (· (repeat (first | exact Wr.nil | apply Wr.put | apply Wr.skip)))))))) | exact ON.box rfl | exact ON.box1 rfl rfl | (apply ON.mkSl; exact rfl; exact rfl; omega; omega; omega; omega)))) | (apply L.s; exact rfl; exact rfl; (· (first | (apply OS.store1; exact rfl; exact rfl; exact rfl; (· (repeat (first | exact Upd.here | apply Upd.there))); (· (repeat (first | exact Wr.nil | apply Wr.put | apply Wr.skip)))) | (apply OS.storek; exact rfl; exact rfl; exact rfl; exact rfl; (· (repeat (first | exact Upd.here | apply Upd.there))); (· (repeat (first | exact Wr.nil | apply Wr.put | apply Wr.skip))))))) | (refine L.skip rfl rfl ?_) | (refine L.nil ?_)) | (first | (refine C.seq ?_) | (refine C.region ?_) | (refine X.then_normal ?_) | (refine X.then_ret ?_) | (refine X.then_exit ?_) | (refine X.block_normal ?_) | (refine X.block_ret ?_) | (refine X.block_here ?_) | (refine X.block_on rfl ?_) | (refine C.condT rfl ?_) | (refine C.condF rfl ?_) | (refine C.block ?_) | (refine C.skip ?_) | (refine C.exit ?_) | (refine C.ret ?_) | (refine X.then_rounds ?_))); (repeat (first | (first | (apply L.p; exact rfl; exact rfl; (· (first | exact PV.move rfl | exact PV.assign rfl | exact PV.pickT rfl rfl | exact PV.pickF rfl rfl | exact PV.extract rfl rfl | exact PV.fieldAddr rfl | (apply PV.field1; exact rfl; (· (repeat (first | exact Rd.nil | apply Rd.take | apply Rd.skip)))) | (apply PV.fieldk; exact rfl; (· (repeat (first | exact Rd.nil | apply Rd.take | apply Rd.skip)))) | exact PV.not rfl | exact PV.lss rfl rfl | exact PV.leq rfl rfl | exact PV.gtr rfl rfl | exact PV.geq rfl rfl | exact PV.eql rfl rfl | exact PV.neq rfl rfl | (apply PV.add; exact rfl; exact rfl; omega) | (apply PV.sub; exact rfl; exact rfl; omega) | (apply PV.mul; exact rfl; exact rfl; omega) | (apply PV.quo; exact rfl; exact rfl; omega; omega; omega) | (apply PV.rem; exact rfl; exact rfl; omega; omega) | (apply PV.neg; exact rfl; omega; omega) | (apply PV.build; (· (repeat (first | exact Fl.nil | (apply Fl.cons; exact rfl; exact rfl; exact rfl; (· (repeat (first | exact Wr.nil | apply Wr.put | apply Wr.skip)))))))) | (apply PV.idxArr; exact rfl; exact rfl; omega) | (apply PV.idxSl; exact rfl; exact rfl; omega) | exact PV.min rfl | exact PV.max rfl | exact PV.lenSl rfl | exact PV.nilCheck rfl | (apply PV.conv; exact rfl; omega; omega) | exact PV.lenSt rfl | exact PV.eqlB rfl rfl | exact PV.neqB rfl rfl | (apply PV.addU8; exact rfl; exact rfl; omega; omega) | (apply PV.subU8; exact rfl; exact rfl; omega; omega) | exact PV.addw rfl rfl | exact PV.subw rfl rfl | exact PV.mulw rfl rfl | (apply PV.remt; exact rfl; exact rfl; omega) | (apply PV.quot; exact rfl; exact rfl; omega) | exact PV.makeFunc rfl rfl | (apply PV.eqlA; exact rfl; exact rfl; (· infer_instance)) | (apply PV.neqA; exact rfl; exact rfl; (· infer_instance)) | (apply PV.cat; exact rfl; exact rfl; (· first | (simp only [ByteArray.size_append, strOfNums_size, List.length_cons, List.length_nil, size_lit] <;> omega) | omega)) | exact PV.eqlS rfl rfl | exact PV.neqS rfl rfl | (apply PV.idxSt; exact rfl; exact rfl; omega) | (apply PV.slSt; exact rfl; exact rfl; exact rfl; omega; omega; omega) | (apply PV.slStTo; exact rfl; exact rfl; omega; omega) | (apply PV.slStFrom; exact rfl; exact rfl; omega; omega) | (apply PV.convU8; exact rfl; omega; omega) | exact PV.eqlP0 rfl rfl | exact PV.neqP0 rfl rfl | exact PV.neqPs rfl rfl | exact PV.mkIface rfl | exact PV.assertT rfl | exact PV.assert1 rfl | exact PV.assertF rfl rfl | (apply PV.and 0; exact rfl; exact rfl; (· decide +kernel)) | (apply PV.and 1; exact rfl; exact rfl; (· decide +kernel)) | (apply PV.and 2; exact rfl; exact rfl; (· decide +kernel))))) | (apply L.v; exact rfl; exact rfl; (· (first | (apply OV.load1; exact rfl; (· (repeat (first | exact List.Mem.head _ | apply List.Mem.tail))); (· (repeat (first | exact Rd.nil | apply Rd.take | apply Rd.skip)))) | (apply OV.loadk; exact rfl; (· (repeat (first | exact List.Mem.head _ | apply List.Mem.tail))); (· (repeat (first | exact Rd.nil | apply Rd.take | apply Rd.skip)))) | (apply OV.load0; exact rfl; (· assumption)) | (apply OV.load0k; exact rfl; rotate_left; (· assumption); exact rfl) | (apply OV.strOf; exact rfl; (· (repeat (first | exact List.Mem.head _ | apply List.Mem.tail))); (· (repeat (first | exact Rd.nil | apply Rd.take | apply Rd.skip))); (· (repeat (first | exact Nums.nil | apply Nums.cons)))) | (apply OV.loadi; exact rfl; (· (repeat (first | exact List.Mem.head _ | apply List.Mem.tail))); (· assumption)) | (apply OV.loadx; exact rfl; (· (repeat (first | exact List.Mem.head _ | apply List.Mem.tail))); rotate_left; (· assumption); exact rfl)))) | (apply L.na; exact rfl; exact rfl; (· (first | exact ON.alloc | (apply ON.bslice; exact rfl; (· (repeat (first | exact Fl.nil | (apply Fl.cons; exact rfl; exact rfl; exact rfl; (· (repeat (first | exact Wr.nil | apply Wr.put | apply Wr.skip)))))))) | exact ON.box rfl | exact ON.box1 rfl rfl | (apply ON.mkSl; exact rfl; exact rfl; omega; omega; omega; omega)))) | (apply L.nsl; exact rfl; exact rfl; (· (first | exact ON.alloc | (apply ON.bslice; exact rfl; (· (repeat (first | exact Fl.nil | (apply Fl.cons; exact rfl; exact rfl; exact rfl; (· (repeat (first | exact Wr.nil | apply Wr.put | apply Wr.skip)))))))) | exact ON.box rfl | exact ON.box1 rfl rfl | (apply ON.mkSl; exact rfl; exact rfl; omega; omega; omega; omega)))) | (apply L.s; exact rfl; exact rfl; (· (first | (apply OS.store1; exact rfl; exact rfl; exact rfl; (· (repeat (first | exact Upd.here | apply Upd.there))); (· (repeat (first | exact Wr.nil | apply Wr.put | apply Wr.skip)))) | (apply OS.storek; exact rfl; exact rfl; exact rfl; exact rfl; (· (repeat (first | exact Upd.here | apply Upd.there))); (· (repeat (first | exact Wr.nil | apply Wr.put | apply Wr.skip))))))) | (refine L.skip rfl rfl ?_) | (refine L.nil ?_)) | (first | (refine C.seq ?_) | (refine C.region ?_) | (refine X.then_normal ?_) | (refine X.then_ret ?_) | (refine X.then_exit ?_) | (refine X.block_normal ?_) | (refine X.block_ret ?_) | (refine X.block_here ?_) | (refine X.block_on rfl ?_) | (refine C.condT rfl ?_) | (refine C.condF rfl ?_) | (refine C.block ?_) | (refine C.skip ?_) | (refine C.exit ?_) | (refine C.ret ?_) | (refine X.then_rounds ?_)))); exact kk.out) : A := s ⟨k⟩
/-- Straight on, where the order is drawn. -/
theorem gg {A B : Prop} (k : B) (s : Hold B → A := by intro kk; (first | (refine G.pb rfl rfl (PV.leq rfl rfl) (by assumption) ?_) | (refine G.pb rfl rfl (PV.lss rfl rfl) (by assumption) ?_) | (refine G.pb rfl rfl (PV.gtr rfl rfl) (by assumption) ?_) | (refine G.pb rfl rfl (PV.geq rfl rfl) (by assumption) ?_) | (refine G.pb rfl rfl (PV.eql rfl rfl) (by assumption) ?_) | (refine G.pb rfl rfl (PV.neq rfl rfl) (by assumption) ?_) | (apply G.p; exact rfl; exact rfl; (· (first | exact PV.move rfl | exact PV.assign rfl | exact PV.pickT rfl rfl | exact PV.pickF rfl rfl | exact PV.extract rfl rfl | exact PV.fieldAddr rfl | (apply PV.field1; exact rfl; (· (repeat (first | exact Rd.nil | apply Rd.take | apply Rd.skip)))) | (apply PV.fieldk; exact rfl; (· (repeat (first | exact Rd.nil | apply Rd.take | apply Rd.skip)))) | exact PV.not rfl | exact PV.lss rfl rfl | exact PV.leq rfl rfl | exact PV.gtr rfl rfl | exact PV.geq rfl rfl | exact PV.eql rfl rfl | exact PV.neq rfl rfl | (apply PV.add; exact rfl; exact rfl; omega) | (apply PV.sub; exact rfl; exact rfl; omega) | (apply PV.mul; exact rfl; exact rfl; omega) | (apply PV.quo; exact rfl; exact rfl; omega; omega; omega) | (apply PV.rem; exact rfl; exact rfl; omega; omega) | (apply PV.neg; exact rfl; omega; omega) | (apply PV.build; (· (repeat (first | exact Fl.nil | (apply Fl.cons; exact rfl; exact rfl; exact rfl; (· (repeat (first | exact Wr.nil | apply Wr.put | apply Wr.skip)))))))) | (apply PV.idxArr; exact rfl; exact rfl; omega) | (apply PV.idxSl; exact rfl; exact rfl; omega) | exact PV.min rfl | exact PV.max rfl | exact PV.lenSl rfl | exact PV.nilCheck rfl | (apply PV.conv; exact rfl; omega; omega) | exact PV.lenSt rfl | exact PV.eqlB rfl rfl | exact PV.neqB rfl rfl | (apply PV.addU8; exact rfl; exact rfl; omega; omega) | (apply PV.subU8; exact rfl; exact rfl; omega; omega) | exact PV.addw rfl rfl | exact PV.subw rfl rfl | exact PV.mulw rfl rfl | (apply PV.remt; exact rfl; exact rfl; omega) | (apply PV.quot; exact rfl; exact rfl; omega) | exact PV.makeFunc rfl rfl | (apply PV.eqlA; exact rfl; exact rfl; (· infer_instance)) | (apply PV.neqA; exact rfl; exact rfl; (· infer_instance)) | (apply PV.cat; exact rfl; exact rfl; (· first | (simp only [ByteArray.size_append, strOfNums_size, List.length_cons, List.length_nil, size_lit] <;> omega) | omega)) | exact PV.eqlS rfl rfl | exact PV.neqS rfl rfl | (apply PV.idxSt; exact rfl; exact rfl; omega) | (apply PV.slSt; exact rfl; exact rfl; exact rfl; omega; omega; omega) | (apply PV.slStTo; exact rfl; exact rfl; omega; omega) | (apply PV.slStFrom; exact rfl; exact rfl; omega; omega) | (apply PV.convU8; exact rfl; omega; omega) | exact PV.eqlP0 rfl rfl | exact PV.neqP0 rfl rfl | exact PV.neqPs rfl rfl | exact PV.mkIface rfl | exact PV.assertT rfl | exact PV.assert1 rfl | exact PV.assertF rfl rfl | (apply PV.and 0; exact rfl; exact rfl; (· decide +kernel)) | (apply PV.and 1; exact rfl; exact rfl; (· decide +kernel)) | (apply PV.and 2; exact rfl; exact rfl; (· decide +kernel))))) | (apply G.va; exact rfl; exact rfl; (· (first | (apply OV.load1; exact rfl; (· (repeat (first | exact List.Mem.head _ | apply List.Mem.tail))); (· (repeat (first | exact Rd.nil | apply Rd.take | apply Rd.skip)))) | (apply OV.loadk; exact rfl; (· (repeat (first | exact List.Mem.head _ | apply List.Mem.tail))); (· (repeat (first | exact Rd.nil | apply Rd.take | apply Rd.skip)))) | (apply OV.load0; exact rfl; (· assumption)) | (apply OV.load0k; exact rfl; rotate_left; (· assumption); exact rfl) | (apply OV.strOf; exact rfl; (· (repeat (first | exact List.Mem.head _ | apply List.Mem.tail))); (· (repeat (first | exact Rd.nil | apply Rd.take | apply Rd.skip))); (· (repeat (first | exact Nums.nil | apply Nums.cons)))) | (apply OV.loadi; exact rfl; (· (repeat (first | exact List.Mem.head _ | apply List.Mem.tail))); (· assumption)) | (apply OV.loadx; exact rfl; (· (repeat (first | exact List.Mem.head _ | apply List.Mem.tail))); rotate_left; (· assumption); exact rfl)))) | (apply G.na; exact rfl; exact rfl; (· (first | exact ON.alloc | (apply ON.bslice; exact rfl; (· (repeat (first | exact Fl.nil | (apply Fl.cons; exact rfl; exact rfl; exact rfl; (· (repeat (first | exact Wr.nil | apply Wr.put | apply Wr.skip)))))))) | exact ON.box rfl | exact ON.box1 rfl rfl | (apply ON.mkSl; exact rfl; exact rfl; omega; omega; omega; omega)))) | (apply G.nsl; exact rfl; exact rfl; (· (first | exact ON.alloc | (apply ON.bslice; exact rfl; (· (repeat (first | exact Fl.nil | (apply Fl.cons; exact rfl; exact rfl; exact rfl; (· (repeat (first | exact Wr.nil | apply Wr.put | apply Wr.skip)))))))) | exact ON.box rfl | exact ON.box1 rfl rfl | (apply ON.mkSl; exact rfl; exact rfl; omega; omega; omega; omega)))) | (refine G.ps rfl rfl ?_) | (refine G.vs rfl rfl ?_) | (refine G.done ?_)); (repeat (first | (refine G.pb rfl rfl (PV.leq rfl rfl) (by assumption) ?_) | (refine G.pb rfl rfl (PV.lss rfl rfl) (by assumption) ?_) | (refine G.pb rfl rfl (PV.gtr rfl rfl) (by assumption) ?_) | (refine G.pb rfl rfl (PV.geq rfl rfl) (by assumption) ?_) | (refine G.pb rfl rfl (PV.eql rfl rfl) (by assumption) ?_) | (refine G.pb rfl rfl (PV.neq rfl rfl) (by assumption) ?_) | (apply G.p; exact rfl; exact rfl; (· (first | exact PV.move rfl | exact PV.assign rfl | exact PV.pickT rfl rfl | exact PV.pickF rfl rfl | exact PV.extract rfl rfl | exact PV.fieldAddr rfl | (apply PV.field1; exact rfl; (· (repeat (first | exact Rd.nil | apply Rd.take | apply Rd.skip)))) | (apply PV.fieldk; exact rfl; (· (repeat (first | exact Rd.nil | apply Rd.take | apply Rd.skip)))) | exact PV.not rfl | exact PV.lss rfl rfl | exact PV.leq rfl rfl | exact PV.gtr rfl rfl | exact PV.geq rfl rfl | exact PV.eql rfl rfl | exact PV.neq rfl rfl | (apply PV.add; exact rfl; exact rfl; omega) | (apply PV.sub; exact rfl; exact rfl; omega) | (apply PV.mul; exact rfl; exact rfl; omega) | (apply PV.quo; exact rfl; exact rfl; omega; omega; omega) | (apply PV.rem; exact rfl; exact rfl; omega; omega) | (apply PV.neg; exact rfl; omega; omega) | (apply PV.build; (· (repeat (first | exact Fl.nil | (apply Fl.cons; exact rfl; exact rfl; exact rfl; (· (repeat (first | exact Wr.nil | apply Wr.put | apply Wr.skip)))))))) | (apply PV.idxArr; exact rfl; exact rfl; omega) | (apply PV.idxSl; exact rfl; exact rfl; omega) | exact PV.min rfl | exact PV.max rfl | exact PV.lenSl rfl | exact PV.nilCheck rfl | (apply PV.conv; exact rfl; omega; omega) | exact PV.lenSt rfl | exact PV.eqlB rfl rfl | exact PV.neqB rfl rfl | (apply PV.addU8; exact rfl; exact rfl; omega; omega) | (apply PV.subU8; exact rfl; exact rfl; omega; omega) | exact PV.addw rfl rfl | exact PV.subw rfl rfl | exact PV.mulw rfl rfl | (apply PV.remt; exact rfl; exact rfl; omega) | (apply PV.quot; exact rfl; exact rfl; omega) | exact PV.makeFunc rfl rfl | (apply PV.eqlA; exact rfl; exact rfl; (· infer_instance)) | (apply PV.neqA; exact rfl; exact rfl; (· infer_instance)) | (apply PV.cat; exact rfl; exact rfl; (· first | (simp only [ByteArray.size_append, strOfNums_size, List.length_cons, List.length_nil, size_lit] <;> omega) | omega)) | exact PV.eqlS rfl rfl | exact PV.neqS rfl rfl | (apply PV.idxSt; exact rfl; exact rfl; omega) | (apply PV.slSt; exact rfl; exact rfl; exact rfl; omega; omega; omega) | (apply PV.slStTo; exact rfl; exact rfl; omega; omega) | (apply PV.slStFrom; exact rfl; exact rfl; omega; omega) | (apply PV.convU8; exact rfl; omega; omega) | exact PV.eqlP0 rfl rfl | exact PV.neqP0 rfl rfl | exact PV.neqPs rfl rfl | exact PV.mkIface rfl | exact PV.assertT rfl | exact PV.assert1 rfl | exact PV.assertF rfl rfl | (apply PV.and 0; exact rfl; exact rfl; (· decide +kernel)) | (apply PV.and 1; exact rfl; exact rfl; (· decide +kernel)) | (apply PV.and 2; exact rfl; exact rfl; (· decide +kernel))))) | (apply G.va; exact rfl; exact rfl; (· (first | (apply OV.load1; exact rfl; (· (repeat (first | exact List.Mem.head _ | apply List.Mem.tail))); (· (repeat (first | exact Rd.nil | apply Rd.take | apply Rd.skip)))) | (apply OV.loadk; exact rfl; (· (repeat (first | exact List.Mem.head _ | apply List.Mem.tail))); (· (repeat (first | exact Rd.nil | apply Rd.take | apply Rd.skip)))) | (apply OV.load0; exact rfl; (· assumption)) | (apply OV.load0k; exact rfl; rotate_left; (· assumption); exact rfl) | (apply OV.strOf; exact rfl; (· (repeat (first | exact List.Mem.head _ | apply List.Mem.tail))); (· (repeat (first | exact Rd.nil | apply Rd.take | apply Rd.skip))); (· (repeat (first | exact Nums.nil | apply Nums.cons)))) | (apply OV.loadi; exact rfl; (· (repeat (first | exact List.Mem.head _ | apply List.Mem.tail))); (· assumption)) | (apply OV.loadx; exact rfl; (· (repeat (first | exact List.Mem.head _ | apply List.Mem.tail))); rotate_left; (· assumption); exact rfl)))) | (apply G.na; exact rfl; exact rfl; (· (first | exact ON.alloc | (apply ON.bslice; exact rfl; (· (repeat (first | exact Fl.nil | (apply Fl.cons; exact rfl; exact rfl; exact rfl; (· (repeat (first | exact Wr.nil | apply Wr.put | apply Wr.skip)))))))) | exact ON.box rfl | exact ON.box1 rfl rfl | (apply ON.mkSl; exact rfl; exact rfl; omega; omega; omega; omega)))) | (apply G.nsl; exact rfl; exact rfl; (· (first | exact ON.alloc | (apply ON.bslice; exact rfl; (· (repeat (first | exact Fl.nil | (apply Fl.cons; exact rfl; exact rfl; exact rfl; (· (repeat (first | exact Wr.nil | apply Wr.put | apply Wr.skip)))))))) | exact ON.box rfl | exact ON.box1 rfl rfl | (apply ON.mkSl; exact rfl; exact rfl; omega; omega; omega; omega)))) | (refine G.ps rfl rfl ?_) | (refine G.vs rfl rfl ?_) | (refine G.done ?_))); exact kk.out) : A := s ⟨k⟩
/-- Both ways. -/
theorem br {A B C : Prop} (k1 : B) (k2 : C) (s : Hold B → Hold C → A := by
    intro kk1 kk2
    (first | ((fail_if_success (refine L.probe rfl ?_)); refine L.gsplit rfl (fun hq => ?_) (fun hq => ?_)) | (refine C.cond rfl (fun hq => ?_) (fun hq => ?_)))
    · (first | (have kt : Hold True := kk1; first | (simp only [decide_eq_true_eq, decide_eq_false_iff_not, Bool.not_eq_true', Bool.not_eq_false', Bool.not_true, Bool.not_false, Int.not_le, Int.not_lt, ne_eq, and_self, not_true_eq_false] at hq; done) | ((try simp only [decide_eq_true_eq, decide_eq_false_iff_not, Bool.not_eq_true', Bool.not_eq_false', Bool.not_true, Bool.not_false, Int.not_le, Int.not_lt, ne_eq] at hq); exfalso; first | exact hq trivial | exact absurd (hq.symm.trans (show _ = false by assumption)) (by decide) | exact absurd (hq.symm.trans (show _ = true by assumption)) (by decide) | omega)) | ((try simp only [decide_eq_true_eq, decide_eq_false_iff_not, Bool.not_eq_true', Bool.not_eq_false', Bool.not_true, Bool.not_false, Int.not_le, Int.not_lt, ne_eq] at hq); revert hq; exact kk1.out))
    · (first | (have kt : Hold True := kk2; first | (simp only [decide_eq_true_eq, decide_eq_false_iff_not, Bool.not_eq_true', Bool.not_eq_false', Bool.not_true, Bool.not_false, Int.not_le, Int.not_lt, ne_eq, and_self, not_true_eq_false] at hq; done) | ((try simp only [decide_eq_true_eq, decide_eq_false_iff_not, Bool.not_eq_true', Bool.not_eq_false', Bool.not_true, Bool.not_false, Int.not_le, Int.not_lt, ne_eq] at hq); exfalso; first | exact hq trivial | exact absurd (hq.symm.trans (show _ = false by assumption)) (by decide) | exact absurd (hq.symm.trans (show _ = true by assumption)) (by decide) | omega)) | ((try simp only [decide_eq_true_eq, decide_eq_false_iff_not, Bool.not_eq_true', Bool.not_eq_false', Bool.not_true, Bool.not_false, Int.not_le, Int.not_lt, ne_eq] at hq); revert hq; exact kk2.out))) : A := s ⟨k1⟩ ⟨k2⟩

variable {P : Program} {e : Env} {w0 : World} {hs hs' : SH} {d : Option Tmp} {ty : TypeId} {pos : String} {af : Array Edge} {g : Option (Nat × Bool)}
variable {n m : Nat} {ds : List Deferred} {ops : List Oper} {Q : Exit → Act → World → Prop} {l : List Oper} {Rs : List Sp} {K : Env → SH → Prop} {i : Nat} {acc : List (Nat × SH)} {own : SH} {Z : Lend}

/-! ### Calls -/
/-- A contract whose value is known otherwise. -/
theorem rv {f : FuncId} {args : Array Value} {w : World} {v v' : Value} (hv : v = v') (h : Calls P f args w fun e w' => e = .returned v ∧ Below w.heap.size w w') : Calls P f args w fun e w' => e = .returned v' ∧ Below w.heap.size w w' := hv ▸ h
theorem rvb {f : FuncId} {args : Array Value} {w : World} {v v' : Bool} (hv : v = v') (h : Calls P f args w fun e w' => e = .returned (.bool v) ∧ Below w.heap.size w w') : Calls P f args w fun e w' => e = .returned (.bool v') ∧ Below w.heap.size w w' := hv ▸ h
theorem rvi {f : FuncId} {args : Array Value} {w : World} {k : IntKind} {v v' : Int} (hv : v = v') (h : Calls P f args w fun e w' => e = .returned (.int k v) ∧ Below w.heap.size w w') : Calls P f args w fun e w' => e = .returned (.int k v') ∧ Below w.heap.size w w' := hv ▸ h
theorem L.call {f : FuncId} {xs : List Operand} {ts : Array TypeId} {vs : List Value} {v : Value} [j : Ent P f] (hw : wantE ops e ⟨d, .call ⟨.value (.func f), xs.toArray, ts⟩, ty, pos, af, g⟩ = some true := by exact rfl) (hd : dstOk n d = true := by exact rfl) (hv : evs e xs = some vs := by exact rfl)
    (h : ∀ w, St w0 hs w → Calls P f vs.toArray w fun e w' => e = .returned v ∧ Below w.heap.size w w') (k : L P n ds w0 ops Q l (consE d v e) hs) : L P n ds w0 ops Q (⟨d, .call ⟨.value (.func f), xs.toArray, ts⟩, ty, pos, af, g⟩ :: l) e hs :=
  L.v hw hd (OV.call hv h) k
theorem G.call {f : FuncId} {xs : List Operand} {ts : Array TypeId} {vs : List Value} {v : Value} [j : Ent P f] (hw : wantE ops e ⟨d, .call ⟨.value (.func f), xs.toArray, ts⟩, ty, pos, af, g⟩ = some true := by exact rfl) (hd : dstOk n d = true := by exact rfl) (hv : evs e xs = some vs := by exact rfl)
    (h : ∀ w, St w0 hs w → Calls P f vs.toArray w fun e w' => e = .returned v ∧ Below w.heap.size w w') (k : G P n w0 Z ops hs K (i + 1) l Rs (consE d v e) acc own) :
    G P n w0 Z ops hs K i (⟨d, .call ⟨.value (.func f), xs.toArray, ts⟩, ty, pos, af, g⟩ :: l) (some (Eqv v) :: Rs) e acc own :=
  G.va hw hd (OV.call hv h) k
theorem L.callx {f : FuncId} {x : Operand} {xs : List Operand} {ts : Array TypeId} {fi ca vs : List Value} {v : Value} (hw : wantE ops e ⟨d, .call ⟨.value x, xs.toArray, ts⟩, ty, pos, af, g⟩ = some true := by exact rfl) (hd : dstOk n d = true := by exact rfl)
    (hx : ev e x = some (.func (.func f) fi.toArray ca.toArray) := by exact rfl) (hv : evs e xs = some vs := by exact rfl) (j : Ent P f := by infer_instance)
    (h : ∀ w, St w0 hs w → Calls P f (fi ++ vs ++ ca).toArray w fun e w' => e = .returned v ∧ Below w.heap.size w w') (k : L P n ds w0 ops Q l (consE d v e) hs) : L P n ds w0 ops Q (⟨d, .call ⟨.value x, xs.toArray, ts⟩, ty, pos, af, g⟩ :: l) e hs :=
  L.v hw hd (OV.callx hx hv j h) k
theorem G.callx {f : FuncId} {x : Operand} {xs : List Operand} {ts : Array TypeId} {fi ca vs : List Value} {v : Value} (hw : wantE ops e ⟨d, .call ⟨.value x, xs.toArray, ts⟩, ty, pos, af, g⟩ = some true := by exact rfl) (hd : dstOk n d = true := by exact rfl)
    (hx : ev e x = some (.func (.func f) fi.toArray ca.toArray) := by exact rfl) (hv : evs e xs = some vs := by exact rfl) (j : Ent P f := by infer_instance)
    (h : ∀ w, St w0 hs w → Calls P f (fi ++ vs ++ ca).toArray w fun e w' => e = .returned v ∧ Below w.heap.size w w') (k : G P n w0 Z ops hs K (i + 1) l Rs (consE d v e) acc own) :
    G P n w0 Z ops hs K i (⟨d, .call ⟨.value x, xs.toArray, ts⟩, ty, pos, af, g⟩ :: l) (some (Eqv v) :: Rs) e acc own :=
  G.va hw hd (OV.callx hx hv j h) k
/-- The same, where it looks at memory that the region itself has made. -/
theorem G.callxd {f : FuncId} {x : Operand} {xs : List Operand} {ts : Array TypeId} {fi ca vs : List Value} {v : Value} {X : SH} (hX : sel ops i acc = X := by kernel_rfl) (hw : wantE ops e ⟨d, .call ⟨.value x, xs.toArray, ts⟩, ty, pos, af, g⟩ = some true := by exact rfl) (hd : dstOk n d = true := by exact rfl)
    (hx : ev e x = some (.func (.func f) fi.toArray ca.toArray) := by exact rfl) (hv : evs e xs = some vs := by exact rfl) (j : Ent P f := by infer_instance)
    (h : ∀ w, St w0 (X ++ hs) w → Calls P f (fi ++ vs ++ ca).toArray w fun e w' => e = .returned v ∧ Below w.heap.size w w') (k : G P n w0 Z ops hs K (i + 1) l Rs (consE d v e) acc own) :
    G P n w0 Z ops hs K i (⟨d, .call ⟨.value x, xs.toArray, ts⟩, ty, pos, af, g⟩ :: l) (some (Eqv v) :: Rs) e acc own :=
  G.vd hX hw hd (OV.callx hx hv j h) k
/-- A call that hands memory back. -/
theorem L.ncall {f : FuncId} {xs : List Operand} {ts : Array TypeId} {vs : List Value} {R : Value → SH → Prop} [j : Ent P f] (hw : wantE ops e ⟨d, .call ⟨.value (.func f), xs.toArray, ts⟩, ty, pos, af, g⟩ = some true := by exact rfl) (hd : dstOk n d = true := by exact rfl) (hv : evs e xs = some vs := by exact rfl)
    (h : ∀ w, St w0 hs w → Calls P f vs.toArray w (Ret w R)) (k : ∀ v H, R v H → L P n ds w0 ops Q l (consE d v e) (H ++ hs)) : L P n ds w0 ops Q (⟨d, .call ⟨.value (.func f), xs.toArray, ts⟩, ty, pos, af, g⟩ :: l) e hs :=
  L.nw hw hd (ON.call hv h) k
theorem G.ncall {f : FuncId} {xs : List Operand} {ts : Array TypeId} {vs : List Value} {R : Value → SH → Prop} [j : Ent P f] (hw : wantE ops e ⟨d, .call ⟨.value (.func f), xs.toArray, ts⟩, ty, pos, af, g⟩ = some true := by exact rfl) (hd : dstOk n d = true := by exact rfl) (hv : evs e xs = some vs := by exact rfl)
    (h : ∀ w, St w0 hs w → Calls P f vs.toArray w (Ret w R)) (k : ∀ v H, R v H → G P n w0 Z ops hs K (i + 1) l Rs (consE d v e) (consA i H acc) (H ++ own)) : G P n w0 Z ops hs K i (⟨d, .call ⟨.value (.func f), xs.toArray, ts⟩, ty, pos, af, g⟩ :: l) (some R :: Rs) e acc own :=
  G.nw hw hd (ON.call hv h) k
/-- A call that hands a new slice back. -/
theorem L.slcall {f : FuncId} {xs : List Operand} {ts : Array TypeId} {vs : List Value} {len c : Nat} {B : Blk} [j : Ent P f] (hw : wantE ops e ⟨d, .call ⟨.value (.func f), xs.toArray, ts⟩, ty, pos, af, g⟩ = some true := by exact rfl) (hd : dstOk n d = true := by exact rfl) (hv : evs e xs = some vs := by exact rfl)
    (h : ∀ w, St w0 hs w → Calls P f vs.toArray w (Ret w (NewSl len c B))) (k : ∀ b : Nat, L P n ds w0 ops Q l (consE d (.slice (some ⟨b, 0, none⟩) len c) e) ((b, B) :: hs)) : L P n ds w0 ops Q (⟨d, .call ⟨.value (.func f), xs.toArray, ts⟩, ty, pos, af, g⟩ :: l) e hs :=
  L.nsl hw hd (ON.call hv h) k
/-- A call of whose value something is told. -/
theorem L.vcall {f : FuncId} {xs : List Operand} {ts : Array TypeId} {vs : List Value} {R : Value → Prop} [j : Ent P f] (hw : wantE ops e ⟨d, .call ⟨.value (.func f), xs.toArray, ts⟩, ty, pos, af, g⟩ = some true := by exact rfl) (hd : dstOk n d = true := by exact rfl) (hv : evs e xs = some vs := by exact rfl)
    (h : ∀ w, St w0 hs w → Calls P f vs.toArray w (RetV w R)) (k : ∀ v, R v → L P n ds w0 ops Q l (consE d v e) hs) : L P n ds w0 ops Q (⟨d, .call ⟨.value (.func f), xs.toArray, ts⟩, ty, pos, af, g⟩ :: l) e hs :=
  L.nv hw hd (ON.callv hv h) k
theorem G.vcall {f : FuncId} {xs : List Operand} {ts : Array TypeId} {vs : List Value} {R : Value → Prop} [j : Ent P f] (hw : wantE ops e ⟨d, .call ⟨.value (.func f), xs.toArray, ts⟩, ty, pos, af, g⟩ = some true := by exact rfl) (hd : dstOk n d = true := by exact rfl) (hv : evs e xs = some vs := by exact rfl)
    (h : ∀ w, St w0 hs w → Calls P f vs.toArray w (RetV w R)) (k : ∀ v, R v → G P n w0 Z ops hs K (i + 1) l Rs (consE d v e) acc own) : G P n w0 Z ops hs K i (⟨d, .call ⟨.value (.func f), xs.toArray, ts⟩, ty, pos, af, g⟩ :: l) (some (JustV R) :: Rs) e acc own :=
  G.nv hw hd (ON.callv hv h) k
/-- A call that a block is lent to. -/
theorem L.lcall {r : Nat} {bs : Int → Blk} {c : Nat} {p : Int} {F : SH} {f : FuncId} {xs : List Operand} {ts : Array TypeId} {vs : List Value} {R : Value → Prop} [j : Ent P f]
    (hw : wantE ops e ⟨d, .call ⟨.value (.func f), xs.toArray, ts⟩, ty, pos, af, g⟩ = some true := by exact rfl) (hd : dstOk n d = true := by exact rfl) (hv : evs e xs = some vs := by exact rfl) (hp : Pull (r, bs p) hs F := by (repeat (first | exact Pull.here | apply Pull.there)))
    (h : ∀ w, St w0 ((r, bs p) :: F) w → Calls P f vs.toArray w (LentV w0 r bs p c F R))
    (k : ∀ v p', R v → p ≤ p' → p' ≤ p + c → L P n ds w0 ops Q l (consE d v e) ((r, bs p') :: F)) : L P n ds w0 ops Q (⟨d, .call ⟨.value (.func f), xs.toArray, ts⟩, ty, pos, af, g⟩ :: l) e hs :=
  L.lv hw hd hv hp h k
theorem G.lcall {r : Nat} {bs : Int → Blk} {c cm : Nat} {lo hi : Int} {f : FuncId} {xs : List Operand} {ts : Array TypeId} {vs : List Value} {R : Value → Prop} [j : Ent P f]
    (hw : wantE ops e ⟨d, .call ⟨.value (.func f), xs.toArray, ts⟩, ty, pos, af, g⟩ = some true := by exact rfl) (hd : dstOk n d = true := by exact rfl) (hv : evs e xs = some vs := by exact rfl)
    (h : ∀ p F w, lo ≤ p → p + cm ≤ hi → St w0 ((r, bs p) :: F) w → Calls P f vs.toArray w (LentV w0 r bs p c F R)) (hc : Nat.ble c cm = true := by exact rfl)
    (k : ∀ v, R v → G P n w0 ⟨fun p => [(r, bs p)], fun _ => cm, lo, hi⟩ ops hs K (i + 1) l Rs (consE d v e) acc own) :
    G P n w0 ⟨fun p => [(r, bs p)], fun _ => cm, lo, hi⟩ ops hs K i (⟨d, .call ⟨.value (.func f), xs.toArray, ts⟩, ty, pos, af, g⟩ :: l) (some (JustV R) :: Rs) e acc own :=
  G.lv hw hd (OP.callv hv fun p F w h1 h2 hst => (h p F w h1 h2 hst).mono (LentV.up (Nat.le_of_ble_eq_true hc))) k

/-! ### Loops, regions -/
theorem C.loopw {Y : Type} (E : Y → Env) (H : Y → SH) (Φ : Y → Prop) (μ : Y → Nat) (y : Y) {c : Code} (h0 : Φ y)
    (round : ∀ y, Φ y → C P n ds w0 (Exit.then (fun a w => ∃ y', Φ y' ∧ μ y' < μ y ∧ At n ds (E y') a ∧ St w0 (H y') w) Q) c (E y) (H y)) (h1 : Sub (E y) e := by (repeat (first | exact Sub.nil | (apply Sub.cons; exact rfl; (· first | with_reducible rfl | exact congrArg (Value.int IntKind.i64) (by omega) | rfl))))) (h2 : SubH (H y) hs := by (repeat (first | exact SubH.nil | (apply SubH.cons; (· first | with_reducible rfl | (simp only [List.cons.injEq, Value.int.injEq, and_true, true_and] <;> omega) | rfl)) | apply SubH.skip | exact SubH.refl))) : C P n ds w0 Q (.loop c) e hs :=
  C.loop E H Φ μ y h0 h1 h2 round
theorem X.roundw {Y : Type} {E : Y → Env} {H : Y → SH} {Φ : Y → Prop} {μ : Y → Nat} {m : Nat} (y' : Y) (h1 : Φ y') (h2 : μ y' < m) (h3 : Sub (E y') e := by (repeat (first | exact Sub.nil | (apply Sub.cons; exact rfl; (· first | with_reducible rfl | exact congrArg (Value.int IntKind.i64) (by omega) | rfl))))) (h4 : SubH (H y') hs := by (repeat (first | exact SubH.nil | (apply SubH.cons; (· first | with_reducible rfl | (simp only [List.cons.injEq, Value.int.injEq, and_true, true_and] <;> omega) | rfl)) | apply SubH.skip | exact SubH.refl))) :
    X n ds w0 (Exit.then (fun a w => ∃ y', Φ y' ∧ μ y' < m ∧ At n ds (E y') a ∧ St w0 (H y') w) Q) .normal e hs := X.round y' h1 h2 h3 h4
/-- The same, where the list of slots tells which round is the next. -/
theorem X.rounda {Y : Type} {E : Y → Env} {H : Y → SH} {Φ : Y → Prop} {μ : Y → Nat} {m : Nat} {y' : Y} (h1 : Φ y') (h2 : μ y' < m) (h3 : Sub (E y') e := by (repeat (first | exact Sub.nil | (apply Sub.cons; exact rfl; (· first | with_reducible rfl | exact congrArg (Value.int IntKind.i64) (by omega) | rfl))))) (h4 : SubH (H y') hs := by (repeat (first | exact SubH.nil | (apply SubH.cons; (· first | with_reducible rfl | (simp only [List.cons.injEq, Value.int.injEq, and_true, true_and] <;> omega) | rfl)) | apply SubH.skip | exact SubH.refl))) :
    X n ds w0 (Exit.then (fun a w => ∃ y', Φ y' ∧ μ y' < m ∧ At n ds (E y') a ∧ St w0 (H y') w) Q) .normal e hs := X.round y' h1 h2 h3 h4
theorem C.draww {id : Nat} {e0 : Env} (m : Nat) (Rs : List Sp) (hm : P.follows .mixedOrders = true := by kernel_rfl) (hc : chk ops m (Rs.map isPure) = true := by kernel_rfl) (hQ : ∀ c a a' w, a'.defers = a.defers → Q (.panic c) a w → Q (.panic c) a' w := by exact fun _ _ _ _ he h => ⟨he.trans h.1, h.2⟩)
    (h' : G P n w0 ⟨fun _ => [], fun _ => 0, 0, 0⟩ ops hs (fun e' hs' => L P n ds w0 ops Q (ops.drop m) e' hs') 0 (ops.take m) Rs e0 [] hs) : C P n ds w0 Q (.region id ops.toArray true) e0 hs := C.draw m Rs hm hc hQ h'
theorem C.drawlw {id : Nat} {e0 : Env} {r : Nat} {p0 : Int} {F : SH} (bs : Int → Blk) (c T : Nat) (m : Nat) (Rs : List Sp) (hm : P.follows .mixedOrders = true := by kernel_rfl) (hc : chk ops m (Rs.map isPure) = true := by kernel_rfl) (hQ : ∀ c a a' w, a'.defers = a.defers → Q (.panic c) a w → Q (.panic c) a' w := by exact fun _ _ _ _ he h => ⟨he.trans h.1, h.2⟩)
    (hT : Nat.ble (c * ops.length) T = true := by kernel_rfl) (hp : Pull (r, bs p0) hs F := by (repeat (first | exact Pull.here | apply Pull.there)))
    (h' : G P n w0 ⟨fun p => [(r, bs p)], fun _ => c, p0, p0 + T⟩ ops F (fun e' own => ∀ p, p0 ≤ p → p ≤ p0 + T → L P n ds w0 ops Q (ops.drop m) e' ((r, bs p) :: own)) 0 (ops.take m) Rs e0 [] F) : C P n ds w0 Q (.region id ops.toArray true) e0 hs :=
  C.drawl m Rs hm hc hQ bs c T hT hp h'
theorem C.drawsw {id : Nat} {e0 : Env} {F : SH} (ix b : Nat) (o : Blk) (m : Nat) (Rs : List Sp) (hm : P.follows .mixedOrders = true := by kernel_rfl) (hc : chk ops m (Rs.map isPure) = true := by kernel_rfl) (hQ : ∀ c a a' w, a'.defers = a.defers → Q (.panic c) a w → Q (.panic c) a' w := by exact fun _ _ _ _ he h => ⟨he.trans h.1, h.2⟩)
    (hp : Pull (b, o) hs F := by (repeat (first | exact Pull.here | apply Pull.there))) (h' : G P n w0 ⟨preS b o, cS ix, 0, 1⟩ ops F (fun e' hs' => L P n ds w0 ops Q (ops.drop m) e' hs') 0 (ops.take m) Rs e0 [] F) : C P n ds w0 Q (.region id ops.toArray true) e0 hs :=
  C.draws ix b o m Rs hm hc hQ hp h'

/-! ### Ends -/
theorem ret {fn : Func} {rs : List ResultVar} {vs : List Value} {v : Value} (hv : tupleOf vs = v) (hrs : fn.results = rs.toArray := by exact rfl) (h : RVs P n [] w0 e hs rs vs := by (repeat (first | exact RVs.nil | (apply RVs.cons; (· first | exact RV.tmp rfl | (apply RV.cellk; exact rfl; (· (repeat (first | exact List.Mem.head _ | apply List.Mem.tail))); (· (repeat (first | exact Rd.nil | apply Rd.take | apply Rd.skip)))) | (apply RV.cell1; exact rfl; (· (repeat (first | exact List.Mem.head _ | apply List.Mem.tail))); (· (repeat (first | exact Rd.nil | apply Rd.take | apply Rd.skip))))))))) : X n [] w0 (bodyPost P fn fun e w' => e = .returned v ∧ Below w0.heap.size w0 w') .ret e hs := X.retv hrs h hv
theorem retl {fn : Func} {rs : List ResultVar} {vs : List Value} {r : Nat} {bs : Int → Blk} {p p' : Int} {c : Nat} {F : SH} {R : Value → Prop} (hR : R (tupleOf vs)) (hrs : fn.results = rs.toArray := by exact rfl) (h : RVs P n [] w0 e hs rs vs := by (repeat (first | exact RVs.nil | (apply RVs.cons; (· first | exact RV.tmp rfl | (apply RV.cellk; exact rfl; (· (repeat (first | exact List.Mem.head _ | apply List.Mem.tail))); (· (repeat (first | exact Rd.nil | apply Rd.take | apply Rd.skip)))) | (apply RV.cell1; exact rfl; (· (repeat (first | exact List.Mem.head _ | apply List.Mem.tail))); (· (repeat (first | exact Rd.nil | apply Rd.take | apply Rd.skip)))))))))
    (hs' : ((r, bs p') :: F).Sublist hs := by (repeat (first | exact List.Sublist.refl _ | apply List.Sublist.cons_cons | apply List.Sublist.cons))) (h1 : p ≤ p' := by omega) (h2 : p' ≤ p + c := by omega) :
    X n [] w0 (bodyPost P fn (LentV w0 r bs p c F R)) .ret e hs := X.retlv hrs h hs' h1 h2 hR
theorem retsl {fn : Func} {rs : List ResultVar} {b len c : Nat} {B : Blk} (hrs : fn.results = rs.toArray := by exact rfl) (h : RVs P n [] w0 e hs rs [.slice (some ⟨b, 0, none⟩) len c] := by (repeat (first | exact RVs.nil | (apply RVs.cons; (· first | exact RV.tmp rfl | (apply RV.cellk; exact rfl; (· (repeat (first | exact List.Mem.head _ | apply List.Mem.tail))); (· (repeat (first | exact Rd.nil | apply Rd.take | apply Rd.skip)))) | (apply RV.cell1; exact rfl; (· (repeat (first | exact List.Mem.head _ | apply List.Mem.tail))); (· (repeat (first | exact Rd.nil | apply Rd.take | apply Rd.skip))))))))) (hm : (b, B) ∈ hs := by (repeat (first | exact List.Mem.head _ | apply List.Mem.tail))) : X n [] w0 (bodyPost P fn (Ret w0 (NewSl len c B))) .ret e hs :=
  X.body rfl hrs h fun w hst => ⟨_, [(b, B)], rfl, ⟨b, rfl, rfl⟩, hst.newAll.sub (List.singleton_sublist.2 hm)⟩
theorem retw {fn : Func} {rs : List ResultVar} {vs : List Value} {R : Value → Prop} (hR : R (tupleOf vs)) (hrs : fn.results = rs.toArray := by exact rfl) (h : RVs P n [] w0 e hs rs vs := by (repeat (first | exact RVs.nil | (apply RVs.cons; (· first | exact RV.tmp rfl | (apply RV.cellk; exact rfl; (· (repeat (first | exact List.Mem.head _ | apply List.Mem.tail))); (· (repeat (first | exact Rd.nil | apply Rd.take | apply Rd.skip)))) | (apply RV.cell1; exact rfl; (· (repeat (first | exact List.Mem.head _ | apply List.Mem.tail))); (· (repeat (first | exact Rd.nil | apply Rd.take | apply Rd.skip))))))))) : X n [] w0 (bodyPost P fn (RetV w0 R)) .ret e hs := X.retw hrs h hR

end D
end Go.Proofs.YtboglbdhibcacaaGreatDoor
