/- The engine, part 5: a region whose order is drawn: the proof that one walk stands for all orders. -/
import Derived.Test.YtpodhahlbdlgeaaDoorEd
namespace Go.Proofs.YtpodhahlbdlgeaaDoor
set_option linter.unusedVariables false
set_option linter.unusedSimpArgs false
namespace D
open Go.RowKit

section
variable (P : Program) (ops : List Oper) (w0 : World) (Rs : List Sp) (a0 : Act) (c : Nat → Value × SH)
def pval (a : Act) (o : Oper) : Value :=
  if Region.wanted o (yielded ops.toArray a.tmps) then (match (execOp a.eval o).run P w0 with | .ok (.value v) _ => v | _ => undef) else undef
def vl (a : Act) (o : Oper) (i : Nat) : Value := match Rs[i]? with
  | some (some _) => (c i).1
  | _ => pval P ops w0 a o
def acts : Nat → Act
  | 0 => a0
  | k + 1 => match ops[k]? with
    | some o => (acts k).put o.dst (vl P ops w0 Rs c (acts k) o k)
    | none => acts k
def accOf : Nat → List (Nat × SH)
  | 0 => []
  | k + 1 => match Rs[k]? with
    | some (some _) => consA k (c k).2 (accOf k)
    | _ => accOf k
end

variable {P : Program} {n m : Nat} {ds : List Deferred} {w0 : World} {ops : List Oper} {Q : Exit → Act → World → Prop} {hs : SH} {Rs : List Sp} {a0 : Act} {c : Nat → Value × SH} {K : Env → SH → Prop} {Z : Lend} {p : Int}

theorem acts_succ {k : Nat} {o : Oper} (h : ops[k]? = some o) : acts P ops w0 Rs a0 c (k + 1) = (acts P ops w0 Rs a0 c k).put o.dst (vl P ops w0 Rs c (acts P ops w0 Rs a0 c k) o k) := by
  simp only [acts, h]
theorem put_size (a : Act) (d : Option Tmp) (v : Value) : (a.put d v).tmps.size = a.tmps.size := by cases d <;> simp [Act.put]
theorem put_defers (a : Act) (d : Option Tmp) (v : Value) : (a.put d v).defers = a.defers := by cases d <;> rfl
theorem put_ne (a : Act) (d : Option Tmp) (v : Value) (t : Nat) (h : d ≠ some t) : (a.put d v).tmps[t]? = a.tmps[t]? := by
  cases d with
  | none => rfl
  | some d => simp only [Act.put, Array.getElem?_setIfInBounds_ne (fun e => h (by rw [e]) : d ≠ t)]
theorem put_eq (a : Act) (d : Nat) (v : Value) (h : d < a.tmps.size) : (a.put (some d) v).tmps[d]? = some v := by simp [Act.put, h]
theorem acts_size : ∀ k, (acts P ops w0 Rs a0 c k).tmps.size = a0.tmps.size
  | 0 => rfl
  | k + 1 => by
    unfold acts
    split
    · rw [put_size, acts_size k]
    · exact acts_size k
theorem acts_defers : ∀ k, (acts P ops w0 Rs a0 c k).defers = a0.defers
  | 0 => rfl
  | k + 1 => by
    unfold acts
    split
    · rw [put_defers, acts_defers k]
    · exact acts_defers k
theorem acts_keep {t k : Nat} : ∀ k', k ≤ k' → (∀ j, k ≤ j → j < k' → ∀ o, ops[j]? = some o → o.dst ≠ some t) → (acts P ops w0 Rs a0 c k').tmps[t]? = (acts P ops w0 Rs a0 c k).tmps[t]?
  | 0, h, _ => by obtain rfl : k = 0 := by omega
                  rfl
  | k' + 1, h, hn => by
    by_cases hk : k = k' + 1
    · subst hk; rfl
    · rw [← acts_keep k' (by omega) (fun j h1 h2 o ho => hn j h1 (by omega) o ho)]
      cases ho : ops[k']? with
      | none => simp only [acts, ho]
      | some o => rw [acts_succ ho, put_ne _ _ _ _ (hn k' (by omega) (by omega) o ho)]
/-- What a prefix operation's slot holds, from the operation on. -/
theorem acts_val (hc : Chk ops m (Rs.map isPure)) {k k' : Nat} {o : Oper} {t : Nat} (hk : k < m) (ho : ops[k]? = some o) (hd : o.dst = some t) (h1 : k < k') :
    (acts P ops w0 Rs a0 c k').tmps[t]? = (acts P ops w0 Rs a0 c (k + 1)).tmps[t]? :=
  acts_keep k' h1 fun j hj _ oj hoj => hc.uniq k o ho hk j oj hoj (by omega) t hd
theorem look_same {o : Oper} {a b : Act} (hs : ∀ cs b, o.op ≠ .select cs b) (h : ∀ t ∈ o.looksAt ops.toArray, a.tmps[t]? = b.tmps[t]?) :
    execOp a.eval o = execOp b.eval o ∧ Region.wanted o (yielded ops.toArray a.tmps) = Region.wanted o (yielded ops.toArray b.tmps) := by
  refine ⟨execOp_congr o hs fun x hx => ?_, ?_⟩
  · cases x with
    | tmp t =>
      have := h t (List.mem_append_left _ (List.mem_filterMap.2 ⟨.tmp t, by simpa using hx, rfl⟩))
      simp [Act.eval, this]
    | _ => rfl
  · unfold Region.wanted
    cases hg : o.guard with
    | none => rfl
    | some p =>
      obtain ⟨g, want⟩ := p
      have hy : yielded ops.toArray a.tmps g = yielded ops.toArray b.tmps g := by
        unfold yielded
        cases ht : (ops.toArray[g]?).bind (·.dst) with
        | none => rfl
        | some t =>
          have := h t (List.mem_append_right _ (by simp only [hg, ht]; simp))
          simp [this]
      simp only [hy]
def Ls (listed : Array Bool) (i : Nat) : Prop := listed.getD i false = true
def unl (n : Nat) (listed : Array Bool) : Nat := ((List.range n).filter fun j => !listed.getD j true).length
/-- How much the number may still grow. -/
def bud (c : Nat → Nat) (listed : Array Bool) : Nat → Nat
  | 0 => 0
  | n + 1 => bud c listed n + (if listed.getD n true then 0 else c n)
def tot (c : Nat → Nat) : Nat → Nat
  | 0 => 0
  | n + 1 => tot c n + c n
theorem bud_le (c : Nat → Nat) (listed : Array Bool) : ∀ n, bud c listed n ≤ tot c n
  | 0 => Nat.le_refl _
  | n + 1 => by
    have := bud_le c listed n
    unfold bud tot
    split <;> omega
theorem tot_mono (c : Nat → Nat) {a b : Nat} (h : a ≤ b) : tot c a ≤ tot c b := by
  induction b with
  | zero => obtain rfl : a = 0 := by omega
            exact Nat.le_refl _
  | succ b ih =>
    by_cases hab : a = b + 1
    · subst hab; exact Nat.le_refl _
    · have := ih (by omega)
      have e : tot c (b + 1) = tot c b + c b := rfl
      omega
theorem bud_set (c : Nat → Nat) {listed : Array Bool} {i : Nat} (hi : i < listed.size) (hu : listed.getD i true = false) : ∀ n, bud c (listed.setIfInBounds i true) n + (if i < n then c i else 0) = bud c listed n
  | 0 => by simp [bud]
  | n + 1 => by
    have ih := bud_set c hi hu n
    unfold bud
    by_cases h : n = i
    · subst h
      simp only [hu, Bool.false_eq_true, if_false]
      have : (listed.setIfInBounds n true).getD n true = true := by simp [hi]
      rw [this]
      simp only [if_true]
      rw [if_neg (Nat.lt_irrefl _)] at ih
      rw [if_pos (Nat.lt_succ_self _)]
      omega
    · rw [getD_set_ne true (Ne.symm h)]
      by_cases h2 : i < n
      · rw [if_pos h2] at ih
        rw [if_pos (show i < n + 1 by omega)]
        split <;> omega
      · rw [if_neg h2] at ih
        rw [if_neg (show ¬ i < n + 1 by omega)]
        split <;> omega
/-- What is known in the middle of any order. -/
structure Inv (P : Program) (ops : List Oper) (w0 : World) (Z : Lend) (p : Int) (Rs : List Sp) (a0 : Act) (m : Nat) (hs : SH) (c : Nat → Value × SH) (listed : Array Bool) (a : Act) (w : World) : Prop where
  lsize : listed.size = ops.length
  dc : ∀ (i : Nat) o, ops[i]? = some o → Ls listed i → ∀ e ∈ o.after.toList, Region.binds .any e = true → Ls listed e.on
  pre : ∀ i, Ls listed i → i < m
  good : ∀ (i : Nat) R, Rs[i]? = some (some R) → R (c i).1 (c i).2
  defers : a.defers = a0.defers
  tsize : a.tmps.size = a0.tmps.size
  tin : ∀ (t j : Nat) o, ops[j]? = some o → o.dst = some t → Ls listed j → a.tmps[t]? = (acts P ops w0 Rs a0 c m).tmps[t]?
  tout : ∀ t : Nat, (∀ (j : Nat) o, ops[j]? = some o → o.dst = some t → ¬ Ls listed j) → a.tmps[t]? = a0.tmps[t]?
  st : St w0 (Z.pre p ++ hs) w
  plo : Z.lo ≤ p
  phi : p + bud Z.c listed ops.length ≤ Z.hi
  own : ∀ (j : Nat) R, Rs[j]? = some (some R) → Ls listed j → (∀ e ∈ (c j).2, w0.heap.size ≤ e.1 ∧ w.heap[e.1]? = some e.2.toObj) ∧ (c j).2.Pairwise (fun a b => a.1 ≠ b.1) ∧ ∀ x ∈ (c j).2, ∀ y ∈ Z.pre p ++ hs, x.1 ≠ y.1
  cross : ∀ (j k : Nat) R R', j ≠ k → Rs[j]? = some (some R) → Rs[k]? = some (some R') → Ls listed j → Ls listed k → ∀ x ∈ (c j).2, ∀ y ∈ (c k).2, x.1 ≠ y.1

theorem Inv.preds {listed : Array Bool} {a : Act} {w : World} (h : Inv P ops w0 Z p Rs a0 m hs c listed a w) (hc : Chk ops m (Rs.map isPure)) : ∀ (i : Nat) (o : Oper), ops[i]? = some o → (∀ e ∈ o.after.toList, Region.binds .any e = true → Ls listed e.on) → ∀ j, (bef ops i).testBit j = true → Ls listed j := by
  intro i
  induction i using Nat.strongRecOn with
  | _ i ih =>
    intro o ho hr j hj
    obtain ⟨o', ho', e, he, hb, h1⟩ := bef_spec hj
    obtain rfl : o = o' := by rw [ho] at ho'; exact Option.some.inj ho'
    have hl := hr e he hb
    rcases h1 with rfl | h1
    · exact hl
    · have hlt := hc.back i o ho e he hb
      have hm := h.pre _ hl
      have hin : e.on < ops.length := by have := hc.le; omega
      exact ih e.on hlt _ (List.getElem?_eq_getElem hin) (h.dc e.on _ (List.getElem?_eq_getElem hin) hl) j h1
/-- The pairs of some that have come up. -/
theorem Inv.stOf {listed : Array Bool} {a : Act} {w : World} (h : Inv P ops w0 Z p Rs a0 m hs c listed a w) : ∀ ps : List (Nat × SH), (∀ q ∈ ps, (∃ R, Rs[q.1]? = some (some R)) ∧ Ls listed q.1 ∧ q.2 = (c q.1).2) → ps.Pairwise (fun a b => a.1 ≠ b.1) → St w0 (allH ps ++ (Z.pre p ++ hs)) w
  | [], _, _ => by simpa [allH] using h.st
  | u :: r, hp, hd => by
    have hr := h.stOf r (fun q hq => hp q (List.Mem.tail _ hq)) (List.pairwise_cons.1 hd).2
    obtain ⟨⟨R, hR⟩, hl, he⟩ := hp u (List.Mem.head _)
    obtain ⟨h1, h2, h3⟩ := h.own _ R hR hl
    have e : allH (u :: r) ++ (Z.pre p ++ hs) = u.2 ++ (allH r ++ (Z.pre p ++ hs)) := by simp [allH]
    rw [e, he]
    refine ⟨hr.zero, hr.low, fun x hx => ?_, List.pairwise_append.2 ⟨h2, hr.dis, fun x hx y hy => ?_⟩⟩
    · rcases List.mem_append.1 hx with hx | hx
      · exact h1 x hx
      · exact hr.own x hx
    · rcases List.mem_append.1 hy with hy | hy
      · simp only [allH, List.mem_flatten, List.mem_map] at hy
        obtain ⟨_, ⟨q, hq, rfl⟩, hy⟩ := hy
        obtain ⟨⟨R', hR'⟩, hl', he'⟩ := hp q (List.Mem.tail _ hq)
        rw [he'] at hy
        exact h.cross _ _ R R' ((List.pairwise_cons.1 hd).1 q hq) hR hR' hl hl' x hx y hy
      · exact h3 x hx y hy
theorem accOf_mem : ∀ (i : Nat) (p : Nat × SH), p ∈ accOf Rs c i → p.1 < i ∧ (∃ R, Rs[p.1]? = some (some R)) ∧ p.2 = (c p.1).2
  | 0, _, h => by cases h
  | k + 1, p, h => by
    unfold accOf at h
    split at h
    · rename_i R hR
      rcases mem_consA h with rfl | h
      · exact ⟨Nat.lt_succ_self _, ⟨R, hR⟩, rfl⟩
      · have := accOf_mem k p h
        exact ⟨by omega, this.2⟩
    · have := accOf_mem k p h
      exact ⟨by omega, this.2⟩
theorem accOf_nodup : ∀ i, (accOf Rs c i).Pairwise (fun a b => a.1 ≠ b.1)
  | 0 => .nil
  | k + 1 => by
    unfold accOf
    split
    · refine consA_pairwise (accOf_nodup k) (fun q hq => ?_)
      have := (accOf_mem k q hq).1
      omega
    · exact accOf_nodup k
/-- The walk in the text's order, along any choice of what the operations leave. -/
theorem tree {e0 : Env} (hlen : Rs.length = m) (hle : m ≤ ops.length) (h : RG P n w0 Z ops hs K 0 (ops.take m) Rs e0 [] hs) (ha : At n ds e0 a0) :
    ∀ i, i ≤ m → (∀ (j : Nat) R, j < i → Rs[j]? = some (some R) → R (c j).1 (c j).2) → ∃ e, At n ds e (acts P ops w0 Rs a0 c i) ∧ RG P n w0 Z ops hs K i ((ops.take m).drop i) (Rs.drop i) e (accOf Rs c i) (allH (accOf Rs c i) ++ hs)
  | 0, _, _ => ⟨e0, ha, by simpa [accOf, allH] using h⟩
  | i + 1, hi, hg => by
    obtain ⟨e, hA, hR⟩ := tree hlen hle h ha i (by omega) (fun j R hj => hg j R (by omega))
    have hio : i < ops.length := by omega
    have ho : ops[i]? = some ops[i] := List.getElem?_eq_getElem hio
    have hRi : i < Rs.length := by omega
    have hr : Rs[i]? = some Rs[i] := List.getElem?_eq_getElem hRi
    have ed : (ops.take m).drop i = ops[i] :: (ops.take m).drop (i + 1) := by
      rw [List.drop_eq_getElem_cons (by simp; omega)]
      simp
    have eR : Rs.drop i = Rs[i] :: Rs.drop (i + 1) := List.drop_eq_getElem_cons hRi
    rw [ed, eR] at hR
    rw [acts_succ ho]
    cases hq : Rs[i] with
    | none =>
      rw [hq] at hR hr
      obtain ⟨hd, v, hv, hR⟩ := hR
      have ev : vl P ops w0 Rs c (acts P ops w0 Rs a0 c i) ops[i] i = v := by
        simp only [vl, hr, pval]
        rcases hv with ⟨hw, hp⟩ | ⟨hw, rfl⟩
        · rw [if_pos (wantE.eq hA hw), hp.ok _ hA.fits w0]
        · rw [if_neg (by rw [wantE.eq hA hw]; exact Bool.false_ne_true)]
      rw [ev]
      refine ⟨_, hA.put v hd, ?_⟩
      have : accOf Rs c (i + 1) = accOf Rs c i := by simp only [accOf, hr]
      rw [this]
      exact hR
    | some R =>
      rw [hq] at hR hr
      obtain ⟨hd, _, hR⟩ := hR
      have ev : vl P ops w0 Rs c (acts P ops w0 Rs a0 c i) ops[i] i = (c i).1 := by simp only [vl, hr]
      rw [ev]
      refine ⟨_, hA.put _ hd, ?_⟩
      have : accOf Rs c (i + 1) = consA i (c i).2 (accOf Rs c i) := by simp only [accOf, hr]
      rw [this, allH_consA, List.append_assoc]
      exact hR _ _ (hg i R (Nat.lt_succ_self _) hr)

/-- Two choices that agree on what has come up give its slots the same. -/
theorem vl_same {c' : Nat → Value × SH} {D : Nat → Prop} (hc : Chk ops m (Rs.map isPure)) (hD : ∀ j, j < m → D j → ∀ k, (bef ops j).testBit k = true → D k)
    (he : ∀ (j : Nat) R, Rs[j]? = some (some R) → D j → (c j).1 = (c' j).1) : ∀ j o, j < m → ops[j]? = some o → D j → vl P ops w0 Rs c (acts P ops w0 Rs a0 c j) o j = vl P ops w0 Rs c' (acts P ops w0 Rs a0 c' j) o j := by
  intro j
  induction j using Nat.strongRecOn with
  | _ j ih =>
    intro o hj ho hDj
    have key : ∀ t ∈ o.looksAt ops.toArray, (acts P ops w0 Rs a0 c j).tmps[t]? = (acts P ops w0 Rs a0 c' j).tmps[t]? := by
      intro t ht
      by_cases hex : ∃ (k : Nat) (ok : Oper), ops[k]? = some ok ∧ ok.dst = some t
      · obtain ⟨k, ok, hk, hd⟩ := hex
        obtain ⟨hkj, hbit⟩ := hc.looks j o ho hj t ht k ok hk hd
        have hDk := hD j hj hDj k hbit
        rw [acts_val hc (by omega) hk hd hkj, acts_val hc (by omega) hk hd hkj, acts_succ hk, acts_succ hk, ih k hkj ok (by omega) hk hDk, hd]
        rcases Nat.lt_or_ge t a0.tmps.size with hs | hs
        · rw [put_eq _ _ _ (by rw [acts_size]; exact hs), put_eq _ _ _ (by rw [acts_size]; exact hs)]
        · have hz : ∀ (v : Value) c, ((acts P ops w0 Rs a0 c k).put (some t) v).tmps[t]? = none := fun v c => Array.getElem?_eq_none (by rw [put_size, acts_size]; omega)
          rw [hz, hz]
      · have h1 : ∀ c, (acts P ops w0 Rs a0 c j).tmps[t]? = a0.tmps[t]? := fun c => acts_keep (k := 0) j (Nat.zero_le _) fun k _ _ ok hk hd => hex ⟨k, ok, hk, hd⟩
        rw [h1, h1]
    unfold vl
    split
    · rename_i R hR
      exact he j R hR hDj
    · obtain ⟨h1, h2⟩ := look_same (Region.noSelect_spec hc.nosel j o |> fun f cs b => f cs b (by simpa using ho)) key
      unfold pval
      rw [h1, h2]

theorem ls_set {listed : Array Bool} {i j : Nat} (hi : i < listed.size) : Ls (listed.setIfInBounds i true) j ↔ j = i ∨ Ls listed j := by
  unfold Ls
  by_cases h : j = i
  · subst h; simp [hi]
  · rw [getD_set_ne false (Ne.symm h)]; simp [h]
theorem unl_set {n : Nat} {listed : Array Bool} {i : Nat} (hn : listed.size = n) (hi : i < n) (hu : listed.getD i true = false) : unl n (listed.setIfInBounds i true) < unl n listed := by
  unfold unl
  have hsub : ((List.range n).filter fun j => !(listed.setIfInBounds i true).getD j true).Sublist ((List.range n).filter fun j => !listed.getD j true) := by
    have e : ((List.range n).filter fun j => !(listed.setIfInBounds i true).getD j true) = ((List.range n).filter fun j => !listed.getD j true).filter (fun j => !(listed.setIfInBounds i true).getD j true) := by
      rw [List.filter_filter]
      congr 1
      funext j
      by_cases h : j = i
      · subst h; simp [hn, hi]
      · rw [getD_set_ne true (Ne.symm h)]; simp
    rw [e]
    exact List.filter_sublist
  rcases Nat.lt_or_ge ((List.range n).filter fun j => !(listed.setIfInBounds i true).getD j true).length ((List.range n).filter fun j => !listed.getD j true).length with h | h
  · exact h
  · have he := hsub.eq_of_length_le h
    have : i ∈ ((List.range n).filter fun j => !listed.getD j true) := by
      rw [List.mem_filter]
      exact ⟨by simpa using hi, by simp [hu]⟩
    rw [← he, List.mem_filter] at this
    have h2 := this.2
    simp [hn, hi] at h2
theorem unl_zero {n : Nat} {listed : Array Bool} (h : unl n listed = 0) {i : Nat} (hi : i < n) : listed.getD i true = true := by
  cases hu : listed.getD i true with
  | true => rfl
  | false =>
    exfalso
    unfold unl at h
    have : i ∈ ((List.range n).filter fun j => !listed.getD j true) := by
      rw [List.mem_filter]
      exact ⟨by simpa using hi, by simp [hu]⟩
    rw [List.length_eq_zero_iff] at h
    rw [h] at this
    cases this
theorem ls_iff {listed : Array Bool} {i : Nat} (hi : i < listed.size) : listed.getD i true = true ↔ Ls listed i := by
  unfold Ls
  simp [hi]
theorem ls_not {listed : Array Bool} {i : Nat} (hi : i < listed.size) : listed.getD i true = false ↔ ¬ Ls listed i := by
  rw [← ls_iff hi]; simp

/-- The operations behind the drawn ones: one order alone. -/
theorem tail_any (hc : Chk ops m (Rs.map isPure)) : ∀ (fuel k : Nat) (listed : Array Bool) (a : Act) (w : World), m ≤ k → k ≤ ops.length → listed.size = ops.length → (∀ j, Ls listed j ↔ j < k) → ops.length - k ≤ fuel →
    wpList P ops.toArray Q (ops.drop k) a w → wpAny P .any ops.toArray Q fuel listed a w := by
  intro fuel
  induction fuel with
  | zero =>
    intro k listed a w hm hk hsz hl hf h
    obtain rfl : k = ops.length := by omega
    rw [List.drop_length] at h
    refine ⟨?_, h⟩
    rw [List.eq_nil_iff_forall_not_mem]
    intro j hj
    obtain ⟨hu, o, ho, _⟩ := mem_ready.1 hj
    have hjl : j < ops.length := (List.getElem?_eq_some_iff.1 (by simpa using ho)).1
    exact (ls_not (by omega)).1 hu ((hl j).2 hjl)
  | succ fuel ih =>
    intro k listed a w hm hk hsz hl hf h
    by_cases hkn : k = ops.length
    · subst hkn
      rw [List.drop_length] at h
      have hr : Region.ready .any ops.toArray listed = [] := by
        rw [List.eq_nil_iff_forall_not_mem]
        intro j hj
        obtain ⟨hu, o, ho, _⟩ := mem_ready.1 hj
        have hjl : j < ops.length := (List.getElem?_eq_some_iff.1 (by simpa using ho)).1
        exact (ls_not (by omega)).1 hu ((hl j).2 hjl)
      exact ⟨fun _ => h, by rw [hr]; simp⟩
    · have hkl : k < ops.length := by omega
      have hok : ops[k]? = some ops[k] := List.getElem?_eq_getElem hkl
      have hin : k ∈ Region.ready .any ops.toArray listed := mem_ready.2 ⟨(ls_not (by omega)).2 (fun h => by have := (hl k).1 h; omega), ops[k], by simp, fun e he hb => (hl e.on).2 (hc.back k _ hok e (by simpa using he) hb)⟩
      refine ⟨fun h0 => (by rw [h0] at hin; cases hin), fun j hj => ?_⟩
      obtain ⟨hu, o, ho, hall⟩ := mem_ready.1 hj
      have ho' : ops[j]? = some o := by simpa using ho
      have hjl : j < ops.length := (List.getElem?_eq_some_iff.1 ho').1
      have hjk : k ≤ j := Nat.le_of_not_lt fun h => (ls_not (by omega)).1 hu ((hl j).2 h)
      have hjk' : j = k := by
        rcases Nat.lt_or_ge k j with hlt | hge
        · exfalso
          rcases hc.late j o ho' (by omega) k hlt with ⟨h1, _⟩ | h1
          · omega
          · have : ∀ (i : Nat) (o : Oper), ops[i]? = some o → (∀ e ∈ o.after.toList, Region.binds .any e = true → Ls listed e.on) → ∀ j, (bef ops i).testBit j = true → Ls listed j := by
              intro i
              induction i using Nat.strongRecOn with
              | _ i ih =>
                intro o ho hr j hj
                obtain ⟨o', ho', e, he, hb, h1⟩ := bef_spec hj
                obtain rfl : o = o' := by rw [ho] at ho'; exact Option.some.inj ho'
                have hl' := hr e he hb
                rcases h1 with rfl | h1
                · exact hl'
                · have hlt := hc.back i o ho e he hb
                  have hm := (hl _).1 hl'
                  have hin : e.on < ops.length := by omega
                  exact ih e.on hlt _ (List.getElem?_eq_getElem hin) (fun e' he' hb' => (hl _).2 (by have := hc.back e.on _ (List.getElem?_eq_getElem hin) e' he' hb'; omega)) j h1
            have := (hl k).1 (this j o ho' (fun e he hb => hall e (by simpa using he) hb) k h1)
            omega
        · omega
      subst hjk'
      rw [List.drop_eq_getElem_cons hkl] at h
      unfold wpOp
      simp only [show ops.toArray[j]? = some ops[j] by simp]
      unfold wpList at h
      have hK : ∀ a w, wpList P ops.toArray Q (ops.drop (j + 1)) a w → wpAny P .any ops.toArray Q fuel (listed.setIfInBounds j true) a w := fun a w h => by
        refine ih (j + 1) _ a w (by omega) (by omega) (by simp [hsz]) (fun i => ?_) (by omega) h
        rw [ls_set (by omega), hl i]
        omega
      split
      · rename_i hw
        rw [if_pos hw] at h
        exact h.imp (Oper.wp_mono hK) id
      · rename_i hw
        rw [if_neg hw] at h
        exact hK _ _ h

theorem find_least {N : Nat} {p : Nat → Prop} (h : ∃ k, k < N ∧ ¬ p k) : ∃ k, k < N ∧ ¬ p k ∧ ∀ j, j < k → p j := by
  obtain ⟨k, h1, h2⟩ := least h
  refine ⟨k, h1.1, h1.2, fun j hj => Classical.byContradiction fun hn => ?_⟩
  have := h2 j ⟨by have := h1.1; omega, hn⟩
  omega

theorem perm_mid {α : Type} {a b c : List α} : (a ++ (b ++ c)).Perm (b ++ (a ++ c)) := by
  rw [← List.append_assoc, ← List.append_assoc]
  exact List.perm_append_comm.append_right c
theorem perm_four {α : Type} {a b c d : List α} : ((a ++ b) ++ (c ++ d)).Perm (c ++ ((a ++ d) ++ b)) := by
  refine perm_mid.trans (List.Perm.append_left c ?_)
  rw [List.append_assoc, List.append_assoc]
  exact List.Perm.append_left a List.perm_append_comm
theorem allH_append (x y : List (Nat × SH)) : allH (x ++ y) = allH x ++ allH y := by simp [allH]
theorem mem_accOf {j : Nat} {R : Value → SH → Prop} (hR : Rs[j]? = some (some R)) {x : Nat × Blk} (hx : x ∈ (c j).2) : ∀ k, j < k → (j, (c j).2) ∈ accOf Rs c k
  | k + 1, h => by
    unfold accOf
    by_cases hj : j = k
    · subst hj
      simp only [hR]
      unfold consA
      cases hc : (c j).2 with
      | nil => rw [hc] at hx; cases hx
      | cons y r => exact List.Mem.head _
    · have ih := mem_accOf hR hx k (by omega)
      split
      · unfold consA
        split
        · exact ih
        · exact List.Mem.tail _ ih
      · exact ih
/-- What has come up, parted: what operation i sees for sure; the others. -/
def selA (ops : List Oper) (i : Nat) (acc : List (Nat × SH)) : List (Nat × SH) := acc.filter fun q => (bef ops i).testBit q.1
def restA (ops : List Oper) (i : Nat) (listed : Array Bool) (acc : List (Nat × SH)) : List (Nat × SH) := acc.filter fun q => listed.getD q.1 false && !((bef ops i).testBit q.1 && Nat.blt q.1 i)
theorem selA_allH (ops : List Oper) (i : Nat) (acc : List (Nat × SH)) : allH (selA ops i acc) = sel ops i acc := rfl
theorem Inv.split {listed : Array Bool} {a : Act} {w : World} (I : Inv P ops w0 Z p Rs a0 m hs c listed a w) (hc : Chk ops m (Rs.map isPure)) {i : Nat} {o : Oper} (ho : ops[i]? = some o)
    (hpre : ∀ e ∈ o.after.toList, Region.binds .any e = true → Ls listed e.on) : St w0 (Z.pre p ++ ((sel ops i (accOf Rs c i) ++ hs) ++ allH (restA ops i listed (accOf Rs c m)))) w := by
  have h := I.stOf (selA ops i (accOf Rs c i) ++ restA ops i listed (accOf Rs c m)) (fun q hq => ?_) ?_
  · rw [allH_append, selA_allH] at h
    exact h.perm perm_four
  · rcases List.mem_append.1 hq with hq | hq
    · obtain ⟨hq1, hq2⟩ := List.mem_filter.1 hq
      obtain ⟨h1, h2, h3⟩ := accOf_mem i q hq1
      exact ⟨h2, I.preds hc i o ho hpre _ hq2, h3⟩
    · obtain ⟨hq1, hq2⟩ := List.mem_filter.1 hq
      obtain ⟨h1, h2, h3⟩ := accOf_mem m q hq1
      simp only [Bool.and_eq_true] at hq2
      exact ⟨h2, hq2.1, h3⟩
  · refine List.pairwise_append.2 ⟨(accOf_nodup i).sublist List.filter_sublist, (accOf_nodup m).sublist List.filter_sublist, fun x hx y hy he => ?_⟩
    obtain ⟨hx1, hx2⟩ := List.mem_filter.1 hx
    obtain ⟨hy1, hy2⟩ := List.mem_filter.1 hy
    have h1 := (accOf_mem i x hx1).1
    simp only [Bool.and_eq_true, Bool.not_eq_true'] at hy2
    rw [← he, hx2, blt_iff.2 h1] at hy2
    exact Bool.noConfusion hy2.2
theorem Inv.inRest {listed : Array Bool} {a : Act} {w : World} (I : Inv P ops w0 Z p Rs a0 m hs c listed a w) {i j : Nat} {R : Value → SH → Prop} (hR : Rs[j]? = some (some R)) (hl : Ls listed j) {x : Nat × Blk} (hx : x ∈ (c j).2) :
    x ∈ (sel ops i (accOf Rs c i) ++ hs) ++ allH (restA ops i listed (accOf Rs c m)) := by
  by_cases hb : (bef ops i).testBit j = true ∧ j < i
  · refine List.mem_append_left _ (List.mem_append_left _ ?_)
    exact List.mem_flatten.2 ⟨(c j).2, List.mem_map.2 ⟨(j, (c j).2), List.mem_filter.2 ⟨mem_accOf hR hx i hb.2, hb.1⟩, rfl⟩, hx⟩
  · refine List.mem_append_right _ ?_
    refine List.mem_flatten.2 ⟨(c j).2, List.mem_map.2 ⟨(j, (c j).2), List.mem_filter.2 ⟨mem_accOf hR hx m (I.pre j hl), ?_⟩, rfl⟩, hx⟩
    simp only [Bool.and_eq_true, Bool.not_eq_true']
    refine ⟨hl, ?_⟩
    cases h1 : (bef ops i).testBit j with
    | false => rfl
    | true =>
      cases h2 : Nat.blt j i with
      | false => rfl
      | true => exact (hb ⟨h1, blt_iff.1 h2⟩).elim

/-- All drawn ones have come up. -/
theorem any_done {e0 : Env} (hc : Chk ops m (Rs.map isPure)) (ha : At n ds e0 a0)
    (h : RG P n w0 Z ops hs K 0 (ops.take m) Rs e0 [] hs) (hK : ∀ e own, K e own → ∀ p, Z.lo ≤ p → p ≤ Z.hi → L P n ds w0 ops Q (ops.drop m) e (Z.pre p ++ own)) {fuel : Nat} {listed : Array Bool} {a : Act} {w : World} {c : Nat → Value × SH} (I : Inv P ops w0 Z p Rs a0 m hs c listed a w)
    (hf : unl ops.length listed ≤ fuel) (hall : ∀ j, j < m → Ls listed j) : wpAny P .any ops.toArray Q fuel listed a w := by
  have hlen : Rs.length = m := by have := hc.len; simpa using this
  obtain ⟨e, hA, hR⟩ := tree hlen hc.le h ha m (Nat.le_refl _) (fun j R _ hR => I.good j R hR)
  have hnil : (ops.take m).drop m = [] := by simp
  have hnil2 : Rs.drop m = [] := by rw [← hlen]; simp
  rw [hnil, hnil2] at hR
  have hst := I.stOf (accOf Rs c m) (fun p hp => ⟨(accOf_mem m p hp).2.1, hall _ (accOf_mem m p hp).1, (accOf_mem m p hp).2.2⟩) (accOf_nodup m)
  have hact : a = acts P ops w0 Rs a0 c m := by
    have h1 : a.tmps = (acts P ops w0 Rs a0 c m).tmps := by
      apply Array.ext_getElem?
      intro t
      by_cases hex : ∃ (j : Nat) (o : Oper), ops[j]? = some o ∧ o.dst = some t ∧ j < m
      · obtain ⟨j, o, ho, hd, hj⟩ := hex
        exact I.tin t j o ho hd (hall j hj)
      · rw [I.tout t (fun j o ho hd hl => hex ⟨j, o, ho, hd, I.pre j hl⟩)]
        exact (acts_keep (k := 0) m (Nat.zero_le _) fun j _ hj o ho hd => hex ⟨j, o, ho, hd, hj⟩).symm
    cases a with
    | mk t d =>
      have h2 := I.defers
      have h3 := acts_defers (P := P) (ops := ops) (w0 := w0) (Rs := Rs) (a0 := a0) (c := c) m
      cases hx : acts P ops w0 Rs a0 c m with
      | mk t' d' =>
        rw [hx] at h1 h3
        simp only at h1 h2 h3
        rw [h1, h2, h3]
  rw [hact]
  refine tail_any hc _ m listed _ _ (Nat.le_refl _) hc.le I.lsize (fun j => ⟨I.pre j, hall j⟩) ?_ (L.ok (hK _ _ hR p I.plo (by have := I.phi; omega)) _ _ hA (hst.perm perm_mid))
  have hcnt : ops.length - m ≤ unl ops.length listed := by
    unfold unl
    have : ((List.range ops.length).filter fun j => !listed.getD j true) = (List.range ops.length).filter fun j => !Nat.blt j m := by
      apply List.filter_congr
      intro j hj
      have hj' : j < ops.length := by simpa using hj
      by_cases hjm : j < m
      · rw [(ls_iff (by rw [I.lsize]; exact hj')).2 (hall j hjm), blt_iff.2 hjm]
      · rw [(ls_not (by rw [I.lsize]; exact hj')).2 (fun hl => hjm (I.pre j hl))]
        have : Nat.blt j m = false := by
          cases hb : Nat.blt j m with
          | false => rfl
          | true => exact (hjm (blt_iff.1 hb)).elim
        rw [this]
    rw [this]
    have hr : List.range ops.length = List.range m ++ (List.range (ops.length - m)).map (m + ·) := by
      rw [← List.range_add]
      congr 1
      have := hc.le
      omega
    rw [hr, List.filter_append, List.length_append]
    have : ((List.range (ops.length - m)).map (m + ·)).filter (fun j => !Nat.blt j m) = (List.range (ops.length - m)).map (m + ·) := by
      rw [List.filter_eq_self]
      intro j hj
      obtain ⟨i, _, rfl⟩ := List.mem_map.1 hj
      cases hb : Nat.blt (m + i) m with
      | false => rfl
      | true => have := blt_iff.1 hb; omega
    rw [this]
    simp
  omega

/-- What an operation of the text that may come up sees. -/
theorem Inv.looks {listed : Array Bool} {a : Act} {w : World} (I : Inv P ops w0 Z p Rs a0 m hs c listed a w) (hc : Chk ops m (Rs.map isPure)) {i : Nat} {o : Oper} (hi : i < m) (ho : ops[i]? = some o)
    (hr : ∀ e ∈ o.after.toList, Region.binds .any e = true → Ls listed e.on) : ∀ t ∈ o.looksAt ops.toArray, a.tmps[t]? = (acts P ops w0 Rs a0 c i).tmps[t]? := by
  intro t ht
  by_cases hex : ∃ (k : Nat) (ok : Oper), ops[k]? = some ok ∧ ok.dst = some t
  · obtain ⟨k, ok, hk, hd⟩ := hex
    obtain ⟨hki, hbit⟩ := hc.looks i o ho hi t ht k ok hk hd
    have hl := I.preds hc i o ho hr k hbit
    rw [I.tin t k ok hk hd hl, acts_val hc (by omega) hk hd (by omega : k < m), acts_val hc (by omega) hk hd hki]
  · rw [I.tout t (fun j oj hj hd _ => hex ⟨j, oj, hj, hd⟩)]
    exact (acts_keep (k := 0) i (Nat.zero_le _) fun k _ _ ok hk hd => hex ⟨k, ok, hk, hd⟩).symm
theorem noSel (hc : Chk ops m (Rs.map isPure)) {i : Nat} {o : Oper} (ho : ops[i]? = some o) : ∀ cs b, o.op ≠ .select cs b := fun cs b => Region.noSelect_spec hc.nosel i o cs b (by simpa using ho)

/-- All orders, from the middle. -/
theorem any_main {e0 : Env} (hc : Chk ops m (Rs.map isPure)) (ha : At n ds e0 a0) (hQ : ∀ c a a' w, a'.defers = a.defers → Q (.panic c) a w → Q (.panic c) a' w)
    (h : RG P n w0 Z ops hs K 0 (ops.take m) Rs e0 [] hs) (hK : ∀ e own, K e own → ∀ p, Z.lo ≤ p → p ≤ Z.hi → L P n ds w0 ops Q (ops.drop m) e (Z.pre p ++ own)) :
    ∀ (fuel : Nat) (listed : Array Bool) (a : Act) (w : World) (c : Nat → Value × SH) (z : Int), Inv P ops w0 Z z Rs a0 m hs c listed a w → unl ops.length listed ≤ fuel → wpAny P .any ops.toArray Q fuel listed a w := by
  have hlen : Rs.length = m := by have := hc.len; simpa using this
  have hpure : ∀ i, (Rs.map isPure).getD i false = true ↔ Rs[i]? = some none := by
    intro i
    simp only [List.getD, List.getElem?_map]
    cases Rs[i]? with
    | none => simp
    | some r => cases r <;> simp [isPure]
  intro fuel
  induction fuel with
  | zero =>
    intro listed a w c z I hf
    exact any_done hc ha h hK I hf fun j hj => (ls_iff (by rw [I.lsize]; have := hc.le; omega)).1 (unl_zero (Nat.le_zero.1 hf) (by have := hc.le; omega))
  | succ fuel ih =>
    intro listed a w c z I hf
    by_cases hall : ∀ j, j < m → Ls listed j
    · exact any_done hc ha h hK I hf hall
    · have hle := hc.le
      -- the first of the drawn ones that has not come up may come up
      obtain ⟨p, hp, hpn, hpl⟩ : ∃ k, k < m ∧ ¬ Ls listed k ∧ ∀ j, j < k → Ls listed j := find_least (by
        refine Classical.byContradiction fun hn => hall fun j hj => Classical.byContradiction fun hl => hn ⟨j, hj, hl⟩)
      have hready : ∀ (i : Nat) (o : Oper), ops[i]? = some o → (i ∈ Region.ready .any ops.toArray listed ↔ ¬ Ls listed i ∧ ∀ e ∈ o.after.toList, Region.binds .any e = true → Ls listed e.on) := by
        intro i o ho
        have hil : i < ops.length := (List.getElem?_eq_some_iff.1 ho).1
        rw [mem_ready]
        constructor
        · rintro ⟨hu, o', ho', hall⟩
          obtain rfl : o = o' := by rw [show ops.toArray[i]? = some o by simpa using ho] at ho'; exact Option.some.inj ho'
          exact ⟨(ls_not (by rw [I.lsize]; exact hil)).1 hu, fun e he hb => hall e (by simpa using he) hb⟩
        · rintro ⟨hu, hall⟩
          exact ⟨(ls_not (by rw [I.lsize]; exact hil)).2 hu, o, by simpa using ho, fun e he hb => hall e (by simpa using he) hb⟩
      have hpo : ops[p]? = some ops[p] := List.getElem?_eq_getElem (by omega)
      have hpr : p ∈ Region.ready .any ops.toArray listed := (hready p _ hpo).2 ⟨hpn, fun e he hb => hpl _ (hc.back p _ hpo e he hb)⟩
      by_cases hex : ∃ i, i < m ∧ i ∈ Region.ready .any ops.toArray listed ∧ Rs[i]? = some none
      · -- a quiet one may come up: it is taken first
        obtain ⟨i, hi, hir, hRi⟩ := hex
        have hio : ops[i]? = some ops[i] := List.getElem?_eq_getElem (by omega)
        obtain ⟨hu, hpre⟩ := (hready i _ hio).1 hir
        obtain ⟨e, hA, hR⟩ := tree hlen hc.le h ha i (by omega) (fun j R _ hR => I.good j R hR)
        have hlk := I.looks hc hi hio hpre
        obtain ⟨hx, hwt⟩ := look_same (noSel hc hio) hlk
        have ed : (ops.take m).drop i = ops[i] :: (ops.take m).drop (i + 1) := by
          rw [List.drop_eq_getElem_cons (by simp; omega)]
          simp
        have hRi' : i < Rs.length := by omega
        have hg : Rs[i] = none := by rw [List.getElem?_eq_getElem hRi'] at hRi; exact Option.some.inj hRi
        have eR : Rs.drop i = none :: Rs.drop (i + 1) := by rw [List.drop_eq_getElem_cons hRi', hg]
        rw [ed, eR] at hR
        obtain ⟨hd, v, hv, _⟩ := hR
        have ev : vl P ops w0 Rs c (acts P ops w0 Rs a0 c i) ops[i] i = v := by
          simp only [vl, hRi, pval]
          rcases hv with ⟨hw, hp⟩ | ⟨hw, rfl⟩
          · rw [if_pos (wantE.eq hA hw), hp.ok _ hA.fits w0]
          · rw [if_neg (by rw [wantE.eq hA hw]; exact Bool.false_ne_true)]
        have hy : Yields P ops.toArray ops[i] v a := by
          unfold Yields
          rw [hwt, hx]
          rcases hv with ⟨hw, hp⟩ | ⟨hw, rfl⟩
          · exact .inl ⟨wantE.eq hA hw, hp.ok _ hA.fits⟩
          · exact .inr ⟨wantE.eq hA hw, rfl⟩
        refine wpAny_first (by simp) (fun j o cs b ho => noSel hc (by simpa using ho) cs b) (fun c a w hq => hQ c _ a w (put_defers a _ _).symm hq) fuel listed a w (fun j oj hoj hne hun hno => ?_) hir hy ?_
        · have hoj' : ops[j]? = some oj := by simpa using hoj
          have hjl : j < ops.length := (List.getElem?_eq_some_iff.1 hoj').1
          rcases hc.free i _ hio hi ((hpure i).2 hRi) j oj hoj' hne with ⟨e, he, hb, h1⟩ | h1 | h1
          · exact (hno e (by simpa using he) hb h1).elim
          · exact ((ls_not (by rw [I.lsize]; exact hjl)).1 hun (I.preds hc i _ hio hpre j h1)).elim
          · exact h1
        · refine ih _ _ w c z ?_ ?_
          · have hset := fun j => ls_set (listed := listed) (i := i) (j := j) (by rw [I.lsize]; omega)
            exact
              { lsize := by simp [I.lsize]
                dc := fun j o ho hj e he hb => by
                  rw [hset] at hj ⊢
                  rcases hj with rfl | hj
                  · rw [hio] at ho
                    obtain rfl := Option.some.inj ho
                    exact .inr (hpre e he hb)
                  · exact .inr (I.dc j o ho hj e he hb)
                pre := fun j hj => by
                  rw [hset] at hj
                  rcases hj with rfl | hj
                  · exact hi
                  · exact I.pre j hj
                good := I.good
                defers := by rw [put_defers]; exact I.defers
                tsize := by rw [put_size]; exact I.tsize
                tin := fun t j o ho hd' hj => by
                  rw [hset] at hj
                  by_cases hji : j = i
                  · subst hji
                    rw [hio] at ho
                    obtain rfl := Option.some.inj ho
                    rw [acts_val hc hi hio hd' hi, acts_succ hio, ev, hd']
                    rcases Nat.lt_or_ge t a0.tmps.size with hs | hs
                    · rw [put_eq _ _ _ (by rw [I.tsize]; exact hs), put_eq _ _ _ (by rw [acts_size]; exact hs)]
                    · have hz : ∀ (b : Act), b.tmps.size = a0.tmps.size → (b.put (some t) v).tmps[t]? = none := fun b hb => Array.getElem?_eq_none (by rw [put_size, hb]; omega)
                      rw [hz _ I.tsize, hz _ (acts_size _)]
                  · rw [put_ne _ _ _ _ (fun hq => hc.uniq i _ hio hi j o ho hji t hq hd')]
                    exact I.tin t j o ho hd' (hj.resolve_left hji)
                tout := fun t hn => by
                  rw [put_ne _ _ _ _ (fun hq => hn i _ hio hq ((hset i).2 (.inl rfl)))]
                  exact I.tout t fun j o ho hd' hj => hn j o ho hd' ((hset j).2 (.inr hj))
                st := I.st
                plo := I.plo
                phi := by
                  have h1 := I.phi
                  have h2 := bud_set Z.c (i := i) (by rw [I.lsize]; omega) ((ls_not (by rw [I.lsize]; omega)).2 hu) ops.length
                  omega
                own := fun j R hR hj => I.own j R hR (((hset j).1 hj).resolve_left (fun hji => by subst hji; rw [hRi] at hR; cases hR))
                cross := fun j k R R' hne hR hR' hj hk => I.cross j k R R' hne hR hR' (((hset j).1 hj).resolve_left (fun hji => by subst hji; rw [hRi] at hR; cases hR)) (((hset k).1 hk).resolve_left (fun hji => by subst hji; rw [hRi] at hR'; cases hR')) }
          · have := unl_set (n := ops.length) I.lsize (i := i) (by omega) ((ls_not (by rw [I.lsize]; omega)).2 hu)
            omega
      · refine ⟨fun h0 => (by rw [h0] at hpr; cases hpr), fun i hir => ?_⟩
        obtain ⟨_, o, hoA, _⟩ := mem_ready.1 hir
        have ho : ops[i]? = some o := by simpa using hoA
        obtain ⟨hu, hpre⟩ := (hready i _ ho).1 hir
        have hil : i < ops.length := (List.getElem?_eq_some_iff.1 ho).1
        have hi : i < m := by
          refine Nat.lt_of_not_le fun hmi => ?_
          -- an ordered one: then all drawn ones have come up
          have hRp : ∃ R, Rs[p]? = some (some R) := by
            have hpl' : p < Rs.length := by omega
            cases hq : Rs[p] with
            | none => exact (hex ⟨p, hp, hpr, by rw [List.getElem?_eq_getElem hpl', hq]⟩).elim
            | some R => exact ⟨R, by rw [List.getElem?_eq_getElem hpl', hq]⟩
          obtain ⟨R, hR⟩ := hRp
          rcases hc.late i o ho hmi p (by omega) with ⟨_, h1⟩ | h1
          · have := (hpure p).1 h1
            rw [hR] at this
            cases this
          · exact hpn (I.preds hc i o ho hpre p h1)
        have hRi' : i < Rs.length := by omega
        obtain ⟨R, hRi⟩ : ∃ R, Rs[i]? = some (some R) := by
          cases hq : Rs[i] with
          | none => exact (hex ⟨i, hi, hir, by rw [List.getElem?_eq_getElem hRi', hq]⟩).elim
          | some R => exact ⟨R, by rw [List.getElem?_eq_getElem hRi', hq]⟩
        obtain ⟨e, hA, hRG⟩ := tree hlen hc.le h ha i (by omega) (fun j R _ hR => I.good j R hR)
        have hlk := I.looks hc hi ho hpre
        obtain ⟨hx, hwt⟩ := look_same (noSel hc ho) hlk
        have ed : (ops.take m).drop i = o :: (ops.take m).drop (i + 1) := by
          rw [List.drop_eq_getElem_cons (by simp; omega)]
          rw [List.getElem?_eq_getElem hil] at ho
          simp [Option.some.inj ho]
        have eR : Rs.drop i = some R :: Rs.drop (i + 1) := by
          rw [List.drop_eq_getElem_cons hRi']
          rw [List.getElem?_eq_getElem hRi'] at hRi
          rw [Option.some.inj hRi]
        rw [ed, eR] at hRG
        obtain ⟨hd, hv, _⟩ := hRG
        -- behind it
        have step : ∀ (v : Value) (H : SH) (p' : Int) (w' : World), R v H → z ≤ p' → p' ≤ z + Z.c i → St w0 (H ++ (Z.pre p' ++ ((sel ops i (accOf Rs c i) ++ hs) ++ allH (restA ops i listed (accOf Rs c m))))) w' → wpAny P .any ops.toArray Q fuel (listed.setIfInBounds i true) (a.put o.dst v) w' := by
          intro v H p' w' hRv hp1 hp2 hS
          have hset := fun j => ls_set (listed := listed) (i := i) (j := j) (by rw [I.lsize]; omega)
          let c' : Nat → Value × SH := fun j => if j = i then (v, H) else c j
          have hc'i : c' i = (v, H) := if_pos rfl
          have hc'j : ∀ j, j ≠ i → c' j = c j := fun j hj => if_neg hj
          have hsame := vl_same (P := P) (w0 := w0) (a0 := a0) (c := c) (c' := c') (D := Ls listed) hc (fun j hj hl k hb => I.preds hc j _ (List.getElem?_eq_getElem (by omega)) (fun e he hb => I.dc j _ (List.getElem?_eq_getElem (by omega)) hl e he hb) k hb)
            (fun j R' hR' hl => by rw [hc'j j (fun hji => by subst hji; exact hu hl)])
          refine ih _ _ w' c' p' ?_ ?_
          · have hd := List.pairwise_append.1 hS.dis
            have hd2 := List.pairwise_append.1 hd.2.1
            have hin := fun {j : Nat} {R' : Value → SH → Prop} (hR' : Rs[j]? = some (some R')) (hl : Ls listed j) {x : Nat × Blk} (hx : x ∈ (c j).2) => I.inRest (i := i) hR' hl hx
            exact
              { lsize := by simp [I.lsize]
                dc := fun j oj hoj hj e he hb => by
                  rw [hset] at hj ⊢
                  rcases hj with rfl | hj
                  · rw [ho] at hoj
                    obtain rfl := Option.some.inj hoj
                    exact .inr (hpre e he hb)
                  · exact .inr (I.dc j oj hoj hj e he hb)
                pre := fun j hj => by
                  rw [hset] at hj
                  rcases hj with rfl | hj
                  · exact hi
                  · exact I.pre j hj
                good := fun j R' hR' => by
                  by_cases hji : j = i
                  · subst hji
                    rw [hRi] at hR'
                    obtain rfl : R = R' := Option.some.inj (Option.some.inj hR')
                    rw [hc'i]; exact hRv
                  · rw [hc'j j hji]; exact I.good j R' hR'
                defers := by rw [put_defers]; exact I.defers
                tsize := by rw [put_size]; exact I.tsize
                tin := fun t j oj hoj hd' hj => by
                  rw [hset] at hj
                  by_cases hji : j = i
                  · subst hji
                    rw [ho] at hoj
                    obtain rfl := Option.some.inj hoj
                    have evl : vl P ops w0 Rs c' (acts P ops w0 Rs a0 c' j) o j = v := by simp only [vl, hRi, hc'i]
                    rw [acts_val hc hi ho hd' hi, acts_succ ho, evl, hd']
                    rcases Nat.lt_or_ge t a0.tmps.size with hs | hs
                    · rw [put_eq _ _ _ (by rw [I.tsize]; exact hs), put_eq _ _ _ (by rw [acts_size]; exact hs)]
                    · have hz : ∀ (b : Act), b.tmps.size = a0.tmps.size → (b.put (some t) v).tmps[t]? = none := fun b hb => Array.getElem?_eq_none (by rw [put_size, hb]; omega)
                      rw [hz _ I.tsize, hz _ (acts_size _)]
                  · have hl := hj.resolve_left hji
                    have hjm := I.pre j hl
                    rw [put_ne _ _ _ _ (fun hq => hc.uniq i _ ho hi j oj hoj hji t hq hd'), I.tin t j oj hoj hd' hl, acts_val hc hjm hoj hd' hjm, acts_val hc hjm hoj hd' hjm, acts_succ hoj, acts_succ hoj, hsame j oj hjm hoj hl, hd']
                    rcases Nat.lt_or_ge t a0.tmps.size with hs | hs
                    · rw [put_eq _ _ _ (by rw [acts_size]; exact hs), put_eq _ _ _ (by rw [acts_size]; exact hs)]
                    · have hz : ∀ (b : Act) (v : Value), b.tmps.size = a0.tmps.size → (b.put (some t) v).tmps[t]? = none := fun b v hb => Array.getElem?_eq_none (by rw [put_size, hb]; omega)
                      rw [hz _ _ (acts_size _), hz _ _ (acts_size _)]
                tout := fun t hn => by
                  rw [put_ne _ _ _ _ (fun hq => hn i _ ho hq ((hset i).2 (.inl rfl)))]
                  exact I.tout t fun j oj hoj hd' hj => hn j oj hoj hd' ((hset j).2 (.inr hj))
                st := hS.sub (((List.Sublist.refl _).append ((List.sublist_append_right _ _).trans (List.sublist_append_left _ _))).trans (List.sublist_append_right _ _))
                plo := by have := I.plo; omega
                phi := by
                  have h1 := I.phi
                  have h2 := bud_set Z.c (i := i) (by rw [I.lsize]; omega) ((ls_not (by rw [I.lsize]; omega)).2 hu) ops.length
                  rw [if_pos hil] at h2
                  omega
                own := fun j R' hR' hj => by
                  by_cases hji : j = i
                  · subst hji
                    rw [hc'i]
                    refine ⟨fun e he => hS.own e (List.mem_append_left _ he), hd.1, fun x hx y hy => hd.2.2 x hx y ?_⟩
                    rcases List.mem_append.1 hy with hy | hy
                    · exact List.mem_append_left _ hy
                    · exact List.mem_append_right _ (List.mem_append_left _ (List.mem_append_right _ hy))
                  · rw [hc'j j hji]
                    have hl := ((hset j).1 hj).resolve_left hji
                    obtain ⟨h1, h2, h3⟩ := I.own j R' hR' hl
                    refine ⟨fun e he => hS.own e (List.mem_append_right _ (List.mem_append_right _ (hin hR' hl he))), h2, fun x hx y hy => ?_⟩
                    rcases List.mem_append.1 hy with hy | hy
                    · exact Ne.symm (hd2.2.2 y hy x (hin hR' hl hx))
                    · exact h3 x hx y (List.mem_append_right _ hy)
                cross := fun j k R1 R2 hne hR1 hR2 hj hk => by
                  by_cases hji : j = i
                  · subst hji
                    have hki : k ≠ j := Ne.symm hne
                    rw [hc'i, hc'j k hki]
                    have hl := ((hset k).1 hk).resolve_left hki
                    intro x hx y hy
                    exact hd.2.2 x hx y (List.mem_append_right _ (hin hR2 hl hy))
                  · have hlj := ((hset j).1 hj).resolve_left hji
                    by_cases hki : k = i
                    · subst hki
                      rw [hc'i, hc'j j hji]
                      intro x hx y hy
                      exact Ne.symm (hd.2.2 y hy x (List.mem_append_right _ (hin hR1 hlj hx)))
                    · rw [hc'j j hji, hc'j k hki]
                      exact I.cross j k R1 R2 hne hR1 hR2 hlj (((hset k).1 hk).resolve_left hki) }
          · have := unl_set (n := ops.length) I.lsize (i := i) (by omega) ((ls_not (by rw [I.lsize]; omega)).2 hu)
            omega
        unfold wpOp
        simp only [show ops.toArray[i]? = some o by simpa using ho]
        rcases hv with ⟨hw, hON⟩ | ⟨hw, hRe⟩
        · rw [if_pos (by rw [hwt]; exact wantE.eq hA hw)]
          refine .inl ?_
          have hdoes := hON.ok _ w z _ hA.fits I.plo (by have := I.phi; rw [← bud_set Z.c (by rw [I.lsize]; exact hil) ((ls_not (by rw [I.lsize]; exact hil)).2 hu) ops.length, if_pos hil] at this; omega) (I.split hc ho hpre)
          rw [← hx] at hdoes
          exact hdoes.upon fun v w' ⟨H, p', hRv, hp1, hp2, hS⟩ => step v H p' w' hRv hp1 hp2 hS
        · rw [if_neg (by rw [hwt, wantE.eq hA hw]; exact Bool.false_ne_true)]
          exact step undef [] z w (by rw [hRe]; exact ⟨rfl, rfl⟩) (by omega) (by omega) (I.split hc ho hpre)

end D
end Go.Proofs.YtpodhahlbdlgeaaDoor
