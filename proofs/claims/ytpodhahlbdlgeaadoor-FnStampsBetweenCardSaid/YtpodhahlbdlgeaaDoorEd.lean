/- The engine, part 4: a region whose order is drawn: one walk in the text's order stands for all orders, where what each operation leaves is told of it alone. -/
import Derived.Test.YtpodhahlbdlgeaaDoorEc
namespace Go.Proofs.YtpodhahlbdlgeaaDoor
set_option linter.unusedVariables false
set_option linter.unusedSimpArgs false
namespace D
open Go.RowKit

/-! ### Who waits for whom -/
def mask (acc : List Nat) (o : Oper) : Nat := o.after.toList.foldl (fun s e => if Region.binds .any e then s ||| 2 ^ e.on ||| acc.getD e.on 0 else s) 0
def befs : List Oper → List Nat → List Nat
  | [], acc => acc
  | o :: r, acc => befs r (acc ++ [mask acc o])
def bef (ops : List Oper) (k : Nat) : Nat := (befs ops []).getD k 0
theorem mask_spec {acc : List Nat} {j : Nat} : ∀ (l : List Edge) (s : Nat), (l.foldl (fun s e => if Region.binds .any e then s ||| 2 ^ e.on ||| acc.getD e.on 0 else s) s).testBit j = true →
    s.testBit j = true ∨ ∃ e ∈ l, Region.binds .any e = true ∧ (e.on = j ∨ (acc.getD e.on 0).testBit j = true)
  | [], s, h => .inl h
  | e :: l, s, h => by
    simp only [List.foldl_cons] at h
    rcases mask_spec l _ h with h1 | ⟨e', he', h'⟩
    · split at h1
      · rename_i hb
        simp only [Nat.testBit_or, Bool.or_eq_true, Nat.testBit_two_pow, decide_eq_true_eq] at h1
        rcases h1 with (h1 | h1) | h1
        · exact .inl h1
        · exact .inr ⟨e, List.Mem.head _, hb, .inl h1⟩
        · exact .inr ⟨e, List.Mem.head _, hb, .inr h1⟩
      · exact .inl h1
    · exact .inr ⟨e', List.Mem.tail _ he', h'⟩
theorem befs_old : ∀ (l : List Oper) (acc : List Nat) (k : Nat), k < acc.length → (befs l acc).getD k 0 = acc.getD k 0
  | [], _, _, _ => rfl
  | o :: r, acc, k, h => by
    rw [befs, befs_old r _ k (by simp; omega)]
    simp [List.getD, List.getElem?_append, h]
theorem befs_len : ∀ (l : List Oper) (acc : List Nat), (befs l acc).length = acc.length + l.length
  | [], _ => rfl
  | o :: r, acc => by rw [befs, befs_len r]; simp; omega
theorem befs_spec : ∀ (l : List Oper) (acc : List Nat) (k j : Nat), acc.length ≤ k → ((befs l acc).getD k 0).testBit j = true →
    ∃ o, l[k - acc.length]? = some o ∧ ∃ e ∈ o.after.toList, Region.binds .any e = true ∧ (e.on = j ∨ ((befs l acc).getD e.on 0).testBit j = true)
  | [], acc, k, j, hk, h => by
    simp [befs, List.getD, List.getElem?_eq_none hk] at h
  | o :: r, acc, k, j, hk, h => by
    rw [befs] at h ⊢
    by_cases hk' : k = acc.length
    · subst hk'
      rw [befs_old r _ _ (by simp)] at h
      simp only [List.getD, List.getElem?_append, Nat.lt_irrefl, if_false, Nat.sub_self, List.getElem?_cons_zero, Option.getD_some] at h
      obtain h0 | ⟨e, he, hb, h1⟩ := mask_spec _ _ h
      · simp at h0
      · refine ⟨o, by simp, e, he, hb, h1.imp id fun h2 => ?_⟩
        have hlt : e.on < acc.length := by
          rcases Nat.lt_or_ge e.on acc.length with h | h
          · exact h
          · simp [List.getD, List.getElem?_eq_none h] at h2
        rw [befs_old r _ _ (by simp; omega)]
        simpa [List.getD, List.getElem?_append, hlt] using h2
    · obtain ⟨o', ho, he⟩ := befs_spec r (acc ++ [mask acc o]) k j (by simp; omega) h
      refine ⟨o', ?_, he⟩
      have e : k - acc.length = (k - (acc ++ [mask acc o]).length) + 1 := by simp; omega
      rw [e]
      simpa using ho
theorem bef_spec {ops : List Oper} {k j : Nat} (h : (bef ops k).testBit j = true) : ∃ o, ops[k]? = some o ∧ ∃ e ∈ o.after.toList, Region.binds .any e = true ∧ (e.on = j ∨ (bef ops e.on).testBit j = true) := by
  simpa [bef] using befs_spec ops [] k j (Nat.zero_le _) h

/-! ### The walk in the text's order -/
abbrev Sp := Option (Value → SH → Prop)
def isPure : Sp → Bool
  | none => true
  | some _ => false
def sel (ops : List Oper) (i : Nat) (acc : List (Nat × SH)) : SH := ((acc.filter fun p => (bef ops i).testBit p.1).map (·.2)).flatten
def allH (acc : List (Nat × SH)) : SH := (acc.map (·.2)).flatten
/-- What has been handed out by number i. -/
def consA (i : Nat) (H : SH) (acc : List (Nat × SH)) : List (Nat × SH) := match H with
  | [] => acc
  | x :: r => (i, x :: r) :: acc
theorem allH_consA (i : Nat) (H : SH) (acc : List (Nat × SH)) : allH (consA i H acc) = H ++ allH acc := by cases H <;> simp [consA, allH]
theorem mem_consA {i : Nat} {H : SH} {acc : List (Nat × SH)} {p : Nat × SH} (h : p ∈ consA i H acc) : p = (i, H) ∨ p ∈ acc := by
  cases H with
  | nil => exact .inr h
  | cons x r => exact List.mem_cons.1 h
theorem consA_pairwise {i : Nat} {H : SH} {acc : List (Nat × SH)} (h : acc.Pairwise (fun a b => a.1 ≠ b.1)) (hi : ∀ p ∈ acc, i ≠ p.1) : (consA i H acc).Pairwise (fun a b => a.1 ≠ b.1) := by
  cases H with
  | nil => exact h
  | cons x r => exact .cons (fun p hp => hi p hp) h
/-- What a region's calls may turn: the blocks lent, told by a number that grows by at most c i at operation i, from lo on. -/
structure Lend where
  pre : Int → SH
  c : Nat → Nat
  lo : Int
  hi : Int
/-- Makes memory, and may turn what is lent. -/
structure OP (P : Program) (w0 : World) (Z : Lend) (k : Nat) (o : Oper) (e : Env) (hs : SH) (R : Value → SH → Prop) : Prop where
  ok : ∀ ρ w p F, Fits e ρ → Z.lo ≤ p → p + k ≤ Z.hi → St w0 (Z.pre p ++ (hs ++ F)) w → Does P (execOp ρ o) w fun v w' => ∃ H p', R v H ∧ p ≤ p' ∧ p' ≤ p + k ∧ St w0 (H ++ (Z.pre p' ++ (hs ++ F))) w'
theorem OP.on {P : Program} {w0 : World} {Z : Lend} {k : Nat} {o : Oper} {e : Env} {hs : SH} {R : Value → SH → Prop} (h : ON P o e w0 hs R) : OP P w0 Z k o e hs R := .mk fun ρ w p F hf h1 h2 hst =>
  (h.ok ρ w hf (hst.sub ((List.sublist_append_left hs F).trans (List.sublist_append_right _ _)))).mono fun v w' ⟨H, hR, hn⟩ => ⟨H, p, hR, by omega, by omega, hst.new hn⟩
def RG (P : Program) (n : Nat) (w0 : World) (Z : Lend) (ops : List Oper) (hs : SH) (K : Env → SH → Prop) : Nat → List Oper → List Sp → Env → List (Nat × SH) → SH → Prop
  | _, [], [], e, acc, own => K e own
  | i, o :: os, none :: Rs, e, acc, own => dstOk n o.dst = true ∧ ∃ v, ((wantE ops e o = some true ∧ PV P o e v) ∨ (wantE ops e o = some false ∧ v = undef)) ∧ RG P n w0 Z ops hs K (i + 1) os Rs (consE o.dst v e) acc own
  | i, o :: os, some R :: Rs, e, acc, own => dstOk n o.dst = true ∧ ((wantE ops e o = some true ∧ OP P w0 Z (Z.c i) o e (sel ops i acc ++ hs) R) ∨ (wantE ops e o = some false ∧ R = fun v H => v = undef ∧ H = [])) ∧
      ∀ v H, R v H → RG P n w0 Z ops hs K (i + 1) os Rs (consE o.dst v e) (consA i H acc) (H ++ own)
  | _, _, _, _, _, _ => False

/-- What the text must show (a closed fact). -/
def chk (ops : List Oper) (m : Nat) (pure : List Bool) : Bool :=
  let bs := befs ops []
  let N := ops.length
  pure.length == m && Nat.ble m N && Region.noSelect ops.toArray &&
  (ops.zipIdx.all fun (o, i) =>
    (o.after.toList.all fun e => !Region.binds .any e || Nat.blt e.on i) &&
    (if Nat.blt i m then
      ((o.looksAt ops.toArray).all fun t => ops.zipIdx.all fun (oj, j) => oj.dst != some t || (Nat.blt j i && (bs.getD i 0).testBit j)) &&
      (ops.zipIdx.all fun (oj, j) => j == i || o.dst.isNone || oj.dst != o.dst) &&
      (!pure.getD i false || ops.zipIdx.all fun (oj, j) => j == i || oj.after.any (fun e => Region.binds .any e && e.on == i) || (bs.getD i 0).testBit j || o.apart ops.toArray oj)
    else
      ((List.range i).all fun j => (Nat.blt j m && pure.getD j false) || (bs.getD i 0).testBit j)))

theorem blt_iff {a b : Nat} : Nat.blt a b = true ↔ a < b := by rw [Nat.blt_eq]
structure Chk (ops : List Oper) (m : Nat) (pure : List Bool) : Prop where
  len : pure.length = m
  le : m ≤ ops.length
  nosel : Region.noSelect ops.toArray = true
  back : ∀ (i : Nat) o, ops[i]? = some o → ∀ e ∈ o.after.toList, Region.binds .any e = true → e.on < i
  looks : ∀ (i : Nat) o, ops[i]? = some o → i < m → ∀ t ∈ o.looksAt ops.toArray, ∀ (j : Nat) oj, ops[j]? = some oj → oj.dst = some t → j < i ∧ (bef ops i).testBit j = true
  uniq : ∀ (i : Nat) o, ops[i]? = some o → i < m → ∀ (j : Nat) oj, ops[j]? = some oj → j ≠ i → ∀ t, o.dst = some t → oj.dst ≠ some t
  free : ∀ (i : Nat) o, ops[i]? = some o → i < m → pure.getD i false = true → ∀ (j : Nat) oj, ops[j]? = some oj → j ≠ i → (∃ e ∈ oj.after.toList, Region.binds .any e = true ∧ e.on = i) ∨ (bef ops i).testBit j = true ∨ o.apart ops.toArray oj = true
  late : ∀ (i : Nat) o, ops[i]? = some o → m ≤ i → ∀ j, j < i → (j < m ∧ pure.getD j false = true) ∨ (bef ops i).testBit j = true
theorem zipIdx_all {α : Type} {l : List α} {f : α × Nat → Bool} (h : l.zipIdx.all f = true) {i : Nat} {x : α} (hx : l[i]? = some x) : f (x, i) = true := by
  refine List.all_eq_true.1 h (x, i) ?_
  exact List.mk_mem_zipIdx_iff_getElem?.2 hx
theorem chk_spec {ops : List Oper} {m : Nat} {pure : List Bool} (h : chk ops m pure = true) : Chk ops m pure := by
  simp only [chk, Bool.and_eq_true, beq_iff_eq] at h
  obtain ⟨⟨⟨h1, h2⟩, h3⟩, h4⟩ := h
  have h4' := fun (i : Nat) o (ho : ops[i]? = some o) => zipIdx_all h4 ho
  simp only [Bool.and_eq_true] at h4'
  refine ⟨h1, Nat.le_of_ble_eq_true h2, h3, fun i o ho e he hb => ?_, fun i o ho hi t ht j oj hj hd => ?_, fun i o ho hi j oj hj hne t ht => ?_, fun i o ho hi hp j oj hj hne => ?_, fun i o ho hi j hj => ?_⟩
  · have := List.all_eq_true.1 (h4' i o ho).1 e he
    simp only [hb, Bool.not_true, Bool.false_or] at this
    exact blt_iff.1 this
  · have := (h4' i o ho).2
    rw [if_pos (blt_iff.2 hi)] at this
    simp only [Bool.and_eq_true] at this
    have := zipIdx_all (List.all_eq_true.1 this.1.1 t ht) hj
    simp only [hd, bne_self_eq_false, Bool.false_or, Bool.and_eq_true] at this
    exact ⟨blt_iff.1 this.1, this.2⟩
  · have := (h4' i o ho).2
    rw [if_pos (blt_iff.2 hi)] at this
    simp only [Bool.and_eq_true] at this
    have := zipIdx_all this.1.2 hj
    intro hd
    simp [hne, ht, hd] at this
  · have := (h4' i o ho).2
    rw [if_pos (blt_iff.2 hi)] at this
    simp only [Bool.and_eq_true] at this
    have := this.2
    rw [hp] at this
    simp only [Bool.not_true, Bool.false_or] at this
    have := zipIdx_all this hj
    simp only [Bool.or_eq_true, beq_iff_eq, hne, false_or] at this
    rcases this with (h | h) | h
    · obtain ⟨e, he, hb⟩ := Array.any_eq_true'.1 h
      simp only [Bool.and_eq_true, beq_iff_eq] at hb
      exact .inl ⟨e, by simpa using he, hb⟩
    · exact .inr (.inl h)
    · exact .inr (.inr h)
  · have := (h4' i o ho).2
    rw [if_neg (by intro h; have := blt_iff.1 h; omega)] at this
    have := List.all_eq_true.1 this j (by simpa using hj)
    simp only [Bool.or_eq_true, Bool.and_eq_true] at this
    exact this.imp (fun h => ⟨blt_iff.1 h.1, h.2⟩) id

end D
end Go.Proofs.YtpodhahlbdlgeaaDoor
