/- The engine: lists of elements of any type, each of which has as many cells. -/
import Derived.Test.YtpgbmohocfcjpaaGreatDoorEI
import Derived.Test.YtpgbmohocfcjpaaGreatDoorE3m
namespace Go.Proofs.YtpgbmohocfcjpaaGreatDoor
set_option linter.unusedVariables false
set_option linter.unusedSimpArgs false
set_option maxRecDepth 100000
namespace D
open Go.RowKit

variable {P : Program} {e : Env} {w0 : World} {hs : SH} {d : Option Tmp} {ty : TypeId} {pos : String} {af : Array Edge} {g : Option (Nat × Bool)}
variable {n : Nat} {ds : List Deferred} {ops : List Oper} {Q : Exit → Act → World → Prop} {l : List Oper}

theorem L.perm' {hs' : SH} (hp : hs.Perm hs') (h : L P n ds w0 ops Q l e hs') : L P n ds w0 ops Q l e hs := .mk fun a w ha hst => h.ok a w ha (hst.perm hp)
theorem X.perm' {x : Exit} {hs' : SH} (hp : hs.Perm hs') (h : X n ds w0 Q x e hs') : X n ds w0 Q x e hs := .mk fun a w ha hst => h.ok a w ha (hst.perm hp)
theorem C.perm' {c : Code} {hs' : SH} (hp : hs.Perm hs') (h : C P n ds w0 Q c e hs') : C P n ds w0 Q c e hs := .mk fun a w ha hst => h.ok a w ha (hst.perm hp)

/-- Elements as cells. -/
structure El (α : Type) where
  T : TypeId
  sz : Nat
  fc : α → List Value
  dft : α
  len : ∀ x, (fc x).length = sz
  one : ∀ x, ∀ u ∈ fc x, u.oneCell' = true
variable {α : Type} (E : El α)

def El.at (M : List α) (i : Nat) : α := M.getD i E.dft
theorem El.at_some {M : List α} {i : Nat} (h : i < M.length) : M[i]? = some (E.at M i) := by simp [El.at, List.getD, h]
theorem El.at_mem {M : List α} {i : Nat} (h : i < M.length) : E.at M i ∈ M := List.mem_of_getElem? (E.at_some h)
/-- A list that can be read. -/
def El.Rd (w : World) (p : Option Addr) (A : List α) : Prop := ∀ i x, A[i]? = some x → ∃ b o, p = some ⟨b, o, none⟩ ∧ ∀ j u, (E.fc x)[j]? = some u → w.cell? ⟨b, o + i * E.sz + j, none⟩ = some u
theorem El.Rd.keep {w w' : World} {p : Option Addr} {A : List α} (h : E.Rd w p A) (hb : Below w.heap.size w w') : E.Rd w' p A := fun i x hi => by
  obtain ⟨b, o, hp, h1⟩ := h i x hi
  exact ⟨b, o, hp, fun j u hj => (hb.cell (World.block_lt_of_cell? _ _ (h1 j u hj))).trans (h1 j u hj)⟩
theorem El.Rd.nil {w : World} {p : Option Addr} : E.Rd w p [] := fun i x h => by simp at h
theorem El.Rd.get {w : World} {p : Option Addr} {A : List α} (h : E.Rd w p A) {i : Int} (h0 : 0 ≤ i) (h1 : i < A.length) : ∃ b o, p = some ⟨b, o, none⟩ ∧ ∀ j u, (E.fc (E.at A i.toNat))[j]? = some u → w.cell? ⟨b, o + i.toNat * E.sz + j, none⟩ = some u :=
  h i.toNat _ (E.at_some (by omega))
abbrev El.blk (M : List α) (pad : List Value) : Blk := .cells E.T (flat E.fc M ++ pad)
theorem El.own {w : World} {hs : SH} {b : Nat} {A : List α} {pad : List Value} (hst : St w0 hs w) (hm : (b, E.blk A pad) ∈ hs) : E.Rd w (some ⟨b, 0, none⟩) A := fun i x hi => by
  have h := flat_get E.len A pad i x hi
  refine ⟨b, 0, rfl, fun j u hj => ?_⟩
  have := hst.cell hm (h j u hj)
  simpa using this
/-- A place in a block of the call's own. -/
theorem El.own_at {M : List α} {pad : List Value} {i : Int} (h0 : 0 ≤ i) (h1 : i < M.length) : ∀ j u, (E.fc (E.at M i.toNat))[j]? = some u → (flat E.fc M ++ pad)[0 + i.toNat * E.sz + j]? = some u := fun j u hj => by
  rw [Nat.zero_add]
  exact flat_get E.len M pad i.toNat _ (E.at_some (by omega)) j u hj
/-- What is to hold of a made slice's room. -/
structure El.Sf (M : List α) (c : Nat) (pad : List Value) : Prop where
  le : M.length ≤ c
  lt : c ≤ 9223372036854775807
  len : (flat E.fc M ++ pad).length = c * E.sz
/-- A made slice. -/
def El.S (M : List α) : Value → SH → Prop := fun v H => ∃ (b c : Nat) (pad : List Value), v = .slice (some ⟨b, 0, none⟩) M.length c ∧ H = [(b, E.blk M pad)] ∧ E.Sf M c pad
theorem El.Sf.nil : E.Sf [] 0 [] := ⟨Nat.le_refl _, by omega, by simp [flat]⟩
theorem El.Sf.sls {M : List α} {b c : Nat} {pad : List Value} (h : E.Sf M c pad) : SlS E.T E.sz M.length (flat E.fc M) (.slice (some ⟨b, 0, none⟩) M.length c) [(b, E.blk M pad)] :=
  .inr ⟨b, c, pad, rfl, rfl, h.le, h.lt, h.len, flat_length E.len M⟩
theorem El.of_sls {M : List α} {v : Value} {H : SH} (hL : M ≠ []) (h : SlS E.T E.sz M.length (flat E.fc M) v H) : E.S M v H := by
  rcases h with ⟨_, h, _, _⟩ | ⟨b, c, pad, rfl, rfl, h1, h2, h3, _⟩
  · exact (hL (List.eq_nil_of_length_eq_zero h)).elim
  · exact ⟨b, c, pad, rfl, rfl, h1, h2, h3⟩
theorem El.one_flat (M : List α) : ∀ u ∈ flat E.fc M, u.oneCell' = true := fun u hu => by
  simp only [flat, List.mem_flatten, List.mem_map] at hu
  obtain ⟨l, ⟨r, _, rfl⟩, hu⟩ := hu
  exact E.one r u hu
theorem Tail.of' {H : SH} : ∀ F : SH, Tail H F (F ++ H)
  | [] => .nil
  | _ :: r => .cons (Tail.of' r)
/-- One element more, which lies in a block of its own. -/
theorem L.gapp {t bytes : Nat} [i : Ap P t E.T E.sz bytes] {M : List α} {x : α} {b c b1 c1 : Nat} {T' : TypeId} {F : SH} {pad : List Value} {xa : List Operand} (hS : E.Sf M c pad)
    (hp : Pull (b, E.blk M pad) hs F := by (repeat (first | exact Pull.here | apply Pull.there)))
    (hw : wantE ops e ⟨d, .call ⟨.builtin .append, xa.toArray, #[t, t]⟩, ty, pos, af, g⟩ = some true := by exact rfl) (hd : dstOk n d = true := by exact rfl) (hv : evs e xa = some [.slice (some ⟨b, 0, none⟩) M.length c, .slice (some ⟨b1, 0, none⟩) 1 c1] := by exact rfl)
    (hm : (b1, Blk.cells T' (E.fc x)) ∈ hs := by (repeat (first | exact List.Mem.head _ | apply List.Mem.tail))) (hb : (M.length + 1) * bytes ≤ 140737488355328) (hb2 : M.length ≤ 1000000000000)
    (kk : ∀ (b' c' : Nat) (pad' : List Value), E.Sf (M ++ [x]) c' pad' → L P n ds w0 ops Q l (consE d (.slice (some ⟨b', 0, none⟩) (M.length + 1) c') e) ((b', E.blk (M ++ [x]) pad') :: F)) : L P n ds w0 ops Q (⟨d, .call ⟨.builtin .append, xa.toArray, #[t, t]⟩, ty, pos, af, g⟩ :: l) e hs := by
  have hq : hs.Perm (F ++ [(b, E.blk M pad)]) := hp.perm.trans (List.perm_append_singleton _ _).symm
  have hm' := hq.mem_iff.1 hm
  refine L.perm' hq (L.app (us := E.fc x) (k := M.length) (xs := flat E.fc M) (H := [(b, E.blk M pad)]) (F := F) (c := c1) (b := b1) (o := 0) (m := 1) hS.sls hw hd hv (Tail.of' F) (fun w hst j u hj => by rw [Nat.zero_add]; exact hst.cell hm' hj) (by rw [E.len, Nat.one_mul]) (E.one x) hb (by omega) fun v' H' hS' => ?_)
  rw [show flat E.fc M ++ E.fc x = flat E.fc (M ++ [x]) from (flat_snoc E.fc M x).symm] at hS'
  have e1 : M.length + 1 = (M ++ [x]).length := by simp
  rw [e1] at hS'
  obtain ⟨b', c', pad', rfl, rfl, hR⟩ := E.of_sls (by simp) hS'
  have := kk b' c' pad' hR
  rw [e1] at this
  exact L.perm' (List.perm_append_singleton _ _) this
/-- A store at a place of a list. -/
theorem wr_flat (M : List α) (pad : List Value) (k : Nat) (x : α) (hk : k < M.length) : Wr (k * E.sz) (E.fc x) (flat E.fc M ++ pad) (flat E.fc (M.set k x) ++ pad) := by
  have hput : ∀ (us vs rest : List Value), us.length = vs.length → Wr 0 us (vs ++ rest) (us ++ rest) := by
    intro us
    induction us with
    | nil => intro vs rest h; have : vs = [] := List.eq_nil_of_length_eq_zero h.symm; subst this; exact .nil
    | cons u r ih =>
      intro vs rest h
      cases vs with
      | nil => simp at h
      | cons v t => exact .put (ih t rest (by simpa using h))
  have hskip : ∀ (vs us r r' : List Value) (o : Nat), Wr o us r r' → Wr (vs.length + o) us (vs ++ r) (vs ++ r') := by
    intro vs
    induction vs with
    | nil => intro us r r' o h; simpa using h
    | cons v t ih =>
      intro us r r' o h
      have := ih us r r' o h
      rw [List.length_cons, show t.length + 1 + o = (t.length + o) + 1 by omega]
      exact .skip this
  induction M generalizing k with
  | nil => simp at hk
  | cons y t ih =>
    cases k with
    | zero =>
      have := hput (E.fc x) (E.fc y) (flat E.fc t ++ pad) (by rw [E.len, E.len])
      simpa [flat] using this
    | succ k =>
      have := hskip (E.fc y) _ _ _ _ (ih k (by simpa using hk))
      rw [E.len, Nat.succ_mul, Nat.add_comm] at *
      rw [Nat.add_comm] at this
      simpa [flat, Nat.succ_mul, Nat.add_comm] using this
theorem El.Sf.set {M : List α} {c : Nat} {pad : List Value} (h : E.Sf M c pad) (k : Nat) (x : α) : E.Sf (M.set k x) c pad := by
  refine ⟨by simpa using h.le, h.lt, ?_⟩
  have h1 := h.len
  have h2 := flat_length E.len M
  have h3 := flat_length E.len (M.set k x)
  rw [List.length_set] at h3
  rw [List.length_append] at h1 ⊢
  omega

end D
end Go.Proofs.YtpgbmohocfcjpaaGreatDoor
