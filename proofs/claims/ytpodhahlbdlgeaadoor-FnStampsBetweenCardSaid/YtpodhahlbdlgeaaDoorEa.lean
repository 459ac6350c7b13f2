/- The engine, part 1: a walk over opaque worlds: what the slots hold (a list), what blocks the call has made (a list). No function of the program in sight. -/
import Derived.Test.YtpodhahlbdlgeaaDoorPlain
namespace Go.Proofs.YtpodhahlbdlgeaaDoor
set_option linter.unusedVariables false
set_option linter.unusedSimpArgs false
namespace D
open Go.RowKit

/-! ### What the slots hold -/
abbrev Env := List (Nat × Value)
def get : Env → Nat → Option Value
  | [], _ => none
  | (k, v) :: r, t => bif Nat.beq k t then some v else get r t
def nthL {α : Type} : List α → Nat → Option α
  | [], _ => none
  | x :: _, 0 => some x
  | _ :: r, k + 1 => nthL r k
def ev (e : Env) : Operand → Option Value
  | .tmp t => get e t
  | .const v => some v
  | .global g => some (.pointer (some ⟨g, 0, none⟩))
  | .func f => some (.func (.func f) #[] #[])
def evs (e : Env) : List Operand → Option (List Value)
  | [] => some []
  | x :: r => match ev e x with
    | some v => match evs e r with
      | some vs => some (v :: vs)
      | none => none
    | none => none
structure At (n : Nat) (ds : List Deferred) (e : Env) (a : Act) : Prop where
  size : a.tmps.size = n
  defers : a.defers = ds
  val : ∀ t v, get e t = some v → a.tmps[t]? = some v
def Fits (e : Env) (ρ : Operand → Value) : Prop := ∀ x v, ev e x = some v → ρ x = v
theorem At.fits {n : Nat} {ds : List Deferred} {e : Env} {a : Act} (h : At n ds e a) : Fits e a.eval := by
  intro x v hx
  cases x with
  | tmp t => simp [Act.eval, h.val t v hx]
  | const u => simpa [ev, Act.eval] using hx
  | global g => simpa [ev, Act.eval] using hx
  | func f => simpa [ev, Act.eval] using hx
def consE (d : Option Tmp) (v : Value) (e : Env) : Env := match d with
  | some d => (d, v) :: e
  | none => e
def dstOk (n : Nat) : Option Tmp → Bool
  | some d => Nat.blt d n
  | none => true
theorem At.put {n : Nat} {ds : List Deferred} {e : Env} {a : Act} (h : At n ds e a) {d : Option Tmp} (v : Value) (hd : dstOk n d = true) : At n ds (consE d v e) (a.put d v) := by
  cases d with
  | none => exact h
  | some d =>
    have hd' : d < n := by simpa [dstOk, Nat.blt_eq] using hd
    refine ⟨by simp [Act.put, h.size], h.defers, fun t u ht => ?_⟩
    simp only [consE, get] at ht
    cases hb : Nat.beq d t with
    | true =>
      obtain rfl := Nat.eq_of_beq_eq_true hb
      rw [hb] at ht
      simp only [cond_true, Option.some.injEq] at ht
      subst ht
      simp [Act.put, h.size, hd']
    | false =>
      have hne := Nat.ne_of_beq_eq_false hb
      rw [hb] at ht
      simp only [cond_false] at ht
      simp only [Act.put, Array.getElem?_setIfInBounds_ne hne]
      exact h.val t u ht
/-- A shorter list of what the slots hold. -/
def Sub : Env → Env → Prop
  | [], _ => True
  | (t, v) :: r, e => get e t = some v ∧ Sub r e
theorem Sub.nil {e : Env} : Sub [] e := trivial
theorem Sub.cons {e r : Env} {t : Nat} {u v : Value} (h1 : get e t = some u) (h2 : u = v) (h : Sub r e) : Sub ((t, v) :: r) e := ⟨h2 ▸ h1, h⟩
theorem Sub.get {e' e : Env} (h : Sub e' e) {t : Nat} {v : Value} (ht : get e' t = some v) : get e t = some v := by
  induction e' with
  | nil => cases ht
  | cons p r ih =>
    obtain ⟨k, u⟩ := p
    simp only [D.get] at ht
    cases hb : Nat.beq k t with
    | true =>
      obtain rfl := Nat.eq_of_beq_eq_true hb
      rw [hb] at ht
      simp only [cond_true, Option.some.injEq] at ht
      subst ht
      exact h.1
    | false =>
      rw [hb] at ht
      exact ih h.2 ht
theorem At.sub {n : Nat} {ds : List Deferred} {e e' : Env} {a : Act} (h : At n ds e a) (hs : Sub e' e) : At n ds e' a :=
  ⟨h.size, h.defers, fun t v ht => h.val t v (hs.get ht)⟩

/-! ### What blocks the call has made -/
inductive Blk where
  | cells (T : TypeId) (vs : List Value)
  | obj (o : Obj)
def Blk.toObj : Blk → Obj
  | .cells T vs => .cells vs.toArray T (0, 0)
  | .obj o => o
abbrev SH := List (Nat × Blk)
structure New (H : SH) (w w' : World) : Prop where
  low : Below w.heap.size w w'
  own : ∀ e ∈ H, w.heap.size ≤ e.1 ∧ w'.heap[e.1]? = some e.2.toObj
  dis : H.Pairwise (fun a b => a.1 ≠ b.1)
structure St (w0 : World) (hs : SH) (w : World) : Prop where
  zero : Base w0
  low : Below w0.heap.size w0 w
  own : ∀ e ∈ hs, w0.heap.size ≤ e.1 ∧ w.heap[e.1]? = some e.2.toObj
  dis : hs.Pairwise (fun a b => a.1 ≠ b.1)
theorem St.base {w0 w : World} {hs : SH} (h : St w0 hs w) : Base w := h.zero.low h.low
theorem lt_of_some {w : World} {b : Nat} {o : Obj} (h : w.heap[b]? = some o) : b < w.heap.size := (Array.getElem?_eq_some_iff.1 h).1
theorem New.of_below {w w' : World} (h : Below w.heap.size w w') : New [] w w' := ⟨h, fun _ h => (by cases h), .nil⟩
theorem New.refl (w : World) : New [] w w := .of_below (Below.refl _ _)
theorem St.start {w0 : World} (hb : Base w0) : St w0 [] w0 := ⟨hb, Below.refl _ _, fun _ h => (by cases h), .nil⟩
theorem St.new {w0 w w' : World} {hs H : SH} (h : St w0 hs w) (k : New H w w') : St w0 (H ++ hs) w' := by
  refine ⟨h.zero, h.low.trans (k.low.mono h.low.size), fun e he => ?_, ?_⟩
  · rcases List.mem_append.1 he with he | he
    · exact ⟨Nat.le_trans h.low.size (k.own e he).1, (k.own e he).2⟩
    · have h1 := h.own e he
      exact ⟨h1.1, (k.low.block e.1 (lt_of_some h1.2)).trans h1.2⟩
  · refine List.pairwise_append.2 ⟨k.dis, h.dis, fun x hx y hy => ?_⟩
    have h1 := (k.own x hx).1
    have h2 := lt_of_some (h.own y hy).2
    omega
theorem St.drew {w0 w : World} {hs : SH} (h : St w0 hs w) : St w0 hs w.drew := by simpa using h.new (New.of_below (Below.refl _ _).drew)
/-- What was made since the call began. -/
theorem St.newAll {w0 w : World} {hs : SH} (h : St w0 hs w) : New hs w0 w := ⟨h.low, h.own, h.dis⟩
theorem New.sub {w w' : World} {H H' : SH} (h : New H w w') (hs : H'.Sublist H) : New H' w w' := ⟨h.low, fun e he => h.own e (hs.subset he), h.dis.sublist hs⟩
theorem St.sub {w0 w : World} {hs hs' : SH} (h : St w0 hs w) (k : hs'.Sublist hs) : St w0 hs' w := ⟨h.zero, h.low, fun e he => h.own e (k.subset he), h.dis.sublist k⟩
theorem St.perm {w0 w : World} {hs hs' : SH} (h : St w0 hs w) (k : hs.Perm hs') : St w0 hs' w :=
  ⟨h.zero, h.low, fun e he => h.own e (k.mem_iff.2 he), (k.pairwise_iff (fun h => Ne.symm h)).1 h.dis⟩
theorem St.heap {w0 w : World} {hs : SH} (h : St w0 hs w) {b : Nat} {T : TypeId} {vs : List Value} (hm : (b, Blk.cells T vs) ∈ hs) : w.heap[b]? = some (.cells vs.toArray T (0, 0)) := (h.own _ hm).2
theorem New.alloc (w : World) (k : Blk) : New [(w.heap.size, k)] w (w.alloc k.toObj) := by
  refine ⟨(Below.refl _ _).alloc (Nat.le_refl _) _, fun e he => ?_, .cons (fun _ h => by cases h) .nil⟩
  obtain rfl : e = (w.heap.size, k) := by simpa using he
  exact ⟨Nat.le_refl _, heap_alloc_new w _⟩
/-- The block of number b is turned: the list, before and after. -/
inductive Upd (b : Nat) (o n : Blk) : SH → SH → Prop where
  | here {r : SH} : Upd b o n ((b, o) :: r) ((b, n) :: r)
  | there {p : Nat × Blk} {r r' : SH} (h : Upd b o n r r') : Upd b o n (p :: r) (p :: r')
theorem Upd.mem {b : Nat} {o n : Blk} {hs hs' : SH} (h : Upd b o n hs hs') : (b, o) ∈ hs := by
  induction h with
  | here => exact List.Mem.head _
  | there _ ih => exact List.Mem.tail _ ih
theorem Upd.keys {b : Nat} {o n : Blk} {hs hs' : SH} (h : Upd b o n hs hs') : hs'.map (·.1) = hs.map (·.1) := by
  induction h with
  | here => rfl
  | there _ ih => simp [ih]
theorem Upd.of {b : Nat} {o n : Blk} {hs hs' : SH} (h : Upd b o n hs hs') (hd : hs.Pairwise (fun a b => a.1 ≠ b.1)) : ∀ e ∈ hs', e = (b, n) ∨ (e ∈ hs ∧ e.1 ≠ b) := by
  induction h with
  | here =>
    intro e he
    rcases List.mem_cons.1 he with rfl | he
    · exact .inl rfl
    · exact .inr ⟨List.Mem.tail _ he, ((List.pairwise_cons.1 hd).1 e he).symm⟩
  | there h ih =>
    intro e he
    have hd' := List.pairwise_cons.1 hd
    rcases List.mem_cons.1 he with rfl | he
    · exact .inr ⟨List.Mem.head _, hd'.1 _ h.mem⟩
    · rcases ih hd'.2 e he with h1 | h1
      · exact .inl h1
      · exact .inr ⟨List.Mem.tail _ h1.1, h1.2⟩
theorem pairwise_keys : ∀ {hs hs' : SH}, hs'.map (·.1) = hs.map (·.1) → hs.Pairwise (fun a b => a.1 ≠ b.1) → hs'.Pairwise (fun a b => a.1 ≠ b.1) := by
  intro hs hs' he h
  have h1 : (hs.map (·.1)).Pairwise (· ≠ ·) := List.pairwise_map.2 h
  rw [← he] at h1
  exact List.pairwise_map.1 h1
/-- A block of the call's own is turned; all else is as it was. -/
theorem St.upd {w0 w w' : World} {hs hs' : SH} {b : Nat} {o n : Blk} (h : St w0 hs w) (u : Upd b o n hs hs') (hw : w'.heap[b]? = some n.toObj) (ho : ∀ k, k ≠ b → w'.heap[k]? = w.heap[k]?)
    (hsz : w'.heap.size = w.heap.size) (h1 : w'.os = w.os) (h2 : w'.tape = w.tape) (h3 : w'.output = w.output) : St w0 hs' w' := by
  have hm := h.own _ u.mem
  have hl : Below w0.heap.size w0 w' := h.low.trans ⟨h1, h2, h3, by omega, fun k hk => ho k (by have := hm.1; simp only at this; omega)⟩
  refine ⟨h.zero, hl, fun e he => ?_, pairwise_keys u.keys h.dis⟩
  rcases u.of h.dis e he with rfl | ⟨he, hne⟩
  · exact ⟨hm.1, hw⟩
  · exact ⟨(h.own e he).1, (ho e.1 hne).trans (h.own e he).2⟩

/-- A shorter list of blocks. -/
inductive SubH : SH → SH → Prop where
  | nil {hs : SH} : SubH [] hs
  | cons {b : Nat} {T : TypeId} {vs vs' : List Value} {r r' : SH} (hv : vs = vs') (h : SubH r' r) : SubH ((b, .cells T vs') :: r') ((b, .cells T vs) :: r)
  | skip {p : Nat × Blk} {r r' : SH} (h : SubH r' r) : SubH r' (p :: r)
theorem SubH.sl {hs hs' : SH} (h : SubH hs' hs) : hs'.Sublist hs := by
  induction h with
  | nil => exact List.nil_sublist _
  | cons hv h ih => subst hv; exact .cons_cons _ ih
  | skip h ih => exact .cons _ ih

/-! ### Lists of cells -/
inductive Rd : Nat → Nat → List Value → List Value → Prop where
  | nil {r : List Value} : Rd 0 0 r []
  | take {k : Nat} {x : Value} {r us : List Value} (h : Rd 0 k r us) : Rd 0 (k + 1) (x :: r) (x :: us)
  | skip {o k : Nat} {x : Value} {r us : List Value} (h : Rd o k r us) : Rd (o + 1) k (x :: r) us
theorem Rd.length {o k : Nat} {vs us : List Value} (h : Rd o k vs us) : us.length = k := by
  induction h with
  | nil => rfl
  | take _ ih => simp [ih]
  | skip _ ih => exact ih
theorem Rd.at {o k : Nat} {vs us : List Value} (h : Rd o k vs us) : ∀ j v, us[j]? = some v → vs[o + j]? = some v := by
  induction h with
  | nil => intro j v h; simp at h
  | take _ ih =>
    intro j v hj
    cases j with
    | zero => simpa using hj
    | succ j =>
      have := ih j v (by simpa using hj)
      simpa [Nat.zero_add] using this
  | skip _ ih =>
    intro j v hj
    have := ih j v hj
    rw [Nat.add_right_comm]
    simpa using this
/-- The list behind a write at a place. -/
inductive Wr : Nat → List Value → List Value → List Value → Prop where
  | nil {r : List Value} : Wr 0 [] r r
  | put {x y : Value} {us r r' : List Value} (h : Wr 0 us r r') : Wr 0 (y :: us) (x :: r) (y :: r')
  | skip {o : Nat} {x : Value} {us r r' : List Value} (h : Wr o us r r') : Wr (o + 1) us (x :: r) (x :: r')
theorem Wr.eq {o : Nat} {us vs vs' : List Value} (h : Wr o us vs vs') : vs' = vs.take o ++ us ++ vs.drop (o + us.length) ∧ o + us.length ≤ vs.length := by
  induction h with
  | nil => simp
  | put _ ih => obtain ⟨h1, h2⟩ := ih; simp at h1 h2 ⊢; exact ⟨by rw [h1], by omega⟩
  | skip _ ih =>
    obtain ⟨h1, h2⟩ := ih
    refine ⟨?_, by simp; omega⟩
    rw [Nat.add_right_comm]
    simp [h1]

end D
end Go.Proofs.YtpodhahlbdlgeaaDoor
