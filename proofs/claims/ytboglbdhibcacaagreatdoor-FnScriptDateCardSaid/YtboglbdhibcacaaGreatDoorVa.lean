/- The plain mathematics of dates: no program in sight. -/
import Derived.WalkKit
import Derived.Lib.Hide
import Derived.Deep.QuietTactic
import Derived.StillTailTactics
import Derived.IntWalk
namespace Go.Proofs.YtboglbdhibcacaaGreatDoor
set_option linter.unusedVariables false
set_option linter.unusedSimpArgs false
namespace D
open Go.RowKit

def inR (n lo hi : Int) : Bool := decide (lo ≤ n ∧ n ≤ hi)
theorem inR_true {n lo hi : Int} : inR n lo hi = true ↔ lo ≤ n ∧ n ≤ hi := by simp [inR]
theorem inR_false {n lo hi : Int} : inR n lo hi = false ↔ ¬ (lo ≤ n ∧ n ≤ hi) := by simp [inR]
def leap (y : Int) : Bool := inR y 1 9999 && (y % 4 == 0) && (!(y % 100 == 0) || (y % 400 == 0))
def mdTab : List Int := [31, 28, 31, 30, 31, 30, 31, 31, 30, 31, 30, 31]
def md (y m : Int) : Int := if !inR y 1 9999 || !inR m 1 12 then 0 else if m = 2 ∧ leap y = true then 29 else mdTab.getD (m - 1).toNat 0
def dval (y m d : Int) : Bool := inR d 1 (md y m)
def ny (y : Int) : Int := 365 * (y - 1) + (y - 1) / 4 - (y - 1) / 100 + (y - 1) / 400
/-- How many days of a year are before its month k + 1. -/
def cumN (y : Int) : Nat → Int
  | 0 => 0
  | k + 1 => cumN y k + md y (k + 1)
def cum (y m : Int) : Int := cumN y (m - 1).toNat
def ord (y m d : Int) : Int := cum y m + d
def num (y m d : Int) : Int := ny y + ord y m d - 1

theorem md_bd (y m : Int) : 0 ≤ md y m ∧ md y m ≤ 31 := by
  unfold md
  split
  · omega
  · rename_i h
    split
    · omega
    · have h : inR m 1 12 = true := by simp_all
      have := inR_true.1 h
      obtain ⟨k, hk⟩ : ∃ k : Nat, m = k + 1 := ⟨(m - 1).toNat, by omega⟩
      subst hk
      have : k < 12 := by omega
      have e : ((k : Int) + 1 - 1).toNat = k := by omega
      rw [e]
      have : k = 0 ∨ k = 1 ∨ k = 2 ∨ k = 3 ∨ k = 4 ∨ k = 5 ∨ k = 6 ∨ k = 7 ∨ k = 8 ∨ k = 9 ∨ k = 10 ∨ k = 11 := by omega
      rcases this with rfl | rfl | rfl | rfl | rfl | rfl | rfl | rfl | rfl | rfl | rfl | rfl <;> simp [mdTab]
theorem cumN_bd (y : Int) (k : Nat) : 0 ≤ cumN y k ∧ cumN y k ≤ 31 * k := by
  induction k with
  | zero => simp [cumN]
  | succ k ih =>
    have := md_bd y (k + 1)
    simp only [cumN]
    omega
theorem dval_bd {y m d : Int} (h : dval y m d = true) : 1 ≤ y ∧ y ≤ 9999 ∧ 1 ≤ m ∧ m ≤ 12 ∧ 1 ≤ d ∧ d ≤ 31 ∧ d ≤ md y m := by
  unfold dval at h
  have h1 := inR_true.1 h
  have h2 := md_bd y m
  have h3 : inR y 1 9999 = true ∧ inR m 1 12 = true := by
    cases a : inR y 1 9999 <;> cases b : inR m 1 12 <;> simp [md, a, b] at h1 ⊢ <;> omega
  have := inR_true.1 h3.1
  have := inR_true.1 h3.2
  omega
theorem cum_succ (y m : Int) (h : 1 ≤ m) : cum y (m + 1) = cum y m + md y m := by
  unfold cum
  obtain ⟨k, hk⟩ : ∃ k : Nat, m = k + 1 := ⟨(m - 1).toNat, by omega⟩
  subst hk
  have e1 : ((k : Int) + 1 + 1 - 1).toNat = k + 1 := by omega
  have e2 : ((k : Int) + 1 - 1).toNat = k := by omega
  rw [e1, e2]
  simp [cumN]
theorem cum_bd (y m : Int) (h : m ≤ 13) : 0 ≤ cum y m ∧ cum y m ≤ 372 := by
  have := cumN_bd y (m - 1).toNat
  unfold cum
  omega
theorem ny_bd (y : Int) (h1 : 1 ≤ y) (h2 : y ≤ 10000) : 0 ≤ ny y ∧ ny y ≤ 3652059 := by unfold ny; omega
theorem ord_bd (y m d : Int) (h : m ≤ 13) (h1 : 1 ≤ d) (h2 : d ≤ 31) : 1 ≤ ord y m d ∧ ord y m d ≤ 403 := by
  have := cum_bd y m h
  unfold ord
  omega
def cmp (a b : Int) : Int := if a < b then -1 else if b < a then 1 else 0
/-- A date, and whether there is one. -/
structure DR where
  y : Int
  m : Int
  d : Int
  ok : Bool
def DR.no : DR := ⟨0, 0, 0, false⟩
def mpT (y m n : Int) : Int := 12 * (y - 1) + m - 1 + n
def mplus (y m d n : Int) : DR :=
  if dval y m d && inR n (-119988) 119988 then
    if 0 ≤ mpT y m n ∧ mpT y m n / 12 < 9999 then ⟨mpT y m n / 12 + 1, mpT y m n % 12 + 1, min d (md (mpT y m n / 12 + 1) (mpT y m n % 12 + 1)), true⟩ else DR.no
  else DR.no
theorem mplus_invalid {y m d n : Int} (h : dval y m d = false) : mplus y m d n = DR.no := by simp [mplus, h]
theorem mplus_range {y m d n : Int} (h : inR n (-119988) 119988 = false) : mplus y m d n = DR.no := by simp [mplus, h]
theorem mplus_out {y m d n : Int} (h : ¬ (0 ≤ mpT y m n ∧ mpT y m n / 12 < 9999)) : mplus y m d n = DR.no := by
  unfold mplus
  rw [if_neg h]
  simp
theorem mplus_in {y m d n : Int} (h1 : dval y m d = true) (h2 : inR n (-119988) 119988 = true) (h : 0 ≤ mpT y m n ∧ mpT y m n / 12 < 9999) :
    mplus y m d n = ⟨mpT y m n / 12 + 1, mpT y m n % 12 + 1, min d (md (mpT y m n / 12 + 1) (mpT y m n % 12 + 1)), true⟩ := by
  unfold mplus
  rw [if_pos h, h1, h2]
  simp

/-- What the package-level variables hold. -/
structure Base (w : World) : Prop where
  size : 9 ≤ w.heap.size
  tab : ∀ i : Nat, i < 12 → w.cell? ⟨5, i, none⟩ = some (.int .i64 (mdTab.getD i 0))

/-- The sentinel. -/
def Err (w : World) : Prop := ∃ ea : Addr, w.cell? ⟨0, 0, none⟩ = some (.iface 261 (.pointer (some ea)))

theorem Base.below {w w' : World} {B : Nat} (h : Base w) (hb : Below B w w') (hB : 9 ≤ B) : Base w' :=
  { size := Nat.le_trans h.size hb.size
    tab := fun i hi => (hb.cell (by show 5 < B; omega)).trans (h.tab i hi)
  }
theorem Base.low {w w' : World} (h : Base w) (hb : Below w.heap.size w w') : Base w' := h.below hb h.size
theorem Base.alloc {w : World} (h : Base w) (o : Obj) : Base (w.alloc o) := h.low ((Below.refl _ _).alloc (Nat.le_refl _) o)
theorem Base.drew {w : World} (h : Base w) : Base w.drew := h.low (Below.refl _ _).drew
theorem after {B : Nat} {w W w1 : World} (h : Below B w W) (hb1 : Below W.heap.size W w1) (hB : B ≤ W.heap.size) : Below B w w1 := h.trans (hb1.mono hB)
theorem tail {P : Program} {id : Nat} {Q : Exit → Act → World → Prop} {a : Act} {w : World} {l : List Oper} (n : Nat) (hm : P.follows .mixedOrders = true) (hB : Region.lexTailB .any l.toArray n = true)
    (h : wpStill P l.toArray w.drew (fun a' => wpList P l.toArray Q (l.drop n) a' w.drew) (l.take n) a) : (Code.region id l.toArray true).wp P Q a w :=
  wp_region_still_tail n hm hB h
/-- The number that a cell holds. -/
def ic (w : World) (b o : Nat) : Int := match w.cell? ⟨b, o, none⟩ with | some (.int _ n) => n | _ => 0
theorem ic_of {w : World} {b o : Nat} {n : Int} (h : w.cell? ⟨b, o, none⟩ = some (.int .i64 n)) : w.cell? ⟨b, o, none⟩ = some (.int .i64 (ic w b o)) := by
  unfold ic
  rw [h]
theorem ic_set {w : World} {b o : Nat} {n : Int} {u : Value} (h : w.cell? ⟨b, o, none⟩ = some u) : (w.setCell ⟨b, o, none⟩ (.int .i64 n)).cell? ⟨b, o, none⟩ = some (.int .i64 (ic (w.setCell ⟨b, o, none⟩ (.int .i64 n)) b o)) :=
  ic_of (World.cell?_setCell_same _ _ _ h)
/-- What a walk keeps while it calls what only makes memory: the variables, all that stood, and n blocks of its own from block B on. -/
structure Kp (B n : Nat) (w w' : World) : Prop where
  base : Base w'
  low : Below B w w'
  size : B + n ≤ w'.heap.size
  glob : 9 ≤ B
theorem Kp.mk' {n : Nat} {w w' : World} (hb : Base w) (h : Below w.heap.size w w') (hs : w.heap.size + n ≤ w'.heap.size) : Kp w.heap.size n w w' := ⟨hb.low h, h, hs, hb.size⟩
theorem Kp.set {B n : Nat} {w w1 : World} (h : Kp B n w w1) {k o : Nat} (hk : B ≤ k) (v : Value) : Kp B n w (w1.setCell ⟨k, o, none⟩ v) :=
  ⟨h.base.below ((Below.refl B w1).setCell hk v) h.glob, h.low.setCell hk v, by rw [World.size_setCell]; exact h.size, h.glob⟩
theorem Kp.lt {B n k : Nat} {w w' : World} (h : Kp B n w w') (hk : k < B) : k < w'.heap.size := by have := h.size; omega
theorem Kp.cell {B n : Nat} {w w1 w2 : World} (h : Kp B n w w1) (hb : Below w1.heap.size w1 w2) {k o : Nat} (hk : k < B + n) : w2.cell? ⟨k, o, none⟩ = w1.cell? ⟨k, o, none⟩ :=
  hb.cell (p := ⟨k, o, none⟩) (Nat.lt_of_lt_of_le hk h.size)
theorem Kp.free {B n : Nat} {w w1 w2 : World} (h : Kp B n w w1) (hb : Below w1.heap.size w1 w2) {k o : Nat} (hk : k < B + n) : w2.frozen? ⟨k, o, none⟩ = w1.frozen? ⟨k, o, none⟩ :=
  hb.frozen (p := ⟨k, o, none⟩) (Nat.lt_of_lt_of_le hk h.size)

/-! A region that draws its order, whose callees only make memory: the world ahead of it under a name. -/
theorem named {P : Program} {c : Code} {Q : Exit → Act → World → Prop} {a : Act} {w : World} (h : ∀ W, W = w → c.wp P Q a W) : c.wp P Q a w := h w rfl
theorem size_of {W L : World} (h : W = L) : W.heap.size = L.heap.size := by rw [h]
/-- The same, where the region's end writes the function's own result: block r, k cells of integers; B: the heap's size when the call began, in the world w. -/
abbrev Same2 (W w : World) (B r k : Nat) (w' : World) : Prop :=
  (∀ b o, b < W.heap.size → b ≠ r → w'.cell? ⟨b, o, none⟩ = W.cell? ⟨b, o, none⟩) ∧ (∀ b o, b < W.heap.size → w'.frozen? ⟨b, o, none⟩ = W.frozen? ⟨b, o, none⟩) ∧
    (∀ o, o < k → w'.cell? ⟨r, o, none⟩ = some (.int .i64 (ic w' r o))) ∧ W.heap.size ≤ w'.heap.size ∧ Kp B 0 w w'
theorem Same2.drew {W w : World} {r k : Nat} (hb : Base w) (hWL : Below w.heap.size w W) (hc : ∀ o, o < k → ∃ n : Int, W.cell? ⟨r, o, none⟩ = some (.int .i64 n)) : Same2 W w w.heap.size r k W.drew :=
  ⟨fun _ _ _ _ => rfl, fun _ _ _ => rfl, fun o ho => (hc o ho).elim fun _ h => ic_of (w := W.drew) h, Nat.le_refl _, Kp.mk' hb hWL.drew hWL.size⟩
theorem Same2.set {W w w1 : World} {B r k : Nat} (h : Same2 W w B r k w1) (hr : B ≤ r) (o : Nat) (n : Int) : Same2 W w B r k (w1.setCell ⟨r, o, none⟩ (.int .i64 n)) := by
  obtain ⟨h1, h2, h3, h4, h5⟩ := h
  refine ⟨fun b i hlt hne => ?_, fun b i hlt => ?_, fun i hi => ?_, by rw [World.size_setCell]; exact h4, h5.set hr _⟩
  · rw [World.cell?_setCell_other _ _ _ _ (by intro e; injection e with e1 e2; omega)]; exact h1 b i hlt hne
  · rw [World.frozen?_setCell]; exact h2 b i hlt
  · by_cases e : i = o
    · subst e; exact ic_set (h3 i hi)
    · exact ic_of ((World.cell?_setCell_other _ _ _ _ (by intro e; injection e with e1 e2; omega)).trans (h3 i hi))
end D
end Go.Proofs.YtboglbdhibcacaaGreatDoor

namespace Go.Proofs.YtboglbdhibcacaaGreatDoor
set_option linter.unusedVariables false
set_option linter.unusedSimpArgs false
namespace D
open Go.RowKit

/-! ### What the slots hold -/
abbrev Env := List (Nat × Value)
def get : Env → Nat → Option Value
  | [], _ => none
  | (k, v) :: r, t => bif Nat.beq k t then some v else get r t
def nthL {α : Type} : List α → Nat → Option α
  | [], _ => none
  | x :: _, 0 => some x
  | _ :: r, k + 1 => nthL r k
def ev (e : Env) : Operand → Option Value
  | .tmp t => get e t
  | .const v => some v
  | .global g => some (.pointer (some ⟨g, 0, none⟩))
  | .func f => some (.func (.func f) #[] #[])
def evs (e : Env) : List Operand → Option (List Value)
  | [] => some []
  | x :: r => match ev e x with
    | some v => match evs e r with
      | some vs => some (v :: vs)
      | none => none
    | none => none
structure At (n : Nat) (ds : List Deferred) (e : Env) (a : Act) : Prop where
  size : a.tmps.size = n
  defers : a.defers = ds
  val : ∀ t v, get e t = some v → a.tmps[t]? = some v
def Fits (e : Env) (ρ : Operand → Value) : Prop := ∀ x v, ev e x = some v → ρ x = v
theorem At.fits {n : Nat} {ds : List Deferred} {e : Env} {a : Act} (h : At n ds e a) : Fits e a.eval := by
  intro x v hx
  cases x with
  | tmp t => simp [Act.eval, h.val t v hx]
  | const u => simpa [ev, Act.eval] using hx
  | global g => simpa [ev, Act.eval] using hx
  | func f => simpa [ev, Act.eval] using hx
def consE (d : Option Tmp) (v : Value) (e : Env) : Env := match d with
  | some d => (d, v) :: e
  | none => e
def dstOk (n : Nat) : Option Tmp → Bool
  | some d => Nat.blt d n
  | none => true
theorem At.put {n : Nat} {ds : List Deferred} {e : Env} {a : Act} (h : At n ds e a) {d : Option Tmp} (v : Value) (hd : dstOk n d = true) : At n ds (consE d v e) (a.put d v) := by
  cases d with
  | none => exact h
  | some d =>
    have hd' : d < n := by simpa [dstOk, Nat.blt_eq] using hd
    refine ⟨by simp [Act.put, h.size], h.defers, fun t u ht => ?_⟩
    simp only [consE, get] at ht
    cases hb : Nat.beq d t with
    | true =>
      obtain rfl := Nat.eq_of_beq_eq_true hb
      rw [hb] at ht
      simp only [cond_true, Option.some.injEq] at ht
      subst ht
      simp [Act.put, h.size, hd']
    | false =>
      have hne := Nat.ne_of_beq_eq_false hb
      rw [hb] at ht
      simp only [cond_false] at ht
      simp only [Act.put, Array.getElem?_setIfInBounds_ne hne]
      exact h.val t u ht
/-- A shorter list of what the slots hold. -/
def Sub : Env → Env → Prop
  | [], _ => True
  | (t, v) :: r, e => get e t = some v ∧ Sub r e
theorem Sub.nil {e : Env} : Sub [] e := trivial
theorem Sub.cons {e r : Env} {t : Nat} {u v : Value} (h1 : get e t = some u) (h2 : u = v) (h : Sub r e) : Sub ((t, v) :: r) e := ⟨h2 ▸ h1, h⟩
theorem Sub.get {e' e : Env} (h : Sub e' e) {t : Nat} {v : Value} (ht : get e' t = some v) : get e t = some v := by
  induction e' with
  | nil => cases ht
  | cons p r ih =>
    obtain ⟨k, u⟩ := p
    simp only [D.get] at ht
    cases hb : Nat.beq k t with
    | true =>
      obtain rfl := Nat.eq_of_beq_eq_true hb
      rw [hb] at ht
      simp only [cond_true, Option.some.injEq] at ht
      subst ht
      exact h.1
    | false =>
      rw [hb] at ht
      exact ih h.2 ht
theorem At.sub {n : Nat} {ds : List Deferred} {e e' : Env} {a : Act} (h : At n ds e a) (hs : Sub e' e) : At n ds e' a :=
  ⟨h.size, h.defers, fun t v ht => h.val t v (hs.get ht)⟩

/-! ### What blocks the call has made -/
inductive Blk where
  | cells (T : TypeId) (vs : List Value)
  | obj (o : Obj)
def Blk.toObj : Blk → Obj
  | .cells T vs => .cells vs.toArray T (0, 0)
  | .obj o => o
abbrev SH := List (Nat × Blk)
structure New (H : SH) (w w' : World) : Prop where
  low : Below w.heap.size w w'
  own : ∀ e ∈ H, w.heap.size ≤ e.1 ∧ w'.heap[e.1]? = some e.2.toObj
  dis : H.Pairwise (fun a b => a.1 ≠ b.1)
structure St (w0 : World) (hs : SH) (w : World) : Prop where
  zero : Base w0
  low : Below w0.heap.size w0 w
  own : ∀ e ∈ hs, w0.heap.size ≤ e.1 ∧ w.heap[e.1]? = some e.2.toObj
  dis : hs.Pairwise (fun a b => a.1 ≠ b.1)
theorem St.base {w0 w : World} {hs : SH} (h : St w0 hs w) : Base w := h.zero.low h.low
theorem lt_of_some {w : World} {b : Nat} {o : Obj} (h : w.heap[b]? = some o) : b < w.heap.size := (Array.getElem?_eq_some_iff.1 h).1
theorem New.of_below {w w' : World} (h : Below w.heap.size w w') : New [] w w' := ⟨h, fun _ h => (by cases h), .nil⟩
theorem New.refl (w : World) : New [] w w := .of_below (Below.refl _ _)
theorem St.start {w0 : World} (hb : Base w0) : St w0 [] w0 := ⟨hb, Below.refl _ _, fun _ h => (by cases h), .nil⟩
theorem St.new {w0 w w' : World} {hs H : SH} (h : St w0 hs w) (k : New H w w') : St w0 (H ++ hs) w' := by
  refine ⟨h.zero, h.low.trans (k.low.mono h.low.size), fun e he => ?_, ?_⟩
  · rcases List.mem_append.1 he with he | he
    · exact ⟨Nat.le_trans h.low.size (k.own e he).1, (k.own e he).2⟩
    · have h1 := h.own e he
      exact ⟨h1.1, (k.low.block e.1 (lt_of_some h1.2)).trans h1.2⟩
  · refine List.pairwise_append.2 ⟨k.dis, h.dis, fun x hx y hy => ?_⟩
    have h1 := (k.own x hx).1
    have h2 := lt_of_some (h.own y hy).2
    omega
theorem St.drew {w0 w : World} {hs : SH} (h : St w0 hs w) : St w0 hs w.drew := by simpa using h.new (New.of_below (Below.refl _ _).drew)
/-- What was made since the call began. -/
theorem St.newAll {w0 w : World} {hs : SH} (h : St w0 hs w) : New hs w0 w := ⟨h.low, h.own, h.dis⟩
theorem New.sub {w w' : World} {H H' : SH} (h : New H w w') (hs : H'.Sublist H) : New H' w w' := ⟨h.low, fun e he => h.own e (hs.subset he), h.dis.sublist hs⟩
theorem St.sub {w0 w : World} {hs hs' : SH} (h : St w0 hs w) (k : hs'.Sublist hs) : St w0 hs' w := ⟨h.zero, h.low, fun e he => h.own e (k.subset he), h.dis.sublist k⟩
theorem St.perm {w0 w : World} {hs hs' : SH} (h : St w0 hs w) (k : hs.Perm hs') : St w0 hs' w :=
  ⟨h.zero, h.low, fun e he => h.own e (k.mem_iff.2 he), (k.pairwise_iff (fun h => Ne.symm h)).1 h.dis⟩
theorem St.heap {w0 w : World} {hs : SH} (h : St w0 hs w) {b : Nat} {T : TypeId} {vs : List Value} (hm : (b, Blk.cells T vs) ∈ hs) : w.heap[b]? = some (.cells vs.toArray T (0, 0)) := (h.own _ hm).2
theorem New.alloc (w : World) (k : Blk) : New [(w.heap.size, k)] w (w.alloc k.toObj) := by
  refine ⟨(Below.refl _ _).alloc (Nat.le_refl _) _, fun e he => ?_, .cons (fun _ h => by cases h) .nil⟩
  obtain rfl : e = (w.heap.size, k) := by simpa using he
  exact ⟨Nat.le_refl _, heap_alloc_new w _⟩
/-- The block of number b is turned: the list, before and after. -/
inductive Upd (b : Nat) (o n : Blk) : SH → SH → Prop where
  | here {r : SH} : Upd b o n ((b, o) :: r) ((b, n) :: r)
  | there {p : Nat × Blk} {r r' : SH} (h : Upd b o n r r') : Upd b o n (p :: r) (p :: r')
theorem Upd.mem {b : Nat} {o n : Blk} {hs hs' : SH} (h : Upd b o n hs hs') : (b, o) ∈ hs := by
  induction h with
  | here => exact List.Mem.head _
  | there _ ih => exact List.Mem.tail _ ih
theorem Upd.keys {b : Nat} {o n : Blk} {hs hs' : SH} (h : Upd b o n hs hs') : hs'.map (·.1) = hs.map (·.1) := by
  induction h with
  | here => rfl
  | there _ ih => simp [ih]
theorem Upd.of {b : Nat} {o n : Blk} {hs hs' : SH} (h : Upd b o n hs hs') (hd : hs.Pairwise (fun a b => a.1 ≠ b.1)) : ∀ e ∈ hs', e = (b, n) ∨ (e ∈ hs ∧ e.1 ≠ b) := by
  induction h with
  | here =>
    intro e he
    rcases List.mem_cons.1 he with rfl | he
    · exact .inl rfl
    · exact .inr ⟨List.Mem.tail _ he, ((List.pairwise_cons.1 hd).1 e he).symm⟩
  | there h ih =>
    intro e he
    have hd' := List.pairwise_cons.1 hd
    rcases List.mem_cons.1 he with rfl | he
    · exact .inr ⟨List.Mem.head _, hd'.1 _ h.mem⟩
    · rcases ih hd'.2 e he with h1 | h1
      · exact .inl h1
      · exact .inr ⟨List.Mem.tail _ h1.1, h1.2⟩
theorem pairwise_keys : ∀ {hs hs' : SH}, hs'.map (·.1) = hs.map (·.1) → hs.Pairwise (fun a b => a.1 ≠ b.1) → hs'.Pairwise (fun a b => a.1 ≠ b.1) := by
  intro hs hs' he h
  have h1 : (hs.map (·.1)).Pairwise (· ≠ ·) := List.pairwise_map.2 h
  rw [← he] at h1
  exact List.pairwise_map.1 h1
/-- A block of the call's own is turned; all else is as it was. -/
theorem St.upd {w0 w w' : World} {hs hs' : SH} {b : Nat} {o n : Blk} (h : St w0 hs w) (u : Upd b o n hs hs') (hw : w'.heap[b]? = some n.toObj) (ho : ∀ k, k ≠ b → w'.heap[k]? = w.heap[k]?)
    (hsz : w'.heap.size = w.heap.size) (h1 : w'.os = w.os) (h2 : w'.tape = w.tape) (h3 : w'.output = w.output) : St w0 hs' w' := by
  have hm := h.own _ u.mem
  have hl : Below w0.heap.size w0 w' := h.low.trans ⟨h1, h2, h3, by omega, fun k hk => ho k (by have := hm.1; simp only at this; omega)⟩
  refine ⟨h.zero, hl, fun e he => ?_, pairwise_keys u.keys h.dis⟩
  rcases u.of h.dis e he with rfl | ⟨he, hne⟩
  · exact ⟨hm.1, hw⟩
  · exact ⟨(h.own e he).1, (ho e.1 hne).trans (h.own e he).2⟩

/-- A shorter list of blocks. -/
inductive SubH : SH → SH → Prop where
  | nil {hs : SH} : SubH [] hs
  | cons {b : Nat} {T : TypeId} {vs vs' : List Value} {r r' : SH} (hv : vs = vs') (h : SubH r' r) : SubH ((b, .cells T vs') :: r') ((b, .cells T vs) :: r)
  | skip {p : Nat × Blk} {r r' : SH} (h : SubH r' r) : SubH r' (p :: r)
  | refl {r : SH} : SubH r r
theorem SubH.sl {hs hs' : SH} (h : SubH hs' hs) : hs'.Sublist hs := by
  induction h with
  | nil => exact List.nil_sublist _
  | cons hv h ih => subst hv; exact .cons_cons _ ih
  | skip h ih => exact .cons _ ih
  | refl => exact List.Sublist.refl _

/-! ### Lists of cells -/
inductive Rd : Nat → Nat → List Value → List Value → Prop where
  | nil {r : List Value} : Rd 0 0 r []
  | take {k : Nat} {x : Value} {r us : List Value} (h : Rd 0 k r us) : Rd 0 (k + 1) (x :: r) (x :: us)
  | skip {o k : Nat} {x : Value} {r us : List Value} (h : Rd o k r us) : Rd (o + 1) k (x :: r) us
theorem Rd.length {o k : Nat} {vs us : List Value} (h : Rd o k vs us) : us.length = k := by
  induction h with
  | nil => rfl
  | take _ ih => simp [ih]
  | skip _ ih => exact ih
theorem Rd.at {o k : Nat} {vs us : List Value} (h : Rd o k vs us) : ∀ j v, us[j]? = some v → vs[o + j]? = some v := by
  induction h with
  | nil => intro j v h; simp at h
  | take _ ih =>
    intro j v hj
    cases j with
    | zero => simpa using hj
    | succ j =>
      have := ih j v (by simpa using hj)
      simpa [Nat.zero_add] using this
  | skip _ ih =>
    intro j v hj
    have := ih j v hj
    rw [Nat.add_right_comm]
    simpa using this
/-- The list behind a write at a place. -/
inductive Wr : Nat → List Value → List Value → List Value → Prop where
  | nil {r : List Value} : Wr 0 [] r r
  | put {x y : Value} {us r r' : List Value} (h : Wr 0 us r r') : Wr 0 (y :: us) (x :: r) (y :: r')
  | skip {o : Nat} {x : Value} {us r r' : List Value} (h : Wr o us r r') : Wr (o + 1) us (x :: r) (x :: r')
theorem Wr.eq {o : Nat} {us vs vs' : List Value} (h : Wr o us vs vs') : vs' = vs.take o ++ us ++ vs.drop (o + us.length) ∧ o + us.length ≤ vs.length := by
  induction h with
  | nil => simp
  | put _ ih => obtain ⟨h1, h2⟩ := ih; simp at h1 h2 ⊢; exact ⟨by rw [h1], by omega⟩
  | skip _ ih =>
    obtain ⟨h1, h2⟩ := ih
    refine ⟨?_, by simp; omega⟩
    rw [Nat.add_right_comm]
    simp [h1]

end D
end Go.Proofs.YtboglbdhibcacaaGreatDoor

namespace Go.Proofs.YtboglbdhibcacaaGreatDoor
set_option linter.unusedVariables false
set_option linter.unusedSimpArgs false
namespace D
open Go.RowKit

/-- What one operation does: it goes on with a value and a world of which 'Post' holds. -/
def Does (P : Program) (s : Sem Next) (w : World) (Post : Value → World → Prop) : Prop :=
  match s.run P w with
  | .ok (.value v) w' => Post v w'
  | .ok .skip w' => Post undef w'
  | .ok (.enter f args) w' => Calls P f args w' fun e w'' => ∃ v, e = .returned v ∧ Post v w''
  | .ok (.row r args) w' => Rows P r args w' Post
  | _ => False

theorem Does.upon {P : Program} {s : Sem Next} {w : World} {Post : Value → World → Prop} (h : Does P s w Post) {o : Oper} {a : Act} {K : Act → World → Prop} {Q : Exit → Act → World → Prop}
    (k : ∀ v w', Post v w' → K (a.put o.dst v) w') : o.upon P a K Q (s.run P w) := by
  unfold Does at h
  generalize s.run P w = r at h
  cases r with
  | halt x w' => exact h.elim
  | ok n w' =>
    cases n <;> first
      | exact h.elim
      | exact k _ _ h
      | exact Calls.mono h fun e w'' ⟨v, he, hp⟩ => by subst he; exact k _ _ hp
      | exact Rows.mono h fun v w'' hp => k _ _ hp
theorem Does.mono {P : Program} {s : Sem Next} {w : World} {Post Post' : Value → World → Prop} (h : Does P s w Post) (k : ∀ v w', Post v w' → Post' v w') : Does P s w Post' := by
  unfold Does at *
  generalize s.run P w = r at *
  cases r with
  | halt x w' => exact h
  | ok n w' =>
    cases n <;> first
      | exact h.elim
      | exact k _ _ h
      | exact Calls.mono h fun e w'' ⟨v, he, hp⟩ => ⟨v, he, k _ _ hp⟩
      | exact Rows.mono h fun v w'' hp => k _ _ hp
theorem Calls.some {P : Program} {f : FuncId} {args : Array Value} {w : World} {R : Ending → World → Prop} (h : Calls P f args w R) : ∃ e w', R e w' := by
  obtain ⟨e, w', _, hr, _⟩ := h []
  exact ⟨e, w', hr⟩
theorem Does.some {P : Program} {s : Sem Next} {w : World} {Post : Value → World → Prop} (h : Does P s w Post) : ∃ v w', Post v w' := by
  unfold Does at h
  generalize s.run P w = r at h
  cases r with
  | halt x w' => exact h.elim
  | ok n w' =>
    cases n <;> first
      | exact h.elim
      | exact ⟨_, _, h⟩
      | exact (Calls.some h).elim fun e h => h.elim fun w' ⟨v, _, hp⟩ => ⟨v, w', hp⟩
      | exact (h default []).elim fun v h => h.elim fun w' ⟨hp, _⟩ => ⟨v, w', hp⟩
theorem Does.of_value {P : Program} {s : Sem Next} {w w' : World} {v : Value} {Post : Value → World → Prop} (h : s.run P w = .ok (.value v) w') (k : Post v w') : Does P s w Post := by
  unfold Does; rw [h]; exact k
theorem Does.of_skip {P : Program} {s : Sem Next} {w w' : World} {Post : Value → World → Prop} (h : s.run P w = .ok .skip w') (k : Post undef w') : Does P s w Post := by
  unfold Does; rw [h]; exact k

/-- Touches no memory. -/
structure PV (P : Program) (o : Oper) (e : Env) (v : Value) : Prop where
  ok : ∀ ρ, Fits e ρ → ∀ w, (execOp ρ o).run P w = .ok (.value v) w
/-- Yields v; at most it makes memory of which nothing is told. -/
structure OV (P : Program) (o : Oper) (e : Env) (w0 : World) (hs : SH) (v : Value) : Prop where
  ok : ∀ ρ w, Fits e ρ → St w0 hs w → Does P (execOp ρ o) w fun v' w' => v' = v ∧ New [] w w'
/-- Makes memory. -/
structure ON (P : Program) (o : Oper) (e : Env) (w0 : World) (hs : SH) (R : Value → SH → Prop) : Prop where
  ok : ∀ ρ w, Fits e ρ → St w0 hs w → Does P (execOp ρ o) w fun v w' => ∃ H, R v H ∧ New H w w'
/-- Turns the call's own memory. -/
structure OS (P : Program) (o : Oper) (e : Env) (w0 : World) (hs hs' : SH) : Prop where
  ok : ∀ ρ w, Fits e ρ → St w0 hs w → Does P (execOp ρ o) w fun v w' => v = undef ∧ St w0 hs' w'

variable {P : Program} {e : Env} {w0 : World} {hs hs' : SH} {d : Option Tmp} {ty : TypeId} {pos : String} {af : Array Edge} {g : Option (Nat × Bool)}

/-! ### Types -/
class Sc (P : Program) (t : TypeId) : Prop where
  ok : ∃ d, P.underlying t = some d ∧ (match d with | .struct _ | .array _ _ => true | _ => false) = false
class Sz (P : Program) (t : TypeId) (k : outParam Nat) : Prop where
  ok : (P.info? t).map (·.size) = some k
class Ag (P : Program) (t : TypeId) (k : outParam Nat) : Prop where
  ok : ∃ d, P.underlying t = some d ∧ (match d with | .struct _ | .array _ _ => true | _ => false) = true
  sz : (P.info? t).map (·.size) = some k
theorem run_isAgg_sc [h : Sc P ty] (w : World) : (isAgg ty).run P w = .ok false w := by
  obtain ⟨d, hu, hd⟩ := h.ok
  unfold isAgg
  rw [Sem.run_bind, run_underlying hu w]
  cases d <;> simp_all
theorem run_isAgg_ag {k : Nat} [h : Ag P ty k] (w : World) : (isAgg ty).run P w = .ok true w := by
  obtain ⟨d, hu, hd⟩ := h.ok
  unfold isAgg
  rw [Sem.run_bind, run_underlying hu w]
  cases d <;> simp_all
theorem run_sizeOf {k : Nat} (h : (P.info? ty).map (·.size) = some k) (w : World) : (sizeOf ty).run P w = .ok k w := by
  cases hq : P.info? ty with
  | none => simp [hq] at h
  | some i => simp [hq] at h; simp [sizeOf, typeInfo, hq, h]
theorem add_plain (b o j : Nat) : (⟨b, o, none⟩ : Addr).add j = ⟨b, o + j, none⟩ := by unfold Addr.add; split <;> simp_all
theorem run_loadVar_sc [Sc P ty] {w : World} {a : Addr} {v : Value} (h : w.cell? a = some v) : (loadVar ty a).run P w = .ok v w := by
  simp [loadVar, run_isAgg_sc, h]
theorem run_loadVar_ag {k : Nat} [i : Ag P ty k] {w : World} {b o : Nat} {us : List Value} (hl : us.length = k) (h : ∀ j v, us[j]? = some v → w.cell? ⟨b, o + j, none⟩ = some v) :
    (loadVar ty ⟨b, o, none⟩).run P w = .ok (.agg us.toArray) w := by
  have := run_loadCells_list (P := P) w ⟨b, o, none⟩ us (fun j v hj => by rw [add_plain]; exact h j v hj)
  rw [hl] at this
  simp [loadVar, run_isAgg_ag, run_sizeOf i.sz, this]
theorem St.cell {w : World} (h : St w0 hs w) {b o : Nat} {T : TypeId} {vs : List Value} {v : Value} (hm : (b, Blk.cells T vs) ∈ hs) (hv : vs[o]? = some v) : w.cell? ⟨b, o, none⟩ = some v := by
  simp [World.cell?, h.heap hm, hv]
theorem St.old {w : World} (h : St w0 hs w) {b o : Nat} {v : Value} (hv : w0.cell? ⟨b, o, none⟩ = some v) : w.cell? ⟨b, o, none⟩ = some v :=
  (h.low.cell (World.block_lt_of_cell? _ _ hv)).trans hv

/- reads variable 0 -/
theorem St.err {w : World} (h : St w0 hs w) (he : Err w0) : Err w := he.elim fun a ha => ⟨a, h.old ha⟩

/-! ### Copies and the like -/
theorem PV.move {x : Operand} {v : Value} (h : ev e x = some v) : PV P ⟨d, .move x, ty, pos, af, g⟩ e v := .mk fun ρ hf w => by simp [execOp, hf x v h]
theorem PV.assign {x : Operand} {v : Value} (h : ev e x = some v) : PV P ⟨d, .assign x, ty, pos, af, g⟩ e v := .mk fun ρ hf w => by simp [execOp, hf x v h]
theorem PV.pick {c a b : Operand} {t : Bool} {v : Value} (hc : ev e c = some (.bool t)) (h : (if t then ev e a else ev e b) = some v) : PV P ⟨d, .pick c a b, ty, pos, af, g⟩ e v := .mk fun ρ hf w => by
  cases t <;> simp [execOp, asBool, hf c _ hc, hf _ v h]
theorem PV.pickT {c a b : Operand} {v : Value} (hc : ev e c = some (.bool true)) (h : ev e a = some v) : PV P ⟨d, .pick c a b, ty, pos, af, g⟩ e v := PV.pick hc h
theorem PV.pickF {c a b : Operand} {v : Value} (hc : ev e c = some (.bool false)) (h : ev e b = some v) : PV P ⟨d, .pick c a b, ty, pos, af, g⟩ e v := PV.pick hc h
theorem PV.extract {x : Operand} {i : Nat} {vs : List Value} {v : Value} (h : ev e x = some (.tuple vs.toArray)) (hv : nthL vs i = some v) : PV P ⟨d, .extract x i, ty, pos, af, g⟩ e v := .mk fun ρ hf w => by
  have : vs[i]? = some v := by
    clear h
    induction vs generalizing i with
    | nil => cases hv
    | cons a r ih => cases i with
      | zero => simpa [nthL] using hv
      | succ i => simpa using ih (by simpa [nthL] using hv)
  simp [execOp, Instr.extract, hf x _ h, this]
theorem PV.not {x : Operand} {b : Bool} {xt : TypeId} (h : ev e x = some (.bool b)) : PV P ⟨d, .unOp .not xt x, ty, pos, af, g⟩ e (.bool (!b)) := .mk fun ρ hf w => by simp [execOp, Op.unary, hf x _ h]
theorem PV.neg {x : Operand} {n : Int} {xt : TypeId} (h : ev e x = some (.int .i64 n)) (hr : -9223372036854775808 < n) (hr2 : n ≤ 9223372036854775807) : PV P ⟨d, .unOp .neg xt x, ty, pos, af, g⟩ e (.int .i64 (-n)) := .mk fun ρ hf w => by
  have : IntKind.i64.wrap (-n) = -n := IntWalk.i64_in (-n) (by omega)
  simp [execOp, Op.unary, hf x _ h, Op.intArith, this]

/-! ### Arithmetic -/
theorem eqGuard_ints (op : BinOp) (t : TypeId) (x y : Operand) {k k' : IntKind} (m n : Int) (w : World) : (eqGuard op t x y (.int k m) (.int k' n)).run P w = .ok () w := by
  cases op <;> simp [eqGuard]
theorem PV.bin {op : BinOp} {x y : Operand} {a b v : Value} {xt yt : TypeId} (hx : ev e x = some a) (hy : ev e y = some b) (hg : ∀ w, (eqGuard op xt x y a b).run P w = .ok () w) (hv : ∀ w, (binOp op xt a b).run P w = .ok v w) :
    PV P ⟨d, .binOp op xt x y yt, ty, pos, af, g⟩ e v := .mk fun ρ hf w => by
  simp [execOp, hf x _ hx, hf y _ hy, hg, hv]
theorem PV.addw {x y : Operand} {k : IntKind} {m n : Int} {xt yt : TypeId} (hx : ev e x = some (.int k m)) (hy : ev e y = some (.int k n)) : PV P ⟨d, .binOp .add xt x y yt, ty, pos, af, g⟩ e (.int k (k.wrap (m + n))) :=
  .bin hx hy (eqGuard_ints _ _ _ _ _ _) fun w => by simp [binOp, Op.intArith]
theorem PV.subw {x y : Operand} {k : IntKind} {m n : Int} {xt yt : TypeId} (hx : ev e x = some (.int k m)) (hy : ev e y = some (.int k n)) : PV P ⟨d, .binOp .sub xt x y yt, ty, pos, af, g⟩ e (.int k (k.wrap (m - n))) :=
  .bin hx hy (eqGuard_ints _ _ _ _ _ _) fun w => by simp [binOp, Op.intArith]
theorem PV.mulw {x y : Operand} {k : IntKind} {m n : Int} {xt yt : TypeId} (hx : ev e x = some (.int k m)) (hy : ev e y = some (.int k n)) : PV P ⟨d, .binOp .mul xt x y yt, ty, pos, af, g⟩ e (.int k (k.wrap (m * n))) :=
  .bin hx hy (eqGuard_ints _ _ _ _ _ _) fun w => by simp [binOp, Op.intArith]
theorem PV.add {x y : Operand} {m n : Int} {xt yt : TypeId} (hx : ev e x = some (.int .i64 m)) (hy : ev e y = some (.int .i64 n)) (hr : -9223372036854775808 ≤ m + n ∧ m + n ≤ 9223372036854775807) :
    PV P ⟨d, .binOp .add xt x y yt, ty, pos, af, g⟩ e (.int .i64 (m + n)) := by have := PV.addw (P := P) (d := d) (ty := ty) (pos := pos) (af := af) (g := g) (xt := xt) (yt := yt) hx hy; rwa [IntWalk.i64_in _ (by omega)] at this
theorem PV.sub {x y : Operand} {m n : Int} {xt yt : TypeId} (hx : ev e x = some (.int .i64 m)) (hy : ev e y = some (.int .i64 n)) (hr : -9223372036854775808 ≤ m - n ∧ m - n ≤ 9223372036854775807) :
    PV P ⟨d, .binOp .sub xt x y yt, ty, pos, af, g⟩ e (.int .i64 (m - n)) := by have := PV.subw (P := P) (d := d) (ty := ty) (pos := pos) (af := af) (g := g) (xt := xt) (yt := yt) hx hy; rwa [IntWalk.i64_in _ (by omega)] at this
theorem PV.mul {x y : Operand} {m n : Int} {xt yt : TypeId} (hx : ev e x = some (.int .i64 m)) (hy : ev e y = some (.int .i64 n)) (hr : -9223372036854775808 ≤ m * n ∧ m * n ≤ 9223372036854775807) :
    PV P ⟨d, .binOp .mul xt x y yt, ty, pos, af, g⟩ e (.int .i64 (m * n)) := by have := PV.mulw (P := P) (d := d) (ty := ty) (pos := pos) (af := af) (g := g) (xt := xt) (yt := yt) hx hy; rwa [IntWalk.i64_in _ (by omega)] at this
theorem PV.quo {x y : Operand} {m n : Int} {xt yt : TypeId} (hx : ev e x = some (.int .i64 m)) (hy : ev e y = some (.int .i64 n)) (h0 : 0 ≤ m) (h1 : 0 < n) (hr : m ≤ 9223372036854775807) :
    PV P ⟨d, .binOp .quo xt x y yt, ty, pos, af, g⟩ e (.int .i64 (m / n)) :=
  .bin hx hy (eqGuard_ints _ _ _ _ _ _) fun w => by
    have hn : ¬ n = 0 := by omega
    have hq : 0 ≤ m / n ∧ m / n ≤ m := ⟨Int.ediv_nonneg h0 (by omega), Int.ediv_le_self _ h0⟩
    simp [binOp, Op.intDiv, hn, Int.tdiv_eq_ediv_of_nonneg h0]
    exact IntWalk.i64_in _ (by omega)
theorem PV.rem {x y : Operand} {m n : Int} {xt yt : TypeId} (hx : ev e x = some (.int .i64 m)) (hy : ev e y = some (.int .i64 n)) (h0 : 0 ≤ m) (h1 : 0 < n) :
    PV P ⟨d, .binOp .rem xt x y yt, ty, pos, af, g⟩ e (.int .i64 (m % n)) :=
  .bin hx hy (eqGuard_ints _ _ _ _ _ _) fun w => by
    have hn : ¬ n = 0 := by omega
    simp [binOp, Op.intDiv, hn, Int.tmod_eq_emod_of_nonneg h0]
theorem PV.remt {x y : Operand} {m n : Int} {xt yt : TypeId} (hx : ev e x = some (.int .i64 m)) (hy : ev e y = some (.int .i64 n)) (h1 : n ≠ 0) :
    PV P ⟨d, .binOp .rem xt x y yt, ty, pos, af, g⟩ e (.int .i64 (m.tmod n)) :=
  .bin hx hy (eqGuard_ints _ _ _ _ _ _) fun w => by simp [binOp, Op.intDiv, h1]
theorem PV.quot {x y : Operand} {m n : Int} {xt yt : TypeId} (hx : ev e x = some (.int .i64 m)) (hy : ev e y = some (.int .i64 n)) (h1 : n ≠ 0) :
    PV P ⟨d, .binOp .quo xt x y yt, ty, pos, af, g⟩ e (.int .i64 (IntKind.i64.wrap (m.tdiv n))) :=
  .bin hx hy (eqGuard_ints _ _ _ _ _ _) fun w => by simp [binOp, Op.intDiv, h1]
theorem PV.lss {x y : Operand} {k : IntKind} {m n : Int} {xt yt : TypeId} (hx : ev e x = some (.int k m)) (hy : ev e y = some (.int k n)) : PV P ⟨d, .binOp .lss xt x y yt, ty, pos, af, g⟩ e (.bool (decide (m < n))) :=
  .bin hx hy (eqGuard_ints _ _ _ _ _ _) fun w => by simp [binOp, Op.intCmp]
theorem PV.leq {x y : Operand} {k : IntKind} {m n : Int} {xt yt : TypeId} (hx : ev e x = some (.int k m)) (hy : ev e y = some (.int k n)) : PV P ⟨d, .binOp .leq xt x y yt, ty, pos, af, g⟩ e (.bool (decide (m ≤ n))) :=
  .bin hx hy (eqGuard_ints _ _ _ _ _ _) fun w => by simp [binOp, Op.intCmp]
theorem PV.gtr {x y : Operand} {k : IntKind} {m n : Int} {xt yt : TypeId} (hx : ev e x = some (.int k m)) (hy : ev e y = some (.int k n)) : PV P ⟨d, .binOp .gtr xt x y yt, ty, pos, af, g⟩ e (.bool (decide (n < m))) :=
  .bin hx hy (eqGuard_ints _ _ _ _ _ _) fun w => by simp [binOp, Op.intCmp]
theorem PV.geq {x y : Operand} {k : IntKind} {m n : Int} {xt yt : TypeId} (hx : ev e x = some (.int k m)) (hy : ev e y = some (.int k n)) : PV P ⟨d, .binOp .geq xt x y yt, ty, pos, af, g⟩ e (.bool (decide (n ≤ m))) :=
  .bin hx hy (eqGuard_ints _ _ _ _ _ _) fun w => by simp [binOp, Op.intCmp]
theorem PV.eql {x y : Operand} {k : IntKind} {m n : Int} {xt yt : TypeId} (hx : ev e x = some (.int k m)) (hy : ev e y = some (.int k n)) : PV P ⟨d, .binOp .eql xt x y yt, ty, pos, af, g⟩ e (.bool (decide (m = n))) :=
  .bin hx hy (eqGuard_ints _ _ _ _ _ _) fun w => by simp [binOp, Op.intCmp]; rw [Bool.eq_iff_iff]; simp
theorem PV.neq {x y : Operand} {k : IntKind} {m n : Int} {xt yt : TypeId} (hx : ev e x = some (.int k m)) (hy : ev e y = some (.int k n)) : PV P ⟨d, .binOp .neq xt x y yt, ty, pos, af, g⟩ e (.bool (!decide (m = n))) :=
  .bin hx hy (eqGuard_ints _ _ _ _ _ _) fun w => by simp [binOp, Op.intCmp, bne]; rw [Bool.eq_iff_iff]; simp

/-! ### Memory -/
theorem run_loadAt {a : Addr} (w : World) : (Instr.loadAt ty (.pointer (some a))).run P w = (loadVar ty a).run P w := by simp [Instr.loadAt, Instr.sureAddr]
theorem OV.loadW {x : Operand} {a : Addr} {lt : TypeId} {v : Value} (hx : ev e x = some (.pointer (some a))) (h : ∀ w, St w0 hs w → (loadVar lt a).run P w = .ok v w) : OV P ⟨d, .load lt x, ty, pos, af, g⟩ e w0 hs v := .mk fun ρ w hf hst =>
  .of_value (w' := w) (by simp [execOp, hf x _ hx, run_loadAt, h w hst]) ⟨rfl, .refl _⟩
theorem OV.load1 {x : Operand} {b o : Nat} {lt T : TypeId} {vs : List Value} {v : Value} [Sc P lt] (hx : ev e x = some (.pointer (some ⟨b, o, none⟩))) (hm : (b, Blk.cells T vs) ∈ hs) (hv : Rd o 1 vs [v]) :
    OV P ⟨d, .load lt x, ty, pos, af, g⟩ e w0 hs v := .loadW hx fun w hst => run_loadVar_sc (hst.cell hm (by simpa using hv.at 0 v rfl))
theorem OV.loadk {x : Operand} {b o k : Nat} {lt T : TypeId} {vs us : List Value} [Ag P lt k] (hx : ev e x = some (.pointer (some ⟨b, o, none⟩))) (hm : (b, Blk.cells T vs) ∈ hs) (hv : Rd o k vs us) :
    OV P ⟨d, .load lt x, ty, pos, af, g⟩ e w0 hs (.agg us.toArray) := .loadW hx fun w hst => run_loadVar_ag hv.length fun j v hj => hst.cell hm (hv.at j v hj)
theorem OV.loadi {x : Operand} {b o : Nat} {lt T : TypeId} {vs : List Value} {v : Value} [Sc P lt] (hx : ev e x = some (.pointer (some ⟨b, o, none⟩))) (hm : (b, Blk.cells T vs) ∈ hs) (hv : vs[o]? = some v) :
    OV P ⟨d, .load lt x, ty, pos, af, g⟩ e w0 hs v := .loadW hx fun w hst => run_loadVar_sc (hst.cell hm hv)
theorem OV.load0 {x : Operand} {b o : Nat} {lt : TypeId} {v : Value} [Sc P lt] (hx : ev e x = some (.pointer (some ⟨b, o, none⟩))) (hv : w0.cell? ⟨b, o, none⟩ = some v) :
    OV P ⟨d, .load lt x, ty, pos, af, g⟩ e w0 hs v := .loadW hx fun w hst => run_loadVar_sc (hst.old hv)
theorem OV.load0k {x : Operand} {b o k : Nat} {lt : TypeId} {us : List Value} [Ag P lt k] (hx : ev e x = some (.pointer (some ⟨b, o, none⟩))) (hl : us.length = k) (hv : ∀ j v, us[j]? = some v → w0.cell? ⟨b, o + j, none⟩ = some v) :
    OV P ⟨d, .load lt x, ty, pos, af, g⟩ e w0 hs (.agg us.toArray) := .loadW hx fun w hst => run_loadVar_ag hl fun j v hj => hst.old (hv j v hj)
/-- A new block. -/
def NewAt (k : Blk) : Value → SH → Prop := fun v H => ∃ b : Nat, v = .pointer (some ⟨b, 0, none⟩) ∧ H = [(b, k)]
theorem ON.newRow {o : Oper} {T : TypeId} {cs : List Value} (h : ∀ ρ, Fits e ρ → ∀ w, (execOp ρ o).run P w = .ok (.value (.pointer (some ⟨w.heap.size, 0, none⟩))) (w.alloc (.cells cs.toArray T))) : ON P o e w0 hs (NewAt (.cells T cs)) := .mk fun ρ w hf hst =>
  .of_value (h ρ hf w) ⟨_, ⟨w.heap.size, rfl, rfl⟩, New.alloc w (.cells T cs)⟩
class Zr (P : Program) (t : TypeId) (zs : outParam (List Value)) : Prop where
  ok : (P.info? t).bind (·.zero.map (·.cells.toList)) = some zs
theorem run_newVar {T : TypeId} {v : Value} (w : World) : (newVar T v).run P w = .ok ⟨w.heap.size, 0, none⟩ (w.alloc (.cells v.cells T)) := by
  rfl
theorem ON.alloc {T : TypeId} {zs : List Value} [z : Zr P T zs] : ON P ⟨d, .alloc T, ty, pos, af, g⟩ e w0 hs (NewAt (.cells T zs)) := .newRow fun ρ hf w => by
  have h := z.ok
  cases hq : P.info? T with
  | none => simp [hq] at h
  | some i =>
    cases hz : i.zero with
    | none => simp [hq, hz] at h
    | some v =>
      simp only [hq, Option.bind_some, hz, Option.map_some, Option.some.injEq] at h
      simp [execOp, Instr.alloc, zeroValue, typeInfo, hq, hz, run_newVar, ← h]
theorem ON.box {T : TypeId} {x : Operand} {us : List Value} (hx : ev e x = some (.agg us.toArray)) : ON P ⟨d, .box T x, ty, pos, af, g⟩ e w0 hs (NewAt (.cells T us)) := .newRow fun ρ hf w => by
  simp [execOp, Instr.box, hf x _ hx, run_newVar, Value.cells]
def Value.isAgg : Value → Bool
  | .agg _ => true
  | _ => false
theorem cells_sc {v : Value} (h : Value.isAgg v = false) : v.cells = #[v] := by cases v <;> first | rfl | cases h
theorem ON.box1 {T : TypeId} {x : Operand} {v : Value} (hx : ev e x = some v) (h1 : Value.isAgg v = false) : ON P ⟨d, .box T x, ty, pos, af, g⟩ e w0 hs (NewAt (.cells T [v])) := .newRow fun ρ hf w => by
  simp [execOp, Instr.box, hf x _ hx, run_newVar, cells_sc h1]

theorem setRow_size (w : World) (b : Nat) (cs : Array Value) : (w.setRow b cs).heap.size = w.heap.size := by simp [World.setRow]
theorem setRow_ne (w : World) (b k : Nat) (cs : Array Value) (h : k ≠ b) : (w.setRow b cs).heap[k]? = w.heap[k]? := by
  simp only [World.setRow, Array.getElem?_modify]
  rw [if_neg (fun e => h e.symm)]
theorem St.setRow {w : World} (h : St w0 hs w) {b : Nat} {T : TypeId} {vs vs' : List Value} (u : Upd b (.cells T vs) (.cells T vs') hs hs') : St w0 hs' (w.setRow b vs'.toArray) :=
  h.upd u (setRow_heap w b _ _ _ _ (h.heap u.mem)) (fun k hk => setRow_ne w b k _ hk) (setRow_size _ _ _) rfl rfl rfl
theorem OS.storeW {x y : Operand} {b o : Nat} {st T : TypeId} {vs us vs' : List Value} {v : Value} (hx : ev e x = some (.pointer (some ⟨b, o, none⟩))) (hy : ev e y = some v) (hv : v.cells = us.toArray) (hz : (P.info? st).map (·.size) = some us.length)
    (h1 : ∀ u ∈ us, u.oneCell' = true) (u : Upd b (.cells T vs) (.cells T vs') hs hs') (hl : vs' = vs.take o ++ us ++ vs.drop (o + us.length)) (hle : o + us.length ≤ vs.length) :
    OS P ⟨d, .store st x y, ty, pos, af, g⟩ e w0 hs hs' := .mk fun ρ w hf hst => by
  have hr := run_storeCells_at P b o T us 0 vs.toArray w (hst.heap u.mem) (by simpa using hle) h1
  refine .of_skip (w' := w.setRow b vs'.toArray) ?_ ⟨rfl, hst.setRow u⟩
  simp only [Nat.add_zero] at hr
  simp [execOp, hf x _ hx, hf y _ hy, Instr.storeAt, Instr.sureAddr, storeVar, run_sizeOf hz, hv, hr, hl]
theorem OS.store1 {x y : Operand} {b o : Nat} {st T : TypeId} {vs vs' : List Value} {v : Value} [z : Sz P st 1] (hx : ev e x = some (.pointer (some ⟨b, o, none⟩))) (hy : ev e y = some v) (h1 : v.oneCell' = true)
    (u : Upd b (.cells T vs) (.cells T vs') hs hs') (hw : Wr o [v] vs vs') : OS P ⟨d, .store st x y, ty, pos, af, g⟩ e w0 hs hs' :=
  .storeW hx hy (cells_sc (by cases v <;> first | rfl | cases h1)) z.ok (by simpa using h1) u hw.eq.1 hw.eq.2
theorem OS.storek {x y : Operand} {b o k : Nat} {st T : TypeId} {vs vs' us : List Value} [z : Ag P st k] (hx : ev e x = some (.pointer (some ⟨b, o, none⟩))) (hy : ev e y = some (.agg us.toArray)) (hl : us.length = k) (h1 : us.all Value.oneCell' = true)
    (u : Upd b (.cells T vs) (.cells T vs') hs hs') (hw : Wr o us vs vs') : OS P ⟨d, .store st x y, ty, pos, af, g⟩ e w0 hs hs' :=
  .storeW hx hy rfl (by rw [hl]; exact z.sz) (fun v hv => List.all_eq_true.1 h1 v hv) u hw.eq.1 hw.eq.2

/-! ### Addresses and parts -/
class FO (P : Program) (s : TypeId) (f : Nat) (off : outParam Nat) : Prop where
  ok : ∀ b o w, (Instr.fieldAt s (.pointer (some ⟨b, o, none⟩)) f).run P w = .ok (.pointer (some ⟨b, o + off, none⟩)) w
theorem PV.fieldAddr {s : TypeId} {f off b o : Nat} {x : Operand} [i : FO P s f off] (hx : ev e x = some (.pointer (some ⟨b, o, none⟩))) : PV P ⟨d, .fieldAddr s x f, ty, pos, af, g⟩ e (.pointer (some ⟨b, o + off, none⟩)) := .mk fun ρ hf w => by
  simp [execOp, hf x _ hx, i.ok]
class FV (P : Program) (s : TypeId) (f : Nat) (off k : outParam Nat) (ag : outParam Bool) : Prop where
  ok : ∀ (us : List Value) w, (Instr.field s (.agg us.toArray) f).run P w = (if ag then .ok (.agg (us.toArray.extract off (off + k))) w else match us[off]? with | some v => .ok v w | none => .halt (.stuck "part: no such cell") w)
theorem Rd.extract {o k : Nat} {vs us : List Value} (h : Rd o k vs us) : vs.toArray.extract o (o + k) = us.toArray := by
  have h2 := h.length
  apply Array.ext'
  simp
  induction h with
  | nil => simp
  | take h ih =>
    rename_i k x r us
    have := ih (by simpa using h2)
    have e : 0 + (k + 1) - 0 = k + 1 := by omega
    have e2 : 0 + k - 0 = k := by omega
    simp only [e2, List.drop_zero] at this
    simp [this]
  | skip h ih =>
    rename_i o k x r us
    have := ih (by simpa using h2)
    have e : o + 1 + k - (o + 1) = o + k - o := by omega
    simp only [List.drop_succ_cons, e, this]
theorem PV.field1 {s : TypeId} {f off k : Nat} {x : Operand} {us : List Value} {v : Value} [i : FV P s f off k false] (hx : ev e x = some (.agg us.toArray)) (hv : Rd off 1 us [v]) : PV P ⟨d, .field s x f, ty, pos, af, g⟩ e v := .mk fun ρ hf w => by
  have := hv.at 0 v rfl
  simp only [Nat.add_zero] at this
  simp [execOp, hf x _ hx, i.ok, this]
theorem PV.fieldk {s : TypeId} {f off k : Nat} {x : Operand} {us vs : List Value} [i : FV P s f off k true] (hx : ev e x = some (.agg us.toArray)) (hv : Rd off k us vs) : PV P ⟨d, .field s x f, ty, pos, af, g⟩ e (.agg vs.toArray) := .mk fun ρ hf w => by
  simp only [execOp, hf x _ hx, i.ok, if_true, hv.extract, Sem.run_bind, Result.andThen_ok]
  rfl

/-! ### Calls -/
class Ent (P : Program) (f : FuncId) : Prop where
  ok : ∀ args w, (callFunc f args).run P w = .ok (.enter f args) w
theorem Ent.of {f : FuncId} {fn : Func} (hf : P.funcs[f]? = some fn) (hn : (fn.name == "runtime.NumGoroutine") = false) (hb : fn.body.isNone = false) : Ent P f :=
  ⟨fun args w => by
    have h1 : ¬ fn.name = "runtime.NumGoroutine" := by simpa using hn
    have h2 : ¬ fn.body = none := by intro h; rw [h] at hb; cases hb
    simp [callFunc, hf, h1, h2]⟩
theorem evs_map {xs : List Operand} {vs : List Value} {ρ : Operand → Value} (hf : Fits e ρ) (h : evs e xs = some vs) : xs.map ρ = vs := by
  induction xs generalizing vs with
  | nil => simpa [evs] using h
  | cons x r ih =>
    simp only [evs] at h
    split at h
    · rename_i v hv
      split at h
      · rename_i us hu
        obtain rfl : v :: us = vs := by simpa using h
        simp [hf x v hv, ih hu]
      · cases h
    · cases h
theorem run_call {f : FuncId} {x : Operand} {xs : List Operand} {ts : Array TypeId} {fi ca : Array Value} {vs : List Value} [i : Ent P f] {ρ : Operand → Value} (hf : Fits e ρ) (hx : ev e x = some (.func (.func f) fi ca)) (hv : evs e xs = some vs) (w : World) :
    (execOp ρ ⟨d, .call ⟨.value x, xs.toArray, ts⟩, ty, pos, af, g⟩).run P w = .ok (.enter f (fi ++ vs.toArray ++ ca)) w := by
  have := evs_map hf hv
  simp [execOp, resolve, Deferred.ofValue, invoke, hf x _ hx, this, i.ok]
theorem OV.call {f : FuncId} {xs : List Operand} {ts : Array TypeId} {vs : List Value} {v : Value} [i : Ent P f] (hv : evs e xs = some vs)
    (h : ∀ w, St w0 hs w → Calls P f vs.toArray w fun e w' => e = .returned v ∧ Below w.heap.size w w') : OV P ⟨d, .call ⟨.value (.func f), xs.toArray, ts⟩, ty, pos, af, g⟩ e w0 hs v := .mk fun ρ w hf hst => by
  unfold Does
  rw [run_call hf rfl hv]
  simpa using Calls.mono (h w hst) fun e' w' ⟨he, hb⟩ => ⟨v, he, rfl, .of_below hb⟩
/-- A call of a function value. -/
theorem OV.callx {f : FuncId} {x : Operand} {xs : List Operand} {ts : Array TypeId} {fi ca vs : List Value} {v : Value} (hx : ev e x = some (.func (.func f) fi.toArray ca.toArray)) (hv : evs e xs = some vs) (i : Ent P f)
    (h : ∀ w, St w0 hs w → Calls P f (fi ++ vs ++ ca).toArray w fun e w' => e = .returned v ∧ Below w.heap.size w w') : OV P ⟨d, .call ⟨.value x, xs.toArray, ts⟩, ty, pos, af, g⟩ e w0 hs v := .mk fun ρ w hf hst => by
  unfold Does
  rw [run_call hf hx hv]
  simpa using Calls.mono (h w hst) fun e' w' ⟨he, hb⟩ => ⟨v, he, rfl, .of_below hb⟩
/-- What a contract says of a call that hands memory back. -/
def Ret (w : World) (R : Value → SH → Prop) : Ending → World → Prop := fun e w' => ∃ v H, e = .returned v ∧ R v H ∧ New H w w'
theorem ON.call {f : FuncId} {xs : List Operand} {ts : Array TypeId} {vs : List Value} {R : Value → SH → Prop} [i : Ent P f] (hv : evs e xs = some vs)
    (h : ∀ w, St w0 hs w → Calls P f vs.toArray w (Ret w R)) : ON P ⟨d, .call ⟨.value (.func f), xs.toArray, ts⟩, ty, pos, af, g⟩ e w0 hs R := .mk fun ρ w hf hst => by
  unfold Does
  rw [run_call hf rfl hv]
  simpa using Calls.mono (h w hst) fun e' w' ⟨v, H, he, hR, hn⟩ => ⟨v, he, H, hR, hn⟩
theorem ON.callx {f : FuncId} {x : Operand} {xs : List Operand} {ts : Array TypeId} {fi ca vs : List Value} {R : Value → SH → Prop} (hx : ev e x = some (.func (.func f) fi.toArray ca.toArray)) (hv : evs e xs = some vs) (i : Ent P f)
    (h : ∀ w, St w0 hs w → Calls P f (fi ++ vs ++ ca).toArray w (Ret w R)) : ON P ⟨d, .call ⟨.value x, xs.toArray, ts⟩, ty, pos, af, g⟩ e w0 hs R := .mk fun ρ w hf hst => by
  unfold Does
  rw [run_call hf hx hv]
  simpa using Calls.mono (h w hst) fun e' w' ⟨v, H, he, hR, hn⟩ => ⟨v, he, H, hR, hn⟩

end D
end Go.Proofs.YtboglbdhibcacaaGreatDoor

namespace Go.Proofs.YtboglbdhibcacaaGreatDoor
set_option linter.unusedVariables false
set_option linter.unusedSimpArgs false
namespace D
open Go.RowKit

/-- Is an operation wanted? (Its guard's slot must hold a Bool that is decided.) -/
def wantE (ops : List Oper) (e : Env) (o : Oper) : Option Bool :=
  match o.guard with
  | none => some true
  | some (j, want) => match nthL ops j with
    | none => none
    | some oj => match oj.dst with
      | none => none
      | some t => match get e t with
        | some (.bool true) => some want
        | some (.bool false) => some (!want)
        | some (.tuple _) => some false
        | _ => none
theorem nthL_some {α : Type} {l : List α} {i : Nat} {x : α} (h : nthL l i = some x) : l[i]? = some x := by
  induction l generalizing i with
  | nil => cases h
  | cons a r ih => cases i with
    | zero => simpa [nthL] using h
    | succ i => simpa using ih (by simpa [nthL] using h)
theorem wantE.eq {ops : List Oper} {e : Env} {o : Oper} {n : Nat} {ds : List Deferred} {a : Act} (ha : At n ds e a) {b : Bool} (h : wantE ops e o = some b) : Region.wanted o (yielded ops.toArray a.tmps) = b := by
  unfold wantE at h
  unfold Region.wanted
  cases hg : o.guard with
  | none => rw [hg] at h; simpa using h
  | some p =>
    obtain ⟨j, want⟩ := p
    rw [hg] at h
    simp only at h
    cases hj : nthL ops j with
    | none => rw [hj] at h; cases h
    | some oj =>
      rw [hj] at h
      simp only at h
      cases hd : oj.dst with
      | none => rw [hd] at h; cases h
      | some t =>
        rw [hd] at h
        simp only at h
        have hy : yielded ops.toArray a.tmps j = match a.tmps[t]? with | some (.bool b) => some b | _ => none := by
          unfold yielded
          simp [nthL_some hj, hd]
          cases a.tmps[t]? <;> rfl
        cases hv : get e t with
        | none => rw [hv] at h; cases h
        | some v =>
          rw [hv] at h
          have := ha.val t v hv
          rw [this] at hy
          cases v <;> simp at h hy <;> (try (simp [hy, ← h]; done))
          rename_i c
          cases c <;> cases want <;> simp at h <;> simp [hy, ← h]

variable {P : Program} {n : Nat} {ds : List Deferred} {w0 : World}

theorem At.sub' {e : Env} {a : Act} (h : At n ds e a) {t : Tmp} {v : Value} (ht : get e t = some v) : At n ds ((t, v) :: e) a := by
  refine ⟨h.size, h.defers, fun u x hu => ?_⟩
  simp only [get] at hu
  cases hb : Nat.beq t u with
  | true =>
    obtain rfl := Nat.eq_of_beq_eq_true hb
    rw [hb] at hu
    obtain rfl : v = x := by simpa using hu
    exact h.val _ _ ht
  | false =>
    rw [hb] at hu
    exact h.val u x hu
theorem least {p : Nat → Prop} (h : ∃ k, p k) : ∃ k, p k ∧ ∀ j, p j → k ≤ j := by
  obtain ⟨k, hk⟩ := h
  induction k using Nat.strongRecOn with
  | _ k ih =>
    by_cases hj : ∃ j, p j ∧ j < k
    · obtain ⟨j, h1, h2⟩ := hj
      exact ih j h2 h1
    · exact ⟨k, hk, fun j h1 => Nat.le_of_not_lt fun h2 => hj ⟨j, h1, h2⟩⟩

/-- A list of operations, from what the slots hold and what blocks there are. -/
structure L (P : Program) (n : Nat) (ds : List Deferred) (w0 : World) (ops : List Oper) (Q : Exit → Act → World → Prop) (l : List Oper) (e : Env) (hs : SH) : Prop where
  ok : ∀ a w, At n ds e a → St w0 hs w → wpList P ops.toArray Q l a w
/-- Code. -/
structure C (P : Program) (n : Nat) (ds : List Deferred) (w0 : World) (Q : Exit → Act → World → Prop) (c : Code) (e : Env) (hs : SH) : Prop where
  ok : ∀ a w, At n ds e a → St w0 hs w → c.wp P Q a w
/-- An end. -/
structure X (n : Nat) (ds : List Deferred) (w0 : World) (Q : Exit → Act → World → Prop) (x : Exit) (e : Env) (hs : SH) : Prop where
  ok : ∀ a w, At n ds e a → St w0 hs w → Q x a w

variable {ops : List Oper} {Q : Exit → Act → World → Prop} {o : Oper} {l : List Oper} {e : Env} {hs hs' : SH}

theorem L.does {Y : Type} {Φ : Y → Prop} {V : Y → Value} {H : Y → SH} (hw : wantE ops e o = some true) (hd : dstOk n o.dst = true)
    (h : ∀ a w, At n ds e a → St w0 hs w → Does P (execOp a.eval o) w fun v w' => ∃ y, Φ y ∧ v = V y ∧ St w0 (H y) w') (k : ∀ y, Φ y → L P n ds w0 ops Q l (consE o.dst (V y) e) (H y)) : L P n ds w0 ops Q (o :: l) e hs := by
  refine .mk fun a w ha hst => ?_
  unfold wpList
  rw [if_pos (wantE.eq ha hw)]
  refine .inl ((h a w ha hst).upon fun v w' ⟨y, hy, hv, hs'⟩ => ?_)
  subst hv
  exact (k y hy).ok _ _ (ha.put _ hd) hs'
theorem L.p {v : Value} (hw : wantE ops e o = some true) (hd : dstOk n o.dst = true) (h : PV P o e v) (k : L P n ds w0 ops Q l (consE o.dst v e) hs) : L P n ds w0 ops Q (o :: l) e hs :=
  L.does (Y := Unit) (Φ := fun _ => True) (V := fun _ => v) (H := fun _ => hs) hw hd (fun a w ha hst => .of_value (h.ok a.eval ha.fits w) ⟨(), trivial, rfl, hst⟩) fun _ _ => k
theorem L.v {v : Value} (hw : wantE ops e o = some true) (hd : dstOk n o.dst = true) (h : OV P o e w0 hs v) (k : L P n ds w0 ops Q l (consE o.dst v e) hs) : L P n ds w0 ops Q (o :: l) e hs :=
  L.does (Y := Unit) (Φ := fun _ => True) (V := fun _ => v) (H := fun _ => hs) hw hd (fun a w ha hst => (h.ok a.eval w ha.fits hst).mono fun v' w' ⟨hv, hn⟩ => ⟨(), trivial, hv, hst.new hn⟩) fun _ _ => k
theorem L.nw {R : Value → SH → Prop} (hw : wantE ops e o = some true) (hd : dstOk n o.dst = true) (h : ON P o e w0 hs R) (k : ∀ v H, R v H → L P n ds w0 ops Q l (consE o.dst v e) (H ++ hs)) : L P n ds w0 ops Q (o :: l) e hs :=
  L.does (Y := Value × SH) (Φ := fun y => R y.1 y.2) (V := fun y => y.1) (H := fun y => y.2 ++ hs) hw hd (fun a w ha hst => (h.ok a.eval w ha.fits hst).mono fun v' w' ⟨H, hR, hn⟩ => ⟨(v', H), hR, rfl, hst.new hn⟩) fun y hy => k y.1 y.2 hy
theorem L.na {B : Blk} (hw : wantE ops e o = some true) (hd : dstOk n o.dst = true) (h : ON P o e w0 hs (NewAt B)) (k : ∀ b : Nat, L P n ds w0 ops Q l (consE o.dst (.pointer (some ⟨b, 0, none⟩)) e) ((b, B) :: hs)) : L P n ds w0 ops Q (o :: l) e hs :=
  L.nw hw hd h fun v H ⟨b, hv, hH⟩ => by subst hv; subst hH; exact k b
theorem L.s (hw : wantE ops e o = some true) (hd : dstOk n o.dst = true) (h : OS P o e w0 hs hs') (k : L P n ds w0 ops Q l (consE o.dst undef e) hs') : L P n ds w0 ops Q (o :: l) e hs :=
  L.does (Y := Unit) (Φ := fun _ => True) (V := fun _ => undef) (H := fun _ => hs') hw hd (fun a w ha hst => (h.ok a.eval w ha.fits hst).mono fun v' w' ⟨hv, hn⟩ => ⟨(), trivial, hv, hn⟩) fun _ _ => k
theorem L.skip (hw : wantE ops e o = some false) (hd : dstOk n o.dst = true) (k : L P n ds w0 ops Q l (consE o.dst undef e) hs) : L P n ds w0 ops Q (o :: l) e hs := by
  refine .mk fun a w ha hst => ?_
  unfold wpList
  rw [if_neg (by rw [wantE.eq ha hw]; exact Bool.false_ne_true)]
  exact k.ok _ _ (ha.put _ hd) hst
theorem L.nil (k : X n ds w0 Q .normal e hs) : L P n ds w0 ops Q [] e hs := .mk fun a w ha hst => k.ok a w ha hst
/-- The slot and the Bool that an operation's guard asks. -/
def gB (ops : List Oper) (e : Env) (o : Oper) : Option (Tmp × Bool) :=
  match o.guard with
  | none => none
  | some (j, _) => match nthL ops j with
    | none => none
    | some oj => match oj.dst with
      | none => none
      | some t => match get e t with
        | some (.bool b) => some (t, b)
        | _ => none
theorem gB_get {ops : List Oper} {e : Env} {o : Oper} {t : Tmp} {b : Bool} (h : gB ops e o = some (t, b)) : get e t = some (.bool b) := by
  unfold gB at h
  repeat' split at h
  all_goals (try cases h)
  assumption
theorem L.gsplit {t : Tmp} {b : Bool} (hb : gB ops e o = some (t, b)) (h1 : b = true → L P n ds w0 ops Q (o :: l) ((t, .bool true) :: e) hs) (h2 : b = false → L P n ds w0 ops Q (o :: l) ((t, .bool false) :: e) hs) : L P n ds w0 ops Q (o :: l) e hs := by
  refine .mk fun a w ha hst => ?_
  have key : At n ds ((t, .bool b) :: e) a := ha.sub' (gB_get hb)
  cases b with
  | true => exact (h1 rfl).ok a w key hst
  | false => exact (h2 rfl).ok a w key hst
theorem L.probe (h : wantE ops e o = some true) (k : L P n ds w0 ops Q (o :: l) e hs) : L P n ds w0 ops Q (o :: l) e hs := k
/-- A slot holds a Bool: both ways. -/
theorem L.split (t : Tmp) {b : Bool} (hb : get e t = some (.bool b)) (h1 : b = true → L P n ds w0 ops Q l ((t, .bool true) :: e) hs) (h2 : b = false → L P n ds w0 ops Q l ((t, .bool false) :: e) hs) : L P n ds w0 ops Q l e hs := by
  refine .mk fun a w ha hst => ?_
  have key : At n ds ((t, .bool b) :: e) a := ha.sub' hb
  cases b with
  | true => exact (h1 rfl).ok a w key hst
  | false => exact (h2 rfl).ok a w key hst
theorem L.sub {e' : Env} (h : L P n ds w0 ops Q l e' hs') (h1 : Sub e' e) (h2 : SubH hs' hs) : L P n ds w0 ops Q l e hs := .mk fun a w ha hst => h.ok a w (ha.sub h1) (hst.sub h2.sl)
theorem C.sub {c : Code} {e' : Env} (h : C P n ds w0 Q c e' hs') (h1 : Sub e' e) (h2 : SubH hs' hs) : C P n ds w0 Q c e hs := .mk fun a w ha hst => h.ok a w (ha.sub h1) (hst.sub h2.sl)

/-! ### Code -/
theorem C.seq {x y : Code} (h : C P n ds w0 (Exit.then (fun a w => y.wp P Q a w) Q) x e hs) : C P n ds w0 Q (.seq x y) e hs := .mk fun a w ha hst => wp_seq (h.ok a w ha hst)
theorem C.block {id : Nat} {x : Code} (h : C P n ds w0 (Exit.inBlock id Q) x e hs) : C P n ds w0 Q (.block id x) e hs := .mk fun a w ha hst => wp_block (h.ok a w ha hst)
theorem C.region {id : Nat} (h : L P n ds w0 ops Q ops e hs) : C P n ds w0 Q (.region id ops.toArray false) e hs := .mk fun a w ha hst => wp_region_lit (h.ok a w ha hst)
theorem C.skip (h : X n ds w0 Q .normal e hs) : C P n ds w0 Q .skip e hs := .mk fun a w ha hst => wp_skip (h.ok a w ha hst)
theorem C.exit {id : Nat} (h : X n ds w0 Q (.exit id) e hs) : C P n ds w0 Q (.exit id) e hs := .mk fun a w ha hst => wp_exit (h.ok a w ha hst)
theorem C.ret (h : X n ds w0 Q .ret e hs) : C P n ds w0 Q .ret e hs := .mk fun a w ha hst => wp_ret (h.ok a w ha hst)
theorem C.cond {c : Operand} {x y : Code} {b : Bool} (hb : ev e c = some (.bool b)) (h1 : b = true → C P n ds w0 Q x e hs) (h2 : b = false → C P n ds w0 Q y e hs) : C P n ds w0 Q (.cond c x y) e hs := .mk fun a w ha hst =>
  wp_cond_split (ha.fits c _ hb) (fun h => (h1 h).ok a w ha hst) (fun h => (h2 h).ok a w ha hst)
theorem C.condT {c : Operand} {x y : Code} (hb : ev e c = some (.bool true)) (h : C P n ds w0 Q x e hs) : C P n ds w0 Q (.cond c x y) e hs := C.cond hb (fun _ => h) (fun h => by cases h)
theorem C.condF {c : Operand} {x y : Code} (hb : ev e c = some (.bool false)) (h : C P n ds w0 Q y e hs) : C P n ds w0 Q (.cond c x y) e hs := C.cond hb (fun h => by cases h) (fun _ => h)
/-- A loop: what holds at each round's head, indexed by y. -/
theorem C.loop {Y : Type} (E : Y → Env) (H : Y → SH) (Φ : Y → Prop) (μ : Y → Nat) (y : Y) {c : Code} (h0 : Φ y) (h1 : Sub (E y) e) (h2 : SubH (H y) hs)
    (round : ∀ y, Φ y → C P n ds w0 (Exit.then (fun a w => ∃ y', Φ y' ∧ μ y' < μ y ∧ At n ds (E y') a ∧ St w0 (H y') w) Q) c (E y) (H y)) : C P n ds w0 Q (.loop c) e hs := .mk fun a w ha hst =>
  wp_loop (fun a w => ∃ y, Φ y ∧ At n ds (E y) a ∧ St w0 (H y) w)
    (fun a w => open Classical in if h : ∃ k, ∃ y, μ y = k ∧ Φ y ∧ At n ds (E y) a ∧ St w0 (H y) w then Classical.choose (least h) else 0)
    ⟨y, h0, ha.sub h1, hst.sub h2.sl⟩ (fun a w hI => by
      have hex : ∃ k, ∃ y, μ y = k ∧ Φ y ∧ At n ds (E y) a ∧ St w0 (H y) w := hI.elim fun y h => ⟨μ y, y, rfl, h⟩
      have hl := Classical.choose_spec (least hex)
      obtain ⟨⟨y, hy, hΦ, hA, hS⟩, hmin⟩ := hl
      refine wp_mono ((round y hΦ).ok a w hA hS) fun x a' w' hx => ?_
      cases x <;> try exact hx
      obtain ⟨y', h1, h2, h3, h4⟩ := hx
      refine ⟨⟨y', h1, h3, h4⟩, ?_⟩
      have hex' : ∃ k, ∃ y, μ y = k ∧ Φ y ∧ At n ds (E y) a' ∧ St w0 (H y) w' := ⟨μ y', y', rfl, h1, h3, h4⟩
      rw [dif_pos hex', dif_pos hex]
      have := (Classical.choose_spec (least hex')).2 (μ y') ⟨y', rfl, h1, h3, h4⟩
      omega)

/-! ### Ends -/
theorem X.then_normal {y : Code} (h : C P n ds w0 Q y e hs) : X n ds w0 (Exit.then (fun a w => y.wp P Q a w) Q) .normal e hs := .mk fun a w ha hst => h.ok a w ha hst
theorem X.then_ret {K : Act → World → Prop} (h : X n ds w0 Q .ret e hs) : X n ds w0 (Exit.then K Q) .ret e hs := .mk fun a w ha hst => h.ok a w ha hst
theorem X.then_exit {K : Act → World → Prop} {id : Nat} (h : X n ds w0 Q (.exit id) e hs) : X n ds w0 (Exit.then K Q) (.exit id) e hs := .mk fun a w ha hst => h.ok a w ha hst
theorem X.block_normal {id : Nat} (h : X n ds w0 Q .normal e hs) : X n ds w0 (Exit.inBlock id Q) .normal e hs := .mk fun a w ha hst => h.ok a w ha hst
theorem X.block_ret {id : Nat} (h : X n ds w0 Q .ret e hs) : X n ds w0 (Exit.inBlock id Q) .ret e hs := .mk fun a w ha hst => h.ok a w ha hst
theorem X.block_here {id : Nat} (h : X n ds w0 Q .normal e hs) : X n ds w0 (Exit.inBlock id Q) (.exit id) e hs := .mk fun a w ha hst => by
  show (if id = id then Q .normal a w else Q (.exit id) a w)
  rw [if_pos rfl]; exact h.ok a w ha hst
theorem X.block_on {id id' : Nat} (hne : Nat.beq id' id = false) (h : X n ds w0 Q (.exit id') e hs) : X n ds w0 (Exit.inBlock id Q) (.exit id') e hs := .mk fun a w ha hst => by
  show (if id' = id then Q .normal a w else Q (.exit id') a w)
  rw [if_neg (Nat.ne_of_beq_eq_false hne)]; exact h.ok a w ha hst
/-- A round's end. -/
theorem X.round {Y : Type} {E : Y → Env} {H : Y → SH} {Φ : Y → Prop} {μ : Y → Nat} {m : Nat} (y' : Y) (h1 : Φ y') (h2 : μ y' < m) (h3 : Sub (E y') e) (h4 : SubH (H y') hs) :
    X n ds w0 (Exit.then (fun a w => ∃ y', Φ y' ∧ μ y' < m ∧ At n ds (E y') a ∧ St w0 (H y') w) Q) .normal e hs := .mk fun a w ha hst => ⟨y', h1, h2, ha.sub h3, hst.sub h4.sl⟩
/-- What a function's results read as. -/
def RV (P : Program) (n : Nat) (ds : List Deferred) (w0 : World) (r : ResultVar) (e : Env) (hs : SH) (v : Value) : Prop :=
  match r with
  | .tmp t => get e t = some v
  | .cell t T => ∃ b o, get e t = some (.pointer (some ⟨b, o, none⟩)) ∧ ∀ w, St w0 hs w → (loadVar T ⟨b, o, none⟩).run P w = .ok v w
inductive RVs (P : Program) (n : Nat) (ds : List Deferred) (w0 : World) (e : Env) (hs : SH) : List ResultVar → List Value → Prop where
  | nil : RVs P n ds w0 e hs [] []
  | cons {r : ResultVar} {rs : List ResultVar} {v : Value} {vs : List Value} (h : RV P n ds w0 r e hs v) (k : RVs P n ds w0 e hs rs vs) : RVs P n ds w0 e hs (r :: rs) (v :: vs)
def tupleOf : List Value → Value
  | [v] => v
  | vs => .tuple vs.toArray
theorem RV.cellk {t : Tmp} {T T' : TypeId} {b o k : Nat} {vs us : List Value} [Ag P T k] (hx : get e t = some (.pointer (some ⟨b, o, none⟩))) (hm : (b, Blk.cells T' vs) ∈ hs) (hv : Rd o k vs us) : RV P n ds w0 (.cell t T) e hs (.agg us.toArray) :=
  ⟨b, o, hx, fun w hst => run_loadVar_ag hv.length fun j v hj => hst.cell hm (hv.at j v hj)⟩
theorem RV.cell1 {t : Tmp} {T T' : TypeId} {b o : Nat} {vs : List Value} {v : Value} [Sc P T] (hx : get e t = some (.pointer (some ⟨b, o, none⟩))) (hm : (b, Blk.cells T' vs) ∈ hs) (hv : Rd o 1 vs [v]) : RV P n ds w0 (.cell t T) e hs v :=
  ⟨b, o, hx, fun w hst => run_loadVar_sc (hst.cell hm (by simpa using hv.at 0 v rfl))⟩
theorem RV.tmp {t : Tmp} {v : Value} (hx : get e t = some v) : RV P n ds w0 (.tmp t) e hs v := hx
def resOne (tmps : Array Value) : ResultVar → Sem Value
  | .tmp t => pure (tmps.getD t undef)
  | .cell a t => do loadVar t (← asAddr (tmps.getD a undef))
theorem results_eq (fn : Func) (tmps : Array Value) : results fn tmps = (do let vs ← fn.results.mapM (resOne tmps); pure (if h : vs.size = 1 then vs[0] else .tuple vs)) := by
  unfold results
  congr 1
theorem run_resOne {r : ResultVar} {v : Value} {a : Act} {w : World} (h : RV P n ds w0 r e hs v) (ha : At n ds e a) (hst : St w0 hs w) : (resOne a.tmps r).run P w = .ok v w := by
  cases r with
  | tmp t => simp [resOne, ha.val t v h]
  | cell p t =>
    obtain ⟨b, o, hp, hl⟩ := h
    simp [resOne, ha.val p _ hp, asAddr, hl w hst]
theorem run_resAll {rs : List ResultVar} {vs : List Value} (h : RVs P n ds w0 e hs rs vs) {a : Act} {w : World} (ha : At n ds e a) (hst : St w0 hs w) : (rs.mapM (resOne a.tmps)).run P w = .ok vs w := by
  induction h with
  | nil => rfl
  | cons h k ih =>
    rw [List.mapM_cons, Sem.run_bind, run_resOne h ha hst]
    simp only [Result.andThen_ok, Sem.run_bind, ih]
    rfl
theorem run_results {fn : Func} {rs : List ResultVar} (hrs : fn.results = rs.toArray) {vs : List Value} (h : RVs P n ds w0 e hs rs vs) {a : Act} {w : World} (ha : At n ds e a) (hst : St w0 hs w) : (results fn a.tmps).run P w = .ok (tupleOf vs) w := by
  have hm : (rs.toArray.mapM (resOne a.tmps)).run P w = .ok vs.toArray w := by
    rw [Array.mapM_eq_mapM_toList]
    simp [run_resAll h ha hst]
  rw [results_eq, hrs, Sem.run_bind, hm]
  simp only [Result.andThen_ok]
  cases vs with
  | nil => rfl
  | cons v r => cases r with
    | nil => rfl
    | cons u r => simp [tupleOf]
theorem X.body {fn : Func} {rs : List ResultVar} {vs : List Value} {R : Ending → World → Prop} (hds : ds = []) (hrs : fn.results = rs.toArray) (h : RVs P n ds w0 e hs rs vs) (k : ∀ w, St w0 hs w → R (.returned (tupleOf vs)) w) : X n ds w0 (bodyPost P fn R) .ret e hs :=
  .mk fun a w ha hst => ⟨ha.defers.trans hds, _, run_results hrs h ha hst, k w hst⟩
theorem X.bodyN {fn : Func} {rs : List ResultVar} {vs : List Value} {R : Ending → World → Prop} (hds : ds = []) (hrs : fn.results = rs.toArray) (h : RVs P n ds w0 e hs rs vs) (k : ∀ w, St w0 hs w → R (.returned (tupleOf vs)) w) : X n ds w0 (bodyPost P fn R) .normal e hs :=
  .mk fun a w ha hst => ⟨ha.defers.trans hds, _, run_results hrs h ha hst, k w hst⟩
theorem X.retv {fn : Func} {rs : List ResultVar} {vs : List Value} {v : Value} (hrs : fn.results = rs.toArray) (h : RVs P n [] w0 e hs rs vs) (hv : tupleOf vs = v) : X n [] w0 (bodyPost P fn fun e w' => e = .returned v ∧ Below w0.heap.size w0 w') .ret e hs :=
  X.body rfl hrs h fun w hst => ⟨by rw [hv], hst.low⟩
theorem X.retr {fn : Func} {rs : List ResultVar} {vs : List Value} {R : Value → SH → Prop} (H : SH) (hrs : fn.results = rs.toArray) (h : RVs P n [] w0 e hs rs vs) (hs' : SubH H hs) (hR : R (tupleOf vs) H) : X n [] w0 (bodyPost P fn (Ret w0 R)) .ret e hs :=
  X.body rfl hrs h fun w hst => ⟨_, H, rfl, hR, hst.newAll.sub hs'.sl⟩

/-! ### The beginning -/
def args0 : List Value → Nat → Env
  | [], _ => []
  | v :: r, k => (k, v) :: args0 r (k + 1)
theorem get_args0 : ∀ (vs : List Value) (k t : Nat) (v : Value), get (args0 vs k) t = some v → k ≤ t ∧ vs[t - k]? = some v
  | [], _, _, _, h => by cases h
  | u :: r, k, t, v, h => by
    simp only [args0, get] at h
    cases hb : Nat.beq k t with
    | true =>
      obtain rfl := Nat.eq_of_beq_eq_true hb
      rw [hb] at h
      simpa using h
    | false =>
      have hne := Nat.ne_of_beq_eq_false hb
      rw [hb] at h
      obtain ⟨h1, h2⟩ := get_args0 r (k + 1) t v h
      refine ⟨by omega, ?_⟩
      have e : t - k = (t - (k + 1)) + 1 := by omega
      rw [e]
      simpa using h2
theorem enter {f : FuncId} {fn : Func} {c : Code} {vs : List Value} {R : Ending → World → Prop} (hf : P.funcs[f]? = some fn) (hb : fn.body = some c) (hn : fn.ntmps = n) (hl : Nat.ble vs.length n = true) (hbase : Base w0)
    (h : C P n [] w0 (bodyPost P fn R) c (args0 vs 0) []) : Calls P f vs.toArray w0 R := by
  refine calls_of_wp hf hb (h.ok _ _ ⟨?_, rfl, fun t v ht => ?_⟩ (.start hbase))
  · have := Nat.le_of_ble_eq_true hl
    simp [hn]; omega
  · obtain ⟨_, h2⟩ := get_args0 vs 0 t v ht
    simp only [Nat.sub_zero] at h2
    have hlt : t < vs.length := (List.getElem?_eq_some_iff.1 h2).1
    simp [Array.getElem?_append, hlt]
    exact (List.getElem?_eq_some_iff.1 h2).2

end D
end Go.Proofs.YtboglbdhibcacaaGreatDoor

namespace Go.Proofs.YtboglbdhibcacaaGreatDoor
set_option linter.unusedVariables false
set_option linter.unusedSimpArgs false
namespace D
open Go.RowKit

/-! ### Who waits for whom -/
def mask (acc : List Nat) (o : Oper) : Nat := o.after.toList.foldl (fun s e => if Region.binds .any e then s ||| 2 ^ e.on ||| acc.getD e.on 0 else s) 0
def befs : List Oper → List Nat → List Nat
  | [], acc => acc
  | o :: r, acc => befs r (acc ++ [mask acc o])
def bef (ops : List Oper) (k : Nat) : Nat := (befs ops []).getD k 0
theorem mask_spec {acc : List Nat} {j : Nat} : ∀ (l : List Edge) (s : Nat), (l.foldl (fun s e => if Region.binds .any e then s ||| 2 ^ e.on ||| acc.getD e.on 0 else s) s).testBit j = true →
    s.testBit j = true ∨ ∃ e ∈ l, Region.binds .any e = true ∧ (e.on = j ∨ (acc.getD e.on 0).testBit j = true)
  | [], s, h => .inl h
  | e :: l, s, h => by
    simp only [List.foldl_cons] at h
    rcases mask_spec l _ h with h1 | ⟨e', he', h'⟩
    · split at h1
      · rename_i hb
        simp only [Nat.testBit_or, Bool.or_eq_true, Nat.testBit_two_pow, decide_eq_true_eq] at h1
        rcases h1 with (h1 | h1) | h1
        · exact .inl h1
        · exact .inr ⟨e, List.Mem.head _, hb, .inl h1⟩
        · exact .inr ⟨e, List.Mem.head _, hb, .inr h1⟩
      · exact .inl h1
    · exact .inr ⟨e', List.Mem.tail _ he', h'⟩
theorem befs_old : ∀ (l : List Oper) (acc : List Nat) (k : Nat), k < acc.length → (befs l acc).getD k 0 = acc.getD k 0
  | [], _, _, _ => rfl
  | o :: r, acc, k, h => by
    rw [befs, befs_old r _ k (by simp; omega)]
    simp [List.getD, List.getElem?_append, h]
theorem befs_spec : ∀ (l : List Oper) (acc : List Nat) (k j : Nat), acc.length ≤ k → ((befs l acc).getD k 0).testBit j = true →
    ∃ o, l[k - acc.length]? = some o ∧ ∃ e ∈ o.after.toList, Region.binds .any e = true ∧ (e.on = j ∨ ((befs l acc).getD e.on 0).testBit j = true)
  | [], acc, k, j, hk, h => by
    simp [befs, List.getD, List.getElem?_eq_none hk] at h
  | o :: r, acc, k, j, hk, h => by
    rw [befs] at h ⊢
    by_cases hk' : k = acc.length
    · subst hk'
      rw [befs_old r _ _ (by simp)] at h
      simp only [List.getD, List.getElem?_append, Nat.lt_irrefl, if_false, Nat.sub_self, List.getElem?_cons_zero, Option.getD_some] at h
      obtain h0 | ⟨e, he, hb, h1⟩ := mask_spec _ _ h
      · simp at h0
      · refine ⟨o, by simp, e, he, hb, h1.imp id fun h2 => ?_⟩
        have hlt : e.on < acc.length := by
          rcases Nat.lt_or_ge e.on acc.length with h | h
          · exact h
          · simp [List.getD, List.getElem?_eq_none h] at h2
        rw [befs_old r _ _ (by simp; omega)]
        simpa [List.getD, List.getElem?_append, hlt] using h2
    · obtain ⟨o', ho, he⟩ := befs_spec r (acc ++ [mask acc o]) k j (by simp; omega) h
      refine ⟨o', ?_, he⟩
      have e : k - acc.length = (k - (acc ++ [mask acc o]).length) + 1 := by simp; omega
      rw [e]
      simpa using ho
theorem bef_spec {ops : List Oper} {k j : Nat} (h : (bef ops k).testBit j = true) : ∃ o, ops[k]? = some o ∧ ∃ e ∈ o.after.toList, Region.binds .any e = true ∧ (e.on = j ∨ (bef ops e.on).testBit j = true) := by
  simpa [bef] using befs_spec ops [] k j (Nat.zero_le _) h

/-! ### The walk in the text's order -/
abbrev Sp := Option (Value → SH → Prop)
def isPure : Sp → Bool
  | none => true
  | some _ => false
def sel (ops : List Oper) (i : Nat) (acc : List (Nat × SH)) : SH := ((acc.filter fun p => (bef ops i).testBit p.1).map (·.2)).flatten
def allH (acc : List (Nat × SH)) : SH := (acc.map (·.2)).flatten
/-- What has been handed out by number i. -/
def consA (i : Nat) (H : SH) (acc : List (Nat × SH)) : List (Nat × SH) := match H with
  | [] => acc
  | x :: r => (i, x :: r) :: acc
theorem allH_consA (i : Nat) (H : SH) (acc : List (Nat × SH)) : allH (consA i H acc) = H ++ allH acc := by cases H <;> simp [consA, allH]
theorem mem_consA {i : Nat} {H : SH} {acc : List (Nat × SH)} {p : Nat × SH} (h : p ∈ consA i H acc) : p = (i, H) ∨ p ∈ acc := by
  cases H with
  | nil => exact .inr h
  | cons x r => exact List.mem_cons.1 h
theorem consA_pairwise {i : Nat} {H : SH} {acc : List (Nat × SH)} (h : acc.Pairwise (fun a b => a.1 ≠ b.1)) (hi : ∀ p ∈ acc, i ≠ p.1) : (consA i H acc).Pairwise (fun a b => a.1 ≠ b.1) := by
  cases H with
  | nil => exact h
  | cons x r => exact .cons (fun p hp => hi p hp) h
/-- What a region's calls may turn: the blocks lent, told by a number that grows by at most c i at operation i, from lo on. -/
structure Lend where
  pre : Int → SH
  c : Nat → Nat
  lo : Int
  hi : Int
/-- Makes memory, and may turn what is lent. -/
structure OP (P : Program) (w0 : World) (Z : Lend) (k : Nat) (o : Oper) (e : Env) (hs : SH) (R : Value → SH → Prop) : Prop where
  ok : ∀ ρ w p F, Fits e ρ → Z.lo ≤ p → p + k ≤ Z.hi → St w0 (Z.pre p ++ (hs ++ F)) w → Does P (execOp ρ o) w fun v w' => ∃ H p', R v H ∧ p ≤ p' ∧ p' ≤ p + k ∧ St w0 (H ++ (Z.pre p' ++ (hs ++ F))) w'
theorem OP.on {P : Program} {w0 : World} {Z : Lend} {k : Nat} {o : Oper} {e : Env} {hs : SH} {R : Value → SH → Prop} (h : ON P o e w0 hs R) : OP P w0 Z k o e hs R := .mk fun ρ w p F hf h1 h2 hst =>
  (h.ok ρ w hf (hst.sub ((List.sublist_append_left hs F).trans (List.sublist_append_right _ _)))).mono fun v w' ⟨H, hR, hn⟩ => ⟨H, p, hR, by omega, by omega, hst.new hn⟩
def RG (P : Program) (n : Nat) (w0 : World) (Z : Lend) (ops : List Oper) (hs : SH) (K : Env → SH → Prop) : Nat → List Oper → List Sp → Env → List (Nat × SH) → SH → Prop
  | _, [], [], e, acc, own => K e own
  | i, o :: os, none :: Rs, e, acc, own => dstOk n o.dst = true ∧ ∃ v, ((wantE ops e o = some true ∧ PV P o e v) ∨ (wantE ops e o = some false ∧ v = undef)) ∧ RG P n w0 Z ops hs K (i + 1) os Rs (consE o.dst v e) acc own
  | i, o :: os, some R :: Rs, e, acc, own => dstOk n o.dst = true ∧ ((wantE ops e o = some true ∧ OP P w0 Z (Z.c i) o e (sel ops i acc ++ hs) R) ∨ (wantE ops e o = some false ∧ R = fun v H => v = undef ∧ H = [])) ∧
      ∀ v H, R v H → RG P n w0 Z ops hs K (i + 1) os Rs (consE o.dst v e) (consA i H acc) (H ++ own)
  | _, _, _, _, _, _ => False

/-- What the text must show (a closed fact). -/
def chk (ops : List Oper) (m : Nat) (pure : List Bool) : Bool :=
  let bs := befs ops []
  let N := ops.length
  pure.length == m && Nat.ble m N && Region.noSelect ops.toArray &&
  (ops.zipIdx.all fun (o, i) =>
    (o.after.toList.all fun e => !Region.binds .any e || Nat.blt e.on i) &&
    (if Nat.blt i m then
      ((o.looksAt ops.toArray).all fun t => ops.zipIdx.all fun (oj, j) => oj.dst != some t || Nat.ble m j || (Nat.blt j i && (bs.getD i 0).testBit j)) &&
      (ops.zipIdx.all fun (oj, j) => j == i || o.dst.isNone || oj.dst != o.dst) &&
      (!pure.getD i false || ops.zipIdx.all fun (oj, j) => j == i || oj.after.any (fun e => Region.binds .any e && e.on == i) || (bs.getD i 0).testBit j || o.apart ops.toArray oj)
    else
      ((List.range i).all fun j => (Nat.blt j m && pure.getD j false) || (bs.getD i 0).testBit j)))

theorem blt_iff {a b : Nat} : Nat.blt a b = true ↔ a < b := by rw [Nat.blt_eq]
structure Chk (ops : List Oper) (m : Nat) (pure : List Bool) : Prop where
  len : pure.length = m
  le : m ≤ ops.length
  nosel : Region.noSelect ops.toArray = true
  back : ∀ (i : Nat) o, ops[i]? = some o → ∀ e ∈ o.after.toList, Region.binds .any e = true → e.on < i
  looks : ∀ (i : Nat) o, ops[i]? = some o → i < m → ∀ t ∈ o.looksAt ops.toArray, ∀ (j : Nat) oj, ops[j]? = some oj → oj.dst = some t → m ≤ j ∨ (j < i ∧ (bef ops i).testBit j = true)
  uniq : ∀ (i : Nat) o, ops[i]? = some o → i < m → ∀ (j : Nat) oj, ops[j]? = some oj → j ≠ i → ∀ t, o.dst = some t → oj.dst ≠ some t
  free : ∀ (i : Nat) o, ops[i]? = some o → i < m → pure.getD i false = true → ∀ (j : Nat) oj, ops[j]? = some oj → j ≠ i → (∃ e ∈ oj.after.toList, Region.binds .any e = true ∧ e.on = i) ∨ (bef ops i).testBit j = true ∨ o.apart ops.toArray oj = true
  late : ∀ (i : Nat) o, ops[i]? = some o → m ≤ i → ∀ j, j < i → (j < m ∧ pure.getD j false = true) ∨ (bef ops i).testBit j = true
theorem zipIdx_all {α : Type} {l : List α} {f : α × Nat → Bool} (h : l.zipIdx.all f = true) {i : Nat} {x : α} (hx : l[i]? = some x) : f (x, i) = true := by
  refine List.all_eq_true.1 h (x, i) ?_
  exact List.mk_mem_zipIdx_iff_getElem?.2 hx
theorem chk_spec {ops : List Oper} {m : Nat} {pure : List Bool} (h : chk ops m pure = true) : Chk ops m pure := by
  simp only [chk, Bool.and_eq_true, beq_iff_eq] at h
  obtain ⟨⟨⟨h1, h2⟩, h3⟩, h4⟩ := h
  have h4' := fun (i : Nat) o (ho : ops[i]? = some o) => zipIdx_all h4 ho
  simp only [Bool.and_eq_true] at h4'
  refine ⟨h1, Nat.le_of_ble_eq_true h2, h3, fun i o ho e he hb => ?_, fun i o ho hi t ht j oj hj hd => ?_, fun i o ho hi j oj hj hne t ht => ?_, fun i o ho hi hp j oj hj hne => ?_, fun i o ho hi j hj => ?_⟩
  · have := List.all_eq_true.1 (h4' i o ho).1 e he
    simp only [hb, Bool.not_true, Bool.false_or] at this
    exact blt_iff.1 this
  · have := (h4' i o ho).2
    rw [if_pos (blt_iff.2 hi)] at this
    simp only [Bool.and_eq_true] at this
    have := zipIdx_all (List.all_eq_true.1 this.1.1 t ht) hj
    simp only [hd, bne_self_eq_false, Bool.false_or, Bool.or_eq_true, Bool.and_eq_true] at this
    exact this.imp Nat.le_of_ble_eq_true fun h => ⟨blt_iff.1 h.1, h.2⟩
  · have := (h4' i o ho).2
    rw [if_pos (blt_iff.2 hi)] at this
    simp only [Bool.and_eq_true] at this
    have := zipIdx_all this.1.2 hj
    intro hd
    simp [hne, ht, hd] at this
  · have := (h4' i o ho).2
    rw [if_pos (blt_iff.2 hi)] at this
    simp only [Bool.and_eq_true] at this
    have := this.2
    rw [hp] at this
    simp only [Bool.not_true, Bool.false_or] at this
    have := zipIdx_all this hj
    simp only [Bool.or_eq_true, beq_iff_eq, hne, false_or] at this
    rcases this with (h | h) | h
    · obtain ⟨e, he, hb⟩ := Array.any_eq_true'.1 h
      simp only [Bool.and_eq_true, beq_iff_eq] at hb
      exact .inl ⟨e, by simpa using he, hb⟩
    · exact .inr (.inl h)
    · exact .inr (.inr h)
  · have := (h4' i o ho).2
    rw [if_neg (by intro h; have := blt_iff.1 h; omega)] at this
    have := List.all_eq_true.1 this j (by simpa using hj)
    simp only [Bool.or_eq_true, Bool.and_eq_true] at this
    exact this.imp (fun h => ⟨blt_iff.1 h.1, h.2⟩) id

end D
end Go.Proofs.YtboglbdhibcacaaGreatDoor
