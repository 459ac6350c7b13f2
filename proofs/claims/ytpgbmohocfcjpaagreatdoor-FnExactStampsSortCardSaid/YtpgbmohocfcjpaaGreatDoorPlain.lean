/- The plain mathematics of dates: no program in sight. -/
import Derived.WalkKit
import Derived.Lib.Hide
import Derived.Deep.QuietTactic
import Derived.StillTailTactics
namespace Go.Proofs.YtpgbmohocfcjpaaGreatDoor
set_option linter.unusedVariables false
set_option linter.unusedSimpArgs false
namespace D
open Go.RowKit

def inR (n lo hi : Int) : Bool := decide (lo ≤ n ∧ n ≤ hi)
theorem inR_true {n lo hi : Int} : inR n lo hi = true ↔ lo ≤ n ∧ n ≤ hi := by simp [inR]
theorem inR_false {n lo hi : Int} : inR n lo hi = false ↔ ¬ (lo ≤ n ∧ n ≤ hi) := by simp [inR]
def leap (y : Int) : Bool := inR y 1 9999 && (y % 4 == 0) && (!(y % 100 == 0) || (y % 400 == 0))
def mdTab : List Int := [31, 28, 31, 30, 31, 30, 31, 31, 30, 31, 30, 31]
def md (y m : Int) : Int := if !inR y 1 9999 || !inR m 1 12 then 0 else if m = 2 ∧ leap y = true then 29 else mdTab.getD (m - 1).toNat 0
def dval (y m d : Int) : Bool := inR d 1 (md y m)
def ny (y : Int) : Int := 365 * (y - 1) + (y - 1) / 4 - (y - 1) / 100 + (y - 1) / 400
/-- How many days of a year are before its month k + 1. -/
def cumN (y : Int) : Nat → Int
  | 0 => 0
  | k + 1 => cumN y k + md y (k + 1)
def cum (y m : Int) : Int := cumN y (m - 1).toNat
def ord (y m d : Int) : Int := cum y m + d
def num (y m d : Int) : Int := ny y + ord y m d - 1

theorem md_bd (y m : Int) : 0 ≤ md y m ∧ md y m ≤ 31 := by
  unfold md
  split
  · omega
  · rename_i h
    split
    · omega
    · have h : inR m 1 12 = true := by simp_all
      have := inR_true.1 h
      obtain ⟨k, hk⟩ : ∃ k : Nat, m = k + 1 := ⟨(m - 1).toNat, by omega⟩
      subst hk
      have : k < 12 := by omega
      have e : ((k : Int) + 1 - 1).toNat = k := by omega
      rw [e]
      have : k = 0 ∨ k = 1 ∨ k = 2 ∨ k = 3 ∨ k = 4 ∨ k = 5 ∨ k = 6 ∨ k = 7 ∨ k = 8 ∨ k = 9 ∨ k = 10 ∨ k = 11 := by omega
      rcases this with rfl | rfl | rfl | rfl | rfl | rfl | rfl | rfl | rfl | rfl | rfl | rfl <;> simp [mdTab]
theorem cumN_bd (y : Int) (k : Nat) : 0 ≤ cumN y k ∧ cumN y k ≤ 31 * k := by
  induction k with
  | zero => simp [cumN]
  | succ k ih =>
    have := md_bd y (k + 1)
    simp only [cumN]
    omega
theorem dval_bd {y m d : Int} (h : dval y m d = true) : 1 ≤ y ∧ y ≤ 9999 ∧ 1 ≤ m ∧ m ≤ 12 ∧ 1 ≤ d ∧ d ≤ 31 ∧ d ≤ md y m := by
  unfold dval at h
  have h1 := inR_true.1 h
  have h2 := md_bd y m
  have h3 : inR y 1 9999 = true ∧ inR m 1 12 = true := by
    cases a : inR y 1 9999 <;> cases b : inR m 1 12 <;> simp [md, a, b] at h1 ⊢ <;> omega
  have := inR_true.1 h3.1
  have := inR_true.1 h3.2
  omega
theorem cum_succ (y m : Int) (h : 1 ≤ m) : cum y (m + 1) = cum y m + md y m := by
  unfold cum
  obtain ⟨k, hk⟩ : ∃ k : Nat, m = k + 1 := ⟨(m - 1).toNat, by omega⟩
  subst hk
  have e1 : ((k : Int) + 1 + 1 - 1).toNat = k + 1 := by omega
  have e2 : ((k : Int) + 1 - 1).toNat = k := by omega
  rw [e1, e2]
  simp [cumN]
theorem cum_bd (y m : Int) (h : m ≤ 13) : 0 ≤ cum y m ∧ cum y m ≤ 372 := by
  have := cumN_bd y (m - 1).toNat
  unfold cum
  omega
theorem ny_bd (y : Int) (h1 : 1 ≤ y) (h2 : y ≤ 10000) : 0 ≤ ny y ∧ ny y ≤ 3652059 := by unfold ny; omega
theorem ord_bd (y m d : Int) (h : m ≤ 13) (h1 : 1 ≤ d) (h2 : d ≤ 31) : 1 ≤ ord y m d ∧ ord y m d ≤ 403 := by
  have := cum_bd y m h
  unfold ord
  omega
def cmp (a b : Int) : Int := if a < b then -1 else if b < a then 1 else 0
/-- A date, and whether there is one. -/
structure DR where
  y : Int
  m : Int
  d : Int
  ok : Bool
def DR.no : DR := ⟨0, 0, 0, false⟩
def mpT (y m n : Int) : Int := 12 * (y - 1) + m - 1 + n
def mplus (y m d n : Int) : DR :=
  if dval y m d && inR n (-119988) 119988 then
    if 0 ≤ mpT y m n ∧ mpT y m n / 12 < 9999 then ⟨mpT y m n / 12 + 1, mpT y m n % 12 + 1, min d (md (mpT y m n / 12 + 1) (mpT y m n % 12 + 1)), true⟩ else DR.no
  else DR.no
theorem mplus_invalid {y m d n : Int} (h : dval y m d = false) : mplus y m d n = DR.no := by simp [mplus, h]
theorem mplus_range {y m d n : Int} (h : inR n (-119988) 119988 = false) : mplus y m d n = DR.no := by simp [mplus, h]
theorem mplus_out {y m d n : Int} (h : ¬ (0 ≤ mpT y m n ∧ mpT y m n / 12 < 9999)) : mplus y m d n = DR.no := by
  unfold mplus
  rw [if_neg h]
  simp
theorem mplus_in {y m d n : Int} (h1 : dval y m d = true) (h2 : inR n (-119988) 119988 = true) (h : 0 ≤ mpT y m n ∧ mpT y m n / 12 < 9999) :
    mplus y m d n = ⟨mpT y m n / 12 + 1, mpT y m n % 12 + 1, min d (md (mpT y m n / 12 + 1) (mpT y m n % 12 + 1)), true⟩ := by
  unfold mplus
  rw [if_pos h, h1, h2]
  simp

/-- What the package-level variables hold. -/
structure Base (w : World) : Prop where
  size : 8 ≤ w.heap.size
  tab : ∀ i : Nat, i < 12 → w.cell? ⟨1, i, none⟩ = some (.int .i64 (mdTab.getD i 0))

theorem Base.below {w w' : World} {B : Nat} (h : Base w) (hb : Below B w w') (hB : 8 ≤ B) : Base w' :=
  { size := Nat.le_trans h.size hb.size
    tab := fun i hi => (hb.cell (by show 1 < B; omega)).trans (h.tab i hi)
  }
theorem Base.low {w w' : World} (h : Base w) (hb : Below w.heap.size w w') : Base w' := h.below hb h.size
theorem Base.alloc {w : World} (h : Base w) (o : Obj) : Base (w.alloc o) := h.low ((Below.refl _ _).alloc (Nat.le_refl _) o)
theorem Base.drew {w : World} (h : Base w) : Base w.drew := h.low (Below.refl _ _).drew
theorem Base.drewN {w : World} (h : Base w) (n : Nat) : Base (w.drewN n) := h.low (by exact ⟨rfl, rfl, rfl, Nat.le_refl _, fun _ _ => rfl⟩)
theorem below_drewN {B : Nat} {a w : World} (h : Below B a w) (n : Nat) : Below B a (w.drewN n) := h.trans ⟨rfl, rfl, rfl, Nat.le_refl _, fun _ _ => rfl⟩
theorem bcell {W w1 : World} (hb : Below W.heap.size W w1) : (∀ b o, b < W.heap.size → w1.cell? ⟨b, o, none⟩ = W.cell? ⟨b, o, none⟩) ∧ (∀ b o, b < W.heap.size → w1.frozen? ⟨b, o, none⟩ = W.frozen? ⟨b, o, none⟩) :=
  ⟨fun b o h => hb.cell (p := ⟨b, o, none⟩) h, fun b o h => hb.frozen (p := ⟨b, o, none⟩) h⟩
theorem after {B : Nat} {w W w1 : World} (h : Below B w W) (hb1 : Below W.heap.size W w1) (hB : B ≤ W.heap.size) : Below B w w1 := h.trans (hb1.mono hB)
/-- A contract that leaves the world alone, in a region that draws its order. -/
theorem qs {P : Program} {f : FuncId} {args : Array Value} {w : World} {n : Nat} {v : Value}
    (h : Calls P f args (w.drewN n) fun e w' => e = .returned v ∧ w.drewN n = w') : Calls P f args (w.drewN n) fun e w'' => e = .returned v ∧ ∃ m, w'' = w.drewN m :=
  h.mono fun _ _ ⟨he, hm⟩ => ⟨he, n, hm.symm⟩
theorem ss {P : Program} {f : FuncId} {args : Array Value} {w : World} {v : Value}
    (h : Calls P f args w fun e w' => e = .returned v ∧ w = w') : Calls P f args w fun e w' => e = .returned v ∧ w' = w :=
  h.mono fun _ _ ⟨he, hm⟩ => ⟨he, hm.symm⟩
theorem tail {P : Program} {id : Nat} {Q : Exit → Act → World → Prop} {a : Act} {w : World} {l : List Oper} (n : Nat) (hm : P.follows .mixedOrders = true) (hB : Region.lexTailB .any l.toArray n = true)
    (h : wpStill P l.toArray w.drew (fun a' => wpList P l.toArray Q (l.drop n) a' w.drew) (l.take n) a) : (Code.region id l.toArray true).wp P Q a w :=
  wp_region_still_tail n hm hB h
/-- The number that a cell holds. -/
def ic (w : World) (b o : Nat) : Int := match w.cell? ⟨b, o, none⟩ with | some (.int _ n) => n | _ => 0
theorem ic_of {w : World} {b o : Nat} {n : Int} (h : w.cell? ⟨b, o, none⟩ = some (.int .i64 n)) : w.cell? ⟨b, o, none⟩ = some (.int .i64 (ic w b o)) := by
  unfold ic
  rw [h]
theorem ic_set {w : World} {b o : Nat} {n : Int} {u : Value} (h : w.cell? ⟨b, o, none⟩ = some u) : (w.setCell ⟨b, o, none⟩ (.int .i64 n)).cell? ⟨b, o, none⟩ = some (.int .i64 (ic (w.setCell ⟨b, o, none⟩ (.int .i64 n)) b o)) :=
  ic_of (World.cell?_setCell_same _ _ _ h)
theorem ic_setCell {w : World} {b o : Nat} {k : IntKind} {n : Int} {u : Value} (h : w.cell? ⟨b, o, none⟩ = some u) : ic (w.setCell ⟨b, o, none⟩ (.int k n)) b o = n := by
  unfold ic
  rw [World.cell?_setCell_same _ _ _ h]
/-- What a cell holds that has just been written. -/
theorem set_back {w : World} {b o : Nat} {v x : Value} (h : (w.setCell ⟨b, o, none⟩ v).cell? ⟨b, o, none⟩ = some x) : x = v := by
  cases hc : w.cell? ⟨b, o, none⟩ with
  | some u =>
    rw [World.cell?_setCell_same _ _ _ hc] at h
    exact (Option.some.inj h).symm
  | none =>
    exfalso
    unfold World.cell? at h hc
    simp only [World.setCell, Array.getElem?_modify, if_true] at h
    cases hb : w.heap[b]? with
    | none => simp [hb] at h
    | some ob =>
      cases ob <;> simp [hb] at h hc
      rename_i c t f
      have : ¬ o < c.size := by omega
      simp [this] at h
theorem ic_back {w : World} {b o : Nat} {n : Int} (h : (w.setCell ⟨b, o, none⟩ (.int .i64 n)).cell? ⟨b, o, none⟩ = some (.int .i64 (ic (w.setCell ⟨b, o, none⟩ (.int .i64 n)) b o))) : ic (w.setCell ⟨b, o, none⟩ (.int .i64 n)) b o = n := by
  have := set_back h
  simpa using this

/-- What a walk keeps while it calls what only makes memory: the variables, all that stood, and n blocks of its own from block B on. -/
structure Kp (B n : Nat) (w w' : World) : Prop where
  base : Base w'
  low : Below B w w'
  size : B + n ≤ w'.heap.size
  glob : 8 ≤ B
theorem Kp.mk' {n : Nat} {w w' : World} (hb : Base w) (h : Below w.heap.size w w') (hs : w.heap.size + n ≤ w'.heap.size) : Kp w.heap.size n w w' := ⟨hb.low h, h, hs, hb.size⟩
theorem Kp.next {B n : Nat} {w w1 w2 : World} (h : Kp B n w w1) (hb : Below w1.heap.size w1 w2) : Kp B n w w2 :=
  ⟨h.base.low hb, h.low.trans (hb.mono (by have := h.size; omega)), Nat.le_trans h.size hb.size, h.glob⟩
theorem Kp.set {B n : Nat} {w w1 : World} (h : Kp B n w w1) {k o : Nat} (hk : B ≤ k) (v : Value) : Kp B n w (w1.setCell ⟨k, o, none⟩ v) :=
  ⟨h.base.below ((Below.refl B w1).setCell hk v) h.glob, h.low.setCell hk v, by rw [World.size_setCell]; exact h.size, h.glob⟩
theorem Kp.lt {B n k : Nat} {w w' : World} (h : Kp B n w w') (hk : k < B) : k < w'.heap.size := by have := h.size; omega
theorem Kp.cell {B n : Nat} {w w1 w2 : World} (h : Kp B n w w1) (hb : Below w1.heap.size w1 w2) {k o : Nat} (hk : k < B + n) : w2.cell? ⟨k, o, none⟩ = w1.cell? ⟨k, o, none⟩ :=
  hb.cell (p := ⟨k, o, none⟩) (Nat.lt_of_lt_of_le hk h.size)
theorem Kp.free {B n : Nat} {w w1 w2 : World} (h : Kp B n w w1) (hb : Below w1.heap.size w1 w2) {k o : Nat} (hk : k < B + n) : w2.frozen? ⟨k, o, none⟩ = w1.frozen? ⟨k, o, none⟩ :=
  hb.frozen (p := ⟨k, o, none⟩) (Nat.lt_of_lt_of_le hk h.size)

/-! A region that draws its order, whose callees only make memory: the world ahead of it under a name. -/
theorem named {P : Program} {c : Code} {Q : Exit → Act → World → Prop} {a : Act} {w : World} (h : ∀ W, W = w → c.wp P Q a W) : c.wp P Q a w := h w rfl
theorem cells_of {W L : World} (h : W = L) : ∀ b o, W.cell? ⟨b, o, none⟩ = L.cell? ⟨b, o, none⟩ := fun _ _ => by rw [h]
theorem frees_of {W L : World} (h : W = L) : ∀ b o, W.frozen? ⟨b, o, none⟩ = L.frozen? ⟨b, o, none⟩ := fun _ _ => by rw [h]
theorem size_of {W L : World} (h : W = L) : W.heap.size = L.heap.size := by rw [h]
theorem same_drew {W : World} (hb : Base W) : (∀ b o, b < W.heap.size → W.drew.cell? ⟨b, o, none⟩ = W.cell? ⟨b, o, none⟩) ∧ (∀ b o, b < W.heap.size → W.drew.frozen? ⟨b, o, none⟩ = W.frozen? ⟨b, o, none⟩) ∧ Kp W.heap.size 0 W W.drew :=
  ⟨fun _ _ _ => rfl, fun _ _ _ => rfl, Kp.mk' hb (Below.refl _ _).drew (Nat.le_refl _)⟩
theorem same_next {W w1 w2 : World} (h1 : ∀ b o, b < W.heap.size → w1.cell? ⟨b, o, none⟩ = W.cell? ⟨b, o, none⟩) (h2 : ∀ b o, b < W.heap.size → w1.frozen? ⟨b, o, none⟩ = W.frozen? ⟨b, o, none⟩) (h3 : Kp W.heap.size 0 W w1) (hb : Below w1.heap.size w1 w2) :
    (∀ b o, b < W.heap.size → w2.cell? ⟨b, o, none⟩ = W.cell? ⟨b, o, none⟩) ∧ (∀ b o, b < W.heap.size → w2.frozen? ⟨b, o, none⟩ = W.frozen? ⟨b, o, none⟩) ∧ Kp W.heap.size 0 W w2 :=
  ⟨fun b o h => (h3.cell hb h).trans (h1 b o h), fun b o h => (h3.free hb h).trans (h2 b o h), h3.next hb⟩

/-- The same, where the region's end writes the function's own result: block r, k cells of integers; B: the heap's size when the call began, in the world w. -/
abbrev Same2 (W w : World) (B r k : Nat) (w' : World) : Prop :=
  (∀ b o, b < W.heap.size → b ≠ r → w'.cell? ⟨b, o, none⟩ = W.cell? ⟨b, o, none⟩) ∧ (∀ b o, b < W.heap.size → w'.frozen? ⟨b, o, none⟩ = W.frozen? ⟨b, o, none⟩) ∧
    (∀ o, o < k → w'.cell? ⟨r, o, none⟩ = some (.int .i64 (ic w' r o))) ∧ W.heap.size ≤ w'.heap.size ∧ Kp B 0 w w'
theorem Same2.drew {W w : World} {r k : Nat} (hb : Base w) (hWL : Below w.heap.size w W) (hc : ∀ o, o < k → ∃ n : Int, W.cell? ⟨r, o, none⟩ = some (.int .i64 n)) : Same2 W w w.heap.size r k W.drew :=
  ⟨fun _ _ _ _ => rfl, fun _ _ _ => rfl, fun o ho => (hc o ho).elim fun _ h => ic_of (w := W.drew) h, Nat.le_refl _, Kp.mk' hb hWL.drew hWL.size⟩
theorem Same2.next {W w w1 w2 : World} {B r k : Nat} (h : Same2 W w B r k w1) (hb : Below w1.heap.size w1 w2) (hr : r < W.heap.size) : Same2 W w B r k w2 := by
  obtain ⟨h1, h2, h3, h4, h5⟩ := h
  exact ⟨fun b o hlt hne => (hb.cell (p := ⟨b, o, none⟩) (Nat.lt_of_lt_of_le hlt h4)).trans (h1 b o hlt hne), fun b o hlt => (hb.frozen (p := ⟨b, o, none⟩) (Nat.lt_of_lt_of_le hlt h4)).trans (h2 b o hlt),
    fun o ho => ic_of ((hb.cell (p := ⟨r, o, none⟩) (Nat.lt_of_lt_of_le hr h4)).trans (h3 o ho)), Nat.le_trans h4 hb.size, h5.next hb⟩
theorem Same2.set {W w w1 : World} {B r k : Nat} (h : Same2 W w B r k w1) (hr : B ≤ r) (o : Nat) (n : Int) : Same2 W w B r k (w1.setCell ⟨r, o, none⟩ (.int .i64 n)) := by
  obtain ⟨h1, h2, h3, h4, h5⟩ := h
  refine ⟨fun b i hlt hne => ?_, fun b i hlt => ?_, fun i hi => ?_, by rw [World.size_setCell]; exact h4, h5.set hr _⟩
  · rw [World.cell?_setCell_other _ _ _ _ (by intro e; injection e with e1 e2; omega)]; exact h1 b i hlt hne
  · rw [World.frozen?_setCell]; exact h2 b i hlt
  · by_cases e : i = o
    · subst e; exact ic_set (h3 i hi)
    · exact ic_of ((World.cell?_setCell_other _ _ _ _ (by intro e; injection e with e1 e2; omega)).trans (h3 i hi))
theorem back1 {F : World} {r k : Nat} {v0 : Value} {w1 : World} (e : F = w1.setCell ⟨r, k, none⟩ v0) (h : ∀ o, o < k + 1 → F.cell? ⟨r, o, none⟩ = some (.int .i64 (ic F r o))) : F.cell? ⟨r, k, none⟩ = some v0 := by
  have h0 := h k (by omega)
  rw [e] at h0 ⊢
  rw [h0, set_back h0]
theorem back3 {w1 : World} {r : Nat} {v0 v1 v2 : Value} (h : ∀ o, o < 3 → (((w1.setCell ⟨r, 0, none⟩ v0).setCell ⟨r, 1, none⟩ v1).setCell ⟨r, 2, none⟩ v2).cell? ⟨r, o, none⟩ = some (.int .i64 (ic (((w1.setCell ⟨r, 0, none⟩ v0).setCell ⟨r, 1, none⟩ v1).setCell ⟨r, 2, none⟩ v2) r o))) :
    (((w1.setCell ⟨r, 0, none⟩ v0).setCell ⟨r, 1, none⟩ v1).setCell ⟨r, 2, none⟩ v2).cell? ⟨r, 0, none⟩ = some v0 ∧ (((w1.setCell ⟨r, 0, none⟩ v0).setCell ⟨r, 1, none⟩ v1).setCell ⟨r, 2, none⟩ v2).cell? ⟨r, 1, none⟩ = some v1 ∧ (((w1.setCell ⟨r, 0, none⟩ v0).setCell ⟨r, 1, none⟩ v1).setCell ⟨r, 2, none⟩ v2).cell? ⟨r, 2, none⟩ = some v2 := by
  have ne : ∀ i j : Nat, i ≠ j → ({ block := r, off := i, spot := none } : Addr) ≠ { block := r, off := j, spot := none } := fun i j h e => h (by injection e)
  have h0 := h 0 (by omega)
  have h1 := h 1 (by omega)
  have h2 := h 2 (by omega)
  generalize ic _ r 0 = x0 at h0
  generalize ic _ r 1 = x1 at h1
  generalize ic _ r 2 = x2 at h2
  rw [World.cell?_setCell_other _ _ _ _ (ne 2 0 (by omega)), World.cell?_setCell_other _ _ _ _ (ne 1 0 (by omega))] at h0 ⊢
  rw [World.cell?_setCell_other _ _ _ _ (ne 2 1 (by omega))] at h1 ⊢
  exact ⟨by rw [h0, set_back h0], by rw [h1, set_back h1], by rw [h2, set_back h2]⟩

theorem back2i {w1 : World} {r : Nat} {n0 n1 : Int} (h : ∀ o, o < 2 → ((w1.setCell ⟨r, 0, none⟩ (.int .i64 n0)).setCell ⟨r, 1, none⟩ (.int .i64 n1)).cell? ⟨r, o, none⟩ = some (.int .i64 (ic ((w1.setCell ⟨r, 0, none⟩ (.int .i64 n0)).setCell ⟨r, 1, none⟩ (.int .i64 n1)) r o))) :
    ic ((w1.setCell ⟨r, 0, none⟩ (.int .i64 n0)).setCell ⟨r, 1, none⟩ (.int .i64 n1)) r 0 = n0 ∧ ic ((w1.setCell ⟨r, 0, none⟩ (.int .i64 n0)).setCell ⟨r, 1, none⟩ (.int .i64 n1)) r 1 = n1 := by
  have ne : ∀ i j : Nat, i ≠ j → ({ block := r, off := i, spot := none } : Addr) ≠ { block := r, off := j, spot := none } := fun i j h e => h (by injection e)
  have h0 := h 0 (by omega)
  have h1 := h 1 (by omega)
  generalize ic _ r 0 = x0 at h0 ⊢
  generalize ic _ r 1 = x1 at h1 ⊢
  rw [World.cell?_setCell_other _ _ _ _ (ne 1 0 (by omega))] at h0
  exact ⟨by simpa using set_back h0, by simpa using set_back h1⟩
theorem back3i {w1 : World} {r : Nat} {n0 n1 n2 : Int} (h : ∀ o, o < 3 → (((w1.setCell ⟨r, 0, none⟩ (.int .i64 n0)).setCell ⟨r, 1, none⟩ (.int .i64 n1)).setCell ⟨r, 2, none⟩ (.int .i64 n2)).cell? ⟨r, o, none⟩ = some (.int .i64 (ic (((w1.setCell ⟨r, 0, none⟩ (.int .i64 n0)).setCell ⟨r, 1, none⟩ (.int .i64 n1)).setCell ⟨r, 2, none⟩ (.int .i64 n2)) r o))) :
    ic (((w1.setCell ⟨r, 0, none⟩ (.int .i64 n0)).setCell ⟨r, 1, none⟩ (.int .i64 n1)).setCell ⟨r, 2, none⟩ (.int .i64 n2)) r 0 = n0 ∧ ic (((w1.setCell ⟨r, 0, none⟩ (.int .i64 n0)).setCell ⟨r, 1, none⟩ (.int .i64 n1)).setCell ⟨r, 2, none⟩ (.int .i64 n2)) r 1 = n1 ∧ ic (((w1.setCell ⟨r, 0, none⟩ (.int .i64 n0)).setCell ⟨r, 1, none⟩ (.int .i64 n1)).setCell ⟨r, 2, none⟩ (.int .i64 n2)) r 2 = n2 := by
  have ne : ∀ i j : Nat, i ≠ j → ({ block := r, off := i, spot := none } : Addr) ≠ { block := r, off := j, spot := none } := fun i j h e => h (by injection e)
  have h0 := h 0 (by omega)
  have h1 := h 1 (by omega)
  have h2 := h 2 (by omega)
  generalize ic _ r 0 = x0 at h0 ⊢
  generalize ic _ r 1 = x1 at h1 ⊢
  generalize ic _ r 2 = x2 at h2 ⊢
  rw [World.cell?_setCell_other _ _ _ _ (ne 2 0 (by omega)), World.cell?_setCell_other _ _ _ _ (ne 1 0 (by omega))] at h0
  rw [World.cell?_setCell_other _ _ _ _ (ne 2 1 (by omega))] at h1
  exact ⟨by simpa using set_back h0, by simpa using set_back h1, by simpa using set_back h2⟩
theorem back4i {w1 : World} {r : Nat} {n0 n1 n2 n3 : Int} (h : ∀ o, o < 4 → ((((w1.setCell ⟨r, 0, none⟩ (.int .i64 n0)).setCell ⟨r, 1, none⟩ (.int .i64 n1)).setCell ⟨r, 2, none⟩ (.int .i64 n2)).setCell ⟨r, 3, none⟩ (.int .i64 n3)).cell? ⟨r, o, none⟩ = some (.int .i64 (ic ((((w1.setCell ⟨r, 0, none⟩ (.int .i64 n0)).setCell ⟨r, 1, none⟩ (.int .i64 n1)).setCell ⟨r, 2, none⟩ (.int .i64 n2)).setCell ⟨r, 3, none⟩ (.int .i64 n3)) r o))) :
    ic ((((w1.setCell ⟨r, 0, none⟩ (.int .i64 n0)).setCell ⟨r, 1, none⟩ (.int .i64 n1)).setCell ⟨r, 2, none⟩ (.int .i64 n2)).setCell ⟨r, 3, none⟩ (.int .i64 n3)) r 0 = n0 ∧ ic ((((w1.setCell ⟨r, 0, none⟩ (.int .i64 n0)).setCell ⟨r, 1, none⟩ (.int .i64 n1)).setCell ⟨r, 2, none⟩ (.int .i64 n2)).setCell ⟨r, 3, none⟩ (.int .i64 n3)) r 1 = n1 ∧ ic ((((w1.setCell ⟨r, 0, none⟩ (.int .i64 n0)).setCell ⟨r, 1, none⟩ (.int .i64 n1)).setCell ⟨r, 2, none⟩ (.int .i64 n2)).setCell ⟨r, 3, none⟩ (.int .i64 n3)) r 2 = n2 ∧ ic ((((w1.setCell ⟨r, 0, none⟩ (.int .i64 n0)).setCell ⟨r, 1, none⟩ (.int .i64 n1)).setCell ⟨r, 2, none⟩ (.int .i64 n2)).setCell ⟨r, 3, none⟩ (.int .i64 n3)) r 3 = n3 := by
  have ne : ∀ i j : Nat, i ≠ j → ({ block := r, off := i, spot := none } : Addr) ≠ { block := r, off := j, spot := none } := fun i j h e => h (by injection e)
  have h0 := h 0 (by omega)
  have h1 := h 1 (by omega)
  have h2 := h 2 (by omega)
  have h3 := h 3 (by omega)
  generalize ic _ r 0 = x0 at h0 ⊢
  generalize ic _ r 1 = x1 at h1 ⊢
  generalize ic _ r 2 = x2 at h2 ⊢
  generalize ic _ r 3 = x3 at h3 ⊢
  rw [World.cell?_setCell_other _ _ _ _ (ne 3 0 (by omega)), World.cell?_setCell_other _ _ _ _ (ne 2 0 (by omega)), World.cell?_setCell_other _ _ _ _ (ne 1 0 (by omega))] at h0
  rw [World.cell?_setCell_other _ _ _ _ (ne 3 1 (by omega)), World.cell?_setCell_other _ _ _ _ (ne 2 1 (by omega))] at h1
  rw [World.cell?_setCell_other _ _ _ _ (ne 3 2 (by omega))] at h2
  exact ⟨by simpa using set_back h0, by simpa using set_back h1, by simpa using set_back h2, by simpa using set_back h3⟩
theorem back6i {w1 : World} {r : Nat} {n0 n1 n2 n3 n4 n5 : Int} (h : ∀ o, o < 6 → ((((((w1.setCell ⟨r, 0, none⟩ (.int .i64 n0)).setCell ⟨r, 1, none⟩ (.int .i64 n1)).setCell ⟨r, 2, none⟩ (.int .i64 n2)).setCell ⟨r, 3, none⟩ (.int .i64 n3)).setCell ⟨r, 4, none⟩ (.int .i64 n4)).setCell ⟨r, 5, none⟩ (.int .i64 n5)).cell? ⟨r, o, none⟩ = some (.int .i64 (ic ((((((w1.setCell ⟨r, 0, none⟩ (.int .i64 n0)).setCell ⟨r, 1, none⟩ (.int .i64 n1)).setCell ⟨r, 2, none⟩ (.int .i64 n2)).setCell ⟨r, 3, none⟩ (.int .i64 n3)).setCell ⟨r, 4, none⟩ (.int .i64 n4)).setCell ⟨r, 5, none⟩ (.int .i64 n5)) r o))) :
    ic ((((((w1.setCell ⟨r, 0, none⟩ (.int .i64 n0)).setCell ⟨r, 1, none⟩ (.int .i64 n1)).setCell ⟨r, 2, none⟩ (.int .i64 n2)).setCell ⟨r, 3, none⟩ (.int .i64 n3)).setCell ⟨r, 4, none⟩ (.int .i64 n4)).setCell ⟨r, 5, none⟩ (.int .i64 n5)) r 0 = n0 ∧ ic ((((((w1.setCell ⟨r, 0, none⟩ (.int .i64 n0)).setCell ⟨r, 1, none⟩ (.int .i64 n1)).setCell ⟨r, 2, none⟩ (.int .i64 n2)).setCell ⟨r, 3, none⟩ (.int .i64 n3)).setCell ⟨r, 4, none⟩ (.int .i64 n4)).setCell ⟨r, 5, none⟩ (.int .i64 n5)) r 1 = n1 ∧ ic ((((((w1.setCell ⟨r, 0, none⟩ (.int .i64 n0)).setCell ⟨r, 1, none⟩ (.int .i64 n1)).setCell ⟨r, 2, none⟩ (.int .i64 n2)).setCell ⟨r, 3, none⟩ (.int .i64 n3)).setCell ⟨r, 4, none⟩ (.int .i64 n4)).setCell ⟨r, 5, none⟩ (.int .i64 n5)) r 2 = n2 ∧ ic ((((((w1.setCell ⟨r, 0, none⟩ (.int .i64 n0)).setCell ⟨r, 1, none⟩ (.int .i64 n1)).setCell ⟨r, 2, none⟩ (.int .i64 n2)).setCell ⟨r, 3, none⟩ (.int .i64 n3)).setCell ⟨r, 4, none⟩ (.int .i64 n4)).setCell ⟨r, 5, none⟩ (.int .i64 n5)) r 3 = n3 ∧ ic ((((((w1.setCell ⟨r, 0, none⟩ (.int .i64 n0)).setCell ⟨r, 1, none⟩ (.int .i64 n1)).setCell ⟨r, 2, none⟩ (.int .i64 n2)).setCell ⟨r, 3, none⟩ (.int .i64 n3)).setCell ⟨r, 4, none⟩ (.int .i64 n4)).setCell ⟨r, 5, none⟩ (.int .i64 n5)) r 4 = n4 ∧ ic ((((((w1.setCell ⟨r, 0, none⟩ (.int .i64 n0)).setCell ⟨r, 1, none⟩ (.int .i64 n1)).setCell ⟨r, 2, none⟩ (.int .i64 n2)).setCell ⟨r, 3, none⟩ (.int .i64 n3)).setCell ⟨r, 4, none⟩ (.int .i64 n4)).setCell ⟨r, 5, none⟩ (.int .i64 n5)) r 5 = n5 := by
  have ne : ∀ i j : Nat, i ≠ j → ({ block := r, off := i, spot := none } : Addr) ≠ { block := r, off := j, spot := none } := fun i j h e => h (by injection e)
  have h0 := h 0 (by omega)
  have h1 := h 1 (by omega)
  have h2 := h 2 (by omega)
  have h3 := h 3 (by omega)
  have h4 := h 4 (by omega)
  have h5 := h 5 (by omega)
  generalize ic _ r 0 = x0 at h0 ⊢
  generalize ic _ r 1 = x1 at h1 ⊢
  generalize ic _ r 2 = x2 at h2 ⊢
  generalize ic _ r 3 = x3 at h3 ⊢
  generalize ic _ r 4 = x4 at h4 ⊢
  generalize ic _ r 5 = x5 at h5 ⊢
  rw [World.cell?_setCell_other _ _ _ _ (ne 5 0 (by omega)), World.cell?_setCell_other _ _ _ _ (ne 4 0 (by omega)), World.cell?_setCell_other _ _ _ _ (ne 3 0 (by omega)), World.cell?_setCell_other _ _ _ _ (ne 2 0 (by omega)), World.cell?_setCell_other _ _ _ _ (ne 1 0 (by omega))] at h0
  rw [World.cell?_setCell_other _ _ _ _ (ne 5 1 (by omega)), World.cell?_setCell_other _ _ _ _ (ne 4 1 (by omega)), World.cell?_setCell_other _ _ _ _ (ne 3 1 (by omega)), World.cell?_setCell_other _ _ _ _ (ne 2 1 (by omega))] at h1
  rw [World.cell?_setCell_other _ _ _ _ (ne 5 2 (by omega)), World.cell?_setCell_other _ _ _ _ (ne 4 2 (by omega)), World.cell?_setCell_other _ _ _ _ (ne 3 2 (by omega))] at h2
  rw [World.cell?_setCell_other _ _ _ _ (ne 5 3 (by omega)), World.cell?_setCell_other _ _ _ _ (ne 4 3 (by omega))] at h3
  rw [World.cell?_setCell_other _ _ _ _ (ne 5 4 (by omega))] at h4
  exact ⟨by simpa using set_back h0, by simpa using set_back h1, by simpa using set_back h2, by simpa using set_back h3, by simpa using set_back h4, by simpa using set_back h5⟩

end D
end Go.Proofs.YtpgbmohocfcjpaaGreatDoor
