/- Walks: a chain of ranges (container/list), by the program. -/
import Derived.Test.YtmohggeeedncoaaRg2
namespace Go.Proofs.Ytmohggeeedncoaa
set_option linter.unusedVariables false
set_option linter.unusedSimpArgs false
set_option maxRecDepth 100000
set_option maxHeartbeats 1000000
namespace D
open Go.RowKit
attribute [local irreducible] Calls

instance : PtT Try.prog 42 := .of Try.underlying42 (k := 4) (by kernel_rfl) (by decide)
instance : PtT Try.prog 43 := .of Try.underlying43 (k := 5) (by kernel_rfl) (by decide)

abbrev pB (b : Nat) : Value := .pointer (some ⟨b, 0, none⟩)
abbrev rV (r : Rg) : Value := .iface 34 (.agg (rc r).toArray)
abbrev elB (x y z v : Value) : Blk := .cells 45 [x, y, z, v]
abbrev chB (x y : Value) (n : Int) : Blk := .cells 49 [x, y, .pointer none, .nilIface, .int .i64 n]
/-- A link: its block, what stands before it, its range. -/
abbrev Lk := Nat × Value × Rg
/-- The blocks of links, the last one first; nx is what stands behind the first one of the list. -/
def chLink (c : Nat) : Value → List Lk → SH
  | _, [] => []
  | nx, (b, p, r) :: t => (b, elB nx p (pB c) (rV r)) :: chLink c (pB b) t
def lkFirst : Nat → List Lk → Nat
  | b, [] => b
  | _, (b, _, _) :: t => lkFirst b t
def chRoot (c : Nat) : List Lk → Blk
  | [] => chB (.pointer none) (.pointer none) 0
  | (b, _, _) :: t => chB (pB (lkFirst b t)) (pB b) (t.length + 1)
def chH (c : Nat) (es : List Lk) : SH := (c, chRoot c es) :: chLink c (pB c) es
def rgs (es : List Lk) : List Rg := es.map fun x => x.2.2

theorem a_Back0 (c : Nat) (w : World) (h4 : w.cell? ⟨c, 0 + 4, none⟩ = some (.int .i64 0)) (hb : D.Base w) : Calls Try.prog 34 #[pB c] w fun e w' => e = .returned (.pointer none) ∧ Below w.heap.size w w' := by
  refine enter Try.func34 rfl Try.ntmps34 rfl (by assumption) ?_
  (repeat' (first | intro (b : Nat) | refine go ?_ | (refine br ?_ ?_ <;> first | exact trivial | intro hq)))
  all_goals (refine ret ?_; try exact rfl)

theorem a_Back1 (c : Nat) (n : Int) (q : Value) (hn : n ≠ 0) (w : World) (h4 : w.cell? ⟨c, 0 + 4, none⟩ = some (.int .i64 n)) (h1 : w.cell? ⟨c, 0 + 0 + 1, none⟩ = some q) (hb : D.Base w) : Calls Try.prog 34 #[pB c] w fun e w' => e = .returned q ∧ Below w.heap.size w w' := by
  refine enter Try.func34 rfl Try.ntmps34 rfl (by assumption) ?_
  (repeat' (first | intro (b : Nat) | refine go ?_ | (refine br ?_ ?_ <;> first | exact trivial | intro hq)))
  all_goals (refine ret ?_; try exact rfl)

theorem a_Front0 (c : Nat) (w : World) (h4 : w.cell? ⟨c, 0 + 4, none⟩ = some (.int .i64 0)) (hb : D.Base w) : Calls Try.prog 37 #[pB c] w fun e w' => e = .returned (.pointer none) ∧ Below w.heap.size w w' := by
  refine enter Try.func37 rfl Try.ntmps37 rfl (by assumption) ?_
  (repeat' (first | intro (b : Nat) | refine go ?_ | (refine br ?_ ?_ <;> first | exact trivial | intro hq)))
  all_goals (refine ret ?_; try exact rfl)

theorem a_Front1 (c : Nat) (n : Int) (q : Value) (hn : n ≠ 0) (w : World) (h4 : w.cell? ⟨c, 0 + 4, none⟩ = some (.int .i64 n)) (h1 : w.cell? ⟨c, 0 + 0 + 0, none⟩ = some q) (hb : D.Base w) : Calls Try.prog 37 #[pB c] w fun e w' => e = .returned q ∧ Below w.heap.size w w' := by
  refine enter Try.func37 rfl Try.ntmps37 rfl (by assumption) ?_
  (repeat' (first | intro (b : Nat) | refine go ?_ | (refine br ?_ ?_ <;> first | exact trivial | intro hq)))
  all_goals (refine ret ?_; try exact rfl)

theorem a_Len (c : Nat) (n : Int) (w : World) (h4 : w.cell? ⟨c, 0 + 4, none⟩ = some (.int .i64 n)) (hb : D.Base w) : Calls Try.prog 36 #[pB c] w fun e w' => e = .returned (.int .i64 n) ∧ Below w.heap.size w w' := by
  refine enter Try.func36 rfl Try.ntmps36 rfl (by assumption) ?_
  (repeat' (first | intro (b : Nat) | refine go ?_ | (refine br ?_ ?_ <;> first | exact trivial | intro hq)))
  all_goals (refine ret ?_; try exact rfl)

/-- The last link's next one is none. -/
theorem a_Next0 (b c : Nat) (w : World) (h0 : w.cell? ⟨b, 0 + 0, none⟩ = some (pB c)) (h2 : w.cell? ⟨b, 0 + 2, none⟩ = some (pB c)) (hb : D.Base w) : Calls Try.prog 38 #[pB b] w fun e w' => e = .returned (.pointer none) ∧ Below w.heap.size w w' := by
  refine enter Try.func38 rfl Try.ntmps38 rfl (by assumption) ?_
  (repeat' (first | intro (b : Nat) | refine go ?_ | (refine br ?_ ?_ <;> first | exact trivial | intro hq)))
  all_goals (refine ret ?_; try exact rfl)

theorem a_Next1 (b c q : Nat) (w : World) (us vs : List Value) (T1 T2 : TypeId) (h0 : w.cell? ⟨b, 0 + 0, none⟩ = some (pB q)) (h2 : w.cell? ⟨b, 0 + 2, none⟩ = some (pB c)) (hne : q ≠ c) (h3 : w.heap[q]? = some (.cells us.toArray T1 (0, 0))) (h4 : w.heap[c]? = some (.cells vs.toArray T2 (0, 0))) (hb : D.Base w) :
    Calls Try.prog 38 #[pB b] w fun e w' => e = .returned (pB q) ∧ Below w.heap.size w w' := by
  refine enter Try.func38 rfl Try.ntmps38 rfl (by assumption) ?_
  (repeat' (first | intro (b : Nat) | refine go ?_ | (refine br ?_ ?_ <;> first | exact trivial | intro hq)))
  (apply L.v; (· exact rfl); (· exact rfl); (· apply OV.neqPo; (· exact rfl); (· exact rfl); (· exact hne); (· exact fun W hW => (hW.low.block _ (lt_of_some h3)).trans h3); (· exact fun W hW => (hW.low.block _ (lt_of_some h4)).trans h4)))
  (repeat' (first | intro (b : Nat) | refine go ?_ | (refine br ?_ ?_ <;> first | exact trivial | intro hq)))
  all_goals (refine ret ?_; try exact rfl)

theorem a_Init (c : Nat) (w0 w : World) (F : SH) (hst : St w0 ((c, chB (.pointer none) (.pointer none) 0) :: F) w) : Calls Try.prog 51 #[pB c] w (Turns w0 (pB c) ((c, chB (pB c) (pB c) 0) :: F)) := by
  refine enterl Try.func51 rfl Try.ntmps51 rfl hst ?_
  (repeat' (first | intro (b : Nat) | refine go ?_ | (refine br ?_ ?_ <;> first | exact trivial | intro hq)))
  exact rett rfl

theorem a_lazy0 (c : Nat) (w0 w : World) (F : SH) (hst : St w0 ((c, chB (.pointer none) (.pointer none) 0) :: F) w) : Calls Try.prog 45 #[pB c] w (Turns w0 (.tuple #[]) ((c, chB (pB c) (pB c) 0) :: F)) := by
  refine enterl Try.func45 rfl Try.ntmps45 rfl hst ?_
  (repeat' (first | intro (b : Nat) | refine go ?_ | (refine br ?_ ?_ <;> first | exact trivial | intro hq)))
  refine L.tcall (h := by intro W hW; exact a_Init c _ W _ hW) (k := ?_)
  (repeat' (first | intro (b : Nat) | refine go ?_ | (refine br ?_ ?_ <;> first | exact trivial | intro hq)))
  exact rettn rfl

theorem a_lazy1 (c f : Nat) (q : Value) (n : Int) (w0 w : World) (F : SH) (hst : St w0 ((c, chB (pB f) q n) :: F) w) : Calls Try.prog 45 #[pB c] w (Turns w0 (.tuple #[]) ((c, chB (pB f) q n) :: F)) := by
  refine enterl Try.func45 rfl Try.ntmps45 rfl hst ?_
  (repeat' (first | intro (b : Nat) | refine go ?_ | (refine br ?_ ?_ <;> first | exact trivial | intro hq)))
  exact rettn rfl

theorem a_insert0 (c b : Nat) (v : Value) (hv : v.oneCell' = true) (w0 w : World) (F : SH) (hst : St w0 ((b, elB (.pointer none) (.pointer none) (.pointer none) v) :: (c, chB (pB c) (pB c) 0) :: F) w) :
    Calls Try.prog 52 #[pB c, pB b, pB c] w (TurnsR w0 fun u H => u = pB b ∧ H = (b, elB (pB c) (pB c) (pB c) v) :: (c, chB (pB b) (pB b) 1) :: F) := by
  refine enterl Try.func52 rfl Try.ntmps52 rfl hst ?_
  (repeat' (first | intro (b : Nat) | refine go ?_ | (refine br ?_ ?_ <;> first | exact trivial | intro hq)))
  exact rettR _ ⟨rfl, rfl⟩

theorem a_insert1 (c b l : Nat) (f p v u : Value) (n : Int) (hn : 0 ≤ n ∧ n ≤ 1000000) (w0 w : World) (F : SH) (hst : St w0 ((b, elB (.pointer none) (.pointer none) (.pointer none) v) :: (c, chB f (pB l) n) :: (l, elB (pB c) p (pB c) u) :: F) w) :
    Calls Try.prog 52 #[pB c, pB b, pB l] w (TurnsR w0 fun x H => x = pB b ∧ H = (b, elB (pB c) (pB l) (pB c) v) :: (c, chB f (pB b) (n + 1)) :: (l, elB (pB b) p (pB c) u) :: F) := by
  refine enterl Try.func52 rfl Try.ntmps52 rfl hst ?_
  (repeat' (first | intro (b : Nat) | refine go ?_ | (refine br ?_ ?_ <;> first | exact trivial | intro hq)))
  exact rettR _ ⟨rfl, rfl⟩

theorem a_insertV0 (c : Nat) (m : Rg) (w0 w : World) (F : SH) (hst : St w0 ((c, chB (pB c) (pB c) 0) :: F) w) :
    Calls Try.prog 46 #[pB c, rV m, pB c] w (TurnsR w0 fun u H => ∃ b : Nat, u = pB b ∧ H = (b, elB (pB c) (pB c) (pB c) (rV m)) :: (c, chB (pB b) (pB b) 1) :: F) := by
  refine enterl Try.func46 rfl Try.ntmps46 rfl hst ?_
  (repeat' (first | intro (b : Nat) | refine go ?_ | (refine br ?_ ?_ <;> first | exact trivial | intro hq)))
  refine L.tcallR b (h := by intro W hW; exact a_insert0 c b (rV m) rfl w0 W F hW) (k := ?_)
  rintro u H ⟨rfl, rfl⟩
  (repeat' (first | intro (b : Nat) | refine go ?_ | (refine br ?_ ?_ <;> first | exact trivial | intro hq)))
  exact rettR _ ⟨b, rfl, rfl⟩

theorem a_insertV1 (c l : Nat) (f p u : Value) (m : Rg) (n : Int) (hn : 0 ≤ n ∧ n ≤ 1000000) (w0 w : World) (F : SH) (hst : St w0 ((c, chB f (pB l) n) :: (l, elB (pB c) p (pB c) u) :: F) w) :
    Calls Try.prog 46 #[pB c, rV m, pB l] w (TurnsR w0 fun x H => ∃ b : Nat, x = pB b ∧ H = (b, elB (pB c) (pB l) (pB c) (rV m)) :: (c, chB f (pB b) (n + 1)) :: (l, elB (pB b) p (pB c) u) :: F) := by
  refine enterl Try.func46 rfl Try.ntmps46 rfl hst ?_
  (repeat' (first | intro (b : Nat) | refine go ?_ | (refine br ?_ ?_ <;> first | exact trivial | intro hq)))
  refine L.tcallR b (h := by intro W hW; exact a_insert1 c b l f p (rV m) u n hn w0 W F hW) (k := ?_)
  rintro x H ⟨rfl, rfl⟩
  (repeat' (first | intro (b : Nat) | refine go ?_ | (refine br ?_ ?_ <;> first | exact trivial | intro hq)))
  exact rettR _ ⟨b, rfl, rfl⟩

theorem a_Push0 (c : Nat) (m : Rg) (w0 w : World) (F : SH) (hst : St w0 ((c, chB (.pointer none) (.pointer none) 0) :: F) w) :
    Calls Try.prog 35 #[pB c, rV m] w (TurnsR w0 fun u H => ∃ b : Nat, H = (b, elB (pB c) (pB c) (pB c) (rV m)) :: (c, chB (pB b) (pB b) 1) :: F) := by
  refine enterl Try.func35 rfl Try.ntmps35 rfl hst ?_
  (repeat' (first | intro (b : Nat) | refine go ?_ | (refine br ?_ ?_ <;> first | exact trivial | intro hq)))
  refine L.tcall (h := by intro W hW; exact a_lazy0 c _ W _ hW) (k := ?_)
  (repeat' (first | intro (b : Nat) | refine go ?_ | (refine br ?_ ?_ <;> first | exact trivial | intro hq)))
  refine L.tcallR c (h := by intro W hW; exact a_insertV0 c m w0 W F hW) (k := ?_)
  rintro u H ⟨b, rfl, rfl⟩
  (repeat' (first | intro (b : Nat) | refine go ?_ | (refine br ?_ ?_ <;> first | exact trivial | intro hq)))
  exact rettR _ ⟨b, rfl⟩

theorem a_Push1 (c l f : Nat) (p u : Value) (m : Rg) (n : Int) (hn : 0 ≤ n ∧ n ≤ 1000000) (w0 w : World) (F : SH) (hst : St w0 ((c, chB (pB f) (pB l) n) :: (l, elB (pB c) p (pB c) u) :: F) w) :
    Calls Try.prog 35 #[pB c, rV m] w (TurnsR w0 fun x H => ∃ b : Nat, H = (b, elB (pB c) (pB l) (pB c) (rV m)) :: (c, chB (pB f) (pB b) (n + 1)) :: (l, elB (pB b) p (pB c) u) :: F) := by
  refine enterl Try.func35 rfl Try.ntmps35 rfl hst ?_
  (repeat' (first | intro (b : Nat) | refine go ?_ | (refine br ?_ ?_ <;> first | exact trivial | intro hq)))
  refine L.tcall (h := by intro W hW; exact a_lazy1 c f _ _ _ W _ hW) (k := ?_)
  (repeat' (first | intro (b : Nat) | refine go ?_ | (refine br ?_ ?_ <;> first | exact trivial | intro hq)))
  refine L.tcallR c (h := by intro W hW; exact a_insertV1 c l _ p u m n hn w0 W F hW) (k := ?_)
  rintro x H ⟨b, rfl, rfl⟩
  (repeat' (first | intro (b : Nat) | refine go ?_ | (refine br ?_ ?_ <;> first | exact trivial | intro hq)))
  exact rettR _ ⟨b, rfl⟩

theorem a_add (c : Nat) (es : List Lk) (r : Rg) (hlen : es.length ≤ 1000) (w0 w : World) (F : SH) (hst : St w0 (chH c es ++ F) w) :
    Calls Try.prog 25 #[pB c, .agg (rc r).toArray] w (TurnsR w0 fun _ H => ∃ Cs', H = Cs' ++ F ∧ ∃ es', Cs' = chH c es' ∧ rgs es' = cadd (rgs es) r) := by
  cases es with
  | nil =>
    have hst : St w0 ((c, chB (.pointer none) (.pointer none) 0) :: F) w := hst
    refine Calls.mono (R := TurnsR w0 fun _ H => ∃ bn : Nat, H = (bn, elB (pB c) (pB c) (pB c) (rV r)) :: (c, chB (pB bn) (pB bn) 1) :: F) ?_ fun e w' h => h.perm fun v H ⟨bn, hH⟩ => ⟨_, ⟨chH c [(bn, pB c, r)], rfl, _, rfl, rfl⟩, by rw [hH]; exact List.Perm.swap _ _ _⟩
    refine enterl Try.func25 rfl Try.ntmps25 rfl hst ?_
    (repeat' (first | intro (b : Nat) | refine go ?_ | (refine br ?_ ?_ <;> first | exact trivial | intro hq) | refine L.call (h := by intro W hW; apply a_Back0 c W (hW.cell (List.Mem.tail _ (List.Mem.head _)) rfl) hW.base) (k := ?_)))
    ((repeat (refine C.seq ?_)); apply C.draww 5 [none, none, none, some _, none])
    (repeat (first | intro (b : Nat) | refine gg ?_))
    (repeat (first | intro (b : Nat) | refine go ?_))
    refine L.tcallR c (h := by intro W hW; exact a_Push0 c r w0 W _ hW) (k := ?_)
    rintro u H ⟨bn, rfl⟩
    (repeat' (first | intro (b : Nat) | refine go ?_ | (refine br ?_ ?_ <;> first | exact trivial | intro hq)))
    exact rettRn _ ⟨bn, rfl⟩
  | cons x t =>
    obtain ⟨l, p, m⟩ := x
    have hst : St w0 ((c, chB (pB (lkFirst l t)) (pB l) (t.length + 1)) :: (l, elB (pB c) p (pB c) (rV m)) :: (chLink c (pB l) t ++ F)) w := hst
    have hn : ((t.length : Int) + 1) ≠ 0 := by omega
    simp only [List.length_cons] at hlen
    by_cases hm : r.1 ≤ m.2
    · refine Calls.mono (R := TurnsR w0 fun _ H => H = (c, chB (pB (lkFirst l t)) (pB l) (t.length + 1)) :: (l, elB (pB c) p (pB c) (rV (m.1, max m.2 r.2))) :: (chLink c (pB l) t ++ F)) ?_ fun e w' h => h.perm fun v H hH => ⟨_, ⟨chH c ((l, p, (m.1, max m.2 r.2)) :: t), rfl, _, rfl, by simp [rgs, cadd, hm]⟩, by rw [hH]; exact .refl _⟩
      generalize chLink c (pB l) t ++ F = Fz at *
      refine enterl Try.func25 rfl Try.ntmps25 rfl hst ?_
      (repeat' (first | intro (b : Nat) | refine go ?_ | (refine br ?_ ?_ <;> first | exact trivial | intro hq) | refine L.call (h := by intro W hW; apply a_Back1 c _ (pB l) hn W (hW.cell (List.Mem.tail _ (List.Mem.head _)) rfl) (hW.cell (List.Mem.tail _ (List.Mem.head _)) rfl) hW.base) (k := ?_)))
      exact rettR _ rfl
    · refine Calls.mono (R := TurnsR w0 fun _ H => ∃ bn : Nat, H = (bn, elB (pB c) (pB l) (pB c) (rV r)) :: (c, chB (pB (lkFirst l t)) (pB bn) (t.length + 1 + 1)) :: (l, elB (pB bn) p (pB c) (rV m)) :: (chLink c (pB l) t ++ F)) ?_
        fun e w' h => h.perm fun v H ⟨bn, hH⟩ => ⟨_, ⟨chH c ((bn, pB l, r) :: (l, p, m) :: t), rfl, _, rfl, by simp [rgs, cadd, hm]⟩, by rw [hH]; exact List.Perm.swap _ _ _⟩
      generalize chLink c (pB l) t ++ F = Fz at *
      refine enterl Try.func25 rfl Try.ntmps25 rfl hst ?_
      (repeat' (first | intro (b : Nat) | refine go ?_ | (refine br ?_ ?_ <;> first | exact trivial | intro hq) | refine L.call (h := by intro W hW; apply a_Back1 c _ (pB l) hn W (hW.cell (List.Mem.tail _ (List.Mem.head _)) rfl) (hW.cell (List.Mem.tail _ (List.Mem.head _)) rfl) hW.base) (k := ?_)))
      ((repeat (refine C.seq ?_)); apply C.draww 5 [none, none, none, some _, none])
      (repeat (first | intro (b : Nat) | refine gg ?_))
      (repeat (first | intro (b : Nat) | refine go ?_))
      refine L.tcallR2 c l (h := by intro W hW; exact a_Push1 c l (lkFirst l t) p (rV m) r (t.length + 1) (by omega) w0 W _ hW) (k := ?_)
      rintro u H ⟨bn, rfl⟩
      (repeat' (first | intro (b : Nat) | refine go ?_ | (refine br ?_ ?_ <;> first | exact trivial | intro hq)))
      exact rettRn _ ⟨bn, rfl⟩

end D
end Go.Proofs.Ytmohggeeedncoaa
