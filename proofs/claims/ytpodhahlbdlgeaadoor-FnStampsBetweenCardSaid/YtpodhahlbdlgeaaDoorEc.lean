/- The engine, part 3: lists of operations, code, ends. -/
import Derived.Test.YtpodhahlbdlgeaaDoorEb
namespace Go.Proofs.YtpodhahlbdlgeaaDoor
set_option linter.unusedVariables false
set_option linter.unusedSimpArgs false
namespace D
open Go.RowKit

/-- Is an operation wanted? (Its guard's slot must hold a Bool that is decided.) -/
def wantE (ops : List Oper) (e : Env) (o : Oper) : Option Bool :=
  match o.guard with
  | none => some true
  | some (j, want) => match nthL ops j with
    | none => none
    | some oj => match oj.dst with
      | none => none
      | some t => match get e t with
        | some (.bool true) => some want
        | some (.bool false) => some (!want)
        | some (.tuple _) => some false
        | _ => none
theorem nthL_some {α : Type} {l : List α} {i : Nat} {x : α} (h : nthL l i = some x) : l[i]? = some x := by
  induction l generalizing i with
  | nil => cases h
  | cons a r ih => cases i with
    | zero => simpa [nthL] using h
    | succ i => simpa using ih (by simpa [nthL] using h)
theorem wantE.eq {ops : List Oper} {e : Env} {o : Oper} {n : Nat} {ds : List Deferred} {a : Act} (ha : At n ds e a) {b : Bool} (h : wantE ops e o = some b) : Region.wanted o (yielded ops.toArray a.tmps) = b := by
  unfold wantE at h
  unfold Region.wanted
  cases hg : o.guard with
  | none => rw [hg] at h; simpa using h
  | some p =>
    obtain ⟨j, want⟩ := p
    rw [hg] at h
    simp only at h
    cases hj : nthL ops j with
    | none => rw [hj] at h; cases h
    | some oj =>
      rw [hj] at h
      simp only at h
      cases hd : oj.dst with
      | none => rw [hd] at h; cases h
      | some t =>
        rw [hd] at h
        simp only at h
        have hy : yielded ops.toArray a.tmps j = match a.tmps[t]? with | some (.bool b) => some b | _ => none := by
          unfold yielded
          simp [nthL_some hj, hd]
          cases a.tmps[t]? <;> rfl
        cases hv : get e t with
        | none => rw [hv] at h; cases h
        | some v =>
          rw [hv] at h
          have := ha.val t v hv
          rw [this] at hy
          cases v <;> simp at h hy <;> (try (simp [hy, ← h]; done))
          rename_i c
          cases c <;> cases want <;> simp at h <;> simp [hy, ← h]

variable {P : Program} {n : Nat} {ds : List Deferred} {w0 : World}

theorem At.sub' {e : Env} {a : Act} (h : At n ds e a) {t : Tmp} {v : Value} (ht : get e t = some v) : At n ds ((t, v) :: e) a := by
  refine ⟨h.size, h.defers, fun u x hu => ?_⟩
  simp only [get] at hu
  cases hb : Nat.beq t u with
  | true =>
    obtain rfl := Nat.eq_of_beq_eq_true hb
    rw [hb] at hu
    obtain rfl : v = x := by simpa using hu
    exact h.val _ _ ht
  | false =>
    rw [hb] at hu
    exact h.val u x hu
theorem least {p : Nat → Prop} (h : ∃ k, p k) : ∃ k, p k ∧ ∀ j, p j → k ≤ j := by
  obtain ⟨k, hk⟩ := h
  induction k using Nat.strongRecOn with
  | _ k ih =>
    by_cases hj : ∃ j, p j ∧ j < k
    · obtain ⟨j, h1, h2⟩ := hj
      exact ih j h2 h1
    · exact ⟨k, hk, fun j h1 => Nat.le_of_not_lt fun h2 => hj ⟨j, h1, h2⟩⟩

/-- A list of operations, from what the slots hold and what blocks there are. -/
structure L (P : Program) (n : Nat) (ds : List Deferred) (w0 : World) (ops : List Oper) (Q : Exit → Act → World → Prop) (l : List Oper) (e : Env) (hs : SH) : Prop where
  ok : ∀ a w, At n ds e a → St w0 hs w → wpList P ops.toArray Q l a w
/-- Code. -/
structure C (P : Program) (n : Nat) (ds : List Deferred) (w0 : World) (Q : Exit → Act → World → Prop) (c : Code) (e : Env) (hs : SH) : Prop where
  ok : ∀ a w, At n ds e a → St w0 hs w → c.wp P Q a w
/-- An end. -/
structure X (n : Nat) (ds : List Deferred) (w0 : World) (Q : Exit → Act → World → Prop) (x : Exit) (e : Env) (hs : SH) : Prop where
  ok : ∀ a w, At n ds e a → St w0 hs w → Q x a w

variable {ops : List Oper} {Q : Exit → Act → World → Prop} {o : Oper} {l : List Oper} {e : Env} {hs hs' : SH}

theorem L.does {Y : Type} {Φ : Y → Prop} {V : Y → Value} {H : Y → SH} (hw : wantE ops e o = some true) (hd : dstOk n o.dst = true)
    (h : ∀ a w, At n ds e a → St w0 hs w → Does P (execOp a.eval o) w fun v w' => ∃ y, Φ y ∧ v = V y ∧ St w0 (H y) w') (k : ∀ y, Φ y → L P n ds w0 ops Q l (consE o.dst (V y) e) (H y)) : L P n ds w0 ops Q (o :: l) e hs := by
  refine .mk fun a w ha hst => ?_
  unfold wpList
  rw [if_pos (wantE.eq ha hw)]
  refine .inl ((h a w ha hst).upon fun v w' ⟨y, hy, hv, hs'⟩ => ?_)
  subst hv
  exact (k y hy).ok _ _ (ha.put _ hd) hs'
theorem L.p {v : Value} (hw : wantE ops e o = some true) (hd : dstOk n o.dst = true) (h : PV P o e v) (k : L P n ds w0 ops Q l (consE o.dst v e) hs) : L P n ds w0 ops Q (o :: l) e hs :=
  L.does (Y := Unit) (Φ := fun _ => True) (V := fun _ => v) (H := fun _ => hs) hw hd (fun a w ha hst => .of_value (h.ok a.eval ha.fits w) ⟨(), trivial, rfl, hst⟩) fun _ _ => k
theorem L.v {v : Value} (hw : wantE ops e o = some true) (hd : dstOk n o.dst = true) (h : OV P o e w0 hs v) (k : L P n ds w0 ops Q l (consE o.dst v e) hs) : L P n ds w0 ops Q (o :: l) e hs :=
  L.does (Y := Unit) (Φ := fun _ => True) (V := fun _ => v) (H := fun _ => hs) hw hd (fun a w ha hst => (h.ok a.eval w ha.fits hst).mono fun v' w' ⟨hv, hn⟩ => ⟨(), trivial, hv, hst.new hn⟩) fun _ _ => k
theorem L.nw {R : Value → SH → Prop} (hw : wantE ops e o = some true) (hd : dstOk n o.dst = true) (h : ON P o e w0 hs R) (k : ∀ v H, R v H → L P n ds w0 ops Q l (consE o.dst v e) (H ++ hs)) : L P n ds w0 ops Q (o :: l) e hs :=
  L.does (Y := Value × SH) (Φ := fun y => R y.1 y.2) (V := fun y => y.1) (H := fun y => y.2 ++ hs) hw hd (fun a w ha hst => (h.ok a.eval w ha.fits hst).mono fun v' w' ⟨H, hR, hn⟩ => ⟨(v', H), hR, rfl, hst.new hn⟩) fun y hy => k y.1 y.2 hy
theorem L.na {B : Blk} (hw : wantE ops e o = some true) (hd : dstOk n o.dst = true) (h : ON P o e w0 hs (NewAt B)) (k : ∀ b : Nat, L P n ds w0 ops Q l (consE o.dst (.pointer (some ⟨b, 0, none⟩)) e) ((b, B) :: hs)) : L P n ds w0 ops Q (o :: l) e hs :=
  L.nw hw hd h fun v H ⟨b, hv, hH⟩ => by subst hv; subst hH; exact k b
theorem L.s (hw : wantE ops e o = some true) (hd : dstOk n o.dst = true) (h : OS P o e w0 hs hs') (k : L P n ds w0 ops Q l (consE o.dst undef e) hs') : L P n ds w0 ops Q (o :: l) e hs :=
  L.does (Y := Unit) (Φ := fun _ => True) (V := fun _ => undef) (H := fun _ => hs') hw hd (fun a w ha hst => (h.ok a.eval w ha.fits hst).mono fun v' w' ⟨hv, hn⟩ => ⟨(), trivial, hv, hn⟩) fun _ _ => k
theorem L.skip (hw : wantE ops e o = some false) (hd : dstOk n o.dst = true) (k : L P n ds w0 ops Q l (consE o.dst undef e) hs) : L P n ds w0 ops Q (o :: l) e hs := by
  refine .mk fun a w ha hst => ?_
  unfold wpList
  rw [if_neg (by rw [wantE.eq ha hw]; exact Bool.false_ne_true)]
  exact k.ok _ _ (ha.put _ hd) hst
theorem L.nil (k : X n ds w0 Q .normal e hs) : L P n ds w0 ops Q [] e hs := .mk fun a w ha hst => k.ok a w ha hst
/-- The slot and the Bool that an operation's guard asks. -/
def gB (ops : List Oper) (e : Env) (o : Oper) : Option (Tmp × Bool) :=
  match o.guard with
  | none => none
  | some (j, _) => match nthL ops j with
    | none => none
    | some oj => match oj.dst with
      | none => none
      | some t => match get e t with
        | some (.bool b) => some (t, b)
        | _ => none
theorem gB_get {ops : List Oper} {e : Env} {o : Oper} {t : Tmp} {b : Bool} (h : gB ops e o = some (t, b)) : get e t = some (.bool b) := by
  unfold gB at h
  repeat' split at h
  all_goals (try cases h)
  assumption
theorem L.gsplit {t : Tmp} {b : Bool} (hb : gB ops e o = some (t, b)) (h1 : b = true → L P n ds w0 ops Q (o :: l) ((t, .bool true) :: e) hs) (h2 : b = false → L P n ds w0 ops Q (o :: l) ((t, .bool false) :: e) hs) : L P n ds w0 ops Q (o :: l) e hs := by
  refine .mk fun a w ha hst => ?_
  have key : At n ds ((t, .bool b) :: e) a := ha.sub' (gB_get hb)
  cases b with
  | true => exact (h1 rfl).ok a w key hst
  | false => exact (h2 rfl).ok a w key hst
theorem L.probe (h : wantE ops e o = some true) (k : L P n ds w0 ops Q (o :: l) e hs) : L P n ds w0 ops Q (o :: l) e hs := k
/-- A slot holds a Bool: both ways. -/
theorem L.split (t : Tmp) {b : Bool} (hb : get e t = some (.bool b)) (h1 : b = true → L P n ds w0 ops Q l ((t, .bool true) :: e) hs) (h2 : b = false → L P n ds w0 ops Q l ((t, .bool false) :: e) hs) : L P n ds w0 ops Q l e hs := by
  refine .mk fun a w ha hst => ?_
  have key : At n ds ((t, .bool b) :: e) a := ha.sub' hb
  cases b with
  | true => exact (h1 rfl).ok a w key hst
  | false => exact (h2 rfl).ok a w key hst
theorem L.sub {e' : Env} (h : L P n ds w0 ops Q l e' hs') (h1 : Sub e' e) (h2 : SubH hs' hs) : L P n ds w0 ops Q l e hs := .mk fun a w ha hst => h.ok a w (ha.sub h1) (hst.sub h2.sl)
theorem C.sub {c : Code} {e' : Env} (h : C P n ds w0 Q c e' hs') (h1 : Sub e' e) (h2 : SubH hs' hs) : C P n ds w0 Q c e hs := .mk fun a w ha hst => h.ok a w (ha.sub h1) (hst.sub h2.sl)

/-! ### Code -/
theorem C.seq {x y : Code} (h : C P n ds w0 (Exit.then (fun a w => y.wp P Q a w) Q) x e hs) : C P n ds w0 Q (.seq x y) e hs := .mk fun a w ha hst => wp_seq (h.ok a w ha hst)
theorem C.block {id : Nat} {x : Code} (h : C P n ds w0 (Exit.inBlock id Q) x e hs) : C P n ds w0 Q (.block id x) e hs := .mk fun a w ha hst => wp_block (h.ok a w ha hst)
theorem C.region {id : Nat} (h : L P n ds w0 ops Q ops e hs) : C P n ds w0 Q (.region id ops.toArray false) e hs := .mk fun a w ha hst => wp_region_lit (h.ok a w ha hst)
theorem C.skip (h : X n ds w0 Q .normal e hs) : C P n ds w0 Q .skip e hs := .mk fun a w ha hst => wp_skip (h.ok a w ha hst)
theorem C.exit {id : Nat} (h : X n ds w0 Q (.exit id) e hs) : C P n ds w0 Q (.exit id) e hs := .mk fun a w ha hst => wp_exit (h.ok a w ha hst)
theorem C.ret (h : X n ds w0 Q .ret e hs) : C P n ds w0 Q .ret e hs := .mk fun a w ha hst => wp_ret (h.ok a w ha hst)
theorem C.cond {c : Operand} {x y : Code} {b : Bool} (hb : ev e c = some (.bool b)) (h1 : b = true → C P n ds w0 Q x e hs) (h2 : b = false → C P n ds w0 Q y e hs) : C P n ds w0 Q (.cond c x y) e hs := .mk fun a w ha hst =>
  wp_cond_split (ha.fits c _ hb) (fun h => (h1 h).ok a w ha hst) (fun h => (h2 h).ok a w ha hst)
theorem C.condT {c : Operand} {x y : Code} (hb : ev e c = some (.bool true)) (h : C P n ds w0 Q x e hs) : C P n ds w0 Q (.cond c x y) e hs := C.cond hb (fun _ => h) (fun h => by cases h)
theorem C.condF {c : Operand} {x y : Code} (hb : ev e c = some (.bool false)) (h : C P n ds w0 Q y e hs) : C P n ds w0 Q (.cond c x y) e hs := C.cond hb (fun h => by cases h) (fun _ => h)
/-- A loop: what holds at each round's head, indexed by y. -/
theorem C.loop {Y : Type} (E : Y → Env) (H : Y → SH) (Φ : Y → Prop) (μ : Y → Nat) (y : Y) {c : Code} (h0 : Φ y) (h1 : Sub (E y) e) (h2 : SubH (H y) hs)
    (round : ∀ y, Φ y → C P n ds w0 (Exit.then (fun a w => ∃ y', Φ y' ∧ μ y' < μ y ∧ At n ds (E y') a ∧ St w0 (H y') w) Q) c (E y) (H y)) : C P n ds w0 Q (.loop c) e hs := .mk fun a w ha hst =>
  wp_loop (fun a w => ∃ y, Φ y ∧ At n ds (E y) a ∧ St w0 (H y) w)
    (fun a w => open Classical in if h : ∃ k, ∃ y, μ y = k ∧ Φ y ∧ At n ds (E y) a ∧ St w0 (H y) w then Classical.choose (least h) else 0)
    ⟨y, h0, ha.sub h1, hst.sub h2.sl⟩ (fun a w hI => by
      have hex : ∃ k, ∃ y, μ y = k ∧ Φ y ∧ At n ds (E y) a ∧ St w0 (H y) w := hI.elim fun y h => ⟨μ y, y, rfl, h⟩
      have hl := Classical.choose_spec (least hex)
      obtain ⟨⟨y, hy, hΦ, hA, hS⟩, hmin⟩ := hl
      refine wp_mono ((round y hΦ).ok a w hA hS) fun x a' w' hx => ?_
      cases x <;> try exact hx
      obtain ⟨y', h1, h2, h3, h4⟩ := hx
      refine ⟨⟨y', h1, h3, h4⟩, ?_⟩
      have hex' : ∃ k, ∃ y, μ y = k ∧ Φ y ∧ At n ds (E y) a' ∧ St w0 (H y) w' := ⟨μ y', y', rfl, h1, h3, h4⟩
      rw [dif_pos hex', dif_pos hex]
      have := (Classical.choose_spec (least hex')).2 (μ y') ⟨y', rfl, h1, h3, h4⟩
      omega)

/-! ### Ends -/
theorem X.then_normal {y : Code} (h : C P n ds w0 Q y e hs) : X n ds w0 (Exit.then (fun a w => y.wp P Q a w) Q) .normal e hs := .mk fun a w ha hst => h.ok a w ha hst
theorem X.then_ret {K : Act → World → Prop} (h : X n ds w0 Q .ret e hs) : X n ds w0 (Exit.then K Q) .ret e hs := .mk fun a w ha hst => h.ok a w ha hst
theorem X.then_exit {K : Act → World → Prop} {id : Nat} (h : X n ds w0 Q (.exit id) e hs) : X n ds w0 (Exit.then K Q) (.exit id) e hs := .mk fun a w ha hst => h.ok a w ha hst
theorem X.block_normal {id : Nat} (h : X n ds w0 Q .normal e hs) : X n ds w0 (Exit.inBlock id Q) .normal e hs := .mk fun a w ha hst => h.ok a w ha hst
theorem X.block_ret {id : Nat} (h : X n ds w0 Q .ret e hs) : X n ds w0 (Exit.inBlock id Q) .ret e hs := .mk fun a w ha hst => h.ok a w ha hst
theorem X.block_here {id : Nat} (h : X n ds w0 Q .normal e hs) : X n ds w0 (Exit.inBlock id Q) (.exit id) e hs := .mk fun a w ha hst => by
  show (if id = id then Q .normal a w else Q (.exit id) a w)
  rw [if_pos rfl]; exact h.ok a w ha hst
theorem X.block_on {id id' : Nat} (hne : Nat.beq id' id = false) (h : X n ds w0 Q (.exit id') e hs) : X n ds w0 (Exit.inBlock id Q) (.exit id') e hs := .mk fun a w ha hst => by
  show (if id' = id then Q .normal a w else Q (.exit id') a w)
  rw [if_neg (Nat.ne_of_beq_eq_false hne)]; exact h.ok a w ha hst
/-- A round's end. -/
theorem X.round {Y : Type} {E : Y → Env} {H : Y → SH} {Φ : Y → Prop} {μ : Y → Nat} {m : Nat} (y' : Y) (h1 : Φ y') (h2 : μ y' < m) (h3 : Sub (E y') e) (h4 : SubH (H y') hs) :
    X n ds w0 (Exit.then (fun a w => ∃ y', Φ y' ∧ μ y' < m ∧ At n ds (E y') a ∧ St w0 (H y') w) Q) .normal e hs := .mk fun a w ha hst => ⟨y', h1, h2, ha.sub h3, hst.sub h4.sl⟩
/-- What a function's results read as. -/
def RV (P : Program) (n : Nat) (ds : List Deferred) (w0 : World) (r : ResultVar) (e : Env) (hs : SH) (v : Value) : Prop :=
  match r with
  | .tmp t => get e t = some v
  | .cell t T => ∃ b o, get e t = some (.pointer (some ⟨b, o, none⟩)) ∧ ∀ w, St w0 hs w → (loadVar T ⟨b, o, none⟩).run P w = .ok v w
inductive RVs (P : Program) (n : Nat) (ds : List Deferred) (w0 : World) (e : Env) (hs : SH) : List ResultVar → List Value → Prop where
  | nil : RVs P n ds w0 e hs [] []
  | cons {r : ResultVar} {rs : List ResultVar} {v : Value} {vs : List Value} (h : RV P n ds w0 r e hs v) (k : RVs P n ds w0 e hs rs vs) : RVs P n ds w0 e hs (r :: rs) (v :: vs)
def tupleOf : List Value → Value
  | [v] => v
  | vs => .tuple vs.toArray
theorem RV.cellk {t : Tmp} {T T' : TypeId} {b o k : Nat} {vs us : List Value} [Ag P T k] (hx : get e t = some (.pointer (some ⟨b, o, none⟩))) (hm : (b, Blk.cells T' vs) ∈ hs) (hv : Rd o k vs us) : RV P n ds w0 (.cell t T) e hs (.agg us.toArray) :=
  ⟨b, o, hx, fun w hst => run_loadVar_ag hv.length fun j v hj => hst.cell hm (hv.at j v hj)⟩
theorem RV.cell1 {t : Tmp} {T T' : TypeId} {b o : Nat} {vs : List Value} {v : Value} [Sc P T] (hx : get e t = some (.pointer (some ⟨b, o, none⟩))) (hm : (b, Blk.cells T' vs) ∈ hs) (hv : Rd o 1 vs [v]) : RV P n ds w0 (.cell t T) e hs v :=
  ⟨b, o, hx, fun w hst => run_loadVar_sc (hst.cell hm (by simpa using hv.at 0 v rfl))⟩
theorem RV.tmp {t : Tmp} {v : Value} (hx : get e t = some v) : RV P n ds w0 (.tmp t) e hs v := hx
def resOne (tmps : Array Value) : ResultVar → Sem Value
  | .tmp t => pure (tmps.getD t undef)
  | .cell a t => do loadVar t (← asAddr (tmps.getD a undef))
theorem results_eq (fn : Func) (tmps : Array Value) : results fn tmps = (do let vs ← fn.results.mapM (resOne tmps); pure (if h : vs.size = 1 then vs[0] else .tuple vs)) := by
  unfold results
  congr 1
theorem run_resOne {r : ResultVar} {v : Value} {a : Act} {w : World} (h : RV P n ds w0 r e hs v) (ha : At n ds e a) (hst : St w0 hs w) : (resOne a.tmps r).run P w = .ok v w := by
  cases r with
  | tmp t => simp [resOne, ha.val t v h]
  | cell p t =>
    obtain ⟨b, o, hp, hl⟩ := h
    simp [resOne, ha.val p _ hp, asAddr, hl w hst]
theorem run_resAll {rs : List ResultVar} {vs : List Value} (h : RVs P n ds w0 e hs rs vs) {a : Act} {w : World} (ha : At n ds e a) (hst : St w0 hs w) : (rs.mapM (resOne a.tmps)).run P w = .ok vs w := by
  induction h with
  | nil => rfl
  | cons h k ih =>
    rw [List.mapM_cons, Sem.run_bind, run_resOne h ha hst]
    simp only [Result.andThen_ok, Sem.run_bind, ih]
    rfl
theorem run_results {fn : Func} {rs : List ResultVar} (hrs : fn.results = rs.toArray) {vs : List Value} (h : RVs P n ds w0 e hs rs vs) {a : Act} {w : World} (ha : At n ds e a) (hst : St w0 hs w) : (results fn a.tmps).run P w = .ok (tupleOf vs) w := by
  have hm : (rs.toArray.mapM (resOne a.tmps)).run P w = .ok vs.toArray w := by
    rw [Array.mapM_eq_mapM_toList]
    simp [run_resAll h ha hst]
  rw [results_eq, hrs, Sem.run_bind, hm]
  simp only [Result.andThen_ok]
  cases vs with
  | nil => rfl
  | cons v r => cases r with
    | nil => rfl
    | cons u r => simp [tupleOf]
theorem X.body {fn : Func} {rs : List ResultVar} {vs : List Value} {R : Ending → World → Prop} (hds : ds = []) (hrs : fn.results = rs.toArray) (h : RVs P n ds w0 e hs rs vs) (k : ∀ w, St w0 hs w → R (.returned (tupleOf vs)) w) : X n ds w0 (bodyPost P fn R) .ret e hs :=
  .mk fun a w ha hst => ⟨ha.defers.trans hds, _, run_results hrs h ha hst, k w hst⟩
theorem X.bodyN {fn : Func} {rs : List ResultVar} {vs : List Value} {R : Ending → World → Prop} (hds : ds = []) (hrs : fn.results = rs.toArray) (h : RVs P n ds w0 e hs rs vs) (k : ∀ w, St w0 hs w → R (.returned (tupleOf vs)) w) : X n ds w0 (bodyPost P fn R) .normal e hs :=
  .mk fun a w ha hst => ⟨ha.defers.trans hds, _, run_results hrs h ha hst, k w hst⟩
/-- The end of a contract that hands no memory back. -/
theorem end_val {vs : List Value} {v : Value} (hv : tupleOf vs = v) (w : World) (hst : St w0 hs w) : (fun (e : Ending) w' => e = .returned v ∧ Below w0.heap.size w0 w') (.returned (tupleOf vs)) w := ⟨by rw [hv], hst.low⟩
theorem end_ret {vs : List Value} {R : Value → SH → Prop} (H : SH) (hs' : H.Sublist hs) (hR : R (tupleOf vs) H) (w : World) (hst : St w0 hs w) : Ret w0 R (.returned (tupleOf vs)) w := ⟨_, H, rfl, hR, hst.newAll.sub hs'⟩

theorem X.retv {fn : Func} {rs : List ResultVar} {vs : List Value} {v : Value} (hrs : fn.results = rs.toArray) (h : RVs P n [] w0 e hs rs vs) (hv : tupleOf vs = v) : X n [] w0 (bodyPost P fn fun e w' => e = .returned v ∧ Below w0.heap.size w0 w') .ret e hs :=
  X.body rfl hrs h fun w hst => ⟨by rw [hv], hst.low⟩
theorem X.retvn {fn : Func} {rs : List ResultVar} {vs : List Value} {v : Value} (hrs : fn.results = rs.toArray) (h : RVs P n [] w0 e hs rs vs) (hv : tupleOf vs = v) : X n [] w0 (bodyPost P fn fun e w' => e = .returned v ∧ Below w0.heap.size w0 w') .normal e hs :=
  X.bodyN rfl hrs h fun w hst => ⟨by rw [hv], hst.low⟩
theorem X.retr {fn : Func} {rs : List ResultVar} {vs : List Value} {R : Value → SH → Prop} (H : SH) (hrs : fn.results = rs.toArray) (h : RVs P n [] w0 e hs rs vs) (hs' : SubH H hs) (hR : R (tupleOf vs) H) : X n [] w0 (bodyPost P fn (Ret w0 R)) .ret e hs :=
  X.body rfl hrs h fun w hst => ⟨_, H, rfl, hR, hst.newAll.sub hs'.sl⟩

/-! ### The beginning -/
def args0 : List Value → Nat → Env
  | [], _ => []
  | v :: r, k => (k, v) :: args0 r (k + 1)
theorem get_args0 : ∀ (vs : List Value) (k t : Nat) (v : Value), get (args0 vs k) t = some v → k ≤ t ∧ vs[t - k]? = some v
  | [], _, _, _, h => by cases h
  | u :: r, k, t, v, h => by
    simp only [args0, get] at h
    cases hb : Nat.beq k t with
    | true =>
      obtain rfl := Nat.eq_of_beq_eq_true hb
      rw [hb] at h
      simpa using h
    | false =>
      have hne := Nat.ne_of_beq_eq_false hb
      rw [hb] at h
      obtain ⟨h1, h2⟩ := get_args0 r (k + 1) t v h
      refine ⟨by omega, ?_⟩
      have e : t - k = (t - (k + 1)) + 1 := by omega
      rw [e]
      simpa using h2
theorem enter {f : FuncId} {fn : Func} {c : Code} {vs : List Value} {R : Ending → World → Prop} (hf : P.funcs[f]? = some fn) (hb : fn.body = some c) (hn : fn.ntmps = n) (hl : Nat.ble vs.length n = true) (hbase : Base w0)
    (h : C P n [] w0 (bodyPost P fn R) c (args0 vs 0) []) : Calls P f vs.toArray w0 R := by
  refine calls_of_wp hf hb (h.ok _ _ ⟨?_, rfl, fun t v ht => ?_⟩ (.start hbase))
  · have := Nat.le_of_ble_eq_true hl
    simp [hn]; omega
  · obtain ⟨_, h2⟩ := get_args0 vs 0 t v ht
    simp only [Nat.sub_zero] at h2
    have hlt : t < vs.length := (List.getElem?_eq_some_iff.1 h2).1
    simp [Array.getElem?_append, hlt]
    exact (List.getElem?_eq_some_iff.1 h2).2

end D
end Go.Proofs.YtpodhahlbdlgeaaDoor
