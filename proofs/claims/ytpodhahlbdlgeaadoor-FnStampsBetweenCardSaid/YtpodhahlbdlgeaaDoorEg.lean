/- The engine, part 8: more single operations: composites, indexes, built-in functions, strings. -/
import Derived.Test.YtpodhahlbdlgeaaDoorEf
namespace Go.Proofs.YtpodhahlbdlgeaaDoor
set_option linter.unusedVariables false
set_option linter.unusedSimpArgs false
namespace D
open Go.RowKit

variable {P : Program} {e : Env} {w0 : World} {hs hs' : SH} {d : Option Tmp} {ty : TypeId} {pos : String} {af : Array Edge} {g : Option (Nat × Bool)}

/-! ### Composites -/
class Bd (P : Program) (t : TypeId) (pl : outParam (List (Nat × Nat))) (zs : outParam (List Value)) : Prop where
  ok : ∀ parts, P.built t parts = Instr.fill (fun i => pl.toArray[i]?) zs.toArray parts
inductive Fl (e : Env) (pf : Nat → Option (Nat × Nat)) : List (Nat × Operand) → List Value → List Value → Prop where
  | nil {cs : List Value} : Fl e pf [] cs cs
  | cons {i off : Nat} {x : Operand} {v : Value} {us cs cs' cs'' : List Value} {r : List (Nat × Operand)} (hx : ev e x = some v) (hv : v.cells = us.toArray) (hp : pf i = some (off, us.length)) (hw : Wr off us cs cs') (h : Fl e pf r cs' cs'') : Fl e pf ((i, x) :: r) cs cs''
theorem foldl_set : ∀ (us : List Value) (j off : Nat) (cs : Array Value), off + j + us.length ≤ cs.size →
    (us.zipIdx j).foldl (fun cs (p : Value × Nat) => cs.setIfInBounds (off + p.2) p.1) cs = (cs.toList.take (off + j) ++ us ++ cs.toList.drop (off + j + us.length)).toArray
  | [], j, off, cs, _ => by simp
  | u :: us, j, off, cs, h => by
    rw [List.zipIdx_cons, List.foldl_cons, foldl_set us (j + 1) off _ (by simp at h ⊢; omega)]
    have e := list_seg_step cs.toList (off + j) u us (by simp at h ⊢; omega)
    simpa [Array.toList_setIfInBounds, Nat.add_assoc] using e
theorem fill_fl {pf pf' : Nat → Option (Nat × Nat)} (hpf : ∀ i x, pf i = some x → pf' i = some x) {ps : List (Nat × Operand)} {cs us : List Value} (h : Fl e pf ps cs us) {ρ : Operand → Value} (hf : Fits e ρ) :
    Instr.fill pf' cs.toArray (ps.map fun p => (p.1, ρ p.2)) = some us.toArray := by
  induction h with
  | nil => rfl
  | cons hx hv hp hw h ih =>
    rename_i i off x v us cs cs' cs'' r
    obtain ⟨h1, h2⟩ := hw.eq
    have hp' := hpf _ _ hp
    simp only [List.map_cons, Instr.fill, hp', hf x _ hx, hv]
    have hz : us.toArray.zipIdx.foldl (fun cs (p : Value × Nat) => cs.setIfInBounds (off + p.2) p.1) cs.toArray = cs'.toArray := by
      have := foldl_set us 0 off cs.toArray (by simpa using h2)
      simp only [Nat.add_zero] at this
      rw [← Array.foldl_toList]
      simp only [Array.toList_zipIdx]
      rw [this, h1]
    rw [if_neg (by simp; omega)]
    rw [← ih]
    congr 1
theorem PV.build {t : TypeId} {pl : List (Nat × Nat)} {zs us : List Value} {ps : List (Nat × Operand)} [i : Bd P t pl zs] (h : Fl e (nthL pl) ps zs us) : PV P ⟨d, .build t ps.toArray, ty, pos, af, g⟩ e (.agg us.toArray) := .mk fun ρ hf w => by
  have hb : P.built t (ps.map fun p => (p.1, ρ p.2)) = some us.toArray := by rw [i.ok]; exact fill_fl (fun i x h => by simpa using nthL_some h) h hf
  have := run_build (P := P) w t (ps.map fun p => (p.1, ρ p.2)).toArray us.toArray (by simpa using hb)
  simp [execOp, this]

def rep : Nat → List Value → List Value
  | 0, _ => []
  | n + 1, zs => zs ++ rep n zs
theorem rep_length (n : Nat) (zs : List Value) : (rep n zs).length = n * zs.length := by
  induction n with
  | zero => simp [rep]
  | succ n ih => simp [rep, ih, Nat.succ_mul, Nat.add_comm]
theorem rep_get (n : Nat) (zs : List Value) : ∀ i, i < n * zs.length → (rep n zs)[i]? = zs[i % zs.length]? := by
  induction n with
  | zero => intro i h; simp at h
  | succ n ih =>
    intro i h
    rw [Nat.succ_mul] at h
    by_cases hi : i < zs.length
    · rw [rep, List.getElem?_append_left hi, Nat.mod_eq_of_lt hi]
    · rw [rep, List.getElem?_append_right (by omega), ih _ (by omega)]
      congr 1
      conv => rhs; rw [← Nat.sub_add_cancel (Nat.le_of_not_lt hi), Nat.add_mod_right]
theorem rep_range (n : Nat) (zs : List Value) : ((Array.range (n * zs.length)).map (zs.toArray[· % zs.toArray.size]!)) = (rep n zs).toArray := by
  apply Array.ext_getElem?
  intro i
  by_cases hi : i < n * zs.length
  · have hz : 0 < zs.length := by
      rcases Nat.eq_zero_or_pos zs.length with h | h
      · rw [h] at hi; simp at hi
      · exact h
    have hm : i % zs.length < zs.length := Nat.mod_lt _ hz
    have := rep_get n zs i hi
    simp [hi, this, hm]
  · have := rep_length n zs
    rw [Array.getElem?_eq_none (by simp; omega), Array.getElem?_eq_none (by simp [this]; omega)]
class BS (P : Program) (t : TypeId) (el : outParam Nat) (zs : outParam (List Value)) : Prop where
  ok : P.underlying t = some (.slice el)
  sz : (P.info? el).map (·.size) = some zs.length
  zr : (P.info? el).bind (·.zero.map (·.cells)) = some zs.toArray
/-- A new slice. -/
def NewSl (n c : Nat) (k : Blk) : Value → SH → Prop := fun v H => ∃ b : Nat, v = .slice (some ⟨b, 0, none⟩) n c ∧ H = [(b, k)]
theorem run_zeroCells {el : Nat} {zs : List Value} (h : (P.info? el).bind (·.zero.map (·.cells)) = some zs.toArray) (w : World) : ∃ v, (zeroValue el).run P w = .ok v w ∧ v.cells = zs.toArray := by
  cases hq : P.info? el with
  | none => simp [hq] at h
  | some i =>
    cases hz : i.zero with
    | none => simp [hq, hz] at h
    | some v =>
      simp only [hq, Option.bind_some, hz, Option.map_some, Option.some.injEq] at h
      exact ⟨v, by simp [zeroValue, typeInfo, hq, hz], h⟩
theorem ON.bslice {t el len : Nat} {zs us : List Value} {ps : List (Nat × Operand)} [i : BS P t el zs] (hb : Nat.ble (len * zs.length) (2 ^ 24) = true) (h : Fl e (fun i => some (i * zs.length, zs.length)) ps (rep len zs) us) :
    ON P ⟨d, .buildSlice t len ps.toArray, ty, pos, af, g⟩ e w0 hs (NewSl len len (.cells el us)) := .mk fun ρ w hf hst => by
  have hle := Nat.le_of_ble_eq_true hb
  have hfill := fill_fl (pf' := fun i => some (i * zs.length, zs.length)) (fun _ _ h => h) h hf
  obtain ⟨v, hv, hvc⟩ := run_zeroCells i.zr w
  refine .of_value (w' := w.alloc (.cells us.toArray el)) (v := .slice (some ⟨w.heap.size, 0, none⟩) len len) ?_ ⟨_, ⟨w.heap.size, rfl, rfl⟩, New.alloc w (.cells el us)⟩
  have hb2 : (Instr.buildSlice t len (ps.map fun p => (p.1, ρ p.2)).toArray).run P w = .ok (.slice (some ⟨w.heap.size, 0, none⟩) len len) (w.alloc (.cells us.toArray el)) := by
    rw [Instr.buildSlice, Sem.run_bind, run_underlying i.ok]
    simp only [Result.andThen_ok]
    rw [Sem.run_bind, run_sizeOf i.sz]
    simp only [Result.andThen_ok]
    rw [if_neg (Nat.not_lt.2 hle), pure_bind]
    by_cases h0 : len * zs.length = 0
    · have hl := rep_length len zs
      rw [h0] at hl
      rw [List.length_eq_zero_iff.1 hl] at hfill
      rw [if_pos h0]
      have ha : (Array.map (fun (x : Nat) => (#[] : Array Value)[x % (#[] : Array Value).size]!) (Array.range (len * zs.length))) = #[] := by rw [h0]; simp
      simp only [ha]
      simp only [hfill]
      rfl
    · rw [if_neg h0, Sem.run_bind, hv]
      simp only [Result.andThen_ok, pure_bind, hvc]
      rw [rep_range len zs]
      simp only [hfill]
      rfl
  simp [execOp, hb2]

section
variable {n m : Nat} {ds : List Deferred} {ops : List Oper} {Q : Exit → Act → World → Prop} {o : Oper} {l : List Oper} {Rs : List Sp} {K : Env → SH → Prop} {i : Nat} {acc : List (Nat × SH)} {own : SH} {Z : Lend}
theorem L.nsl {len c : Nat} {B : Blk} (hw : wantE ops e o = some true) (hd : dstOk n o.dst = true) (h : ON P o e w0 hs (NewSl len c B)) (k : ∀ b : Nat, L P n ds w0 ops Q l (consE o.dst (.slice (some ⟨b, 0, none⟩) len c) e) ((b, B) :: hs)) : L P n ds w0 ops Q (o :: l) e hs :=
  L.nw hw hd h fun v H ⟨b, hv, hH⟩ => by subst hv; subst hH; exact k b
theorem G.nsl {len c : Nat} {B : Blk} (hw : wantE ops e o = some true) (hd : dstOk n o.dst = true) (h : ON P o e w0 hs (NewSl len c B)) (k : ∀ b : Nat, G P n w0 Z ops hs K (i + 1) l Rs (consE o.dst (.slice (some ⟨b, 0, none⟩) len c) e) ((i, [(b, B)]) :: acc) ((b, B) :: own)) :
    G P n w0 Z ops hs K i (o :: l) (some (NewSl len c B) :: Rs) e acc own :=
  G.nw hw hd h fun v H ⟨b, hv, hH⟩ => by subst hv; subst hH; exact k b
end

/-! ### Indexes -/
class ArT (P : Program) (t : TypeId) (len es : outParam Nat) : Prop where
  ok : ∃ el, P.underlying t = some (.array len el) ∧ (P.info? el).map (·.size) = some es
class SlT (P : Program) (t : TypeId) (el es : outParam Nat) : Prop where
  ok : P.underlying t = some (.slice el)
  sz : (P.info? el).map (·.size) = some es
class StT (P : Program) (t : TypeId) : Prop where
  ok : P.underlying t = some .string
theorem PV.idxArr {t len es b o : Nat} {x y : Operand} {kk : IntKind} {k : Int} [i : ArT P t len es] (hx : ev e x = some (.pointer (some ⟨b, o, none⟩))) (hy : ev e y = some (.int kk k)) (h : 0 ≤ k ∧ k < len) :
    PV P ⟨d, .indexAddr t x y, ty, pos, af, g⟩ e (.pointer (some ⟨b, o + k.toNat * es, none⟩)) := .mk fun ρ hf w => by
  obtain ⟨el, hu, hz⟩ := i.ok
  simp [execOp, hf x _ hx, hf y _ hy, Instr.indexAt, asIntOf, run_underlying hu, Instr.sureAddr, h.1, h.2, run_sizeOf hz, add_plain]
theorem PV.idxSl {t el es b o n c : Nat} {x y : Operand} {kk : IntKind} {k : Int} [i : SlT P t el es] (hx : ev e x = some (.slice (some ⟨b, o, none⟩) n c)) (hy : ev e y = some (.int kk k)) (h : 0 ≤ k ∧ k < n) :
    PV P ⟨d, .indexAddr t x y, ty, pos, af, g⟩ e (.pointer (some ⟨b, o + k.toNat * es, none⟩)) := .mk fun ρ hf w => by
  simp [execOp, hf x _ hx, hf y _ hy, Instr.indexAt, asIntOf, run_underlying i.ok, h.1, h.2, run_sizeOf i.sz, add_plain]

/-! ### Built-in functions -/
theorem PV.builtin {b : Builtin} {xs : List Operand} {ts : Array TypeId} {vs : List Value} {v : Value} (hv : evs e xs = some vs) (h : ∀ cs w, (builtin b ts ty cs vs.toArray).run P w = .ok (.value v) w) :
    PV P ⟨d, .call ⟨.builtin b, xs.toArray, ts⟩, ty, pos, af, g⟩ e v := .mk fun ρ hf w => by
  have := evs_map hf hv
  simp [execOp, resolve, invoke, this, h]
theorem PV.min {xs : List Operand} {ts : Array TypeId} {m n : Int} {k : IntKind} (hv : evs e xs = some [.int k m, .int k n]) : PV P ⟨d, .call ⟨.builtin .min, xs.toArray, ts⟩, ty, pos, af, g⟩ e (.int k (min m n)) := .builtin hv fun cs w => by
  simp [Go.builtin, Builtin.min_, Builtin.min2]
  rw [Int.min_def]
  split <;> split <;> omega
theorem PV.max {xs : List Operand} {ts : Array TypeId} {m n : Int} {k : IntKind} (hv : evs e xs = some [.int k m, .int k n]) : PV P ⟨d, .call ⟨.builtin .max, xs.toArray, ts⟩, ty, pos, af, g⟩ e (.int k (max m n)) := .builtin hv fun cs w => by
  simp [Go.builtin, Builtin.max_, Builtin.max2]
  rw [Int.max_def]
  split <;> split <;> omega
theorem PV.lenSl {t el es n c : Nat} {b : Option Addr} {xs : List Operand} [i : SlT P t el es] (hv : evs e xs = some [.slice b n c]) : PV P ⟨d, .call ⟨.builtin .len, xs.toArray, #[t]⟩, ty, pos, af, g⟩ e (.int .i64 n) := .builtin hv fun cs w => by
  simp [Go.builtin, Builtin.len_, run_underlying i.ok, goInt]
theorem PV.lenSt {t : TypeId} {s : ByteArray} {xs : List Operand} [i : StT P t] (hv : evs e xs = some [.string s]) : PV P ⟨d, .call ⟨.builtin .len, xs.toArray, #[t]⟩, ty, pos, af, g⟩ e (.int .i64 s.size) := .builtin hv fun cs w => by
  simp [Go.builtin, Builtin.len_, run_underlying i.ok, goInt]

/-! ### Function values -/
theorem PV.makeFunc {fn : Fn} {xs ys : List Operand} {us vs : List Value} (hx : evs e xs = some us) (hy : evs e ys = some vs) : PV P ⟨d, .makeFunc fn xs.toArray ys.toArray, ty, pos, af, g⟩ e (.func fn us.toArray vs.toArray) := .mk fun ρ hf w => by
  have h1 := evs_map hf hx
  have h2 := evs_map hf hy
  simp [execOp, Instr.makeFunc, h1, h2]

/-! ### Bools and strings -/
theorem eqGuard_bools (op : BinOp) (t : TypeId) (x y : Operand) (a b : Bool) (w : World) : (eqGuard op t x y (.bool a) (.bool b)).run P w = .ok () w := by
  cases op <;> simp [eqGuard]
theorem eqGuard_strings (op : BinOp) (t : TypeId) (x y : Operand) (a b : ByteArray) (w : World) : (eqGuard op t x y (.string a) (.string b)).run P w = .ok () w := by
  cases op <;> simp [eqGuard]
class BoT (P : Program) (t : TypeId) : Prop where
  ok : P.underlying t = some .bool
theorem run_equal_bool {t : TypeId} {a b : Bool} (h : P.underlying t = some .bool) (w : World) : (Op.equal t (.bool a) (.bool b)).run P w = .ok (a == b) w := by
  show (Op.equalIn (9999 + 1) t (.bool a) (.bool b)).run P w = _
  rw [Op.equalIn]
  simp only [Sem.run_bind, run_underlying h, Result.andThen_ok]
  rfl
theorem PV.eqlB {x y : Operand} {a b : Bool} {xt yt : TypeId} [i : BoT P xt] (hx : ev e x = some (.bool a)) (hy : ev e y = some (.bool b)) : PV P ⟨d, .binOp .eql xt x y yt, ty, pos, af, g⟩ e (.bool (a == b)) :=
  .bin hx hy (eqGuard_bools _ _ _ _ _ _) fun w => by simp only [Go.binOp, Sem.run_bind, run_equal_bool i.ok, Result.andThen_ok]; rfl
theorem PV.neqB {x y : Operand} {a b : Bool} {xt yt : TypeId} [i : BoT P xt] (hx : ev e x = some (.bool a)) (hy : ev e y = some (.bool b)) : PV P ⟨d, .binOp .neq xt x y yt, ty, pos, af, g⟩ e (.bool (!(a == b))) :=
  .bin hx hy (eqGuard_bools _ _ _ _ _ _) fun w => by simp only [Go.binOp, Sem.run_bind, run_equal_bool i.ok, Result.andThen_ok]; rfl

end D
end Go.Proofs.YtpodhahlbdlgeaaDoor
