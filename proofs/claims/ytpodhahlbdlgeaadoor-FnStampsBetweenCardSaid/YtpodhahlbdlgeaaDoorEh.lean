/- The engine, part 9: single operations of readers; calls that a block is lent to and that hand no memory back. -/
import Derived.Test.YtpodhahlbdlgeaaDoorEg
import Derived.Laws.Slices
namespace Go.Proofs.YtpodhahlbdlgeaaDoor
set_option linter.unusedVariables false
set_option linter.unusedSimpArgs false
namespace D
open Go.RowKit

variable {P : Program} {e : Env} {w0 : World} {hs hs' : SH} {d : Option Tmp} {ty : TypeId} {pos : String} {af : Array Edge} {g : Option (Nat × Bool)}

theorem PV.nilCheck {x : Operand} {a : Addr} (h : ev e x = some (.pointer (some a))) : PV P ⟨d, .nilCheck x, ty, pos, af, g⟩ e (.pointer (some a)) := .mk fun ρ hf w => by simp [execOp, hf x _ h]
class I64 (P : Program) (t : TypeId) : Prop where
  ok : P.underlying t = some (.int .i64)
theorem PV.conv {x : Operand} {k : IntKind} {n : Int} {st dt : TypeId} [j : Sc P st] [i : I64 P dt] (hx : ev e x = some (.int k n)) (h1 : -9223372036854775808 ≤ n) (h2 : n ≤ 9223372036854775807) :
    PV P ⟨d, .convert st dt x, ty, pos, af, g⟩ e (.int .i64 n) := .mk fun ρ hf w => by
  have hw : IntKind.i64.wrap n = n := by simp [IntKind.wrap, IntKind.bits, IntKind.signed]; omega
  obtain ⟨sd, hs, _⟩ := j.ok
  simp [execOp, hf x _ hx, convert, run_underlying hs, run_underlying i.ok, Conv.intToInt, hw]
theorem bits_xor_bd {m n : Int} (h0 : 0 ≤ m) (h1 : m < 4611686018427387904) (h2 : 0 ≤ n) (h3 : n < 4611686018427387904) : ∃ r : Int, Op.intBits .xor .i64 m n = pure (.int .i64 r) ∧ 0 ≤ r ∧ r < 4611686018427387904 := by
  obtain ⟨a, rfl⟩ := Int.eq_ofNat_of_zero_le h0
  obtain ⟨b, rfl⟩ := Int.eq_ofNat_of_zero_le h2
  have ha : a < 2 ^ 62 := by omega
  have hb : b < 2 ^ 62 := by omega
  have hx : a ^^^ b < 2 ^ 62 := Nat.xor_lt_two_pow ha hb
  have e1 : (BitVec.ofInt 64 (a : Int) ^^^ BitVec.ofInt 64 (b : Int)).toNat = a ^^^ b := by
    have e2 : (BitVec.ofInt 64 (a : Int)).toNat = a := by simp; omega
    have e3 : (BitVec.ofInt 64 (b : Int)).toNat = b := by simp; omega
    rw [BitVec.toNat_xor, e2, e3]
  refine ⟨((a ^^^ b : Nat) : Int), ?_, by omega, by omega⟩
  have e4 : IntKind.i64.wrap (((BitVec.ofInt 64 (a : Int) ^^^ BitVec.ofInt 64 (b : Int)).toNat : Nat) : Int) = ((a ^^^ b : Nat) : Int) := by
    rw [e1]
    simp [IntKind.wrap, IntKind.bits, IntKind.signed]; omega
  show pure (Value.int .i64 (IntKind.i64.wrap (((BitVec.ofInt 64 (a : Int) ^^^ BitVec.ofInt 64 (b : Int)).toNat : Nat) : Int))) = _
  rw [e4]
theorem PV.xor {x y : Operand} {m n r : Int} {xt yt : TypeId} (hx : ev e x = some (.int .i64 m)) (hy : ev e y = some (.int .i64 n)) (h : Op.intBits .xor .i64 m n = pure (.int .i64 r)) :
    PV P ⟨d, .binOp .xor xt x y yt, ty, pos, af, g⟩ e (.int .i64 r) :=
  .bin hx hy (eqGuard_ints _ _ _ _ _ _) fun w => by
    have : Go.binOp .xor xt (.int .i64 m) (.int .i64 n) = Op.intBits .xor .i64 m n := by simp [Go.binOp]
    rw [this, h]; rfl
theorem PV.slh {t el es b o n c : Nat} {x y : Operand} {k : IntKind} {q : Int} [i : SlT P t el es] (hx : ev e x = some (.slice (some ⟨b, o, none⟩) n c)) (hy : ev e y = some (.int k q)) (h0 : 0 ≤ q) (h1 : q ≤ c) :
    PV P ⟨d, .slice t x none (some y) none, ty, pos, af, g⟩ e (.slice (some ⟨b, o, none⟩) q.toNat c) := .mk fun ρ hf w => by
  simp [execOp, hf x _ hx, hf y _ hy, Instr.sliceAt, Instr.slice, run_underlying i.ok, run_sizeOf i.sz, Instr.sliceBounds, run_sliceBound, h0, h1, add_plain]
theorem OV.load0i {x : Operand} {b o j q : Nat} {lt : TypeId} {v : Value} [Sc P lt] (hx : ev e x = some (.pointer (some ⟨b, q, none⟩))) (hq : q = o + j) (hv : w0.cell? ⟨b, o + j, none⟩ = some v) :
    OV P ⟨d, .load lt x, ty, pos, af, g⟩ e w0 hs v := OV.load0 hx (hq ▸ hv)

/-! ### Calls that a block is lent to -/
def LentV (w0 : World) (r : Nat) (bs : Int → Blk) (p : Int) (c : Nat) (F : SH) (R : Value → Prop) : Ending → World → Prop := fun e w' => ∃ v p', e = .returned v ∧ R v ∧ p ≤ p' ∧ p' ≤ p + c ∧ St w0 ((r, bs p') :: F) w'
def JustV (R : Value → Prop) : Value → SH → Prop := fun v H => H = [] ∧ R v
theorem OP.callv {f : FuncId} {xs : List Operand} {ts : Array TypeId} {vs : List Value} {r : Nat} {bs : Int → Blk} {c : Nat} {cc : Nat → Nat} {lo hi : Int} {R : Value → Prop} [i : Ent P f] (hv : evs e xs = some vs)
    (h : ∀ p F w, lo ≤ p → p + c ≤ hi → St w0 ((r, bs p) :: F) w → Calls P f vs.toArray w (LentV w0 r bs p c F R)) : OP P w0 ⟨fun p => [(r, bs p)], cc, lo, hi⟩ c ⟨d, .call ⟨.value (.func f), xs.toArray, ts⟩, ty, pos, af, g⟩ e hs (JustV R) :=
  .call hv fun p F w h1 h2 hst => (h p F w h1 h2 hst).mono fun e' w' ⟨v, p', he, hR, h3, h4, hn⟩ => ⟨v, [], p', he, ⟨rfl, hR⟩, h3, h4, hn⟩
variable {n m : Nat} {ds : List Deferred} {ops : List Oper} {Q : Exit → Act → World → Prop} {o : Oper} {l : List Oper} {Rs : List Sp} {K : Env → SH → Prop} {i : Nat} {acc : List (Nat × SH)} {own : SH} {Z : Lend} {R : Value → Prop}
theorem G.lv (hw : wantE ops e o = some true) (hd : dstOk n o.dst = true) (h : OP P w0 Z (Z.c i) o e hs (JustV R)) (k : ∀ v, R v → G P n w0 Z ops hs K (i + 1) l Rs (consE o.dst v e) acc own) : G P n w0 Z ops hs K i (o :: l) (some (JustV R) :: Rs) e acc own :=
  G.l hw hd h fun v H ⟨hH, hR⟩ => by subst hH; exact k v hR
theorem L.lv {r : Nat} {bs : Int → Blk} {c : Nat} {p : Int} {F : SH} {f : FuncId} {xs : List Operand} {ts : Array TypeId} {vs : List Value} [i : Ent P f]
    (hw : wantE ops e ⟨d, .call ⟨.value (.func f), xs.toArray, ts⟩, ty, pos, af, g⟩ = some true) (hd : dstOk n d = true) (hv : evs e xs = some vs) (hp : Pull (r, bs p) hs F)
    (h : ∀ w, St w0 ((r, bs p) :: F) w → Calls P f vs.toArray w (LentV w0 r bs p c F R))
    (k : ∀ v p', R v → p ≤ p' → p' ≤ p + c → L P n ds w0 ops Q l (consE d v e) ((r, bs p') :: F)) : L P n ds w0 ops Q (⟨d, .call ⟨.value (.func f), xs.toArray, ts⟩, ty, pos, af, g⟩ :: l) e hs :=
  L.l (id := []) (R := JustV R) hw hd hv hp (fun w hst => (h w hst).mono fun e' w' ⟨v, p', he, hR, h3, h4, hn⟩ => ⟨v, [], p', he, ⟨rfl, hR⟩, h3, h4, hn⟩)
    fun v H p' ⟨hH, hR⟩ h1 h2 => by subst hH; exact k v p' hR h1 h2
theorem X.retlv {fn : Func} {rs : List ResultVar} {vs : List Value} {r : Nat} {bs : Int → Blk} {p p' : Int} {c : Nat} {F : SH} (hrs : fn.results = rs.toArray) (h : RVs P n [] w0 e hs rs vs) (hs' : ((r, bs p') :: F).Sublist hs) (h1 : p ≤ p') (h2 : p' ≤ p + c) (hR : R (tupleOf vs)) :
    X n [] w0 (bodyPost P fn (LentV w0 r bs p c F R)) .ret e hs :=
  X.body rfl hrs h fun w hst => ⟨_, p', rfl, hR, h1, h2, hst.sub hs'⟩

theorem LentV.up {r : Nat} {bs : Int → Blk} {p : Int} {c c' : Nat} {F : SH} (hc : c ≤ c') (ed : Ending) (w' : World) (h : LentV w0 r bs p c F R ed w') : LentV w0 r bs p c' F R ed w' := by
  obtain ⟨v, p', h1, h2, h3, h4, h5⟩ := h
  exact ⟨v, p', h1, h2, h3, by omega, h5⟩
/-- Ints within bounds. -/
def IntIn (lo hi : Int) (v : Value) : Prop := ∃ m : Int, v = .int .i64 m ∧ lo ≤ m ∧ m ≤ hi
inductive AllI (lo hi : Int) : List Value → Prop where
  | nil : AllI lo hi []
  | cons {m : Int} {r : List Value} (h1 : lo ≤ m) (h2 : m ≤ hi) (h : AllI lo hi r) : AllI lo hi (.int .i64 m :: r)
theorem AllI.get {lo hi : Int} {vs : List Value} (h : AllI lo hi vs) : ∀ j, j < vs.length → ∃ m : Int, vs[j]? = some (.int .i64 m) ∧ lo ≤ m ∧ m ≤ hi := by
  induction h with
  | nil => intro j hj; simp at hj
  | cons h1 h2 h ih =>
    intro j hj
    cases j with
    | zero => exact ⟨_, rfl, h1, h2⟩
    | succ j => simpa using ih j (by simpa using hj)
theorem L.li {lo hi : Int} {x : Operand} {b q : Nat} {lt T : TypeId} {vs : List Value} [Sc P lt] (hw : wantE ops e ⟨d, .load lt x, ty, pos, af, g⟩ = some true) (hd : dstOk n d = true) (hx : ev e x = some (.pointer (some ⟨b, q, none⟩))) (hm : (b, Blk.cells T vs) ∈ hs)
    (hq : q < vs.length) (ha : AllI lo hi vs) (k : ∀ m : Int, lo ≤ m → m ≤ hi → L P n ds w0 ops Q l (consE d (.int .i64 m) e) hs) : L P n ds w0 ops Q (⟨d, .load lt x, ty, pos, af, g⟩ :: l) e hs := by
  obtain ⟨m, h1, h2, h3⟩ := ha.get q hq
  exact L.v hw hd (OV.loadi hx hm h1) (k m h2 h3)

theorem G.stk {ix b j k : Nat} {x y : Operand} {st T : TypeId} {vs vs' us : List Value} [z : Ag P st k] (hi : Nat.beq i ix = true) (hw : wantE ops e ⟨d, .store st x y, ty, pos, af, g⟩ = some true) (hd : dstOk n d = true) (hx : ev e x = some (.pointer (some ⟨b, j, none⟩))) (hy : ev e y = some (.agg us.toArray))
    (hl : us.length = k) (h1 : us.all Value.oneCell' = true) (hwr : Wr j us vs vs')
    (kk : G P n w0 ⟨preS b (.cells T vs), cS ix, 0, 1⟩ ops hs K (i + 1) l Rs (consE d undef e) ((i, [(b, .cells T vs')]) :: acc) ((b, .cells T vs') :: own)) :
    G P n w0 ⟨preS b (.cells T vs), cS ix, 0, 1⟩ ops hs K i (⟨d, .store st x y, ty, pos, af, g⟩ :: l) (some (Stored b (.cells T vs')) :: Rs) e acc own :=
  G.st hi hw hd (fun F => OS.storek hx hy hl h1 Upd.here hwr) kk
theorem G.st1 {ix b j : Nat} {x y : Operand} {st T : TypeId} {vs vs' : List Value} {v : Value} [z : Sz P st 1] (hi : Nat.beq i ix = true) (hw : wantE ops e ⟨d, .store st x y, ty, pos, af, g⟩ = some true) (hd : dstOk n d = true) (hx : ev e x = some (.pointer (some ⟨b, j, none⟩))) (hy : ev e y = some v)
    (h1 : v.oneCell' = true) (hwr : Wr j [v] vs vs')
    (kk : G P n w0 ⟨preS b (.cells T vs), cS ix, 0, 1⟩ ops hs K (i + 1) l Rs (consE d undef e) ((i, [(b, .cells T vs')]) :: acc) ((b, .cells T vs') :: own)) :
    G P n w0 ⟨preS b (.cells T vs), cS ix, 0, 1⟩ ops hs K i (⟨d, .store st x y, ty, pos, af, g⟩ :: l) (some (Stored b (.cells T vs')) :: Rs) e acc own :=
  G.st hi hw hd (fun F => OS.store1 hx hy h1 Upd.here hwr) kk

/-! ### Calls of whose value only something is told -/
def RetV (w : World) (R : Value → Prop) : Ending → World → Prop := fun e w' => ∃ v, e = .returned v ∧ R v ∧ Below w.heap.size w w'
theorem ON.callv {f : FuncId} {xs : List Operand} {ts : Array TypeId} {vs : List Value} [i : Ent P f] (hv : evs e xs = some vs)
    (h : ∀ w, St w0 hs w → Calls P f vs.toArray w (RetV w R)) : ON P ⟨d, .call ⟨.value (.func f), xs.toArray, ts⟩, ty, pos, af, g⟩ e w0 hs (JustV R) :=
  .call hv fun w hst => (h w hst).mono fun e' w' ⟨v, he, hR, hb⟩ => ⟨v, [], he, ⟨rfl, hR⟩, .of_below hb⟩
theorem L.nv (hw : wantE ops e o = some true) (hd : dstOk n o.dst = true) (h : ON P o e w0 hs (JustV R)) (k : ∀ v, R v → L P n ds w0 ops Q l (consE o.dst v e) hs) : L P n ds w0 ops Q (o :: l) e hs :=
  L.nw hw hd h fun v H ⟨hH, hR⟩ => by subst hH; exact k v hR
theorem G.nv (hw : wantE ops e o = some true) (hd : dstOk n o.dst = true) (h : ON P o e w0 hs (JustV R)) (k : ∀ v, R v → G P n w0 Z ops hs K (i + 1) l Rs (consE o.dst v e) acc own) : G P n w0 Z ops hs K i (o :: l) (some (JustV R) :: Rs) e acc own :=
  G.nw hw hd h fun v H ⟨hH, hR⟩ => by subst hH; exact k v hR
theorem X.retw {fn : Func} {rs : List ResultVar} {vs : List Value} (hrs : fn.results = rs.toArray) (h : RVs P n [] w0 e hs rs vs) (hR : R (tupleOf vs)) : X n [] w0 (bodyPost P fn (RetV w0 R)) .ret e hs :=
  X.body rfl hrs h fun w hst => ⟨_, rfl, hR, hst.low⟩

/-! ### The bytes that a reader reads -/
def CodeAt (w0 : World) (s : Value) : Prop := (∃ (a : Option Addr) (c : Nat), s = .slice a 0 c) ∨ ∃ b o n c : Nat, s = .slice (some ⟨b, o, none⟩) n c ∧ n ≤ c ∧ n ≤ 1048576 ∧ ∀ j, j < n → ∃ k : Int, 0 ≤ k ∧ k < 256 ∧ w0.cell? ⟨b, o + j, none⟩ = some (.int .u8 k)

end D
end Go.Proofs.YtpodhahlbdlgeaaDoor
