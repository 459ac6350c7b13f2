/- Walks: texts of stamps that are drawn. -/
import Derived.Test.YtdafjaimljhcaaaGreatDoorDr5
import Derived.Test.YtdafjaimljhcaaaGreatDoorDr34
import Derived.Test.YtdafjaimljhcaaaGreatDoorG4
namespace Go.Proofs.YtdafjaimljhcaaaGreatDoor
set_option linter.unusedVariables false
set_option linter.unusedSimpArgs false
set_option maxRecDepth 100000
set_option maxHeartbeats 1000000
namespace D
open Go.RowKit

section
variable {P : Program} {e : Env} {w0 : World} {hs : SH} {d : Option Tmp} {ty : TypeId} {pos : String} {af : Array Edge} {g : Option (Nat × Bool)}
variable {n : Nat} {ops : List Oper} {l : List Oper} {Rs : List Sp} {K : Env → SH → Prop} {i : Nat} {acc : List (Nat × SH)} {own : SH}
/-- A call that a block is lent to, and that looks at memory that the region itself has made. -/
theorem G.lcalld (X : SH) {r : Nat} {bs : Int → Blk} {c : Nat} {lo hi : Int} {f : FuncId} {xs : List Operand} {ts : Array TypeId} {vs : List Value} {R : Value → Prop} [j : Ent P f]
    (hX : sel ops i acc = X := by kernel_rfl) (hw : wantE ops e ⟨d, .call ⟨.value (.func f), xs.toArray, ts⟩, ty, pos, af, g⟩ = some true := by exact rfl) (hd : dstOk n d = true := by exact rfl) (hv : evs e xs = some vs := by exact rfl)
    (h : ∀ p F w, lo ≤ p → p + c ≤ hi → St w0 ((r, bs p) :: ((X ++ hs) ++ F)) w → Calls P f vs.toArray w (LentV w0 r bs p c ((X ++ hs) ++ F) R))
    (k : ∀ v, R v → G P n w0 ⟨fun p => [(r, bs p)], fun _ => c, lo, hi⟩ ops hs K (i + 1) l Rs (consE d v e) acc own) :
    G P n w0 ⟨fun p => [(r, bs p)], fun _ => c, lo, hi⟩ ops hs K i (⟨d, .call ⟨.value (.func f), xs.toArray, ts⟩, ty, pos, af, g⟩ :: l) (some (JustV R) :: Rs) e acc own :=
  .mk ⟨hd, .inl ⟨hw, by
    rw [hX]
    exact .mk fun ρ w p F hf h1 h2 hst => by
      unfold Does
      rw [run_call hf rfl hv]
      simpa using Calls.mono (h p F w h1 h2 (by simpa using hst)) fun e' w' ⟨v, p', he, hR, h3, h4, hn⟩ => ⟨v, he, [], ⟨rfl, hR⟩, p', h3, h4, by simpa using hn⟩⟩, fun v H ⟨hH, hR⟩ => by subst hH; exact (k v hR).ok⟩
end

theorem stL_size {y m d h i s k o : Int} : 19 ≤ (strOfNums (stL y m d h i s k o)).size ∧ (strOfNums (stL y m d h i s k o)).size ≤ 40 := by
  have l1 : (dtL y m d 0 true).length = 10 := by simp [dtL, hy1, digL_length]
  have l2 := clL_len h i s k
  have l3 := frL_len k
  have l4 := ofL_len o
  rw [strOfNums_size]
  simp only [stL, List.length_append, List.length_cons, List.length_nil]
  omega

theorem d_StampTextT (w0 : World) (F : SH) (s : Value) (r : Nat) (p : Int) (hc : CodeAt w0 s) (hp0 : 0 ≤ p) (hp : p ≤ 1000000000) (w : World) (hst : St w0 ((r, rb s p) :: F) w) :
    Calls Tryz.prog 32 #[.pointer (some ⟨r, 0, none⟩)] w (LentV w0 r (rb s) p 80 F (StrIn 300)) := by
  refine enterl Tryz.func32 rfl Tryz.ntmps32 rfl hst ?_
  (repeat (first | intro (b : Nat) | refine go ?_))
  (refine L.lcall (bs := rb s) (h := by intro W hW; exact d_sound _ _ _ _ _ hc (by omega) (by omega) W hW) (k := ?_); intro v p1 hR hp1 hp2)
  obtain ⟨y, m, d, h, i, s', k, o, rfl, hv⟩ := hR
  have hz := stL_size (y := y) (m := m) (d := d) (h := h) (i := i) (s := s') (k := k) (o := o)
  have hT := b_l13Text y m d h i s' k o hv
  generalize strOfNums (stL y m d h i s' k o) = t at *
  have z1 : (t.extract 0 (10 : Int).toNat).size ≤ 40 := by rw [ByteArray.size_extract]; omega
  have z2 : (t.extract (11 : Int).toNat t.size).size ≤ 40 := by rw [ByteArray.size_extract]; omega
  (repeat (first | intro (b : Nat) | refine go ?_))
  (refine L.call (h := by intro W hW; exact hT W hW.base) (k := ?_))
  (repeat (first | intro (b : Nat) | refine go ?_))
  (refine L.lcall (bs := rb s) (h := by intro W hW; exact d_pick1 _ _ _ _ _ _ hc (by omega) (by omega) (by omega) W hW) (k := ?_); intro v p1 hR hp1 hp2; obtain ⟨m, rfl, hm0, hm1⟩ := hR)
  (repeat' (first | intro (b : Nat) | refine go ?_ | (refine br ?_ ?_ <;> first | exact trivial | intro hq)))
  · ((repeat (refine C.seq ?_)); apply C.drawlw (rb s) 1 10 10 [none, none, none, some _, some _, none, none, none, none, none])
    (repeat (first | intro (b : Nat) | refine gg ?_))
    rename_i bq
    (refine G.lcalld [(b, .cells 9 [.string ⟨#[116]⟩, .string ⟨#[32]⟩, .string ⟨#[95]⟩, .string ⟨#[]⟩])] (h := by intro p F W hlo hhi hW; exact d_of _ _ s r _ hc (by omega) (by omega) b 4 60 _ rfl (by omega) (List.mem_append_left _ (List.mem_append_left _ (List.Mem.head _))) (by repeat (first | exact AllS.nil | (refine AllS.cons (by decide) ?_))) W hW) (k := ?_); intro v hR)
    obtain ⟨u, rfl, hu⟩ := hR
    (repeat (first | intro (b : Nat) | refine gg ?_))
    intro p2 hq1 hq2
    (repeat (first | intro (b : Nat) | refine go ?_))
    (refine retl ?_)
    exact ⟨_, rfl, by simp only [ByteArray.size_append, ByteArray.size_extract]; omega⟩
  · (refine L.lcall (bs := rb s) (h := by intro W hW; exact d_of _ _ s r _ hc (by omega) (by omega) _ 3 60 _ rfl (by omega) (List.Mem.head _) (by repeat (first | exact AllS.nil | (refine AllS.cons (by decide) ?_))) W hW) (k := ?_); intro v p1 hR hp1 hp2)
    obtain ⟨u, rfl, hu⟩ := hR
    (repeat (first | intro (b : Nat) | refine go ?_))
    (refine retl ?_)
    exact ⟨_, rfl, by simp only [ByteArray.size_append]; omega⟩
  · (refine L.lcall (bs := rb s) (h := by intro W hW; exact d_of _ _ s r _ hc (by omega) (by omega) _ 8 60 _ rfl (by omega) (List.Mem.head _) (by repeat (first | exact AllS.nil | (refine AllS.cons (by decide) ?_))) W hW) (k := ?_); intro v p1 hR hp1 hp2)
    obtain ⟨u, rfl, hu⟩ := hR
    (repeat (first | intro (b : Nat) | refine go ?_))
    (refine retl ?_)
    exact ⟨_, rfl, by omega⟩
  · (refine retl ?_)
    exact ⟨_, rfl, by omega⟩

theorem d_StampFromS (s0 : Value) (w : World) (hc0 : CodeAt w s0) (hb : D.Base w) : Calls Tryz.prog 12 #[s0] w (RetV w (StrIn 300)) := by
  refine enter Tryz.func12 rfl Tryz.ntmps12 rfl (by assumption) ?_
  (repeat (first | intro (b : Nat) | refine go ?_))
  (apply L.nw; (· exact rfl); (· exact rfl); (· apply ON.call; (· exact rfl); (intro W hW; exact d_open w s0 hc0 W hW.base)); intro v H hR)
  obtain ⟨r, s, rfl, rfl, hc⟩ := hR
  simp only [List.cons_append, List.nil_append]
  (repeat (first | intro (b : Nat) | refine go ?_))
  (refine L.lcall (bs := rb s) (h := by intro W hW; exact d_StampTextT _ _ _ _ _ hc (by omega) (by omega) W hW) (k := ?_); intro v p1 hR hp1 hp2)
  obtain ⟨t, rfl, ht⟩ := hR
  (repeat (first | intro (b : Nat) | refine go ?_))
  (refine retw ?_)
  exact ⟨t, rfl, by omega⟩

theorem d_StampTidyS (s0 : Value) (w : World) (hc0 : CodeAt w s0) (hb : D.Base w) : Calls Tryz.prog 21 #[s0] w (RetV w (StrIn 300)) := by
  refine enter Tryz.func21 rfl Tryz.ntmps21 rfl (by assumption) ?_
  (repeat (first | intro (b : Nat) | refine go ?_))
  (apply L.nw; (· exact rfl); (· exact rfl); (· apply ON.call; (· exact rfl); (intro W hW; exact d_open w s0 hc0 W hW.base)); intro v H hR)
  obtain ⟨r, s, rfl, rfl, hc⟩ := hR
  simp only [List.cons_append, List.nil_append]
  (repeat (first | intro (b : Nat) | refine go ?_))
  (refine L.lcall (bs := rb s) (h := by intro W hW; exact d_StampTextT _ _ _ _ _ hc (by omega) (by omega) W hW) (k := ?_); intro v p1 hR hp1 hp2)
  obtain ⟨t, rfl, ht⟩ := hR
  (repeat (first | intro (b : Nat) | refine go ?_))
  (refine retw ?_)
  exact ⟨t, rfl, by omega⟩

theorem d_StampTextA (s0 : Value) (w : World) (hc0 : CodeAt w s0) (hb : D.Base w) : Calls Tryz.prog 15 #[s0] w (RetV w SomeStamp) := by
  refine enter Tryz.func15 rfl Tryz.ntmps15 rfl (by assumption) ?_
  (repeat (first | intro (b : Nat) | refine go ?_))
  (apply L.nw; (· exact rfl); (· exact rfl); (· apply ON.call; (· exact rfl); (intro W hW; exact d_open w s0 hc0 W hW.base)); intro v H hR)
  obtain ⟨r, s, rfl, rfl, hc⟩ := hR
  simp only [List.cons_append, List.nil_append]
  (repeat (first | intro (b : Nat) | refine go ?_))
  (refine L.lcall (bs := rb s) (h := by intro W hW; exact d_stamp _ _ _ _ _ hc (by omega) (by omega) W hW) (k := ?_); intro v p1 hR hp1 hp2)
  obtain ⟨y, m, d, h, i, s', k, o, rfl⟩ := hR
  (repeat (first | intro (b : Nat) | refine go ?_))
  (refine retw ?_)
  exact ⟨_, _, _, _, _, _, _, _, rfl⟩

end D
end Go.Proofs.YtdafjaimljhcaaaGreatDoor
