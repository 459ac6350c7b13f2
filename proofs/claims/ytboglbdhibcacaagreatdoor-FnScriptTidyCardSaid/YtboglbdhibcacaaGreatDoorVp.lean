/- Walks: strings.Split at a separator of one byte; rows of texts. -/
import Derived.Test.YtboglbdhibcacaaGreatDoorVe
import Derived.Test.YtboglbdhibcacaaGreatDoorVEI
import Derived.Lib.Bytealg
import Derived.Test.YtboglbdhibcacaaGreatDoorVc
import Derived.Lib.Builder
import Derived.LaidEqlPtr
namespace Go.Proofs.YtboglbdhibcacaaGreatDoor
set_option linter.unusedVariables false
set_option linter.unusedSimpArgs false
set_option maxRecDepth 100000
set_option maxHeartbeats 2000000
namespace D
open Go.RowKit
open Go.PlainAid (bt bt_nonneg bt_le bt_end)
attribute [local irreducible] Calls

abbrev sE : El ByteArray := ⟨9, 1, fun s => [.string s], ⟨#[]⟩, fun _ => rfl, fun s u hu => by
  rw [List.mem_singleton] at hu
  subst hu
  rfl⟩

theorem getD_memS {Ts : List ByteArray} {i : Nat} (h : i < Ts.length) : Ts.getD i ⟨#[]⟩ ∈ Ts := by
  rw [List.getD_eq_getElem?_getD, List.getElem?_eq_getElem h]
  exact List.getElem_mem h
theorem take_snocS {Ts : List ByteArray} {i : Nat} (h : i < Ts.length) : Ts.take (i + 1) = Ts.take i ++ [Ts.getD i ⟨#[]⟩] := by
  rw [List.take_add_one, List.getD_eq_getElem?_getD, List.getElem?_eq_getElem h]
  rfl
theorem rep_flatS (k : Nat) : rep k [.string ⟨#[]⟩] = flat sE.fc (List.replicate k ⟨#[]⟩) := by
  induction k with
  | zero => rfl
  | succ k ih => rw [rep, ih, List.replicate_succ]; rfl
theorem wrS (M : List ByteArray) (pad : List Value) (k : Nat) (x : ByteArray) (hk : k < M.length) : Wr (0 + ((k : Int)).toNat * 1) [.string x] (flat sE.fc M ++ pad) (flat sE.fc (M.set k x) ++ pad) := by
  have := wr_flat sE M pad k x hk
  rw [Nat.zero_add, show ((k : Int)).toNat = k by omega]
  exact this
theorem set_repS (M : List ByteArray) (n : Nat) (x : ByteArray) (h : M.length < n) : (M ++ List.replicate (n - M.length) (⟨#[]⟩ : ByteArray)).set M.length x = (M ++ [x]) ++ List.replicate (n - (M ++ [x]).length) ⟨#[]⟩ := by
  rw [show n - M.length = (n - (M ++ [x]).length) + 1 by rw [List.length_append, List.length_singleton]; omega, List.replicate_succ, List.set_append_right _ _ (Nat.le_refl _), Nat.sub_self]
  simp

/-! ### The first place of a byte -/
theorem get_c {s : ByteArray} {c : Int} (h0 : 0 ≤ c) (h1 : c < 256) {i : Nat} (h : i < s.size) : (s[i]! == c.toNat.toUInt8) = true ↔ bt s i = c := by
  have e : s[i]! = s[i]'h := by simp [getElem!_def, h]
  have e2 : (c.toNat.toUInt8).toNat = c.toNat := by rw [Nat.toUInt8, UInt8.toNat_ofNat']; omega
  rw [e, ← Go.PlainAid.get_bt s i h, beq_iff_eq]
  constructor
  · intro hh; rw [hh, e2]; omega
  · intro hh
    apply UInt8.toNat_inj.1
    rw [e2]
    omega
theorem firstIdx_c {c : Int} (h0 : 0 ≤ c) (h1 : c < 256) (s : ByteArray) : (∃ j, j < s.size ∧ bt s j = c ∧ (∀ i, i < j → ¬ bt s i = c) ∧ firstIdx s c.toNat.toUInt8 = (j : Int)) ∨ ((∀ j, j < s.size → ¬ bt s j = c) ∧ firstIdx s c.toNat.toUInt8 = -1) := by
  unfold firstIdx
  cases hf : (List.range s.size).find? fun i => s[i]! == c.toNat.toUInt8 with
  | some i =>
    obtain ⟨h2, h3, h4⟩ := List.find?_range_eq_some.1 hf
    have h5 := List.mem_range.1 h3
    refine .inl ⟨i, h5, (get_c h0 h1 h5).1 h2, fun k hk hb => ?_, rfl⟩
    have := h4 k hk
    rw [(get_c h0 h1 (by omega)).2 hb] at this
    cases this
  | none =>
    have h1' := List.find?_eq_none.1 hf
    exact .inr ⟨fun j hj hb => h1' j (List.mem_range.2 hj) ((get_c h0 h1 hj).2 hb), rfl⟩
theorem cnt_c {c : Int} (h0 : 0 ≤ c) (h1 : c < 256) (s : ByteArray) : ∀ f, f ≤ s.size → (s.data.toList.drop (s.size - f)).count c.toNat.toUInt8 = cntB' c s f
  | 0, _ => by
    rw [Nat.sub_zero, List.drop_of_length_le (by simp)]
    rfl
  | f + 1, hf => by
    have h : s.size - (f + 1) < s.size := by omega
    have hl : s.size - (f + 1) < s.data.toList.length := by simpa using h
    have e2 : s.size - (f + 1) + 1 = s.size - f := by omega
    have e3 : s.data.toList[s.size - (f + 1)] = s[s.size - (f + 1)]'h := rfl
    have e4 : s[s.size - (f + 1)]! = s[s.size - (f + 1)]'h := by simp [getElem!_def, h]
    have g := get_c h0 h1 h
    rw [e4] at g
    rw [List.drop_eq_getElem_cons hl, e2, List.count_cons, cnt_c h0 h1 s f (by omega), e3]
    rw [show cntB' c s (f + 1) = (if bt s (s.size - (f + 1)) = c then 1 else 0) + cntB' c s f from rfl]
    by_cases hb : bt s (s.size - (f + 1)) = c
    · rw [if_pos (g.2 hb), if_pos hb]; omega
    · rw [if_neg (fun h => hb (g.1 h)), if_neg hb]; omega
theorem countByte_c {c : Int} (h0 : 0 ≤ c) (h1 : c < 256) (s : ByteArray) : Go.Lib.countByte s.data.toList c.toNat.toUInt8 = cntB' c s s.size := by
  have := cnt_c h0 h1 s s.size (Nat.le_refl _)
  rwa [Nat.sub_self, List.drop_zero] at this
theorem cntB_le (c : Int) (s : ByteArray) : ∀ f, cntB' c s f ≤ f
  | 0 => Nat.le_refl _
  | f + 1 => by
    unfold cntB'
    have := cntB_le c s f
    split <;> omega

/-! ### The library's walks -/
theorem a_IndexByteC (s : ByteArray) (c : Int) (w : World) : (callFunc 196 #[.string s, .int .u8 c]).run Tryz.prog w = .ok (.value (.int .i64 (firstIdx s c.toNat.toUInt8))) w := by
  rw [run_callFunc_extern (fn := Tryz.f196) (e := Extern.BytealgIndexByte.indexByte) (by kernel_rfl) (by kernel_rfl) (by kernel_rfl) (by kernel_rfl) (by kernel_rfl), run_indexByte_string]
  rfl

theorem a_CountString (s : ByteArray) (c : Int) (w : World) : (callFunc 97 #[.string s, .int .u8 c]).run Tryz.prog w = .ok (.value (.int .i64 (Go.Lib.countByte s.data.toList c.toNat.toUInt8))) w := by
  rw [run_callFunc_extern (fn := Tryz.f97) (e := Extern.BytealgCount.count) (by kernel_rfl) (by kernel_rfl) (by kernel_rfl) (by kernel_rfl) (by kernel_rfl), Go.Lib.run_countString]
  rfl

theorem a_IndexByteL (s : ByteArray) (c : Int) (w : World) (hb : D.Base w) : Calls Tryz.prog 153 #[.string s, .int .u8 c] w fun e w' => e = .returned (.int .i64 (firstIdx s c.toNat.toUInt8)) ∧ Below w.heap.size w w' := by
  refine enter Tryz.func153 rfl Tryz.ntmps153 rfl (by assumption) ?_
  (repeat (first | intro (b : Nat) | refine go ?_))
  refine L.ext (h := fun w => a_IndexByteC s c w) (k := ?_)
  (repeat (first | intro (b : Nat) | refine go ?_))
  (refine ret ?_; try exact rfl)

theorem a_IndexL (s sep : ByteArray) (c : Int) (h0 : 0 ≤ c) (h9 : c < 256) (h1 : sep.size = 1) (hc : bt sep (Int.toNat 0) = c) (w : World) (hb : D.Base w) : Calls Tryz.prog 98 #[.string s, .string sep] w fun e w' => e = .returned (.int .i64 (firstIdx s c.toNat.toUInt8)) ∧ Below w.heap.size w w' := by
  have hI := a_IndexByteL s c
  have hz : sep = s → firstIdx s c.toNat.toUInt8 = 0 := fun e => by
    subst e
    rcases firstIdx_c h0 h9 sep with ⟨j, h2, h3, h4, h5⟩ | ⟨h2, h3⟩
    · rw [h5]; omega
    · exact absurd hc (h2 0 (by omega))
  rw [← hc] at hI hz ⊢
  generalize firstIdx s (bt sep (Int.toNat 0)).toNat.toUInt8 = N at *
  refine enter Tryz.func98 rfl Tryz.ntmps98 rfl (by assumption) ?_
  (repeat' (first | intro (b : Nat) | refine go ?_ | (refine br ?_ ?_ <;> first | exact trivial | intro hq) | refine L.call (h := by intro W hW; apply hI W hW.base) (k := ?_)))
  all_goals (refine ret ?_; try exact rfl)
  rw [hz hq]
  rfl

theorem a_IndexS (s sep : ByteArray) (c : Int) (h0 : 0 ≤ c) (h9 : c < 256) (h1 : sep.size = 1) (hc : bt sep (Int.toNat 0) = c) (w : World) (hb : D.Base w) : Calls Tryz.prog 58 #[.string s, .string sep] w fun e w' => e = .returned (.int .i64 (firstIdx s c.toNat.toUInt8)) ∧ Below w.heap.size w w' := by
  have hI := a_IndexL s sep c h0 h9 h1 hc
  generalize firstIdx s c.toNat.toUInt8 = N at *
  refine enter Tryz.func58 rfl Tryz.ntmps58 rfl (by assumption) ?_
  (repeat' (first | intro (b : Nat) | refine go ?_ | (refine br ?_ ?_ <;> first | exact trivial | intro hq) | refine L.call (h := by intro W hW; apply hI W hW.base) (k := ?_)))
  all_goals (refine ret ?_; try exact rfl)

theorem a_Count (s sep : ByteArray) (c : Int) (h0 : 0 ≤ c) (h9 : c < 256) (h1 : sep.size = 1) (hc : bt sep (Int.toNat 0) = c) (w : World) (hb : D.Base w) : Calls Tryz.prog 57 #[.string s, .string sep] w fun e w' => e = .returned (.int .i64 ((cntB' c s s.size : Nat) : Int)) ∧ Below w.heap.size w w' := by
  have hI := a_CountString s c
  rw [countByte_c h0 h9] at hI
  generalize cntB' c s s.size = N at *
  rw [← hc] at hI
  refine enter Tryz.func57 rfl Tryz.ntmps57 rfl (by assumption) ?_
  (repeat' (first | intro (b : Nat) | refine go ?_ | (refine br ?_ ?_ <;> first | exact trivial | intro hq)))
  refine L.ext (h := fun w => hI w) (k := ?_)
  (repeat' (first | intro (b : Nat) | refine go ?_ | (refine br ?_ ?_ <;> first | exact trivial | intro hq)))
  (refine ret ?_; try exact rfl)

/-- One step of the split. -/
theorem spl_step {c : Int} {s : ByteArray} {p : Nat} (h0 : 0 ≤ c) (h9 : c < 256) (hp : p ≤ s.size) : (∃ j, p + j < s.size ∧ firstIdx (s.extract p s.size) c.toNat.toUInt8 = (j : Int) ∧ cutB c s (s.size - p) p = s.extract p (p + j) :: cutB c s (s.size - (p + j + 1)) (p + j + 1)) ∨ (firstIdx (s.extract p s.size) c.toNat.toUInt8 = -1 ∧ cutB c s (s.size - p) p = [s.extract p s.size]) := by
  have hz := size_ext (s := s) (a := p) (Nat.le_refl _)
  rcases firstIdx_c h0 h9 (s.extract p s.size) with ⟨j, h2, h3, h4, h5⟩ | ⟨h2, h3⟩
  · rw [hz] at h2
    refine .inl ⟨j, by omega, h5, ?_⟩
    rw [bt_extract (Nat.le_refl _) (by omega)] at h3
    refine cutB_first (by omega) (by omega) h3 fun i h6 h7 => ?_
    have := h4 (i - p) (by omega)
    rwa [bt_extract (Nat.le_refl _) (by omega), show p + (i - p) = i by omega] at this
  · rw [hz] at h2
    refine .inr ⟨h3, cutB_none hp fun i h6 h7 => ?_⟩
    have := h2 (i - p) (by omega)
    rwa [bt_extract (Nat.le_refl _) (by omega), show p + (i - p) = i by omega] at this
theorem splL_len (c : Int) (s : ByteArray) : (splL c s).length = cntB' c s s.size + 1 := cutB_len c s _ _

theorem a_genSplit (s sep : ByteArray) (c : Int) (h0 : 0 ≤ c) (h9 : c < 256) (hs : s.size ≤ 1000000) (h1 : sep.size = 1) (hc : bt sep (Int.toNat 0) = c) (w : World) (hb : D.Base w) : Calls Tryz.prog 32 #[.string s, .string sep, .int .i64 0, .int .i64 (-1)] w (Ret w (sE.S (splL c s))) := by
  have hC := a_Count s sep c h0 h9 h1 hc
  have hI := fun t => a_IndexS t sep c h0 h9 h1 hc
  have hs0 : s.extract 0 s.size = s := by simp
  have hlen := splL_len c s
  have hle := cntB_le c s s.size
  have hn : ∀ t : ByteArray, t.size = 0 → ¬ sep = t := fun t h e => by rw [e] at h1; omega
  generalize cntB' c s s.size = N at *
  refine enter Tryz.func32 rfl Tryz.ntmps32 rfl (by assumption) ?_
  (repeat' (first | intro (b : Nat) | refine go ?_ | (refine br ?_ ?_ <;> first | exact trivial | intro hq)))
  · exact absurd hq (hn _ rfl)
  · (refine L.call (h := by intro W hW; exact hC W hW.base) (k := ?_))
    (repeat' (first | intro (b : Nat) | refine go ?_ | (refine br ?_ ?_ <;> first | exact trivial | intro hq)))
    rw [show min ((N : Int) + 1) ((s.size : Int) + 1) = (N : Int) + 1 by omega]
    refine C.loopw (Y := Nat × List ByteArray) (fun k => [(0, .string (s.extract k.1 s.size)), (1, .string sep), (2, .int .i64 0), (3, .int .i64 (N : Int)), (9, .slice (some ⟨b, 0, none⟩) (N + 1) (N + 1)), (10, .int .i64 (k.2.length : Int))]) (fun k => [(b, sE.blk (k.2 ++ List.replicate (N + 1 - k.2.length) ⟨#[]⟩) [])]) (fun k => k.1 ≤ s.size ∧ k.2 ++ cutB c s (s.size - k.1) k.1 = splL c s) (fun k => s.size - k.1) (0, []) ⟨Nat.zero_le _, by rw [List.nil_append]; rfl⟩ (h1 := .cons rfl (congrArg Value.string hs0.symm) (by (repeat (first | exact Sub.nil | (apply Sub.cons; exact rfl; (· first | with_reducible rfl | exact congrArg (Value.int IntKind.i64) (by omega) | rfl)))))) (h2 := .cons (by simp only [List.nil_append, List.length_nil, Nat.sub_zero, List.append_nil]; exact rep_flatS _) .nil) (fun k hy => ?_)
    generalize k.1 = p at *
    generalize k.2 = M at *
    obtain ⟨hp, hM⟩ := hy
    have hz := size_ext (s := s) (a := p) (Nat.le_refl _)
    have hcl := cutB_len c s (s.size - p) p
    have hml : M.length ≤ N := by
      have := congrArg List.length hM
      rw [List.length_append] at this
      omega
    have hI' := hI (s.extract p s.size)
    rcases spl_step h0 h9 hp with ⟨j, hj, hf, hcut⟩ | ⟨hf, hcut⟩
    · rw [hf] at hI'
      have hlt : M.length < N := by
        have := congrArg List.length hM
        have h3 := cutB_len c s (s.size - (p + j + 1)) (p + j + 1)
        rw [hcut, List.length_append, List.length_cons] at this
        omega
      have hW' : Wr (0 + ((M.length : Int)).toNat * 1) [.string (s.extract p (p + j))] (flat sE.fc (M ++ List.replicate (N + 1 - M.length) ⟨#[]⟩) ++ []) (flat sE.fc ((M ++ [s.extract p (p + j)]) ++ List.replicate (N + 1 - (M ++ [s.extract p (p + j)]).length) ⟨#[]⟩) ++ []) := by
        have := wrS (M ++ List.replicate (N + 1 - M.length) ⟨#[]⟩) [] M.length (s.extract p (p + j)) (by simp; omega)
        rwa [set_repS _ _ _ (by omega)] at this
      (repeat' (first | intro (b : Nat) | refine go ?_ | (refine br ?_ ?_ <;> first | exact trivial | intro hq)))
      (refine L.call (h := by intro W hW; exact hI' W hW.base) (k := ?_))
      (repeat' (first | intro (b : Nat) | refine go ?_ | (refine br ?_ ?_ <;> first | exact trivial | intro hq)))
      rw [show (s.extract p s.size).extract 0 ((j : Int) + 0).toNat = s.extract p (p + j) by rw [show ((j : Int) + 0).toNat = j by omega]; exact ext_ext (Nat.le_refl _) (by omega)]
      (apply L.s; (· exact rfl); (· exact rfl); (· apply OS.store1 (vs' := flat sE.fc ((M ++ [s.extract p (p + j)]) ++ List.replicate (N + 1 - (M ++ [s.extract p (p + j)]).length) ⟨#[]⟩) ++ []); (· exact rfl); (· exact rfl); (· exact rfl); (· (repeat (first | exact Upd.here | apply Upd.there))); (· exact hW')))
      (repeat' (first | intro (b : Nat) | refine go ?_ | (refine br ?_ ?_ <;> first | exact trivial | intro hq)))
      rw [show (s.extract p s.size).extract ((j : Int) + (sep.size : Int)).toNat (s.extract p s.size).size = s.extract (p + j + 1) s.size by rw [h1, hz, show ((j : Int) + ((1 : Nat) : Int)).toNat = j + 1 by omega]; exact ext_ext2 (Nat.le_refl _) (by omega)]
      (refine X.roundw (p + j + 1, M ++ [s.extract p (p + j)]) ⟨by show p + j + 1 ≤ s.size; omega, by show (M ++ [s.extract p (p + j)]) ++ cutB c s (s.size - (p + j + 1)) (p + j + 1) = splL c s; rw [List.append_assoc, List.singleton_append, ← hcut]; exact hM⟩ (by show s.size - (p + j + 1) < s.size - p; omega) (h3 := .cons rfl rfl (.cons rfl rfl (.cons rfl rfl (.cons rfl rfl (.cons rfl rfl (.cons rfl (congrArg (Value.int IntKind.i64) (by simp)) .nil)))))))
    · rw [hf] at hI'
      have hlt : M.length = N := by
        have := congrArg List.length hM
        rw [hcut, List.length_append, List.length_singleton] at this
        omega
      have hW' : Wr (0 + ((M.length : Int)).toNat * 1) [.string (s.extract p s.size)] (flat sE.fc (M ++ List.replicate (N + 1 - M.length) ⟨#[]⟩) ++ []) (flat sE.fc (splL c s) ++ []) := by
        have := wrS (M ++ List.replicate (N + 1 - M.length) ⟨#[]⟩) [] M.length (s.extract p s.size) (by simp; omega)
        have e : (M ++ [s.extract p s.size]) ++ List.replicate (N + 1 - (M ++ [s.extract p s.size]).length) ⟨#[]⟩ = splL c s := by
          rw [show N + 1 - (M ++ [s.extract p s.size]).length = 0 by simp; omega, List.replicate_zero, List.append_nil]
          rw [hcut] at hM
          exact hM
        rwa [set_repS _ _ _ (by omega), e] at this
      (repeat' (first | intro (b : Nat) | refine go ?_ | (refine br ?_ ?_ <;> first | exact trivial | intro hq)))
      (apply L.s; (· exact rfl); (· exact rfl); (· apply OS.store1 (vs' := flat sE.fc (splL c s) ++ []); (· exact rfl); (· exact rfl); (· exact rfl); (· (repeat (first | exact Upd.here | apply Upd.there))); (· exact hW')))
      (repeat' (first | intro (b : Nat) | refine go ?_ | (refine br ?_ ?_ <;> first | exact trivial | intro hq)))
      (refine L.p rfl rfl (PV.slh rfl rfl (by omega) (by omega)) ?_)
      (repeat' (first | intro (b : Nat) | refine go ?_ | (refine br ?_ ?_ <;> first | exact trivial | intro hq)))
      rw [show ((M.length : Int) + 1).toNat = (splL c s).length by omega]
      (apply X.retr [(b, sE.blk (splL c s) [])]; (· exact rfl); (· (repeat (first | exact RVs.nil | (apply RVs.cons; (· first | exact RV.tmp rfl | (apply RV.cellk; exact rfl; (· (repeat (first | exact List.Mem.head _ | apply List.Mem.tail))); (· (repeat (first | exact Rd.nil | apply Rd.take | apply Rd.skip)))) | (apply RV.cell1; exact rfl; (· (repeat (first | exact List.Mem.head _ | apply List.Mem.tail))); (· (repeat (first | exact Rd.nil | apply Rd.take | apply Rd.skip))))))))); (· (repeat (first | exact SubH.nil | (apply SubH.cons; (· first | with_reducible rfl | (simp only [List.cons.injEq, Value.int.injEq, and_true, true_and] <;> omega) | rfl)) | apply SubH.skip | exact SubH.refl))))
      exact ⟨b, N + 1, [], rfl, rfl, by omega, by omega, by simp [flat_length sE.len]; omega⟩

theorem a_Split (s sep : ByteArray) (c : Int) (h0 : 0 ≤ c) (h9 : c < 256) (hs : s.size ≤ 1000000) (h1 : sep.size = 1) (hc : bt sep (Int.toNat 0) = c) (w : World) (hb : D.Base w) : Calls Tryz.prog 21 #[.string s, .string sep] w (Ret w (sE.S (splL c s))) := by
  have hI := a_genSplit s sep c h0 h9 hs h1 hc
  refine enter Tryz.func21 rfl Tryz.ntmps21 rfl (by assumption) ?_
  (repeat' (first | intro (b : Nat) | refine go ?_ | (refine br ?_ ?_ <;> first | exact trivial | intro hq)))
  (refine L.ncall (h := by intro W hW; exact hI W hW.base) (k := ?_); intro v H hR)
  obtain ⟨b, n, pad, rfl, rfl, hS⟩ := hR
  (repeat' (first | intro (b : Nat) | refine go ?_ | (refine br ?_ ?_ <;> first | exact trivial | intro hq)))
  (apply X.retr [(b, sE.blk (splL c s) pad)]; (· exact rfl); (· (repeat (first | exact RVs.nil | (apply RVs.cons; (· first | exact RV.tmp rfl | (apply RV.cellk; exact rfl; (· (repeat (first | exact List.Mem.head _ | apply List.Mem.tail))); (· (repeat (first | exact Rd.nil | apply Rd.take | apply Rd.skip)))) | (apply RV.cell1; exact rfl; (· (repeat (first | exact List.Mem.head _ | apply List.Mem.tail))); (· (repeat (first | exact Rd.nil | apply Rd.take | apply Rd.skip))))))))); (· (repeat (first | exact SubH.nil | (apply SubH.cons; (· first | with_reducible rfl | (simp only [List.cons.injEq, Value.int.injEq, and_true, true_and] <;> omega) | rfl)) | apply SubH.skip | exact SubH.refl))))
  exact ⟨b, n, pad, rfl, rfl, hS⟩

end D
end Go.Proofs.YtboglbdhibcacaaGreatDoor

namespace Go.Proofs.YtboglbdhibcacaaGreatDoor
set_option linter.unusedVariables false
set_option linter.unusedSimpArgs false
set_option maxRecDepth 100000
set_option maxHeartbeats 2000000
namespace D
open Go.RowKit
open Go.Lib (strCells strCells_length run_unsafeString_row run_unsafeSliceData_row below_freeze)
attribute [local irreducible] Calls

section
variable {P : Program} {e : Env} {w0 : World} {hs : SH} {d : Option Tmp} {ty : TypeId} {pos : String} {af : Array Edge} {g : Option (Nat × Bool)}
variable {n : Nat} {ds : List Deferred} {ops : List Oper} {Q : Exit → Act → World → Prop} {l : List Oper}
class PtT (P : Program) (t : TypeId) : Prop where
  ok : ∃ te j, P.underlying t = some (.pointer te) ∧ P.info? te = some j ∧ j.size ≠ 0
theorem PtT.of {t te k : Nat} (hu : P.underlying t = some (.pointer te)) (hi : (P.info? te).map (·.size) = some k) (hk : k ≠ 0) : PtT P t := by
  cases hq : P.info? te with
  | none => simp [hq] at hi
  | some j =>
    refine ⟨te, j, hu, hq, ?_⟩
    simp only [hq, Option.map_some, Option.some.injEq] at hi
    omega
theorem eqGuard_ptrs (op : BinOp) (t : TypeId) (x y : Operand) (a b : Option Addr) (w : World) : (eqGuard op t x y (.pointer a) (.pointer b)).run P w = .ok () w := by
  cases op <;> simp [eqGuard]
theorem run_eqP0 {t : TypeId} [i : PtT P t] (a : Option Addr) (w : World) : (Op.equal t (.pointer a) (.pointer none)).run P w = .ok a.isNone w := by
  obtain ⟨te, j, hu, _, _⟩ := i.ok
  have h : ∀ k : Nat, (Op.equalIn (k + 1) t (.pointer a) (.pointer none)).run P w = .ok a.isNone w := fun k => by
    cases a <;> simp [Op.equalIn, run_underlying hu]
  simp [Op.equal, Op.maxDepth, h 9999]
theorem PV.eqlP0 {x y : Operand} {a : Option Addr} {xt yt : TypeId} [i : PtT P xt] (hx : ev e x = some (.pointer a)) (hy : ev e y = some (.pointer none)) : PV P ⟨d, .binOp .eql xt x y yt, ty, pos, af, g⟩ e (.bool a.isNone) :=
  .bin hx hy (eqGuard_ptrs _ _ _ _ _ _) fun w => by simp [binOp, run_eqP0]
theorem eql_neq {t : TypeId} {a b : Option Addr} {c : Bool} {w : World} (h : (binOp .eql t (.pointer a) (.pointer b)).run P w = .ok (.bool c) w) : (binOp .neq t (.pointer a) (.pointer b)).run P w = .ok (.bool (!c)) w := by
  simp only [binOp, Sem.run_bind] at h ⊢
  generalize (Op.equal t (.pointer a) (.pointer b)).run P w = r at h ⊢
  cases r with
  | ok v w' =>
    simp only [Result.andThen_ok] at h ⊢
    have h1 : (pure (Value.bool v) : Sem Value).run P w' = .ok (.bool v) w' := rfl
    rw [h1] at h
    simp only [Result.ok.injEq, Value.bool.injEq] at h
    obtain ⟨rfl, rfl⟩ := h
    rfl
  | halt x w' => simp [Result.andThen] at h
theorem PV.neqPs {x y : Operand} {a : Addr} {xt yt : TypeId} [i : PtT P xt] (hx : ev e x = some (.pointer (some a))) (hy : ev e y = some (.pointer (some a))) : PV P ⟨d, .binOp .neq xt x y yt, ty, pos, af, g⟩ e (.bool false) := by
  obtain ⟨te, j, hu, hj, _⟩ := i.ok
  exact .bin hx hy (eqGuard_ptrs _ _ _ _ _ _) fun w => eql_neq (run_eql_ptr_same w a hu hj)
theorem rettRq {fn : Func} {rs : List ResultVar} {vs : List Value} {R : Value → SH → Prop} (H : SH) (hR : R (tupleOf vs) H) (hrs : fn.results = rs.toArray := by exact rfl) (h : RVs P n [] w0 e hs rs vs := by (repeat (first | exact RVs.nil | (apply RVs.cons; (· first | exact RV.tmp rfl | (apply RV.cellk; exact rfl; (· (repeat (first | exact List.Mem.head _ | apply List.Mem.tail))); (· (repeat (first | exact Rd.nil | apply Rd.take | apply Rd.skip)))) | (apply RV.cell1; exact rfl; (· (repeat (first | exact List.Mem.head _ | apply List.Mem.tail))); (· (repeat (first | exact Rd.nil | apply Rd.take | apply Rd.skip)))))))))
    (hs' : H.Sublist hs := by (repeat (first | exact List.Sublist.refl _ | apply List.Sublist.cons_cons | apply List.Sublist.cons))) : X n [] w0 (bodyPost P fn (TurnsR w0 R)) .normal e hs :=
  X.bodyN rfl hrs h fun w hst => ⟨_, _, rfl, hR, hst.sub hs'⟩
theorem info_some {t k : Nat} (h : (P.info? t).map (·.size) = some k) : ∃ j, P.info? t = some j := by
  cases hq : P.info? t with
  | none => simp [hq] at h
  | some j => exact ⟨j, rfl⟩
/-- A pointer to a block's head, as unsafe.Pointer and back. -/
theorem OV.toUns {src dst : TypeId} {x : Operand} {b T : Nat} {us : List Value} [i : PtT P src] (hd : P.underlying dst = some .unsafePointer) (hx : ev e x = some (.pointer (some ⟨b, 0, none⟩))) (hm : (b, Blk.cells T us) ∈ hs) (hus : 0 < us.length) :
    OV P ⟨d, .convert src dst x, ty, pos, af, g⟩ e w0 hs (.pointer (some ⟨b, 0, none⟩)) := .mk fun ρ w hf hst => by
  obtain ⟨te, j, hu, hj, hz⟩ := i.ok
  have hh := hst.heap hm
  refine .of_value (w' := w) ?_ ⟨rfl, .refl _⟩
  have := Go.Lib.run_to_unsafe (P := P) (w := w) (e := T) (cells := us.length) ⟨b, 0, none⟩ hu hd hj hz (by simp [World.shape?, hh]) hus
  simp [execOp, hf x _ hx, this]
theorem OV.fromUns {src dst u k : TypeId} {x : Operand} {b T : Nat} {us : List Value} (hs' : P.underlying src = some .unsafePointer) (hd : P.underlying dst = some (.pointer u)) (hu : (P.info? u).map (·.size) = some k) (hx : ev e x = some (.pointer (some ⟨b, 0, none⟩))) (hm : (b, Blk.cells T us) ∈ hs)
    (hl : liesAt P P.depth T (us.length / P.cellsOf T) 0 u 1 = true) : OV P ⟨d, .convert src dst x, ty, pos, af, g⟩ e w0 hs (.pointer (some ⟨b, 0, none⟩)) := .mk fun ρ w hf hst => by
  obtain ⟨j, hj⟩ := info_some hu
  have hh := hst.heap hm
  refine .of_value (w' := w) ?_ ⟨rfl, .refl _⟩
  have := Go.Lib.run_from_unsafe (P := P) (w := w) (e := T) (cells := us.length) ⟨b, 0, none⟩ hs' hd hj (by simp [World.shape?, hh]) hl
  simp [execOp, hf x _ hx, this]
theorem PV.sliceData {t : TypeId} {xs : List Operand} {a : Addr} {m c : Nat} (hv : evs e xs = some [.slice (some a) m c]) (hc : c ≠ 0) : PV P ⟨d, .call ⟨.builtin .unsafeSliceData, xs.toArray, #[t]⟩, ty, pos, af, g⟩ e (.pointer (some a)) := .builtin hv fun cs w => by
  have := run_unsafeSliceData_row (P := P) w #[t] ty a m c hc
  simp [Go.builtin, this]
theorem OV.sliceData {t : TypeId} {xs : List Operand} {a : Addr} {m c : Nat} (hv : evs e xs = some [.slice (some a) m c]) (hc : c ≠ 0) : OV P ⟨d, .call ⟨.builtin .unsafeSliceData, xs.toArray, #[t]⟩, ty, pos, af, g⟩ e w0 hs (.pointer (some a)) := .mk fun ρ w hf hst =>
  .of_value (w' := w) ((PV.sliceData (P := P) (ty := ty) (pos := pos) (af := af) (g := g) (d := d) hv hc).ok ρ hf w) ⟨rfl, .refl _⟩
theorem St.freeze {w : World} {b T : Nat} {us : List Value} {F : SH} (hst : St w0 ((b, .cells T us) :: F) w) (k : Nat) : St w0 F (w.freeze ⟨b, 0, none⟩ k) := by
  have h1 := hst.sub (List.sublist_cons_self _ _)
  have hb := (hst.own _ (List.Mem.head _)).1
  refine ⟨h1.zero, below_freeze h1.low hb k, fun e he => ⟨(h1.own e he).1, ?_⟩, h1.dis⟩
  have hne : b ≠ e.1 := (List.pairwise_cons.1 hst.dis).1 e he
  have h2 := (h1.own e he).2
  unfold World.freeze
  split
  · exact h2
  · simp only [Array.getElem?_modify]
    rw [if_neg hne]
    exact h2
/-- A row of bytes is read as a text: it is given up. -/
theorem L.unsafeStr {pt it T b : Nat} {F : SH} {pad : List Value} {s : ByteArray} {xs : List Operand} (hp : P.underlying pt = some (.pointer T)) (hc : P.cellsOf T = 1)
    (hw : wantE ops e ⟨d, .call ⟨.builtin .unsafeString, xs.toArray, #[pt, it]⟩, ty, pos, af, g⟩ = some true := by exact rfl) (hd : dstOk n d = true := by exact rfl) (hv : evs e xs = some [.pointer (some ⟨b, 0, none⟩), .int .i64 (s.size : Int)] := by exact rfl)
    (hq : Pull (b, .cells T (strCells s ++ pad)) hs F := by (repeat (first | exact Pull.here | apply Pull.there))) (h0 : s.size ≠ 0) (h63 : s.size ≤ 1000000000000)
    (k : L P n ds w0 ops Q l (consE d (.string s) e) F) : L P n ds w0 ops Q (⟨d, .call ⟨.builtin .unsafeString, xs.toArray, #[pt, it]⟩, ty, pos, af, g⟩ :: l) e hs :=
  L.does (Y := Unit) (Φ := fun _ => True) (V := fun _ => .string s) (H := fun _ => F) hw hd (fun a w ha hst => by
    have hst' := hst.perm hq.perm
    have hm : (b, Blk.cells T (strCells s ++ pad)) ∈ (b, Blk.cells T (strCells s ++ pad)) :: F := List.Mem.head _
    have hh := hst'.heap hm
    have hl : s.data.toList.length = s.size := by simp
    have hr := run_unsafeString_row (P := P) w pt it ty T hp hc b (strCells s ++ pad).length (by simp [World.shape?, hh]) s.data.toList (fun h => h0 (by rw [← hl, h]; rfl)) (by rw [hl, List.length_append, strCells_length]; omega) (by rw [hl]; omega)
      (fun j x hj => by
        rw [add_plain, Nat.zero_add]
        refine hst'.cell hm ?_
        have hj2 : j < s.data.toList.length := (List.getElem?_eq_some_iff.1 hj).1
        rw [List.getElem?_append_left (by rw [strCells_length]; omega)]
        unfold strCells
        rw [List.getElem?_map, hj]
        rfl)
    rw [hl] at hr
    refine .of_value (run_builtin ha.fits hv (w' := w.freeze ⟨b, 0, none⟩ s.size) fun cs => ?_) ⟨(), trivial, rfl, hst'.freeze _⟩
    simp [builtin, hr]) fun _ _ => k
end

instance : PtT Tryz.prog 32 := .of (k := 2) Tryz.underlying32 (by kernel_rfl) (by decide)

/-- What the first cell of a builder holds. -/
abbrev bldP (u : Bool) (b : Nat) : Value := .pointer (if u then some ⟨b, 0, none⟩ else none)
abbrev bldB (u : Bool) (b : Nat) (v : Value) : Blk := .cells 34 [bldP u b, v]

theorem a_NoEscape (p : Value) (w : World) : (callFunc 59 #[p]).run Tryz.prog w = .ok (.value p) w := by
  rw [run_callFunc_extern (fn := Tryz.f59) (e := Extern.AbiNoEscape.same) (by kernel_rfl) (by kernel_rfl) (by kernel_rfl) (by kernel_rfl) (by kernel_rfl), Go.Lib.run_noEscape]
  rfl

theorem a_copyCheck0 (w0 : World) (F : SH) (b : Nat) (v : Value) (w : World) (hst : St w0 ((b, bldB false b v) :: F) w) :
    Calls Tryz.prog 33 #[.pointer (some ⟨b, 0, none⟩)] w (TurnsR w0 fun r H => r = .tuple #[] ∧ H = (b, bldB true b v) :: F) := by
  have e0 : bldB false b v = .cells 34 [.pointer none, v] := rfl
  have e1 : bldB true b v = .cells 34 [.pointer (some ⟨b, 0, none⟩), v] := rfl
  rw [e0] at hst
  rw [e1]
  refine enterl Tryz.func33 rfl Tryz.ntmps33 rfl hst ?_
  (repeat (first | intro (b : Nat) | refine go ?_))
  (refine L.v rfl rfl (OV.toUns Tryz.underlying77 rfl (List.Mem.head _) (Nat.zero_lt_succ _)) ?_)
  (refine L.ext (h := fun w => a_NoEscape _ w) (k := ?_))
  (refine L.v rfl rfl (OV.fromUns (k := 2) Tryz.underlying77 Tryz.underlying32 (by kernel_rfl) rfl (List.Mem.head _) (by kernel_rfl)) ?_)
  (repeat' (first | intro (b : Nat) | refine go ?_ | (refine br ?_ ?_ <;> first | exact trivial | intro hq)))
  (refine rettRq _ ⟨rfl, rfl⟩)

theorem a_copyCheck1 (w0 : World) (F : SH) (b : Nat) (v : Value) (w : World) (hst : St w0 ((b, bldB true b v) :: F) w) :
    Calls Tryz.prog 33 #[.pointer (some ⟨b, 0, none⟩)] w (TurnsR w0 fun r H => r = .tuple #[] ∧ H = (b, bldB true b v) :: F) := by
  have e1 : bldB true b v = .cells 34 [.pointer (some ⟨b, 0, none⟩), v] := rfl
  rw [e1] at hst ⊢
  refine enterl Tryz.func33 rfl Tryz.ntmps33 rfl hst ?_
  (repeat (first | intro (b : Nat) | refine go ?_))
  (refine rettRq _ ⟨rfl, rfl⟩)

theorem a_WriteString (w0 : World) (F H : SH) (b k : Nat) (u : Bool) (xs : List Value) (v : Value) (s : ByteArray) (hS : SlS 5 1 k xs v H) (hk : k + s.size ≤ 1000000000000) (w : World) (hst : St w0 ((b, bldB u b v) :: (F ++ H)) w) :
    Calls Tryz.prog 22 #[.pointer (some ⟨b, 0, none⟩), .string s] w (TurnsR w0 fun r H' => r = .tuple #[.int .i64 (s.size : Int), .nilIface] ∧ ∃ v' Hb, SlS 5 1 (k + s.size) (xs ++ strCells s) v' Hb ∧ H' = (b, bldB true b v') :: (F ++ Hb)) := by
  have hC : ∀ W, St w0 ((b, bldB u b v) :: (F ++ H)) W → Calls Tryz.prog 33 #[.pointer (some ⟨b, 0, none⟩)] W (TurnsR w0 fun r H' => r = .tuple #[] ∧ H' = (b, bldB true b v) :: (F ++ H)) := fun W hW => by
    cases u
    · exact a_copyCheck0 w0 (F ++ H) b v W hW
    · exact a_copyCheck1 w0 (F ++ H) b v W hW
  have e1 : ∀ v, bldB true b v = .cells 34 [.pointer (some ⟨b, 0, none⟩), v] := fun _ => rfl
  refine enterl Tryz.func22 rfl Tryz.ntmps22 rfl hst ?_
  (repeat (first | intro (b : Nat) | refine go ?_))
  (refine L.tcallR b (h := by intro W hW; exact hC W hW) (k := ?_))
  rintro r H2 ⟨rfl, rfl⟩
  rw [e1]
  (repeat (first | intro (b : Nat) | refine go ?_))
  (refine L.appStr (F := [(b, .cells 34 [.pointer (some ⟨b, 0, none⟩), v])] ++ F) hS (hq := by rw [List.append_assoc]; exact .refl _) (hb := by omega) (kk := fun v' Hb hS' => ?_))
  simp only [List.cons_append, List.nil_append]
  obtain ⟨pa, pn, pc, rfl⟩ : ∃ pa pn pc, v' = Value.slice pa pn pc := by
    rcases hS' with ⟨h, _⟩ | ⟨_, _, _, h, _⟩ <;> (subst h; exact ⟨_, _, _, rfl⟩)
  (repeat (first | intro (b : Nat) | refine go ?_))
  (refine rettR ((b, bldB true b (.slice pa pn pc)) :: (F ++ Hb)) ?_)
  exact ⟨rfl, _, Hb, hS', rfl⟩

theorem a_BString (w0 : World) (F : SH) (b g c : Nat) (s : ByteArray) (pad : List Value) (h0 : s.size ≠ 0) (h6 : s.size ≤ 1000000000000) (hc : s.size ≤ c) (w : World) (hst : St w0 ((b, bldB true b (.slice (some ⟨g, 0, none⟩) s.size c)) :: (g, .cells 5 (strCells s ++ pad)) :: F) w) :
    Calls Tryz.prog 25 #[.pointer (some ⟨b, 0, none⟩)] w (TurnsR w0 fun r H' => r = .string s ∧ H' = F) := by
  have e1 : bldB true b (.slice (some ⟨g, 0, none⟩) s.size c) = .cells 34 [.pointer (some ⟨b, 0, none⟩), .slice (some ⟨g, 0, none⟩) s.size c] := rfl
  rw [e1] at hst
  refine enterl Tryz.func25 rfl Tryz.ntmps25 rfl hst ?_
  (repeat (first | intro (b : Nat) | refine go ?_))
  ((repeat (refine C.seq ?_)); apply C.draww 10 [none, none, none, some _, some _, none, none, none, some _, none])
  (repeat (first | intro (b : Nat) | refine gg ?_))
  (apply G.va; (· exact rfl); (· exact rfl); (· apply OV.sliceData; (· exact rfl); (· omega)))
  (repeat (first | intro (b : Nat) | refine gg ?_))
  (refine L.unsafeStr (T := 5) (pad := pad) Tryz.underlying57 (by kernel_rfl) (h0 := h0) (h63 := h6) (k := ?_))
  (repeat (first | intro (b : Nat) | refine go ?_))
  (refine rettR F ?_)
  exact ⟨rfl, rfl⟩

end D
end Go.Proofs.YtboglbdhibcacaaGreatDoor
