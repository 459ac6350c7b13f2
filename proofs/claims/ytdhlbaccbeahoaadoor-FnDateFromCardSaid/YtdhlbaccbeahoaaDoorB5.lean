/- Walks: texts of dates; dates of texts. -/
import Derived.Test.YtdhlbaccbeahoaaDoorB3
import Derived.Test.YtdhlbaccbeahoaaDoorE3
import Derived.Test.YtdhlbaccbeahoaaDoorPT
namespace Go.Proofs.YtdhlbaccbeahoaaDoor
set_option linter.unusedVariables false
set_option linter.unusedSimpArgs false
set_option maxRecDepth 100000
set_option maxHeartbeats 1000000
namespace D
open Go.RowKit
open Go.PlainAid (bt bt_nonneg bt_le bt_end)
attribute [local irreducible] Calls

theorem a_weekAtG (n : Int) (h : 0 ≤ n ∧ n ≤ 3652058) (w : World) (hb : D.Base w) : Calls Tryd.prog 76 #[.int .i64 n] w fun e w' => e = .returned (.agg #[.int .i64 (wyr n), .int .i64 (wno n), .int .i64 (n % 7 + 1)]) ∧ Below w.heap.size w w' := by
  obtain ⟨m, d, h1, h2⟩ := wyr_date h
  exact a_weekAt n (wyr n) m d h1 h2 h w hb

theorem wno_53 {n : Int} (h : 0 ≤ n ∧ n ≤ 3652058) : 1 ≤ wno n ∧ wno n ≤ 53 := by
  have := wno_bd h
  have := wks_bd (wyr n)
  omega

theorem a_weekParts (y m d : Int) (h : dval y m d = true) (w : World) (hb : D.Base w) : Calls Tryd.prog 74 #[.agg #[], .agg #[.int .i64 y, .int .i64 m, .int .i64 d]] w (Ret w (NewSl 3 3 (.cells 9 [.string (strOfNums (digL (wyr (num y m d)) 4)), .string (strOfNums (87 :: digL (wno (num y m d)) 2)), .string (strOfNums (digL (num y m d % 7 + 1) 1))]))) := by
  have hn := num_bd h
  have h1 := wyr_in hn
  have h2 := wno_53 hn
  have hN : ∀ W, D.Base W → Calls Tryd.prog 64 #[.agg #[.int .i64 y, .int .i64 m, .int .i64 d]] W fun e w' => e = .returned (.int .i64 (num y m d)) ∧ Below W.heap.size W w' := fun W hW => a_number y m d h W hW
  have hA : ∀ W, D.Base W → Calls Tryd.prog 76 #[.int .i64 (num y m d)] W fun e w' => e = .returned (.agg #[.int .i64 (wyr (num y m d)), .int .i64 (wno (num y m d)), .int .i64 (num y m d % 7 + 1)]) ∧ Below W.heap.size W w' := fun W hW => a_weekAtG _ hn W hW
  have es : ∀ l : List Int, strOfNums (87 :: l) = (⟨#[87]⟩ : ByteArray) ++ strOfNums l := fun l => by
    rw [show (⟨#[87]⟩ : ByteArray) = strOfNums [87] from rfl, strOfNums_append]
    rfl
  have hl := digL_length (wno (num y m d)) 2
  rw [es]
  generalize wyr (num y m d) = Y at *
  generalize wno (num y m d) = K at *
  generalize num y m d = n at *
  refine enter Tryd.func74 rfl Tryd.ntmps74 rfl (by assumption) ?_
  (repeat' (first | intro (b : Nat) | refine go ?_ | (refine br ?_ ?_ <;> first | exact trivial | intro hq) | refine L.call (h := by intro W hW; first | apply hN W hW.base | apply hA W hW.base | apply a_digits4 _ (by omega) W hW.base | apply a_digits2 _ (by omega) W hW.base | apply a_digits1 _ (by omega) W hW.base) (k := ?_) | refine gg ?_ | refine G.call (h := by intro W hW; first | apply hN W hW.base | apply hA W hW.base | apply a_digits4 _ (by omega) W hW.base | apply a_digits2 _ (by omega) W hW.base | apply a_digits1 _ (by omega) W hW.base) (k := ?_) | (apply C.draww (id := 2) 12 [none, some _, some _, none, some _, some _, none, none, some _, some _, some _, none])))
  exact retsl

theorem a_dayParts (y m d : Int) (h : dval y m d = true) (w : World) (hb : D.Base w) : Calls Tryd.prog 85 #[.agg #[], .agg #[.int .i64 y, .int .i64 m, .int .i64 d]] w (Ret w (NewSl 2 2 (.cells 9 [.string (strOfNums (digL y 4)), .string (strOfNums (digL (ord y m d) 3))]))) := by
  have hd := dval_bd h
  have ho := ord_bd y m d (by omega) (by omega) (by omega)
  refine enter Tryd.func85 rfl Tryd.ntmps85 rfl (by assumption) ?_
  (repeat' (first | intro (b : Nat) | refine go ?_ | (refine br ?_ ?_ <;> first | exact trivial | intro hq) | refine L.call (h := by intro W hW; first | apply a_digits4 _ (by omega) W hW.base | apply a_ordinal _ _ _ h W hW.base | apply a_digits3 _ (by omega) W hW.base) (k := ?_) | refine gg ?_ | refine G.call (h := by intro W hW; first | apply a_digits4 _ (by omega) W hW.base | apply a_ordinal _ _ _ h W hW.base | apply a_digits3 _ (by omega) W hW.base) (k := ?_) | (apply C.draww (id := 1) 8 [none, some _, some _, some _, some _, some _, some _, none])))
  exact retsl

theorem a_dateText0 (y m d : Int) (h : Bool) (hv : dval y m d = true) (w : World) (hb : D.Base w) : Calls Tryd.prog 16 #[.agg #[.int .i64 y, .int .i64 m, .int .i64 d], .iface 69 (.agg #[]), .bool h] w fun e w' => e = .returned (.string (strOfNums (dtL y m d 0 h))) ∧ Below w.heap.size w w' := by
  have es : strOfNums (dtL y m d 0 h) = strOfNums (digL y 4 ++ hy1 h ++ digL m 2 ++ hy1 h ++ digL d 2) := rfl
  have l1 := digL_length y 4
  have l2 := digL_length m 2
  have l3 := digL_length d 2
  rw [es]
  cases h
  all_goals
    refine enter Tryd.func16 rfl Tryd.ntmps16 rfl (by assumption) ?_
    (repeat (first | intro (b : Nat) | refine go ?_))
    (refine L.invsl (h := by intro W hW; exact a_monthParts y m d hv W hW.base) (k := ?_); intro bp)
    generalize digL y 4 = x at *
    generalize digL m 2 = z at *
    generalize digL d 2 = u at *
    (repeat (first | intro (b : Nat) | refine go ?_))
    refine C.rounds 6 ?_
    (repeat' (first | intro (b : Nat) | refine go ?_ | (refine br ?_ ?_ <;> first | exact trivial | intro hq)))
    (refine ret ?_)
    refine congrArg Value.string ?_
    rw [show (⟨#[]⟩ : ByteArray) = strOfNums [] from rfl]
    try rw [show (⟨#[45]⟩ : ByteArray) = strOfNums [45] from rfl]
    simp only [strOfNums_append]
    simp [hy1]

theorem a_dateText1 (y m d : Int) (h : Bool) (hv : dval y m d = true) (w : World) (hb : D.Base w) : Calls Tryd.prog 16 #[.agg #[.int .i64 y, .int .i64 m, .int .i64 d], .iface 70 (.agg #[]), .bool h] w fun e w' => e = .returned (.string (strOfNums (dtL y m d 1 h))) ∧ Below w.heap.size w w' := by
  have es : strOfNums (dtL y m d 1 h) = strOfNums (digL (wyr (num y m d)) 4 ++ hy1 h ++ (87 :: digL (wno (num y m d)) 2) ++ hy1 h ++ digL (num y m d % 7 + 1) 1) := rfl
  have l1 := digL_length (wyr (num y m d)) 4
  have l2 := digL_length (wno (num y m d)) 2
  have l3 := digL_length (num y m d % 7 + 1) 1
  have l2' : (87 :: digL (wno (num y m d)) 2).length = 3 := by rw [List.length_cons, l2]
  rw [es]
  cases h
  all_goals
    refine enter Tryd.func16 rfl Tryd.ntmps16 rfl (by assumption) ?_
    (repeat (first | intro (b : Nat) | refine go ?_))
    (refine L.invsl (h := by intro W hW; exact a_weekParts y m d hv W hW.base) (k := ?_); intro bp)
    generalize (87 :: digL (wno (num y m d)) 2) = z at *
    generalize digL (wyr (num y m d)) 4 = x at *
    generalize digL (num y m d % 7 + 1) 1 = u at *
    (repeat (first | intro (b : Nat) | refine go ?_))
    refine C.rounds 6 ?_
    (repeat' (first | intro (b : Nat) | refine go ?_ | (refine br ?_ ?_ <;> first | exact trivial | intro hq)))
    (refine ret ?_)
    refine congrArg Value.string ?_
    rw [show (⟨#[]⟩ : ByteArray) = strOfNums [] from rfl]
    try rw [show (⟨#[45]⟩ : ByteArray) = strOfNums [45] from rfl]
    simp only [strOfNums_append]
    simp [hy1]

theorem a_dateText2 (y m d : Int) (h : Bool) (hv : dval y m d = true) (w : World) (hb : D.Base w) : Calls Tryd.prog 16 #[.agg #[.int .i64 y, .int .i64 m, .int .i64 d], .iface 71 (.agg #[]), .bool h] w fun e w' => e = .returned (.string (strOfNums (dtL y m d 2 h))) ∧ Below w.heap.size w w' := by
  have es : strOfNums (dtL y m d 2 h) = strOfNums (digL y 4 ++ hy1 h ++ digL (ord y m d) 3) := rfl
  have l1 := digL_length y 4
  have l2 := digL_length (ord y m d) 3
  rw [es]
  cases h
  all_goals
    refine enter Tryd.func16 rfl Tryd.ntmps16 rfl (by assumption) ?_
    (repeat (first | intro (b : Nat) | refine go ?_))
    (refine L.invsl (h := by intro W hW; exact a_dayParts y m d hv W hW.base) (k := ?_); intro bp)
    generalize digL y 4 = x at *
    generalize digL (ord y m d) 3 = z at *
    (repeat (first | intro (b : Nat) | refine go ?_))
    refine C.rounds 6 ?_
    (repeat' (first | intro (b : Nat) | refine go ?_ | (refine br ?_ ?_ <;> first | exact trivial | intro hq)))
    (refine ret ?_)
    refine congrArg Value.string ?_
    rw [show (⟨#[]⟩ : ByteArray) = strOfNums [] from rfl]
    try rw [show (⟨#[45]⟩ : ByteArray) = strOfNums [45] from rfl]
    simp only [strOfNums_append]
    simp [hy1]

theorem a_DateText (y m d f : Int) (h : Bool) (w : World) (hb : D.Base w) : Calls Tryd.prog 6 #[.agg #[.int .i64 y, .int .i64 m, .int .i64 d], .int .i64 f, .bool h] w fun e w' => e = .returned (dtS y m d f h) ∧ Below w.heap.size w w' := by
  cases h1 : dval y m d with
  | false =>
    have e : dtS y m d f h = .tuple #[.string ⟨#[]⟩, .bool false] := if_neg (by simp [h1])
    rw [e]
    refine enter Tryd.func6 rfl Tryd.ntmps6 rfl (by assumption) ?_
    (repeat' (first | intro (b : Nat) | refine go ?_ | (refine br ?_ ?_ <;> first | exact trivial | intro hq) | refine L.call (h := by intro W hW; apply rvb h1 (a_DateValid _ _ _ W hW.base)) (k := ?_) | refine gg ?_ | refine G.call (h := by intro W hW; apply rvb h1 (a_DateValid _ _ _ W hW.base)) (k := ?_) | (apply C.draww (id := 3) 9 [some _, some _, none, none, some _, none, some _, none, none])))
    all_goals (refine ret ?_; try exact rfl)
  | true =>
    cases h2 : inR f 0 2 with
    | false =>
      have e : dtS y m d f h = .tuple #[.string ⟨#[]⟩, .bool false] := if_neg (by simp [h2])
      rw [e]
      refine enter Tryd.func6 rfl Tryd.ntmps6 rfl (by assumption) ?_
      (repeat' (first | intro (b : Nat) | refine go ?_ | (refine br ?_ ?_ <;> first | exact trivial | intro hq) | refine L.call (h := by intro W hW; first | apply rvb h1 (a_DateValid _ _ _ W hW.base) | apply rvb h2 (a_within _ _ _ W hW.base)) (k := ?_) | refine gg ?_ | refine G.call (h := by intro W hW; first | apply rvb h1 (a_DateValid _ _ _ W hW.base) | apply rvb h2 (a_within _ _ _ W hW.base)) (k := ?_) | (apply C.draww (id := 3) 9 [some _, some _, none, none, some _, none, some _, none, none])))
      all_goals (refine ret ?_; try exact rfl)
    | true =>
      have e : dtS y m d f h = .tuple #[.string (strOfNums (dtL y m d f h)), .bool true] := if_pos ⟨h1, h2⟩
      have h3 := inR_true.1 h2
      rw [e]
      rcases (by omega : f = 0 ∨ f = 1 ∨ f = 2) with rfl | rfl | rfl
      all_goals
        refine enter Tryd.func6 rfl Tryd.ntmps6 rfl (by assumption) ?_
        (repeat' (first | intro (b : Nat) | refine go ?_ | (refine br ?_ ?_ <;> first | exact trivial | intro hq) | refine L.call (h := by intro W hW; first | apply rvb h1 (a_DateValid _ _ _ W hW.base) | apply rvb h2 (a_within _ _ _ W hW.base)) (k := ?_)))
        (apply C.draww (id := 3) 9 [some _, some _, none, none, some _, none, some _, none, none])
        (repeat (first | intro (b : Nat) | refine gg ?_))
        (refine G.slcall (h := by intro W hW; exact a_forms W hW.base) (k := ?_); intro bf)
        (repeat (first | intro (b : Nat) | refine gg ?_))
        (refine G.vd (X := [(bf, .cells 41 formsV)]) (by kernel_rfl) rfl rfl (by (first | (apply OV.load1; exact rfl; (· (repeat (first | exact List.Mem.head _ | apply List.Mem.tail))); (· (repeat (first | exact Rd.nil | apply Rd.take | apply Rd.skip)))) | (apply OV.loadk; exact rfl; (· (repeat (first | exact List.Mem.head _ | apply List.Mem.tail))); (· (repeat (first | exact Rd.nil | apply Rd.take | apply Rd.skip)))) | (apply OV.load0; exact rfl; (· assumption)) | (apply OV.load0k; exact rfl; rotate_left; (· assumption); exact rfl) | (apply OV.strOf; exact rfl; (· (repeat (first | exact List.Mem.head _ | apply List.Mem.tail))); (· (repeat (first | exact Rd.nil | apply Rd.take | apply Rd.skip))); (· (repeat (first | exact Nums.nil | apply Nums.cons)))))) ?_)
        (repeat (first | intro (b : Nat) | refine gg ?_))
        (refine G.call (h := by intro W hW; first | apply a_dateText0 _ _ _ _ h1 W hW.base | apply a_dateText1 _ _ _ _ h1 W hW.base | apply a_dateText2 _ _ _ _ h1 W hW.base) (k := ?_))
        (repeat (first | intro (b : Nat) | refine gg ?_))
        (repeat (first | intro (b : Nat) | refine go ?_))
        all_goals (refine ret ?_; try exact rfl)

end D
end Go.Proofs.YtdhlbaccbeahoaaDoor
