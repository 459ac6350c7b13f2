/- Walks of the reference: texts of dates; dates of texts. -/
import Derived.Test.YtpgbmohocfcjpaaGreatDoorC2
import Derived.Test.YtpgbmohocfcjpaaGreatDoorPT
import Derived.Test.YtpgbmohocfcjpaaGreatDoorE3m
namespace Go.Proofs.YtpgbmohocfcjpaaGreatDoor
set_option linter.unusedVariables false
set_option linter.unusedSimpArgs false
set_option maxRecDepth 100000
set_option maxHeartbeats 1000000
namespace D
open Go.RowKit
open Go.PlainAid (bt bt_nonneg bt_le bt_end)
attribute [local irreducible] Calls

theorem b_DateText (y m d f : Int) (h : Bool) (w : World) (hb : D.Base w) : Calls Tryz.prog 106 #[.agg #[.int .i64 y, .int .i64 m, .int .i64 d], .int .i64 f, .bool h] w fun e w' => e = .returned (dtS y m d f h) ∧ Below w.heap.size w w' := by
  cases h1 : dval y m d with
  | false =>
    have e : dtS y m d f h = .tuple #[.string ⟨#[]⟩, .bool false] := if_neg (by simp [h1])
    rw [e]
    refine enter Tryz.func106 rfl Tryz.ntmps106 rfl (by assumption) ?_
    (repeat' (first | intro (b : Nat) | refine go ?_ | (refine br ?_ ?_ <;> first | exact trivial | intro hq) | refine L.call (h := by intro W hW; exact rvb h1 (b_DateValid _ _ _ W hW.base)) (k := ?_)))
    all_goals (refine ret ?_; try exact rfl)
  | true =>
    have hd := dval_bd h1
    cases h2 : inR f 0 2 with
    | false =>
      have e : dtS y m d f h = .tuple #[.string ⟨#[]⟩, .bool false] := if_neg (by simp [h2])
      have h3 := inR_false.1 h2
      have hf0 : ¬ f = 0 := by omega
      have hf1 : ¬ f = 1 := by omega
      have hf2 : ¬ f = 2 := by omega
      rw [e]
      refine enter Tryz.func106 rfl Tryz.ntmps106 rfl (by assumption) ?_
      (repeat' (first | intro (b : Nat) | refine go ?_ | (refine br ?_ ?_ <;> first | exact trivial | intro hq) | refine L.call (h := by intro W hW; exact rvb h1 (b_DateValid _ _ _ W hW.base)) (k := ?_)))
      all_goals (refine ret ?_; try exact rfl)
    | true =>
      have e : dtS y m d f h = .tuple #[.string (strOfNums (dtL y m d f h)), .bool true] := if_pos ⟨h1, h2⟩
      have h3 := inR_true.1 h2
      rw [e]
      have hn := num_bd h1
      rcases (by omega : f = 0 ∨ f = 1 ∨ f = 2) with rfl | rfl | rfl
      · have es : strOfNums (dtL y m d 0 h) = strOfNums (digL y 4 ++ hy1 h ++ digL m 2 ++ hy1 h ++ digL d 2) := rfl
        have l1 := digL_length y 4
        have l2 := digL_length m 2
        have l3 := digL_length d 2
        rw [es]
        refine enter Tryz.func106 rfl Tryz.ntmps106 rfl (by assumption) ?_
        (repeat' (first | intro (b : Nat) | refine go ?_ | (refine br ?_ ?_ <;> first | exact trivial | intro hq) | refine L.call (h := by intro W hW; exact rvb h1 (b_DateValid _ _ _ W hW.base)) (k := ?_)))
        (apply C.draww (id := 5) 14 [none, some _, some _, none, some _, some _, none, some _, some _, some _, none, some _, none, none])
        (repeat' (first | refine gg ?_ | refine G.call (h := by intro W hW; first | apply b_Put4 _ (by omega) W hW.base | apply b_Put2 _ (by omega) W hW.base) (k := ?_)))
        intro bj
        (repeat (first | intro (b : Nat) | refine gg ?_))
        (refine G.calld [(bj, .cells 9 [.string (strOfNums (digL y 4)), .string (strOfNums (digL m 2)), .string (strOfNums (digL d 2))])] (h := by intro W hW; exact b_Join3 bj 3 3 (digL y 4) (digL m 2) (digL d 2) h (by omega) (by omega) (by omega) W (hW.cell (by (repeat (first | exact List.Mem.head _ | apply List.Mem.tail))) rfl) (hW.cell (by (repeat (first | exact List.Mem.head _ | apply List.Mem.tail))) rfl) (hW.cell (by (repeat (first | exact List.Mem.head _ | apply List.Mem.tail))) rfl) hW.base) (k := ?_))
        (repeat (first | intro (b : Nat) | refine gg ?_))
        (repeat (first | intro (b : Nat) | refine go ?_))
        (refine ret ?_; try exact rfl)
      · have es : strOfNums (dtL y m d 1 h) = strOfNums (digL (wyr (num y m d)) 4 ++ hy1 h ++ (87 :: digL (wno (num y m d)) 2) ++ hy1 h ++ digL (num y m d % 7 + 1) 1) := rfl
        have eW : ∀ l : List Int, strOfNums (87 :: l) = (⟨#[87]⟩ : ByteArray) ++ strOfNums l := fun l => by
          rw [show (⟨#[87]⟩ : ByteArray) = strOfNums [87] from rfl, strOfNums_append]
          rfl
        have hW3 := b_WeekOf y m d h1
        have hwy := wyr_in hn
        have hwn := wno_bd hn
        have hw53 := wks_bd (wyr (num y m d))
        rw [es]
        generalize wyr (num y m d) = Y at *
        generalize wno (num y m d) = K at *
        generalize num y m d = N at *
        have l1 := digL_length Y 4
        have l2 := digL_length K 2
        have l3 := digL_length (N % 7 + 1) 1
        have l2' : (87 :: digL K 2).length = 3 := by rw [List.length_cons, l2]
        refine enter Tryz.func106 rfl Tryz.ntmps106 rfl (by assumption) ?_
        (repeat' (first | intro (b : Nat) | refine go ?_ | (refine br ?_ ?_ <;> first | exact trivial | intro hq) | refine L.call (h := by intro W hW; first | apply rvb h1 (b_DateValid _ _ _ W hW.base) | apply hW3 W hW.base) (k := ?_)))
        (apply C.draww (id := 10) 15 [none, some _, some _, none, some _, some _, none, none, some _, some _, some _, none, some _, none, none])
        (repeat' (first | refine gg ?_ | refine G.call (h := by intro W hW; first | apply b_Put4 _ (by omega) W hW.base | apply b_Put2 _ (by omega) W hW.base | apply b_Put1 _ (by omega) W hW.base) (k := ?_)))
        intro bj
        (repeat (first | intro (b : Nat) | refine gg ?_))
        (refine G.calld [(bj, .cells 9 [.string (strOfNums (digL Y 4)), .string ((⟨#[87]⟩ : ByteArray) ++ strOfNums (digL K 2)), .string (strOfNums (digL (N % 7 + 1) 1))])] (h := by intro W hW; exact b_Join3 bj 3 3 (digL Y 4) (87 :: digL K 2) (digL (N % 7 + 1) 1) h (by omega) (by omega) (by omega) W (hW.cell (by (repeat (first | exact List.Mem.head _ | apply List.Mem.tail))) rfl) (by rw [eW]; exact hW.cell (by (repeat (first | exact List.Mem.head _ | apply List.Mem.tail))) rfl) (hW.cell (by (repeat (first | exact List.Mem.head _ | apply List.Mem.tail))) rfl) hW.base) (k := ?_))
        (repeat (first | intro (b : Nat) | refine gg ?_))
        (repeat (first | intro (b : Nat) | refine go ?_))
        (refine ret ?_; try exact rfl)
      · have es : strOfNums (dtL y m d 2 h) = strOfNums (digL y 4 ++ hy1 h ++ digL (ord y m d) 3) := rfl
        have ho := ord_bd y m d (by omega) (by omega) (by omega)
        have l1 := digL_length y 4
        have l2 := digL_length (ord y m d) 3
        have hO := b_OrdinalOf y m d h1
        rw [es]
        generalize ord y m d = N at *
        refine enter Tryz.func106 rfl Tryz.ntmps106 rfl (by assumption) ?_
        (repeat' (first | intro (b : Nat) | refine go ?_ | (refine br ?_ ?_ <;> first | exact trivial | intro hq) | refine L.call (h := by intro W hW; exact rvb h1 (b_DateValid _ _ _ W hW.base)) (k := ?_)))
        (apply C.draww (id := 12) 11 [none, some _, some _, some _, some _, some _, some _, none, some _, none, none])
        (repeat' (first | refine gg ?_ | refine G.call (h := by intro W hW; first | apply b_Put4 _ (by omega) W hW.base | apply b_Put3 _ (by omega) W hW.base | apply hO W hW.base) (k := ?_)))
        intro bj
        (repeat (first | intro (b : Nat) | refine gg ?_))
        (refine G.calld [(bj, .cells 9 [.string (strOfNums (digL y 4)), .string (strOfNums (digL N 3))])] (h := by intro W hW; exact b_Join2 bj 2 2 (digL y 4) (digL N 3) h (by omega) (by omega) W (hW.cell (by (repeat (first | exact List.Mem.head _ | apply List.Mem.tail))) rfl) (hW.cell (by (repeat (first | exact List.Mem.head _ | apply List.Mem.tail))) rfl) hW.base) (k := ?_))
        (repeat (first | intro (b : Nat) | refine gg ?_))
        (repeat (first | intro (b : Nat) | refine go ?_))
        (refine ret ?_; try exact rfl)

end D
end Go.Proofs.YtpgbmohocfcjpaaGreatDoor
