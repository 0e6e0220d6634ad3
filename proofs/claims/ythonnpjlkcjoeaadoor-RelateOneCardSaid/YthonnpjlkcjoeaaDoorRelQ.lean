/- lives of layer 3; RelateTwo returns true. -/
import Derived.Test.YthonnpjlkcjoeaaDoorRelP
namespace Go.Proofs.YthonnpjlkcjoeaaDoor.T
open Go.RowKit Go.Proofs.YthonnpjlkcjoeaaDoor.B
set_option linter.unusedSimpArgs false
set_option linter.unusedVariables false

theorem okL (h : UInt8) (e : arB h = 0) : (Ty.leaf h).ok := e
theorem ok_i : (Ty.leaf 105).ok := by show arB 105 = 0; decide
theorem ok_b : (Ty.leaf 98).ok := by show arB 98 = 0; decide
theorem ok_q : (Ty.leaf 63).ok := by show arB 63 = 0; decide
theorem ok_fn {a b : Ty} (h1 : a.ok) (h2 : b.ok) : (Ty.bin 62 a b).ok := ⟨by decide, h1, h2⟩

set_option maxRecDepth 100000 in
theorem lives03 (w : World) : Calls Tryd.prog 36 #[] w fun e w' => e = .returned (.bool true) ∧ Below w.heap.size w w' := by
  have h1 : ∀ W, Calls Tryd.prog 75 #[.string ⟨#[62, 105, 63]⟩, .string ⟨#[62, 63, 98]⟩] W fun e w' => e = .returned (.tuple #[.string ⟨#[62, 105, 98]⟩, .int .i64 0]) ∧ Below W.heap.size W w' :=
    fun W => Meet_yes (.bin 62 (.leaf 105) (.leaf 63)) (.bin 62 (.leaf 63) (.leaf 98)) W (ok_fn ok_i ok_q) (ok_fn ok_q ok_b) (by decide) (by decide)
  have h2 : ∀ W, Calls Tryd.prog 76 #[.string ⟨#[62, 105, 98]⟩, .string ⟨#[62, 105, 105]⟩] W fun e w' => e = .returned (.tuple #[.string ⟨#[62, 105, 63]⟩, .int .i64 0]) ∧ Below W.heap.size W w' :=
    fun W => Join_yes (.bin 62 (.leaf 105) (.leaf 98)) (.bin 62 (.leaf 105) (.leaf 105)) W (ok_fn ok_i ok_b) (ok_fn ok_i ok_i) (by decide) (by decide)
  have h3 : ∀ W, Calls Tryd.prog 30 #[.string ⟨#[63]⟩, .int .u8 44] W fun e w' => ∃ v, e = .returned (.tuple #[v, .bool true]) ∧ w'.ownsRow W.heap.size 9 1 v 2 [strV dyn, strV dyn] ∧ Below W.heap.size W w' :=
    fun W => Match_yes (.leaf 63) 44 W ok_q (by decide)
  have h4 : ∀ W, Calls Tryd.prog 32 #[.string ⟨#[62, 105, 105]⟩] W fun e w' => ∃ v, e = .returned v ∧ w'.ownsRow W.heap.size 9 1 v 2 ((looserT (.bin 62 (.leaf 105) (.leaf 105))).map strV) ∧ Below W.heap.size W w' :=
    fun W => Looser_any 64 (.bin 62 (.leaf 105) (.leaf 105)) W (by decide) (ok_fn ok_i ok_i) (by decide)
  have c1 : ∀ W, Calls Tryd.prog 77 #[.string ⟨#[105]⟩, .string ⟨#[63]⟩] W fun e w' => e = .returned (.bool true) ∧ Below W.heap.size W w' :=
    fun W => Cons_yes (.leaf 105) (.leaf 63) W ok_i ok_q (by decide) (by decide)
  have c2 : ∀ W, Calls Tryd.prog 77 #[.string ⟨#[105]⟩, .string ⟨#[98]⟩] W fun e w' => e = .returned (.bool false) ∧ Below W.heap.size W w' :=
    fun W => Cons_yes (.leaf 105) (.leaf 98) W ok_i ok_b (by decide) (by decide)
  have p1 : ∀ W, Calls Tryd.prog 78 #[.string ⟨#[105]⟩, .string ⟨#[63]⟩] W fun e w' => e = .returned (.bool true) ∧ Below W.heap.size W w' :=
    fun W => Prec_yes (.leaf 105) (.leaf 63) W ok_i ok_q (by decide) (by decide)
  have p2 : ∀ W, Calls Tryd.prog 78 #[.string ⟨#[63]⟩, .string ⟨#[105]⟩] W fun e w' => e = .returned (.bool false) ∧ Below W.heap.size W w' :=
    fun W => Prec_yes (.leaf 63) (.leaf 105) W ok_q ok_i (by decide) (by decide)
  generalize (looserT (.bin 62 (.leaf 105) (.leaf 105))).map strV = L at *
  go_enter Tryd.func36, Tryd.ntmps36
  go_wp2_with fail
  refine (h1 _).mono ?_
  rintro e w1 ⟨rfl, hb1⟩
  go_wp2_with fail
  refine (h2 _).mono ?_
  rintro e w2 ⟨rfl, hb2⟩
  go_wp2_with fail
  refine (h3 _).mono ?_
  rintro e w3 ⟨v3, rfl, ho3, hb3⟩
  obtain ⟨A3, cc3, rfl, _, _⟩ := own_shape ho3
  go_wp2_with fail
  refine (h4 _).mono ?_
  rintro e w4 ⟨v4, rfl, ho4, hb4⟩
  obtain ⟨A4, cc4, rfl, _, _⟩ := own_shape ho4
  clear ho3 ho4 h1 h2 h3 h4
  go_wp2_with fail
  refine (c1 _).mono ?_
  rintro e w5 ⟨rfl, hb5⟩
  go_wp2_with fail
  refine (c2 _).mono ?_
  rintro e w6 ⟨rfl, hb6⟩
  go_wp2_with fail
  refine (p1 _).mono ?_
  rintro e w7 ⟨rfl, hb7⟩
  go_wp2_with fail
  refine (p2 _).mono ?_
  rintro e w8 ⟨rfl, hb8⟩
  go_wp2_with fail
  go_ret
  exact ⟨rfl, bl (bl (bl (bl (bl (bl (bl hb1 hb2) hb3) hb4) hb5) hb6) hb7) hb8⟩

end Go.Proofs.YthonnpjlkcjoeaaDoor.T
