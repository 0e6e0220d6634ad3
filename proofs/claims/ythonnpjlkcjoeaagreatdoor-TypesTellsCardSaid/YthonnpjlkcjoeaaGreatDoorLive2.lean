/- What layer 2's laws end with: a function from int to lists. -/
import Derived.Test.YthonnpjlkcjoeaaGreatDoorPenX
import Derived.Test.YthonnpjlkcjoeaaGreatDoorRdV
namespace Go.Proofs.YthonnpjlkcjoeaaGreatDoor.T
open Go.RowKit Go.Proofs.YthonnpjlkcjoeaaGreatDoor.B
set_option linter.unusedSimpArgs false
set_option linter.unusedVariables false

/-- int to lists. -/
def tyL : Ty := .bin 62 (.leaf 105) (.un 108 (.leaf 63))
theorem tyL_ok : tyL.ok := ⟨by decide, show arB 105 = 0 by decide, show arB 108 = 1 by decide, show arB 63 = 0 by decide⟩

set_option maxRecDepth 100000 in
theorem lives02 (w : World) : Calls Tryz.prog 22 #[] w fun e w' => e = .returned (.bool true) ∧ Below w.heap.size w w' := by
  have h1 : ∀ W, Calls Tryz.prog 5 #[.string ⟨#[62, 105, 108, 63]⟩] W fun e w' => e = .returned (.tuple #[.int .i64 0, .int .i64 0]) ∧ W = w' := fun W => check_any (str tyL) W (by decide)
  have h2 : ∀ W, Calls Tryz.prog 7 #[.string ⟨#[62, 105, 108, 63]⟩] W fun e w' => ∃ A c, e = .returned (.slice A 2 c) ∧ Below W.heap.size W w' := fun W =>
    (Parts_yes tyL W tyL_ok (by decide)).mono fun e w' ⟨v, h, ho, hb⟩ => by
      obtain ⟨A, c, rfl, _, _⟩ := own_shape ho
      exact ⟨A, c, h, hb⟩
  have h3 : ∀ W, Calls Tryz.prog 9 #[.string ⟨#[62, 105, 108, 63]⟩] W fun e w' => e = .returned (.tuple #[.string ⟨#[105, 110, 116, 32, 45, 62, 32, 91, 63, 93]⟩, .int .i64 0]) ∧ Below W.heap.size W w' := fun W => Words_yes tyL W tyL_ok (by decide)
  have r4 : readL [105, 110, 116, 32, 45, 62, 32, 91, 63, 93] = ([62, 105, 108, 63], 0, 0) := read_words tyL_ok (by decide)
  have r5 : readL [105, 110, 116, 32, 45, 62, 32, 93] = ([], 15, 7) := by decide +kernel
  have h4 : ∀ W, Calls Tryz.prog 53 #[.string ⟨#[105, 110, 116, 32, 45, 62, 32, 91, 63, 93]⟩] W fun e w' => e = .returned (.tuple #[.string ⟨#[62, 105, 108, 63]⟩, .int .i64 0, .int .i64 0]) ∧ Below W.heap.size W w' := fun W =>
    (ReadP_any ⟨#[105, 110, 116, 32, 45, 62, 32, 91, 63, 93]⟩ W (by decide)).mono fun e w' ⟨h, hb⟩ => ⟨by rw [h]; unfold ReadV; rw [show (⟨#[105, 110, 116, 32, 45, 62, 32, 91, 63, 93]⟩ : ByteArray).data.toList = [105, 110, 116, 32, 45, 62, 32, 91, 63, 93] from rfl, r4]; rfl, hb⟩
  have h5 : ∀ W, Calls Tryz.prog 53 #[.string ⟨#[105, 110, 116, 32, 45, 62, 32, 93]⟩] W fun e w' => e = .returned (.tuple #[.string ⟨#[]⟩, .int .i64 15, .int .i64 7]) ∧ Below W.heap.size W w' := fun W =>
    (ReadP_any ⟨#[105, 110, 116, 32, 45, 62, 32, 93]⟩ W (by decide)).mono fun e w' ⟨h, hb⟩ => ⟨by rw [h]; unfold ReadV; rw [show (⟨#[105, 110, 116, 32, 45, 62, 32, 93]⟩ : ByteArray).data.toList = [105, 110, 116, 32, 45, 62, 32, 93] from rfl, r5]; rfl, hb⟩
  have H1 := Lib.hid h1
  have H2 := Lib.hid h2
  have H3 := Lib.hid h3
  have H4 := Lib.hid h4
  have H5 := Lib.hid h5
  clear h1 h2 h3 h4 h5 r4 r5
  go_enter Tryz.func22, Tryz.ntmps22
  go_wp2_with fail
  refine (H1.out _).mono ?_
  rintro e w1 ⟨rfl, rfl⟩
  go_wp2_with fail
  refine (H2.out _).mono ?_
  rintro e w2 ⟨A, c, rfl, hb2⟩
  go_wp2_with fail
  refine (H3.out _).mono ?_
  rintro e w3 ⟨rfl, hb3⟩
  go_wp2_with fail
  refine (H4.out _).mono ?_
  rintro e w4 ⟨rfl, hb4⟩
  go_wp2_with fail
  refine (H5.out _).mono ?_
  rintro e w5 ⟨rfl, hb5⟩
  go_wp2_with fail
  go_ret
  exact ⟨rfl, bl (bl (bl hb2 hb3) hb4) hb5⟩
end Go.Proofs.YthonnpjlkcjoeaaGreatDoor.T
