/- Contract: Static. -/
import Derived.Test.YthonnpjlkcjoeaaGreatDoorTypC
import Derived.Test.YthonnpjlkcjoeaaGreatDoorShelf
import Derived.Lib.IndexAny
namespace Go.Proofs.YthonnpjlkcjoeaaGreatDoor.T
open Go.RowKit Go.Proofs.YthonnpjlkcjoeaaGreatDoor.B
set_option linter.unusedSimpArgs false
set_option linter.unusedVariables false

theorem Static_any (s : ByteArray) (w : World) (hs : s.size ≤ 4611686018427387904) :
    Calls Tryz.prog 16 #[.string s] w fun e w' => e = .returned (.bool (isB s && !s.data.toList.contains 63)) ∧ Below w.heap.size w w' := by
  have h1 := fun W => is_any s W hs
  have h2 := fun W => Tryz.strings_Contains_one s 63 W
  rw [← Lib.contains_iff_indexByte] at h2
  cases hb : isB s
  · rw [hb] at h1
    clear hb h2
    go_enter Tryz.func16, Tryz.ntmps16
    go_wp2_with fail
    refine (h1 _).mono ?_
    rintro e w' ⟨rfl, rfl⟩
    go_wp2_with fail
    go_ret
    exact ⟨rfl, Below.refl _ _⟩
  · rw [hb] at h1
    clear hb
    cases hc : s.data.toList.contains 63
    all_goals
      rw [hc] at h2
      clear hc
      go_enter Tryz.func16, Tryz.ntmps16
      go_wp2_with fail
      refine (h1 _).mono ?_
      rintro e w' ⟨rfl, rfl⟩
      go_wp2_with fail
      refine (h2 _).mono ?_
      rintro e w' ⟨rfl, rfl⟩
      go_wp2_with fail
      go_ret
      exact ⟨rfl, Below.refl _ _⟩

end Go.Proofs.YthonnpjlkcjoeaaGreatDoor.T
