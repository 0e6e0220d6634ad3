/- TypesRound: all its ways. -/
import Derived.Test.YthonnpjlkcjoeaaRoundW
namespace Go.Proofs.Ythonnpjlkcjoeaa.T
open Go.RowKit Go.Proofs.Ythonnpjlkcjoeaa.B
set_option linter.unusedSimpArgs false
set_option linter.unusedVariables false

set_option maxRecDepth 100000 in
theorem round_long (s x : ByteArray) (w : World) (h1 : s.size ≤ 140737488351232) (h2 : x.size ≤ 140737488351232) (hl : 2147483647 < s.size + x.size) :
    Calls Try.prog 8 #[.string s, .string x] w fun e w' => e = .returned (.bool true) ∧ Below w.heap.size w w' := by
  have b0 : Below w.heap.size w w := Below.refl _ _
  have hl' : (2147483647 : Int) < (s.size : Int) + (x.size : Int) := by omega
  clear hl
  go_enter Try.func8, Try.ntmps8
  go_wp2_with (go_at_call 16; go_in)
  go_ret
  exact ⟨rfl, b0⟩

theorem typesRound_any (s x : ByteArray) (w : World) (h1 : s.size ≤ 140737488351232) (h2 : x.size ≤ 140737488351232) :
    Calls Try.prog 8 #[.string s, .string x] w fun e w' => e = .returned (.bool true) ∧ Below w.heap.size w w' := by
  by_cases hl : 2147483647 < s.size + x.size
  · exact round_long s x w h1 h2 hl
  · have hl' : (s.size : Int) + (x.size : Int) ≤ 2147483647 := by omega
    rcases reads_any x (by omega) with ⟨u, E, P, hr, hE⟩ | ⟨T, P, hT, hT64, hr⟩
    · cases hs : isB s
      · exact round_nn s x w hl' u E P hr hE hs
      · obtain ⟨S, hS, e, hS64⟩ := isB_iff.1 hs
        exact round_ny s x w hl' u E P hr hE S hS hS64 e
    · cases hs : isB s
      · exact round_yn s x w hl' T P hT hT64 hr hs
      · obtain ⟨S, hS, e, hS64⟩ := isB_iff.1 hs
        exact round_yy s x w hl' T P hT hT64 hr S hS hS64 e
end Go.Proofs.Ythonnpjlkcjoeaa.T
