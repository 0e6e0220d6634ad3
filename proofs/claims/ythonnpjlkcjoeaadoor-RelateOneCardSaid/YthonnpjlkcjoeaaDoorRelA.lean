/- Contracts of the small functions of package relate, of its answer and of its statements. -/
import Derived.Test.YthonnpjlkcjoeaaDoorTypA
namespace Go.Proofs.YthonnpjlkcjoeaaDoor.T
open Go.RowKit Go.Proofs.YthonnpjlkcjoeaaDoor.B
set_option linter.unusedSimpArgs false
set_option linter.unusedVariables false

theorem isRel_any (s : ByteArray) (w : World) (hs : s.size ≤ 4611686018427387904) : Calls Tryd.prog 68 #[.string s] w fun e w' => e = .returned (.bool (isB s)) ∧ w = w' := by
  have hc := check_any s w hs
  unfold isB
  generalize checkL s.data.toList = R at *
  obtain ⟨a, b⟩ := R
  simp only at hc ⊢
  go_enter Tryd.func68, Tryd.ntmps68
  go_wp2_with (go_at_call 81; refine hc.mono ?_; rintro e w' ⟨rfl, rfl⟩)
  go_ret
  exact ⟨retV (congrArg Value.bool (by rw [Bool.eq_iff_iff]; simp)), rfl⟩
end Go.Proofs.YthonnpjlkcjoeaaDoor.T
