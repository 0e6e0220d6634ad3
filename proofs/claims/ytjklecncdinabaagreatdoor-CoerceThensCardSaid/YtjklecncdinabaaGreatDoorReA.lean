/- Contracts of the small functions of package relate, of its answer and of its statements. (printed by cutref.py out of XRelA.) -/
import Derived.Test.YtjklecncdinabaaGreatDoorTyA
namespace Go.Proofs.YtjklecncdinabaaGreatDoor.T
open Go.RowKit Go.Proofs.YtjklecncdinabaaGreatDoor.B
set_option linter.unusedSimpArgs false
set_option linter.unusedVariables false

theorem isRel_any (s : ByteArray) (w : World) (hs : s.size ≤ 4611686018427387904) : Calls Tryz.prog 80 #[.string s] w fun e w' => e = .returned (.bool (isB s)) ∧ w = w' := by
  have hc := check_any s w hs
  unfold isB
  generalize checkL s.data.toList = R at *
  obtain ⟨a, b⟩ := R
  simp only at hc ⊢
  go_enter Tryz.func80, Tryz.ntmps80
  go_wp2_with (go_at_call 65; refine hc.mono ?_; rintro e w' ⟨rfl, rfl⟩)
  go_ret
  exact ⟨retV (congrArg Value.bool (by rw [Bool.eq_iff_iff]; simp)), rfl⟩
end Go.Proofs.YtjklecncdinabaaGreatDoor.T
