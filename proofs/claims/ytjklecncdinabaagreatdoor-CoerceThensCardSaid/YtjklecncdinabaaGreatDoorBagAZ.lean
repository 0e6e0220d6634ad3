/- A bag of lists: what adding a list leaves. -/
import Derived.Test.YtjklecncdinabaaGreatDoorProg
import Derived.Test.YtjklecncdinabaaGreatDoorBag
import Derived.Lib.Hide
import Derived.Deep.QuietTactic
import Derived.BigQuiet
import Derived.Deep.LoopGhost
namespace Go.Proofs.YtjklecncdinabaaGreatDoor.B
open Go.RowKit
set_option linter.unusedSimpArgs false
set_option linter.unusedVariables false

theorem info_parts3 {P : Program} {e : TypeId} {z : Value} {sz by_ : Nat} (h : (P.info? e).map (fun i => (i.zero, i.size, i.bytes)) = some (some z, sz, by_)) : ∃ i, P.info? e = some i ∧ i.zero = some z ∧ i.size = sz ∧ i.bytes = by_ := by
  obtain ⟨i, hi, h⟩ := Option.map_eq_some_iff.1 h
  simp only [Prod.mk.injEq] at h
  exact ⟨i, hi, h.1, h.2.1, h.2.2⟩

/-- Behind AddX: the bag's kind q has one list more. -/
def AddR (gb base q n : Nat) (TB TL : TypeId) (f : Nat → Value) (vs : List Value) (l : Value) (w : World) (e : Ending) (w' : World) : Prop :=
  e = .returned (.tuple #[]) ∧ ∃ f', w'.rowIs gb TB 18 f' ∧ (∀ k, k ≠ q → f' k = f k) ∧ w'.ownsRow base TL 1 (f' q) (n + 1) (vs ++ [l]) ∧ Below gb w w'

theorem infoLInts : (Tryz.prog.info? 109).map (fun i => (i.zero, i.size, i.bytes)) = some (some (.slice none 0 0), 1, 24) := by kernel_rfl

end Go.Proofs.YtjklecncdinabaaGreatDoor.B
