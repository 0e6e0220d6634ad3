/- Lists of texts: EqTexts. -/
import Derived.Test.YtkebplifkkhhlaaDoorBase
import Derived.Test.YtkebplifkkhhlaaDoorProg
import Derived.Deep.LoopGhost
import Derived.Deep.QuietTactic
import Derived.BigQuiet
import Derived.Laws.MakeOwn
import Derived.Deep.OwnRows
namespace Go.Proofs.YtkebplifkkhhlaaDoor.T
open Go.RowKit Go.Proofs.YtkebplifkkhhlaaDoor.B
set_option linter.unusedSimpArgs false
set_option linter.unusedVariables false

abbrev tvals (l : List ByteArray) : List Value := l.map Value.string
theorem text_cell {w W : World} {l : List ByteArray} {A : Option Addr} (hA : Sl w w.heap.size 1 A l.length (tvals l)) (hb : Below w.heap.size w W) {k : Nat} {s : ByteArray} (hs : l[k]? = some s) : ∃ b o, A = some ⟨b, o, none⟩ ∧ b < w.heap.size ∧ W.cell? ⟨b, o + k, none⟩ = some (.string s) := by
  obtain ⟨b, o, rfl, hlt, hc⟩ := hA.at_ (by have := (List.getElem?_eq_some_iff.1 hs).1; omega)
  exact ⟨b, o, rfl, hlt, (hb.cell (p := ⟨b, o + k, none⟩) hlt).trans (hc k _ (by simp [tvals, hs]))⟩

theorem eqTexts_any (l : List ByteArray) (A A' : Option Addr) (c c' : Nat) (w : World) (hl : l.length ≤ 2147483647) (hA : Sl w w.heap.size 1 A l.length (tvals l)) (hA' : Sl w w.heap.size 1 A' l.length (tvals l)) :
    Calls Tryd.prog 31 #[.slice A l.length c, .slice A' l.length c'] w fun e w' => e = .returned (.bool true) ∧ Below w.heap.size w w' := by
  go_enter Tryd.func31, Tryd.ntmps31
  go_wp2_with fail
  go_loopg [5] l.length (fun g i wr => ∃ k : Nat, k ≤ l.length ∧ g = l.length - k ∧ i = .int .i64 k ∧ ∃ m, wr = w.drewN m)
  case atStart => exact ⟨0, by omega, rfl, rfl, 0, rfl⟩
  case round =>
    obtain ⟨k, hk, rfl, rfl, m, rfl⟩ := hrel
    by_cases h1 : k < l.length
    · obtain ⟨s, hs⟩ : ∃ s, l[k]? = some s := ⟨_, List.getElem?_eq_getElem h1⟩
      obtain ⟨bb, o, rfl, hbb, c0⟩ := text_cell hA (Below.refl _ _) hs
      obtain ⟨bb', o', rfl, hbb', d0⟩ := text_cell hA' (Below.refl _ _) hs
      go_wp2_with fail
      go_quiet (fail)
      go_wp2_with fail
      go_roundg (l.length - (k + 1))
      case measure => omega
      case rel => exact ⟨k + 1, by omega, rfl, by go_num, m + nq, rfl⟩
    · go_wp2_with fail
      go_ret
      exact ⟨rfl, below_drewN (Below.refl _ _) _⟩


end Go.Proofs.YtkebplifkkhhlaaDoor.T
