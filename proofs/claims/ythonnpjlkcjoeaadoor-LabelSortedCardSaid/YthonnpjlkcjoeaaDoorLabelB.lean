/- Contracts: wide (are the sites more than is asked for?), CopySites, Rule, lives. -/
import Derived.Test.YthonnpjlkcjoeaaDoorLabelA
namespace Go.Proofs.YthonnpjlkcjoeaaDoor.La
open Go.RowKit Go.Proofs.YthonnpjlkcjoeaaDoor.B
set_option linter.unusedSimpArgs false
set_option linter.unusedVariables false

def WideR (l : List Site) (w : World) (e : Ending) (w' : World) : Prop := ∃ b : Bool, e = .returned (.bool b) ∧ (b = false → l.length ≤ 2048) ∧ Below w.heap.size w w'

theorem wide_any (l : List Site) (A : Option Addr) (c : Nat) (w : World) (hl : l.length ≤ 9223372036854775807 / 56) (hok : ∀ s ∈ l, s.mo.size ≤ 140737488351232 ∧ s.ex.size ≤ 140737488351232)
    (hA : Sl w w.heap.size 5 A l.length (cells l)) :
    Calls Tryd.prog 7 #[.slice A l.length c] w fun e w' => WideR l w e w' := by
  go_enter Tryd.func7, Tryd.ntmps7
  go_wp2
  go_loopw [3, 4] (fun n i wr => ∃ (k : Nat) (N : Int), k ≤ l.length ∧ i = .int .i64 k ∧ n = .int .i64 N ∧ (l.length : Int) ≤ N ∧ N ≤ 4611686018427387904 ∧ ∃ m, wr = w.drewN m) (fun _ i _ => l.length - (intOf i).toNat)
  case atStart => exact ⟨0, l.length, Nat.zero_le _, rfl, rfl, by omega, by omega, 0, rfl⟩
  case round =>
    obtain ⟨k, N, hk, rfl, rfl, h1, h2, m, rfl⟩ := hrel
    by_cases hlt : k < l.length
    · by_cases hn : N ≤ 1048576
      · obtain ⟨s, hs⟩ : ∃ s, l[k]? = some s := ⟨_, List.getElem?_eq_getElem hlt⟩
        obtain ⟨b, o, rfl, hb, c0, c1, _⟩ := site_cells hA hs
        obtain ⟨b0, b1⟩ := hok s (List.mem_of_getElem? hs)
        go_wp2
        go_quiet (fail)
        go_wp2
        go_roundw
        case rel => exact ⟨k + 1, N + s.mo.size + s.ex.size, by omega, by go_num, rfl, by omega, by omega, m + nq, rfl⟩
        case measure => simp [intOf]; omega
      · have hn' : ¬ N ≤ 1048576 := hn
        have hd : decide (N ≤ 1048576) = false := by simpa using hn
        go_wp2
        go_ret
        exact ⟨true, by simp <;> omega, by simp, below_drewN (Below.refl _ _) _⟩
    · have hd : decide ((k : Int) < (l.length : Int)) = false := by simp; omega
      by_cases hn : N ≤ 1048576
      · by_cases hm : 2048 < l.length
        · go_wp2
          go_ret
          exact ⟨true, by simp <;> omega, by simp, below_drewN (Below.refl _ _) _⟩
        · go_wp2
          go_ret
          exact ⟨false, by simp <;> omega, by intro; omega, below_drewN (Below.refl _ _) _⟩
      · go_wp2
        go_ret
        exact ⟨true, by simp <;> omega, by simp, below_drewN (Below.refl _ _) _⟩

theorem cells_one (l : List Site) : ∀ u ∈ cells l, u.oneCell' = true := by
  intro u hu
  obtain ⟨s, _, hs⟩ := List.mem_flatMap.1 hu
  simp [Site.vs] at hs
  rcases hs with rfl | rfl | rfl | rfl | rfl <;> rfl

end Go.Proofs.YthonnpjlkcjoeaaDoor.La
