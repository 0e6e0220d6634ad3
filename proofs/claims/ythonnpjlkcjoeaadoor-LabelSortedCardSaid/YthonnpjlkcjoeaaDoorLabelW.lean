/- wide, and what its answer says of the sizes. -/
import Derived.Test.YthonnpjlkcjoeaaDoorLabelA
namespace Go.Proofs.YthonnpjlkcjoeaaDoor.La
open Go.RowKit Go.Proofs.YthonnpjlkcjoeaaDoor.B
set_option linter.unusedSimpArgs false
set_option linter.unusedVariables false

theorem weigh_succ {l : List Site} {k : Nat} {s : Site} (h : l[k]? = some s) : weigh l (k + 1) = weigh l k + (s.mo.size + s.ex.size) := by
  unfold weigh; rw [List.take_add_one, h]; simp
theorem le_sum {x : Nat} {l : List Nat} (h : x ∈ l) : x ≤ l.sum := by
  induction l with
  | nil => cases h
  | cons y l ih =>
    simp only [List.sum_cons]
    rcases List.mem_cons.1 h with rfl | h
    · omega
    · have := ih h; omega
theorem weigh_all {l : List Site} {s : Site} (h : s ∈ l) : s.mo.size + s.ex.size ≤ weigh l l.length := by
  unfold weigh; rw [List.take_length]; exact le_sum (List.mem_map.2 ⟨s, h, rfl⟩)

def Small (l : List Site) : Prop := l.length ≤ 2048 ∧ ∀ s ∈ l, s.mo.size ≤ 1048576 ∧ s.ex.size ≤ 1048576
def WideS (l : List Site) (w : World) (e : Ending) (w' : World) : Prop := ∃ b : Bool, e = .returned (.bool b) ∧ (b = false → Small l) ∧ Below w.heap.size w w'

theorem wideS_any (l : List Site) (A : Option Addr) (c : Nat) (w : World) (hl : l.length ≤ 9223372036854775807 / 56) (hok : ∀ s ∈ l, s.mo.size ≤ 140737488351232 ∧ s.ex.size ≤ 140737488351232)
    (hA : Sl w w.heap.size 5 A l.length (cells l)) :
    Calls Tryd.prog 7 #[.slice A l.length c] w fun e w' => WideS l w e w' := by
  go_enter Tryd.func7, Tryd.ntmps7
  go_wp2
  go_loopw [3, 4] (fun n i wr => ∃ (k N : Nat), k ≤ l.length ∧ i = .int .i64 k ∧ n = .int .i64 N ∧ Hid (N = l.length + weigh l k) ∧ N ≤ 4611686018427387904 ∧ ∃ m, wr = w.drewN m) (fun _ i _ => l.length - (intOf i).toNat)
  case atStart => exact ⟨0, l.length, Nat.zero_le _, rfl, rfl, Lib.hid (by simp [weigh]), by omega, 0, rfl⟩
  case round =>
    obtain ⟨k, N, hk, rfl, rfl, HN, h2, m, rfl⟩ := hrel
    by_cases hlt : k < l.length
    · by_cases hn : N ≤ 1048576
      · obtain ⟨s, hs⟩ : ∃ s, l[k]? = some s := ⟨_, List.getElem?_eq_getElem hlt⟩
        obtain ⟨b, o, rfl, hb, c0, c1, _⟩ := site_cells hA hs
        obtain ⟨b0, b1⟩ := hok s (List.mem_of_getElem? hs)
        have HW := Lib.hid (weigh_succ hs)
        clear hs
        go_wp2
        go_quiet (fail)
        go_wp2
        go_roundw
        case rel => exact ⟨k + 1, N + s.mo.size + s.ex.size, by omega, by go_num, by go_num, Lib.hid (by rw [HW.out, HN.out]; omega), by omega, m + nq, rfl⟩
        case measure => simp [intOf]; omega
      · have hn' : ¬ N ≤ 1048576 := hn
        have hd : decide ((N : Int) ≤ 1048576) = false := by simp; omega
        go_wp2
        go_ret
        exact ⟨true, by simp <;> omega, by simp, below_drewN (Below.refl _ _) _⟩
    · have hd : decide ((k : Int) < (l.length : Int)) = false := by simp; omega
      obtain rfl : k = l.length := by omega
      have HF : Hid (N ≤ 1048576 → ∀ s ∈ l, s.mo.size ≤ 1048576 ∧ s.ex.size ≤ 1048576) := Lib.hid fun hn s hs => by
        have := weigh_all hs
        have := HN.out
        omega
      by_cases hn : N ≤ 1048576
      · by_cases hm : 2048 < l.length
        · go_wp2
          go_ret
          exact ⟨true, by simp <;> omega, by simp, below_drewN (Below.refl _ _) _⟩
        · go_wp2
          go_ret
          exact ⟨false, by simp <;> omega, fun _ => ⟨by omega, HF.out hn⟩, below_drewN (Below.refl _ _) _⟩
      · go_wp2
        go_ret
        exact ⟨true, by simp <;> omega, by simp, below_drewN (Below.refl _ _) _⟩
end Go.Proofs.YthonnpjlkcjoeaaDoor.La
