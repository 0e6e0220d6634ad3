/- A list of bytes that came in, opened: its cells, its bounds. -/
import Derived.Test.YthonnpjlkcjoeaaBase
import Derived.Test.YthonnpjlkcjoeaaProg
import Derived.ProofKit
import Derived.Deep.Slices
import Derived.SizedLaws
import Derived.OpenShut
namespace Go.Proofs.Ythonnpjlkcjoeaa.B
open Go.RowKit Go.ChangeShapes Go.WideShapes Go.Deep

section
variable {H : Type} {enc : TypeId × Value → H} {W : World}

set_option maxRecDepth 100000 in
theorem open_bytes {fuel : Nat} {A : Option Addr} {len cap : Nat} {x : DataW H × List MemPlace}
    (h : DataW.trod enc Try.prog W 0 (fun _ => true) true fuel 42 [.slice A len cap] = some x) (hsz : ∀ n ∈ x.1.weights Try.prog 42, n ≤ reachBytes) :
    ∃ l : List Int, l.length = len ∧ Sl W W.heap.size 1 A l.length (l.map (Value.int .u8)) ∧ (∀ z ∈ l, 0 ≤ z ∧ z ≤ 255) ∧ len ≤ reachBytes := by
  rcases open_slice Try.underlying42 h with ⟨hcs, hx⟩ | ⟨a, len', cap', m, n, D, Pl, hcs, _, hl, hm, hmm, hx, hi⟩
  · simp only [List.cons.injEq, Value.slice.injEq, and_true] at hcs
    obtain ⟨rfl, rfl, rfl⟩ := hcs
    exact ⟨[], rfl, Sl.nil _ _ _ _, by simp, by simp⟩
  · simp only [List.cons.injEq, Value.slice.injEq, and_true] at hcs
    obtain ⟨rfl, rfl, rfl⟩ := hcs
    have hle : len ≤ m := by rw [hmm]; simpa using hl
    have c1 : Try.prog.cellsOf 5 = 1 := by kernel_rfl
    have b1 : Try.prog.bytesOf 5 = 1 := by kernel_rfl
    have hx1 : x.1 = .slice ((List.range len).map D) ((List.range (m - len)).map fun j => D (len + j)) := by rw [hx]
    rw [hx1] at hsz
    simp only [DataW.weights, Try.underlying42, List.mem_cons, List.mem_append, b1, List.length_map, List.length_range] at hsz
    have hlen := hsz _ (.inl rfl)
    have key : ∀ i, i < len → ∃ z : Int, (0 ≤ z ∧ z ≤ 255) ∧ W.cell? (a.add i) = some (.int .u8 z) := by
      intro i hil
      obtain ⟨cs', hc, ht⟩ := hi i (by omega)
      rw [c1] at hc
      obtain ⟨_, hcl, hat⟩ := World.cells?_some hc
      obtain ⟨z, rfl, _, wz⟩ := DataW.trod_int Try.underlying5 ht
      refine ⟨z, bounds_u8 wz, ?_⟩
      have := hat 0 (by omega)
      simpa [Go.Deep.add_add] using this
    obtain ⟨f, hf⟩ := choose_lt key
    refine ⟨(List.range len).map f, by simp, ⟨by simp, ?_⟩, ?_, by omega⟩
    · rcases Nat.eq_zero_or_pos len with h0 | h0
      · exact .inl (by simp; exact h0)
      · right
        obtain ⟨b, o, spot⟩ := a
        have hc0 := (hf 0 h0).2
        have hspot : spot = none := by simpa [Addr.add] using World.cell?_spot hc0
        subst hspot
        refine ⟨b, o, rfl, by have := World.block_lt_of_cell? W _ hc0; simpa [Addr.add] using this, fun j u hu => ?_⟩
        obtain ⟨hjl, hju⟩ := List.getElem?_eq_some_iff.1 hu
        have hj : j < len := by simpa using hjl
        have := (hf j hj).2
        simp only [List.getElem_map, List.getElem_range] at hju
        subst hju
        simp only [Addr.add] at this
        split at this
        · subst_vars; exact this
        · exact this
    · intro z hz
      obtain ⟨i, hi, rfl⟩ := List.mem_map.1 hz
      exact (hf i (List.mem_range.1 hi)).1
end

end Go.Proofs.Ythonnpjlkcjoeaa.B
