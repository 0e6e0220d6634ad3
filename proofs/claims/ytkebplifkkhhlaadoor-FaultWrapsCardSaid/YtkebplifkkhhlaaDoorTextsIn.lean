/- A list of texts that came in, opened: its cells, its bounds. -/
import Derived.Test.YtkebplifkkhhlaaDoorTxE
import Derived.Test.YtkebplifkkhhlaaDoorProg
import Derived.ProofKit
import Derived.Deep.Slices
import Derived.SizedLaws
import Derived.OpenShut
namespace Go.Proofs.YtkebplifkkhhlaaDoor.T
open Go.RowKit Go.Proofs.YtkebplifkkhhlaaDoor.B Go.ChangeShapes Go.WideShapes Go.Deep
set_option linter.unusedVariables false

theorem weightsAll_of {H : Type} {P : Program} {e : TypeId} {d : DataW H} {n : Nat} : ∀ {ds : List (DataW H)}, d ∈ ds → n ∈ d.weights P e → n ∈ DataW.weightsAll P e ds
  | [], h, _ => by simp at h
  | x :: r, h, hn => by
    simp only [DataW.weightsAll, List.mem_append]
    rcases List.mem_cons.1 h with rfl | h
    · exact .inl hn
    · exact .inr (weightsAll_of h hn)

section
variable {H : Type} {enc : TypeId × Value → H} {W : World}
set_option maxRecDepth 100000 in
theorem open_texts {fuel : Nat} {A : Option Addr} {len cap : Nat} {x : DataW H × List MemPlace}
    (h : DataW.trod enc Tryd.prog W 0 (fun _ => true) true fuel 45 [.slice A len cap] = some x) (hsz : ∀ n ∈ x.1.weights Tryd.prog 45, n ≤ reachBytes) :
    ∃ l : List ByteArray, l.length = len ∧ Sl W W.heap.size 1 A len (tvals l) ∧ (∀ s ∈ l, s.size ≤ reachBytes) ∧ len * 16 ≤ reachBytes ∧ len ≤ cap ∧ cap ≤ maxLen := by
  rcases open_slice Tryd.underlying45 h with ⟨hcs, hx⟩ | ⟨a, len', cap', m, n, D, Pl, hcs, _, hl, hm, hmm, hx, hi⟩
  · simp only [List.cons.injEq, Value.slice.injEq, and_true] at hcs
    obtain ⟨rfl, rfl, rfl⟩ := hcs
    exact ⟨[], rfl, Sl.nil _ _ _ _, by simp, by simp, Nat.le_refl _, by unfold maxLen; omega⟩
  · simp only [List.cons.injEq, Value.slice.injEq, and_true] at hcs
    obtain ⟨rfl, rfl, rfl⟩ := hcs
    have hle : len ≤ m := by rw [hmm]; simpa using hl
    have c31 : Tryd.prog.cellsOf 9 = 1 := by kernel_rfl
    have b31 : Tryd.prog.bytesOf 9 = 16 := by kernel_rfl
    have hx1 : x.1 = .slice ((List.range len).map D) ((List.range (m - len)).map fun j => D (len + j)) := by rw [hx]
    rw [hx1] at hsz
    simp only [DataW.weights, Tryd.underlying45, List.mem_cons, List.mem_append, b31, List.length_map, List.length_range] at hsz
    have hlen := hsz _ (.inl rfl)
    have key : ∀ i, i < len → ∃ s : ByteArray, s.size ≤ reachBytes ∧ W.cell? (a.add i) = some (.string s) := by
      intro i hil
      obtain ⟨cs', hc, ht⟩ := hi i (by omega)
      rw [c31] at hc
      obtain ⟨_, hcl, hat⟩ := World.cells?_some hc
      obtain ⟨s, rfl, x0, m0⟩ := DataW.trod_string Tryd.underlying9 ht
      have hd : D i ∈ (List.range len).map D := List.mem_map.2 ⟨i, List.mem_range.2 hil, rfl⟩
      have hw : s.size ∈ (D i).weights Tryd.prog 9 := by
        have hx0 : D i = .lit (.string s.data.toList) := congrArg Prod.fst x0
        rw [hx0]
        simp [DataW.weights]
      refine ⟨s, hsz _ (.inr (.inl (weightsAll_of hd hw))), ?_⟩
      have h0 := hat 0 (by omega)
      rw [Go.Deep.add_add, Nat.mul_one, Nat.add_zero] at h0
      exact h0
    have : Inhabited ByteArray := ⟨⟨#[]⟩⟩
    obtain ⟨f, hf⟩ := choose_lt key
    refine ⟨(List.range len).map f, by simp, ⟨by simp [tvals], ?_⟩, ?_, by omega, hl, hm⟩
    · rcases Nat.eq_zero_or_pos len with h0 | h0
      · exact .inl h0
      · right
        obtain ⟨b, o, spot⟩ := a
        have hc0 := (hf 0 h0).2
        have hspot : spot = none := by simpa [Addr.add] using World.cell?_spot hc0
        subst hspot
        refine ⟨b, o, rfl, by have := World.block_lt_of_cell? W _ hc0; simpa [Addr.add] using this, fun j u hu => ?_⟩
        have hjl : j < len := by
          have := (List.getElem?_eq_some_iff.1 hu).1
          simpa [tvals] using this
        have := (hf j hjl).2
        have hv : u = .string (f j) := by simpa [tvals, hjl] using hu.symm
        rw [hv]
        rw [add_flat] at this
        exact this
    · intro s hs
      obtain ⟨i, hi, rfl⟩ := List.mem_map.1 hs
      exact (hf i (List.mem_range.1 hi)).1
end
end Go.Proofs.YtkebplifkkhhlaaDoor.T
