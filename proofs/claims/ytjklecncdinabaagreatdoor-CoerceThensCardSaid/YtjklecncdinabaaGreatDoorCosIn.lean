/- A list of coercions' nodes that came in, opened: its cells, its bounds. -/
import Derived.Test.YtjklecncdinabaaGreatDoorCoA
import Derived.Test.YtjklecncdinabaaGreatDoorProg
import Derived.ProofKit
import Derived.Deep.Slices
import Derived.SizedLaws
import Derived.OpenShut
namespace Go.Proofs.YtjklecncdinabaaGreatDoor.C
open Go.RowKit Go.Proofs.YtjklecncdinabaaGreatDoor.B Go.ChangeShapes Go.WideShapes Go.Deep
set_option linter.unusedVariables false

section
variable {H : Type} {enc : TypeId × Value → H} {W : World}

set_option maxRecDepth 100000 in
theorem open_nd {fuel : Nat} {cs : List Value} {x : DataW H × List MemPlace} {base : Nat} {spare : Nat → Bool} {held : Bool}
    (h : DataW.trod enc Tryz.prog W base spare held fuel 28 cs = some x) :
    ∃ s : Nd, cs = s.vs ∧ s.ok := by
  obtain ⟨ys, n, _, hx, hlen, hyl, hf⟩ := DataW.trod_struct Tryz.underlying28 h
  have hl7 : cs.length = 7 := hlen.trans (by kernel_rfl)
  have c_int8 : Tryz.prog.cellsOf 26 = 1 := by kernel_rfl
  have c_int64 : Tryz.prog.cellsOf 2 = 1 := by kernel_rfl
  have c_bool : Tryz.prog.cellsOf 4 = 1 := by kernel_rfl
  have c_uint8 : Tryz.prog.cellsOf 5 = 1 := by kernel_rfl
  match cs, hl7, ys, hyl with
  | [a0, a1, a2, a3, a4, a5, a6], _, [y0, y1, y2, y3, y4, y5, y6], _ =>
    have h0 : DataW.trod enc Tryz.prog W base spare held n 26 ((([a0, a1, a2, a3, a4, a5, a6] : List Value).drop 0).take (Tryz.prog.cellsOf 26)) = some y0 := hf 0 _ rfl
    rw [c_int8] at h0
    have h1 : DataW.trod enc Tryz.prog W base spare held n 2 ((([a0, a1, a2, a3, a4, a5, a6] : List Value).drop 1).take (Tryz.prog.cellsOf 2)) = some y1 := hf 1 _ rfl
    rw [c_int64] at h1
    have h2 : DataW.trod enc Tryz.prog W base spare held n 4 ((([a0, a1, a2, a3, a4, a5, a6] : List Value).drop 2).take (Tryz.prog.cellsOf 4)) = some y2 := hf 2 _ rfl
    rw [c_bool] at h2
    have h3 : DataW.trod enc Tryz.prog W base spare held n 5 ((([a0, a1, a2, a3, a4, a5, a6] : List Value).drop 3).take (Tryz.prog.cellsOf 5)) = some y3 := hf 3 _ rfl
    rw [c_uint8] at h3
    have h4 : DataW.trod enc Tryz.prog W base spare held n 2 ((([a0, a1, a2, a3, a4, a5, a6] : List Value).drop 4).take (Tryz.prog.cellsOf 2)) = some y4 := hf 4 _ rfl
    rw [c_int64] at h4
    have h5 : DataW.trod enc Tryz.prog W base spare held n 5 ((([a0, a1, a2, a3, a4, a5, a6] : List Value).drop 5).take (Tryz.prog.cellsOf 5)) = some y5 := hf 5 _ rfl
    rw [c_uint8] at h5
    have h6 : DataW.trod enc Tryz.prog W base spare held n 5 ((([a0, a1, a2, a3, a4, a5, a6] : List Value).drop 6).take (Tryz.prog.cellsOf 5)) = some y6 := hf 6 _ rfl
    rw [c_uint8] at h6
    obtain ⟨v0, e0, x0, w0⟩ := DataW.trod_int Tryz.underlying26 h0
    obtain ⟨v1, e1, x1, w1⟩ := DataW.trod_int Tryz.underlying2 h1
    obtain ⟨v2, e2, x2⟩ := DataW.trod_bool Tryz.underlying4 h2
    obtain ⟨v3, e3, x3, w3⟩ := DataW.trod_int Tryz.underlying5 h3
    obtain ⟨v4, e4, x4, w4⟩ := DataW.trod_int Tryz.underlying2 h4
    obtain ⟨v5, e5, x5, w5⟩ := DataW.trod_int Tryz.underlying5 h5
    obtain ⟨v6, e6, x6, w6⟩ := DataW.trod_int Tryz.underlying5 h6
    simp only [List.drop_zero, List.drop_succ_cons, List.take_succ_cons, List.take_zero, List.cons.injEq, and_true] at e0 e1 e2 e3 e4 e5 e6
    subst e0 e1 e2 e3 e4 e5 e6
    have b0 := bounds_i8 w0
    have b1 := bounds_i64 w1
    have b3 := bounds_u8 w3
    have b4 := bounds_i64 w4
    have b5 := bounds_u8 w5
    have b6 := bounds_u8 w6
    exact ⟨⟨v0, v1, v2, v3, v4, v5, v6⟩, rfl, ⟨b0.1, b0.2, b1.1, b1.2, b3.1, b3.2, b4.1, b4.2, b5.1, b5.2, b6.1, b6.2⟩⟩

theorem open_cos {fuel : Nat} {A : Option Addr} {len cap : Nat} {x : DataW H × List MemPlace}
    (h : DataW.trod enc Tryz.prog W 0 (fun _ => true) true fuel 22 [.slice A len cap] = some x) (hsz : ∀ n ∈ x.1.weights Tryz.prog 22, n ≤ reachBytes) :
    ∃ l : List Nd, l.length = len ∧ Sl W W.heap.size 7 A len (nds l) ∧ (∀ s ∈ l, s.ok) ∧ True ∧ len * 40 ≤ reachBytes ∧ len ≤ cap ∧ cap ≤ maxLen := by
  rcases open_slice Tryz.underlying22 h with ⟨hcs, hx⟩ | ⟨a, len', cap', m, n, D, Pl, hcs, _, hl, hm, hmm, hx, hi⟩
  · simp only [List.cons.injEq, Value.slice.injEq, and_true] at hcs
    obtain ⟨rfl, rfl, rfl⟩ := hcs
    exact ⟨[], rfl, Sl.nil _ _ _ _, by simp, trivial, by simp, Nat.le_refl _, by unfold maxLen; omega⟩
  · simp only [List.cons.injEq, Value.slice.injEq, and_true] at hcs
    obtain ⟨rfl, rfl, rfl⟩ := hcs
    have hle : len ≤ m := by rw [hmm]; simpa using hl
    have c71 : Tryz.prog.cellsOf 28 = 7 := by kernel_rfl
    have b71 : Tryz.prog.bytesOf 28 = 40 := by kernel_rfl
    have hx1 : x.1 = .slice ((List.range len).map D) ((List.range (m - len)).map fun j => D (len + j)) := by rw [hx]
    rw [hx1] at hsz
    simp only [DataW.weights, Tryz.underlying22, List.mem_cons, List.mem_append, b71, List.length_map, List.length_range] at hsz
    have hlen := hsz _ (.inl rfl)
    have key : ∀ i, i < len → ∃ s : Nd, s.ok ∧ ∀ j, j < 7 → W.cell? (a.add (i * 7 + j)) = s.vs[j]? := by
      intro i hil
      obtain ⟨cs', hc, ht⟩ := hi i (by omega)
      rw [c71] at hc
      obtain ⟨_, hcl, hat⟩ := World.cells?_some hc
      obtain ⟨s, rfl, hok⟩ := open_nd ht
      refine ⟨s, hok, fun j hj => ?_⟩
      rw [← Go.Deep.add_add, hat j hj]
    have : Inhabited Nd := ⟨⟨0, 0, false, 0, 0, 0, 0⟩⟩
    obtain ⟨f, hf⟩ := choose_lt key
    refine ⟨(List.range len).map f, by simp, ⟨by rw [nds_len]; simp, ?_⟩, ?_, trivial, by omega, hl, hm⟩
    · rcases Nat.eq_zero_or_pos len with h0 | h0
      · exact .inl h0
      · right
        obtain ⟨b, o, spot⟩ := a
        have hc0 : W.cell? ((⟨b, o, spot⟩ : Addr).add 0) = some (.int .i8 (f 0).op) := (hf 0 h0).2 0 (by omega)
        have hspot : spot = none := by simpa [Addr.add] using World.cell?_spot hc0
        subst hspot
        refine ⟨b, o, rfl, by have := World.block_lt_of_cell? W _ hc0; simpa [Addr.add] using this, fun j u hu => ?_⟩
        have hjl : j < len * 7 := by
          have := (List.getElem?_eq_some_iff.1 hu).1
          rw [nds_len] at this; simpa using this
        have hk : j / 7 < len := by omega
        have := (hf (j / 7) hk).2 (j % 7) (by omega)
        rw [add_flat, show j / 7 * 7 + j % 7 = j by omega] at this
        rw [this, ← nds_at _ (j / 7) _ (j % 7) (by rw [List.getElem?_map, List.getElem?_range hk]; rfl) (by omega), show j / 7 * 7 + j % 7 = j by omega, hu]
    · intro s hs
      obtain ⟨i, hi, rfl⟩ := List.mem_map.1 hs
      exact (hf i (List.mem_range.1 hi)).1
end

end Go.Proofs.YtjklecncdinabaaGreatDoor.C
