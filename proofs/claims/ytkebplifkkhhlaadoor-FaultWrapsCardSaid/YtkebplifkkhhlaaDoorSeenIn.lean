/- A list of what was seen that came in, opened: its cells, its bounds. -/
import Derived.Test.YtkebplifkkhhlaaDoorSitesIn
import Derived.Test.YtkebplifkkhhlaaDoorFltD
namespace Go.Proofs.YtkebplifkkhhlaaDoor.F
open Go.RowKit Go.Proofs.YtkebplifkkhhlaaDoor.B Go.Proofs.YtkebplifkkhhlaaDoor.La Go.ChangeShapes Go.WideShapes Go.Deep

theorem obs_at (l : List Ob) : ∀ (k : Nat) (s : Ob) (j : Nat), l[k]? = some s → j < 3 → (obs l)[k * 3 + j]? = s.vs[j]? := by
  induction l with
  | nil => intro k s j h; simp at h
  | cons x l ih =>
    intro k s j h hj
    have hl : x.vs.length = 3 := rfl
    cases k with
    | zero =>
      simp at h; subst h
      simp only [obs, List.flatMap_cons]
      rw [List.getElem?_append_left (by omega)]; simp
    | succ k =>
      simp at h
      have := ih k s j h hj
      simp only [obs, List.flatMap_cons] at *
      rw [List.getElem?_append_right (by omega)]
      rw [hl, show (k + 1) * 3 + j - 3 = k * 3 + j by omega]; exact this

section
variable {H : Type} {enc : TypeId × Value → H} {W : World}

set_option maxRecDepth 100000 in
theorem open_ob {fuel : Nat} {cs : List Value} {x : DataW H × List MemPlace} {base : Nat} {spare : Nat → Bool} {held : Bool}
    (h : DataW.trod enc Tryd.prog W base spare held fuel 122 cs = some x) :
    ∃ s : Ob, cs = s.vs ∧ (-9223372036854775808 ≤ s.n ∧ s.n ≤ 9223372036854775807) := by
  obtain ⟨ys, n, _, hx, hlen, hyl, hf⟩ := DataW.trod_struct Tryd.underlying122 h
  have hl3 : cs.length = 3 := hlen.trans (by kernel_rfl)
  have c9 : Tryd.prog.cellsOf 9 = 1 := by kernel_rfl
  have c2 : Tryd.prog.cellsOf 2 = 1 := by kernel_rfl
  have c8 : Tryd.prog.cellsOf 100 = 1 := by kernel_rfl
  match cs, hl3, ys, hyl with
  | [a0, a1, a2], _, [y0, y1, y2], _ =>
    have h0 : DataW.trod enc Tryd.prog W base spare held n 100 ((([a0, a1, a2] : List Value).drop 0).take (Tryd.prog.cellsOf 100)) = some y0 := hf 0 _ rfl
    have h1 : DataW.trod enc Tryd.prog W base spare held n 2 ((([a0, a1, a2] : List Value).drop 1).take (Tryd.prog.cellsOf 2)) = some y1 := hf 1 _ rfl
    have h2 : DataW.trod enc Tryd.prog W base spare held n 9 ((([a0, a1, a2] : List Value).drop 2).take (Tryd.prog.cellsOf 9)) = some y2 := hf 2 _ rfl
    rw [c8] at h0
    rw [c2] at h1
    rw [c9] at h2
    obtain ⟨kd, e0, x0, w0⟩ := DataW.trod_int Tryd.underlying100 h0
    obtain ⟨nn, e1, x1, w1⟩ := DataW.trod_int Tryd.underlying2 h1
    obtain ⟨tx, e2, x2, m2⟩ := DataW.trod_string Tryd.underlying9 h2
    simp only [List.drop_zero, List.drop_succ_cons, List.take_succ_cons, List.take_zero, List.cons.injEq, and_true] at e0 e1 e2
    subst e0 e1 e2
    have b1 := bounds_i64 w1
    exact ⟨⟨kd, nn, tx⟩, rfl, b1.1, b1.2⟩

theorem open_seen {fuel : Nat} {A : Option Addr} {len cap : Nat} {x : DataW H × List MemPlace}
    (h : DataW.trod enc Tryd.prog W 0 (fun _ => true) true fuel 23 [.slice A len cap] = some x) (hsz : ∀ n ∈ x.1.weights Tryd.prog 23, n ≤ reachBytes) :
    ∃ l : List Ob, l.length = len ∧ Sl W W.heap.size 3 A len (obs l) ∧ (∀ s ∈ l, -9223372036854775808 ≤ s.n ∧ s.n ≤ 9223372036854775807) ∧ True ∧ len * 32 ≤ reachBytes ∧ len ≤ cap ∧ cap ≤ maxLen := by
  rcases open_slice Tryd.underlying23 h with ⟨hcs, hx⟩ | ⟨a, len', cap', m, n, D, Pl, hcs, _, hl, hm, hmm, hx, hi⟩
  · simp only [List.cons.injEq, Value.slice.injEq, and_true] at hcs
    obtain ⟨rfl, rfl, rfl⟩ := hcs
    exact ⟨[], rfl, Sl.nil _ _ _ _, by simp, trivial, by simp, Nat.le_refl _, by unfold maxLen; omega⟩
  · simp only [List.cons.injEq, Value.slice.injEq, and_true] at hcs
    obtain ⟨rfl, rfl, rfl⟩ := hcs
    have hle : len ≤ m := by rw [hmm]; simpa using hl
    have c31 : Tryd.prog.cellsOf 122 = 3 := by kernel_rfl
    have b31 : Tryd.prog.bytesOf 122 = 32 := by kernel_rfl
    have hx1 : x.1 = .slice ((List.range len).map D) ((List.range (m - len)).map fun j => D (len + j)) := by rw [hx]
    rw [hx1] at hsz
    simp only [DataW.weights, Tryd.underlying23, List.mem_cons, List.mem_append, b31, List.length_map, List.length_range] at hsz
    have hlen := hsz _ (.inl rfl)
    have key : ∀ i, i < len → ∃ s : Ob, (-9223372036854775808 ≤ s.n ∧ s.n ≤ 9223372036854775807) ∧ ∀ j, j < 3 → W.cell? (a.add (i * 3 + j)) = s.vs[j]? := by
      intro i hil
      obtain ⟨cs', hc, ht⟩ := hi i (by omega)
      rw [c31] at hc
      obtain ⟨_, hcl, hat⟩ := World.cells?_some hc
      obtain ⟨s, rfl, hok⟩ := open_ob ht
      refine ⟨s, hok, fun j hj => ?_⟩
      rw [← Go.Deep.add_add, hat j hj]
    have : Inhabited Ob := ⟨⟨0, 0, ⟨#[]⟩⟩⟩
    obtain ⟨f, hf⟩ := choose_lt key
    refine ⟨(List.range len).map f, by simp, ⟨by rw [obs_len]; simp, ?_⟩, ?_, trivial, by omega, hl, hm⟩
    · rcases Nat.eq_zero_or_pos len with h0 | h0
      · exact .inl h0
      · right
        obtain ⟨b, o, spot⟩ := a
        have hc0 : W.cell? ((⟨b, o, spot⟩ : Addr).add 0) = some (.int .i8 (f 0).kd) := (hf 0 h0).2 0 (by omega)
        have hspot : spot = none := by simpa [Addr.add] using World.cell?_spot hc0
        subst hspot
        refine ⟨b, o, rfl, by have := World.block_lt_of_cell? W _ hc0; simpa [Addr.add] using this, fun j u hu => ?_⟩
        have hjl : j < len * 3 := by
          have := (List.getElem?_eq_some_iff.1 hu).1
          rw [obs_len] at this; simpa using this
        have hk : j / 3 < len := by omega
        have := (hf (j / 3) hk).2 (j % 3) (by omega)
        rw [add_flat, show j / 3 * 3 + j % 3 = j by omega] at this
        rw [this, ← obs_at _ (j / 3) _ (j % 3) (by rw [List.getElem?_map, List.getElem?_range hk]; rfl) (by omega), show j / 3 * 3 + j % 3 = j by omega, hu]
    · intro s hs
      obtain ⟨i, hi, rfl⟩ := List.mem_map.1 hs
      exact (hf i (List.mem_range.1 hi)).1
end

end Go.Proofs.YtkebplifkkhhlaaDoor.F
