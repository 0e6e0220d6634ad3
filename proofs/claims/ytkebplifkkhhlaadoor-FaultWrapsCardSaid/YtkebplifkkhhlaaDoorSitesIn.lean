/- A list of sites that came in, opened: its cells, its bounds. -/
import Derived.Test.YtkebplifkkhhlaaDoorSites
import Derived.Test.YtkebplifkkhhlaaDoorProg
import Derived.ProofKit
import Derived.Deep.Slices
import Derived.SizedLaws
import Derived.OpenShut
namespace Go.Proofs.YtkebplifkkhhlaaDoor.La
open Go.RowKit Go.Proofs.YtkebplifkkhhlaaDoor.B Go.ChangeShapes Go.WideShapes Go.Deep

theorem weightsAll_mem {H : Type} {P : Program} {e : TypeId} {d : DataW H} {n : Nat} : ∀ {ds : List (DataW H)}, d ∈ ds → n ∈ d.weights P e → n ∈ DataW.weightsAll P e ds
  | [], h, _ => by simp at h
  | x :: r, h, hn => by
    simp only [DataW.weightsAll, List.mem_append]
    rcases List.mem_cons.1 h with rfl | h
    · exact .inl hn
    · exact .inr (weightsAll_mem h hn)

theorem take_one {cs : List Value} {n j : Nat} (hl : cs.length = n) (hj : j < n) : (cs.drop j).take 1 = [cs[j]'(by omega)] := by
  rw [List.drop_eq_getElem_cons (by omega)]; rfl

section
variable {H : Type} {enc : TypeId × Value → H} {W : World}

set_option maxRecDepth 100000 in
/-- One site's cells, as read. -/
theorem open_site {fuel : Nat} {cs : List Value} {x : DataW H × List MemPlace} {base : Nat} {spare : Nat → Bool} {held : Bool}
    (h : DataW.trod enc Tryd.prog W base spare held fuel 36 cs = some x) :
    ∃ s : Site, cs = s.vs ∧ s.ok ∧ s.mo.size ∈ x.1.weights Tryd.prog 36 ∧ s.ex.size ∈ x.1.weights Tryd.prog 36 := by
  obtain ⟨ys, n, _, hx, hlen, hyl, hf⟩ := DataW.trod_struct Tryd.underlying36 h
  have hl5 : cs.length = 5 := hlen.trans (by kernel_rfl)
  have c9 : Tryd.prog.cellsOf 9 = 1 := by kernel_rfl
  have c3 : Tryd.prog.cellsOf 3 = 1 := by kernel_rfl
  have c29 : Tryd.prog.cellsOf 34 = 2 := by kernel_rfl
  match cs, hl5, ys, hyl with
  | [a0, a1, a2, a3, a4], _, [y0, y1, y2, y3], _ =>
    have h0 : DataW.trod enc Tryd.prog W base spare held n 9 ((([a0, a1, a2, a3, a4] : List Value).drop 0).take (Tryd.prog.cellsOf 9)) = some y0 := hf 0 _ rfl
    have h1 : DataW.trod enc Tryd.prog W base spare held n 9 ((([a0, a1, a2, a3, a4] : List Value).drop 1).take (Tryd.prog.cellsOf 9)) = some y1 := hf 1 _ rfl
    have h2 : DataW.trod enc Tryd.prog W base spare held n 34 ((([a0, a1, a2, a3, a4] : List Value).drop 2).take (Tryd.prog.cellsOf 34)) = some y2 := hf 2 _ rfl
    have h3 : DataW.trod enc Tryd.prog W base spare held n 3 ((([a0, a1, a2, a3, a4] : List Value).drop 4).take (Tryd.prog.cellsOf 3)) = some y3 := hf 3 _ rfl
    rw [c9] at h0 h1
    rw [c29] at h2
    rw [c3] at h3
    obtain ⟨s0, e0, x0, m0⟩ := DataW.trod_string Tryd.underlying9 h0
    obtain ⟨s1, e1, x1, m1⟩ := DataW.trod_string Tryd.underlying9 h1
    obtain ⟨r, er, xr, wr⟩ := DataW.trod_int Tryd.underlying3 h3
    obtain ⟨zs, n', _, hz, _, hzl, hg⟩ := DataW.trod_struct Tryd.underlying34 h2
    match zs, hzl with
    | [z0, z1], _ =>
      have g0 : DataW.trod enc Tryd.prog W base spare held n' 3 (((([a0, a1, a2, a3, a4] : List Value).drop 2).take 2 |>.drop 0).take (Tryd.prog.cellsOf 3)) = some z0 := hg 0 _ rfl
      have g1 : DataW.trod enc Tryd.prog W base spare held n' 3 (((([a0, a1, a2, a3, a4] : List Value).drop 2).take 2 |>.drop 1).take (Tryd.prog.cellsOf 3)) = some z1 := hg 1 _ rfl
      rw [c3] at g0 g1
      obtain ⟨li, el, xl, wl⟩ := DataW.trod_int Tryd.underlying3 g0
      obtain ⟨co, ec, xc, wc⟩ := DataW.trod_int Tryd.underlying3 g1
      simp only [List.drop_zero, List.drop_succ_cons, List.take_succ_cons, List.take_zero, List.cons.injEq, and_true] at e0 e1 er el ec
      subst e0 e1 er el ec
      have br := bounds_i64 wr
      have bl := bounds_i64 wl
      have bc := bounds_i64 wc
      refine ⟨⟨s0, s1, li, co, r⟩, rfl, ⟨m0, m1, bl.1, bl.2, bc.1, bc.2, br.1, br.2⟩, ?_, ?_⟩
      · rw [hx]
        unfold DataW.weights
        rw [Tryd.underlying36]
        exact DataW.weights_mem_each (j := 0) (t := 9) (d := y0.1) rfl rfl _ (by rw [x0]; exact List.mem_singleton.2 (by simp))
      · rw [hx]
        unfold DataW.weights
        rw [Tryd.underlying36]
        exact DataW.weights_mem_each (j := 1) (t := 9) (d := y1.1) rfl rfl _ (by rw [x1]; exact List.mem_singleton.2 (by simp))

theorem open_sites {fuel : Nat} {A : Option Addr} {len cap : Nat} {x : DataW H × List MemPlace}
    (h : DataW.trod enc Tryd.prog W 0 (fun _ => true) true fuel 22 [.slice A len cap] = some x) (hsz : ∀ n ∈ x.1.weights Tryd.prog 22, n ≤ reachBytes) :
    ∃ l : List Site, l.length = len ∧ Sl W W.heap.size 5 A len (cells l) ∧ (∀ s ∈ l, s.ok) ∧ (∀ s ∈ l, s.mo.size ≤ reachBytes ∧ s.ex.size ≤ reachBytes) ∧ len * 56 ≤ reachBytes ∧ len ≤ cap ∧ cap ≤ maxLen := by
  rcases open_slice Tryd.underlying22 h with ⟨hcs, hx⟩ | ⟨a, len', cap', m, n, D, Pl, hcs, _, hl, hm, hmm, hx, hi⟩
  · simp only [List.cons.injEq, Value.slice.injEq, and_true] at hcs
    obtain ⟨rfl, rfl, rfl⟩ := hcs
    exact ⟨[], rfl, Sl.nil _ _ _ _, by simp, by simp, by simp, Nat.le_refl _, by unfold maxLen; omega⟩
  · simp only [List.cons.injEq, Value.slice.injEq, and_true] at hcs
    obtain ⟨rfl, rfl, rfl⟩ := hcs
    have hle : len ≤ m := by rw [hmm]; simpa using hl
    have c31 : Tryd.prog.cellsOf 36 = 5 := by kernel_rfl
    have b31 : Tryd.prog.bytesOf 36 = 56 := by kernel_rfl
    have hx1 : x.1 = .slice ((List.range len).map D) ((List.range (m - len)).map fun j => D (len + j)) := by rw [hx]
    rw [hx1] at hsz
    simp only [DataW.weights, Tryd.underlying22, List.mem_cons, List.mem_append, b31, List.length_map, List.length_range] at hsz
    have hlen := hsz _ (.inl rfl)
    have key : ∀ i, i < len → ∃ s : Site, s.ok ∧ (s.mo.size ≤ reachBytes ∧ s.ex.size ≤ reachBytes) ∧ ∀ j, j < 5 → W.cell? (a.add (i * 5 + j)) = s.vs[j]? := by
      intro i hil
      obtain ⟨cs', hc, ht⟩ := hi i (by omega)
      rw [c31] at hc
      obtain ⟨_, hcl, hat⟩ := World.cells?_some hc
      obtain ⟨s, rfl, hok, w0, w1⟩ := open_site ht
      have hd : D i ∈ (List.range len).map D := List.mem_map.2 ⟨i, List.mem_range.2 hil, rfl⟩
      refine ⟨s, hok, ⟨hsz _ (.inr (.inl (weightsAll_mem hd w0))), hsz _ (.inr (.inl (weightsAll_mem hd w1)))⟩, fun j hj => ?_⟩
      rw [← Go.Deep.add_add, hat j hj]
    have : Inhabited Site := ⟨⟨⟨#[]⟩, ⟨#[]⟩, 0, 0, 0⟩⟩
    obtain ⟨f, hf⟩ := choose_lt key
    refine ⟨(List.range len).map f, by simp, ⟨by rw [cells_len]; simp, ?_⟩, ?_, ?_, by omega, hl, hm⟩
    · rcases Nat.eq_zero_or_pos len with h0 | h0
      · exact .inl h0
      · right
        obtain ⟨b, o, spot⟩ := a
        have hc0 : W.cell? ((⟨b, o, spot⟩ : Addr).add 0) = some (.string (f 0).mo) := (hf 0 h0).2.2 0 (by omega)
        have hspot : spot = none := by simpa [Addr.add] using World.cell?_spot hc0
        subst hspot
        refine ⟨b, o, rfl, by have := World.block_lt_of_cell? W _ hc0; simpa [Addr.add] using this, fun j u hu => ?_⟩
        have hjl : j < len * 5 := by
          have := (List.getElem?_eq_some_iff.1 hu).1
          rw [cells_len] at this; simpa using this
        have hk : j / 5 < len := by omega
        have := (hf (j / 5) hk).2.2 (j % 5) (by omega)
        rw [add_flat, show j / 5 * 5 + j % 5 = j by omega] at this
        rw [this, ← cells_at _ (j / 5) _ (j % 5) (by rw [List.getElem?_map, List.getElem?_range hk]; rfl) (by omega), show j / 5 * 5 + j % 5 = j by omega, hu]
    · intro s hs
      obtain ⟨i, hi, rfl⟩ := List.mem_map.1 hs
      exact (hf i (List.mem_range.1 hi)).1
    · intro s hs
      obtain ⟨i, hi, rfl⟩ := List.mem_map.1 hs
      exact (hf i (List.mem_range.1 hi)).2.1
end

end Go.Proofs.YtkebplifkkhhlaaDoor.La
