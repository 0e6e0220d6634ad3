/- JudgePrecise, proved: whatever the input the law returns true and leaves its arguments as they read. No condition of its own: the form's own reach alone. -/
import Derived.ProofKit
import Derived.Deep.Slices
import Derived.SizedLaws
import Derived.OpenShut
import Derived.ShutString
import Derived.ChangeOld
import Derived.Test.YtjklecncdinabaaP30
import Derived.Test.YtjklecncdinabaaProg
import Derived.Test.YtjklecncdinabaaP04
import Derived.Test.YtjklecncdinabaaP34
import Derived.Test.YtjklecncdinabaaRows
set_option linter.unusedVariables false
set_option linter.unusedSimpArgs false
/- SitesIn -/
namespace Go.Proofs.Ytjklecncdinabaa.La
open Go.RowKit Go.Proofs.Ytjklecncdinabaa.B Go.ChangeShapes Go.WideShapes Go.Deep

theorem weightsAll_mem {H : Type} {P : Program} {e : TypeId} {d : DataW H} {n : Nat} : ∀ {ds : List (DataW H)}, d ∈ ds → n ∈ d.weights P e → n ∈ DataW.weightsAll P e ds
  | [], h, _ => by simp at h
  | x :: r, h, hn => by
    simp only [DataW.weightsAll, List.mem_append]
    rcases List.mem_cons.1 h with rfl | h
    · exact .inl hn
    · exact .inr (weightsAll_mem h hn)

theorem take_one {cs : List Value} {n j : Nat} (hl : cs.length = n) (hj : j < n) : (cs.drop j).take 1 = [cs[j]'(by omega)] := by
  rw [List.drop_eq_getElem_cons (by omega)]; rfl

section
variable {H : Type} {enc : TypeId × Value → H} {W : World}

set_option maxRecDepth 100000 in
/-- One site's cells, as read. -/
theorem open_site {fuel : Nat} {cs : List Value} {x : DataW H × List MemPlace} {base : Nat} {spare : Nat → Bool} {held : Bool}
    (h : DataW.trod enc Try.prog W base spare held fuel 52 cs = some x) :
    ∃ s : Site, cs = s.vs ∧ s.ok ∧ s.mo.size ∈ x.1.weights Try.prog 52 ∧ s.ex.size ∈ x.1.weights Try.prog 52 := by
  obtain ⟨ys, n, _, hx, hlen, hyl, hf⟩ := DataW.trod_struct Try.underlying52 h
  have hl5 : cs.length = 5 := hlen.trans (by kernel_rfl)
  have c9 : Try.prog.cellsOf 9 = 1 := by kernel_rfl
  have c3 : Try.prog.cellsOf 3 = 1 := by kernel_rfl
  have c29 : Try.prog.cellsOf 48 = 2 := by kernel_rfl
  match cs, hl5, ys, hyl with
  | [a0, a1, a2, a3, a4], _, [y0, y1, y2, y3], _ =>
    have h0 : DataW.trod enc Try.prog W base spare held n 9 ((([a0, a1, a2, a3, a4] : List Value).drop 0).take (Try.prog.cellsOf 9)) = some y0 := hf 0 _ rfl
    have h1 : DataW.trod enc Try.prog W base spare held n 9 ((([a0, a1, a2, a3, a4] : List Value).drop 1).take (Try.prog.cellsOf 9)) = some y1 := hf 1 _ rfl
    have h2 : DataW.trod enc Try.prog W base spare held n 48 ((([a0, a1, a2, a3, a4] : List Value).drop 2).take (Try.prog.cellsOf 48)) = some y2 := hf 2 _ rfl
    have h3 : DataW.trod enc Try.prog W base spare held n 3 ((([a0, a1, a2, a3, a4] : List Value).drop 4).take (Try.prog.cellsOf 3)) = some y3 := hf 3 _ rfl
    rw [c9] at h0 h1
    rw [c29] at h2
    rw [c3] at h3
    obtain ⟨s0, e0, x0, m0⟩ := DataW.trod_string Try.underlying9 h0
    obtain ⟨s1, e1, x1, m1⟩ := DataW.trod_string Try.underlying9 h1
    obtain ⟨r, er, xr, wr⟩ := DataW.trod_int Try.underlying3 h3
    obtain ⟨zs, n', _, hz, _, hzl, hg⟩ := DataW.trod_struct Try.underlying48 h2
    match zs, hzl with
    | [z0, z1], _ =>
      have g0 : DataW.trod enc Try.prog W base spare held n' 3 (((([a0, a1, a2, a3, a4] : List Value).drop 2).take 2 |>.drop 0).take (Try.prog.cellsOf 3)) = some z0 := hg 0 _ rfl
      have g1 : DataW.trod enc Try.prog W base spare held n' 3 (((([a0, a1, a2, a3, a4] : List Value).drop 2).take 2 |>.drop 1).take (Try.prog.cellsOf 3)) = some z1 := hg 1 _ rfl
      rw [c3] at g0 g1
      obtain ⟨li, el, xl, wl⟩ := DataW.trod_int Try.underlying3 g0
      obtain ⟨co, ec, xc, wc⟩ := DataW.trod_int Try.underlying3 g1
      simp only [List.drop_zero, List.drop_succ_cons, List.take_succ_cons, List.take_zero, List.cons.injEq, and_true] at e0 e1 er el ec
      subst e0 e1 er el ec
      have br := bounds_i64 wr
      have bl := bounds_i64 wl
      have bc := bounds_i64 wc
      refine ⟨⟨s0, s1, li, co, r⟩, rfl, ⟨m0, m1, bl.1, bl.2, bc.1, bc.2, br.1, br.2⟩, ?_, ?_⟩
      · rw [hx]
        unfold DataW.weights
        rw [Try.underlying52]
        exact DataW.weights_mem_each (j := 0) (t := 9) (d := y0.1) rfl rfl _ (by rw [x0]; exact List.mem_singleton.2 (by simp))
      · rw [hx]
        unfold DataW.weights
        rw [Try.underlying52]
        exact DataW.weights_mem_each (j := 1) (t := 9) (d := y1.1) rfl rfl _ (by rw [x1]; exact List.mem_singleton.2 (by simp))

theorem open_sites {fuel : Nat} {A : Option Addr} {len cap : Nat} {x : DataW H × List MemPlace}
    (h : DataW.trod enc Try.prog W 0 (fun _ => true) true fuel 23 [.slice A len cap] = some x) (hsz : ∀ n ∈ x.1.weights Try.prog 23, n ≤ reachBytes) :
    ∃ l : List Site, l.length = len ∧ Sl W W.heap.size 5 A len (cells l) ∧ (∀ s ∈ l, s.ok) ∧ (∀ s ∈ l, s.mo.size ≤ reachBytes ∧ s.ex.size ≤ reachBytes) ∧ len * 56 ≤ reachBytes ∧ len ≤ cap ∧ cap ≤ maxLen := by
  rcases open_slice Try.underlying23 h with ⟨hcs, hx⟩ | ⟨a, len', cap', m, n, D, Pl, hcs, _, hl, hm, hmm, hx, hi⟩
  · simp only [List.cons.injEq, Value.slice.injEq, and_true] at hcs
    obtain ⟨rfl, rfl, rfl⟩ := hcs
    exact ⟨[], rfl, Sl.nil _ _ _ _, by simp, by simp, by simp, Nat.le_refl _, by unfold maxLen; omega⟩
  · simp only [List.cons.injEq, Value.slice.injEq, and_true] at hcs
    obtain ⟨rfl, rfl, rfl⟩ := hcs
    have hle : len ≤ m := by rw [hmm]; simpa using hl
    have c31 : Try.prog.cellsOf 52 = 5 := by kernel_rfl
    have b31 : Try.prog.bytesOf 52 = 56 := by kernel_rfl
    have hx1 : x.1 = .slice ((List.range len).map D) ((List.range (m - len)).map fun j => D (len + j)) := by rw [hx]
    rw [hx1] at hsz
    simp only [DataW.weights, Try.underlying23, List.mem_cons, List.mem_append, b31, List.length_map, List.length_range] at hsz
    have hlen := hsz _ (.inl rfl)
    have key : ∀ i, i < len → ∃ s : Site, s.ok ∧ (s.mo.size ≤ reachBytes ∧ s.ex.size ≤ reachBytes) ∧ ∀ j, j < 5 → W.cell? (a.add (i * 5 + j)) = s.vs[j]? := by
      intro i hil
      obtain ⟨cs', hc, ht⟩ := hi i (by omega)
      rw [c31] at hc
      obtain ⟨_, hcl, hat⟩ := World.cells?_some hc
      obtain ⟨s, rfl, hok, w0, w1⟩ := open_site ht
      have hd : D i ∈ (List.range len).map D := List.mem_map.2 ⟨i, List.mem_range.2 hil, rfl⟩
      refine ⟨s, hok, ⟨hsz _ (.inr (.inl (weightsAll_mem hd w0))), hsz _ (.inr (.inl (weightsAll_mem hd w1)))⟩, fun j hj => ?_⟩
      rw [← Go.Deep.add_add, hat j hj]
    have : Inhabited Site := ⟨⟨⟨#[]⟩, ⟨#[]⟩, 0, 0, 0⟩⟩
    obtain ⟨f, hf⟩ := choose_lt key
    refine ⟨(List.range len).map f, by simp, ⟨by rw [cells_len]; simp, ?_⟩, ?_, ?_, by omega, hl, hm⟩
    · rcases Nat.eq_zero_or_pos len with h0 | h0
      · exact .inl h0
      · right
        obtain ⟨b, o, spot⟩ := a
        have hc0 : W.cell? ((⟨b, o, spot⟩ : Addr).add 0) = some (.string (f 0).mo) := (hf 0 h0).2.2 0 (by omega)
        have hspot : spot = none := by simpa [Addr.add] using World.cell?_spot hc0
        subst hspot
        refine ⟨b, o, rfl, by have := World.block_lt_of_cell? W _ hc0; simpa [Addr.add] using this, fun j u hu => ?_⟩
        have hjl : j < len * 5 := by
          have := (List.getElem?_eq_some_iff.1 hu).1
          rw [cells_len] at this; simpa using this
        have hk : j / 5 < len := by omega
        have := (hf (j / 5) hk).2.2 (j % 5) (by omega)
        rw [add_flat, show j / 5 * 5 + j % 5 = j by omega] at this
        rw [this, ← cells_at _ (j / 5) _ (j % 5) (by rw [List.getElem?_map, List.getElem?_range hk]; rfl) (by omega), show j / 5 * 5 + j % 5 = j by omega, hu]
    · intro s hs
      obtain ⟨i, hi, rfl⟩ := List.mem_map.1 hs
      exact (hf i (List.mem_range.1 hi)).1
    · intro s hs
      obtain ⟨i, hi, rfl⟩ := List.mem_map.1 hs
      exact (hf i (List.mem_range.1 hi)).2.1
end

end Go.Proofs.Ytjklecncdinabaa.La

/- NodesIn -/
namespace Go.Proofs.Ytjklecncdinabaa.K
open Go.RowKit Go.Proofs.Ytjklecncdinabaa.B Go.ChangeShapes Go.WideShapes Go.Deep
set_option linter.unusedVariables false

section
variable {H : Type} {enc : TypeId × Value → H} {W : World}

/-- What came in fits. -/
structure Tn.ok (n : Tn) : Prop where
  k0 : -128 ≤ n.kd
  k1 : n.kd ≤ 127
  c0 : -9223372036854775808 ≤ n.kids
  c1 : n.kids ≤ 9223372036854775807
  n0 : -9223372036854775808 ≤ n.n
  n1 : n.n ≤ 9223372036854775807
set_option maxRecDepth 100000 in
theorem open_tn {fuel : Nat} {cs : List Value} {x : DataW H × List MemPlace} {base : Nat} {spare : Nat → Bool} {held : Bool}
    (h : DataW.trod enc Try.prog W base spare held fuel 50 cs = some x) :
    ∃ s : Tn, cs = s.vs ∧ s.ok ∧ s.s.size ∈ x.1.weights Try.prog 50 ∧ s.t.size ∈ x.1.weights Try.prog 50 ∧ s.u.size ∈ x.1.weights Try.prog 50 := by
  obtain ⟨ys, n, _, hx, hlen, hyl, hf⟩ := DataW.trod_struct Try.underlying50 h
  have hl8 : cs.length = 8 := hlen.trans (by kernel_rfl)
  have c_int8 : Try.prog.cellsOf 46 = 1 := by kernel_rfl
  have c_int : Try.prog.cellsOf 3 = 1 := by kernel_rfl
  have c_int64 : Try.prog.cellsOf 2 = 1 := by kernel_rfl
  have c_string : Try.prog.cellsOf 9 = 1 := by kernel_rfl
  have c_place : Try.prog.cellsOf 48 = 2 := by kernel_rfl
  match cs, hl8, ys, hyl with
  | [a0, a1, a2, a3, a4, a5, a6, a7], _, [y0, y1, y2, y3, y4, y5, y6], _ =>
    have h0 : DataW.trod enc Try.prog W base spare held n 46 ((([a0, a1, a2, a3, a4, a5, a6, a7] : List Value).drop 0).take (Try.prog.cellsOf 46)) = some y0 := hf 0 _ rfl
    rw [c_int8] at h0
    have h1 : DataW.trod enc Try.prog W base spare held n 3 ((([a0, a1, a2, a3, a4, a5, a6, a7] : List Value).drop 1).take (Try.prog.cellsOf 3)) = some y1 := hf 1 _ rfl
    rw [c_int] at h1
    have h2 : DataW.trod enc Try.prog W base spare held n 2 ((([a0, a1, a2, a3, a4, a5, a6, a7] : List Value).drop 2).take (Try.prog.cellsOf 2)) = some y2 := hf 2 _ rfl
    rw [c_int64] at h2
    have h3 : DataW.trod enc Try.prog W base spare held n 9 ((([a0, a1, a2, a3, a4, a5, a6, a7] : List Value).drop 3).take (Try.prog.cellsOf 9)) = some y3 := hf 3 _ rfl
    rw [c_string] at h3
    have h4 : DataW.trod enc Try.prog W base spare held n 9 ((([a0, a1, a2, a3, a4, a5, a6, a7] : List Value).drop 4).take (Try.prog.cellsOf 9)) = some y4 := hf 4 _ rfl
    rw [c_string] at h4
    have h5 : DataW.trod enc Try.prog W base spare held n 9 ((([a0, a1, a2, a3, a4, a5, a6, a7] : List Value).drop 5).take (Try.prog.cellsOf 9)) = some y5 := hf 5 _ rfl
    rw [c_string] at h5
    have h6 : DataW.trod enc Try.prog W base spare held n 48 ((([a0, a1, a2, a3, a4, a5, a6, a7] : List Value).drop 6).take (Try.prog.cellsOf 48)) = some y6 := hf 6 _ rfl
    rw [c_place] at h6
    obtain ⟨v0, e0, x0, w0⟩ := DataW.trod_int Try.underlying46 h0
    obtain ⟨v1, e1, x1, w1⟩ := DataW.trod_int Try.underlying3 h1
    obtain ⟨v2, e2, x2, w2⟩ := DataW.trod_int Try.underlying2 h2
    obtain ⟨v3, e3, x3, m3⟩ := DataW.trod_string Try.underlying9 h3
    obtain ⟨v4, e4, x4, m4⟩ := DataW.trod_string Try.underlying9 h4
    obtain ⟨v5, e5, x5, m5⟩ := DataW.trod_string Try.underlying9 h5
    obtain ⟨zs, n', _, hz, _, hzl, hg⟩ := DataW.trod_struct Try.underlying48 h6
    match zs, hzl with
    | [z0, z1], _ =>
      have g0 : DataW.trod enc Try.prog W base spare held n' 3 (((([a0, a1, a2, a3, a4, a5, a6, a7] : List Value).drop 6).take 2 |>.drop 0).take (Try.prog.cellsOf 3)) = some z0 := hg 0 _ rfl
      have g1 : DataW.trod enc Try.prog W base spare held n' 3 (((([a0, a1, a2, a3, a4, a5, a6, a7] : List Value).drop 6).take 2 |>.drop 1).take (Try.prog.cellsOf 3)) = some z1 := hg 1 _ rfl
      rw [c_int] at g0 g1
      obtain ⟨li, el, xl, wl⟩ := DataW.trod_int Try.underlying3 g0
      obtain ⟨co, ec, xc, wc⟩ := DataW.trod_int Try.underlying3 g1
      simp only [List.drop_zero, List.drop_succ_cons, List.take_succ_cons, List.take_zero, List.cons.injEq, and_true] at e0 e1 e2 e3 e4 e5 el ec
      subst e0 e1 e2 e3 e4 e5 el ec
      have b0 := bounds_i8 w0
      have b1 := bounds_i64 w1
      have b2 := bounds_i64 w2
      refine ⟨⟨v0, v1, v2, v3, v4, v5, li, co⟩, rfl, ⟨b0.1, b0.2, b1.1, b1.2, b2.1, b2.2⟩, ?_, ?_, ?_⟩
      · rw [hx]
        unfold DataW.weights
        rw [Try.underlying50]
        exact DataW.weights_mem_each (j := 3) (t := 9) (d := y3.1) rfl rfl _ (by rw [x3]; exact List.mem_singleton.2 (by simp))
      · rw [hx]
        unfold DataW.weights
        rw [Try.underlying50]
        exact DataW.weights_mem_each (j := 4) (t := 9) (d := y4.1) rfl rfl _ (by rw [x4]; exact List.mem_singleton.2 (by simp))
      · rw [hx]
        unfold DataW.weights
        rw [Try.underlying50]
        exact DataW.weights_mem_each (j := 5) (t := 9) (d := y5.1) rfl rfl _ (by rw [x5]; exact List.mem_singleton.2 (by simp))

theorem open_tns {fuel : Nat} {A : Option Addr} {len cap : Nat} {x : DataW H × List MemPlace}
    (h : DataW.trod enc Try.prog W 0 (fun _ => true) true fuel 22 [.slice A len cap] = some x) (hsz : ∀ n ∈ x.1.weights Try.prog 22, n ≤ reachBytes) :
    ∃ l : List Tn, l.length = len ∧ Sl W W.heap.size 8 A len (tns l) ∧ (∀ s ∈ l, s.ok) ∧ (∀ s ∈ l, s.s.size ≤ reachBytes ∧ s.t.size ≤ reachBytes ∧ s.u.size ≤ reachBytes) ∧ len * 88 ≤ reachBytes ∧ len ≤ cap ∧ cap ≤ maxLen := by
  rcases open_slice Try.underlying22 h with ⟨hcs, hx⟩ | ⟨a, len', cap', m, n, D, Pl, hcs, _, hl, hm, hmm, hx, hi⟩
  · simp only [List.cons.injEq, Value.slice.injEq, and_true] at hcs
    obtain ⟨rfl, rfl, rfl⟩ := hcs
    exact ⟨[], rfl, Sl.nil _ _ _ _, by simp, by simp, by simp, Nat.le_refl _, by unfold maxLen; omega⟩
  · simp only [List.cons.injEq, Value.slice.injEq, and_true] at hcs
    obtain ⟨rfl, rfl, rfl⟩ := hcs
    have hle : len ≤ m := by rw [hmm]; simpa using hl
    have c31 : Try.prog.cellsOf 50 = 8 := by kernel_rfl
    have b31 : Try.prog.bytesOf 50 = 88 := by kernel_rfl
    have hx1 : x.1 = .slice ((List.range len).map D) ((List.range (m - len)).map fun j => D (len + j)) := by rw [hx]
    rw [hx1] at hsz
    simp only [DataW.weights, Try.underlying22, List.mem_cons, List.mem_append, b31, List.length_map, List.length_range] at hsz
    have hlen := hsz _ (.inl rfl)
    have key : ∀ i, i < len → ∃ s : Tn, s.ok ∧ (s.s.size ≤ reachBytes ∧ s.t.size ≤ reachBytes ∧ s.u.size ≤ reachBytes) ∧ ∀ j, j < 8 → W.cell? (a.add (i * 8 + j)) = s.vs[j]? := by
      intro i hil
      obtain ⟨cs', hc, ht⟩ := hi i (by omega)
      rw [c31] at hc
      obtain ⟨_, hcl, hat⟩ := World.cells?_some hc
      obtain ⟨s, rfl, hok, w0, w1, w2⟩ := open_tn ht
      have hd : D i ∈ (List.range len).map D := List.mem_map.2 ⟨i, List.mem_range.2 hil, rfl⟩
      refine ⟨s, hok, ⟨hsz _ (.inr (.inl (La.weightsAll_mem hd w0))), hsz _ (.inr (.inl (La.weightsAll_mem hd w1))), hsz _ (.inr (.inl (La.weightsAll_mem hd w2)))⟩, fun j hj => ?_⟩
      rw [← Go.Deep.add_add, hat j hj]
    have : Inhabited Tn := ⟨⟨0, 0, 0, ⟨#[]⟩, ⟨#[]⟩, ⟨#[]⟩, 0, 0⟩⟩
    obtain ⟨f, hf⟩ := choose_lt key
    refine ⟨(List.range len).map f, by simp, ⟨by rw [tns_len]; simp, ?_⟩, ?_, ?_, by omega, hl, hm⟩
    · rcases Nat.eq_zero_or_pos len with h0 | h0
      · exact .inl h0
      · right
        obtain ⟨b, o, spot⟩ := a
        have hc0 : W.cell? ((⟨b, o, spot⟩ : Addr).add 0) = some (.int .i8 (f 0).kd) := (hf 0 h0).2.2 0 (by omega)
        have hspot : spot = none := by simpa [Addr.add] using World.cell?_spot hc0
        subst hspot
        refine ⟨b, o, rfl, by have := World.block_lt_of_cell? W _ hc0; simpa [Addr.add] using this, fun j u hu => ?_⟩
        have hjl : j < len * 8 := by
          have := (List.getElem?_eq_some_iff.1 hu).1
          rw [tns_len] at this; simpa using this
        have hk : j / 8 < len := by omega
        have := (hf (j / 8) hk).2.2 (j % 8) (by omega)
        rw [add_flat, show j / 8 * 8 + j % 8 = j by omega] at this
        rw [this, ← tns_at _ (j / 8) _ (j % 8) (by rw [List.getElem?_map, List.getElem?_range hk]; rfl) (by omega), show j / 8 * 8 + j % 8 = j by omega, hu]
    · intro s hs
      obtain ⟨i, hi, rfl⟩ := List.mem_map.1 hs
      exact (hf i (List.mem_range.1 hi)).1
    · intro s hs
      obtain ⟨i, hi, rfl⟩ := List.mem_map.1 hs
      exact (hf i (List.mem_range.1 hi)).2.1

set_option maxRecDepth 100000 in
/-- A program, as read. -/
theorem open_prog {fuel : Nat} {cs : List Value} {x : DataW H × List MemPlace}
    (h : DataW.trod enc Try.prog W 0 (fun _ => true) true fuel 25 cs = some x) (hsz : ∀ n ∈ x.1.weights Try.prog 25, n ≤ reachBytes) :
    ∃ (L : List Tn) (T : ByteArray) (l : List La.Site) (A B : Option Addr) (c d : Nat), cs = [.slice A L.length c, .string T, .slice B l.length d] ∧ Sl W W.heap.size 8 A L.length (tns L) ∧ Sl W W.heap.size 5 B l.length (La.cells l) ∧ (∀ s ∈ L, s.ok) ∧
      (∀ s ∈ L, s.s.size ≤ reachBytes ∧ s.t.size ≤ reachBytes ∧ s.u.size ≤ reachBytes) ∧ (∀ s ∈ l, s.ok) ∧ (∀ s ∈ l, s.mo.size ≤ reachBytes ∧ s.ex.size ≤ reachBytes) ∧ L.length * 88 ≤ reachBytes ∧ l.length * 56 ≤ reachBytes ∧ L.length ≤ c ∧ l.length ≤ d := by
  obtain ⟨ys, n, _, hx, hlen, hyl, hf⟩ := DataW.trod_struct Try.underlying25 h
  have hl3 : cs.length = 3 := hlen.trans (by kernel_rfl)
  have c_n : Try.prog.cellsOf 22 = 1 := by kernel_rfl
  have c_s : Try.prog.cellsOf 9 = 1 := by kernel_rfl
  have c_i : Try.prog.cellsOf 23 = 1 := by kernel_rfl
  match cs, hl3, ys, hyl with
  | [a0, a1, a2], _, [y0, y1, y2], _ =>
    have h0 : DataW.trod enc Try.prog W 0 (fun _ => true) true n 22 ((([a0, a1, a2] : List Value).drop 0).take (Try.prog.cellsOf 22)) = some y0 := hf 0 _ rfl
    have h1 : DataW.trod enc Try.prog W 0 (fun _ => true) true n 9 ((([a0, a1, a2] : List Value).drop 1).take (Try.prog.cellsOf 9)) = some y1 := hf 1 _ rfl
    have h2 : DataW.trod enc Try.prog W 0 (fun _ => true) true n 23 ((([a0, a1, a2] : List Value).drop 2).take (Try.prog.cellsOf 23)) = some y2 := hf 2 _ rfl
    rw [c_n] at h0
    rw [c_s] at h1
    rw [c_i] at h2
    obtain ⟨T, e1, x1, m1⟩ := DataW.trod_string Try.underlying9 h1
    simp only [List.drop_zero, List.drop_succ_cons, List.take_succ_cons, List.take_zero, List.cons.injEq, and_true] at e1 h0 h2
    subst e1
    have hw : ∀ (j : Nat) (t : TypeId) (d : DataW H) (m : Nat), ([22, 9, 23] : List Nat)[j]? = some t → ([y0.1, y1.1, y2.1] : List (DataW H))[j]? = some d → m ∈ d.weights Try.prog t → m ≤ reachBytes := by
      intro j t d m hj hd hm
      refine hsz m ?_
      rw [hx]
      unfold DataW.weights
      rw [Try.underlying25]
      exact DataW.weights_mem_each (j := j) (t := t) (d := d) hj hd _ hm
    obtain ⟨A, ln, c, rfl⟩ : ∃ A ln c, a0 = .slice A ln c := by
      rcases open_slice Try.underlying22 h0 with ⟨hcs, _⟩ | ⟨a, len', cap', m, n, D, Pl, hcs, _⟩
      · simp only [List.cons.injEq, and_true] at hcs; exact ⟨_, _, _, hcs⟩
      · simp only [List.cons.injEq, and_true] at hcs; exact ⟨_, _, _, hcs⟩
    obtain ⟨B, lm, d, rfl⟩ : ∃ A ln c, a2 = .slice A ln c := by
      rcases open_slice Try.underlying23 h2 with ⟨hcs, _⟩ | ⟨a, len', cap', m, n, D, Pl, hcs, _⟩
      · simp only [List.cons.injEq, and_true] at hcs; exact ⟨_, _, _, hcs⟩
      · simp only [List.cons.injEq, and_true] at hcs; exact ⟨_, _, _, hcs⟩
    obtain ⟨L, rfl, q1, q2, q3, q4, q5, _⟩ := open_tns h0 (fun m hm => hw 0 _ _ m rfl rfl hm)
    obtain ⟨l, rfl, r1, r2, r3, r4, r5, _⟩ := La.open_sites h2 (fun m hm => hw 2 _ _ m rfl rfl hm)
    exact ⟨L, T, l, A, B, c, d, rfl, q1, r1, q2, q3, r2, r3, q4, r4, q5, r5⟩
end
end Go.Proofs.Ytjklecncdinabaa.K

/- JudgePrecise -/
namespace Go.Proofs.Ytjklecncdinabaa.J
open Go.RowKit Go.Proofs.Ytjklecncdinabaa.B Go.Proofs.Ytjklecncdinabaa.K Go.ChangeShapes Go.WideShapes Go.ChangeAt
open Go.ChangeMaps (open_string shut_string)
set_option linter.unusedVariables false

theorem ownJudgePrecise : ownKnob Try.prog.godebug = none := by kernel_rfl
theorem laidOutJudgePrecise : laidOutB Try.prog = true := by kernel_rfl

set_option maxRecDepth 100000 in
theorem liftedJudgePrecise (os : Os) (started : os.Started) (H : Type) (enc : TypeId × Value → H) :
    ReturnsInHanded {} Try.checked os 3 .any (Rows.judgePreciseSpec.pre6 enc Try.prog Try.f3 Rows.judgePreciseRow.domain false) (Rows.judgePreciseSpec.post enc Try.prog Try.f3 false true false false) := by
  refine returnsInHanded_of_change_sized (C := Try.checked) ownJudgePrecise started (by kernel_rfl) Try.func3
    (ChangeSpec.witness6 (enc := enc) (C := Try.checked) false ⟨#[], #[.agg #[.slice none 0 0, .string ⟨#[]⟩, .slice none 0 0]], []⟩ 8 (by kernel_rfl) (by kernel_rfl) (by kernel_rfl) (by kernel_rfl)) ?_
  intro W base args ds gs before hval0 hW hcnd hsz0 _
  have hsz : (DataW.weightsEach Try.prog (Try.f3.params.toList ++ Rows.judgePreciseSpec.plain.varTypes Try.prog) (ds ++ gs)).all (· ≤ reachBytes) = true := hsz0
  have hval : ∀ (j : Nat) t v, Try.f3.params[j]? = some t → args[j]? = some v → Value.okWide Try.prog W .any base t v := hval0
  have hW' := hW
  obtain ⟨p, q, hA0, hV, rfl, hfz, hnd⟩ := hW
  have hA : DataW.TrodAll enc Try.prog W 0 (fun _ => true) true Try.f3.params.toList args.toList ds p := hA0
  rw [Try.params3] at hA hval hsz
  obtain ⟨v0, vs0, d0, ds0, p0, q0, hargs, rfl, rfl, h0, r0⟩ := trodAll_cons hA
  obtain ⟨rfl, rfl, rfl⟩ := trodAll_nil r0
  obtain rfl : args = #[v0] := by cases args; simp_all
  obtain ⟨rfl, rfl⟩ := trodVars_none hV
  obtain ⟨ag0, rfl, _⟩ := okWide_struct Try.underlying25 (hval 0 25 v0 rfl rfl)
  have k0 := h0
  have lt0 : ∀ x ∈ p0, x.block < W.heap.size := by obtain ⟨m, hm⟩ := k0; exact DataW.trod_lt m _ _ _ hm
  obtain ⟨fuel0, hf0⟩ := h0
  obtain ⟨L0, T0, l0, A0, B0, c0, e0, hag0, q1_0, q2_0, q3_0, q4_0, q5_0, q6_0, q7_0, q8_0, q9_0, q10_0⟩ := open_prog hf0 (fun n hn => by
    have := List.all_eq_true.1 hsz n (DataW.weights_mem_each (j := 0) (t := 25) (d := d0) rfl rfl n hn)
    simpa using this)
  obtain rfl : ag0 = #[.slice A0 L0.length c0, .string T0, .slice B0 l0.length e0] := Array.toList_inj.1 hag0
  simp only [reachBytes] at q4_0 q6_0 q7_0 q8_0
  clear hA0 hval0
  refine (judgePrecise_walk L0 T0 l0 A0 c0 B0 e0 W (by omega) (by omega) q9_0 q1_0 q2_0 (fun x hx => by have := q4_0 x hx; exact ⟨by omega, by omega, by omega⟩) (fun s hs => by have := q6_0 s hs; exact ⟨by omega, by omega⟩)).mono fun e W' ⟨he, bel⟩ => ?_
  subst he
  exact ⟨_, rfl, _, _, _, [], _, [], hW', trodAll_mk1 (shut_bool Try.underlying4 _), (trodAll_cons_mk (Below.trod laidOutJudgePrecise (by kernel_rfl) (of_decide_eq_true (by kernel_rfl)) k0 bel lt0) trodAll_mk0), rfl, bel.frame _, fun h => by cases h⟩

theorem overJudgePrecise : Rows.judgePreciseRow.holds Try.pinned (OpenSpec.ofChange Rows.judgePreciseSpec) :=
  OpenClaim.holds_of_wide 3 Try.f3 rfl rfl rfl rfl rfl rfl rfl ⟨rfl, rfl, rfl, rfl, rfl⟩ rfl rfl rfl rfl rfl (by kernel_rfl) Try.func3 (by kernel_rfl)
    (of_decide_eq_true (by kernel_rfl)) (by unfold Func.isWrapper; first | (rw [if_pos (by decide +kernel)]; kernel_rfl) | (rw [if_neg (by decide +kernel)]; exact ⟨rfl, rfl⟩))
    (fun os started H enc _ => liftedJudgePrecise os started H enc)

theorem judgePrecise_holds : Rows.JudgePreciseSaid := overJudgePrecise
#print axioms judgePrecise_holds
end Go.Proofs.Ytjklecncdinabaa.J
