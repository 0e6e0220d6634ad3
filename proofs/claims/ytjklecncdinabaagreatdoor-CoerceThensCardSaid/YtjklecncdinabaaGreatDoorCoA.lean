/- Coercions in memory: lists of nodes, the program's trees, as plain data. -/
import Derived.Test.YtjklecncdinabaaGreatDoorCoR
import Derived.Test.YtjklecncdinabaaGreatDoorBase
import Derived.BigQuiet
import Derived.Deep.QuietTactic
import Derived.Deep.LoopGhost
import Derived.Test.YtjklecncdinabaaGreatDoorTyA
import Derived.Test.YtjklecncdinabaaGreatDoorBlk
namespace Go.Proofs.YtjklecncdinabaaGreatDoor.C
open Go.RowKit Go.Proofs.YtjklecncdinabaaGreatDoor.B
set_option linter.unusedVariables false
set_option linter.unusedSimpArgs false

/-! ### Lists of nodes -/
def Nd.vs (n : Nd) : List Value := [.int .i8 n.op, .int .i64 n.pj, .bool n.ij, .int .u8 n.hd, .int .i64 n.lb, .int .u8 n.fr, .int .u8 n.to]
def nds (l : List Nd) : List Value := l.flatMap Nd.vs
/-- What came in fits its kinds. -/
structure Nd.ok (n : Nd) : Prop where
  o0 : -128 ≤ n.op
  o1 : n.op ≤ 127
  p0 : -9223372036854775808 ≤ n.pj
  p1 : n.pj ≤ 9223372036854775807
  h0 : 0 ≤ n.hd
  h1 : n.hd ≤ 255
  l0 : -9223372036854775808 ≤ n.lb
  l1 : n.lb ≤ 9223372036854775807
  f0 : 0 ≤ n.fr
  f1 : n.fr ≤ 255
  t0 : 0 ≤ n.to
  t1 : n.to ≤ 255

theorem nds_len (l : List Nd) : (nds l).length = l.length * 7 := by
  induction l with
  | nil => rfl
  | cons s l ih => simp only [nds, List.flatMap_cons, List.length_append, List.length_cons] at *; rw [ih]; simp [Nd.vs]; omega
theorem nds_at (l : List Nd) : ∀ (k : Nat) (s : Nd) (j : Nat), l[k]? = some s → j < 7 → (nds l)[k * 7 + j]? = s.vs[j]? := by
  induction l with
  | nil => intro k s j h; simp at h
  | cons x l ih =>
    intro k s j h hj
    have hl : x.vs.length = 7 := rfl
    cases k with
    | zero =>
      simp at h; subst h
      simp only [nds, List.flatMap_cons]
      rw [List.getElem?_append_left (by omega)]; simp
    | succ k =>
      simp at h
      have := ih k s j h hj
      simp only [nds, List.flatMap_cons] at *
      rw [List.getElem?_append_right (by omega)]
      rw [hl, show (k + 1) * 7 + j - 7 = k * 7 + j by omega]; exact this
theorem nds_one (l : List Nd) : ∀ u ∈ nds l, u.oneCell' = true := by
  intro u hu
  obtain ⟨s, _, hs⟩ := List.mem_flatMap.1 hu
  simp only [Nd.vs, List.mem_cons, List.not_mem_nil, or_false] at hs
  rcases hs with rfl | rfl | rfl | rfl | rfl | rfl | rfl <;> rfl

/-- A list of nodes that can be read. -/
def LN (w : World) (A : Option Addr) (l : List Nd) : Prop := Sl w w.heap.size 7 A l.length (nds l)
theorem LN.below {w w' : World} {A : Option Addr} {l : List Nd} (h : LN w A l) (hb : Below w.heap.size w w') : LN w' A l := (Sl.below h hb).more hb.size

/-- The cells of element k, in the spelling of the walk. -/
theorem LN.node {w : World} {A : Option Addr} {l : List Nd} (h : LN w A l) {k : Nat} {s : Nd} (hk : l[k]? = some s) :
    ∃ b o, A = some ⟨b, o, none⟩ ∧ b < w.heap.size ∧ w.cell? ⟨b, o + k * 7, none⟩ = some (.int .i8 s.op) ∧ w.cell? ⟨b, o + k * 7 + 1, none⟩ = some (.int .i64 s.pj) ∧ w.cell? ⟨b, o + k * 7 + 2, none⟩ = some (.bool s.ij) ∧
      w.cell? ⟨b, o + k * 7 + 3, none⟩ = some (.int .u8 s.hd) ∧ w.cell? ⟨b, o + k * 7 + 4, none⟩ = some (.int .i64 s.lb) ∧ w.cell? ⟨b, o + k * 7 + 5, none⟩ = some (.int .u8 s.fr) ∧ w.cell? ⟨b, o + k * 7 + 6, none⟩ = some (.int .u8 s.to) := by
  have hl : k < l.length := (List.getElem?_eq_some_iff.1 hk).1
  obtain ⟨b, o, rfl, hb, hc⟩ := Sl.at_ h (by omega)
  have g : ∀ j u, j < 7 → s.vs[j]? = some u → w.cell? ⟨b, o + k * 7 + j, none⟩ = some u := by
    intro j u hj hu
    have := hc (k * 7 + j) u (by rw [nds_at l k s j hk hj]; exact hu)
    rwa [← Nat.add_assoc] at this
  exact ⟨b, o, rfl, hb, g 0 _ (by omega) rfl, g 1 _ (by omega) rfl, g 2 _ (by omega) rfl, g 3 _ (by omega) rfl, g 4 _ (by omega) rfl, g 5 _ (by omega) rfl, g 6 _ (by omega) rfl⟩
theorem LN.head {w : World} {A : Option Addr} {s : Nd} {r : List Nd} (h : LN w A (s :: r)) :
    ∃ b o, A = some ⟨b, o, none⟩ ∧ b < w.heap.size ∧ (w.cell? ⟨b, o, none⟩ = some (.int .i8 s.op) ∧ w.cell? ⟨b, o + 1, none⟩ = some (.int .i64 s.pj) ∧ w.cell? ⟨b, o + 2, none⟩ = some (.bool s.ij) ∧
      w.cell? ⟨b, o + 3, none⟩ = some (.int .u8 s.hd) ∧ w.cell? ⟨b, o + 4, none⟩ = some (.int .i64 s.lb) ∧ w.cell? ⟨b, o + 5, none⟩ = some (.int .u8 s.fr) ∧ w.cell? ⟨b, o + 6, none⟩ = some (.int .u8 s.to)) ∧ LN w (some ⟨b, o + 7, none⟩) r := by
  obtain ⟨b, o, hA, hb, c⟩ := h.node (k := 0) (s := s) rfl
  simp only [Nat.zero_mul, Nat.add_zero] at c
  refine ⟨b, o, hA, hb, c, nds_len r, ?_⟩
  rcases r with _ | ⟨x, r⟩
  · exact .inl rfl
  · refine .inr ⟨b, o + 7, rfl, hb, fun j u hu => ?_⟩
    obtain ⟨b', o', hA', _, hc⟩ := Sl.at_ h (by simp)
    rw [hA] at hA'
    injection hA' with hA'
    injection hA' with e1 e2 _
    subst e1 e2
    have := hc (7 + j) u (by
      show (nds (s :: x :: r))[7 + j]? = some u
      have e : nds (s :: x :: r) = s.vs ++ nds (x :: r) := rfl
      rw [e, List.getElem?_append_right (by show 7 ≤ 7 + j; omega)]
      rw [show 7 + j - s.vs.length = j from by show 7 + j - 7 = j; omega]; exact hu)
    rwa [← Nat.add_assoc] at this

/-! ### The program's trees -/
theorem lt_cell {w : World} {p : Addr} {v : Value} (h : w.cell? p = some v) : p.block < w.heap.size := by
  rcases Nat.lt_or_ge p.block w.heap.size with h1 | h1
  · exact h1
  · simp [World.cell?, Array.getElem?_eq_none h1] at h
/-- What stays of a world at the blocks of C. -/
def Stay (C : Nat → Prop) (w w' : World) : Prop := ∀ p : Addr, C p.block → p.block < w.heap.size → w'.cell? p = w.cell? p
theorem Stay.below {C : Nat → Prop} {w w' : World} (hb : Below w.heap.size w w') : Stay C w w' := fun p _ h => hb.cell h
theorem Stay.grown {C : Nat → Prop} {w w' : World} {row : Option Nat} (hg : w.grownBy w' row) (hC : ∀ b, C b → row ≠ some b) : Stay C w w' := fun p hp hlt => by
  have h := hg.block p.block hlt (fun e => hC _ hp e.symm)
  unfold World.cell?; rw [h]
/-- A row of values in blocks of C. -/
def Kd (w : World) (C : Nat → Prop) (A : Option Addr) (vs : List Value) : Prop := vs = [] ∨ ∃ b o, A = some ⟨b, o, none⟩ ∧ C b ∧ ∀ j u, vs[j]? = some u → w.cell? ⟨b, o + j, none⟩ = some u
theorem Kd.stay {w w' : World} {C C' : Nat → Prop} {A : Option Addr} {vs : List Value} (h : Kd w C A vs) (hs : Stay C w w') (hC : ∀ b, C b → C' b) : Kd w' C' A vs := by
  rcases h with h | ⟨b, o, h1, h2, h3⟩
  · exact .inl h
  · exact .inr ⟨b, o, h1, hC b h2, fun j u hu => (hs ⟨b, o + j, none⟩ h2 (lt_cell (h3 j u hu))).trans (h3 j u hu)⟩
/-- A tree of the program's, in blocks of C. -/
def VCo (w : World) (C : Nat → Prop) : Co → Value → Prop
  | .any, v => v = .iface 106 (.agg #[])
  | .fail p l f t, v => v = .iface 97 (.agg #[.int .i64 p, .int .i64 l, .int .u8 f, .int .u8 t])
  | .part p j h a b, v => ∃ A c va vb, v = .iface 100 (.agg #[.int .i64 p, .bool j, .int .u8 h, .slice A (opsN h) c]) ∧ opsN h ≤ c ∧ c ≤ maxLen ∧ Kd w C A ([va, vb].take (opsN h)) ∧ VCo w C a va ∧ VCo w C b vb
theorem VCo.stay {w w' : World} {C C' : Nat → Prop} (hs : Stay C w w') (hC : ∀ b, C b → C' b) : ∀ {t : Co} {v : Value}, VCo w C t v → VCo w' C' t v
  | .any, _, h => h
  | .fail .., _, h => h
  | .part p j hh a b, v, ⟨A, c, va, vb, h1, h2, h3, h4, h5, h6⟩ => ⟨A, c, va, vb, h1, h2, h3, h4.stay hs hC, VCo.stay hs hC h5, VCo.stay hs hC h6⟩
theorem VCo.below {w w' : World} {C : Nat → Prop} {t : Co} {v : Value} (h : VCo w C t v) (hb : Below w.heap.size w w') : VCo w' C t v := h.stay (.below hb) fun _ h => h
theorem VCo.mono {w : World} {C C' : Nat → Prop} {t : Co} {v : Value} (h : VCo w C t v) (hC : ∀ b, C b → C' b) : VCo w C' t v := h.stay (fun _ _ _ => rfl) hC

/-- What a value of 'co' is, at first sight. -/
theorem VCo.face {w : World} {C : Nat → Prop} {t : Co} {v : Value} (h : VCo w C t v) : ∃ D z, v = .iface D z := by
  cases t with
  | any => exact ⟨_, _, h⟩
  | fail p l f q => exact ⟨_, _, h⟩
  | part p j hh a b => obtain ⟨A, c, va, vb, h1, _⟩ := h; exact ⟨_, _, h1⟩
theorem VCo.one {w : World} {C : Nat → Prop} {t : Co} {v : Value} (h : VCo w C t v) : v.oneCell' = true := by
  obtain ⟨D, z, rfl⟩ := h.face; rfl
/-- A row of one's own as kids. -/
theorem Kd.own {w : World} {base n c : Nat} {T : TypeId} {A : Option Addr} {vs : List Value} (h : w.ownsRow base T 1 (.slice A n c) n vs) : Kd w (base ≤ ·) A vs := by
  rcases h.2 with ⟨h1, h2⟩ | ⟨g, cap, cur, hv, hbg, _⟩
  · left; subst h2; exact List.eq_nil_of_length_eq_zero (by simpa using h.1)
  · injection hv with hA _ _
    subst hA
    right
    refine ⟨g, 0, rfl, hbg, fun j u hu => ?_⟩
    have := h.cells (g := g) rfl j u hu
    rwa [add_flat] at this

end Go.Proofs.YtjklecncdinabaaGreatDoor.C
