/- A part's kids while they are gathered: a row of one's own, trees behind it. -/
import Derived.Test.YtjklecncdinabaaGreatDoorCoB
namespace Go.Proofs.YtjklecncdinabaaGreatDoor.C
open Go.RowKit Go.Proofs.YtjklecncdinabaaGreatDoor.B
set_option linter.unusedVariables false
set_option linter.unusedSimpArgs false

theorem head_B {w : World} {B : Nat} {A : Option Addr} {s : Nd} {r : List Nd} (h : Sl w B 7 A (s :: r).length (nds (s :: r))) :
    ∃ b o, A = some ⟨b, o, none⟩ ∧ b < B ∧ (w.cell? ⟨b, o, none⟩ = some (.int .i8 s.op) ∧ w.cell? ⟨b, o + 1, none⟩ = some (.int .i64 s.pj) ∧ w.cell? ⟨b, o + 2, none⟩ = some (.bool s.ij) ∧
      w.cell? ⟨b, o + 3, none⟩ = some (.int .u8 s.hd) ∧ w.cell? ⟨b, o + 4, none⟩ = some (.int .i64 s.lb) ∧ w.cell? ⟨b, o + 5, none⟩ = some (.int .u8 s.fr) ∧ w.cell? ⟨b, o + 6, none⟩ = some (.int .u8 s.to)) ∧ Sl w B 7 (some ⟨b, o + 7, none⟩) r.length (nds r) := by
  obtain ⟨b, o, rfl, hb, hc⟩ := Sl.at_ h (by simp)
  have g : ∀ j u, j < 7 → s.vs[j]? = some u → w.cell? ⟨b, o + j, none⟩ = some u := by
    intro j u hj hu
    refine hc j u ?_
    have := nds_at (s :: r) 0 s j rfl hj
    rw [Nat.zero_mul, Nat.zero_add] at this
    rw [this]; exact hu
  refine ⟨b, o, rfl, hb, ⟨g 0 _ (by omega) rfl, g 1 _ (by omega) rfl, g 2 _ (by omega) rfl, g 3 _ (by omega) rfl, g 4 _ (by omega) rfl, g 5 _ (by omega) rfl, g 6 _ (by omega) rfl⟩, nds_len r, ?_⟩
  rcases r with _ | ⟨x, r⟩
  · exact .inl rfl
  · refine .inr ⟨b, o + 7, rfl, hb, fun j u hu => ?_⟩
    have := hc (7 + j) u (by
      show (nds (s :: x :: r))[7 + j]? = some u
      have e : nds (s :: x :: r) = s.vs ++ nds (x :: r) := rfl
      rw [e, List.getElem?_append_right (by show 7 ≤ 7 + j; omega)]
      rw [show 7 + j - s.vs.length = j from by show 7 + j - 7 = j; omega]; exact hu)
    rwa [← Nat.add_assoc] at this

theorem Stay.set_ {C : Nat → Prop} {w : World} {p : Addr} {u : Value} (hC : ∀ b, C b → p.block ≠ b) : Stay C w (w.setCell p u) := fun q hq _ => by
  refine World.cell?_setCell_other w p q u fun e => hC q.block hq ?_
  rw [e]
theorem Stay.trans {C : Nat → Prop} {w w1 w2 : World} (h1 : Stay C w w1) (h2 : Stay C w1 w2) (hs : w.heap.size ≤ w1.heap.size) : Stay C w w2 := fun p hp hl => (h2 p hp (by omega)).trans (h1 p hp hl)
/-- The blocks a tree lies in are there. -/
theorem Kd.lt {w : World} {C : Nat → Prop} {A : Option Addr} {vs : List Value} (h : Kd w C A vs) : Kd w (fun b => C b ∧ b < w.heap.size) A vs := by
  rcases h with h | ⟨b, o, h1, h2, h3⟩
  · exact .inl h
  · rcases vs with _ | ⟨v, vs⟩
    · exact .inl rfl
    · exact .inr ⟨b, o, h1, ⟨h2, lt_cell (h3 0 v rfl)⟩, h3⟩
theorem VCo.lt {w : World} {C : Nat → Prop} : ∀ {t : Co} {v : Value}, VCo w C t v → VCo w (fun b => C b ∧ b < w.heap.size) t v
  | .any, _, h => h
  | .fail .., _, h => h
  | .part p j hh a b, v, ⟨A, c, va, vb, h1, h2, h3, h4, h5, h6⟩ => ⟨A, c, va, vb, h1, h2, h3, h4.lt, VCo.lt h5, VCo.lt h6⟩

/-- A row of kids, the call's own, above block g; the trees lie above it, too, and not in the row. D: what else they may lie in. -/
def Kids (w : World) (D : Nat → Prop) (g : Nat) (V : Value) (ts : List Co) : Prop := ∃ (vs : List Value) (C : Nat → Prop), w.ownsRow (g + 1) 69 1 V ts.length vs ∧
  (∀ b, C b → (D b ∨ g < b) ∧ b ≠ g ∧ b < w.heap.size ∧ V.ownBlock ≠ some b) ∧ ∀ (j : Nat) t v, ts[j]? = some t → vs[j]? = some v → VCo w C t v
theorem Kids.nil (w : World) (D : Nat → Prop) (g : Nat) : Kids w D g (.slice none 0 0) [] := ⟨[], fun _ => False, World.ownsRow_nil _ _ _ _, fun _ h => h.elim, fun j t v h => by simp at h⟩
theorem Kids.below {w w' : World} {D : Nat → Prop} {g : Nat} {V : Value} {ts : List Co} (h : Kids w D g V ts) (hb : Below w.heap.size w w') : Kids w' D g V ts := by
  obtain ⟨vs, C, h1, h2, h3⟩ := h
  exact ⟨vs, C, own_below h1 hb, fun b hc => by have := h2 b hc; have := hb.size; exact ⟨(h2 b hc).1, (h2 b hc).2.1, by omega, (h2 b hc).2.2.2⟩, fun j t v ht hv => (h3 j t v ht hv).below hb⟩
theorem Kids.set_ {w : World} {D : Nat → Prop} {g : Nat} {V : Value} {ts : List Co} (h : Kids w D g V ts) (i : Nat) (u : Value) : Kids (w.setCell ⟨g, i, none⟩ u) D g V ts := by
  obtain ⟨vs, C, h1, h2, h3⟩ := h
  refine ⟨vs, C, ⟨h1.1, ?_⟩, fun b hc => ?_, fun j t v ht hv => (h3 j t v ht hv).stay (.set_ fun b hb => ((h2 b hb).2.1).symm) fun _ h => h⟩
  · rcases h1.2 with h4 | ⟨b, cap, cur, hv, hbg, hg, r⟩
    · exact .inl h4
    · exact .inr ⟨b, cap, cur, hv, hbg, (Below.heap_setCell w ⟨g, i, none⟩ u b (by simp only; omega)).trans hg, r⟩
  · have := h2 b hc
    refine ⟨this.1, this.2.1, ?_, this.2.2.2⟩
    rw [World.size_setCell]; exact this.2.2.1
theorem Kids.shape {w : World} {D : Nat → Prop} {g : Nat} {V : Value} {ts : List Co} (h : Kids w D g V ts) : ∃ A c, V = .slice A ts.length c ∧ ts.length ≤ c ∧ c ≤ maxLen := by
  obtain ⟨vs, C, h1, _, _⟩ := h
  exact own_shape h1
/-- One kid more. -/
theorem Kids.push {w wm w1 w2 : World} {D : Nat → Prop} {g : Nat} {V V' : Value} {ts : List Co} {vs : List Value} {C : Nat → Prop} {t : Co} {v : Value} {D' : Nat → Prop}
    (h1 : w.ownsRow (g + 1) 69 1 V ts.length vs) (h2 : ∀ b, C b → (D b ∨ g < b) ∧ b ≠ g ∧ b < w.heap.size ∧ V.ownBlock ≠ some b) (h3 : ∀ (j : Nat) t v, ts[j]? = some t → vs[j]? = some v → VCo w C t v)
    (hbm : Below w.heap.size w wm) (ht : VCo wm D' t v) (hD : ∀ b, D' b → (D b ∨ g < b) ∧ b ≠ g ∧ V.ownBlock ≠ some b)
    (hb1 : Below wm.heap.size wm w1) (ho : w2.ownsRow (g + 1) 69 1 V' (ts.length + 1) (vs ++ [v])) (hg : w1.grownBy w2 V.ownBlock) (hV : V'.ownBlock = V.ownBlock ∨ V'.ownBlock = some w1.heap.size) : Kids w2 D g V' (ts ++ [t]) := by
  have hb : Below w.heap.size w w1 := bl hbm hb1
  have hs := hb.size
  have hsm := hbm.size
  have hs1 := hb1.size
  have hs2 := hg.size
  refine ⟨vs ++ [v], fun b => C b ∨ (D' b ∧ b < wm.heap.size), by simpa using ho, fun b hc => ?_, fun j u x hu hx => ?_⟩
  · have hlt : b < wm.heap.size := hc.elim (fun h => by have := (h2 b h).2.2.1; omega) (fun h => h.2)
    have hne : V.ownBlock ≠ some b := hc.elim (fun h => (h2 b h).2.2.2) (fun h => (hD b h.1).2.2)
    refine ⟨hc.elim (fun h => (h2 b h).1) (fun h => (hD b h.1).1), hc.elim (fun h => (h2 b h).2.1) (fun h => (hD b h.1).2.1), by omega, ?_⟩
    rcases hV with e | e
    · rw [e]; exact hne
    · rw [e]; intro e2; injection e2 with e2; omega
  · have st : ∀ (C' : Nat → Prop), (∀ b, C' b → V.ownBlock ≠ some b) → Stay C' w w2 := fun C' hC' => (Stay.below hb).trans (Stay.grown hg hC') hs
    have hl : ts.length = vs.length := by have := h1.1; simpa using this.symm
    by_cases hj : j < ts.length
    · rw [List.getElem?_append_left hj] at hu
      rw [List.getElem?_append_left (by omega)] at hx
      exact (h3 j u x hu hx).stay (st C fun b hb => (h2 b hb).2.2.2) fun _ h => .inl h
    · have hj2 : j = ts.length := by
        have := (List.getElem?_eq_some_iff.1 hu).1
        simp at this; omega
      subst hj2
      rw [List.getElem?_append_right (Nat.le_refl _)] at hu
      rw [List.getElem?_append_right (by omega)] at hx
      simp at hu
      rw [hl] at hx
      simp at hx
      subst hu hx
      exact (ht.lt).stay ((Stay.below hb1).trans (Stay.grown hg fun b hb => (hD b hb.1).2.2) hs1) fun _ h => .inr h
/-- The part, made. -/
theorem Kids.part {w : World} {D E : Nat → Prop} {g : Nat} {V : Value} {ts : List Co} (h : Kids w D g V ts) {hd : Int} (hl : ts.length = opsN hd) (hE : ∀ b, D b ∨ g < b → E b) (pj : Int) (ij : Bool) :
    VCo w E (.part pj ij hd (ts.getD 0 .any) (ts.getD 1 .any)) (.iface 100 (.agg #[.int .i64 pj, .bool ij, .int .u8 hd, V])) := by
  obtain ⟨vs, C, h1, h2, h3⟩ := h
  obtain ⟨A, c, rfl, hc1, hc2⟩ := own_shape h1
  have hk := (Kd.own h1)
  have hvl : vs.length = opsN hd := by have := h1.1; simpa [hl] using this
  have anyv : ∀ C : Nat → Prop, VCo w C .any (.iface 106 (.agg #[])) := fun _ => rfl
  have one : ∀ j, VCo w E (ts.getD j .any) (vs.getD j (.iface 106 (.agg #[]))) := by
    intro j
    by_cases hj : j < ts.length
    · have e1 : ts[j]? = some (ts.getD j .any) := by rw [List.getD_eq_getElem?_getD, List.getElem?_eq_getElem hj]; rfl
      have e2 : vs[j]? = some (vs.getD j (.iface 106 (.agg #[]))) := by rw [List.getD_eq_getElem?_getD, List.getElem?_eq_getElem (show j < vs.length by omega)]; rfl
      exact (h3 j _ _ e1 e2).mono fun b hb => hE b (h2 b hb).1
    · rw [List.getD_eq_getElem?_getD, List.getElem?_eq_none (by omega), List.getD_eq_getElem?_getD, List.getElem?_eq_none (by omega)]
      exact anyv _
  refine ⟨A, c, vs.getD 0 (.iface 106 (.agg #[])), vs.getD 1 (.iface 106 (.agg #[])), by rw [← hl], by omega, hc2, ?_, one 0, one 1⟩
  have e : ([vs.getD 0 (.iface 106 (.agg #[])), vs.getD 1 (.iface 106 (.agg #[]))] : List Value).take (opsN hd) = vs := by
    rcases opsN_le hd with h0 | h0 | h0
    · rw [h0] at hvl ⊢; rw [List.eq_nil_of_length_eq_zero hvl]; rfl
    · rw [h0] at hvl ⊢
      match vs, hvl with
      | [x], _ => rfl
    · rw [h0] at hvl ⊢
      match vs, hvl with
      | [x, y], _ => rfl
  rw [e]
  rcases hk with h | ⟨b, o, e1, e2, e3⟩
  · exact .inl h
  · exact .inr ⟨b, o, e1, hE b (.inr (by omega)), e3⟩

/-! ### The reader's loop, plain -/
def contC (d : Nat) (hd pj : Int) (ij : Bool) : Nat → List Co → List Nd → Option (Co × List Nd)
  | 0, ts, r => some (.part pj ij hd (ts.getD 0 .any) (ts.getD 1 .any), r)
  | m + 1, ts, r => match readC d r with
    | none => none
    | some (a, r1) => if kidB pj ij (turnd hd ts.length) a = false then none else contC d hd pj ij m (ts ++ [a]) r1
theorem cont_read (d : Nat) (hd pj : Int) (ij : Bool) (r : List Nd) :
    contC d hd pj ij (opsN hd) [] r = if opsN hd = 0 then some (.part pj ij hd .any .any, r)
    else match readC d r with
      | none => none
      | some (a, r1) =>
        if kidB pj ij (turnd hd 0) a = false then none
        else if opsN hd = 1 then some (.part pj ij hd a .any, r1)
        else match readC d r1 with
          | none => none
          | some (b, r2) => if kidB pj ij (turnd hd 1) b = false then none else some (.part pj ij hd a b, r2) := by
  rcases opsN_le hd with h0 | h0 | h0
  · rw [h0]; rfl
  · rw [h0]
    simp only [contC]
    rw [if_neg (by decide)]
    simp
  · rw [h0]
    simp only [contC]
    rw [if_neg (by decide)]
    simp
end Go.Proofs.YtjklecncdinabaaGreatDoor.C
