/- Contracts: small functions of package fault, and of its law. -/
import Derived.Test.YtkebplifkkhhlaaDoorErrI
namespace Go.Proofs.YtkebplifkkhhlaaDoor.F
open Go.RowKit Go.Proofs.YtkebplifkkhhlaaDoor.B Go.Proofs.YtkebplifkkhhlaaDoor.La
set_option linter.unusedVariables false
set_option linter.unusedSimpArgs false

/-- The cell that errors.As reads: its handle of 'error'. -/
def Han (w : World) : Prop := w.cell? ⟨0, 0, none⟩ = some (.iface 180 (.agg #[.pointer (some ⟨5, 28, none⟩)]))
theorem Han.below {w w' : World} (h : Han w) (hb : Below w.heap.size w w') : Han w' := (hb.cell (p := ⟨0, 0, none⟩) (cell_lt h)).trans h

theorem Er.face' (e : Er) : e = .no ∨ ∃ D z, e.val = .iface D z ∧ e ≠ .no := by
  by_cases h : e = .no
  · exact .inl h
  · obtain ⟨D, z, hz⟩ := Er.face h; exact .inr ⟨D, z, hz, h⟩

theorem wrap_any (d : ByteArray) (e : Er) (w : World) (hat : e.At w) :
    Calls Tryd.prog 25 #[.string d, e.val] w fun ev w' => ∃ u : Er, ev = .returned u.val ∧ u.At w' ∧ Below w.heap.size w w' ∧ (e = .no → u = .no) ∧ (e ≠ .no → u = .inn w.heap.size d e) := by
  rcases Er.face' e with rfl | ⟨D, z, hz, hno⟩
  · simp only [Er.val]
    go_enter Tryd.func25, Tryd.ntmps25
    go_wp2_with fail
    go_ret
    exact ⟨.no, rfl, trivial, Below.refl _ _, fun _ => rfl, fun h => absurd rfl h⟩
  · have HZ := Lib.hid hz
    rw [hz]
    clear hz
    go_enter Tryd.func25, Tryd.ntmps25
    go_wp2_with fail
    go_ret
    have hb : Below w.heap.size w (w.alloc (.cells #[.string d, .iface D z] 59)) := (Below.refl _ _).alloc (Nat.le_refl _) _
    exact ⟨.inn w.heap.size d e, rfl, ⟨by rw [HZ.out]; exact Blk.new _ _ _, hat.below hb⟩, hb, fun h => absurd h hno, fun _ => rfl⟩

set_option maxRecDepth 100000 in
theorem code_any (e : Er) (w : World) (hg : Han w) (hat : e.At w) :
    Calls Tryd.prog 17 #[e.val] w fun ev w' => ev = .returned (.int .i64 (e.code.getD 0)) ∧ Below w.heap.size w w' := by
  obtain ⟨z, hz⟩ : ∃ z, e.val = z := ⟨_, rfl⟩
  obtain ⟨W, hW⟩ : ∃ W, w.alloc (.cells #[.int .i64 0] 37) = W := ⟨_, rfl⟩
  have hb : Below w.heap.size w W := by rw [← hW]; exact (Below.refl _ _).alloc (Nat.le_refl _) _
  have h := As_E e w.heap.size (.int .i64 0) W (hg.below hb) (hat.below hb) (by rw [← hW]; simp) (by rw [← hW]; simp)
  rw [hz] at h ⊢
  unfold Er.findE at h
  have HB := Lib.hid hb
  clear hz hb hat hg
  obtain ⟨oc, hoc⟩ : ∃ oc, e.code = oc := ⟨_, rfl⟩
  rw [hoc] at h ⊢
  clear hoc
  cases oc with
  | none =>
    simp only [Option.map_none, Option.getD_none] at h ⊢
    go_enter Tryd.func17, Tryd.ntmps17
    go_wp2_with fail
    try rw [hW]
    (refine h.mono ?_); rintro ev w1 H
    obtain rfl := H.ev
    have HH := Lib.hid H
    clear H
    simp only [Option.isSome_none]
    go_wp2_with fail
    go_ret
    exact ⟨rfl, bl HB.out HH.out.2⟩
  | some n =>
    simp only [Option.map_some, Option.getD_some] at h ⊢
    go_enter Tryd.func17, Tryd.ntmps17
    go_wp2_with fail
    try rw [hW]
    (refine h.mono ?_); rintro ev w1 H
    obtain rfl := H.ev
    have h1 := H.2.2
    have HH := Lib.hid H.2.1
    clear H
    simp only [Option.isSome_some]
    go_wp2_with fail
    go_ret
    refine ⟨rfl, ?_⟩
    exact ((But.of_below HB.out).trans HH.out fun _ _ h => h).below (Nat.le_refl _) fun k hk => by omega

/-- The label of an error, or none. -/
def Er.lab : Er → Option Int
  | .bl _ n _ _ => some n
  | .inn _ _ r => r.lab
  | _ => none
theorem Er.findB_cases {w : World} : ∀ {e : Er}, e.At w → (e.lab = none ∧ (e.findB = none ∨ e.findB = some (.pointer none))) ∨ (∃ a n s nm, e.lab = some n ∧ e.findB = some (ptr' a) ∧ (Er.bl a n s nm).At w)
  | .no, _ => .inl ⟨rfl, .inl rfl⟩
  | .bl a n s nm, h => .inr ⟨a, n, s, nm, rfl, rfl, h⟩
  | .nb, _ => .inl ⟨rfl, .inr rfl⟩
  | .fa a c, _ => .inl ⟨rfl, .inl rfl⟩
  | .er n, _ => .inl ⟨rfl, .inl rfl⟩
  | .ot v, _ => .inl ⟨rfl, .inl rfl⟩
  | .inn a d r, h => Er.findB_cases (e := r) h.2

set_option maxRecDepth 100000 in
theorem label_any (e : Er) (w : World) (hg : Han w) (hat : e.At w) :
    Calls Tryd.prog 16 #[e.val] w fun ev w' => ev = .returned (.tuple #[.int .i64 (e.lab.getD 0), .bool e.lab.isSome]) ∧ Below w.heap.size w w' := by
  obtain ⟨z, hz⟩ : ∃ z, e.val = z := ⟨_, rfl⟩
  obtain ⟨W, hW⟩ : ∃ W, w.alloc (.cells #[.pointer none] 86) = W := ⟨_, rfl⟩
  have hb : Below w.heap.size w W := by rw [← hW]; exact (Below.refl _ _).alloc (Nat.le_refl _) _
  have h := As_B e w.heap.size (.pointer none) W (hg.below hb) (hat.below hb) (by rw [← hW]; simp) (by rw [← hW]; simp)
  have hcs := Er.findB_cases hat
  rw [hz] at h ⊢
  have HB := Lib.hid hb
  clear hz hb hat hg
  rcases hcs with ⟨hl, hf | hf⟩ | ⟨a, n, s, nm, hl, hf, hc⟩
  · rw [hf] at h
    rw [hl]
    simp only [Option.getD_none, Option.isSome_none] at h ⊢
    clear hf hl
    go_enter Tryd.func16, Tryd.ntmps16
    go_wp2_with fail
    try rw [hW]
    (refine h.mono ?_); rintro ev w1 H
    obtain rfl := H.ev
    have HH := Lib.hid H
    clear H
    simp only [Option.isSome_none]
    go_wp2_with fail
    go_ret2
    exact ⟨rfl, bl HB.out HH.out.2⟩
  · rw [hf] at h
    rw [hl]
    simp only [Option.getD_none, Option.isSome_none] at h ⊢
    clear hf hl
    go_enter Tryd.func16, Tryd.ntmps16
    go_wp2_with fail
    try rw [hW]
    (refine h.mono ?_); rintro ev w1 H
    obtain rfl := H.ev
    have h1 := H.2.2
    have HH := Lib.hid H.2.1
    clear H
    simp only [Option.isSome_some]
    go_wp2_with fail
    go_ret2
    exact ⟨rfl, ((But.of_below HB.out).trans HH.out fun _ _ h => h).below (Nat.le_refl _) fun k hk => by omega⟩
  · rw [hf] at h
    rw [hl]
    simp only [Option.getD_some, Option.isSome_some, ptr'] at h ⊢
    clear hf hl
    have HC := Lib.hid hc
    clear hc
    go_enter Tryd.func16, Tryd.ntmps16
    go_wp2_with fail
    try rw [hW]
    (refine h.mono ?_); rintro ev w1 H
    obtain rfl := H.ev
    have h1 := H.2.2
    have hbl : Below w.heap.size w w1 := ((But.of_below HB.out).trans H.2.1 fun _ _ h => h).below (Nat.le_refl _) fun k hk => by omega
    have c0 := (Er.At.below hbl HC.out).cell 0
    simp only [List.getElem?_toArray, List.getElem?_cons_zero] at c0
    have HH := Lib.hid hbl
    clear H hbl
    simp only [Option.isSome_some]
    go_wp2_with fail
    go_ret2
    exact ⟨rfl, HH.out⟩
end Go.Proofs.YtkebplifkkhhlaaDoor.F
