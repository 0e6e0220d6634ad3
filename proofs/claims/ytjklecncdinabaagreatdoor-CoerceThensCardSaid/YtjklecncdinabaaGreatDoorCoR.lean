/- Coercions, plain: the tree at the beginning of a list of nodes. No program in sight. -/
import Derived.Test.YtjklecncdinabaaGreatDoorCoP
namespace Go.Proofs.YtjklecncdinabaaGreatDoor.C
set_option linter.unusedSimpArgs false
set_option linter.unusedVariables false

theorem tru {b : Bool} (h : ¬ b = false) : b = true := by cases b <;> simp_all

def lblB (n : Int) : Bool := n != 0 && decide (-2147483647 ≤ n) && decide (n ≤ 2147483647)
def prjB (n : Int) : Bool := n == 0 || lblB n
theorem lblB_iff {n : Int} : lblB n = true ↔ lbl n := by unfold lblB lbl; simp [and_assoc]
theorem prjB_iff {n : Int} : prjB n = true ↔ prj n := by unfold prjB prj; simp [lblB_iff]
def kidB (p : Int) (j : Bool) (tu : Bool) (k : Co) : Bool := (p == 0 || (if tu then k.ends else k.begins)) && (!j || (if tu then k.begins else k.ends))
theorem kidB_iff {p : Int} {j tu : Bool} {k : Co} : kidB p j tu k = true ↔ kidOk p j tu k := by
  unfold kidB kidOk
  by_cases hp : p = 0
  · subst hp; cases j <;> simp
  · cases j <;> simp [hp]
theorem kid_any (p : Int) (j tu : Bool) : kidOk p j tu .any := by unfold kidOk; cases tu <;> simp [Co.ends, Co.begins]

/-- Is it the node of 'anything'? -/
def anyB (n : Nd) : Bool := n.pj == 0 && n.ij == false && n.hd == 0 && n.lb == 0 && n.fr == 0 && n.to == 0
def failB (n : Nd) : Bool := !(opsO n.to == 0) && !n.ij && lblB n.lb && n.fr == n.hd && !(n.to == n.fr)
def partB (n : Nd) : Bool := n.op == opsO n.hd && n.lb == 0 && n.fr == 0 && n.to == 0

/-- d: so many more may stand one in the other. -/
def readC : Nat → List Nd → Option (Co × List Nd)
  | 0, _ => none
  | _ + 1, [] => none
  | d + 1, n :: r =>
    if n.op = 1 then (if anyB n = true then some (.any, r) else none)
    else if opsO n.hd = 0 ∨ prjB n.pj = false then none
    else if n.op = 7 then (if failB n = true then some (.fail n.pj n.lb n.fr n.to, r) else none)
    else if partB n = false then none
    else if opsN n.hd = 0 then some (.part n.pj n.ij n.hd .any .any, r)
    else match readC d r with
      | none => none
      | some (a, r1) =>
        if kidB n.pj n.ij (turnd n.hd 0) a = false then none
        else if opsN n.hd = 1 then some (.part n.pj n.ij n.hd a .any, r1)
        else match readC d r1 with
          | none => none
          | some (b, r2) => if kidB n.pj n.ij (turnd n.hd 1) b = false then none else some (.part n.pj n.ij n.hd a b, r2)

theorem opsO_ne (h : Int) : opsO h ≠ 1 ∧ opsO h ≠ 7 := by
  unfold opsO
  repeat' split
  all_goals decide
theorem anyB_iff {n : Nd} (h : n.op = 1) : anyB n = true ↔ n = ⟨1, 0, false, 0, 0, 0, 0⟩ := by
  obtain ⟨op, pj, ij, hd, lb, fr, to⟩ := n
  simp only at h
  subst h
  simp [anyB, and_assoc]
theorem failB_iff {n : Nd} : failB n = true ↔ opsO n.to ≠ 0 ∧ n.ij = false ∧ lbl n.lb ∧ n.fr = n.hd ∧ n.to ≠ n.fr := by
  unfold failB; simp [lblB_iff, and_assoc]
theorem partB_iff {n : Nd} : partB n = true ↔ n.op = opsO n.hd ∧ n.lb = 0 ∧ n.fr = 0 ∧ n.to = 0 := by
  unfold partB; simp [and_assoc]

theorem readC_some (d : Nat) : ∀ (l : List Nd) (t : Co) (r : List Nd), readC d l = some (t, r) → l = t.list ++ r ∧ okC t ∧ t.high ≤ d := by
  induction d with
  | zero => intro l t r h; simp [readC] at h
  | succ d ih =>
    intro l t r h
    cases l with
    | nil => simp [readC] at h
    | cons n l =>
      unfold readC at h
      split at h
      · rename_i h1
        split at h
        · rename_i h2
          rw [anyB_iff h1] at h2
          injection h with h
          injection h with e1 e2
          subst e1 e2
          rw [h2]
          exact ⟨rfl, trivial, by simp [Co.high]⟩
        · cases h
      · rename_i h1
        split at h
        · cases h
        · rename_i h2
          have ho : opsO n.hd ≠ 0 := fun e => h2 (.inl e)
          have hp : prj n.pj := prjB_iff.1 (tru fun e => h2 (.inr e))
          split at h
          · rename_i h3
            split at h
            · rename_i h4
              rw [failB_iff] at h4
              obtain ⟨g1, g2, g3, g4, g5⟩ := h4
              injection h with h
              injection h with e1 e2
              subst e1 e2
              refine ⟨?_, ⟨hp, g3, by rw [g4]; exact ho, g1, g5⟩, by simp [Co.high]⟩
              obtain ⟨op, pj, ij, hd, lb, fr, to⟩ := n
              simp only at *
              subst g2 g4 h3
              rfl
            · cases h
          · split at h
            · cases h
            · rename_i h4
              have h4' : partB n = true := tru h4
              rw [partB_iff] at h4'
              obtain ⟨g1, g2, g3, g4⟩ := h4'
              have en : n = ⟨opsO n.hd, n.pj, n.ij, n.hd, 0, 0, 0⟩ := by
                obtain ⟨op, pj, ij, hd, lb, fr, to⟩ := n
                simp only at *
                subst g1 g2 g3 g4
                rfl
              split at h
              · rename_i h5
                injection h with h
                injection h with e1 e2
                subst e1 e2
                refine ⟨?_, ⟨hp, ho, fun _ => rfl, fun _ => rfl, kid_any _ _ _, trivial, kid_any _ _ _, trivial⟩, by simp only [Co.high]; rw [if_pos h5]; omega⟩
                simp only [Co.list, h5]
                rw [← en]; simp
              · rename_i h5
                rcases hr : readC d l with _ | ⟨a, r1⟩
                · rw [hr] at h; cases h
                · rw [hr] at h
                  simp only at h
                  obtain ⟨i1, i2, i3⟩ := ih _ _ _ hr
                  split at h
                  · cases h
                  · rename_i h6
                    have k0 : kidOk n.pj n.ij (turnd n.hd 0) a := kidB_iff.1 (tru h6)
                    split at h
                    · rename_i h7
                      injection h with h
                      injection h with e1 e2
                      subst e1 e2
                      refine ⟨?_, ⟨hp, ho, fun e => by omega, fun _ => rfl, k0, i2, kid_any _ _ _, trivial⟩, by simp only [Co.high]; rw [if_neg (by omega), if_pos h7]; omega⟩
                      simp only [Co.list, h7]
                      rw [← en]; simp [i1]
                    · rename_i h7
                      rcases hr2 : readC d r1 with _ | ⟨b, r2⟩
                      · rw [hr2] at h; cases h
                      · rw [hr2] at h
                        simp only at h
                        obtain ⟨j1, j2, j3⟩ := ih _ _ _ hr2
                        split at h
                        · cases h
                        · rename_i h8
                          have k1 : kidOk n.pj n.ij (turnd n.hd 1) b := kidB_iff.1 (tru h8)
                          have hN : opsN n.hd = 2 := by rcases opsN_le n.hd with e | e | e <;> omega
                          injection h with h
                          injection h with e1 e2
                          subst e1 e2
                          refine ⟨?_, ⟨hp, ho, fun e => by omega, fun e => by omega, k0, i2, k1, j2⟩, by simp only [Co.high]; rw [if_neg (by omega), if_neg (by omega)]; omega⟩
                          simp only [Co.list, hN]
                          rw [← en]; simp [i1, j1]

theorem readC_list (t : Co) : ∀ (d : Nat) (r : List Nd), okC t → t.high ≤ d → readC d (t.list ++ r) = some (t, r) := by
  induction t with
  | any =>
    intro d r ho hh
    obtain ⟨d, rfl⟩ : ∃ d', d = d' + 1 := ⟨d - 1, by simp [Co.high] at hh; omega⟩
    simp [Co.list, readC, anyB]
  | fail p l f t =>
    intro d r ho hh
    obtain ⟨d, rfl⟩ : ∃ d', d = d' + 1 := ⟨d - 1, by simp [Co.high] at hh; omega⟩
    obtain ⟨g1, g2, g3, g4, g5⟩ := ho
    have hf : failB ⟨7, p, false, f, l, f, t⟩ = true := failB_iff.2 ⟨g4, rfl, g2, rfl, g5⟩
    have hp := prjB_iff.2 g1
    simp [Co.list, readC, hf, hp, g3]
  | part p j h a b iha ihb =>
    intro d r ho hh
    have hpos := Co.high_pos (.part p j h a b)
    obtain ⟨d, rfl⟩ : ∃ d', d = d' + 1 := ⟨d - 1, by omega⟩
    obtain ⟨g1, g2, g3, g4, g5, g6, g7, g8⟩ := ho
    have hp := prjB_iff.2 g1
    obtain ⟨n1, n7⟩ := opsO_ne h
    have hpb : partB ⟨opsO h, p, j, h, 0, 0, 0⟩ = true := partB_iff.2 ⟨rfl, rfl, rfl, rfl⟩
    have k0 := kidB_iff.2 g5
    have k1 := kidB_iff.2 g7
    simp only [Co.list, List.cons_append, readC, if_neg n1, if_neg n7, hp, hpb]
    rw [if_neg (by simp [g2]), if_neg (by simp)]
    rcases opsN_le h with h0 | h0 | h0
    · rw [if_pos h0, g3 h0, g4 (by omega), h0]; simp
    · rw [if_neg (by omega), h0, g4 (by omega)]
      simp only [Co.high, h0] at hh
      simp only [Nat.le_refl, if_true, if_neg (show ¬ (2 ≤ 1) by omega), List.append_nil]
      rw [iha d r g6 (by simp at hh; omega)]
      simp [k0]
    · rw [if_neg (by omega), h0]
      simp only [Co.high, h0] at hh
      simp only [if_pos (show 1 ≤ 2 by omega), Nat.le_refl, if_true, List.append_assoc]
      rw [iha d _ g6 (by simp at hh; omega)]
      simp only [k0]
      rw [ihb d _ g8 (by simp at hh; omega)]
      simp [k1]

/-- A list of nodes that may be: its tree. -/
def treeC (l : List Nd) : Option Co := match readC 64 l with
  | some (t, []) => some t
  | _ => none
theorem treeC_some {l : List Nd} {t : Co} (h : treeC l = some t) : l = t.list ∧ okC t ∧ t.high ≤ 64 := by
  unfold treeC at h
  split at h
  · rename_i t' h1
    injection h with h
    subst h
    have := readC_some 64 _ _ _ h1
    simpa using this
  · cases h
theorem treeC_list {t : Co} (ho : okC t) (hh : t.high ≤ 64) : treeC t.list = some t := by
  have := readC_list t 64 [] ho hh
  rw [List.append_nil] at this
  unfold treeC
  rw [this]

end Go.Proofs.YtjklecncdinabaaGreatDoor.C
