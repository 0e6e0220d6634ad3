/- The answer's reader, plain: node, kids, and whether their ends fit. -/
import Derived.Test.YtjklecncdinabaaGreatDoorCoU
namespace Go.Proofs.YtjklecncdinabaaGreatDoor.C
open Go.RowKit Go.Proofs.YtjklecncdinabaaGreatDoor.B
set_option linter.unusedVariables false
set_option linter.unusedSimpArgs false

def contR (d : Nat) : Nat → List Co → List Nd → Option (List Co × List Nd)
  | 0, ts, r => some (ts, r)
  | m + 1, ts, r => match readC d r with
    | none => none
    | some (a, r1) => contR d m (ts ++ [a]) r1
theorem contR_some {d : Nat} : ∀ {m : Nat} {ts : List Co} {r : List Nd} {ts' : List Co} {r' : List Nd}, contR d m ts r = some (ts', r') → ts'.length = ts.length + m ∧ ∀ i, i < ts.length → ts'.getD i .any = ts.getD i .any
  | 0, ts, r, ts', r', h => by
    simp only [contR, Option.some.injEq, Prod.mk.injEq] at h
    obtain ⟨rfl, _⟩ := h
    exact ⟨rfl, fun _ _ => rfl⟩
  | m + 1, ts, r, ts', r', h => by
    simp only [contR] at h
    rcases hr : readC d r with _ | ⟨a, r1⟩
    · rw [hr] at h; cases h
    · rw [hr] at h
      obtain ⟨h1, h2⟩ := contR_some h
      refine ⟨by rw [h1]; simp; omega, fun i hi => ?_⟩
      rw [h2 i (by simp; omega), List.getD_eq_getElem?_getD, List.getElem?_append_left hi, ← List.getD_eq_getElem?_getD]
/-- Do so many kids' ends fit? -/
def grL (pj : Int) (ij : Bool) (hd : Int) (n : Nat) (ts : List Co) : Bool := (List.range n).all fun i => kidB pj ij (turnd hd i) (ts.getD i .any)
theorem grL_iff {pj : Int} {ij : Bool} {hd : Int} {n : Nat} {ts : List Co} : grL pj ij hd n ts = true ↔ ∀ i, i < n → kidB pj ij (turnd hd i) (ts.getD i .any) = true := by
  unfold grL; rw [List.all_eq_true]; simp [List.mem_range]
theorem cont_R (d : Nat) (hd pj : Int) (ij : Bool) : ∀ (m : Nat) (ts : List Co) (r : List Nd), (∀ i, i < ts.length → kidB pj ij (turnd hd i) (ts.getD i .any) = true) →
    contC d hd pj ij m ts r = match contR d m ts r with
      | none => none
      | some (ts', r') => if grL pj ij hd (ts.length + m) ts' = true then some (.part pj ij hd (ts'.getD 0 .any) (ts'.getD 1 .any), r') else none
  | 0, ts, r, h => by
    simp only [contC, contR]
    rw [Nat.add_zero, if_pos (grL_iff.2 h)]
  | m + 1, ts, r, h => by
    simp only [contC, contR]
    rcases hr : readC d r with _ | ⟨a, r1⟩
    · rfl
    · simp only
      by_cases hk : kidB pj ij (turnd hd ts.length) a = false
      · rw [if_pos hk]
        rcases hc : contR d m (ts ++ [a]) r1 with _ | ⟨ts', r'⟩
        · rfl
        · simp only
          rw [if_neg]
          intro hg
          have h1 := grL_iff.1 hg ts.length (by omega)
          rw [(contR_some hc).2 ts.length (by simp), List.getD_eq_getElem?_getD, List.getElem?_append_right (Nat.le_refl _)] at h1
          simp at h1
          rw [h1] at hk
          cases hk
      · rw [if_neg hk, cont_R d hd pj ij m (ts ++ [a]) r1]
        · rw [show (ts ++ [a]).length + m = ts.length + (m + 1) by simp; omega]
        · intro i hi
          by_cases hl : i < ts.length
          · rw [List.getD_eq_getElem?_getD, List.getElem?_append_left hl, ← List.getD_eq_getElem?_getD]; exact h i hl
          · have : i = ts.length := by simp at hi; omega
            subst this
            rw [List.getD_eq_getElem?_getD, List.getElem?_append_right (Nat.le_refl _)]
            simpa using tru hk

/-- The tree of a node and its kids. -/
def mkT (n : Nd) (ts : List Co) : Co := if n.op = 1 then .any else if n.op = 7 then .fail n.pj n.lb n.fr n.to else .part n.pj n.ij n.hd (ts.getD 0 .any) (ts.getD 1 .any)
theorem mkT_nd {n : Nd} {ts : List Co} (h : goodB n = true) : (mkT n ts).nd = n ∧ (mkT n ts).nk = kidsN n := by
  unfold mkT kidsN
  by_cases h1 : n.op = 1
  · rw [if_pos h1, if_pos (.inl h1)]
    unfold goodB at h
    rw [if_pos h1, anyB_iff h1] at h
    rw [h]; exact ⟨rfl, rfl⟩
  · rw [if_neg h1]
    by_cases h7 : n.op = 7
    · rw [if_pos h7, if_pos (.inr h7)]
      unfold goodB at h
      rw [if_neg h1] at h
      split at h
      · cases h
      · rw [failB_iff] at h
        obtain ⟨g1, g2, g3, g4, g5⟩ := h
        refine ⟨?_, rfl⟩
        obtain ⟨op, pj, ij, hd, lb, fr, tq⟩ := n
        simp only [Co.nd] at *
        subst g2 g4 h7
        rfl
    · have hk := (goodB_kids h h1 h7)
      unfold kidsN at hk
      rw [if_neg (by simp [h1, h7])] at hk
      rw [if_neg h7, if_neg (by simp [h1, h7]), hk.1]
      unfold goodB at h
      rw [if_neg h1] at h
      split at h
      · cases h
      · rw [partB_iff] at h
        obtain ⟨g1, g2, g3, g4⟩ := h
        refine ⟨?_, rfl⟩
        obtain ⟨op, pj, ij, hd, lb, fr, tq⟩ := n
        simp only [Co.nd] at *
        subst g1 g2 g3 g4
        rfl
theorem kidsN_le (n : Nd) : kidsN n ≤ 2 := by
  unfold kidsN partsN; repeat' split
  all_goals omega
theorem readC_good (d : Nat) (n : Nd) (r : List Nd) : readC (d + 1) (n :: r) = if goodB n = true then (match contR d (kidsN n) [] r with
    | none => none
    | some (ts, r') => if grL n.pj n.ij n.hd (kidsN n) ts = true then some (mkT n ts, r') else none) else none := by
  by_cases hg : goodB n = true
  · rw [if_pos hg]
    have hg0 := hg
    unfold goodB at hg
    unfold readC
    by_cases h1 : n.op = 1
    · rw [if_pos h1] at hg ⊢
      rw [if_pos hg]
      have : kidsN n = 0 := by unfold kidsN; rw [if_pos (.inl h1)]
      rw [this]
      simp only [contR]
      rw [if_pos (grL_iff.2 fun i hi => absurd hi (by omega))]
      unfold mkT; rw [if_pos h1]
    · rw [if_neg h1] at hg ⊢
      split at hg
      · cases hg
      · rename_i h2
        have h3 : opsO n.hd ≠ 0 ∧ prjB n.pj = true := by
          unfold headB at h2; simp at h2; exact ⟨h2.1, h2.2⟩
        rw [if_neg (by simp [h3.1, h3.2])]
        by_cases h7 : n.op = 7
        · rw [if_pos h7] at hg ⊢
          rw [if_pos hg]
          have : kidsN n = 0 := by unfold kidsN; rw [if_pos (.inr h7)]
          rw [this]
          simp only [contR]
          rw [if_pos (grL_iff.2 fun i hi => absurd hi (by omega))]
          unfold mkT; rw [if_neg h1, if_pos h7]
        · rw [if_neg h7] at hg ⊢
          rw [if_neg (by simp [hg])]
          refine (cont_read d n.hd n.pj n.ij r).symm.trans ?_
          rw [cont_R d n.hd n.pj n.ij (opsN n.hd) [] r (fun i hi => absurd hi (by simp))]
          rw [(goodB_kids hg0 h1 h7).1]
          simp only [List.length_nil, Nat.zero_add]
          have hmk : ∀ ts, mkT n ts = .part n.pj n.ij n.hd (ts.getD 0 .any) (ts.getD 1 .any) := fun ts => by unfold mkT; rw [if_neg h1, if_neg h7]
          simp only [hmk]
  · rw [if_neg hg]
    unfold goodB at hg
    unfold readC
    by_cases h1 : n.op = 1
    · rw [if_pos h1] at hg ⊢
      rw [if_neg hg]
    · rw [if_neg h1] at hg ⊢
      split at hg
      · rename_i h2
        rw [if_pos]
        unfold headB at h2
        simp at h2
        rcases h2 with h | h
        · exact .inl h
        · exact .inr h
      · rename_i h2
        have h3 : opsO n.hd ≠ 0 ∧ prjB n.pj = true := by
          unfold headB at h2; simp at h2; exact ⟨h2.1, h2.2⟩
        rw [if_neg (by simp [h3.1, h3.2])]
        by_cases h7 : n.op = 7
        · rw [if_pos h7] at hg ⊢
          rw [if_neg hg]
        · rw [if_neg h7] at hg ⊢
          rw [if_pos (by simpa using hg)]
end Go.Proofs.YtjklecncdinabaaGreatDoor.C
