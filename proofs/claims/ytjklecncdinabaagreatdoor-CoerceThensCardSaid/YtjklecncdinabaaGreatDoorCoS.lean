/- Contracts of the answer's small functions on coercions: label, head, opOf, turned, Parts, good, kids. -/
import Derived.Test.YtjklecncdinabaaGreatDoorCoB
import Derived.Deep.RegionHeld3
import Derived.Deep.Cut
import Derived.Deep.CutRange
import Derived.Deep.DeepCutAuto
namespace Go.Proofs.YtjklecncdinabaaGreatDoor.C
open Go.RowKit Go.Proofs.YtjklecncdinabaaGreatDoor.B
set_option linter.unusedVariables false
set_option linter.unusedSimpArgs false

def Nd.val (n : Nd) : Value := .agg #[.int .i8 n.op, .int .i64 n.pj, .bool n.ij, .int .u8 n.hd, .int .i64 n.lb, .int .u8 n.fr, .int .u8 n.to]
def headB (h : Int) : Bool := !(opsO h == 0)
def opOfI (h : Int) : Int := if h = 62 then 3 else if h = 44 then 4 else if h = 108 then 5 else if h = 120 then 6 else 2
def partsN (h : Int) : Nat := if h = 62 ∨ h = 44 then 2 else if h = 108 ∨ h = 120 then 1 else 0
theorem opOf_head {h : Int} (hh : headB h = true) : opOfI h = opsO h := by
  unfold headB at hh
  unfold opOfI opsO at *
  by_cases h1 : h = 105 ∨ h = 98 ∨ h = 116
  · rcases h1 with rfl | rfl | rfl <;> rfl
  · rw [if_neg h1] at hh ⊢
    repeat' split at hh
    all_goals first | (subst_vars; rfl) | simp_all

theorem headB_eq (h : Int) : headB h = (h == 105 || h == 98 || h == 116 || h == 62 || h == 44 || h == 108 || h == 120) := by
  unfold headB opsO
  rw [Bool.eq_iff_iff]
  simp only [Bool.not_eq_true', beq_eq_false_iff_ne, Bool.or_eq_true, beq_iff_eq]
  by_cases h1 : h = 105 ∨ h = 98 ∨ h = 116
  · rw [if_pos h1]; simp; omega
  · rw [if_neg h1]
    repeat' split
    all_goals omega
section
variable (w : World)
theorem labelR_any (n : Int) : Calls Tryz.prog 74 #[.int .i64 n] w fun e w' => e = .returned (.bool (lblB n)) ∧ w = w' := by
  go_enter Tryz.func74, Tryz.ntmps74
  go_wp2
  all_goals
    go_ret
    refine ⟨?_, rfl⟩
    unfold lblB
    simp_all
    try omega
theorem headR_any (h : Int) : Calls Tryz.prog 73 #[.int .u8 h] w fun e w' => e = .returned (.bool (headB h)) ∧ w = w' := by
  have key : ∀ b : Bool, headB h = b → Calls Tryz.prog 73 #[.int .u8 h] w fun e w' => e = .returned (.bool b) ∧ w = w' := by
    intro b hb
    go_enter Tryz.func73, Tryz.ntmps73
    go_wp2
    all_goals
      go_ret
      refine ⟨?_, rfl⟩
      rw [headB_eq] at hb
      simp_all
  exact key _ rfl
theorem opOf_any (h : Int) : Calls Tryz.prog 75 #[.int .u8 h] w fun e w' => e = .returned (.int .i8 (opOfI h)) ∧ w = w' := by
  go_enter Tryz.func75, Tryz.ntmps75
  go_wp2
  all_goals
    go_ret
    refine ⟨?_, rfl⟩
    unfold opOfI
    simp_all
theorem partsN_any (h : Int) : Calls Tryz.prog 76 #[.int .u8 h] w fun e w' => e = .returned (.int .i64 (partsN h : Nat)) ∧ w = w' := by
  go_enter Tryz.func76, Tryz.ntmps76
  go_wp2
  all_goals
    go_ret
    refine ⟨?_, rfl⟩
    unfold partsN
    simp_all
theorem turnedR_any (op : Int) (i : Nat) : Calls Tryz.prog 63 #[.int .i8 op, .int .i64 (i : Nat)] w fun e w' => e = .returned (.bool (op == 3 && i == 0 || op == 6 && i == 1)) ∧ w = w' := by
  go_enter Tryz.func63, Tryz.ntmps63
  go_wp2
  all_goals
    go_ret
    refine ⟨?_, rfl⟩
    simp_all
    try (rw [Bool.eq_iff_iff]; simp; try omega)
end

/-- May a node be? -/
def goodB (n : Nd) : Bool := if n.op = 1 then anyB n else if !headB n.hd || !prjB n.pj then false else if n.op = 7 then failB n else partB n
/-- How many kids a node has. -/
def kidsN (n : Nd) : Nat := if n.op = 1 ∨ n.op = 7 then 0 else if n.op = 6 then 2 else partsN n.hd
theorem goodB_kids {n : Nd} (h : goodB n = true) (h1 : n.op ≠ 1) (h7 : n.op ≠ 7) : kidsN n = opsN n.hd ∧ n.op = opsO n.hd := by
  unfold goodB at h
  rw [if_neg h1] at h
  split at h
  · cases h
  · rw [partB_iff] at h
    refine ⟨?_, h.1⟩
    unfold kidsN
    rw [if_neg (by simp [h1, h7]), h.1]
    unfold opsO opsN partsN
    by_cases e1 : n.hd = 105 ∨ n.hd = 98 ∨ n.hd = 116
    · rcases e1 with e | e | e <;> rw [e] <;> decide
    · rw [if_neg e1]
      by_cases e2 : n.hd = 62
      · rw [e2]; decide
      · rw [if_neg e2]
        by_cases e3 : n.hd = 44
        · rw [e3]; decide
        · rw [if_neg e3]
          by_cases e4 : n.hd = 108
          · rw [e4]; decide
          · rw [if_neg e4]
            by_cases e5 : n.hd = 120
            · rw [e5]; decide
            · rw [if_neg e5]
              simp [e2, e3, e4, e5]

set_option maxRecDepth 100000 in
theorem kidsR_any (n : Nd) (w : World) : Calls Tryz.prog 56 #[n.val] w fun e w' => e = .returned (.int .i64 (kidsN n : Nat)) ∧ Below w.heap.size w w' := by
  obtain ⟨op, pj, ij, hd, lb, fr, tq⟩ := n
  unfold Nd.val kidsN
  simp only
  have hp := fun W => partsN_any W hd
  by_cases h1 : op = 1
  · subst h1
    rw [if_pos (.inl rfl)]
    go_enter Tryz.func56, Tryz.ntmps56
    go_wp2_with fail
    go_ret
    exact ⟨rfl, bal b0 _⟩
  · have h1' : (op == 1) = false := by simpa using h1
    by_cases h7 : op = 7
    · subst h7
      rw [if_pos (.inr rfl)]
      go_enter Tryz.func56, Tryz.ntmps56
      go_wp2_with fail
      go_ret
      exact ⟨rfl, bal b0 _⟩
    · have h7' : (op == 7) = false := by simpa using h7
      rw [if_neg (by simp [h1, h7])]
      by_cases h6 : op = 6
      · subst h6
        rw [if_pos rfl]
        go_enter Tryz.func56, Tryz.ntmps56
        go_wp2_with fail
        go_ret
        exact ⟨rfl, bal b0 _⟩
      · have h6' : (op == 6) = false := by simpa using h6
        rw [if_neg h6]
        clear h1 h7 h6
        go_enter Tryz.func56, Tryz.ntmps56
        go_wp2_with fail
        (refine (hp _).mono ?_); rintro ev w1 ⟨rfl, rfl⟩
        go_wp2_with fail
        go_ret
        exact ⟨rfl, bal b0 _⟩
end Go.Proofs.YtjklecncdinabaaGreatDoor.C
