/- Looser, place by place, plain. -/
import Derived.Test.YthonnpjlkcjoeaaDoorRelN
namespace Go.Proofs.YthonnpjlkcjoeaaDoor.T
set_option linter.unusedVariables false
set_option linter.unusedSimpArgs false

def toAt (l : List UInt8) (i : Nat) : Nat := i + (skipN (l.drop i) 1).1
def bareAt (l : List UInt8) (i : Nat) : Bool := (l.getD i 0 != 63) && ((l.drop (i + 1)).take (toAt l i - (i + 1))).all (· == 63)
def stepAt (l : List UInt8) (i : Nat) : List (List UInt8) := if bareAt l i = true then [l.take i ++ 63 :: l.drop (toAt l i)] else []
def looL (l : List UInt8) (n : Nat) : List (List UInt8) := (List.range n).flatMap (stepAt l)
theorem looL_succ (l : List UInt8) (n : Nat) : looL l (n + 1) = looL l n ++ stepAt l n := by simp [looL, List.range_succ]

theorem skip0 (r : List UInt8) : skipN r 0 = (0, true) := by cases r <;> rfl
theorem to_code {T : Ty} (h : T.ok) (pre suf : List UInt8) : toAt (pre ++ (T.code ++ suf)) pre.length = pre.length + T.code.length := by
  unfold toAt
  rw [List.drop_left, skipN_code T h suf 0, skip0]
  omega
theorem all63 {a : Ty} (h : a.ok) : (a.code.all (· == 63)) = (a.head == 63) := by
  cases a with
  | leaf c => simp [Ty.code, Ty.head]
  | un c t =>
    have hc : c ≠ 63 := by intro e; subst e; have := h.1; revert this; decide
    simp [Ty.code, Ty.head, hc]
  | bin c t u =>
    have hc : c ≠ 63 := by intro e; subst e; have := h.1; revert this; decide
    simp [Ty.code, Ty.head, hc]
theorem step_code {T : Ty} (h : T.ok) (pre suf : List UInt8) :
    stepAt (pre ++ (T.code ++ suf)) pre.length = if T.head ≠ 63 ∧ (T.kids.flatMap Ty.code).all (· == 63) = true then [pre ++ 63 :: suf] else [] := by
  unfold stepAt bareAt
  rw [to_code h]
  have e1 : (pre ++ (T.code ++ suf)).getD pre.length 0 = T.head := by
    rw [List.getD_eq_getElem?_getD, List.getElem?_append_right (Nat.le_refl _), Nat.sub_self, Ty.code_eq]; rfl
  have e2 : ((pre ++ (T.code ++ suf)).drop (pre.length + 1)).take (pre.length + T.code.length - (pre.length + 1)) = T.kids.flatMap Ty.code := by
    have hl : T.code.length = (T.kids.flatMap Ty.code).length + 1 := by rw [Ty.code_eq]; simp
    rw [show pre.length + T.code.length - (pre.length + 1) = (T.kids.flatMap Ty.code).length by omega, ← List.drop_drop, List.drop_left, Ty.code_eq, List.cons_append, List.drop_succ_cons, List.drop_zero, List.take_left]
  have e3 : (pre ++ (T.code ++ suf)).take pre.length = pre := List.take_left
  have e4 : (pre ++ (T.code ++ suf)).drop (pre.length + T.code.length) = suf := by rw [← List.drop_drop, List.drop_left, List.drop_left]
  rw [e1, e2, e3, e4]
  by_cases hq : T.head = 63 <;> simp [hq]
theorem range_two {α : Type} (f : Nat → List α) (m n : Nat) : (List.range (m + n)).flatMap f = (List.range m).flatMap f ++ (List.range n).flatMap fun j => f (m + j) := by
  rw [List.range_add, List.flatMap_append, List.flatMap_map]

theorem loo_code {T : Ty} : T.ok → ∀ pre suf : List UInt8, (List.range T.code.length).flatMap (fun j => stepAt (pre ++ (T.code ++ suf)) (pre.length + j)) = (looserT T).map fun q => pre ++ (q.code ++ suf) := by
  induction T with
  | leaf c =>
    intro h pre suf
    have := step_code h pre suf
    have e1 : (Ty.leaf c).code.length = 1 := rfl
    rw [e1]
    simp only [List.range_one, List.flatMap_cons, List.flatMap_nil, List.append_nil, Nat.add_zero]
    rw [this]
    by_cases hc : c = 63 <;> simp [looserT, Ty.head, Ty.kids, Ty.code, hc]
  | un c a ih =>
    intro h pre suf
    have hs := step_code h pre suf
    have hc : c ≠ 63 := by intro e; subst e; have := h.1; revert this; decide
    have e1 : (Ty.un c a).code.length = 1 + a.code.length := by simp [Ty.code]; omega
    rw [e1, range_two]
    simp only [List.range_one, List.flatMap_cons, List.flatMap_nil, List.append_nil, Nat.add_zero]
    rw [hs]
    have i1 := ih h.2 (pre ++ [c]) suf
    have i2 : (pre ++ [c]) ++ (a.code ++ suf) = pre ++ ((Ty.un c a).code ++ suf) := by simp [Ty.code]
    rw [i2] at i1
    have i3 : ∀ j, (pre ++ [c]).length + j = pre.length + (1 + j) := fun j => by simp; omega
    simp only [i3] at i1
    rw [i1]
    have hk : ((Ty.un c a).kids.flatMap Ty.code).all (· == 63) = (a.head == 63) := by simp only [Ty.kids, List.flatMap_cons, List.flatMap_nil, List.append_nil]; exact all63 h.2
    rw [hk]
    by_cases ha : a.head = 63
    · rw [if_pos ⟨hc, by simp [ha]⟩]
      have : looserT a = [] := looser_dyn h.2 ha
      rw [this]
      simp [looserT, ha, Ty.code]
    · rw [if_neg (by simp [ha])]
      simp [looserT, ha, Ty.code]
  | bin c a b iha ihb =>
    intro h pre suf
    have hs := step_code h pre suf
    have hc : c ≠ 63 := by intro e; subst e; have := h.1; revert this; decide
    have e1 : (Ty.bin c a b).code.length = 1 + (a.code.length + b.code.length) := by simp [Ty.code]; omega
    rw [e1, range_two, range_two]
    simp only [List.range_one, List.flatMap_cons, List.flatMap_nil, List.append_nil, Nat.add_zero]
    rw [hs]
    have i1 := iha h.2.1 (pre ++ [c]) (b.code ++ suf)
    have i2 : (pre ++ [c]) ++ (a.code ++ (b.code ++ suf)) = pre ++ ((Ty.bin c a b).code ++ suf) := by simp [Ty.code]
    rw [i2] at i1
    have i3 : ∀ j, (pre ++ [c]).length + j = pre.length + (1 + j) := fun j => by simp; omega
    simp only [i3] at i1
    have j1 := ihb h.2.2 (pre ++ c :: a.code) suf
    have j2 : (pre ++ c :: a.code) ++ (b.code ++ suf) = pre ++ ((Ty.bin c a b).code ++ suf) := by simp [Ty.code]
    rw [j2] at j1
    have j3 : ∀ j, (pre ++ c :: a.code).length + j = pre.length + (1 + (a.code.length + j)) := fun j => by simp; omega
    simp only [j3] at j1
    rw [i1, j1]
    have hk : ((Ty.bin c a b).kids.flatMap Ty.code).all (· == 63) = (a.head == 63 && b.head == 63) := by
      simp only [Ty.kids, List.flatMap_cons, List.flatMap_nil, List.append_nil, List.all_append]; rw [all63 h.2.1, all63 h.2.2]
    rw [hk]
    by_cases ha : a.head = 63 ∧ b.head = 63
    · rw [if_pos ⟨hc, by simp [ha.1, ha.2]⟩]
      have n1 : looserT a = [] := looser_dyn h.2.1 ha.1
      have n2 : looserT b = [] := looser_dyn h.2.2 ha.2
      rw [n1, n2]
      simp [looserT, ha, Ty.code]
    · rw [if_neg (by intro h; apply ha; simpa using h.2)]
      simp [looserT, ha, Ty.code, Function.comp_def]
theorem looL_code {T : Ty} (h : T.ok) : looL T.code T.code.length = (looserT T).map Ty.code := by
  have := loo_code h [] []
  simpa [looL] using this

/-- At each place a type begins. -/
theorem drop_type {T : Ty} : T.ok → ∀ i, i < T.code.length → ∃ S : Ty, S.ok ∧ ∃ r, T.code.drop i = S.code ++ r := by
  induction T with
  | leaf c =>
    intro h i hi
    have : i = 0 := by simp [Ty.code] at hi; omega
    subst this
    exact ⟨_, h, [], by simp⟩
  | un c a ih =>
    intro h i hi
    cases i with
    | zero => exact ⟨_, h, [], by simp⟩
    | succ i =>
      obtain ⟨S, hS, r, e⟩ := ih h.2 i (by simp [Ty.code] at hi; omega)
      exact ⟨S, hS, r, by simpa [Ty.code] using e⟩
  | bin c a b iha ihb =>
    intro h i hi
    cases i with
    | zero => exact ⟨_, h, [], by simp⟩
    | succ i =>
      by_cases h1 : i < a.code.length
      · obtain ⟨S, hS, r, e⟩ := iha h.2.1 i h1
        refine ⟨S, hS, r ++ b.code, ?_⟩
        simp only [Ty.code, List.drop_succ_cons]
        rw [List.drop_append_of_le_length (by omega), e, List.append_assoc]
      · obtain ⟨S, hS, r, e⟩ := ihb h.2.2 (i - a.code.length) (by simp [Ty.code] at hi; omega)
        refine ⟨S, hS, r, ?_⟩
        simp only [Ty.code, List.drop_succ_cons]
        rw [show i = a.code.length + (i - a.code.length) by omega, ← List.drop_drop, List.drop_left]
        exact e
theorem drop_skip {T : Ty} (h : T.ok) {i : Nat} (hi : i < T.code.length) : (skipN (T.code.drop i) 1).2 = true ∧ i < toAt T.code i ∧ toAt T.code i ≤ T.code.length := by
  obtain ⟨S, hS, r, e⟩ := drop_type h i hi
  have h1 := skipN_code S hS r 0
  rw [skip0] at h1
  have h2 := S.code_pos
  have h3 := congrArg List.length e
  simp at h3
  unfold toAt
  rw [e, h1]
  exact ⟨rfl, by simp only; omega, by simp only; omega⟩
end Go.Proofs.YthonnpjlkcjoeaaDoor.T
