/- Sites in their order, plain: two ways of sorting labels are one; no program in sight. -/
import Derived.Test.YthonnpjlkcjoeaaDoorSites
import Derived.WalkKit
import Derived.Lib.Strings
namespace Go.Proofs.YthonnpjlkcjoeaaDoor.La
open Go.RowKit Go.Proofs.YthonnpjlkcjoeaaDoor.B Go.Op
set_option linter.unusedVariables false
set_option linter.unusedSimpArgs false

theorem less_irrefl : ∀ a : List UInt8, bytesLess a a = false
  | [] => rfl
  | a :: x => by simp [bytesLess, less_irrefl x]
theorem less_trans : ∀ a b c : List UInt8, bytesLess a b = true → bytesLess b c = true → bytesLess a c = true
  | _, [], _, h, _ => by cases ‹List UInt8› <;> simp [bytesLess] at h
  | [], b :: y, [], _, h => by simp [bytesLess] at h
  | [], b :: y, c :: z, _, _ => rfl
  | a :: x, b :: y, [], _, h => by simp [bytesLess] at h
  | a :: x, b :: y, c :: z, h1, h2 => by
    simp only [bytesLess, Bool.or_eq_true, decide_eq_true_eq, Bool.and_eq_true, beq_iff_eq] at *
    rcases h1 with h1 | ⟨rfl, h1⟩
    · rcases h2 with h2 | ⟨rfl, h2⟩
      · exact .inl (UInt8.lt_trans h1 h2)
      · exact .inl h1
    · rcases h2 with h2 | ⟨rfl, h2⟩
      · exact .inl h2
      · exact .inr ⟨rfl, less_trans x y z h1 h2⟩
theorem less_tri : ∀ a b : List UInt8, bytesLess a b = false → bytesLess b a = false → a = b
  | [], [], _, _ => rfl
  | [], b :: y, h, _ => by simp [bytesLess] at h
  | a :: x, [], _, h => by simp [bytesLess] at h
  | a :: x, b :: y, h1, h2 => by
    simp only [bytesLess, Bool.or_eq_false_iff, decide_eq_false_iff_not, Bool.and_eq_false_iff, beq_eq_false_iff_ne] at *
    have e : a = b := UInt8.le_antisymm (UInt8.not_lt.1 h2.1) (UInt8.not_lt.1 h1.1)
    subst e
    rw [less_tri x y (h1.2.resolve_left (by simp)) (h2.2.resolve_left (by simp))]

/-- By module, line, column, rule. -/
def aheadB (a b : Site) : Bool :=
  if a.mo ≠ b.mo then bytesLess a.mo.toList b.mo.toList else if a.li ≠ b.li then decide (a.li < b.li) else if a.co ≠ b.co then decide (a.co < b.co) else decide (a.ru < b.ru)
/-- And by the label. -/
def pLt (a b : Site × Int) : Bool :=
  if a.1.mo ≠ b.1.mo then bytesLess a.1.mo.toList b.1.mo.toList else if a.1.li ≠ b.1.li then decide (a.1.li < b.1.li) else if a.1.co ≠ b.1.co then decide (a.1.co < b.1.co) else
    if a.1.ru ≠ b.1.ru then decide (a.1.ru < b.1.ru) else decide (a.2 < b.2)
theorem mo_ext {a b : ByteArray} (h : a.toList = b.toList) : a = b := by
  rw [Lib.toList_data, Lib.toList_data] at h
  exact ByteArray.ext (Array.toList_inj.1 h)
theorem pLt_irrefl (a : Site × Int) : pLt a a = false := by simp [pLt]
theorem pLt_trans {a b c : Site × Int} (h1 : pLt a b = true) (h2 : pLt b c = true) : pLt a c = true := by
  unfold pLt at *
  by_cases m1 : a.1.mo = b.1.mo <;> by_cases m2 : b.1.mo = c.1.mo
  · simp only [m1, m2, ne_eq, not_true_eq_false, if_false] at *
    by_cases l1 : a.1.li = b.1.li <;> by_cases l2 : b.1.li = c.1.li <;> by_cases l3 : a.1.li = c.1.li <;> simp_all <;> try omega
    by_cases c1 : a.1.co = b.1.co <;> by_cases c2 : b.1.co = c.1.co <;> by_cases c3 : a.1.co = c.1.co <;> simp_all <;> try omega
    by_cases r1 : a.1.ru = b.1.ru <;> by_cases r2 : b.1.ru = c.1.ru <;> by_cases r3 : a.1.ru = c.1.ru <;> simp_all <;> omega
  · have m3 : a.1.mo ≠ c.1.mo := by rw [m1]; exact m2
    simp only [m3, m2, ne_eq, not_false_eq_true, if_true, if_pos] at *
    rw [m1]; exact h2
  · have m3 : a.1.mo ≠ c.1.mo := by rw [← m2]; exact m1
    simp only [m3, m1, ne_eq, not_false_eq_true, if_true, if_pos] at *
    rw [← m2]; exact h1
  · simp only [m1, m2, ne_eq, not_false_eq_true, if_true, if_pos] at h1 h2
    have h3 := less_trans _ _ _ h1 h2
    have m3 : a.1.mo ≠ c.1.mo := by intro e; rw [e] at h3; rw [less_irrefl] at h3; cases h3
    simp only [m3, ne_eq, not_false_eq_true, if_true, if_pos]; exact h3
theorem pLt_tri {a b : Site × Int} (h1 : pLt a b = false) (h2 : pLt b a = false) : a.2 = b.2 ∧ a.1.mo = b.1.mo ∧ a.1.li = b.1.li ∧ a.1.co = b.1.co ∧ a.1.ru = b.1.ru := by
  unfold pLt at *
  by_cases m1 : a.1.mo = b.1.mo
  · simp only [m1, ne_eq, not_true_eq_false, if_false] at *
    by_cases l1 : a.1.li = b.1.li
    · by_cases c1 : a.1.co = b.1.co
      · by_cases r1 : a.1.ru = b.1.ru
        · simp_all; omega
        · have r2 : ¬ b.1.ru = a.1.ru := fun h => r1 h.symm
          simp_all; omega
      · have c2 : ¬ b.1.co = a.1.co := fun h => c1 h.symm
        simp_all; omega
    · have l2 : ¬ b.1.li = a.1.li := fun h => l1 h.symm
      simp_all; omega
  · have m2 : ¬ b.1.mo = a.1.mo := fun h => m1 h.symm
    simp only [m1, m2, ne_eq, not_false_eq_true, if_true, if_pos] at h1 h2
    exact absurd (mo_ext (less_tri _ _ h1 h2)) m1
theorem pLt_asymm {a b : Site × Int} (h1 : pLt a b = true) : pLt b a = false := by
  cases h : pLt b a with
  | false => rfl
  | true => have := pLt_trans h1 h; rw [pLt_irrefl] at this; cases this
theorem ahead_pLt {a b : Site} {i j : Int} (h : j < i) : aheadB a b = pLt (a, i) (b, j) := by
  unfold aheadB pLt
  by_cases r : a.ru = b.ru
  · simp only [r, ne_eq, not_true_eq_false, if_false, Int.lt_irrefl, decide_false, show ¬ i < j by omega]
  · simp only [r, ne_eq, not_false_eq_true, if_true, if_pos]

/-- The place of an insertion, from the right. -/
def posF (p : Nat → Bool) : Nat → Nat
  | 0 => 0
  | k + 1 => if p k = true then posF p k else k + 1
theorem posF_le (p : Nat → Bool) : ∀ k, posF p k ≤ k
  | 0 => Nat.le_refl _
  | k + 1 => by unfold posF; split; have := posF_le p k; omega; omega
theorem posF_hi (p : Nat → Bool) : ∀ k j, posF p k ≤ j → j < k → p j = true
  | 0, j, _, h => by omega
  | k + 1, j, h1, h2 => by
    unfold posF at h1
    split at h1
    · rename_i hp
      by_cases e : j = k
      · subst e; exact hp
      · exact posF_hi p k j h1 (by omega)
    · omega
theorem posF_lo (p : Nat → Bool) : ∀ k, posF p k = 0 ∨ p (posF p k - 1) = false
  | 0 => .inl rfl
  | k + 1 => by
    unfold posF
    split
    · exact posF_lo p k
    · rename_i h; right; simpa using h

/-- Labels l, the next one put in. S: the site of a label. -/
def putIn (S : Nat → Site) (l : List Nat) (i : Nat) : List Nat :=
  let at_ := posF (fun k => aheadB (S i) (S (l.getD k 0))) l.length
  l.take at_ ++ i :: l.drop at_
/-- The answer's way, up to label n. -/
def byIns (S : Nat → Site) : Nat → List Nat
  | 0 => []
  | n + 1 => putIn S (byIns S n) (n + 1)
def kLt (S : Nat → Site) (a b : Nat) : Prop := pLt (S a, (a : Int)) (S b, (b : Int)) = true
theorem putIn_perm (S : Nat → Site) (l : List Nat) (i : Nat) : (putIn S l i).Perm (i :: l) := by
  unfold putIn
  exact (List.perm_middle).trans (by rw [List.take_append_drop])
theorem byIns_perm (S : Nat → Site) : ∀ n, (byIns S n).Perm ((List.range n).map (· + 1)).reverse
  | 0 => by simp [byIns]
  | n + 1 => by
    rw [List.range_succ, List.map_append, List.reverse_append]
    exact (putIn_perm S _ _).trans (List.Perm.cons _ (byIns_perm S n))
theorem byIns_len (S : Nat → Site) (n : Nat) : (byIns S n).length = n := by
  have := (byIns_perm S n).length_eq; simpa using this
theorem byIns_mem {S : Nat → Site} {n a : Nat} (h : a ∈ byIns S n) : 1 ≤ a ∧ a ≤ n := by
  have := (byIns_perm S n).mem_iff.1 h
  simp at this; omega
theorem putIn_sorted {S : Nat → Site} {l : List Nat} {i : Nat} (h : l.Pairwise (kLt S)) (hl : ∀ a ∈ l, a < i) : (putIn S l i).Pairwise (kLt S) := by
  unfold putIn
  obtain ⟨P, hP⟩ : ∃ P, posF (fun k => aheadB (S i) (S (l.getD k 0))) l.length = P := ⟨_, rfl⟩
  have h1 := posF_hi (fun k => aheadB (S i) (S (l.getD k 0))) l.length
  have h2 := posF_lo (fun k => aheadB (S i) (S (l.getD k 0))) l.length
  have h3 := posF_le (fun k => aheadB (S i) (S (l.getD k 0))) l.length
  simp only [hP] at h1 h2 h3 ⊢
  have hi : ∀ j (hj : j < l.length), P ≤ j → kLt S i l[j] := by
    intro j hj hPj
    have := h1 j hPj hj
    rw [List.getD_eq_getElem?_getD, List.getElem?_eq_getElem hj, Option.getD_some, ahead_pLt (i := i) (j := l[j]) (by have := hl l[j] (List.getElem_mem hj); omega)] at this
    exact this
  have hlo : ∀ j (hj : j < l.length), j < P → kLt S l[j] i := by
    intro j hj hjP
    have hq : P - 1 < l.length := by omega
    have hz := h2.resolve_left (by omega)
    rw [List.getD_eq_getElem?_getD, List.getElem?_eq_getElem hq, Option.getD_some, ahead_pLt (i := i) (j := l[P - 1]) (by have := hl l[P - 1] (List.getElem_mem hq); omega)] at hz
    have hlast : kLt S l[P - 1] i := by
      cases hc : pLt (S l[P - 1], (l[P - 1] : Int)) (S i, (i : Int)) with
      | true => exact hc
      | false => have := (pLt_tri hc hz).1; have := hl l[P - 1] (List.getElem_mem hq); simp at *; omega
    by_cases e : j = P - 1
    · subst e; exact hlast
    · exact pLt_trans (List.pairwise_iff_getElem.1 h j (P - 1) hj hq (by omega)) hlast
  rw [List.pairwise_append]
  refine ⟨h.sublist (List.take_sublist _ _), ?_, ?_⟩
  · rw [List.pairwise_cons]
    refine ⟨fun a ha => ?_, h.sublist (List.drop_sublist _ _)⟩
    obtain ⟨j, hj, rfl⟩ := List.mem_iff_getElem.1 ha
    rw [List.getElem_drop]
    exact hi _ _ (by omega)
  · intro a ha b hb
    obtain ⟨j, hj, rfl⟩ := List.mem_iff_getElem.1 ha
    have hjP : j < P := by rw [List.length_take] at hj; omega
    rw [List.getElem_take]
    have ha' := hlo j (by omega) hjP
    rcases List.mem_cons.1 hb with rfl | hb
    · exact ha'
    · obtain ⟨k, hk, rfl⟩ := List.mem_iff_getElem.1 hb
      rw [List.getElem_drop]
      exact pLt_trans ha' (hi _ _ (by omega))
theorem byIns_sorted (S : Nat → Site) : ∀ n, (byIns S n).Pairwise (kLt S)
  | 0 => List.Pairwise.nil
  | n + 1 => putIn_sorted (byIns_sorted S n) fun a ha => by have := byIns_mem ha; omega
/-- One list alone is sorted. -/
theorem sorted_one {S : Nat → Site} {n : Nat} {l : List Nat} (hp : l.Perm ((List.range n).map (· + 1))) (hs : l.Pairwise (kLt S)) : l = byIns S n := by
  refine List.Perm.eq_of_pairwise (le := kLt S) (fun a b _ _ h1 h2 => ?_) hs (byIns_sorted S n) (hp.trans ((byIns_perm S n).trans (List.reverse_perm _)).symm)
  have := pLt_asymm h1
  rw [kLt] at h2; rw [h2] at this; cases this
end Go.Proofs.YthonnpjlkcjoeaaDoor.La
