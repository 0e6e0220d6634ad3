/- Coercions, plain: what the law asks of two that are put one behind the other. No program in sight. -/
import Derived.Test.YtjklecncdinabaaGreatDoorCoR
namespace Go.Proofs.YtjklecncdinabaaGreatDoor.C
set_option linter.unusedSimpArgs false
set_option linter.unusedVariables false

theorem thenM {s t : List Nd} {a b : Co} (hs : treeC s = some a) (ht : treeC t = some b) (hm : meetC a b = true) :
    treeC (thenC a b).list = some (thenC a b) ∧ (thenC a b).high ≤ max a.high b.high ∧ 1 ≤ (thenC a b).high ∧ (thenC a b).list.length ≤ s.length + t.length ∧ (thenC a b).list.length ≤ 2 ^ (thenC a b).high - 1 := by
  obtain ⟨e1, o1, h1⟩ := treeC_some hs
  obtain ⟨e2, o2, h2⟩ := treeC_some ht
  have hh := then_high _ a b (Nat.le_refl _) hm
  refine ⟨treeC_list (then_ok _ a b (Nat.le_refl _) o1 o2 hm) (by omega), hh, Co.high_pos _, ?_, len_pow _⟩
  rw [e1, e2]
  exact then_len _ a b (Nat.le_refl _) hm

/-- pow, as the law has it. -/
def powN (n : Nat) : Nat := 2 ^ (min n 30) - 1
theorem len_powN {n k : Nat} (h : k ≤ 2 ^ n - 1) (hk : k ≤ 1000000) : k ≤ powN n := by
  unfold powN
  rcases Nat.le_total n 30 with h1 | h1
  · rw [Nat.min_eq_left h1]; exact h
  · rw [Nat.min_eq_right h1]; omega

theorem thrice {s t u : List Nd} {a b c : Co} (hs : treeC s = some a) (ht : treeC t = some b) (hu : treeC u = some c) (h1 : meetC a b = true) (h2 : meetC b c = true) :
    meetC (thenC a b) c = true ∧ meetC a (thenC b c) = true ∧ thenC (thenC a b) c = thenC a (thenC b c) := by
  obtain ⟨_, o1, _⟩ := treeC_some hs
  obtain ⟨_, o2, _⟩ := treeC_some ht
  obtain ⟨_, o3, _⟩ := treeC_some hu
  have h := then_laws _ a b c (Nat.le_refl _) o1 o2 o3 h1 h2
  exact ⟨h.left, h.right, h.assoc⟩
end Go.Proofs.YtjklecncdinabaaGreatDoor.C
