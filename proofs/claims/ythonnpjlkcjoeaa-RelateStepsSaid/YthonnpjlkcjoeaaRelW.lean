/- Steps looser: each less precise, no longer, no higher; they lead to each less precise type. Plain. -/
import Derived.Test.YthonnpjlkcjoeaaRelV
namespace Go.Proofs.Ythonnpjlkcjoeaa.T

/-- How many letters of a type are known. -/
def wt : Ty → Nat
  | .leaf h => if h = 63 then 0 else 1
  | .un _ a => 1 + wt a
  | .bin _ a b => 1 + wt a + wt b

theorem wt_le (T : Ty) : wt T ≤ T.code.length := by
  induction T with
  | leaf a => simp only [wt, Ty.code]; split <;> simp
  | un a t ih => simp [wt, Ty.code]; omega
  | bin a t u ih ih' => simp [wt, Ty.code]; omega

theorem wt_q {T : Ty} (h : T.ok) (e : T.head = 63) : wt T = 0 := by rw [head63 h e]; rfl

theorem step_facts {T : Ty} : T.ok → ∀ q ∈ looserT T, le T q ∧ q.high ≤ T.high ∧ wt q + 1 = wt T := by
  have q0 : (Ty.leaf 63).ok := by show arB 63 = 0; decide
  have hp : ∀ t : Ty, 1 ≤ t.high := fun t => by cases t <;> simp [Ty.high]
  induction T with
  | leaf a =>
    intro hT q hq
    simp only [looserT] at hq
    split at hq
    · simp at hq
    · rename_i ha
      simp at hq; subst hq
      exact ⟨le_q hT q0 rfl, by simp [Ty.high], by simp [wt, ha]⟩
  | un a t ih =>
    intro hT q hq
    have hok := looser_ok hT q hq
    simp only [looserT] at hq
    split at hq
    · rename_i ht
      simp at hq; subst hq
      refine ⟨le_q hT q0 rfl, by simp [Ty.high], ?_⟩
      have := wt_q hT.2 ht
      simp [wt, this]
    · obtain ⟨r, hr, rfl⟩ := List.mem_map.1 hq
      obtain ⟨i1, i2, i3⟩ := ih hT.2 r hr
      exact ⟨(le_un hT hok).2 (.inr ⟨r, rfl, i1⟩), by simp [Ty.high]; omega, by simp [wt]; omega⟩
  | bin a t u ih ih' =>
    intro hT q hq
    have hok := looser_ok hT q hq
    simp only [looserT] at hq
    split at hq
    · rename_i ht
      simp at hq; subst hq
      refine ⟨le_q hT q0 rfl, by simp [Ty.high], ?_⟩
      have h1 := wt_q hT.2.1 ht.1
      have h2 := wt_q hT.2.2 ht.2
      simp [wt, h1, h2]
    · rcases List.mem_append.1 hq with hq | hq
      · obtain ⟨r, hr, rfl⟩ := List.mem_map.1 hq
        obtain ⟨i1, i2, i3⟩ := ih hT.2.1 r hr
        exact ⟨(le_bin hT hok).2 (.inr ⟨r, u, rfl, i1, le_refl hT.2.2⟩), by simp [Ty.high]; omega, by simp [wt]; omega⟩
      · obtain ⟨r, hr, rfl⟩ := List.mem_map.1 hq
        obtain ⟨i1, i2, i3⟩ := ih' hT.2.2 r hr
        exact ⟨(le_bin hT hok).2 (.inr ⟨t, r, rfl, le_refl hT.2.1, i1⟩), by simp [Ty.high]; omega, by simp [wt]; omega⟩

theorem step_not {T : Ty} (hT : T.ok) {q : Ty} (hq : q ∈ looserT T) : ¬ le q T := by
  intro h
  obtain ⟨h1, _, h3⟩ := step_facts hT q hq
  have := le_anti hT (looser_ok hT q hq) h1 h
  rw [this] at h3
  omega

theorem leads {T : Ty} : ∀ {U : Ty}, T.ok → U.ok → le T U → T ≠ U → ∃ q ∈ looserT T, le q U := by
  have q0 : (Ty.leaf 63).ok := by show arB 63 = 0; decide
  induction T with
  | leaf a =>
    intro U hT hU h hne
    rcases (le_leaf hT hU).1 h with h1 | h1
    · have hU63 := head63 hU h1
      have ha : a ≠ 63 := by rintro rfl; exact hne hU63.symm
      exact ⟨.leaf 63, by simp [looserT, ha], le_q q0 hU h1⟩
    · exact absurd h1.symm hne
  | un a t ih =>
    intro U hT hU h hne
    by_cases ht : t.head = 63
    · refine ⟨.leaf 63, by simp [looserT, ht], ?_⟩
      rcases (le_un hT hU).1 h with h1 | ⟨u, rfl, h1⟩
      · exact le_q q0 hU h1
      · exfalso
        have e1 := head63 hT.2 ht
        rw [e1] at h1
        rcases (le_leaf q0 hU.2).1 h1 with h2 | h2
        · exact hne (by rw [e1, head63 hU.2 h2])
        · exact hne (by rw [e1, h2])
    · have key : ∀ V : Ty, V.ok → le t V → t ≠ V → ∃ r ∈ looserT t, le r V := fun V hV h1 h2 => ih hT.2 hV h1 h2
      rcases (le_un hT hU).1 h with h1 | ⟨u, rfl, h1⟩
      · obtain ⟨r, hr, _⟩ := key (.leaf 63) q0 (le_q hT.2 q0 rfl) (by rintro rfl; exact ht rfl)
        have hm : Ty.un a r ∈ looserT (.un a t) := by simp only [looserT, if_neg ht]; exact List.mem_map.2 ⟨r, hr, rfl⟩
        exact ⟨_, hm, le_q (looser_ok hT _ hm) hU h1⟩
      · obtain ⟨r, hr, hl⟩ := key u hU.2 h1 (by rintro rfl; exact hne rfl)
        have hm : Ty.un a r ∈ looserT (.un a t) := by simp only [looserT, if_neg ht]; exact List.mem_map.2 ⟨r, hr, rfl⟩
        exact ⟨_, hm, (le_un (looser_ok hT _ hm) hU).2 (.inr ⟨u, rfl, hl⟩)⟩
  | bin a t t' ih ih' =>
    intro U hT hU h hne
    by_cases ht : t.head = 63 ∧ t'.head = 63
    · refine ⟨.leaf 63, by simp [looserT, ht], ?_⟩
      rcases (le_bin hT hU).1 h with h1 | ⟨u, u', rfl, h1, h2⟩
      · exact le_q q0 hU h1
      · exfalso
        have e1 := head63 hT.2.1 ht.1
        have e2 := head63 hT.2.2 ht.2
        rw [e1] at h1
        rw [e2] at h2
        have f1 : u = .leaf 63 := by
          rcases (le_leaf q0 hU.2.1).1 h1 with h | h
          · exact head63 hU.2.1 h
          · exact h
        have f2 : u' = .leaf 63 := by
          rcases (le_leaf q0 hU.2.2).1 h2 with h | h
          · exact head63 hU.2.2 h
          · exact h
        exact hne (by rw [e1, e2, f1, f2])
    · have ml : ∀ r ∈ looserT t, Ty.bin a r t' ∈ looserT (.bin a t t') := fun r hr => by simp only [looserT, if_neg ht]; exact List.mem_append.2 (.inl (List.mem_map.2 ⟨r, hr, rfl⟩))
      have mr : ∀ r ∈ looserT t', Ty.bin a t r ∈ looserT (.bin a t t') := fun r hr => by simp only [looserT, if_neg ht]; exact List.mem_append.2 (.inr (List.mem_map.2 ⟨r, hr, rfl⟩))
      rcases (le_bin hT hU).1 h with h1 | ⟨u, u', rfl, h1, h2⟩
      · by_cases h63 : t.head = 63
        · have h63' : t'.head ≠ 63 := fun e => ht ⟨h63, e⟩
          obtain ⟨r, hr, _⟩ := ih' hT.2.2 q0 (le_q hT.2.2 q0 rfl) (by rintro rfl; exact h63' rfl)
          exact ⟨_, mr r hr, le_q (looser_ok hT _ (mr r hr)) hU h1⟩
        · obtain ⟨r, hr, _⟩ := ih hT.2.1 q0 (le_q hT.2.1 q0 rfl) (by rintro rfl; exact h63 rfl)
          exact ⟨_, ml r hr, le_q (looser_ok hT _ (ml r hr)) hU h1⟩
      · by_cases e : t = u
        · have e' : t' ≠ u' := fun e' => hne (by rw [e, e'])
          obtain ⟨r, hr, hl⟩ := ih' hT.2.2 hU.2.2 h2 e'
          exact ⟨_, mr r hr, (le_bin (looser_ok hT _ (mr r hr)) hU).2 (.inr ⟨u, u', rfl, h1, hl⟩)⟩
        · obtain ⟨r, hr, hl⟩ := ih hT.2.1 hU.2.1 h1 e
          exact ⟨_, ml r hr, (le_bin (looser_ok hT _ (ml r hr)) hU).2 (.inr ⟨u, u', rfl, hl, h2⟩)⟩

end Go.Proofs.Ythonnpjlkcjoeaa.T
