/- Ground and Looser, plain. -/
import Derived.Test.YtjklecncdinabaaGreatDoorRelT
namespace Go.Proofs.YtjklecncdinabaaGreatDoor.T

/-- Ground's letters. -/
def groundL (T : Ty) : List UInt8 := if T.head = 63 then [] else T.head :: List.replicate (arB T.head).toNat 63
/-- Is it its own ground? (no part of it is known) -/
def bare (T : Ty) : Bool := T.kids.all fun k => k.head == 63

/-- What is a step less precise. -/
def looserT : Ty → List Ty
  | .leaf h => if h = 63 then [] else [.leaf 63]
  | .un h a => if a.head = 63 then [.leaf 63] else (looserT a).map (.un h)
  | .bin h a b => if a.head = 63 ∧ b.head = 63 then [.leaf 63] else (looserT a).map (.bin h · b) ++ (looserT b).map (.bin h a ·)

theorem looser_ok {T : Ty} (h : T.ok) : ∀ q ∈ looserT T, q.ok := by
  have h63 : (Ty.leaf 63).ok := by show arB 63 = 0; decide
  induction T with
  | leaf a => intro q hq; simp only [looserT] at hq; split at hq <;> simp at hq; subst hq; exact h63
  | un a t ih =>
    intro q hq
    simp only [looserT] at hq
    split at hq
    · simp at hq; subst hq; exact h63
    · obtain ⟨r, hr, rfl⟩ := List.mem_map.1 hq
      exact ⟨h.1, ih h.2 r hr⟩
  | bin a t u iht ihu =>
    intro q hq
    simp only [looserT] at hq
    split at hq
    · simp at hq; subst hq; exact h63
    · rcases List.mem_append.1 hq with hq | hq
      · obtain ⟨r, hr, rfl⟩ := List.mem_map.1 hq
        exact ⟨h.1, iht h.2.1 r hr, h.2.2⟩
      · obtain ⟨r, hr, rfl⟩ := List.mem_map.1 hq
        exact ⟨h.1, h.2.1, ihu h.2.2 r hr⟩

theorem looser_len {T : Ty} : ∀ q ∈ looserT T, q.code.length ≤ T.code.length := by
  induction T with
  | leaf a => intro q hq; simp only [looserT] at hq; split at hq <;> simp at hq; subst hq; simp [Ty.code]
  | un a t ih =>
    intro q hq
    simp only [looserT] at hq
    split at hq
    · simp at hq; subst hq; simp [Ty.code]
    · obtain ⟨r, hr, rfl⟩ := List.mem_map.1 hq
      have := ih r hr
      simp [Ty.code]; omega
  | bin a t u iht ihu =>
    intro q hq
    simp only [looserT] at hq
    split at hq
    · simp at hq; subst hq; simp [Ty.code]
    · rcases List.mem_append.1 hq with hq | hq
      · obtain ⟨r, hr, rfl⟩ := List.mem_map.1 hq
        have := iht r hr
        simp [Ty.code]; omega
      · obtain ⟨r, hr, rfl⟩ := List.mem_map.1 hq
        have := ihu r hr
        simp [Ty.code]; omega

theorem looser_many (T : Ty) : (looserT T).length ≤ T.code.length := by
  induction T with
  | leaf a => simp only [looserT]; split <;> simp [Ty.code]
  | un a t ih => simp only [looserT]; split <;> simp [Ty.code] <;> omega
  | bin a t u iht ihu => simp only [looserT]; split <;> simp [Ty.code] <;> omega

theorem code_ground {T : Ty} (h : T.ok) (hq : T.head ≠ 63) : (T.code = groundL T) ↔ bare T = true := by
  unfold groundL
  rw [if_neg hq]
  have ha := Ty.ar_head h
  rw [ha]
  have kq : ∀ k ∈ T.kids, k.head = 63 → k.code = [63] := fun k hk e => by rw [head63 (Ty.kids_ok h hk) e]; rfl
  cases T with
  | leaf a => simp [Ty.code, Ty.head, Ty.kids, bare]
  | un a t =>
    simp only [Ty.code, Ty.head, Ty.kids, bare, List.all_cons, List.all_nil, Bool.and_true, beq_iff_eq, List.cons.injEq, true_and]
    constructor
    · intro e
      have := Ty.code_head t
      rw [e] at this
      exact (Option.some.inj this).symm
    · intro e; rw [kq t (by simp [Ty.kids]) e]; rfl
  | bin a t u =>
    simp only [Ty.code, Ty.head, Ty.kids, bare, List.all_cons, List.all_nil, Bool.and_true, Bool.and_eq_true, beq_iff_eq, List.cons.injEq, true_and]
    constructor
    · intro e
      have h1 := t.code_pos
      have h2 := u.code_pos
      have hl := congrArg List.length e
      simp at hl
      have l1 : t.code.length = 1 := by omega
      have l2 : u.code.length = 1 := by omega
      have ht := Ty.code_head t
      have hu := Ty.code_head u
      obtain ⟨x, hx⟩ : ∃ x, t.code = [x] := List.length_eq_one_iff.1 l1
      obtain ⟨y, hy⟩ : ∃ y, u.code = [y] := List.length_eq_one_iff.1 l2
      rw [hx] at e ht
      rw [hy] at e hu
      simp [List.replicate] at e
      simp at ht hu
      exact ⟨ht.symm.trans e.1, hu.symm.trans e.2⟩
    · rintro ⟨e1, e2⟩; rw [kq t (by simp [Ty.kids]) e1, kq u (by simp [Ty.kids]) e2]; rfl

/-- The letters of what is looser by a step in part j: what stands ahead of it, its step, what stands behind it. -/
def loosJ (T : Ty) (j : Nat) : List (List UInt8) := match T.kids[j]? with
  | some k => (looserT k).map fun q => T.code.take (1 + clen T.kids j) ++ q.code ++ T.code.drop (1 + clen T.kids j + k.code.length)
  | none => []

theorem looser_kids {T : Ty} (h : T.ok) (hq : T.head ≠ 63) (hb : bare T = false) : (looserT T).map Ty.code = (List.range T.kids.length).flatMap (loosJ T) := by
  cases T with
  | leaf a => simp [bare, Ty.kids] at hb
  | un a t =>
    simp [bare, Ty.kids] at hb
    simp [looserT, hb, loosJ, Ty.kids, Ty.code, clen, List.range_succ, Function.comp_def]
    intro _ _
    omega
  | bin a t u =>
    have hb' : ¬ (t.head = 63 ∧ u.head = 63) := by simpa [bare, Ty.kids] using hb
    simp only [looserT, if_neg hb', List.map_append, List.map_map]
    simp [loosJ, Ty.kids, Ty.code, clen, List.range_succ, Function.comp_def]
    rw [show 1 + t.code.length = t.code.length + 1 by omega]
    simp only [List.drop_succ_cons, List.take_succ_cons, List.drop_left, List.take_left, List.cons_append, List.append_assoc]
    rw [show t.code.length + 1 + u.code.length = (t.code.length + u.code.length) + 1 by omega, List.drop_succ_cons, ← List.length_append, List.drop_length]
    simp

theorem looser_bare {T : Ty} (h : T.ok) (hq : T.head ≠ 63) (hb : bare T = true) : looserT T = [.leaf 63] := by
  cases T with
  | leaf a => exact if_neg hq
  | un a t => have : t.head = 63 := by simpa [bare, Ty.kids] using hb
              exact if_pos this
  | bin a t u => have : t.head = 63 ∧ u.head = 63 := by simpa [bare, Ty.kids] using hb
                 exact if_pos this
theorem looser_dyn {T : Ty} (h : T.ok) (hq : T.head = 63) : looserT T = [] := by rw [head63 h hq]; rfl

end Go.Proofs.YtjklecncdinabaaGreatDoor.T
