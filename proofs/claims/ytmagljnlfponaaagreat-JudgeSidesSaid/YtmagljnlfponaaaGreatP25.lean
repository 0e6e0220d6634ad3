/- Parts of this claim: RelV, JuP, JuB. -/
import Derived.Test.YtmagljnlfponaaaGreatP24
import Derived.Test.YtmagljnlfponaaaGreatP04
import Derived.Test.YtmagljnlfponaaaGreatP01
set_option linter.unusedVariables false
set_option linter.unusedSimpArgs false
/- RelV -/
namespace Go.Proofs.YtmagljnlfponaaaGreat.T

def le (S T : Ty) : Prop := allT askP S T = true
def co (S T : Ty) : Prop := allT askC S T = true

theorem ok_leaf_ne {a : UInt8} (h : (Ty.leaf a).ok) : arB a = 0 := h
theorem no63u {a : UInt8} {t : Ty} (h : (Ty.un a t).ok) : a ≠ 63 := by intro e; rw [e] at h; exact absurd h.1 (by decide)
theorem no63b {a : UInt8} {t u : Ty} (h : (Ty.bin a t u).ok) : a ≠ 63 := by intro e; rw [e] at h; exact absurd h.1 (by decide)

theorem le_leaf {a : UInt8} {T : Ty} (hS : (Ty.leaf a).ok) (hT : T.ok) : le (.leaf a) T ↔ T.head = 63 ∨ T = .leaf a := by
  unfold le
  rw [allT_kids hS hT askP_asks]
  unfold askP
  by_cases h : T.head = 63
  · simp [h]
  · simp only [h, if_false, false_or]
    by_cases h2 : (Ty.leaf a).head = T.head
    · rw [if_pos h2, if_neg (by omega)]
      simp only [Ty.kids, List.zip_nil_left, List.all_nil, true_iff]
      have := kids_len hS hT h2
      cases T with
      | leaf b => simp [Ty.head] at h2; rw [h2]
      | un b t => simp [Ty.kids] at this
      | bin b t u => simp [Ty.kids] at this
    · rw [if_neg h2, if_pos (by omega)]
      constructor
      · intro h; simp at h
      · rintro rfl; exact absurd rfl h2

theorem le_un {a : UInt8} {s T : Ty} (hS : (Ty.un a s).ok) (hT : T.ok) : le (.un a s) T ↔ T.head = 63 ∨ ∃ t, T = .un a t ∧ le s t := by
  unfold le
  rw [allT_kids hS hT askP_asks]
  unfold askP
  by_cases h : T.head = 63
  · simp [h]
  · simp only [h, if_false, false_or]
    by_cases h2 : (Ty.un a s).head = T.head
    · rw [if_pos h2, if_neg (by omega)]
      have := kids_len hS hT h2
      cases T with
      | leaf b => simp [Ty.kids] at this
      | un b t => simp [Ty.head] at h2; simp [Ty.kids, h2]
      | bin b t u => simp [Ty.kids] at this
    · rw [if_neg h2, if_pos (by omega)]
      constructor
      · intro h; simp at h
      · rintro ⟨t, rfl, _⟩; exact absurd rfl h2

theorem le_bin {a : UInt8} {s s' T : Ty} (hS : (Ty.bin a s s').ok) (hT : T.ok) : le (.bin a s s') T ↔ T.head = 63 ∨ ∃ t t', T = .bin a t t' ∧ le s t ∧ le s' t' := by
  unfold le
  rw [allT_kids hS hT askP_asks]
  unfold askP
  by_cases h : T.head = 63
  · simp [h]
  · simp only [h, if_false, false_or]
    by_cases h2 : (Ty.bin a s s').head = T.head
    · rw [if_pos h2, if_neg (by omega)]
      have := kids_len hS hT h2
      cases T with
      | leaf b => simp [Ty.kids] at this
      | un b t => simp [Ty.kids] at this
      | bin b t u =>
        simp [Ty.head] at h2
        subst h2
        simp only [Ty.kids, List.zip_cons_cons, List.zip_nil_left, List.all_cons, List.all_nil, Bool.and_true, Bool.and_eq_true, Ty.bin.injEq, true_and]
        constructor
        · intro h; exact ⟨t, u, ⟨rfl, rfl⟩, h⟩
        · rintro ⟨_, _, ⟨rfl, rfl⟩, h⟩; exact h
    · rw [if_neg h2, if_pos (by omega)]
      constructor
      · intro h; simp at h
      · rintro ⟨t, t', rfl, _⟩; exact absurd rfl h2

theorem co_any {S T : Ty} (hS : S.ok) (hT : T.ok) : co S T ↔ S.head = 63 ∨ T.head = 63 ∨ (S.head = T.head ∧ ∀ p ∈ S.kids.zip T.kids, co p.1 p.2) := by
  unfold co
  rw [allT_kids hS hT askC_asks]
  unfold askC
  by_cases h : S.head = 63 ∨ T.head = 63
  · rw [if_pos h, if_pos (by omega)]
    simp only [beq_self_eq_true, true_iff]
    rcases h with h | h
    · exact .inl h
    · exact .inr (.inl h)
  · rw [if_neg h]
    have n1 : ¬ S.head = 63 := fun e => h (.inl e)
    have n2 : ¬ T.head = 63 := fun e => h (.inr e)
    by_cases h2 : S.head = T.head
    · rw [if_pos h2, if_neg (by omega), List.all_eq_true]
      constructor
      · intro h; exact .inr (.inr ⟨h2, h⟩)
      · rintro (h | h | h)
        · exact absurd h n1
        · exact absurd h n2
        · exact h.2
    · rw [if_neg h2, if_pos (by omega)]
      constructor
      · intro h; simp at h
      · rintro (h | h | h)
        · exact absurd h n1
        · exact absurd h n2
        · exact absurd h.1 h2

theorem le_q {S T : Ty} (hS : S.ok) (hT : T.ok) (h : T.head = 63) : le S T := by
  cases S with
  | leaf a => exact (le_leaf hS hT).2 (.inl h)
  | un a s => exact (le_un hS hT).2 (.inl h)
  | bin a s s' => exact (le_bin hS hT).2 (.inl h)

theorem le_refl {S : Ty} (hS : S.ok) : le S S := by
  induction S with
  | leaf a => exact (le_leaf hS hS).2 (.inr rfl)
  | un a s ih => exact (le_un hS hS).2 (.inr ⟨s, rfl, ih hS.2⟩)
  | bin a s s' ih ih' => exact (le_bin hS hS).2 (.inr ⟨s, s', rfl, ih hS.2.1, ih' hS.2.2⟩)

theorem le_trans {S : Ty} : ∀ {T U : Ty}, S.ok → T.ok → U.ok → le S T → le T U → le S U := by
  induction S with
  | leaf a =>
    intro T U hS hT hU h1 h2
    rcases (le_leaf hS hT).1 h1 with h | rfl
    · obtain rfl := head63 hT h
      rcases (le_leaf hT hU).1 h2 with h | rfl
      · exact le_q hS hU h
      · exact le_q hS hU rfl
    · exact h2
  | un a s ih =>
    intro T U hS hT hU h1 h2
    rcases (le_un hS hT).1 h1 with h | ⟨t, rfl, h⟩
    · obtain rfl := head63 hT h
      rcases (le_leaf hT hU).1 h2 with h | rfl
      · exact le_q hS hU h
      · exact le_q hS hU rfl
    · rcases (le_un hT hU).1 h2 with h' | ⟨u, rfl, h'⟩
      · exact le_q hS hU h'
      · exact (le_un hS hU).2 (.inr ⟨u, rfl, ih hS.2 hT.2 hU.2 h h'⟩)
  | bin a s s' ih ih' =>
    intro T U hS hT hU h1 h2
    rcases (le_bin hS hT).1 h1 with h | ⟨t, t', rfl, h, g⟩
    · obtain rfl := head63 hT h
      rcases (le_leaf hT hU).1 h2 with h | rfl
      · exact le_q hS hU h
      · exact le_q hS hU rfl
    · rcases (le_bin hT hU).1 h2 with h' | ⟨u, u', rfl, h', g'⟩
      · exact le_q hS hU h'
      · exact (le_bin hS hU).2 (.inr ⟨u, u', rfl, ih hS.2.1 hT.2.1 hU.2.1 h h', ih' hS.2.2 hT.2.2 hU.2.2 g g'⟩)

theorem le_anti {S : Ty} : ∀ {T : Ty}, S.ok → T.ok → le S T → le T S → S = T := by
  induction S with
  | leaf a =>
    intro T hS hT h1 h2
    rcases (le_leaf hS hT).1 h1 with h | rfl
    · obtain rfl := head63 hT h
      rcases (le_leaf hT hS).1 h2 with h | h
      · simp [Ty.head] at h; rw [h]
      · exact h
    · rfl
  | un a s ih =>
    intro T hS hT h1 h2
    rcases (le_un hS hT).1 h1 with h | ⟨t, rfl, h⟩
    · obtain rfl := head63 hT h
      rcases (le_leaf hT hS).1 h2 with h | h
      · exact absurd h (no63u hS)
      · cases h
    · rcases (le_un hT hS).1 h2 with h' | ⟨u, e, h'⟩
      · exact absurd h' (no63u hS)
      · cases e; rw [ih hS.2 hT.2 h h']
  | bin a s s' ih ih' =>
    intro T hS hT h1 h2
    rcases (le_bin hS hT).1 h1 with h | ⟨t, t', rfl, h, g⟩
    · obtain rfl := head63 hT h
      rcases (le_leaf hT hS).1 h2 with h | h
      · exact absurd h (no63b hS)
      · cases h
    · rcases (le_bin hT hS).1 h2 with h' | ⟨u, u', e, h', g'⟩
      · exact absurd h' (no63b hS)
      · cases e; rw [ih hS.2.1 hT.2.1 h h', ih' hS.2.2 hT.2.2 g g']

/-- What is less precise has no more letters. -/
theorem le_len {S : Ty} : ∀ {T : Ty}, S.ok → T.ok → le S T → T.code.length ≤ S.code.length := by
  induction S with
  | leaf a =>
    intro T hS hT h1
    rcases (le_leaf hS hT).1 h1 with h | rfl
    · rw [head63 hT h]; simp [Ty.code]
    · exact Nat.le_refl _
  | un a s ih =>
    intro T hS hT h1
    rcases (le_un hS hT).1 h1 with h | ⟨t, rfl, h⟩
    · rw [head63 hT h]; simp [Ty.code]
    · have := ih hS.2 hT.2 h; simp [Ty.code]; omega
  | bin a s s' ih ih' =>
    intro T hS hT h1
    rcases (le_bin hS hT).1 h1 with h | ⟨t, t', rfl, h, g⟩
    · rw [head63 hT h]; simp [Ty.code]
    · have := ih hS.2.1 hT.2.1 h; have := ih' hS.2.2 hT.2.2 g; simp [Ty.code]; omega

theorem co_un {a b : UInt8} {s t : Ty} (hS : (Ty.un a s).ok) (hT : (Ty.un b t).ok) : co (.un a s) (.un b t) ↔ a = b ∧ co s t := by
  rw [co_any hS hT]
  simp [Ty.head, Ty.kids, no63u hS, no63u hT]
theorem co_bin {a b : UInt8} {s s' t t' : Ty} (hS : (Ty.bin a s s').ok) (hT : (Ty.bin b t t').ok) : co (.bin a s s') (.bin b t t') ↔ a = b ∧ co s t ∧ co s' t' := by
  rw [co_any hS hT]
  simp [Ty.head, Ty.kids, no63b hS, no63b hT]

theorem co_symm {S : Ty} : ∀ {T : Ty}, S.ok → T.ok → co S T → co T S := by
  induction S with
  | leaf a =>
    intro T hS hT h
    rw [co_any hS hT] at h
    rw [co_any hT hS]
    rcases h with h | h | ⟨h, _⟩
    · exact .inr (.inl h)
    · exact .inl h
    · exact .inr (.inr ⟨h.symm, by simp [Ty.kids]⟩)
  | un a s ih =>
    intro T hS hT h
    have h0 := h
    rw [co_any hS hT] at h
    rcases h with h | h | ⟨h, _⟩
    · exact absurd h (no63u hS)
    · exact (co_any hT hS).2 (.inl h)
    · have hl := kids_len hS hT h
      cases T with
      | leaf b => simp [Ty.kids] at hl
      | un b t => obtain ⟨e, g⟩ := (co_un hS hT).1 h0; exact (co_un hT hS).2 ⟨e.symm, ih hS.2 hT.2 g⟩
      | bin b t u => simp [Ty.kids] at hl
  | bin a s s' ih ih' =>
    intro T hS hT h
    have h0 := h
    rw [co_any hS hT] at h
    rcases h with h | h | ⟨h, _⟩
    · exact absurd h (no63b hS)
    · exact (co_any hT hS).2 (.inl h)
    · have hl := kids_len hS hT h
      cases T with
      | leaf b => simp [Ty.kids] at hl
      | un b t => simp [Ty.kids] at hl
      | bin b t u => obtain ⟨e, g, g'⟩ := (co_bin hS hT).1 h0; exact (co_bin hT hS).2 ⟨e.symm, ih hS.2.1 hT.2.1 g, ih' hS.2.2 hT.2.2 g'⟩

/-- What both are less precise than makes them consistent. -/
theorem co_of_le {U : Ty} : ∀ {S T : Ty}, U.ok → S.ok → T.ok → le U S → le U T → co S T := by
  induction U with
  | leaf a =>
    intro S T hU hS hT h1 h2
    rw [co_any hS hT]
    rcases (le_leaf hU hS).1 h1 with h | rfl
    · exact .inl h
    · rcases (le_leaf hU hT).1 h2 with h | rfl
      · exact .inr (.inl h)
      · exact .inr (.inr ⟨rfl, by simp [Ty.kids]⟩)
  | un a u ih =>
    intro S T hU hS hT h1 h2
    rcases (le_un hU hS).1 h1 with h | ⟨s, rfl, h⟩
    · exact (co_any hS hT).2 (.inl h)
    · rcases (le_un hU hT).1 h2 with h' | ⟨t, rfl, h'⟩
      · exact (co_any hS hT).2 (.inr (.inl h'))
      · exact (co_un hS hT).2 ⟨rfl, ih hU.2 hS.2 hT.2 h h'⟩
  | bin a u u' ih ih' =>
    intro S T hU hS hT h1 h2
    rcases (le_bin hU hS).1 h1 with h | ⟨s, s', rfl, h, g⟩
    · exact (co_any hS hT).2 (.inl h)
    · rcases (le_bin hU hT).1 h2 with h' | ⟨t, t', rfl, h', g'⟩
      · exact (co_any hS hT).2 (.inr (.inl h'))
      · exact (co_bin hS hT).2 ⟨rfl, ih hU.2.1 hS.2.1 hT.2.1 h h', ih' hU.2.2 hS.2.2 hT.2.2 g g'⟩

theorem co_of_prec {S T : Ty} (hS : S.ok) (hT : T.ok) (h : le S T) : co S T := co_of_le hS hS hT (le_refl hS) h

/-- The meet is at least as precise as both, and what is so is at least as precise as it. -/
theorem meet_le {S : Ty} : ∀ {T : Ty}, S.ok → T.ok → co S T → le (meetT S T) S ∧ le (meetT S T) T ∧ ∀ U, U.ok → le U S → le U T → le U (meetT S T) := by
  induction S with
  | leaf a =>
    intro T hS hT h
    by_cases ha : a = 63
    · subst ha
      simp only [meetT, if_true]
      exact ⟨le_q hT hS rfl, le_refl hT, fun U _ _ h => h⟩
    · simp only [meetT, if_neg ha]
      refine ⟨le_refl hS, ?_, fun U _ h _ => h⟩
      rw [co_any hS hT] at h
      rcases h with h | h | ⟨h, _⟩
      · exact absurd h ha
      · exact le_q hS hT h
      · have hl := kids_len hS hT h
        cases T with
        | leaf b => simp [Ty.head] at h; rw [h]; rw [h] at hS; exact le_refl hS
        | un b t => simp [Ty.kids] at hl
        | bin b t u => simp [Ty.kids] at hl
  | un a s ih =>
    intro T hS hT h
    cases T with
    | leaf b =>
      simp only [meetT]
      have hb : b = 63 := by
        rw [co_any hS hT] at h
        rcases h with h | h | ⟨h, _⟩
        · exact absurd h (no63u hS)
        · exact h
        · have := kids_len hS hT h; simp [Ty.kids] at this
      exact ⟨le_refl hS, le_q hS hT hb, fun U _ h _ => h⟩
    | un b t =>
      obtain ⟨rfl, g⟩ := (co_un hS hT).1 h
      obtain ⟨g1, g2, g3⟩ := ih hS.2 hT.2 g
      have hM : (Ty.un a (meetT s t)).ok := ⟨hS.1, meet_ok hS.2 hT.2⟩
      simp only [meetT]
      refine ⟨(le_un hM hS).2 (.inr ⟨s, rfl, g1⟩), (le_un hM hT).2 (.inr ⟨t, rfl, g2⟩), fun U hU u1 u2 => ?_⟩
      cases U with
      | leaf c =>
        rcases (le_leaf hU hS).1 u1 with h | h
        · exact absurd h (no63u hS)
        · cases h
      | un c u =>
        rcases (le_un hU hS).1 u1 with h | ⟨x, e, x1⟩
        · exact absurd h (no63u hS)
        · cases e
          rcases (le_un hU hT).1 u2 with h | ⟨y, e, y1⟩
          · exact absurd h (no63u hT)
          · cases e
            exact (le_un hU hM).2 (.inr ⟨_, rfl, g3 u hU.2 x1 y1⟩)
      | bin c u u' =>
        rcases (le_bin hU hS).1 u1 with h | ⟨x, x', e, _⟩
        · exact absurd h (no63u hS)
        · cases e
    | bin b t u =>
      rw [co_any hS hT] at h
      rcases h with h | h | ⟨h, _⟩
      · exact absurd h (no63u hS)
      · exact absurd h (no63b hT)
      · have := kids_len hS hT h; simp [Ty.kids] at this
  | bin a s s' ih ih' =>
    intro T hS hT h
    cases T with
    | leaf b =>
      simp only [meetT]
      have hb : b = 63 := by
        rw [co_any hS hT] at h
        rcases h with h | h | ⟨h, _⟩
        · exact absurd h (no63b hS)
        · exact h
        · have := kids_len hS hT h; simp [Ty.kids] at this
      exact ⟨le_refl hS, le_q hS hT hb, fun U _ h _ => h⟩
    | un b t =>
      rw [co_any hS hT] at h
      rcases h with h | h | ⟨h, _⟩
      · exact absurd h (no63b hS)
      · exact absurd h (no63u hT)
      · have := kids_len hS hT h; simp [Ty.kids] at this
    | bin b t t' =>
      obtain ⟨rfl, g, g'⟩ := (co_bin hS hT).1 h
      obtain ⟨g1, g2, g3⟩ := ih hS.2.1 hT.2.1 g
      obtain ⟨k1, k2, k3⟩ := ih' hS.2.2 hT.2.2 g'
      have hM : (Ty.bin a (meetT s t) (meetT s' t')).ok := ⟨hS.1, meet_ok hS.2.1 hT.2.1, meet_ok hS.2.2 hT.2.2⟩
      simp only [meetT]
      refine ⟨(le_bin hM hS).2 (.inr ⟨s, s', rfl, g1, k1⟩), (le_bin hM hT).2 (.inr ⟨t, t', rfl, g2, k2⟩), fun U hU u1 u2 => ?_⟩
      cases U with
      | leaf c =>
        rcases (le_leaf hU hS).1 u1 with h | h
        · exact absurd h (no63b hS)
        · cases h
      | un c u =>
        rcases (le_un hU hS).1 u1 with h | ⟨x, e, _⟩
        · exact absurd h (no63b hS)
        · cases e
      | bin c u u' =>
        rcases (le_bin hU hS).1 u1 with h | ⟨x, x', e, x1, x2⟩
        · exact absurd h (no63b hS)
        · cases e
          rcases (le_bin hU hT).1 u2 with h | ⟨y, y', e, y1, y2⟩
          · exact absurd h (no63b hT)
          · cases e
            exact (le_bin hU hM).2 (.inr ⟨_, _, rfl, g3 u hU.2.1 x1 y1, k3 u' hU.2.2 x2 y2⟩)

theorem meet_comm {S T : Ty} (hS : S.ok) (hT : T.ok) (h : co S T) : meetT S T = meetT T S := by
  obtain ⟨a1, a2, a3⟩ := meet_le hS hT h
  obtain ⟨b1, b2, b3⟩ := meet_le hT hS (co_symm hS hT h)
  exact le_anti (meet_ok hS hT) (meet_ok hT hS) (b3 _ (meet_ok hS hT) a2 a1) (a3 _ (meet_ok hT hS) b2 b1)

/-- Of joins likewise. -/
theorem join_le {S : Ty} : ∀ {T : Ty}, S.ok → T.ok → le S (joinT S T) ∧ le T (joinT S T) ∧ ∀ U, U.ok → le S U → le T U → le (joinT S T) U := by
  have q : (Ty.leaf 63).ok := by show arB 63 = 0; decide
  induction S with
  | leaf a =>
    intro T hS hT
    by_cases hh : a = T.head
    · have : T = .leaf a := by
        have hl := kids_len hS hT hh
        cases T with
        | leaf b => simp [Ty.head] at hh; rw [hh]
        | un b t => simp [Ty.kids] at hl
        | bin b t u => simp [Ty.kids] at hl
      subst this
      have e : joinT (.leaf a) (.leaf a) = .leaf a := if_pos rfl
      rw [e]
      exact ⟨le_refl hS, le_refl hS, fun U _ h _ => h⟩
    · rw [join_no (S := .leaf a) hh]
      refine ⟨le_q hS q rfl, le_q hT q rfl, fun U hU h1 h2 => ?_⟩
      rcases (le_leaf hS hU).1 h1 with h | rfl
      · exact le_q q hU h
      · by_cases ha : a = 63
        · subst ha; exact le_refl hU
        · exfalso
          cases T with
          | leaf b =>
            rcases (le_leaf hT hU).1 h2 with h | h
            · exact ha h
            · cases h; exact hh rfl
          | un b t =>
            rcases (le_un hT hU).1 h2 with h | ⟨x, e, _⟩
            · exact ha h
            · cases e
          | bin b t u =>
            rcases (le_bin hT hU).1 h2 with h | ⟨x, y, e, _⟩
            · exact ha h
            · cases e
  | un a s ih =>
    intro T hS hT
    by_cases hh : a = T.head
    · have hl := kids_len (S := .un a s) hS hT hh
      cases T with
      | leaf b => simp [Ty.kids] at hl
      | bin b t u => simp [Ty.kids] at hl
      | un b t =>
        simp only [Ty.head] at hh
        subst hh
        obtain ⟨g1, g2, g3⟩ := ih hS.2 hT.2
        have hM : (Ty.un a (joinT s t)).ok := ⟨hS.1, join_ok hS.2 hT.2⟩
        have e : joinT (.un a s) (.un a t) = .un a (joinT s t) := if_pos rfl
        rw [e]
        refine ⟨(le_un hS hM).2 (.inr ⟨_, rfl, g1⟩), (le_un hT hM).2 (.inr ⟨_, rfl, g2⟩), fun U hU h1 h2 => ?_⟩
        rcases (le_un hS hU).1 h1 with h | ⟨x, rfl, x1⟩
        · exact le_q hM hU h
        · rcases (le_un hT hU).1 h2 with h | ⟨y, e, y1⟩
          · exact le_q hM hU h
          · cases e
            exact (le_un hM hU).2 (.inr ⟨x, rfl, g3 x hU.2 x1 y1⟩)
    · rw [join_no (S := .un a s) hh]
      refine ⟨le_q hS q rfl, le_q hT q rfl, fun U hU h1 h2 => ?_⟩
      rcases (le_un hS hU).1 h1 with h | ⟨x, rfl, _⟩
      · exact le_q q hU h
      · exfalso
        cases T with
        | leaf b =>
          rcases (le_leaf hT hU).1 h2 with h | h
          · exact no63u hU h
          · cases h
        | un b t =>
          rcases (le_un hT hU).1 h2 with h | ⟨y, e, _⟩
          · exact no63u hU h
          · cases e; exact hh rfl
        | bin b t u =>
          rcases (le_bin hT hU).1 h2 with h | ⟨y, z, e, _⟩
          · exact no63u hU h
          · cases e
  | bin a s s' ih ih' =>
    intro T hS hT
    by_cases hh : a = T.head
    · have hl := kids_len (S := .bin a s s') hS hT hh
      cases T with
      | leaf b => simp [Ty.kids] at hl
      | un b t => simp [Ty.kids] at hl
      | bin b t t' =>
        simp only [Ty.head] at hh
        subst hh
        obtain ⟨g1, g2, g3⟩ := ih hS.2.1 hT.2.1
        obtain ⟨k1, k2, k3⟩ := ih' hS.2.2 hT.2.2
        have hM : (Ty.bin a (joinT s t) (joinT s' t')).ok := ⟨hS.1, join_ok hS.2.1 hT.2.1, join_ok hS.2.2 hT.2.2⟩
        have e : joinT (.bin a s s') (.bin a t t') = .bin a (joinT s t) (joinT s' t') := if_pos rfl
        rw [e]
        refine ⟨(le_bin hS hM).2 (.inr ⟨_, _, rfl, g1, k1⟩), (le_bin hT hM).2 (.inr ⟨_, _, rfl, g2, k2⟩), fun U hU h1 h2 => ?_⟩
        rcases (le_bin hS hU).1 h1 with h | ⟨x, x', rfl, x1, x2⟩
        · exact le_q hM hU h
        · rcases (le_bin hT hU).1 h2 with h | ⟨y, y', e, y1, y2⟩
          · exact le_q hM hU h
          · cases e
            exact (le_bin hM hU).2 (.inr ⟨x, x', rfl, g3 x hU.2.1 x1 y1, k3 x' hU.2.2 x2 y2⟩)
    · rw [join_no (S := .bin a s s') hh]
      refine ⟨le_q hS q rfl, le_q hT q rfl, fun U hU h1 h2 => ?_⟩
      rcases (le_bin hS hU).1 h1 with h | ⟨x, x', rfl, _⟩
      · exact le_q q hU h
      · exfalso
        cases T with
        | leaf b =>
          rcases (le_leaf hT hU).1 h2 with h | h
          · exact no63b hU h
          · cases h
        | un b t =>
          rcases (le_un hT hU).1 h2 with h | ⟨y, e, _⟩
          · exact no63b hU h
          · cases e
        | bin b t u =>
          rcases (le_bin hT hU).1 h2 with h | ⟨y, z, e, _⟩
          · exact no63b hU h
          · cases e; exact hh rfl

theorem join_comm {S T : Ty} (hS : S.ok) (hT : T.ok) : joinT S T = joinT T S := by
  obtain ⟨a1, a2, a3⟩ := join_le hS hT
  obtain ⟨b1, b2, b3⟩ := join_le hT hS
  exact le_anti (join_ok hS hT) (join_ok hT hS) (a3 _ (join_ok hT hS) b2 b1) (b3 _ (join_ok hS hT) a2 a1)

/-- Static types are consistent just if they are the same. -/
def static (T : Ty) : Bool := !T.code.contains 63
theorem co_static {S : Ty} : ∀ {T : Ty}, S.ok → T.ok → static S = true → static T = true → co S T → S = T := by
  induction S with
  | leaf a =>
    intro T hS hT s1 s2 h
    simp [static, Ty.code] at s1
    rw [co_any hS hT] at h
    rcases h with h | h | ⟨h, _⟩
    · exact absurd h.symm s1
    · rw [head63 hT h] at s2; simp [static, Ty.code] at s2
    · have hl := kids_len hS hT h
      cases T with
      | leaf b => simp [Ty.head] at h; rw [h]
      | un b t => simp [Ty.kids] at hl
      | bin b t u => simp [Ty.kids] at hl
  | un a s ih =>
    intro T hS hT s1 s2 h
    have h0 := h
    rw [co_any hS hT] at h
    rcases h with h | h | ⟨h, _⟩
    · exact absurd h (no63u hS)
    · rw [head63 hT h] at s2; simp [static, Ty.code] at s2
    · have hl := kids_len hS hT h
      cases T with
      | leaf b => simp [Ty.kids] at hl
      | un b t =>
        obtain ⟨rfl, g⟩ := (co_un hS hT).1 h0
        simp [static, Ty.code] at s1 s2
        rw [ih hS.2 hT.2 (by simp [static, s1]) (by simp [static, s2]) g]
      | bin b t u => simp [Ty.kids] at hl
  | bin a s s' ih ih' =>
    intro T hS hT s1 s2 h
    have h0 := h
    rw [co_any hS hT] at h
    rcases h with h | h | ⟨h, _⟩
    · exact absurd h (no63b hS)
    · rw [head63 hT h] at s2; simp [static, Ty.code] at s2
    · have hl := kids_len hS hT h
      cases T with
      | leaf b => simp [Ty.kids] at hl
      | un b t => simp [Ty.kids] at hl
      | bin b t t' =>
        obtain ⟨rfl, g, g'⟩ := (co_bin hS hT).1 h0
        simp [static, Ty.code] at s1 s2
        rw [ih hS.2.1 hT.2.1 (by simp [static, s1]) (by simp [static, s2]) g, ih' hS.2.2 hT.2.2 (by simp [static, s1]) (by simp [static, s2]) g']

end Go.Proofs.YtmagljnlfponaaaGreat.T

/- JuP -/
namespace Go.Proofs.YtmagljnlfponaaaGreat.J
open Go.Proofs.YtmagljnlfponaaaGreat.T
set_option linter.unusedVariables false
set_option linter.unusedSimpArgs false

/-- Ground, as a type. -/
def grd : Ty → Ty
  | .leaf h => .leaf h
  | .un h _ => .un h (.leaf 63)
  | .bin h _ _ => .bin h (.leaf 63) (.leaf 63)
theorem grd_head (S : Ty) : (grd S).head = S.head := by cases S <;> rfl
theorem grd_ok {S : Ty} (h : S.ok) : (grd S).ok := by
  cases S with
  | leaf a => exact h
  | un a t => exact ⟨h.1, (by decide : arB 63 = 0)⟩
  | bin a t u => exact ⟨h.1, (by decide : arB 63 = 0), (by decide : arB 63 = 0)⟩
theorem grd_len (S : Ty) : (grd S).code.length ≤ S.code.length := by
  cases S with
  | leaf a => exact Nat.le_refl _
  | un a t => have := t.code_pos; simp [grd, Ty.code]; omega
  | bin a t u => have := t.code_pos; have := u.code_pos; simp [grd, Ty.code]; omega

/-- The parts of two types of one head, asked. -/
def partsB (f g : Ty → Ty → Bool) : Ty → Ty → Bool
  | .un h a, .un _ c => if h = 108 then f a c else if h = 120 then f a c && g c a else true
  | .bin h a b, .bin _ c d => if h = 62 then g c a && f b d else if h = 44 then f a c && f b d else true
  | _, _ => true
/-- plus and minus; the number: how deep at most. -/
def pmN : Nat → Ty → Ty → Bool × Bool
  | 0, _, _ => (true, true)
  | n + 1, S, T =>
    (if T.head = 63 then true else decide (S.head = T.head) && partsB (fun a b => (pmN n a b).1) (fun a b => (pmN n a b).2) S T,
     if S.head = 63 then true else
       (!decide (S.head = (if T.head = 63 then grd S else T).head)) || partsB (fun a b => (pmN n a b).2) (fun a b => (pmN n a b).1) S (if T.head = 63 then grd S else T))
def plusT (S T : Ty) : Bool := (pmN (S.code.length + T.code.length) S T).1
def minusT (S T : Ty) : Bool := (pmN (S.code.length + T.code.length) S T).2

/-- What leads to what is less precise is never blamed inside; what leads to what is more precise never outside. -/
theorem pm_le : ∀ (n : Nat) (S T : Ty), S.ok → T.ok → le S T → (pmN n S T).1 = true ∧ (pmN n T S).2 = true
  | 0, S, T, hS, hT, h => ⟨rfl, rfl⟩
  | n + 1, S, T, hS, hT, h => by
    simp only [pmN]
    by_cases hq : T.head = 63
    · rw [if_pos hq, if_pos hq]; exact ⟨rfl, rfl⟩
    rw [if_neg hq, if_neg hq]
    have hsq : ¬ S.head = 63 := by
      intro hs
      rw [head63 hS hs] at h
      rcases (le_leaf (a := 63) (by exact (by decide : arB 63 = 0)) hT).1 h with h | h
      · exact hq h
      · rw [h] at hq; exact hq rfl
    rw [if_neg hsq]
    cases S with
    | leaf a =>
      rcases (le_leaf hS hT).1 h with h | rfl
      · exact absurd h hq
      · simp [Ty.head, partsB]
    | un a s =>
      rcases (le_un hS hT).1 h with h | ⟨t, rfl, k1⟩
      · exact absurd h hq
      have ih := pm_le n s t hS.2 hT.2 k1
      simp [Ty.head, partsB, ih.1, ih.2]
    | bin a s s' =>
      rcases (le_bin hS hT).1 h with h | ⟨t, t', rfl, k1, k2⟩
      · exact absurd h hq
      have ih := pm_le n s t hS.2.1 hT.2.1 k1
      have ih' := pm_le n s' t' hS.2.2 hT.2.2 k2
      simp [Ty.head, partsB, ih.1, ih.2, ih'.1, ih'.2]
theorem plus_le {S T : Ty} (hS : S.ok) (hT : T.ok) (h : le S T) : plusT S T = true := (pm_le _ S T hS hT h).1
theorem minus_le {S T : Ty} (hS : S.ok) (hT : T.ok) (h : le T S) : minusT S T = true := (pm_le _ T S hT hS h).2

/-- A kid of what is asked is shorter. -/
theorem kid_sum {n : Nat} {S T : Ty} {a b : Ty} (hn : S.code.length + T.code.length ≤ n + 1) (ha : a ∈ S.kids) (hb : b ∈ (if T.head = 63 then grd S else T).kids) : a.code.length + b.code.length ≤ n := by
  have h1 := Ty.kid_code ha
  have h2 : b.code.length ≤ T.code.length := by
    split at hb
    · have hT := T.code_pos
      have : b = .leaf 63 := by
        cases S <;> simp [grd, Ty.kids] at hb <;> exact hb
      rw [this]
      exact hT
    · exact Nat.le_of_lt (Ty.kid_code hb)
  omega
end Go.Proofs.YtmagljnlfponaaaGreat.J

/- JuB -/
namespace Go.Proofs.YtmagljnlfponaaaGreat.J
open Go.Proofs.YtmagljnlfponaaaGreat.T Go.Proofs.YtmagljnlfponaaaGreat.K
set_option linter.unusedVariables false
set_option linter.unusedSimpArgs false

/-! ### What a term that checks says of its nodes -/
theorem tyT_words {n : Tn} {k : Tf} {env : List Ty} {a : Nat} {t : Ty} (hw : Tf.wf (.cons n k .nil)) (h : tyT n k env a = .ok t) :
    wordsE n env.length = 0 ∧ (k = .nil ∨ ∃ m e a' vs, tyF k m e a' = .ok vs) := by
  unfold tyT at h
  split at h
  · cases h
  rename_i h0
  refine ⟨Decidable.of_not_not h0, ?_⟩
  split at h
  · rename_i h4
    left
    have hg := (goodN_iff.1 hw.1).2.2
    have hk := hw.2.1
    have ha : arK n.kd = 0 := by rw [h4]; rfl
    cases k with
    | nil => rfl
    | cons x y z => simp only [Tf.len] at hk; omega
  split at h
  · obtain ⟨f, _, h⟩ := Rs.of_then h
    obtain ⟨vs, h, _⟩ := Rs.of_then h
    exact .inr ⟨_, _, _, _, h⟩
  split at h
  · obtain ⟨f, _, h⟩ := Rs.of_then h
    obtain ⟨vs, h, _⟩ := Rs.of_then h
    exact .inr ⟨_, _, _, _, h⟩
  split at h
  · obtain ⟨vs, h, _⟩ := Rs.of_then h
    exact .inr ⟨_, _, _, _, h⟩
  · obtain ⟨vs, h, _⟩ := Rs.of_then h
    exact .inr ⟨_, _, _, _, h⟩
theorem tyF_words : ∀ (f : Tf) (m : Bool) (env : List Ty) (a : Nat) (ts : List Ty), f.wf → tyF f m env a = .ok ts → ∀ x ∈ f.list, ∃ b, wordsE x b = 0
  | .nil, m, env, a, ts, hw, h, x, hx => by cases hx
  | .cons n k r, m, env, a, ts, hw, h, x, hx => by
    rw [tyF_cons] at h
    obtain ⟨t, h1, h⟩ := Rs.of_then h
    obtain ⟨us, h2, _⟩ := Rs.of_then h
    obtain ⟨h0, hk⟩ := tyT_words ⟨hw.1, hw.2.1, hw.2.2.1, trivial⟩ h1
    simp only [Tf.list, List.mem_cons, List.mem_append] at hx
    rcases hx with rfl | hx | hx
    · exact ⟨_, h0⟩
    · rcases hk with rfl | ⟨m', e', a', vs, hk⟩
      · cases hx
      · exact tyF_words k _ _ _ _ hw.2.2.1 hk x hx
    · exact tyF_words r _ _ _ _ hw.2.2.2 h2 x hx
theorem chk_words {L : List Tn} {t : Ty} (h : chk L = .ok t) : ∀ x ∈ L, ∃ b, wordsE x b = 0 := by
  obtain ⟨_, n, k, hw, _, rfl, ht, _⟩ := chk_ok h
  intro x hx
  refine tyF_words (.cons n k .nil) false [] 0 [t] hw ?_ x (by simpa [Tf.list] using hx)
  rw [tyF_cons, ht]; rfl
/-- A cast that may stand. -/
def Cst (n : Tn) : Prop := isB n.t = true ∧ isB n.u = true ∧ co (ty n.t) (ty n.u) ∧ 1 ≤ n.n ∧ n.n ≤ 2147483647
theorem words_cast {n : Tn} {b : Nat} (hk : n.kd = 30) (h : wordsE n b = 0) : Cst n := by
  unfold wordsE at h
  rw [hk] at h
  simp only [show ¬ ((30 : Int) = 2) by decide, show ¬ ((30 : Int) = 3) by decide, show ¬ ((30 : Int) = 4) by decide, show ¬ ((30 : Int) = 21) by decide, show ¬ ((30 : Int) = 5 ∨ (30 : Int) = 6) by decide, if_false, if_true] at h
  split at h
  · rename_i h1
    split at h
    · rename_i h2
      split at h
      · rename_i h3; exact ⟨h1.1, h1.2, h2, h3.1, h3.2⟩
      · cases h
    · cases h
  · cases h

/-! ### Errors are errors -/
theorem words_bad (n : Tn) (b : Nat) : wordsE n b = 0 ∨ wordsE n b ≠ 0 := by by_cases h : wordsE n b = 0 <;> simp [h]
theorem want_bad {α : Type} {p : Prop} {a : Nat} {r : Rs α} {E : Int} {x : Nat} (h : want p a r = .bad E x) (hr : r = .bad E x → E ≠ 0) : E ≠ 0 := by
  unfold want at h
  split at h
  · exact hr h
  · injection h with h; omega
theorem made_bad {t : Ty} {a : Nat} {E : Int} {x : Nat} (h : made t a = .bad E x) : E ≠ 0 := by
  unfold made at h
  split at h
  · cases h
  · injection h with h; omega
theorem ite_bad {α : Type} {c : Prop} [Decidable c] {x y : Rs α} {E : Int} {p : Nat} (h : (if c then x else y) = .bad E p) : x = .bad E p ∨ y = .bad E p := by
  by_cases hc : c
  · rw [if_pos hc] at h; exact .inl h
  · rw [if_neg hc] at h; exact .inr h
theorem then_bad {α β : Type} {r : Rs α} {f : α → Rs β} {E : Int} {x : Nat} (h : r.then f = .bad E x) : r = .bad E x ∨ ∃ a, r = .ok a ∧ f a = .bad E x := by
  cases r with
  | ok a => exact .inr ⟨a, rfl, h⟩
  | bad e y => exact .inl (by injection h with h1 h2; rw [h1, h2])
theorem okbad {α : Type} {a : α} {E : Int} {x : Nat} (h : Rs.ok a = .bad E x) : E ≠ 0 := by cases h
theorem ruleE_bad {n : Tn} {ts : List Ty} {a : Nat} {E : Int} {x : Nat} (h : ruleE n ts a = .bad E x) : E ≠ 0 := by
  unfold ruleE at h
  simp only at h
  repeat (rcases ite_bad h with h | h; · first | exact okbad h | exact made_bad h | exact want_bad h (fun h => okbad h) | exact want_bad h (fun h => made_bad h))
  exact want_bad h (fun h => okbad h)
theorem tyF_bad : ∀ (f : Tf) (m : Bool) (env : List Ty) (a : Nat) (E : Int) (x : Nat), tyF f m env a = .bad E x → E ≠ 0
  | .nil, m, env, a, E, x, h => by simp only [tyF] at h; cases h
  | .cons n k r, m, env, a, E, x, h => by
    rw [tyF_cons] at h
    rcases then_bad h with h | ⟨t, _, h⟩
    · unfold tyT at h
      split at h
      · rename_i h0; injection h with h; rw [← h]; exact h0
      split at h
      · exact okbad h
      split at h
      · rcases then_bad h with h | ⟨f, _, h⟩
        · exact made_bad h
        · rcases then_bad h with h | ⟨vs, _, h⟩
          · exact tyF_bad k _ _ _ _ _ h
          · exact want_bad h (fun h => okbad h)
      split at h
      · rcases then_bad h with h | ⟨f, _, h⟩
        · exact made_bad h
        · rcases then_bad h with h | ⟨vs, _, h⟩
          · exact tyF_bad k _ _ _ _ _ h
          · exact want_bad h (fun h => okbad h)
      split at h
      · rcases then_bad h with h | ⟨vs, _, h⟩
        · exact tyF_bad k _ _ _ _ _ h
        · exact okbad h
      · rcases then_bad h with h | ⟨vs, _, h⟩
        · exact tyF_bad k _ _ _ _ _ h
        · exact ruleE_bad h
    · rcases then_bad h with h | ⟨us, _, h⟩
      · exact tyF_bad r _ _ _ _ _ h
      · exact okbad h
theorem loopQ_bad {f : List Tn → Nat → Rs (List Tn × Nat)} (hf : ∀ l a E x, f l a = .bad E x → E ≠ 0) : ∀ (m : Nat) (l : List Tn) (a : Nat) (E : Int) (x : Nat), loopQ f m l a = .bad E x → E ≠ 0
  | 0, l, a, E, x, h => by simp only [loopQ] at h; cases h
  | m + 1, l, a, E, x, h => by
    simp only [loopQ] at h
    rcases hr : f l a with ⟨l1, a1⟩ | ⟨e, y⟩
    · rw [hr] at h; exact loopQ_bad hf m _ _ _ _ h
    · rw [hr] at h
      injection h with h1 h2
      rw [← h1]
      exact hf _ _ _ _ hr
theorem shq_bad : ∀ (d : Nat) (l : List Tn) (a : Nat) (E : Int) (x : Nat), shq d l a = .bad E x → E ≠ 0
  | d, [], a, E, x, h => by simp [shq] at h; omega
  | 0, n :: r, a, E, x, h => by
    simp only [shq] at h
    split at h <;> (injection h with h; omega)
  | d + 1, n :: r, a, E, x, h => by
    simp only [shq] at h
    split at h
    · exact loopQ_bad (fun l a E x => shq_bad d l a E x) _ _ _ _ _ h
    · injection h with h; omega
theorem chk_bad {L : List Tn} {E : Int} {x : Nat} (h : chk L = .bad E x) : E ≠ 0 := by
  unfold chk at h
  split at h
  · injection h with h; omega
  rcases then_bad h with h | ⟨p, _, h⟩
  · exact shq_bad _ _ _ _ _ h
  · split at h
    · refine tyF_bad (.cons (treeN L).1 (treeN L).2 .nil) false [] 0 E x ?_
      rw [tyF_cons, h]; rfl
    · injection h with h; omega

/-! ### A program's casts; who can be blamed -/
/-- The casts of a term, in order. -/
def laidL (L : List Tn) : List Tn := L.filter fun n => n.kd == 30
theorem laid_mem {L : List Tn} {c : Tn} : c ∈ laidL L ↔ c ∈ L ∧ c.kd = 30 := by simp [laidL]
theorem laid_cst {L : List Tn} {t : Ty} (h : chk L = .ok t) : ∀ c ∈ laidL L, Cst c := by
  intro c hc
  obtain ⟨h1, h2⟩ := laid_mem.1 hc
  obtain ⟨b, hb⟩ := chk_words h c h1
  exact words_cast h2 hb
open Classical in
/-- check: the error (0: none), the casts. -/
noncomputable def chkP (L : List Tn) (T : ByteArray) (N : Nat) : Int × List Tn :=
  match chk L with
  | .bad E _ => (E, [])
  | .ok t => if str t ≠ T then (23, []) else if ∃ c ∈ laidL L, (N : Int) < c.n then (1, []) else (0, laidL L)
theorem chkP_ok {L : List Tn} {T : ByteArray} {N : Nat} (h : (chkP L T N).1 = 0) : (chkP L T N).2 = laidL L ∧ (∃ t, chk L = .ok t ∧ str t = T) ∧ ∀ c ∈ laidL L, Cst c ∧ c.n ≤ N := by
  unfold chkP at h ⊢
  rcases hc : chk L with t | ⟨E, x⟩
  · rw [hc] at h
    simp only at h ⊢
    by_cases h1 : str t = T
    · rw [if_neg (by simpa using h1)] at h ⊢
      by_cases h2 : ∃ c ∈ laidL L, (N : Int) < c.n
      · rw [if_pos h2] at h; cases h
      · rw [if_neg h2]
        refine ⟨rfl, ⟨t, rfl, h1⟩, fun c hm => ⟨laid_cst hc c hm, ?_⟩⟩
        rcases Int.lt_or_le (N : Int) c.n with h3 | h3
        · exact absurd ⟨c, hm, h3⟩ h2
        · exact h3
    · rw [if_pos h1] at h; cases h
  · rw [hc] at h
    exact absurd h (chk_bad hc)
theorem chkP_bad {L : List Tn} {T : ByteArray} {N : Nat} (h : (chkP L T N).1 ≠ 0) : (chkP L T N).2 = [] := by
  unfold chkP at h ⊢
  rcases hc : chk L with t | ⟨E, x⟩
  · rw [hc] at h
    simp only at h ⊢
    split
    · rfl
    · split
      · rfl
      · rename_i h1 h2
        rw [if_neg h1, if_neg h2] at h
        exact absurd rfl h
  · rfl

noncomputable def plusC (n : Tn) : Bool := plusT (ty n.t) (ty n.u)
noncomputable def minusC (n : Tn) : Bool := minusT (ty n.t) (ty n.u)
/-- The blames that a cast can make; those of casts. -/
noncomputable def blC (n : Tn) : List Int := (if plusC n = true then [] else [n.n]) ++ (if minusC n = true then [] else [-n.n])
noncomputable def blL (l : List Tn) : List Int := l.flatMap blC
theorem blC_mem {n : Tn} {b : Int} : b ∈ blC n ↔ (plusC n = false ∧ b = n.n) ∨ (minusC n = false ∧ b = -n.n) := by
  unfold blC
  rcases hp : plusC n <;> rcases hm : minusC n <;> simp
theorem blL_in {l : List Tn} {N : Nat} (h : ∀ c ∈ l, Cst c ∧ c.n ≤ N) : ∀ b ∈ blL l, (1 ≤ b ∧ b ≤ N) ∨ (1 ≤ -b ∧ -b ≤ N) := by
  intro b hb
  obtain ⟨c, hc, hb⟩ := List.mem_flatMap.1 hb
  have h1 := h c hc
  have h2 := h1.1.2.2.2
  rcases blC_mem.1 hb with ⟨_, rfl⟩ | ⟨_, rfl⟩
  · left; omega
  · right; omega

/-- The sides that can be blamed, of N labels. -/
def markS (s : List (Bool × Bool)) (b : Int) : List (Bool × Bool) :=
  if 0 < b then s.set (b.toNat - 1) (true, (s.getD (b.toNat - 1) (false, false)).2) else s.set ((-b).toNat - 1) ((s.getD ((-b).toNat - 1) (false, false)).1, true)
def sidesL (N : Nat) (bl : List Int) : List (Bool × Bool) := bl.foldl markS (List.replicate N (false, false))
theorem markS_len (s : List (Bool × Bool)) (b : Int) : (markS s b).length = s.length := by unfold markS; split <;> simp
theorem fold_len (bl : List Int) : ∀ s : List (Bool × Bool), (bl.foldl markS s).length = s.length := by
  induction bl with
  | nil => intro s; rfl
  | cons b bl ih => intro s; rw [List.foldl_cons, ih, markS_len]
theorem sides_len (N : Nat) (bl : List Int) : (sidesL N bl).length = N := by unfold sidesL; rw [fold_len]; simp
theorem mark_at (s : List (Bool × Bool)) (b : Int) (i : Nat) (x : Bool × Bool) (hb : b ≠ 0) (h : s[i]? = some x) :
    (markS s b)[i]? = some (x.1 || decide (b = (i : Int) + 1), x.2 || decide (b = -((i : Int) + 1))) := by
  have hi : i < s.length := (List.getElem?_eq_some_iff.1 h).1
  unfold markS
  split
  · rename_i hp
    by_cases e : b.toNat - 1 = i
    · subst e
      rw [List.getElem?_set_self hi, List.getD_eq_getElem?_getD, h]
      have e1 : b = ((b.toNat - 1 : Nat) : Int) + 1 := by omega
      have e2 : ¬ b = -(((b.toNat - 1 : Nat) : Int) + 1) := by omega
      rw [decide_eq_true e1, decide_eq_false e2]
      simp
    · rw [List.getElem?_set_ne e, h]
      have e1 : ¬ b = (i : Int) + 1 := by omega
      have e2 : ¬ b = -((i : Int) + 1) := by omega
      rw [decide_eq_false e1, decide_eq_false e2]
      simp
  · rename_i hp
    by_cases e : (-b).toNat - 1 = i
    · subst e
      rw [List.getElem?_set_self hi, List.getD_eq_getElem?_getD, h]
      have e1 : ¬ b = (((-b).toNat - 1 : Nat) : Int) + 1 := by omega
      have e2 : b = -((((-b).toNat - 1 : Nat) : Int) + 1) := by omega
      rw [decide_eq_false e1, decide_eq_true e2]
      simp
    · rw [List.getElem?_set_ne e, h]
      have e1 : ¬ b = (i : Int) + 1 := by omega
      have e2 : ¬ b = -((i : Int) + 1) := by omega
      rw [decide_eq_false e1, decide_eq_false e2]
      simp
theorem fold_at (bl : List Int) : ∀ (s : List (Bool × Bool)) (i : Nat) (x : Bool × Bool), (∀ b ∈ bl, b ≠ 0) → s[i]? = some x →
    (bl.foldl markS s)[i]? = some (x.1 || decide ((i : Int) + 1 ∈ bl), x.2 || decide (-((i : Int) + 1) ∈ bl)) := by
  induction bl with
  | nil => intro s i x _ h; simp [h]
  | cons b bl ih =>
    intro s i x hb h
    rw [List.foldl_cons, ih _ i _ (fun c hc => hb c (List.mem_cons_of_mem _ hc)) (mark_at s b i x (hb b (by simp)) h)]
    have key : ∀ z : Int, decide (z ∈ b :: bl) = (decide (b = z) || decide (z ∈ bl)) := fun z => by
      by_cases h1 : b = z
      · rw [decide_eq_true h1, Bool.true_or, decide_eq_true (by rw [h1]; exact List.mem_cons_self)]
      · rw [decide_eq_false h1, Bool.false_or]
        exact decide_eq_decide.2 ⟨fun h => (List.mem_cons.1 h).resolve_left (fun e => h1 e.symm), List.mem_cons_of_mem _⟩
    rw [key, key, Bool.or_assoc, Bool.or_assoc]
theorem sides_at {N : Nat} {bl : List Int} {i : Nat} (hb : ∀ b ∈ bl, b ≠ 0) (hi : i < N) : (sidesL N bl)[i]? = some (decide ((i : Int) + 1 ∈ bl), decide (-((i : Int) + 1) ∈ bl)) := by
  unfold sidesL
  rw [fold_at bl _ i (false, false) hb (by simp [hi])]
  simp
end Go.Proofs.YtmagljnlfponaaaGreat.J
