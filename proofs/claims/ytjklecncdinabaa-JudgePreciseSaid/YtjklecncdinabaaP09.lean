/- Parts of this claim: RelU, RelV, JuP. -/
import Derived.Test.YtjklecncdinabaaP00
import Derived.Test.YtjklecncdinabaaP04
set_option linter.unusedVariables false
set_option linter.unusedSimpArgs false
/- RelU -/
namespace Go.Proofs.Ytjklecncdinabaa.T

def meetT : Ty → Ty → Ty
  | .leaf h, T => if h = 63 then T else .leaf h
  | .un h a, T => match T with | .un _ b => .un h (meetT a b) | _ => .un h a
  | .bin h a b, T => match T with | .bin _ c d => .bin h (meetT a c) (meetT b d) | _ => .bin h a b

def joinT : Ty → Ty → Ty
  | .leaf h, T => if h = T.head then .leaf h else .leaf 63
  | .un h a, T => if h = T.head then (match T with | .un _ b => .un h (joinT a b) | _ => .un h a) else .leaf 63
  | .bin h a b, T => if h = T.head then (match T with | .bin _ c d => .bin h (joinT a c) (joinT b d) | _ => .bin h a b) else .leaf 63

theorem meet_len (S : Ty) : ∀ T : Ty, (meetT S T).code.length ≤ S.code.length + T.code.length := by
  induction S with
  | leaf h => intro T; simp only [meetT]; split <;> simp [Ty.code]
  | un h a ih =>
    intro T
    cases T with
    | un g b => have := ih b; simp [meetT, Ty.code]; omega
    | leaf g => simp [meetT, Ty.code]
    | bin g b c => simp [meetT, Ty.code] <;> omega
  | bin h a b iha ihb =>
    intro T
    cases T with
    | bin g c d => have := iha c; have := ihb d; simp [meetT, Ty.code]; omega
    | leaf g => simp [meetT, Ty.code]
    | un g c => simp [meetT, Ty.code] <;> omega

theorem join_len (S : Ty) : ∀ T : Ty, (joinT S T).code.length ≤ S.code.length := by
  induction S with
  | leaf h => intro T; simp only [joinT]; split <;> simp [Ty.code]
  | un h a ih =>
    intro T
    simp only [joinT]
    split
    · cases T with
      | un g b => have := ih b; simp [Ty.code]; omega
      | leaf g => simp
      | bin g b c => simp
    · simp [Ty.code]
  | bin h a b iha ihb =>
    intro T
    simp only [joinT]
    split
    · cases T with
      | bin g c d => have := iha c; have := ihb d; simp [Ty.code]; omega
      | leaf g => simp
      | un g c => simp
    · simp [Ty.code]

theorem meet_q {S : Ty} (hS : S.ok) (h : S.head = 63) (T : Ty) : meetT S T = T := by rw [head63 hS h]; simp [meetT]
theorem meet_r {S T : Ty} (hS : S.ok) (hT : T.ok) (h1 : S.head ≠ 63) (h : T.head = 63) : meetT S T = S := by
  rw [head63 hT h]
  cases S with
  | leaf a => simp [meetT, Ty.head] at *; intro h; exact absurd h h1
  | un a b => simp [meetT]
  | bin a b c => simp [meetT]

/-- The letters of two types of one head, joined part by part. -/
def zipC (f : Ty → Ty → Ty) (h : UInt8) (K1 K2 : List Ty) (j : Nat) : List UInt8 := h :: ((K1.zip K2).take j).flatMap fun p => (f p.1 p.2).code
theorem zipC_zero (f : Ty → Ty → Ty) (h : UInt8) (K1 K2 : List Ty) : zipC f h K1 K2 0 = [h] := by simp [zipC]
theorem zipC_succ (f : Ty → Ty → Ty) (h : UInt8) {K1 K2 : List Ty} {j : Nat} {S T : Ty} (h1 : K1[j]? = some S) (h2 : K2[j]? = some T) : zipC f h K1 K2 (j + 1) = zipC f h K1 K2 j ++ (f S T).code := by
  unfold zipC
  have h3 : (K1.zip K2)[j]? = some (S, T) := List.getElem?_zip_eq_some.2 ⟨h1, h2⟩
  rw [take_succ_some h3]
  simp
theorem zipC_len {f : Ty → Ty → Ty} {h : UInt8} {K1 K2 : List Ty} (hb : ∀ p ∈ K1.zip K2, (f p.1 p.2).code.length ≤ 128) (j : Nat) : (zipC f h K1 K2 j).length ≤ 1 + j * 128 := by
  unfold zipC
  induction j with
  | zero => simp
  | succ j ih =>
    rw [List.take_add_one]
    rcases hj : (K1.zip K2)[j]? with _ | p
    · simp only [hj, Option.toList_none, List.append_nil]; omega
    · have := hb p (List.mem_of_getElem? hj)
      simp only [Option.toList_some, List.flatMap_append, List.length_cons, List.length_append, List.flatMap_cons, List.flatMap_nil, List.append_nil] at *
      omega

theorem meet_zip {S T : Ty} (hS : S.ok) (hT : T.ok) (h1 : S.head ≠ 63) (h : S.head = T.head) : zipC meetT S.head S.kids T.kids S.kids.length = (meetT S T).code := by
  have hl := kids_len hS hT h
  cases S with
  | leaf a => simp [zipC, meetT, Ty.kids, Ty.head, Ty.code] at *; simp [h1, Ty.code]
  | un a b =>
    cases T with
    | leaf c => simp [Ty.kids] at hl
    | un c d => simp [zipC, meetT, Ty.kids, Ty.head, Ty.code]
    | bin c d e => simp [Ty.kids] at hl
  | bin a b c =>
    cases T with
    | leaf c => simp [Ty.kids] at hl
    | un c d => simp [Ty.kids] at hl
    | bin c d e => simp [zipC, meetT, Ty.kids, Ty.head, Ty.code]

theorem join_zip {S T : Ty} (hS : S.ok) (hT : T.ok) (h : S.head = T.head) : zipC joinT S.head S.kids T.kids S.kids.length = (joinT S T).code := by
  have hl := kids_len hS hT h
  cases S with
  | leaf a => simp [Ty.head] at h; simp [zipC, joinT, Ty.kids, Ty.head, Ty.code, h]
  | un a b =>
    cases T with
    | leaf c => simp [Ty.kids] at hl
    | un c d => simp [Ty.head] at h; simp [zipC, joinT, Ty.kids, Ty.head, Ty.code, h]
    | bin c d e => simp [Ty.kids] at hl
  | bin a b c =>
    cases T with
    | leaf c => simp [Ty.kids] at hl
    | un c d => simp [Ty.kids] at hl
    | bin c d e => simp [Ty.head] at h; simp [zipC, joinT, Ty.kids, Ty.head, Ty.code, h]
theorem join_no {S T : Ty} (h : S.head ≠ T.head) : joinT S T = .leaf 63 := by
  cases S
  · exact if_neg h
  · exact if_neg h
  · exact if_neg h

theorem meet_ok {S : Ty} : ∀ {T : Ty}, S.ok → T.ok → (meetT S T).ok := by
  induction S with
  | leaf h => intro T hS hT; simp only [meetT]; split; exact hT; exact hS
  | un h a ih =>
    intro T hS hT
    cases T with
    | un g b => exact ⟨hS.1, ih hS.2 hT.2⟩
    | leaf g => exact hS
    | bin g b c => exact hS
  | bin h a b iha ihb =>
    intro T hS hT
    cases T with
    | bin g c d => exact ⟨hS.1, iha hS.2.1 hT.2.1, ihb hS.2.2 hT.2.2⟩
    | leaf g => exact hS
    | un g c => exact hS
theorem join_ok {S : Ty} : ∀ {T : Ty}, S.ok → T.ok → (joinT S T).ok := by
  have q : (Ty.leaf 63).ok := by show arB 63 = 0; decide
  induction S with
  | leaf h => intro T hS hT; simp only [joinT]; split; exact hS; exact q
  | un h a ih =>
    intro T hS hT
    simp only [joinT]
    split
    · cases T with
      | un g b => exact ⟨hS.1, ih hS.2 hT.2⟩
      | leaf g => exact hS
      | bin g b c => exact hS
    · exact q
  | bin h a b iha ihb =>
    intro T hS hT
    simp only [joinT]
    split
    · cases T with
      | bin g c d => exact ⟨hS.1, iha hS.2.1 hT.2.1, ihb hS.2.2 hT.2.2⟩
      | leaf g => exact hS
      | un g c => exact hS
    · exact q

end Go.Proofs.Ytjklecncdinabaa.T

/- RelV -/
namespace Go.Proofs.Ytjklecncdinabaa.T

def le (S T : Ty) : Prop := allT askP S T = true
def co (S T : Ty) : Prop := allT askC S T = true

theorem ok_leaf_ne {a : UInt8} (h : (Ty.leaf a).ok) : arB a = 0 := h
theorem no63u {a : UInt8} {t : Ty} (h : (Ty.un a t).ok) : a ≠ 63 := by intro e; rw [e] at h; exact absurd h.1 (by decide)
theorem no63b {a : UInt8} {t u : Ty} (h : (Ty.bin a t u).ok) : a ≠ 63 := by intro e; rw [e] at h; exact absurd h.1 (by decide)

theorem le_leaf {a : UInt8} {T : Ty} (hS : (Ty.leaf a).ok) (hT : T.ok) : le (.leaf a) T ↔ T.head = 63 ∨ T = .leaf a := by
  unfold le
  rw [allT_kids hS hT askP_asks]
  unfold askP
  by_cases h : T.head = 63
  · simp [h]
  · simp only [h, if_false, false_or]
    by_cases h2 : (Ty.leaf a).head = T.head
    · rw [if_pos h2, if_neg (by omega)]
      simp only [Ty.kids, List.zip_nil_left, List.all_nil, true_iff]
      have := kids_len hS hT h2
      cases T with
      | leaf b => simp [Ty.head] at h2; rw [h2]
      | un b t => simp [Ty.kids] at this
      | bin b t u => simp [Ty.kids] at this
    · rw [if_neg h2, if_pos (by omega)]
      constructor
      · intro h; simp at h
      · rintro rfl; exact absurd rfl h2

theorem le_un {a : UInt8} {s T : Ty} (hS : (Ty.un a s).ok) (hT : T.ok) : le (.un a s) T ↔ T.head = 63 ∨ ∃ t, T = .un a t ∧ le s t := by
  unfold le
  rw [allT_kids hS hT askP_asks]
  unfold askP
  by_cases h : T.head = 63
  · simp [h]
  · simp only [h, if_false, false_or]
    by_cases h2 : (Ty.un a s).head = T.head
    · rw [if_pos h2, if_neg (by omega)]
      have := kids_len hS hT h2
      cases T with
      | leaf b => simp [Ty.kids] at this
      | un b t => simp [Ty.head] at h2; simp [Ty.kids, h2]
      | bin b t u => simp [Ty.kids] at this
    · rw [if_neg h2, if_pos (by omega)]
      constructor
      · intro h; simp at h
      · rintro ⟨t, rfl, _⟩; exact absurd rfl h2

theorem le_bin {a : UInt8} {s s' T : Ty} (hS : (Ty.bin a s s').ok) (hT : T.ok) : le (.bin a s s') T ↔ T.head = 63 ∨ ∃ t t', T = .bin a t t' ∧ le s t ∧ le s' t' := by
  unfold le
  rw [allT_kids hS hT askP_asks]
  unfold askP
  by_cases h : T.head = 63
  · simp [h]
  · simp only [h, if_false, false_or]
    by_cases h2 : (Ty.bin a s s').head = T.head
    · rw [if_pos h2, if_neg (by omega)]
      have := kids_len hS hT h2
      cases T with
      | leaf b => simp [Ty.kids] at this
      | un b t => simp [Ty.kids] at this
      | bin b t u =>
        simp [Ty.head] at h2
        subst h2
        simp only [Ty.kids, List.zip_cons_cons, List.zip_nil_left, List.all_cons, List.all_nil, Bool.and_true, Bool.and_eq_true, Ty.bin.injEq, true_and]
        constructor
        · intro h; exact ⟨t, u, ⟨rfl, rfl⟩, h⟩
        · rintro ⟨_, _, ⟨rfl, rfl⟩, h⟩; exact h
    · rw [if_neg h2, if_pos (by omega)]
      constructor
      · intro h; simp at h
      · rintro ⟨t, t', rfl, _⟩; exact absurd rfl h2

theorem co_any {S T : Ty} (hS : S.ok) (hT : T.ok) : co S T ↔ S.head = 63 ∨ T.head = 63 ∨ (S.head = T.head ∧ ∀ p ∈ S.kids.zip T.kids, co p.1 p.2) := by
  unfold co
  rw [allT_kids hS hT askC_asks]
  unfold askC
  by_cases h : S.head = 63 ∨ T.head = 63
  · rw [if_pos h, if_pos (by omega)]
    simp only [beq_self_eq_true, true_iff]
    rcases h with h | h
    · exact .inl h
    · exact .inr (.inl h)
  · rw [if_neg h]
    have n1 : ¬ S.head = 63 := fun e => h (.inl e)
    have n2 : ¬ T.head = 63 := fun e => h (.inr e)
    by_cases h2 : S.head = T.head
    · rw [if_pos h2, if_neg (by omega), List.all_eq_true]
      constructor
      · intro h; exact .inr (.inr ⟨h2, h⟩)
      · rintro (h | h | h)
        · exact absurd h n1
        · exact absurd h n2
        · exact h.2
    · rw [if_neg h2, if_pos (by omega)]
      constructor
      · intro h; simp at h
      · rintro (h | h | h)
        · exact absurd h n1
        · exact absurd h n2
        · exact absurd h.1 h2

theorem le_q {S T : Ty} (hS : S.ok) (hT : T.ok) (h : T.head = 63) : le S T := by
  cases S with
  | leaf a => exact (le_leaf hS hT).2 (.inl h)
  | un a s => exact (le_un hS hT).2 (.inl h)
  | bin a s s' => exact (le_bin hS hT).2 (.inl h)

theorem le_refl {S : Ty} (hS : S.ok) : le S S := by
  induction S with
  | leaf a => exact (le_leaf hS hS).2 (.inr rfl)
  | un a s ih => exact (le_un hS hS).2 (.inr ⟨s, rfl, ih hS.2⟩)
  | bin a s s' ih ih' => exact (le_bin hS hS).2 (.inr ⟨s, s', rfl, ih hS.2.1, ih' hS.2.2⟩)

theorem le_trans {S : Ty} : ∀ {T U : Ty}, S.ok → T.ok → U.ok → le S T → le T U → le S U := by
  induction S with
  | leaf a =>
    intro T U hS hT hU h1 h2
    rcases (le_leaf hS hT).1 h1 with h | rfl
    · obtain rfl := head63 hT h
      rcases (le_leaf hT hU).1 h2 with h | rfl
      · exact le_q hS hU h
      · exact le_q hS hU rfl
    · exact h2
  | un a s ih =>
    intro T U hS hT hU h1 h2
    rcases (le_un hS hT).1 h1 with h | ⟨t, rfl, h⟩
    · obtain rfl := head63 hT h
      rcases (le_leaf hT hU).1 h2 with h | rfl
      · exact le_q hS hU h
      · exact le_q hS hU rfl
    · rcases (le_un hT hU).1 h2 with h' | ⟨u, rfl, h'⟩
      · exact le_q hS hU h'
      · exact (le_un hS hU).2 (.inr ⟨u, rfl, ih hS.2 hT.2 hU.2 h h'⟩)
  | bin a s s' ih ih' =>
    intro T U hS hT hU h1 h2
    rcases (le_bin hS hT).1 h1 with h | ⟨t, t', rfl, h, g⟩
    · obtain rfl := head63 hT h
      rcases (le_leaf hT hU).1 h2 with h | rfl
      · exact le_q hS hU h
      · exact le_q hS hU rfl
    · rcases (le_bin hT hU).1 h2 with h' | ⟨u, u', rfl, h', g'⟩
      · exact le_q hS hU h'
      · exact (le_bin hS hU).2 (.inr ⟨u, u', rfl, ih hS.2.1 hT.2.1 hU.2.1 h h', ih' hS.2.2 hT.2.2 hU.2.2 g g'⟩)

theorem le_anti {S : Ty} : ∀ {T : Ty}, S.ok → T.ok → le S T → le T S → S = T := by
  induction S with
  | leaf a =>
    intro T hS hT h1 h2
    rcases (le_leaf hS hT).1 h1 with h | rfl
    · obtain rfl := head63 hT h
      rcases (le_leaf hT hS).1 h2 with h | h
      · simp [Ty.head] at h; rw [h]
      · exact h
    · rfl
  | un a s ih =>
    intro T hS hT h1 h2
    rcases (le_un hS hT).1 h1 with h | ⟨t, rfl, h⟩
    · obtain rfl := head63 hT h
      rcases (le_leaf hT hS).1 h2 with h | h
      · exact absurd h (no63u hS)
      · cases h
    · rcases (le_un hT hS).1 h2 with h' | ⟨u, e, h'⟩
      · exact absurd h' (no63u hS)
      · cases e; rw [ih hS.2 hT.2 h h']
  | bin a s s' ih ih' =>
    intro T hS hT h1 h2
    rcases (le_bin hS hT).1 h1 with h | ⟨t, t', rfl, h, g⟩
    · obtain rfl := head63 hT h
      rcases (le_leaf hT hS).1 h2 with h | h
      · exact absurd h (no63b hS)
      · cases h
    · rcases (le_bin hT hS).1 h2 with h' | ⟨u, u', e, h', g'⟩
      · exact absurd h' (no63b hS)
      · cases e; rw [ih hS.2.1 hT.2.1 h h', ih' hS.2.2 hT.2.2 g g']

/-- What is less precise has no more letters. -/
theorem le_len {S : Ty} : ∀ {T : Ty}, S.ok → T.ok → le S T → T.code.length ≤ S.code.length := by
  induction S with
  | leaf a =>
    intro T hS hT h1
    rcases (le_leaf hS hT).1 h1 with h | rfl
    · rw [head63 hT h]; simp [Ty.code]
    · exact Nat.le_refl _
  | un a s ih =>
    intro T hS hT h1
    rcases (le_un hS hT).1 h1 with h | ⟨t, rfl, h⟩
    · rw [head63 hT h]; simp [Ty.code]
    · have := ih hS.2 hT.2 h; simp [Ty.code]; omega
  | bin a s s' ih ih' =>
    intro T hS hT h1
    rcases (le_bin hS hT).1 h1 with h | ⟨t, t', rfl, h, g⟩
    · rw [head63 hT h]; simp [Ty.code]
    · have := ih hS.2.1 hT.2.1 h; have := ih' hS.2.2 hT.2.2 g; simp [Ty.code]; omega

theorem co_un {a b : UInt8} {s t : Ty} (hS : (Ty.un a s).ok) (hT : (Ty.un b t).ok) : co (.un a s) (.un b t) ↔ a = b ∧ co s t := by
  rw [co_any hS hT]
  simp [Ty.head, Ty.kids, no63u hS, no63u hT]
theorem co_bin {a b : UInt8} {s s' t t' : Ty} (hS : (Ty.bin a s s').ok) (hT : (Ty.bin b t t').ok) : co (.bin a s s') (.bin b t t') ↔ a = b ∧ co s t ∧ co s' t' := by
  rw [co_any hS hT]
  simp [Ty.head, Ty.kids, no63b hS, no63b hT]

theorem co_symm {S : Ty} : ∀ {T : Ty}, S.ok → T.ok → co S T → co T S := by
  induction S with
  | leaf a =>
    intro T hS hT h
    rw [co_any hS hT] at h
    rw [co_any hT hS]
    rcases h with h | h | ⟨h, _⟩
    · exact .inr (.inl h)
    · exact .inl h
    · exact .inr (.inr ⟨h.symm, by simp [Ty.kids]⟩)
  | un a s ih =>
    intro T hS hT h
    have h0 := h
    rw [co_any hS hT] at h
    rcases h with h | h | ⟨h, _⟩
    · exact absurd h (no63u hS)
    · exact (co_any hT hS).2 (.inl h)
    · have hl := kids_len hS hT h
      cases T with
      | leaf b => simp [Ty.kids] at hl
      | un b t => obtain ⟨e, g⟩ := (co_un hS hT).1 h0; exact (co_un hT hS).2 ⟨e.symm, ih hS.2 hT.2 g⟩
      | bin b t u => simp [Ty.kids] at hl
  | bin a s s' ih ih' =>
    intro T hS hT h
    have h0 := h
    rw [co_any hS hT] at h
    rcases h with h | h | ⟨h, _⟩
    · exact absurd h (no63b hS)
    · exact (co_any hT hS).2 (.inl h)
    · have hl := kids_len hS hT h
      cases T with
      | leaf b => simp [Ty.kids] at hl
      | un b t => simp [Ty.kids] at hl
      | bin b t u => obtain ⟨e, g, g'⟩ := (co_bin hS hT).1 h0; exact (co_bin hT hS).2 ⟨e.symm, ih hS.2.1 hT.2.1 g, ih' hS.2.2 hT.2.2 g'⟩

/-- What both are less precise than makes them consistent. -/
theorem co_of_le {U : Ty} : ∀ {S T : Ty}, U.ok → S.ok → T.ok → le U S → le U T → co S T := by
  induction U with
  | leaf a =>
    intro S T hU hS hT h1 h2
    rw [co_any hS hT]
    rcases (le_leaf hU hS).1 h1 with h | rfl
    · exact .inl h
    · rcases (le_leaf hU hT).1 h2 with h | rfl
      · exact .inr (.inl h)
      · exact .inr (.inr ⟨rfl, by simp [Ty.kids]⟩)
  | un a u ih =>
    intro S T hU hS hT h1 h2
    rcases (le_un hU hS).1 h1 with h | ⟨s, rfl, h⟩
    · exact (co_any hS hT).2 (.inl h)
    · rcases (le_un hU hT).1 h2 with h' | ⟨t, rfl, h'⟩
      · exact (co_any hS hT).2 (.inr (.inl h'))
      · exact (co_un hS hT).2 ⟨rfl, ih hU.2 hS.2 hT.2 h h'⟩
  | bin a u u' ih ih' =>
    intro S T hU hS hT h1 h2
    rcases (le_bin hU hS).1 h1 with h | ⟨s, s', rfl, h, g⟩
    · exact (co_any hS hT).2 (.inl h)
    · rcases (le_bin hU hT).1 h2 with h' | ⟨t, t', rfl, h', g'⟩
      · exact (co_any hS hT).2 (.inr (.inl h'))
      · exact (co_bin hS hT).2 ⟨rfl, ih hU.2.1 hS.2.1 hT.2.1 h h', ih' hU.2.2 hS.2.2 hT.2.2 g g'⟩

theorem co_of_prec {S T : Ty} (hS : S.ok) (hT : T.ok) (h : le S T) : co S T := co_of_le hS hS hT (le_refl hS) h

/-- The meet is at least as precise as both, and what is so is at least as precise as it. -/
theorem meet_le {S : Ty} : ∀ {T : Ty}, S.ok → T.ok → co S T → le (meetT S T) S ∧ le (meetT S T) T ∧ ∀ U, U.ok → le U S → le U T → le U (meetT S T) := by
  induction S with
  | leaf a =>
    intro T hS hT h
    by_cases ha : a = 63
    · subst ha
      simp only [meetT, if_true]
      exact ⟨le_q hT hS rfl, le_refl hT, fun U _ _ h => h⟩
    · simp only [meetT, if_neg ha]
      refine ⟨le_refl hS, ?_, fun U _ h _ => h⟩
      rw [co_any hS hT] at h
      rcases h with h | h | ⟨h, _⟩
      · exact absurd h ha
      · exact le_q hS hT h
      · have hl := kids_len hS hT h
        cases T with
        | leaf b => simp [Ty.head] at h; rw [h]; rw [h] at hS; exact le_refl hS
        | un b t => simp [Ty.kids] at hl
        | bin b t u => simp [Ty.kids] at hl
  | un a s ih =>
    intro T hS hT h
    cases T with
    | leaf b =>
      simp only [meetT]
      have hb : b = 63 := by
        rw [co_any hS hT] at h
        rcases h with h | h | ⟨h, _⟩
        · exact absurd h (no63u hS)
        · exact h
        · have := kids_len hS hT h; simp [Ty.kids] at this
      exact ⟨le_refl hS, le_q hS hT hb, fun U _ h _ => h⟩
    | un b t =>
      obtain ⟨rfl, g⟩ := (co_un hS hT).1 h
      obtain ⟨g1, g2, g3⟩ := ih hS.2 hT.2 g
      have hM : (Ty.un a (meetT s t)).ok := ⟨hS.1, meet_ok hS.2 hT.2⟩
      simp only [meetT]
      refine ⟨(le_un hM hS).2 (.inr ⟨s, rfl, g1⟩), (le_un hM hT).2 (.inr ⟨t, rfl, g2⟩), fun U hU u1 u2 => ?_⟩
      cases U with
      | leaf c =>
        rcases (le_leaf hU hS).1 u1 with h | h
        · exact absurd h (no63u hS)
        · cases h
      | un c u =>
        rcases (le_un hU hS).1 u1 with h | ⟨x, e, x1⟩
        · exact absurd h (no63u hS)
        · cases e
          rcases (le_un hU hT).1 u2 with h | ⟨y, e, y1⟩
          · exact absurd h (no63u hT)
          · cases e
            exact (le_un hU hM).2 (.inr ⟨_, rfl, g3 u hU.2 x1 y1⟩)
      | bin c u u' =>
        rcases (le_bin hU hS).1 u1 with h | ⟨x, x', e, _⟩
        · exact absurd h (no63u hS)
        · cases e
    | bin b t u =>
      rw [co_any hS hT] at h
      rcases h with h | h | ⟨h, _⟩
      · exact absurd h (no63u hS)
      · exact absurd h (no63b hT)
      · have := kids_len hS hT h; simp [Ty.kids] at this
  | bin a s s' ih ih' =>
    intro T hS hT h
    cases T with
    | leaf b =>
      simp only [meetT]
      have hb : b = 63 := by
        rw [co_any hS hT] at h
        rcases h with h | h | ⟨h, _⟩
        · exact absurd h (no63b hS)
        · exact h
        · have := kids_len hS hT h; simp [Ty.kids] at this
      exact ⟨le_refl hS, le_q hS hT hb, fun U _ h _ => h⟩
    | un b t =>
      rw [co_any hS hT] at h
      rcases h with h | h | ⟨h, _⟩
      · exact absurd h (no63b hS)
      · exact absurd h (no63u hT)
      · have := kids_len hS hT h; simp [Ty.kids] at this
    | bin b t t' =>
      obtain ⟨rfl, g, g'⟩ := (co_bin hS hT).1 h
      obtain ⟨g1, g2, g3⟩ := ih hS.2.1 hT.2.1 g
      obtain ⟨k1, k2, k3⟩ := ih' hS.2.2 hT.2.2 g'
      have hM : (Ty.bin a (meetT s t) (meetT s' t')).ok := ⟨hS.1, meet_ok hS.2.1 hT.2.1, meet_ok hS.2.2 hT.2.2⟩
      simp only [meetT]
      refine ⟨(le_bin hM hS).2 (.inr ⟨s, s', rfl, g1, k1⟩), (le_bin hM hT).2 (.inr ⟨t, t', rfl, g2, k2⟩), fun U hU u1 u2 => ?_⟩
      cases U with
      | leaf c =>
        rcases (le_leaf hU hS).1 u1 with h | h
        · exact absurd h (no63b hS)
        · cases h
      | un c u =>
        rcases (le_un hU hS).1 u1 with h | ⟨x, e, _⟩
        · exact absurd h (no63b hS)
        · cases e
      | bin c u u' =>
        rcases (le_bin hU hS).1 u1 with h | ⟨x, x', e, x1, x2⟩
        · exact absurd h (no63b hS)
        · cases e
          rcases (le_bin hU hT).1 u2 with h | ⟨y, y', e, y1, y2⟩
          · exact absurd h (no63b hT)
          · cases e
            exact (le_bin hU hM).2 (.inr ⟨_, _, rfl, g3 u hU.2.1 x1 y1, k3 u' hU.2.2 x2 y2⟩)

theorem meet_comm {S T : Ty} (hS : S.ok) (hT : T.ok) (h : co S T) : meetT S T = meetT T S := by
  obtain ⟨a1, a2, a3⟩ := meet_le hS hT h
  obtain ⟨b1, b2, b3⟩ := meet_le hT hS (co_symm hS hT h)
  exact le_anti (meet_ok hS hT) (meet_ok hT hS) (b3 _ (meet_ok hS hT) a2 a1) (a3 _ (meet_ok hT hS) b2 b1)

/-- Of joins likewise. -/
theorem join_le {S : Ty} : ∀ {T : Ty}, S.ok → T.ok → le S (joinT S T) ∧ le T (joinT S T) ∧ ∀ U, U.ok → le S U → le T U → le (joinT S T) U := by
  have q : (Ty.leaf 63).ok := by show arB 63 = 0; decide
  induction S with
  | leaf a =>
    intro T hS hT
    by_cases hh : a = T.head
    · have : T = .leaf a := by
        have hl := kids_len hS hT hh
        cases T with
        | leaf b => simp [Ty.head] at hh; rw [hh]
        | un b t => simp [Ty.kids] at hl
        | bin b t u => simp [Ty.kids] at hl
      subst this
      have e : joinT (.leaf a) (.leaf a) = .leaf a := if_pos rfl
      rw [e]
      exact ⟨le_refl hS, le_refl hS, fun U _ h _ => h⟩
    · rw [join_no (S := .leaf a) hh]
      refine ⟨le_q hS q rfl, le_q hT q rfl, fun U hU h1 h2 => ?_⟩
      rcases (le_leaf hS hU).1 h1 with h | rfl
      · exact le_q q hU h
      · by_cases ha : a = 63
        · subst ha; exact le_refl hU
        · exfalso
          cases T with
          | leaf b =>
            rcases (le_leaf hT hU).1 h2 with h | h
            · exact ha h
            · cases h; exact hh rfl
          | un b t =>
            rcases (le_un hT hU).1 h2 with h | ⟨x, e, _⟩
            · exact ha h
            · cases e
          | bin b t u =>
            rcases (le_bin hT hU).1 h2 with h | ⟨x, y, e, _⟩
            · exact ha h
            · cases e
  | un a s ih =>
    intro T hS hT
    by_cases hh : a = T.head
    · have hl := kids_len (S := .un a s) hS hT hh
      cases T with
      | leaf b => simp [Ty.kids] at hl
      | bin b t u => simp [Ty.kids] at hl
      | un b t =>
        simp only [Ty.head] at hh
        subst hh
        obtain ⟨g1, g2, g3⟩ := ih hS.2 hT.2
        have hM : (Ty.un a (joinT s t)).ok := ⟨hS.1, join_ok hS.2 hT.2⟩
        have e : joinT (.un a s) (.un a t) = .un a (joinT s t) := if_pos rfl
        rw [e]
        refine ⟨(le_un hS hM).2 (.inr ⟨_, rfl, g1⟩), (le_un hT hM).2 (.inr ⟨_, rfl, g2⟩), fun U hU h1 h2 => ?_⟩
        rcases (le_un hS hU).1 h1 with h | ⟨x, rfl, x1⟩
        · exact le_q hM hU h
        · rcases (le_un hT hU).1 h2 with h | ⟨y, e, y1⟩
          · exact le_q hM hU h
          · cases e
            exact (le_un hM hU).2 (.inr ⟨x, rfl, g3 x hU.2 x1 y1⟩)
    · rw [join_no (S := .un a s) hh]
      refine ⟨le_q hS q rfl, le_q hT q rfl, fun U hU h1 h2 => ?_⟩
      rcases (le_un hS hU).1 h1 with h | ⟨x, rfl, _⟩
      · exact le_q q hU h
      · exfalso
        cases T with
        | leaf b =>
          rcases (le_leaf hT hU).1 h2 with h | h
          · exact no63u hU h
          · cases h
        | un b t =>
          rcases (le_un hT hU).1 h2 with h | ⟨y, e, _⟩
          · exact no63u hU h
          · cases e; exact hh rfl
        | bin b t u =>
          rcases (le_bin hT hU).1 h2 with h | ⟨y, z, e, _⟩
          · exact no63u hU h
          · cases e
  | bin a s s' ih ih' =>
    intro T hS hT
    by_cases hh : a = T.head
    · have hl := kids_len (S := .bin a s s') hS hT hh
      cases T with
      | leaf b => simp [Ty.kids] at hl
      | un b t => simp [Ty.kids] at hl
      | bin b t t' =>
        simp only [Ty.head] at hh
        subst hh
        obtain ⟨g1, g2, g3⟩ := ih hS.2.1 hT.2.1
        obtain ⟨k1, k2, k3⟩ := ih' hS.2.2 hT.2.2
        have hM : (Ty.bin a (joinT s t) (joinT s' t')).ok := ⟨hS.1, join_ok hS.2.1 hT.2.1, join_ok hS.2.2 hT.2.2⟩
        have e : joinT (.bin a s s') (.bin a t t') = .bin a (joinT s t) (joinT s' t') := if_pos rfl
        rw [e]
        refine ⟨(le_bin hS hM).2 (.inr ⟨_, _, rfl, g1, k1⟩), (le_bin hT hM).2 (.inr ⟨_, _, rfl, g2, k2⟩), fun U hU h1 h2 => ?_⟩
        rcases (le_bin hS hU).1 h1 with h | ⟨x, x', rfl, x1, x2⟩
        · exact le_q hM hU h
        · rcases (le_bin hT hU).1 h2 with h | ⟨y, y', e, y1, y2⟩
          · exact le_q hM hU h
          · cases e
            exact (le_bin hM hU).2 (.inr ⟨x, x', rfl, g3 x hU.2.1 x1 y1, k3 x' hU.2.2 x2 y2⟩)
    · rw [join_no (S := .bin a s s') hh]
      refine ⟨le_q hS q rfl, le_q hT q rfl, fun U hU h1 h2 => ?_⟩
      rcases (le_bin hS hU).1 h1 with h | ⟨x, x', rfl, _⟩
      · exact le_q q hU h
      · exfalso
        cases T with
        | leaf b =>
          rcases (le_leaf hT hU).1 h2 with h | h
          · exact no63b hU h
          · cases h
        | un b t =>
          rcases (le_un hT hU).1 h2 with h | ⟨y, e, _⟩
          · exact no63b hU h
          · cases e
        | bin b t u =>
          rcases (le_bin hT hU).1 h2 with h | ⟨y, z, e, _⟩
          · exact no63b hU h
          · cases e; exact hh rfl

theorem join_comm {S T : Ty} (hS : S.ok) (hT : T.ok) : joinT S T = joinT T S := by
  obtain ⟨a1, a2, a3⟩ := join_le hS hT
  obtain ⟨b1, b2, b3⟩ := join_le hT hS
  exact le_anti (join_ok hS hT) (join_ok hT hS) (a3 _ (join_ok hT hS) b2 b1) (b3 _ (join_ok hS hT) a2 a1)

/-- Static types are consistent just if they are the same. -/
def static (T : Ty) : Bool := !T.code.contains 63
theorem co_static {S : Ty} : ∀ {T : Ty}, S.ok → T.ok → static S = true → static T = true → co S T → S = T := by
  induction S with
  | leaf a =>
    intro T hS hT s1 s2 h
    simp [static, Ty.code] at s1
    rw [co_any hS hT] at h
    rcases h with h | h | ⟨h, _⟩
    · exact absurd h.symm s1
    · rw [head63 hT h] at s2; simp [static, Ty.code] at s2
    · have hl := kids_len hS hT h
      cases T with
      | leaf b => simp [Ty.head] at h; rw [h]
      | un b t => simp [Ty.kids] at hl
      | bin b t u => simp [Ty.kids] at hl
  | un a s ih =>
    intro T hS hT s1 s2 h
    have h0 := h
    rw [co_any hS hT] at h
    rcases h with h | h | ⟨h, _⟩
    · exact absurd h (no63u hS)
    · rw [head63 hT h] at s2; simp [static, Ty.code] at s2
    · have hl := kids_len hS hT h
      cases T with
      | leaf b => simp [Ty.kids] at hl
      | un b t =>
        obtain ⟨rfl, g⟩ := (co_un hS hT).1 h0
        simp [static, Ty.code] at s1 s2
        rw [ih hS.2 hT.2 (by simp [static, s1]) (by simp [static, s2]) g]
      | bin b t u => simp [Ty.kids] at hl
  | bin a s s' ih ih' =>
    intro T hS hT s1 s2 h
    have h0 := h
    rw [co_any hS hT] at h
    rcases h with h | h | ⟨h, _⟩
    · exact absurd h (no63b hS)
    · rw [head63 hT h] at s2; simp [static, Ty.code] at s2
    · have hl := kids_len hS hT h
      cases T with
      | leaf b => simp [Ty.kids] at hl
      | un b t => simp [Ty.kids] at hl
      | bin b t t' =>
        obtain ⟨rfl, g, g'⟩ := (co_bin hS hT).1 h0
        simp [static, Ty.code] at s1 s2
        rw [ih hS.2.1 hT.2.1 (by simp [static, s1]) (by simp [static, s2]) g, ih' hS.2.2 hT.2.2 (by simp [static, s1]) (by simp [static, s2]) g']

end Go.Proofs.Ytjklecncdinabaa.T

/- JuP -/
namespace Go.Proofs.Ytjklecncdinabaa.J
open Go.Proofs.Ytjklecncdinabaa.T
set_option linter.unusedVariables false
set_option linter.unusedSimpArgs false

/-- Ground, as a type. -/
def grd : Ty → Ty
  | .leaf h => .leaf h
  | .un h _ => .un h (.leaf 63)
  | .bin h _ _ => .bin h (.leaf 63) (.leaf 63)
theorem grd_head (S : Ty) : (grd S).head = S.head := by cases S <;> rfl
theorem grd_ok {S : Ty} (h : S.ok) : (grd S).ok := by
  cases S with
  | leaf a => exact h
  | un a t => exact ⟨h.1, (by decide : arB 63 = 0)⟩
  | bin a t u => exact ⟨h.1, (by decide : arB 63 = 0), (by decide : arB 63 = 0)⟩
theorem grd_len (S : Ty) : (grd S).code.length ≤ S.code.length := by
  cases S with
  | leaf a => exact Nat.le_refl _
  | un a t => have := t.code_pos; simp [grd, Ty.code]; omega
  | bin a t u => have := t.code_pos; have := u.code_pos; simp [grd, Ty.code]; omega

/-- The parts of two types of one head, asked. -/
def partsB (f g : Ty → Ty → Bool) : Ty → Ty → Bool
  | .un h a, .un _ c => if h = 108 then f a c else if h = 120 then f a c && g c a else true
  | .bin h a b, .bin _ c d => if h = 62 then g c a && f b d else if h = 44 then f a c && f b d else true
  | _, _ => true
/-- plus and minus; the number: how deep at most. -/
def pmN : Nat → Ty → Ty → Bool × Bool
  | 0, _, _ => (true, true)
  | n + 1, S, T =>
    (if T.head = 63 then true else decide (S.head = T.head) && partsB (fun a b => (pmN n a b).1) (fun a b => (pmN n a b).2) S T,
     if S.head = 63 then true else
       (!decide (S.head = (if T.head = 63 then grd S else T).head)) || partsB (fun a b => (pmN n a b).2) (fun a b => (pmN n a b).1) S (if T.head = 63 then grd S else T))
def plusT (S T : Ty) : Bool := (pmN (S.code.length + T.code.length) S T).1
def minusT (S T : Ty) : Bool := (pmN (S.code.length + T.code.length) S T).2

/-- What leads to what is less precise is never blamed inside; what leads to what is more precise never outside. -/
theorem pm_le : ∀ (n : Nat) (S T : Ty), S.ok → T.ok → le S T → (pmN n S T).1 = true ∧ (pmN n T S).2 = true
  | 0, S, T, hS, hT, h => ⟨rfl, rfl⟩
  | n + 1, S, T, hS, hT, h => by
    simp only [pmN]
    by_cases hq : T.head = 63
    · rw [if_pos hq, if_pos hq]; exact ⟨rfl, rfl⟩
    rw [if_neg hq, if_neg hq]
    have hsq : ¬ S.head = 63 := by
      intro hs
      rw [head63 hS hs] at h
      rcases (le_leaf (a := 63) (by exact (by decide : arB 63 = 0)) hT).1 h with h | h
      · exact hq h
      · rw [h] at hq; exact hq rfl
    rw [if_neg hsq]
    cases S with
    | leaf a =>
      rcases (le_leaf hS hT).1 h with h | rfl
      · exact absurd h hq
      · simp [Ty.head, partsB]
    | un a s =>
      rcases (le_un hS hT).1 h with h | ⟨t, rfl, k1⟩
      · exact absurd h hq
      have ih := pm_le n s t hS.2 hT.2 k1
      simp [Ty.head, partsB, ih.1, ih.2]
    | bin a s s' =>
      rcases (le_bin hS hT).1 h with h | ⟨t, t', rfl, k1, k2⟩
      · exact absurd h hq
      have ih := pm_le n s t hS.2.1 hT.2.1 k1
      have ih' := pm_le n s' t' hS.2.2 hT.2.2 k2
      simp [Ty.head, partsB, ih.1, ih.2, ih'.1, ih'.2]
theorem plus_le {S T : Ty} (hS : S.ok) (hT : T.ok) (h : le S T) : plusT S T = true := (pm_le _ S T hS hT h).1
theorem minus_le {S T : Ty} (hS : S.ok) (hT : T.ok) (h : le T S) : minusT S T = true := (pm_le _ T S hT hS h).2

/-- A kid of what is asked is shorter. -/
theorem kid_sum {n : Nat} {S T : Ty} {a b : Ty} (hn : S.code.length + T.code.length ≤ n + 1) (ha : a ∈ S.kids) (hb : b ∈ (if T.head = 63 then grd S else T).kids) : a.code.length + b.code.length ≤ n := by
  have h1 := Ty.kid_code ha
  have h2 : b.code.length ≤ T.code.length := by
    split at hb
    · have hT := T.code_pos
      have : b = .leaf 63 := by
        cases S <;> simp [grd, Ty.kids] at hb <;> exact hb
      rw [this]
      exact hT
    · exact Nat.le_of_lt (Ty.kid_code hb)
  omega
end Go.Proofs.Ytjklecncdinabaa.J
