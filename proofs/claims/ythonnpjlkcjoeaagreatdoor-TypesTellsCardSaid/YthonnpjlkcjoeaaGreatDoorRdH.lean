/- cut, plain: what its loop has in hand. -/
import Derived.Test.YthonnpjlkcjoeaaGreatDoorRdG
namespace Go.Proofs.YthonnpjlkcjoeaaGreatDoor.T
open Go.RowKit Go.Proofs.YthonnpjlkcjoeaaGreatDoor.B
set_option linter.unusedSimpArgs false
set_option linter.unusedVariables false

def ltI (r : Int) : Bool := (decide (97 ≤ r) && decide (r ≤ 122)) || (decide (65 ≤ r) && decide (r ≤ 90))
def insI (r : Int) : Bool := ltI r || (decide (48 ≤ r) && decide (r ≤ 57)) || r == 95
def blankI (r : Int) : Bool := r == 32 || r == 9 || r == 10 || r == 13

/-- A rune that stands at a place, and the byte there. -/
structure RuneAt (s : ByteArray) (p : Nat) (h : p < s.size) (r wd : Nat) : Prop where
  low : (s[p]'h).toNat < 128 → r = (s[p]'h).toNat ∧ wd = 1
  high : 128 ≤ (s[p]'h).toNat → 128 ≤ r ∧ 1 ≤ wd
  max : r ≤ 2147483647
theorem runeAt (s : ByteArray) (p : Nat) (h : p < s.size) : RuneAt s p h (Utf8.decode s p).1 (Utf8.decode s p).2 :=
  ⟨fun ha => by rw [decode_ascii s p h ha]; exact ⟨rfl, rfl⟩, fun ha => decode_high s p h ha, decode_le s p⟩

section
variable {s : ByteArray} {p : Nat} {h : p < s.size} {r wd : Nat} (hr : RuneAt s p h r wd)
include hr
theorem RuneAt.let_ : ltI r = letterB (s[p]'h) := by
  unfold ltI letterB
  rcases Nat.lt_or_ge (s[p]'h).toNat 128 with ha | ha
  · rw [(hr.low ha).1, Bool.eq_iff_iff]; simp; omega
  · have h1 := (hr.high ha).1
    generalize (s[p]'h).toNat = c at *
    rw [Bool.eq_iff_iff]; simp; omega
theorem RuneAt.ins : insI r = insideB (s[p]'h) := by
  unfold insI insideB
  have e95 : (s[p]'h == 95) = decide ((s[p]'h).toNat = 95) := u8_eq (n := 95) (by omega)
  rw [hr.let_, e95]
  rcases Nat.lt_or_ge (s[p]'h).toNat 128 with ha | ha
  · rw [(hr.low ha).1]
    generalize (s[p]'h).toNat = c at *
    generalize letterB (s[p]'h) = b at *
    rw [Bool.eq_iff_iff]; cases b <;> simp <;> omega
  · have h1 := (hr.high ha).1
    generalize (s[p]'h).toNat = c at *
    generalize letterB (s[p]'h) = b at *
    rw [Bool.eq_iff_iff]; cases b <;> simp <;> omega
theorem RuneAt.blank : blankI r = blankB (s[p]'h) := by
  unfold blankI blankB
  have e9 := u8_eq (c := s[p]'h) (n := 9) (by omega)
  have e10 := u8_eq (c := s[p]'h) (n := 10) (by omega)
  have e13 := u8_eq (c := s[p]'h) (n := 13) (by omega)
  have e32 := u8_eq (c := s[p]'h) (n := 32) (by omega)
  have e9' : (s[p]'h == 9) = decide ((s[p]'h).toNat = 9) := e9
  have e10' : (s[p]'h == 10) = decide ((s[p]'h).toNat = 10) := e10
  have e13' : (s[p]'h == 13) = decide ((s[p]'h).toNat = 13) := e13
  have e32' : (s[p]'h == 32) = decide ((s[p]'h).toNat = 32) := e32
  rw [e9', e10', e13', e32']
  rcases Nat.lt_or_ge (s[p]'h).toNat 128 with ha | ha
  · rw [(hr.low ha).1]
    generalize (s[p]'h).toNat = c at *
    rw [Bool.eq_iff_iff]; simp; omega
  · have h1 := (hr.high ha).1
    generalize (s[p]'h).toNat = c at *
    rw [Bool.eq_iff_iff]; simp; omega
theorem RuneAt.one_ {x : Bool} (hx : x = true) (hp : x = true → (s[p]'h).toNat < 128) : wd = 1 ∧ r = (s[p]'h).toNat := by
  obtain ⟨a, b⟩ := hr.low (hp hx)
  exact ⟨b, a⟩
end

theorem letter_low {c : UInt8} (h : letterB c = true) : c.toNat < 128 := by
  unfold letterB at h; simp at h; omega
theorem inside_low {c : UInt8} (h : insideB c = true) : c.toNat < 128 := by
  unfold insideB at h
  have e95 : (c == 95) = decide (c.toNat = 95) := u8_eq (n := 95) (by omega)
  rw [e95] at h
  simp only [Bool.or_eq_true, Bool.and_eq_true, decide_eq_true_iff] at h
  rcases h with (h | h) | h
  · exact letter_low h
  · omega
  · omega
theorem blank_low {c : UInt8} (h : blankB c = true) : c.toNat < 128 := by
  simp only [blankB, Bool.or_eq_true, beq_iff_eq] at h
  rcases h with ((h | h) | h) | h <;> (subst h; decide)
theorem punct_low {c : UInt8} (h : punctB c = true) : c.toNat < 128 := by
  rcases punct_cases h with h | h | h | h | h | h <;> (subst h; decide)
theorem letter_not {c : UInt8} (h : letterB c = true) : blankB c = false ∧ punctB c = false ∧ (c == 45) = false := by
  refine ⟨?_, ?_, ?_⟩
  · cases hb : blankB c
    · rfl
    · simp only [blankB, Bool.or_eq_true, beq_iff_eq] at hb
      rcases hb with ((h1 | h1) | h1) | h1 <;> (subst h1; exact absurd h (by decide))
  · cases hb : punctB c
    · rfl
    · rcases punct_cases hb with h1 | h1 | h1 | h1 | h1 | h1 <;> (subst h1; exact absurd h (by decide))
  · cases hb : c == 45
    · rfl
    · rw [show c = 45 by simpa using hb] at h; exact absurd h (by decide)

theorem tk_word {s : ByteArray} {k p : Nat} (hk : k < p) (hp : p ≤ s.size) (hl : letterB (s[k]'(by omega)) = true) (hg : Goes s (k + 1) p) (hst : p = s.size ∨ ∃ (h : p < s.size) (c : UInt8), s[p] = c ∧ insideB c = false) :
    tk s k = ⟨(s.data.toList.drop k).take (p - k), k, false⟩ :: tk s p := by
  have hk2 : k < s.size := by omega
  obtain ⟨n1, n2, n3⟩ := letter_not hl
  have hnx := nx_byte hk2 rfl n1
  rw [n2, n3, hl, hg.stop hst] at hnx
  simp only [Bool.false_eq_true, if_false, Bool.false_and, if_true] at hnx
  have e : (s.data.toList.drop k).take (p - k) = s[k] :: (s.data.toList.drop (k + 1)).take (p - (k + 1)) := by
    rw [drop_byte s k hk2, show p - k = (p - (k + 1)) + 1 by omega, List.take_succ_cons]
  rw [← e] at hnx
  have hlen : ((s.data.toList.drop k).take (p - k)).length = p - k := by simp; omega
  have := toks_cons (s := s.data.toList) (p := k) (by simpa using Nat.le_of_lt hk2) (by show (nx s k).tx ≠ []; rw [hnx]; intro h0; have := congrArg List.length h0; rw [hlen] at this; simp at this; omega)
  have hnx' : lex (s.data.toList.drop k) k = ⟨(s.data.toList.drop k).take (p - k), k, false⟩ := hnx
  rw [hnx'] at this
  simp only [hlen] at this
  rw [show k + (p - k) = p by omega] at this
  exact this

theorem tk_one {s : ByteArray} {p : Nat} {t : Tok} (hp : p ≤ s.size) (h : nx s p = t) (hn : t.tx ≠ []) : tk s p = t :: tk s (t.pl + t.tx.length) := by
  have := toks_cons (s := s.data.toList) (p := p) (by simpa using hp) (by show (nx s p).tx ≠ []; rw [h]; exact hn)
  have h' : lex (s.data.toList.drop p) p = t := h
  rw [h'] at this
  exact this
theorem tk_last {s : ByteArray} {p : Nat} {t : Tok} (h : nx s p = t) (hn : t.tx = []) : tk s p = [t] := by
  have := toks_end (s := s.data.toList) (p := p) (by show (nx s p).tx = []; rw [h]; exact hn)
  have h' : lex (s.data.toList.drop p) p = t := h
  rw [h'] at this
  exact this
theorem tk_blank {s : ByteArray} {p : Nat} (hp : p < s.size) (hb : blankB s[p] = true) : tk s p = tk s (p + 1) := by
  have hn := nx_blank hp rfl hb
  by_cases he : (nx s (p + 1)).tx = []
  · rw [tk_last hn he, tk_last rfl he]
  · rw [tk_one (Nat.le_of_lt hp) hn he, tk_one hp rfl he]

/-- A word that began at k. -/
structure InvW (s : ByteArray) (l : List Tok) (p k : Nat) : Prop where
  hk : k < p
  hp : p ≤ s.size
  hl : ∃ h : k < s.size, letterB (s[k]'h) = true
  hg : Goes s (k + 1) p
  ht : tk s 0 = l ++ tk s k
  hn : l.length ≤ k
/-- What is in hand at place p: l so far; the word began at 'word' (-1: none has). -/
def Inv (s : ByteArray) (l : List Tok) (p : Nat) (word : Int) : Prop := (word = -1 ∧ tk s 0 = l ++ tk s p ∧ l.length ≤ p) ∨ ∃ k : Nat, word = k ∧ InvW s l p k

section
variable {s : ByteArray} {l : List Tok} {p : Nat}
theorem InvW.cont {k : Nat} (h : InvW s l p k) (hp : p < s.size) (hi : insideB s[p] = true) : InvW s l (p + 1) k :=
  ⟨by have := h.hk; omega, hp, h.hl, h.hg.next (by have := h.hk; omega) hp rfl hi, h.ht, h.hn⟩
theorem InvW.flush {k : Nat} (h : InvW s l p k) (hst : p = s.size ∨ ∃ (h : p < s.size) (c : UInt8), s[p] = c ∧ insideB c = false) : tk s 0 = (l ++ [⟨(s.data.toList.drop k).take (p - k), k, false⟩]) ++ tk s p := by
  obtain ⟨_, hl⟩ := h.hl
  rw [h.ht, tk_word h.hk h.hp hl h.hg hst]
  simp
theorem InvW.start (h : tk s 0 = l ++ tk s p) (hn : l.length ≤ p) (hp : p < s.size) (hl : letterB s[p] = true) : InvW s l (p + 1) p :=
  ⟨by omega, hp, ⟨hp, hl⟩, Goes.start s (p + 1), h, hn⟩
theorem inv_blank (h : tk s 0 = l ++ tk s p) (hp : p < s.size) (hb : blankB s[p] = true) : tk s 0 = l ++ tk s (p + 1) := by rw [h, tk_blank hp hb]
theorem inv_punct (h : tk s 0 = l ++ tk s p) (hp : p < s.size) (hb : punctB s[p] = true) : tk s 0 = (l ++ [⟨[s[p]], p, false⟩]) ++ tk s (p + 1) := by
  have hbl : blankB s[p] = false := by
    cases hx : blankB s[p]
    · rfl
    · simp only [blankB, Bool.or_eq_true, beq_iff_eq] at hx
      rcases hx with ((h1 | h1) | h1) | h1 <;> (rw [h1] at hb; exact absurd hb (by decide))
  have hn := nx_byte hp rfl hbl
  rw [if_pos hb] at hn
  have := tk_one (Nat.le_of_lt hp) hn (by simp)
  rw [h, this]; simp
theorem inv_arrow (h : tk s 0 = l ++ tk s p) (hp : p < s.size) (h1 : s[p] = 45) (h2 : ∃ h : p + 1 < s.size, s[p + 1] = 62) : tk s 0 = (l ++ [⟨[45, 62], p, false⟩]) ++ tk s (p + 2) := by
  obtain ⟨h3, h4⟩ := h2
  have hn := nx_byte hp h1 (by decide)
  rw [if_neg (by decide), drop_byte s (p + 1) h3, h4, if_pos (by simp)] at hn
  have := tk_one (Nat.le_of_lt hp) hn (by simp)
  rw [h, this]; simp
theorem inv_fault (h : tk s 0 = l ++ tk s p) (hp : p < s.size) (h1 : blankB s[p] = false) (h2 : punctB s[p] = false) (h3 : letterB s[p] = false) (h4 : ¬ (s[p] = 45 ∧ ∃ h : p + 1 < s.size, s[p + 1] = 62)) : tk s 0 = l ++ [⟨[], p, true⟩] := by
  have hn := nx_byte hp rfl h1
  have ha : (s[p] == 45 && (s.data.toList.drop (p + 1)).head? == some 62) = false := by
    cases hb : (s[p] == 45 && (s.data.toList.drop (p + 1)).head? == some 62)
    · rfl
    · exfalso
      apply h4
      simp only [Bool.and_eq_true, beq_iff_eq] at hb
      refine ⟨hb.1, ?_⟩
      rcases Nat.lt_or_ge (p + 1) s.size with h5 | h5
      · refine ⟨h5, ?_⟩
        have := hb.2
        rw [drop_byte s (p + 1) h5] at this
        simpa using this
      · have := hb.2
        rw [drop_end s (p + 1) h5] at this
        cases this
  rw [h2, ha, h3] at hn
  have := tk_last hn rfl
  rw [h, this]
  rfl
theorem inv_end (h : tk s 0 = l ++ tk s s.size) : tk s 0 = l ++ [⟨[], s.size, false⟩] := by
  have := tk_last (nx_end (Nat.le_refl s.size)) rfl
  rw [h, this]
end

end Go.Proofs.YthonnpjlkcjoeaaGreatDoor.T
