/- Reading words as a type, plain: tokens, and the parser over them; no program in sight. -/
import Derived.Test.YthonnpjlkcjoeaaGreatDoorTy
namespace Go.Proofs.YthonnpjlkcjoeaaGreatDoor.T

/-- A token: its text (none: the end, or a fault), its place, whether it is a fault. -/
structure Tok where
  tx : List UInt8
  pl : Nat
  bad : Bool

def blankB (c : UInt8) : Bool := c == 9 || c == 10 || c == 13 || c == 32
def letterB (c : UInt8) : Bool := (decide (97 ≤ c.toNat) && decide (c.toNat ≤ 122)) || (decide (65 ≤ c.toNat) && decide (c.toNat ≤ 90))
def insideB (c : UInt8) : Bool := letterB c || (decide (48 ≤ c.toNat) && decide (c.toNat ≤ 57)) || c == 95
def punctB (c : UInt8) : Bool := c == 63 || c == 40 || c == 41 || c == 44 || c == 91 || c == 93

/-- What stands next in the rest of a text, whose place is p. -/
def lex : List UInt8 → Nat → Tok
  | [], p => ⟨[], p, false⟩
  | c :: r, p => if blankB c then lex r (p + 1) else if punctB c then ⟨[c], p, false⟩ else if c == 45 && r.head? == some 62 then ⟨[45, 62], p, false⟩
      else if letterB c then ⟨c :: r.takeWhile insideB, p, false⟩ else ⟨[], p, true⟩

theorem lex_bad {l : List UInt8} : ∀ {p : Nat}, (lex l p).bad = true → (lex l p).tx = [] := by
  induction l with
  | nil => intro p h; rfl
  | cons c r ih =>
    intro p h
    unfold lex at h ⊢
    split at h
    · rename_i hb; rw [if_pos hb]; exact ih h
    · rename_i hb
      rw [if_neg hb]
      split at h
      · simp at h
      · rename_i hp
        rw [if_neg hp]
        split at h
        · simp at h
        · rename_i ha
          rw [if_neg ha]
          split at h
          · simp at h
          · rename_i hl; rw [if_neg hl]

/-- Where a token lies in the text. -/
theorem lex_at {l : List UInt8} : ∀ {p : Nat}, p ≤ (lex l p).pl ∧ (lex l p).pl + (lex l p).tx.length ≤ p + l.length ∧ (l.drop ((lex l p).pl - p)).take (lex l p).tx.length = (lex l p).tx := by
  induction l with
  | nil => intro p; simp [lex]
  | cons c r ih =>
    intro p
    unfold lex
    split
    · obtain ⟨h1, h2, h3⟩ := ih (p := p + 1)
      refine ⟨by omega, by simp only [List.length_cons]; omega, ?_⟩
      rw [show (lex r (p + 1)).pl - p = ((lex r (p + 1)).pl - (p + 1)) + 1 by omega, List.drop_succ_cons]
      exact h3
    · split
      · simp
      · split
        · rename_i h
          cases r with
          | nil => simp at h
          | cons d r =>
            simp at h
            obtain ⟨rfl, rfl⟩ := h
            simp
        · split
          · refine ⟨by simp, ?_, ?_⟩
            · have := (List.takeWhile_prefix insideB (l := r)).length_le
              simp only [List.length_cons]; omega
            · simp only [Nat.sub_self, List.drop_zero, List.length_cons, List.take_succ_cons, List.cons.injEq, true_and]
              have := List.takeWhile_prefix insideB (l := r)
              exact (List.prefix_iff_eq_take.1 this).symm
          · simp

/-- All tokens from a place of a text on: the last one, and it alone, has no text. -/
def toksN : Nat → List UInt8 → Nat → List Tok
  | 0, s, p => [lex (s.drop p) p]
  | n + 1, s, p => if (lex (s.drop p) p).tx = [] then [lex (s.drop p) p] else lex (s.drop p) p :: toksN n s ((lex (s.drop p) p).pl + (lex (s.drop p) p).tx.length)
def toks (s : List UInt8) (p : Nat) : List Tok := toksN (s.length - p) s p

theorem lex_lo {s : List UInt8} {p : Nat} (hp : p ≤ s.length) : p ≤ (lex (s.drop p) p).pl ∧ (lex (s.drop p) p).pl + (lex (s.drop p) p).tx.length ≤ s.length := by
  obtain ⟨h1, h2, _⟩ := lex_at (l := s.drop p) (p := p)
  rw [List.length_drop] at h2
  omega

theorem toksN_more {s : List UInt8} : ∀ {n m p : Nat}, p ≤ s.length → s.length - p ≤ n → s.length - p ≤ m → toksN n s p = toksN m s p := by
  intro n
  induction n with
  | zero =>
    intro m p hp hn hm
    have h0 := lex_lo hp
    have ht : (lex (s.drop p) p).tx = [] := List.eq_nil_of_length_eq_zero (by omega)
    cases m with
    | zero => rfl
    | succ m => unfold toksN; rw [if_pos ht]
  | succ n ih =>
    intro m p hp hn hm
    have h0 := lex_lo hp
    cases m with
    | zero =>
      have ht : (lex (s.drop p) p).tx = [] := List.eq_nil_of_length_eq_zero (by omega)
      unfold toksN; rw [if_pos ht]
    | succ m =>
      unfold toksN
      split
      · rfl
      · rename_i ht
        have hl : 0 < (lex (s.drop p) p).tx.length := List.length_pos_iff.2 ht
        rw [ih (m := m) (by omega) (by omega) (by omega)]

theorem toks_end {s : List UInt8} {p : Nat} (h : (lex (s.drop p) p).tx = []) : toks s p = [lex (s.drop p) p] := by
  unfold toks
  cases s.length - p with
  | zero => rfl
  | succ n => unfold toksN; rw [if_pos h]
theorem toks_cons {s : List UInt8} {p : Nat} (hp : p ≤ s.length) (h : (lex (s.drop p) p).tx ≠ []) :
    toks s p = lex (s.drop p) p :: toks s ((lex (s.drop p) p).pl + (lex (s.drop p) p).tx.length) := by
  have h0 := lex_lo hp
  have hl : 0 < (lex (s.drop p) p).tx.length := List.length_pos_iff.2 h
  unfold toks
  obtain ⟨n, hn⟩ : ∃ n, s.length - p = n + 1 := ⟨s.length - p - 1, by omega⟩
  rw [hn]
  conv => lhs; unfold toksN
  rw [if_neg h]
  rw [toksN_more (n := n) (m := s.length - _) (by omega) (by omega) (Nat.le_refl _)]

def hd : List Tok → Tok
  | [] => ⟨[], 0, false⟩
  | t :: _ => t
theorem toks_hd {s : List UInt8} {p : Nat} (hp : p ≤ s.length) : hd (toks s p) = lex (s.drop p) p := by
  by_cases h : (lex (s.drop p) p).tx = []
  · rw [toks_end h]; rfl
  · rw [toks_cons hp h]; rfl

/-- What a reader comes to: a fault and its place, or a type's letters and the tokens behind them. -/
inductive Rd where
  | no (e p : Nat)
  | yes (t : List UInt8) (ts : List Tok)

def failT (e : Nat) (ts : List Tok) : Rd := .no (if (hd ts).bad then 11 else e) (hd ts).pl
def endT (t x : List UInt8) (ts : List Tok) : Rd := if (hd ts).tx = x then .yes t ts.tail else failT 15 ts

def wI : List UInt8 := [105, 110, 116]
def wB : List UInt8 := [98, 111, 111, 108]
def wT : List UInt8 := [116, 101, 120, 116]
def wX : List UInt8 := [98, 111, 120]

def pairT (one : List Tok → Rd) (t : List UInt8) (ts : List Tok) : Rd :=
  if (hd ts).tx = [44] then match one ts.tail with
    | .no e p => .no e p
    | .yes u ts2 => endT (44 :: (t ++ u)) [41] ts2
  else endT t [41] ts

/-- A type that is no function without parentheses. z: no more may be open. -/
def armS (z : Bool) (one arm : List Tok → Rd) (ts : List Tok) : Rd :=
  if (hd ts).tx = wI ∨ (hd ts).tx = wB ∨ (hd ts).tx = wT ∨ (hd ts).tx = [63] then .yes ((hd ts).tx.take 1) ts.tail
  else if (hd ts).tx = [40] then
    if z then failT 16 ts else match one ts.tail with
      | .no e p => .no e p
      | .yes t ts1 => pairT one t ts1
  else if (hd ts).tx = [91] then
    if z then failT 16 ts else match one ts.tail with
      | .no e p => .no e p
      | .yes t ts1 => endT (108 :: t) [93] ts1
  else if (hd ts).tx = wX then
    if z then failT 16 ts else match arm ts.tail with
      | .no e p => .no e p
      | .yes t ts1 => .yes (120 :: t) ts1
  else failT 15 ts

def oneS (z : Bool) (one arm : List Tok → Rd) (ts : List Tok) : Rd :=
  match arm ts with
  | .no e p => .no e p
  | .yes a ts1 => if (hd ts1).tx = [45, 62] then
      if z then failT 16 ts1 else match one ts1.tail with
        | .no e p => .no e p
        | .yes b ts2 => .yes (62 :: (a ++ b)) ts2
    else .yes a ts1

/-- With d more that may be open: one, and arm. -/
def prs : Nat → (List Tok → Rd) × (List Tok → Rd)
  | 0 => (oneS true (fun _ => .no 0 0) (armS true (fun _ => .no 0 0) (fun _ => .no 0 0)), armS true (fun _ => .no 0 0) (fun _ => .no 0 0))
  | d + 1 => (oneS false (prs d).1 (armS false (prs d).1 (prs d).2), armS false (prs d).1 (prs d).2)
def oneP (d : Nat) : List Tok → Rd := (prs d).1
def armP (d : Nat) : List Tok → Rd := (prs d).2
theorem oneP_zero : oneP 0 = oneS true (fun _ => .no 0 0) (armP 0) := rfl
theorem oneP_succ (d : Nat) : oneP (d + 1) = oneS false (oneP d) (armP (d + 1)) := rfl
theorem armP_zero : armP 0 = armS true (fun _ => .no 0 0) (fun _ => .no 0 0) := rfl
theorem armP_succ (d : Nat) : armP (d + 1) = armS false (oneP d) (armP d) := rfl

/-- Read: the type, the fault, its place. -/
def readE : Rd → List UInt8 × Nat × Nat
  | .no e p => ([], e, p)
  | .yes t ts => if (hd ts).tx ≠ [] ∨ (hd ts).bad = true then ([], (if (hd ts).bad then 11 else 15), (hd ts).pl) else if 64 < t.length then ([], 21, 0) else (t, 0, 0)
def readL (s : List UInt8) : List UInt8 × Nat × Nat := readE (oneP 64 (toks s 0))

end Go.Proofs.YthonnpjlkcjoeaaGreatDoor.T
