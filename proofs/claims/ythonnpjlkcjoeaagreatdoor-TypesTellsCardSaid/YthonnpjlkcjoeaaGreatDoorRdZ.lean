/- What both readers are told by: bytes, tokens, a pointer. -/
import Derived.Test.YthonnpjlkcjoeaaGreatDoorTypB
import Derived.Test.YthonnpjlkcjoeaaGreatDoorRdP
import Derived.Test.YthonnpjlkcjoeaaGreatDoorBlk
namespace Go.Proofs.YthonnpjlkcjoeaaGreatDoor.T
open Go.RowKit Go.Proofs.YthonnpjlkcjoeaaGreatDoor.B
set_option linter.unusedSimpArgs false
set_option linter.unusedVariables false

abbrev ptr (g : Nat) : Value := .pointer (some ⟨g, 0, none⟩)
theorem u8_eq {c : UInt8} {n : Nat} (hn : n < 256) : (c == UInt8.ofNat n) = decide (c.toNat = n) := by
  rw [Bool.eq_iff_iff, beq_iff_eq, decide_eq_true_iff]
  constructor
  · rintro rfl; simp; omega
  · intro h; apply UInt8.toNat_inj.1; rw [h]; simp; omega
/-- The token that is next at p. -/
def nx (s : ByteArray) (p : Nat) : Tok := lex (s.data.toList.drop p) p
theorem nx_end {s : ByteArray} {p : Nat} (h : s.size ≤ p) : nx s p = ⟨[], p, false⟩ := by unfold nx; rw [drop_end s p h]; rfl
theorem nx_blank {s : ByteArray} {p : Nat} {c : UInt8} (h : p < s.size) (hc : s[p] = c) (hb : blankB c = true) : nx s p = nx s (p + 1) := by
  unfold nx; rw [drop_byte s p h, hc, lex, if_pos hb]
theorem nx_byte {s : ByteArray} {p : Nat} {c : UInt8} (h : p < s.size) (hc : s[p] = c) (hb : blankB c = false) :
    nx s p = if punctB c then ⟨[c], p, false⟩ else if c == 45 && (s.data.toList.drop (p + 1)).head? == some 62 then ⟨[45, 62], p, false⟩
      else if letterB c then ⟨c :: (s.data.toList.drop (p + 1)).takeWhile insideB, p, false⟩ else ⟨[], p, true⟩ := by
  unfold nx; rw [drop_byte s p h, hc]; rw [lex, if_neg (by rw [hb]; simp)]

theorem u8_int (c : UInt8) (n : Nat) (hn : n < 256) : ((c.toNat : Int) == (n : Int)) = (c == UInt8.ofNat n) := by
  rw [u8_eq hn, Bool.eq_iff_iff]; simp only [beq_iff_eq, decide_eq_true_iff]; omega

theorem ne_int {c : UInt8} (n : Nat) (hn : n < 256) (h : (c == UInt8.ofNat n) = false) : ((c.toNat : Int) == (n : Int)) = false := by rw [u8_int c n hn]; exact h
structure NoBlank (c : UInt8) : Prop where
  h9 : ((c.toNat : Int) == 9) = false
  h10 : ((c.toNat : Int) == 10) = false
  h13 : ((c.toNat : Int) == 13) = false
  h32 : ((c.toNat : Int) == 32) = false
theorem noBlank {c : UInt8} (h : blankB c = false) : NoBlank c := by
  simp only [blankB, Bool.or_eq_false_iff] at h
  exact ⟨ne_int 9 (by omega) h.1.1.1, ne_int 10 (by omega) h.1.1.2, ne_int 13 (by omega) h.1.2, ne_int 32 (by omega) h.2⟩
structure NoPunct (c : UInt8) : Prop where
  h63 : ((c.toNat : Int) == 63) = false
  h40 : ((c.toNat : Int) == 40) = false
  h41 : ((c.toNat : Int) == 41) = false
  h44 : ((c.toNat : Int) == 44) = false
  h91 : ((c.toNat : Int) == 91) = false
  h93 : ((c.toNat : Int) == 93) = false
theorem noPunct {c : UInt8} (h : punctB c = false) : NoPunct c := by
  simp only [punctB, Bool.or_eq_false_iff] at h
  exact ⟨ne_int 63 (by omega) h.1.1.1.1.1, ne_int 40 (by omega) h.1.1.1.1.2, ne_int 41 (by omega) h.1.1.1.2, ne_int 44 (by omega) h.1.1.2, ne_int 91 (by omega) h.1.2, ne_int 93 (by omega) h.2⟩
theorem punct_cases {c : UInt8} (h : punctB c = true) : c = 63 ∨ c = 40 ∨ c = 41 ∨ c = 44 ∨ c = 91 ∨ c = 93 := by
  simp only [punctB, Bool.or_eq_true, beq_iff_eq] at h
  rcases h with ((((h | h) | h) | h) | h) | h <;> simp [h]

/-- So far the word goes on. -/
def Goes (s : ByteArray) (k m : Nat) : Prop := (s.data.toList.drop k).takeWhile insideB = (s.data.toList.drop k).take (m - k) ++ (s.data.toList.drop m).takeWhile insideB
theorem Goes.start (s : ByteArray) (k : Nat) : Goes s k k := by unfold Goes; simp
theorem Goes.next {s : ByteArray} {k m : Nat} {c : UInt8} (h : Goes s k m) (hk : k ≤ m) (hm : m < s.size) (hc : s[m] = c) (hi : insideB c = true) : Goes s k (m + 1) := by
  unfold Goes at *
  rw [h, drop_byte s m hm, hc, List.takeWhile_cons, if_pos hi, show m + 1 - k = (m - k) + 1 by omega, List.take_succ_eq_append_getElem (by simp; exact by omega)]
  have : (s.data.toList.drop k)[m - k]'(by simp; omega) = c := by
    rw [List.getElem_drop]
    have e : k + (m - k) = m := by omega
    simp only [e]
    exact hc
  rw [this]; simp
theorem Goes.stop {s : ByteArray} {k m : Nat} (h : Goes s k m) (hm : m = s.size ∨ ∃ (h : m < s.size) (c : UInt8), s[m] = c ∧ insideB c = false) : (s.data.toList.drop k).takeWhile insideB = (s.data.toList.drop k).take (m - k) := by
  unfold Goes at h
  rw [h]
  have : (s.data.toList.drop m).takeWhile insideB = [] := by
    rcases hm with hm | ⟨hm, c, hc, hi⟩
    · rw [drop_end s m (by omega)]; rfl
    · rw [drop_byte s m hm, hc, List.takeWhile_cons, if_neg (by rw [hi]; simp)]
  rw [this, List.append_nil]

/-- The tests of a token's text against a text. -/
theorem bs_ne {x y : List UInt8} (h : x ≠ y) : ((bs x).toList == y) = false := by rw [Lib.toList_data, bs_list]; simpa using h
theorem bs_eq {x : List UInt8} : ((bs x).toList == x) = true := by rw [Lib.toList_data, bs_list]; simp
theorem bs_bne {x y : List UInt8} (h : x ≠ y) : ((bs x).toList != y) = true := by rw [Lib.toList_data, bs_list]; simpa using h
theorem bs_beq {x : List UInt8} : ((bs x).toList != x) = false := by rw [Lib.toList_data, bs_list]; simp
theorem bs_list' (x : List UInt8) : (bs x).toList = x := by rw [Lib.toList_data, bs_list]
abbrev tk (s : ByteArray) (p : Nat) : List Tok := toks s.data.toList p
theorem tk_hd {s : ByteArray} {p : Nat} (hp : p ≤ s.size) : hd (tk s p) = nx s p := toks_hd (by simpa using hp)
theorem tk_tail {s : ByteArray} {p : Nat} (hp : p ≤ s.size) (h : (nx s p).tx ≠ []) : (tk s p).tail = tk s ((nx s p).pl + (nx s p).tx.length) := by
  unfold tk; rw [toks_cons (by simpa using hp) h]; rfl
theorem add_bs {P : Program} (a b : ByteArray) (w : World) (h : a.size + b.size ≤ 9223372036854775807) : (Op.stringOp .add a b).run P w = .ok (.string (a ++ b)) w := run_string_add_sum w a b h
theorem bs_app (x y : List UInt8) : bs x ++ bs y = bs (x ++ y) := by
  apply ByteArray.ext
  apply Array.toList_inj.1
  rw [ByteArray.data_append, Array.toList_append, bs_list, bs_list, bs_list]
/-- Read, by the answer. -/
def ReadV (s : ByteArray) : Value := .tuple #[.string (bs (readL s.data.toList).1), .int .i64 (readL s.data.toList).2.1, .int .i64 (readL s.data.toList).2.2]
end Go.Proofs.YthonnpjlkcjoeaaGreatDoor.T
