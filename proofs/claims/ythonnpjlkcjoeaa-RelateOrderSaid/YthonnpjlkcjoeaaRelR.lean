/- RelateTwo returns true, whatever the two texts. -/
import Derived.Test.YthonnpjlkcjoeaaRelQ
namespace Go.Proofs.Ythonnpjlkcjoeaa.T
open Go.RowKit Go.Proofs.Ythonnpjlkcjoeaa.B
set_option linter.unusedSimpArgs false
set_option linter.unusedVariables false

theorem err2_not {s t : ByteArray} (h : isB s = false ∨ isB t = false) : err2 s t ≠ 0 := by
  unfold err2
  unfold isB at h
  split
  · rename_i h0
    rcases h with h | h
    · rw [h0] at h; simp at h
    · simpa using h
  · assumption

/-- Two types, or not. -/
theorem two_ways (s t : ByteArray) : (∃ S T : Ty, S.ok ∧ T.ok ∧ S.code.length ≤ 64 ∧ T.code.length ≤ 64 ∧ s = str S ∧ t = str T) ∨ (isB s = false ∨ isB t = false) := by
  by_cases h1 : isB s = true
  · by_cases h2 : isB t = true
    · obtain ⟨S, a1, a2, a3⟩ := isB_iff.1 h1
      obtain ⟨T, b1, b2, b3⟩ := isB_iff.1 h2
      exact .inl ⟨S, T, a1, b1, a3, b3, a2, b2⟩
    · exact .inr (.inr (by simpa using h2))
  · exact .inr (.inl (by simpa using h1))

/-- What a function of two texts hands back: a text and an error; nothing that was there has turned. -/
def Gives2 (f : Nat) (s t : ByteArray) (m : ByteArray) (e : Int) : Prop := ∀ W, Calls Try.prog f #[.string s, .string t] W fun e' w' => e' = .returned (.tuple #[.string m, .int .i64 e]) ∧ Below W.heap.size W w'
def GivesB (f : Nat) (s t : ByteArray) (b : Bool) : Prop := ∀ W, Calls Try.prog f #[.string s, .string t] W fun e' w' => e' = .returned (.bool b) ∧ Below W.heap.size W w'

section
variable (s t : ByteArray) (hs : s.size ≤ 4611686018427387904) (ht : t.size ≤ 4611686018427387904)
include hs ht
theorem pair_meet : ∃ m e, Gives2 17 s t m e ∧ Gives2 18 s t m e := by
  rcases two_ways s t with ⟨S, T, h1, h2, h3, h4, rfl, rfl⟩ | h
  · exact ⟨_, _, fun W => Meet_yes S T W h1 h2 h3 h4, fun W => MeetR_yes S T W h1 h2 h3 h4⟩
  · exact ⟨_, _, fun W => Meet_no s t W hs ht (err2_not h), fun W => MeetR_no s t W hs ht (err2_not h)⟩
theorem pair_join : ∃ m e, Gives2 19 s t m e ∧ Gives2 20 s t m e := by
  rcases two_ways s t with ⟨S, T, h1, h2, h3, h4, rfl, rfl⟩ | h
  · exact ⟨_, _, fun W => Join_yes S T W h1 h2 h3 h4, fun W => JoinR_yes S T W h1 h2 h3 h4⟩
  · exact ⟨_, _, fun W => Join_no s t W hs ht (err2_not h), fun W => JoinR_no s t W hs ht (err2_not h)⟩
theorem pair_cons : ∃ b, GivesB 21 s t b ∧ GivesB 22 s t b := by
  rcases two_ways s t with ⟨S, T, h1, h2, h3, h4, rfl, rfl⟩ | h
  · exact ⟨_, fun W => Cons_yes S T W h1 h2 h3 h4, fun W => ConsR_yes S T W h1 h2 h3 h4⟩
  · exact ⟨_, fun W => Cons_no s t W hs ht h, fun W => ConsR_no s t W hs ht h⟩
theorem pair_prec : ∃ b, GivesB 23 s t b ∧ GivesB 24 s t b := by
  rcases two_ways s t with ⟨S, T, h1, h2, h3, h4, rfl, rfl⟩ | h
  · exact ⟨_, fun W => Prec_yes S T W h1 h2 h3 h4, fun W => PrecR_yes S T W h1 h2 h3 h4⟩
  · exact ⟨_, fun W => Prec_no s t W hs ht h, fun W => PrecR_no s t W hs ht h⟩
end

set_option maxRecDepth 100000 in
theorem relateTwo_any (s t : ByteArray) (w : World) (hs : s.size ≤ 140737488351232) (ht : t.size ≤ 140737488351232) :
    Calls Try.prog 4 #[.string s, .string t] w fun e w' => e = .returned (.bool true) ∧ Below w.heap.size w w' := by
  obtain ⟨m, e, m1, m2⟩ := pair_meet s t (by omega) (by omega)
  obtain ⟨j, e', j1, j2⟩ := pair_join s t (by omega) (by omega)
  obtain ⟨b, c1, c2⟩ := pair_cons s t (by omega) (by omega)
  obtain ⟨b', p1, p2⟩ := pair_prec s t (by omega) (by omega)
  by_cases hl : 2147483647 < s.size + t.size
  · have hl' : (2147483647 : Int) < (s.size : Int) + (t.size : Int) := by omega
    clear m1 m2 j1 j2 c1 c2 p1 p2 hl
    go_enter Try.func4, Try.ntmps4
    go_wp2
    go_ret
    exact ⟨rfl, b0⟩
  · have hl' : (s.size : Int) + (t.size : Int) ≤ 2147483647 := by omega
    clear hl
    unfold Gives2 at m1 m2 j1 j2
    unfold GivesB at c1 c2 p1 p2
    go_enter Try.func4, Try.ntmps4
    go_wp2_with (go_at_call 16; go_in)
    refine (m1 _).mono ?_
    rintro e1 w1 ⟨rfl, hb1⟩
    go_wp2_with fail
    refine (m2 _).mono ?_
    rintro e2 w2 ⟨rfl, hb2⟩
    go_wp2_with fail
    refine (j1 _).mono ?_
    rintro e3 w3 ⟨rfl, hb3⟩
    go_wp2_with fail
    refine (j2 _).mono ?_
    rintro e4 w4 ⟨rfl, hb4⟩
    go_wp2_with fail
    refine (c1 _).mono ?_
    rintro e5 w5 ⟨rfl, hb5⟩
    go_wp2_with fail
    refine (c2 _).mono ?_
    rintro e6 w6 ⟨rfl, hb6⟩
    go_wp2_with fail
    refine (p1 _).mono ?_
    rintro e7 w7 ⟨rfl, hb7⟩
    go_wp2_with fail
    refine (p2 _).mono ?_
    rintro e8 w8 ⟨rfl, hb8⟩
    go_wp2_with fail
    refine (lives03 _).mono ?_
    rintro e9 w9 ⟨rfl, hb9⟩
    go_wp2_with fail
    go_ret
    exact ⟨rfl, bl (bl (bl (bl (bl (bl (bl (bl hb1 hb2) hb3) hb4) hb5) hb6) hb7) hb8) hb9⟩

end Go.Proofs.Ythonnpjlkcjoeaa.T
