/- Contracts of the answer's reader: letter, inside, wrong, now. -/
import Derived.Test.YthonnpjlkcjoeaaTypB
import Derived.Test.YthonnpjlkcjoeaaRdP
import Derived.Test.YthonnpjlkcjoeaaBlk
import Derived.Deep.LoopGhost
namespace Go.Proofs.Ythonnpjlkcjoeaa.T
open Go.RowKit Go.Proofs.Ythonnpjlkcjoeaa.B
set_option linter.unusedSimpArgs false
set_option linter.unusedVariables false

theorem letter_any (c : UInt8) (w : World) : Calls Try.prog 85 #[.int .u8 c.toNat] w fun e w' => e = .returned (.bool (letterB c)) ∧ w = w' := by
  have hc : ∃ n : Nat, c.toNat = n ∧ n < 256 := ⟨_, rfl, c.toNat_lt⟩
  unfold letterB
  obtain ⟨n, hn, hlt⟩ := hc
  rw [hn]
  clear hn
  by_cases h1 : 97 ≤ n
  · by_cases h2 : n ≤ 122
    · go_enter Try.func85, Try.ntmps85
      go_wp2
      go_ret
      exact ⟨by simp [h1, h2] <;> omega, rfl⟩
    · go_enter Try.func85, Try.ntmps85
      have h3 : ¬ n ≤ 90 := by omega
      go_wp2
      go_ret
      exact ⟨by simp [h1, h2, h3] <;> omega, rfl⟩
  · by_cases h2 : 65 ≤ n
    · by_cases h3 : n ≤ 90
      · go_enter Try.func85, Try.ntmps85
        go_wp2
        go_ret
        exact ⟨by simp [h1, h2, h3] <;> omega, rfl⟩
      · go_enter Try.func85, Try.ntmps85
        go_wp2
        go_ret
        exact ⟨by simp [h1, h2, h3] <;> omega, rfl⟩
    · go_enter Try.func85, Try.ntmps85
      go_wp2
      go_ret
      exact ⟨by simp [h1, h2] <;> omega, rfl⟩

theorem u8_eq {c : UInt8} {n : Nat} (hn : n < 256) : (c == UInt8.ofNat n) = decide (c.toNat = n) := by
  rw [Bool.eq_iff_iff, beq_iff_eq, decide_eq_true_iff]
  constructor
  · rintro rfl; simp; omega
  · intro h; apply UInt8.toNat_inj.1; rw [h]; simp; omega

theorem inside_any (c : UInt8) (w : World) : Calls Try.prog 86 #[.int .u8 c.toNat] w fun e w' => e = .returned (.bool (insideB c)) ∧ w = w' := by
  have hl := letter_any c w
  have h95 : (c == 95) = decide (c.toNat = 95) := u8_eq (n := 95) (by omega)
  have hc : ∃ n : Nat, c.toNat = n ∧ n < 256 := ⟨_, rfl, c.toNat_lt⟩
  unfold insideB
  rw [h95]
  obtain ⟨n, hn, hlt⟩ := hc
  rw [hn] at hl ⊢
  obtain ⟨b, hb⟩ : ∃ b, letterB c = b := ⟨_, rfl⟩
  rw [hb] at hl ⊢
  clear hn hb h95
  cases b
  · by_cases h1 : 48 ≤ n
    · by_cases h2 : n ≤ 57
      · go_enter Try.func86, Try.ntmps86
        go_wp2_with fail
        refine hl.mono ?_
        rintro e w' ⟨rfl, rfl⟩
        go_wp2_with fail
        go_ret
        exact ⟨by simp [h1, h2] <;> omega, rfl⟩
      · go_enter Try.func86, Try.ntmps86
        go_wp2_with fail
        refine hl.mono ?_
        rintro e w' ⟨rfl, rfl⟩
        go_wp2_with fail
        go_ret
        refine ⟨retV (congrArg Value.bool ?_), rfl⟩
        rw [Bool.eq_iff_iff]; simp [h1, h2]; omega
    · go_enter Try.func86, Try.ntmps86
      go_wp2_with fail
      refine hl.mono ?_
      rintro e w' ⟨rfl, rfl⟩
      go_wp2_with fail
      go_ret
      refine ⟨retV (congrArg Value.bool ?_), rfl⟩
      rw [Bool.eq_iff_iff]; simp [h1]; omega
  · go_enter Try.func86, Try.ntmps86
    go_wp2_with fail
    refine hl.mono ?_
    rintro e w' ⟨rfl, rfl⟩
    go_wp2_with fail
    go_ret
    exact ⟨by simp, rfl⟩

/-- The reader's state. -/
def Rdr (W : World) (g : Nat) (s : ByteArray) (p o e q : Int) : Prop := Blk W g 77 #[.string s, .int .i64 p, .int .i64 o, .int .i64 e, .int .i64 q]
abbrev ptr (g : Nat) : Value := .pointer (some ⟨g, 0, none⟩)

theorem wrong_ok (g : Nat) (s : ByteArray) (p o q e1 q1 : Int) (w : World) (h : Rdr w g s p o 0 q) :
    Calls Try.prog 63 #[ptr g, .int .i64 e1, .int .i64 q1] w fun e w' => e = .returned (.tuple #[]) ∧ Rdr w' g s p o e1 q1 ∧ Below g w w' := by
  have h2 := (h.set_ 3 (.int .i64 e1)).set_ 4 (.int .i64 q1)
  obtain ⟨⟨c0, c1, c2, c3, c4⟩, f0, f1, f2, f3, f4⟩ := Blk.five h
  have hb := below_set (i := 4) (below_set (i := 3) (Below.refl g w) (Nat.le_refl g) (.int .i64 e1)) (Nat.le_refl g) (.int .i64 q1)
  have H2 := Lib.hid h2
  have HB := Lib.hid hb
  clear h h2 hb
  go_enter Try.func63, Try.ntmps63
  go_wp2
  go_end0
  exact ⟨rfl, H2.out, HB.out⟩
theorem wrong_err (g : Nat) (s : ByteArray) (p o q e0 e1 q1 : Int) (w : World) (h : Rdr w g s p o e0 q) (he : (e0 == 0) = false) :
    Calls Try.prog 63 #[ptr g, .int .i64 e1, .int .i64 q1] w fun e w' => e = .returned (.tuple #[]) ∧ w = w' := by
  obtain ⟨⟨c0, c1, c2, c3, c4⟩, f0, f1, f2, f3, f4⟩ := Blk.five h
  clear h
  go_enter Try.func63, Try.ntmps63
  go_wp2
  go_end0
  exact ⟨rfl, rfl⟩
end Go.Proofs.Ythonnpjlkcjoeaa.T
