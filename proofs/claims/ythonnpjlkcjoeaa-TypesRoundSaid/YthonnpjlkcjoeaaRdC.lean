/- Contracts of the answer's reader: now behind a fault, take, opens. -/
import Derived.Test.YthonnpjlkcjoeaaRdB
namespace Go.Proofs.Ythonnpjlkcjoeaa.T
open Go.RowKit Go.Proofs.Ythonnpjlkcjoeaa.B
set_option linter.unusedSimpArgs false
set_option linter.unusedVariables false

def NowE (s : ByteArray) (p : Nat) (w : World) (e : Ending) (w' : World) : Prop := ∃ k : Nat, p ≤ k ∧ k ≤ s.size ∧ e = .returned (.tuple #[.string ⟨#[]⟩, .int .i64 k]) ∧ w = w'

set_option maxRecDepth 100000 in
set_option maxHeartbeats 1000000 in
theorem now_err (g : Nat) (s : ByteArray) (p : Nat) (o e0 q : Int) (w : World) (hp : p ≤ s.size) (hs : s.size ≤ 4611686018427387904) (h : Rdr w g s p o e0 q) (he : (e0 != 0) = true) :
    Calls Try.prog 62 #[ptr g] w fun e w' => NowE s p w e w' := by
  obtain ⟨⟨c0, c1, c2, c3, c4⟩, f0, f1, f2, f3, f4⟩ := Blk.five h
  clear h f0 f1 f2 f3 f4
  go_enter Try.func62, Try.ntmps62
  go_wp2_with fail
  go_loopg [4] (s.size - p) (fun m i wr => ∃ k : Nat, p ≤ k ∧ k ≤ s.size ∧ m = s.size - k ∧ i = .int .i64 k ∧ wr = w)
  case atStart => exact ⟨p, Nat.le_refl _, hp, rfl, rfl, rfl⟩
  case round =>
    obtain ⟨k, hk0, hk, rfl, rfl, rfl⟩ := hrel
    by_cases hlt : k < s.size
    · obtain ⟨c, hc⟩ : ∃ c, s[k] = c := ⟨_, rfl⟩
      by_cases hbl : blankB c = true
      · have h4 : c = 9 ∨ c = 10 ∨ c = 13 ∨ c = 32 := by
          simp only [blankB, Bool.or_eq_true, beq_iff_eq] at hbl
          rcases hbl with ((h | h) | h) | h
          · exact .inl h
          · exact .inr (.inl h)
          · exact .inr (.inr (.inl h))
          · exact .inr (.inr (.inr h))
        clear hbl
        rcases h4 with rfl | rfl | rfl | rfl
        all_goals
          go_wp2_with fail
          go_roundg (s.size - (k + 1))
          case measure => omega
          case rel => exact ⟨k + 1, by omega, by omega, rfl, by go_num, rfl⟩
      · have hbl' : blankB c = false := by simpa using hbl
        obtain ⟨h9, h10, h13, h32⟩ := noBlank hbl'
        clear hbl hbl'
        have hks : ((k : Int) == (s.size : Int)) = false := by simp; omega
        go_wp2_with fail
        go_ret2
        exact ⟨k, hk0, hk, rfl, rfl⟩
    · obtain rfl : k = s.size := by omega
      go_wp2_with fail
      go_ret2
      exact ⟨s.size, hk0, hk, rfl, rfl⟩

theorem nx_lo {s : ByteArray} {p : Nat} (hp : p ≤ s.size) : p ≤ (nx s p).pl ∧ (nx s p).pl + (nx s p).tx.length ≤ s.size := by
  have := lex_lo (s := s.data.toList) (p := p) (by simpa using hp)
  simpa [nx] using this
theorem nx_bad {s : ByteArray} {p : Nat} (h : (nx s p).bad = true) : (nx s p).tx = [] := lex_bad h

/-- The tests of a token's text against a text. -/
theorem bs_ne {x y : List UInt8} (h : x ≠ y) : ((bs x).toList == y) = false := by rw [Lib.toList_data, bs_list]; simpa using h
theorem bs_eq {x : List UInt8} : ((bs x).toList == x) = true := by rw [Lib.toList_data, bs_list]; simp
theorem bs_bne {x y : List UInt8} (h : x ≠ y) : ((bs x).toList != y) = true := by rw [Lib.toList_data, bs_list]; simpa using h
theorem bs_beq {x : List UInt8} : ((bs x).toList != x) = false := by rw [Lib.toList_data, bs_list]; simp
theorem bs_list' (x : List UInt8) : (bs x).toList = x := by rw [Lib.toList_data, bs_list]

def TakeY (g : Nat) (s : ByteArray) (p : Nat) (o : Int) (w : World) (e : Ending) (w' : World) : Prop := e = .returned (.tuple #[]) ∧ Rdr w' g s p o 0 0 ∧ Below g w w'
set_option maxRecDepth 100000 in
theorem take_yes (g : Nat) (s : ByteArray) (p : Nat) (o : Int) (w : World) (hp : p ≤ s.size) (hs : s.size ≤ 4611686018427387904) (h : Rdr w g s p o 0 0) (x : List UInt8) (hx : (nx s p).tx = x) (hne : x ≠ []) :
    Calls Try.prog 84 #[ptr g, .string (bs x)] w fun e w' => TakeY g s ((nx s p).pl + x.length) o w e w' := by
  have hn := now_ok g s p o 0 w hp hs h
  have hlo := nx_lo hp
  have hbad : (nx s p).bad = false := by cases hb : (nx s p).bad; rfl; exact absurd (nx_bad hb) (by rw [hx]; exact hne)
  unfold NowR at hn
  rw [hx, hbad] at hn
  rw [hx] at hlo
  obtain ⟨a, ha⟩ : ∃ a, (nx s p).pl = a := ⟨_, rfl⟩
  rw [ha] at hn hlo ⊢
  obtain ⟨b, hb⟩ : ∃ b, bs x = b := ⟨_, rfl⟩
  have hbs : b.size = x.length := by rw [← hb, bs_size]
  rw [hb] at hn ⊢
  have h2 := h.set_ 1 (.int .i64 ((a + x.length : Nat) : Int))
  have hbl := below_set (i := 1) (Below.refl g w) (Nat.le_refl g) (.int .i64 ((a + x.length : Nat) : Int))
  obtain ⟨⟨c0, c1, c2, c3, c4⟩, f0, f1, f2, f3, f4⟩ := Blk.five h
  have HN := Lib.hid hn
  have H2 := Lib.hid h2
  have HB := Lib.hid hbl
  have HS := Lib.hid hbs
  have hadd : ((a : Int) + (b.size : Int)) = ((a + x.length : Nat) : Int) := by rw [hbs]; omega
  have hz : b.size ≤ 4611686018427387904 := by rw [hbs]; omega
  have hza : a + b.size ≤ 4611686018427387904 := by rw [hbs]; omega
  have HA := Lib.hid hadd
  clear hn h2 hbl hbs h hb ha hbad hx hadd
  go_enter Try.func84, Try.ntmps84
  go_wp2_with fail
  refine HN.out.mono ?_
  rintro e w' ⟨rfl, hw, _⟩
  obtain rfl := hw (by simp)
  go_wp2_with fail
  go_end0
  rw [HA.out]
  exact ⟨rfl, H2.out, HB.out⟩

def TakeN (g : Nat) (s : ByteArray) (p : Nat) (o E P : Int) (w : World) (e : Ending) (w' : World) : Prop := e = .returned (.tuple #[]) ∧ Rdr w' g s p o E P ∧ Below g w w'
set_option maxRecDepth 100000 in
theorem take_no (g : Nat) (s : ByteArray) (p : Nat) (o : Int) (w : World) (hp : p ≤ s.size) (hs : s.size ≤ 4611686018427387904) (h : Rdr w g s p o 0 0) (x : List UInt8) (hx : (nx s p).tx ≠ x) (hne : x ≠ []) :
    Calls Try.prog 84 #[ptr g, .string (bs x)] w fun e w' => TakeN g s p o (if (nx s p).bad then 11 else 15) (nx s p).pl w e w' := by
  have hn := now_ok g s p o 0 w hp hs h
  unfold NowR at hn
  have htx : ((bs (nx s p).tx).toList == (bs x).toList) = false := by rw [bs_list', bs_list']; simpa using hx
  have htx2 : ((bs (nx s p).tx).toList != (bs x).toList) = true := by rw [bs_list', bs_list']; simpa using hx
  generalize bs (nx s p).tx = tx at *
  generalize bs x = y at *
  generalize (nx s p).pl = a at *
  generalize (nx s p).bad = b at *
  have HN := Lib.hid hn
  clear hn hx
  cases b
  · have hw := wrong_ok g s p o 0 15 a w h
    have HW := Lib.hid hw
    clear hw
    go_enter Try.func84, Try.ntmps84
    go_wp2_with fail
    refine HN.out.mono ?_
    rintro e w' ⟨rfl, hw, _⟩
    obtain rfl := hw (by simp)
    go_wp2_with fail
    refine HW.out.mono ?_
    rintro e w2 ⟨rfl, h2, hb2⟩
    go_wp2_with fail
    go_end0
    exact ⟨rfl, h2, hb2⟩
  · clear h
    go_enter Try.func84, Try.ntmps84
    go_wp2_with fail
    refine HN.out.mono ?_
    rintro e w1 ⟨rfl, _, hw⟩
    obtain ⟨h1, hb1⟩ := hw (by simp)
    have hw := wrong_err g s p o a 11 15 a w1 h1 (by decide)
    have HW := Lib.hid hw
    clear hw
    go_wp2_with fail
    refine HW.out.mono ?_
    rintro e w' ⟨rfl, rfl⟩
    go_wp2_with fail
    go_end0
    exact ⟨rfl, h1, hb1⟩

theorem take_err (g : Nat) (s : ByteArray) (p : Nat) (o e0 q : Int) (w : World) (hp : p ≤ s.size) (hs : s.size ≤ 4611686018427387904) (h : Rdr w g s p o e0 q) (he : (e0 != 0) = true) (x : List UInt8) (hne : x ≠ []) :
    Calls Try.prog 84 #[ptr g, .string (bs x)] w fun e w' => e = .returned (.tuple #[]) ∧ w = w' := by
  have hn := now_err g s p o e0 q w hp hs h he
  have he0 : (e0 == 0) = false := by simpa using he
  have hx : ((bs x).toList.isEmpty) = false := by rw [bs_list']; cases x; exact absurd rfl hne; rfl
  have hx2 : ([] != (bs x).toList) = true := by rw [bs_list']; cases x; exact absurd rfl hne; rfl
  have hx3 : ((bs x).toList == []) = false := by rw [bs_list']; cases x; exact absurd rfl hne; rfl
  have hx4 : ([] == (bs x).toList) = false := by rw [bs_list']; cases x; exact absurd rfl hne; rfl
  have HN := Lib.hid hn
  generalize bs x = y at *
  clear hn
  have HH := Lib.hid h
  clear h
  go_enter Try.func84, Try.ntmps84
  go_wp2_with fail
  refine HN.out.mono ?_
  rintro e w' ⟨k, hk0, hk1, rfl, rfl⟩
  have hw := wrong_err g s p o q e0 15 k w HH.out he0
  have HW := Lib.hid hw
  clear hw
  go_wp2_with fail
  refine HW.out.mono ?_
  rintro e w' ⟨rfl, rfl⟩
  go_wp2_with fail
  refine bodyPost_ret (results_none (by simp [Try.results84]) _ _ _) rfl ?_
  exact ⟨rfl, rfl⟩

/-- One more is open. -/
def OpensR (g : Nat) (s : ByteArray) (p : Nat) (o : Int) (w : World) (e : Ending) (w' : World) : Prop :=
  e = .returned (.tuple #[]) ∧ Below g w w' ∧ (o < 64 → Rdr w' g s p (o + 1) 0 0) ∧ (o = 64 → Rdr w' g s p 65 16 (nx s p).pl)
set_option maxRecDepth 100000 in
theorem opens_any (g : Nat) (s : ByteArray) (p : Nat) (o : Int) (w : World) (hp : p ≤ s.size) (hs : s.size ≤ 4611686018427387904) (h : Rdr w g s p o 0 0) (ho0 : 0 ≤ o) (ho : o ≤ 64) (hne : (nx s p).tx ≠ []) :
    Calls Try.prog 83 #[ptr g] w fun e w' => OpensR g s p o w e w' := by
  unfold OpensR
  have hn := now_ok g s p o 0 w hp hs h
  have hbad : (nx s p).bad = false := by cases hb : (nx s p).bad; rfl; exact absurd (nx_bad hb) hne
  unfold NowR at hn
  rw [hbad] at hn
  clear hbad
  generalize bs (nx s p).tx = tx at *
  generalize (nx s p).pl = a at *
  have h2 := h.set_ 2 (.int .i64 (o + 1))
  have hbl := below_set (i := 2) (Below.refl g w) (Nat.le_refl g) (.int .i64 (o + 1))
  have h2' : Rdr (w.setCell ⟨g, 2, none⟩ (.int .i64 (o + 1))) g s p (o + 1) 0 0 := h2
  obtain ⟨⟨c0, c1, c2, c3, c4⟩, f0, f1, f2, f3, f4⟩ := Blk.five h
  have HN := Lib.hid hn
  have H2 := Lib.hid h2'
  have HB := Lib.hid hbl
  clear hn h2 h2' hbl h
  by_cases h64 : o < 64
  · have ht : ¬ 64 < o + 1 := by omega
    go_enter Try.func83, Try.ntmps83
    go_wp2_with fail
    refine HN.out.mono ?_
    rintro e w' ⟨rfl, hw, _⟩
    obtain rfl := hw (by simp)
    go_wp2_with fail
    go_end0
    exact ⟨rfl, HB.out, fun _ => H2.out, fun e => by omega⟩
  · obtain rfl : o = 64 := by omega
    have hw := wrong_ok g s p 65 0 16 a _ H2.out
    have HW := Lib.hid hw
    clear hw h64
    go_enter Try.func83, Try.ntmps83
    go_wp2_with fail
    refine HN.out.mono ?_
    rintro e w' ⟨rfl, hw, _⟩
    obtain rfl := hw (by simp)
    go_wp2_with fail
    refine HW.out.mono ?_
    rintro e w2 ⟨rfl, h2, hb2⟩
    go_wp2_with fail
    go_end0
    exact ⟨rfl, HB.out.trans hb2, fun e => by omega, fun _ => h2⟩
end Go.Proofs.Ythonnpjlkcjoeaa.T
