/- Contracts of the answer's reader: arm, one. -/
import Derived.Test.YthonnpjlkcjoeaaRdC
namespace Go.Proofs.Ythonnpjlkcjoeaa.T
open Go.RowKit Go.Proofs.Ythonnpjlkcjoeaa.B
set_option linter.unusedSimpArgs false
set_option linter.unusedVariables false
set_option linter.unusedSectionVars false

abbrev tk (s : ByteArray) (p : Nat) : List Tok := toks s.data.toList p
theorem tk_hd {s : ByteArray} {p : Nat} (hp : p ≤ s.size) : hd (tk s p) = nx s p := toks_hd (by simpa using hp)
theorem tk_tail {s : ByteArray} {p : Nat} (hp : p ≤ s.size) (h : (nx s p).tx ≠ []) : (tk s p).tail = tk s ((nx s p).pl + (nx s p).tx.length) := by
  unfold tk; rw [toks_cons (by simpa using hp) h]; rfl

/-- What one, or arm, comes to. -/
structure OutY (g : Nat) (s : ByteArray) (p : Nat) (o : Int) (t : List UInt8) (ts : List Tok) (w : World) (e : Ending) (w' : World) : Prop where
  e : e = .returned (.string (bs t))
  st : ∃ p', p ≤ p' ∧ p' ≤ s.size ∧ t.length ≤ p' - p ∧ tk s p' = ts ∧ Rdr w' g s p' o 0 0
  b : Below g w w'
structure OutN (g : Nat) (s : ByteArray) (p : Nat) (E P : Nat) (w : World) (e : Ending) (w' : World) : Prop where
  st : ∃ (t : ByteArray) (p' : Nat) (o' : Int), e = .returned (.string t) ∧ p ≤ p' ∧ p' ≤ s.size ∧ t.size ≤ p' - p + 1 ∧ Rdr w' g s p' o' E P
  ne : ((E : Int) != 0) = true
  b : Below g w w'
def OutR (r : Rd) (g : Nat) (s : ByteArray) (p : Nat) (o : Int) (w : World) (e : Ending) (w' : World) : Prop := match r with
  | .yes t ts => OutY g s p o t ts w e w'
  | .no E P => OutN g s p E P w e w'
def Con (f : Nat) (fn : List Tok → Rd) (g : Nat) (s : ByteArray) (o : Int) : Prop :=
  ∀ p w, p ≤ s.size → Rdr w g s p o 0 0 → Calls Try.prog f #[ptr g] w fun e w' => OutR (fn (tk s p)) g s p o w e w'
theorem Con.at {f : Nat} {fn : List Tok → Rd} {g : Nat} {s : ByteArray} {o : Int} (h : Con f fn g s o) {p : Nat} {w : World} (hp : p ≤ s.size) (hr : Rdr w g s p o 0 0) : Calls Try.prog f #[ptr g] w fun e w' => OutR (fn (tk s p)) g s p o w e w' := h p w hp hr

theorem now_tok (g : Nat) (s : ByteArray) (p : Nat) (o : Int) (w : World) (hp : p ≤ s.size) (hs : s.size ≤ 4611686018427387904) (h : Rdr w g s p o 0 0) (hb : (nx s p).bad = false) :
    Calls Try.prog 62 #[ptr g] w fun e w' => e = .returned (.tuple #[.string (bs (nx s p).tx), .int .i64 (nx s p).pl]) ∧ w = w' :=
  (now_ok g s p o 0 w hp hs h).mono fun e w' ⟨h1, h2, _⟩ => ⟨h1, h2 hb⟩
theorem now_bad (g : Nat) (s : ByteArray) (p : Nat) (o : Int) (w : World) (hp : p ≤ s.size) (hs : s.size ≤ 4611686018427387904) (h : Rdr w g s p o 0 0) (hb : (nx s p).bad = true) :
    Calls Try.prog 62 #[ptr g] w fun e w' => e = .returned (.tuple #[.string ⟨#[]⟩, .int .i64 (nx s p).pl]) ∧ Rdr w' g s p o 11 (nx s p).pl ∧ Below g w w' :=
  (now_ok g s p o 0 w hp hs h).mono fun e w' ⟨h1, _, h3⟩ => ⟨by rw [h1, nx_bad hb]; rfl, (h3 hb).1, (h3 hb).2⟩

section
variable (g : Nat) (s : ByteArray) (hs : s.size ≤ 4611686018427387904)
include hs

theorem arm_err (p : Nat) (o e0 q : Int) (w : World) (hp : p ≤ s.size) (h : Rdr w g s p o e0 q) (he : (e0 != 0) = true) :
    Calls Try.prog 82 #[ptr g] w fun e w' => e = .returned (.string ⟨#[]⟩) ∧ w = w' := by
  have HN := Lib.hid (now_err g s p o e0 q w hp hs h he)
  obtain ⟨⟨c0, c1, c2, c3, c4⟩, f0, f1, f2, f3, f4⟩ := Blk.five h
  clear h c0 c1 c2 c4 f0 f1 f2 f3 f4
  go_enter Try.func82, Try.ntmps82
  go_wp2_with fail
  refine HN.out.mono ?_
  rintro e w' ⟨k, _, _, rfl, rfl⟩
  go_wp2_with fail
  go_ret
  exact ⟨rfl, rfl⟩
theorem one_err (p : Nat) (o e0 q : Int) (w : World) (hp : p ≤ s.size) (h : Rdr w g s p o e0 q) (he : (e0 != 0) = true) :
    Calls Try.prog 61 #[ptr g] w fun e w' => e = .returned (.string ⟨#[]⟩) ∧ w = w' := by
  have HN := Lib.hid (now_err g s p o e0 q w hp hs h he)
  have HA := Lib.hid (arm_err g s hs p o e0 q w hp h he)
  clear h
  go_enter Try.func61, Try.ntmps61
  go_wp2_with fail
  refine HA.out.mono ?_
  rintro e w' ⟨rfl, rfl⟩
  go_wp2_with fail
  refine HN.out.mono ?_
  rintro e w' ⟨k, _, _, rfl, rfl⟩
  go_wp2_with fail
  go_ret
  exact ⟨rfl, rfl⟩

/-- A token that begins no type. -/
theorem arm_none (z : Bool) (one arm : List Tok → Rd) (p : Nat) (o : Int) (w : World) (hp : p ≤ s.size) (h : Rdr w g s p o 0 0)
    (hn : (nx s p).tx ≠ wI ∧ (nx s p).tx ≠ wB ∧ (nx s p).tx ≠ wT ∧ (nx s p).tx ≠ [63] ∧ (nx s p).tx ≠ [40] ∧ (nx s p).tx ≠ [91] ∧ (nx s p).tx ≠ wX) :
    Calls Try.prog 82 #[ptr g] w fun e w' => OutR (armS z one arm (tk s p)) g s p o w e w' := by
  obtain ⟨n1, n2, n3, n4, n5, n6, n7⟩ := hn
  have e : armS z one arm (tk s p) = .no (if (nx s p).bad then 11 else 15) (nx s p).pl := by
    unfold armS
    rw [tk_hd hp, if_neg (by intro h; rcases h with h | h | h | h; exact n1 h; exact n2 h; exact n3 h; exact n4 h), if_neg n5, if_neg n6, if_neg n7]
    unfold failT
    rw [tk_hd hp]
  rw [e]
  clear e
  cases hb : (nx s p).bad
  · have HN := Lib.hid (now_tok g s p o w hp hs h hb)
    have HW := Lib.hid (wrong_ok g s p o 0 15 (nx s p).pl w h)
    have t1 := bs_ne n1
    have t2 := bs_ne n2
    have t3 := bs_ne n3
    have t4 := bs_ne n4
    have t5 := bs_ne n5
    have t6 := bs_ne n6
    have t7 := bs_ne n7
    unfold wI wB wT wX at *
    generalize bs (nx s p).tx = y at *
    generalize (nx s p).pl = a at *
    obtain ⟨⟨c0, c1, c2, c3, c4⟩, f0, f1, f2, f3, f4⟩ := Blk.five h
    clear h n1 n2 n3 n4 n5 n6 n7 hb c0 c1 c2 c4 f0 f1 f2 f3 f4
    go_enter Try.func82, Try.ntmps82
    go_wp2_with fail
    refine HN.out.mono ?_
    rintro e w' ⟨rfl, rfl⟩
    go_wp2_with fail
    refine HW.out.mono ?_
    rintro e w2 ⟨rfl, h2, hb2⟩
    go_wp2_with fail
    go_ret
    exact ⟨⟨_, p, o, rfl, Nat.le_refl _, hp, by show 0 ≤ _; omega, h2⟩, by decide, hb2⟩
  · have HN := Lib.hid (now_bad g s p o w hp hs h hb)
    clear h n1 n2 n3 n4 n5 n6 n7 hb
    generalize (nx s p).pl = a at *
    go_enter Try.func82, Try.ntmps82
    go_wp2_with fail
    refine HN.out.mono ?_
    rintro e w2 ⟨rfl, h2, hb2⟩
    obtain ⟨⟨c0, c1, c2, c3, c4⟩, f0, f1, f2, f3, f4⟩ := Blk.five h2
    go_wp2_with fail
    go_ret
    exact ⟨⟨_, p, o, rfl, Nat.le_refl _, hp, by show 0 ≤ _; omega, h2⟩, by decide, hb2⟩

theorem bs_take1 (c : UInt8) (l : List UInt8) : (bs (c :: l)).extract 0 1 = bs [c] := by rw [extract_bs, bs_list]; rfl

/-- A token that is a type. -/
theorem arm_base (z : Bool) (one arm : List Tok → Rd) (p : Nat) (o : Int) (w : World) (hp : p ≤ s.size) (h : Rdr w g s p o 0 0)
    (hn : (nx s p).tx = wI ∨ (nx s p).tx = wB ∨ (nx s p).tx = wT ∨ (nx s p).tx = [63]) :
    Calls Try.prog 82 #[ptr g] w fun e w' => OutR (armS z one arm (tk s p)) g s p o w e w' := by
  have e : armS z one arm (tk s p) = .yes ((nx s p).tx.take 1) (tk s ((nx s p).pl + (nx s p).tx.length)) := by
    unfold armS
    rw [tk_hd hp, if_pos hn, tk_tail hp (by rcases hn with h | h | h | h <;> rw [h] <;> decide)]
  rw [e]
  clear e
  have hlo := nx_lo hp
  have hbad : (nx s p).bad = false := by
    cases hb : (nx s p).bad
    · rfl
    · have := nx_bad hb; rcases hn with h | h | h | h <;> (rw [h] at this; cases this)
  have hN := now_tok g s p o w hp hs h hbad
  have hT := fun x hx hne => take_yes g s p o w hp hs h x hx hne
  obtain ⟨⟨c0, c1, c2, c3, c4⟩, f0, f1, f2, f3, f4⟩ := Blk.five h
  obtain ⟨x, hx⟩ : ∃ x, (nx s p).tx = x := ⟨_, rfl⟩
  have hne : x ≠ [] := by rw [← hx]; rcases hn with h | h | h | h <;> rw [h] <;> decide
  have hT := hT x hx hne
  rw [hx] at hn hN hlo ⊢
  generalize (nx s p).pl = a at *
  clear h hbad hne f0 f1 f2 f3 f4 c0 c1 c2 c4 hx
  rcases hn with rfl | rfl | rfl | rfl
  · have t0 : ((bs wI).toList == [105, 110, 116]) = true := by rw [bs_list']; rfl
    have HE : Hid ((bs wI).extract 0 1 = bs ((wI : List UInt8).take 1)) := Lib.hid (by rw [extract_bs, bs_list]; rfl)
    have hl2 : 1 ≤ (bs wI).size := by decide
    have HN := Lib.hid hN
    have HT := Lib.hid hT
    clear hN hT
    obtain ⟨y, hy⟩ : ∃ y, bs wI = y := ⟨_, rfl⟩
    rw [hy] at *
    go_enter Try.func82, Try.ntmps82
    clear hy
    go_wp2_with fail
    refine HN.out.mono ?_
    rintro e w' ⟨rfl, rfl⟩
    go_wp2_with fail
    refine HT.out.mono ?_
    rintro e w2 ⟨rfl, h2, hb2⟩
    go_wp2_with fail
    go_ret
    exact ⟨by rw [← HE.out]; rfl, ⟨_, by omega, hlo.2, by simp [wI, wB, wT] <;> omega, rfl, h2⟩, hb2⟩
  · have t0 : ((bs wB).toList == [105, 110, 116]) = false := by rw [bs_list']; rfl
    have t1 : ((bs wB).toList == [98, 111, 111, 108]) = true := by rw [bs_list']; rfl
    have HE : Hid ((bs wB).extract 0 1 = bs ((wB : List UInt8).take 1)) := Lib.hid (by rw [extract_bs, bs_list]; rfl)
    have hl2 : 1 ≤ (bs wB).size := by decide
    have HN := Lib.hid hN
    have HT := Lib.hid hT
    clear hN hT
    obtain ⟨y, hy⟩ : ∃ y, bs wB = y := ⟨_, rfl⟩
    rw [hy] at *
    go_enter Try.func82, Try.ntmps82
    clear hy
    go_wp2_with fail
    refine HN.out.mono ?_
    rintro e w' ⟨rfl, rfl⟩
    go_wp2_with fail
    refine HT.out.mono ?_
    rintro e w2 ⟨rfl, h2, hb2⟩
    go_wp2_with fail
    go_ret
    exact ⟨by rw [← HE.out]; rfl, ⟨_, by omega, hlo.2, by simp [wI, wB, wT] <;> omega, rfl, h2⟩, hb2⟩
  · have t0 : ((bs wT).toList == [105, 110, 116]) = false := by rw [bs_list']; rfl
    have t1 : ((bs wT).toList == [98, 111, 111, 108]) = false := by rw [bs_list']; rfl
    have t2 : ((bs wT).toList == [116, 101, 120, 116]) = true := by rw [bs_list']; rfl
    have HE : Hid ((bs wT).extract 0 1 = bs ((wT : List UInt8).take 1)) := Lib.hid (by rw [extract_bs, bs_list]; rfl)
    have hl2 : 1 ≤ (bs wT).size := by decide
    have HN := Lib.hid hN
    have HT := Lib.hid hT
    clear hN hT
    obtain ⟨y, hy⟩ : ∃ y, bs wT = y := ⟨_, rfl⟩
    rw [hy] at *
    go_enter Try.func82, Try.ntmps82
    clear hy
    go_wp2_with fail
    refine HN.out.mono ?_
    rintro e w' ⟨rfl, rfl⟩
    go_wp2_with fail
    refine HT.out.mono ?_
    rintro e w2 ⟨rfl, h2, hb2⟩
    go_wp2_with fail
    go_ret
    exact ⟨by rw [← HE.out]; rfl, ⟨_, by omega, hlo.2, by simp [wI, wB, wT] <;> omega, rfl, h2⟩, hb2⟩
  · have t0 : ((bs [63]).toList == [105, 110, 116]) = false := by rw [bs_list']; rfl
    have t1 : ((bs [63]).toList == [98, 111, 111, 108]) = false := by rw [bs_list']; rfl
    have t2 : ((bs [63]).toList == [116, 101, 120, 116]) = false := by rw [bs_list']; rfl
    have t3 : ((bs [63]).toList == [63]) = true := by rw [bs_list']; rfl
    have HE : Hid ((bs [63]).extract 0 1 = bs (([63] : List UInt8).take 1)) := Lib.hid (by rw [extract_bs, bs_list]; rfl)
    have hl2 : 1 ≤ (bs [63]).size := by decide
    have HN := Lib.hid hN
    have HT := Lib.hid hT
    clear hN hT
    obtain ⟨y, hy⟩ : ∃ y, bs [63] = y := ⟨_, rfl⟩
    rw [hy] at *
    go_enter Try.func82, Try.ntmps82
    clear hy
    go_wp2_with fail
    refine HN.out.mono ?_
    rintro e w' ⟨rfl, rfl⟩
    go_wp2_with fail
    refine HT.out.mono ?_
    rintro e w2 ⟨rfl, h2, hb2⟩
    go_wp2_with fail
    go_ret
    exact ⟨by rw [← HE.out]; rfl, ⟨_, by omega, hlo.2, by simp [wI, wB, wT] <;> omega, rfl, h2⟩, hb2⟩
end
end Go.Proofs.Ythonnpjlkcjoeaa.T
