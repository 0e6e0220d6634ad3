/- Contracts of the program's parser: fail, next, end. -/
import Derived.Test.YthonnpjlkcjoeaaGreatDoorRdK
import Derived.RegionTactic
import Derived.ChangeAlike
namespace Go.Proofs.YthonnpjlkcjoeaaGreatDoor.T
open Go.RowKit Go.Proofs.YthonnpjlkcjoeaaGreatDoor.B
set_option linter.unusedSimpArgs false
set_option linter.unusedVariables false

/-- The last one, and it alone, has no text: whoever has a text is followed. -/
def GoodT : List Tok → Prop
  | [] => False
  | [t] => t.tx = []
  | t :: u :: r => t.tx ≠ [] ∧ GoodT (u :: r)
theorem GoodT.next {t : Tok} {r : List Tok} (h : GoodT (t :: r)) (ht : t.tx ≠ []) : GoodT r := by
  cases r with
  | nil => exact absurd h ht
  | cons u r => exact h.2
theorem GoodT.cons {t : Tok} {r : List Tok} (ht : t.tx ≠ []) (h : GoodT r) : GoodT (t :: r) := by
  cases r with
  | nil => exact absurd h id
  | cons u r => exact ⟨ht, h⟩
theorem GoodT.ne {ts : List Tok} (h : GoodT ts) : ∃ t r, ts = t :: r := by
  cases ts with
  | nil => exact absurd h id
  | cons t r => exact ⟨t, r, rfl⟩
theorem goodT_toksN (s : List UInt8) : ∀ (n p : Nat), p ≤ s.length → s.length - p ≤ n → GoodT (toksN n s p) := by
  intro n
  induction n with
  | zero =>
    intro p hp hn
    have h0 := lex_lo hp
    show (lex (s.drop p) p).tx = []
    exact List.eq_nil_of_length_eq_zero (by omega)
  | succ n ih =>
    intro p hp hn
    have h0 := lex_lo hp
    unfold toksN
    split
    · rename_i h; exact h
    · rename_i h
      have hl := List.length_pos_iff.2 h
      exact GoodT.cons h (ih _ (by omega) (by omega))
theorem goodT_tk (s : ByteArray) : GoodT (tk s 0) := goodT_toksN _ _ 0 (by omega) (by omega)

/-- The parser's state: what is left, how many are open, its fault and the place. -/
structure Prs (W : World) (g B : Nat) (ts : List Tok) (o e q : Int) : Prop where
  blk : ∃ A c, ts.length ≤ c ∧ Blk W g 130 #[.slice A ts.length c, .int .i64 o, .int .i64 e, .int .i64 q] ∧ Sl W B 3 A ts.length (tcells ts)
  hB : B ≤ g

theorem Prs.open_ {W : World} {g B : Nat} {t : Tok} {r : List Tok} {o e q : Int} (h : Prs W g B (t :: r) o e q) :
    ∃ tb off c, r.length + 1 ≤ c ∧ tb < B ∧ Blk W g 130 #[.slice (some ⟨tb, off, none⟩) (r.length + 1) c, .int .i64 o, .int .i64 e, .int .i64 q] ∧ Sl W B 3 (some ⟨tb, off, none⟩) (r.length + 1) (tcells (t :: r)) ∧
      W.cell? ⟨tb, off, none⟩ = some (.string (bs t.tx)) ∧ W.cell? ⟨tb, off + 1, none⟩ = some (.int .i64 t.pl) ∧ W.cell? ⟨tb, off + 2, none⟩ = some (.bool t.bad) := by
  obtain ⟨A, c, hc, hb, hs⟩ := h.blk
  obtain ⟨tb, off, rfl, htb, hcell⟩ := hs.at_ (by simp)
  exact ⟨tb, off, c, hc, htb, hb, hs, hcell 0 _ rfl, hcell 1 _ rfl, hcell 2 _ rfl⟩

theorem sl_tail {W : World} {B tb off : Nat} {t : Tok} {r : List Tok} (h : Sl W B 3 (some ⟨tb, off, none⟩) (r.length + 1) (tcells (t :: r))) : Sl W B 3 (some ⟨tb, off + 3, none⟩) r.length (tcells r) := by
  refine ⟨tcells_len r, ?_⟩
  obtain ⟨b, o, he, hb, hc⟩ := h.at_ (by omega)
  injection he with he
  injection he with e1 e2 _
  subst e1 e2
  refine .inr ⟨tb, off + 3, rfl, hb, fun j u hu => ?_⟩
  have := hc (3 + j) u (by
    show (tokV t ++ tcells r)[3 + j]? = some u
    rw [List.getElem?_append_right (by simp [tokV])]
    simpa [tokV] using hu)
  rw [← Nat.add_assoc] at this
  exact this

/-- A store into the parser's own block. -/
theorem sl_own {W : World} {B g i n : Nat} {A : Option Addr} {xs : List Value} (h : Sl W B 3 A n xs) (hB : B ≤ g) (v : Value) : Sl (W.setCell ⟨g, i, none⟩ v) B 3 A n xs := h.setCell (p := ⟨g, i, none⟩) hB v
theorem grown_refl (W : World) (r : Option Nat) : W.grownBy W r := ⟨rfl, rfl, rfl, Nat.le_refl _, fun _ _ _ => rfl⟩
theorem Prs.grown {W W' : World} {g B : Nat} {ts : List Tok} {o e q : Int} (h : Prs W g B ts o e q) (hg : W.grownBy W' none) : Prs W' g B ts o e q := by
  obtain ⟨A, c, hc, hb, hs⟩ := h.blk
  refine ⟨⟨A, c, hc, hb.grown hg (by simp), hs.keep fun p hp => World.cell?_of_block (hg.block p.block (by have := hb.lt; have := h.hB; omega) (by simp))⟩, h.hB⟩
theorem Prs.alloc {W : World} {g B : Nat} {ts : List Tok} {o e q : Int} (h : Prs W g B ts o e q) (x : Obj) : Prs (W.alloc x) g B ts o e q := h.grown (World.grownBy_alloc W x none)
theorem Prs.drewN {W : World} {g B : Nat} {ts : List Tok} {o e q : Int} (h : Prs W g B ts o e q) (n : Nat) : Prs (W.drewN n) g B ts o e q := h.grown ⟨rfl, rfl, rfl, Nat.le_refl _, fun _ _ _ => rfl⟩
theorem Prs.opened {W : World} {g B : Nat} {ts : List Tok} {o e q : Int} (h : Prs W g B ts o e q) (o2 : Int) : Prs (W.setCell ⟨g, 1, none⟩ (.int .i64 o2)) g B ts o2 e q := by
  obtain ⟨A, c, hc, hb, hs⟩ := h.blk
  exact ⟨⟨A, c, hc, hb.set_ 1 _, sl_own hs h.hB _⟩, h.hB⟩

def badE (b : Bool) (E : Nat) : Nat := if b then 11 else E
theorem badE_ne (e : Nat) (he : e ≠ 0) (b : Bool) : ((badE b e : Int) != 0) = true := by
  cases b
  · show ((e : Int) != 0) = true
    simpa using he
  · rfl
theorem fail_ok (g B : Nat) (t : Tok) (r : List Tok) (o q E : Int) (w : World) (h : Prs w g B (t :: r) o 0 q) :
    Calls Tryz.prog 66 #[ptr g, .int .i64 E] w fun e w' => e = .returned (.string ⟨#[]⟩) ∧ Prs w' g B (t :: r) o (if t.bad then 11 else E) t.pl ∧ w.grownBy w' (some g) := by
  obtain ⟨tb, off, c, hc, htb, hb, hs, k0, k1, k2⟩ := h.open_
  have hB := h.hB
  obtain ⟨⟨c0, c1, c2, c3⟩, f0, f1, f2, f3⟩ := hb.four
  have h2 := fun E' : Int => (hb.set_ 2 (.int .i64 E')).set_ 3 (.int .i64 t.pl)
  have h3 := fun E' : Int => sl_own (i := 3) (sl_own (i := 2) hs hB (.int .i64 E')) hB (.int .i64 t.pl)
  have h4 := fun E' : Int => (grown_set w g 2 (.int .i64 E')).trans (grown_set (w.setCell ⟨g, 2, none⟩ (.int .i64 E')) g 3 (.int .i64 t.pl))
  have H2 := Lib.hid h2
  have H3 := Lib.hid h3
  have H4 := Lib.hid h4
  clear h2 h3 h4 hb hs h
  cases hbd : t.bad
  all_goals
    rw [hbd] at k2
    clear hbd
    go_enter Tryz.func66, Tryz.ntmps66
    go_wp2_with fail
    go_ret
    exact ⟨rfl, ⟨⟨_, c, hc, H2.out _, H3.out _⟩, hB⟩, H4.out _⟩
theorem fail_err (g B : Nat) (ts : List Tok) (o e0 q E : Int) (w : World) (h : Prs w g B ts o e0 q) (he : (e0 == 0) = false) :
    Calls Tryz.prog 66 #[ptr g, .int .i64 E] w fun e w' => e = .returned (.string ⟨#[]⟩) ∧ w = w' := by
  obtain ⟨A, c, hc, hb, hs⟩ := h.blk
  obtain ⟨⟨c0, c1, c2, c3⟩, f0, f1, f2, f3⟩ := hb.four
  clear h hb hs
  go_enter Tryz.func66, Tryz.ntmps66
  go_wp2_with fail
  go_ret
  exact ⟨rfl, rfl⟩

theorem next_err (g B : Nat) (ts : List Tok) (o e0 q : Int) (x : ByteArray) (w : World) (h : Prs w g B ts o e0 q) (he : (e0 != 0) = true) :
    Calls Tryz.prog 88 #[ptr g, .string x] w fun e w' => e = .returned (.bool false) ∧ w = w' := by
  obtain ⟨A, c, hc, hb, hs⟩ := h.blk
  obtain ⟨⟨c0, c1, c2, c3⟩, f0, f1, f2, f3⟩ := hb.four
  clear h hb hs
  go_enter Tryz.func88, Tryz.ntmps88
  go_wp2_with fail
  go_ret
  exact ⟨rfl, rfl⟩
theorem next_no (g B : Nat) (t : Tok) (r : List Tok) (o q : Int) (x : List UInt8) (w : World) (h : Prs w g B (t :: r) o 0 q) (hx : t.tx ≠ x) :
    Calls Tryz.prog 88 #[ptr g, .string (bs x)] w fun e w' => e = .returned (.bool false) ∧ w = w' := by
  obtain ⟨tb, off, c, hc, htb, hb, hs, k0, k1, k2⟩ := h.open_
  obtain ⟨⟨c0, c1, c2, c3⟩, f0, f1, f2, f3⟩ := hb.four
  have t1 : ((bs t.tx).toList != (bs x).toList) = true := by rw [bs_list', bs_list']; simpa using hx
  have t2 : ((bs t.tx).toList == (bs x).toList) = false := by rw [bs_list', bs_list']; simpa using hx
  generalize bs t.tx = y at *
  generalize bs x = z at *
  clear h hb hs hx
  go_enter Tryz.func88, Tryz.ntmps88
  go_wp2_with fail
  go_ret
  exact ⟨rfl, rfl⟩
theorem next_yes (g B : Nat) (t : Tok) (r : List Tok) (o q : Int) (x : List UInt8) (w : World) (h : Prs w g B (t :: r) o 0 q) (hx : t.tx = x) (hr : r ≠ []) (hl : r.length ≤ 4294967296) :
    Calls Tryz.prog 88 #[ptr g, .string (bs x)] w fun e w' => e = .returned (.bool true) ∧ Prs w' g B r o 0 q ∧ w.grownBy w' (some g) := by
  obtain ⟨tb, off, c, hc, htb, hb, hs, k0, k1, k2⟩ := h.open_
  have hB := h.hB
  obtain ⟨⟨c0, c1, c2, c3⟩, f0, f1, f2, f3⟩ := hb.four
  have hr0 : 0 < r.length := List.length_pos_iff.2 hr
  rw [hx] at k0
  have t1 : ((bs x).toList != (bs x).toList) = false := by simp
  have h2 := hb.set_ 0 (.slice (some ⟨tb, off + 3, none⟩) r.length (c - 1))
  have h3 := sl_own (g := g) (i := 0) (sl_tail hs) hB (.slice (some ⟨tb, off + 3, none⟩) r.length (c - 1))
  have h4 := grown_set w g 0 (.slice (some ⟨tb, off + 3, none⟩) r.length (c - 1))
  have H2 := Lib.hid h2
  have H3 := Lib.hid h3
  have H4 := Lib.hid h4
  generalize bs x = z at *
  clear h2 h3 h4 hb hs h hx hr
  go_enter Tryz.func88, Tryz.ntmps88
  go_wp2_with fail
  go_ret
  exact ⟨rfl, ⟨⟨_, c - 1, by omega, H2.out, H3.out⟩, hB⟩, H4.out⟩

/-- What the parser's one, or arm, or a closure of them comes to. -/
structure PutY (g B : Nat) (ts : List Tok) (o : Int) (t : List UInt8) (r : List Tok) (w : World) (e : Ending) (w' : World) : Prop where
  e : e = .returned (.string (bs t))
  good : GoodT r
  len : t.length + r.length ≤ ts.length
  st : Prs w' g B r o 0 0
  b : w.grownBy w' (some g)
structure PutN (g B : Nat) (ts : List Tok) (o : Int) (E P : Nat) (w : World) (e : Ending) (w' : World) : Prop where
  st : ∃ (t : ByteArray) (r : List Tok) (o' : Int), e = .returned (.string t) ∧ t.size + r.length ≤ ts.length ∧ o ≤ o' ∧ o' ≤ o + 1 ∧ Prs w' g B r o' E P
  ne : ((E : Int) != 0) = true
  b : w.grownBy w' (some g)
def PutR (x : Rd) (g B : Nat) (ts : List Tok) (o : Int) (w : World) (e : Ending) (w' : World) : Prop := match x with
  | .yes t r => PutY g B ts o t r w e w'
  | .no E P => PutN g B ts o E P w e w'
theorem PutR.yes {t : List UInt8} {r ts : List Tok} {g B : Nat} {o : Int} {w w' : World} {e : Ending} (h : PutR (.yes t r) g B ts o w e w') :
    e = .returned (.string (bs t)) ∧ GoodT r ∧ t.length + r.length ≤ ts.length ∧ Prs w' g B r o 0 0 ∧ w.grownBy w' (some g) := by
  obtain ⟨h1, h2, h3, h4, h5⟩ := h
  exact ⟨h1, h2, h3, h4, h5⟩
theorem PutR.no {E P : Nat} {ts : List Tok} {g B : Nat} {o : Int} {w w' : World} {e : Ending} (h : PutR (.no E P) g B ts o w e w') :
    ∃ (t : ByteArray) (r : List Tok) (o' : Int), e = .returned (.string t) ∧ t.size + r.length ≤ ts.length ∧ o ≤ o' ∧ o' ≤ o + 1 ∧ Prs w' g B r o' E P ∧ ((E : Int) != 0) = true ∧ w.grownBy w' (some g) := by
  obtain ⟨⟨t, r, o', a, b, c, d, e⟩, h2, h3⟩ := h
  exact ⟨t, r, o', a, b, c, d, e, h2, h3⟩
theorem PutR.mkNo {E P : Nat} {ts : List Tok} {g B : Nat} {o : Int} {w w' : World} {t : ByteArray} (r : List Tok) (o' : Int) (h1 : t.size + r.length ≤ ts.length) (h2 : o ≤ o') (h3 : o' ≤ o + 1) (h4 : Prs w' g B r o' E P) (h5 : ((E : Int) != 0) = true) (h6 : w.grownBy w' (some g)) :
    PutR (.no E P) g B ts o w (.returned (.string t)) w' := ⟨⟨t, r, o', rfl, h1, h2, h3, h4⟩, h5, h6⟩
theorem PutR.mkYes {t : List UInt8} {r ts : List Tok} {g B : Nat} {o : Int} {w w' : World} {v : ByteArray} (hv : v = bs t) (h1 : GoodT r) (h2 : t.length + r.length ≤ ts.length) (h3 : Prs w' g B r o 0 0) (h4 : w.grownBy w' (some g)) :
    PutR (.yes t r) g B ts o w (.returned (.string v)) w' := ⟨by rw [hv], h1, h2, h3, h4⟩

theorem fail15 (g B : Nat) (t : Tok) (r : List Tok) (o q : Int) (w : World) (h : Prs w g B (t :: r) o 0 q) :
    Calls Tryz.prog 66 #[ptr g, .int .i64 15] w fun e w' => e = .returned (.string ⟨#[]⟩) ∧ Prs w' g B (t :: r) o (badE t.bad 15) t.pl ∧ w.grownBy w' (some g) :=
  (fail_ok g B t r o q 15 w h).mono fun e w' ⟨h1, h2, h3⟩ => ⟨h1, by cases hb : t.bad <;> (rw [hb] at h2; exact h2), h3⟩
theorem fail16 (g B : Nat) (t : Tok) (r : List Tok) (o q : Int) (w : World) (h : Prs w g B (t :: r) o 0 q) :
    Calls Tryz.prog 66 #[ptr g, .int .i64 16] w fun e w' => e = .returned (.string ⟨#[]⟩) ∧ Prs w' g B (t :: r) o (badE t.bad 16) t.pl ∧ w.grownBy w' (some g) :=
  (fail_ok g B t r o q 16 w h).mono fun e w' ⟨h1, h2, h3⟩ => ⟨h1, by cases hb : t.bad <;> (rw [hb] at h2; exact h2), h3⟩
/-- end: behind what was read. -/
theorem end_ok (g B : Nat) (ts : List Tok) (o : Int) (t x : List UInt8) (w : World) (hg : GoodT ts) (hl : ts.length ≤ 4294967296) (hx : x ≠ []) (h : Prs w g B ts o 0 0) (n0 : List Tok) (hn : t.length + ts.length ≤ n0.length + 1) (hn2 : ts.length ≤ n0.length) :
    Calls Tryz.prog 89 #[ptr g, .string (bs t), .string (bs x)] w fun e w' => PutR (endT t x ts) g B n0 o w e w' := by
  obtain ⟨u, r, rfl⟩ := hg.ne
  simp only [List.length_cons] at hl hn hn2
  by_cases hu : u.tx = x
  · have hr : r ≠ [] := by
      intro hr
      rw [hr] at hg
      exact hx (hu.symm.trans hg)
    have e0 : endT t x (u :: r) = .yes t r := by unfold endT; exact if_pos hu
    rw [e0]
    have HN := Lib.hid (next_yes g B u r o 0 x w h hu hr (by omega))
    have HG := Lib.hid (hg.next (by rw [hu]; exact hx))
    clear hg h hx hu hr e0
    generalize hz : bs x = z at *
    clear hz
    go_enter Tryz.func89, Tryz.ntmps89
    go_wp2_with fail
    refine HN.out.mono ?_
    rintro e w' ⟨rfl, h2, hb2⟩
    go_wp2_with fail
    go_ret
    exact PutR.mkYes rfl HG.out (by omega) h2 hb2
  · have e0 : endT t x (u :: r) = .no (badE u.bad 15) u.pl := by unfold endT; exact if_neg hu
    rw [e0]
    have HN := Lib.hid (next_no g B u r o 0 x w h hu)
    have HF := Lib.hid (fail15 g B u r o 0 w h)
    have HB := Lib.hid (badE_ne 15 (by decide) u.bad)
    clear hg h hx hu e0
    generalize hz : bs x = z at *
    clear hz
    go_enter Tryz.func89, Tryz.ntmps89
    go_wp2_with fail
    refine HN.out.mono ?_
    rintro e w' ⟨rfl, rfl⟩
    go_wp2_with fail
    refine HF.out.mono ?_
    rintro e w' ⟨rfl, h2, hb2⟩
    go_wp2_with fail
    go_ret
    exact PutR.mkNo (u :: r) o (by show 0 + _ ≤ _; simp only [List.length_cons]; omega) (by omega) (by omega) h2 HB.out hb2
theorem end_err (g B : Nat) (ts : List Tok) (o e0 q : Int) (t x : ByteArray) (w : World) (h : Prs w g B ts o e0 q) (he : (e0 != 0) = true) :
    Calls Tryz.prog 89 #[ptr g, .string t, .string x] w fun e w' => e = .returned (.string ⟨#[]⟩) ∧ w = w' := by
  have HN := Lib.hid (next_err g B ts o e0 q x w h he)
  have HF := Lib.hid (fail_err g B ts o e0 q 15 w h (by simpa using he))
  clear h
  go_enter Tryz.func89, Tryz.ntmps89
  go_wp2_with fail
  refine HN.out.mono ?_
  rintro e w' ⟨rfl, rfl⟩
  go_wp2_with fail
  refine HF.out.mono ?_
  rintro e w' ⟨rfl, rfl⟩
  go_wp2_with fail
  go_ret
  exact ⟨rfl, rfl⟩
end Go.Proofs.YthonnpjlkcjoeaaGreatDoor.T
