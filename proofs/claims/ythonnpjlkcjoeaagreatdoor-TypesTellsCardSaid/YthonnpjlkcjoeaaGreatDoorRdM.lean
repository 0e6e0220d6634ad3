/- Contracts of the program's parser: within, the closures, arm, one. -/
import Derived.Test.YthonnpjlkcjoeaaGreatDoorRdL
namespace Go.Proofs.YthonnpjlkcjoeaaGreatDoor.T
open Go.RowKit Go.Proofs.YthonnpjlkcjoeaaGreatDoor.B
set_option linter.unusedSimpArgs false
set_option linter.unusedVariables false

theorem prs_bump {W : World} {g B : Nat} {ts : List Tok} {o e q o2 : Int} (h : Prs W g B ts o e q) : Prs (W.setCell ⟨g, 1, none⟩ (.int .i64 o2)) g B ts o2 e q := h.opened o2
theorem grown_bump {w W : World} {g : Nat} (h : w.grownBy W (some g)) (o2 : Int) : w.grownBy (W.setCell ⟨g, 1, none⟩ (.int .i64 o2)) (some g) := h.trans (grown_set W g 1 _)

/-- within: as many may be open. -/
theorem within_deep (g B : Nat) (t : Tok) (r : List Tok) (x : ByteArray) (V : Value) (w : World) (h : Prs w g B (t :: r) 64 0 0) (n0 : List Tok) (hn : (t :: r).length ≤ n0.length) :
    Calls Tryz.prog 77 #[ptr g, .string x, V] w fun e w' => PutR (failT 16 (t :: r)) g B n0 64 w e w' := by
  have HF := Lib.hid (fail16 g B t r 65 0 (w.setCell ⟨g, 1, none⟩ (.int .i64 65)) (h.opened 65))
  have e0 : failT 16 (t :: r) = .no (badE t.bad 16) t.pl := rfl
  rw [e0]
  have HB := Lib.hid (badE_ne 16 (by decide) t.bad)
  have HG := Lib.hid (grown_set w g 1 (.int .i64 65))
  obtain ⟨A, c, hc, hbk, hs⟩ := h.blk
  obtain ⟨⟨c0, c1, c2, c3⟩, f0, f1, f2, f3⟩ := hbk.four
  clear h hbk hs e0
  go_enter Tryz.func77, Tryz.ntmps77
  go_wp2_with fail
  refine HF.out.mono ?_
  rintro e w' ⟨rfl, h2, hb2⟩
  go_wp2_with fail
  go_ret
  exact PutR.mkNo (t :: r) 65 (by show 0 + _ ≤ _; omega) (by omega) (by omega) h2 HB.out (HG.out.trans hb2)

/-- within: one more. -/
theorem within_one (g B : Nat) (t : Tok) (r : List Tok) (o : Int) (x : List UInt8) (a b : Nat) (R : Rd) (w : World) (h : Prs w g B (t :: r) o 0 0) (ho : 0 ≤ o) (ho2 : o < 64) (hx : t.tx = x) (hr : r ≠ []) (hl : r.length ≤ 4294967296) (n0 n1 : List Tok) (o1 : Int) (ho1 : o + 1 = o1)
    (hn : n1.length ≤ n0.length)
    (hC : ∀ W, Prs W g B r o1 0 0 → w.grownBy W (some g) → Calls Tryz.prog 78 #[ptr a, ptr b] W fun e w' => PutR R g B n1 o1 W e w') :
    Calls Tryz.prog 77 #[ptr g, .string (bs x), .func (.func 78) #[] #[ptr a, ptr b]] w fun e w' => PutR R g B n0 o w e w' := by
  have HG := Lib.hid (grown_set w g 1 (.int .i64 o1))
  have HN := Lib.hid (next_yes g B t r o1 0 x (w.setCell ⟨g, 1, none⟩ (.int .i64 o1)) (h.opened o1) hx hr hl)
  have HC := Lib.hid hC
  obtain ⟨A, c, hc, hbk, hs⟩ := h.blk
  obtain ⟨⟨c0, c1, c2, c3⟩, f0, f1, f2, f3⟩ := hbk.four
  clear h hbk hs hC hx hr
  generalize hz : bs x = z at *
  clear hz
  have t1 : decide ((64 : Int) < o1) = false := by simp; omega
  go_enter Tryz.func77, Tryz.ntmps77
  go_wp2_with fail
  with_reducible refine HN.out.mono ?_
  rintro e w1 ⟨rfl, h1, hb1⟩
  have hb2 := HG.out.trans hb1
  have HC2 := Lib.hid (HC.out w1 h1 hb2)
  clear h1 HC HN HG hb1
  go_wp2_with fail
  refine HC2.out.mono ?_
  rintro e w2 hr2
  clear HC2
  cases R with
  | no E P =>
    obtain ⟨t2, r2, o2, rfl, l2, l3, l4, l5, l6, l7⟩ := hr2.no
    have hh2 := Lib.hid (prs_bump (o2 := o2 - 1) l5)
    have HG2 := Lib.hid (grown_bump (hb2.trans l7) (o2 - 1))
    obtain ⟨A2, c2, hc2, hbk2, hs2⟩ := l5.blk
    obtain ⟨⟨d0, d1, d2, d3⟩, g0, g1, g2, g3⟩ := hbk2.four
    clear hr2 l5 l7 hb2 hbk2 hs2
    have lo : o ≤ o2 - 1 ∧ o2 - 1 ≤ o + 1 := by omega
    clear ho1 t1
    go_wp2_with fail
    go_ret
    exact PutR.mkNo r2 (o2 - 1) (Nat.le_trans l2 hn) lo.1 lo.2 hh2.out l6 HG2.out
  | yes t2 r2 =>
    obtain ⟨rfl, l1, l2, l5, l7⟩ := hr2.yes
    have hh2 := Lib.hid (prs_bump (o2 := o1 - 1) l5)
    have HG2 := Lib.hid (grown_bump (hb2.trans l7) (o1 - 1))
    have hoo : Hid (o1 - 1 = o) := Lib.hid (by omega)
    obtain ⟨A2, c2, hc2, hbk2, hs2⟩ := l5.blk
    obtain ⟨⟨d0, d1, d2, d3⟩, g0, g1, g2, g3⟩ := hbk2.four
    clear hr2 l5 l7 hb2 hbk2 hs2 t1
    have lo : 0 ≤ o1 ∧ o1 ≤ 64 := by omega
    clear ho1
    go_wp2_with fail
    go_ret
    rw [hoo.out] at hh2 HG2 ⊢
    exact PutR.mkYes rfl l1 (Nat.le_trans l2 hn) hh2.out HG2.out
-- (the others, printed)
theorem within_arm1 (g B : Nat) (t : Tok) (r : List Tok) (o : Int) (x : List UInt8) (a : Nat) (R : Rd) (w : World) (h : Prs w g B (t :: r) o 0 0) (ho : 0 ≤ o) (ho2 : o < 64) (hx : t.tx = x) (hr : r ≠ []) (hl : r.length ≤ 4294967296) (n0 n1 : List Tok) (o1 : Int) (ho1 : o + 1 = o1)
    (hn : n1.length ≤ n0.length)
    (hC : ∀ W, Prs W g B r o1 0 0 → w.grownBy W (some g) → Calls Tryz.prog 87 #[ptr a] W fun e w' => PutR R g B n1 o1 W e w') :
    Calls Tryz.prog 77 #[ptr g, .string (bs x), .func (.func 87) #[] #[ptr a]] w fun e w' => PutR R g B n0 o w e w' := by
  have HG := Lib.hid (grown_set w g 1 (.int .i64 o1))
  have HN := Lib.hid (next_yes g B t r o1 0 x (w.setCell ⟨g, 1, none⟩ (.int .i64 o1)) (h.opened o1) hx hr hl)
  have HC := Lib.hid hC
  obtain ⟨A, c, hc, hbk, hs⟩ := h.blk
  obtain ⟨⟨c0, c1, c2, c3⟩, f0, f1, f2, f3⟩ := hbk.four
  clear h hbk hs hC hx hr
  generalize hz : bs x = z at *
  clear hz
  have t1 : decide ((64 : Int) < o1) = false := by simp; omega
  go_enter Tryz.func77, Tryz.ntmps77
  go_wp2_with fail
  with_reducible refine HN.out.mono ?_
  rintro e w1 ⟨rfl, h1, hb1⟩
  have hb2 := HG.out.trans hb1
  have HC2 := Lib.hid (HC.out w1 h1 hb2)
  clear h1 HC HN HG hb1
  go_wp2_with fail
  refine HC2.out.mono ?_
  rintro e w2 hr2
  clear HC2
  cases R with
  | no E P =>
    obtain ⟨t2, r2, o2, rfl, l2, l3, l4, l5, l6, l7⟩ := hr2.no
    have hh2 := Lib.hid (prs_bump (o2 := o2 - 1) l5)
    have HG2 := Lib.hid (grown_bump (hb2.trans l7) (o2 - 1))
    obtain ⟨A2, c2, hc2, hbk2, hs2⟩ := l5.blk
    obtain ⟨⟨d0, d1, d2, d3⟩, g0, g1, g2, g3⟩ := hbk2.four
    clear hr2 l5 l7 hb2 hbk2 hs2
    have lo : o ≤ o2 - 1 ∧ o2 - 1 ≤ o + 1 := by omega
    clear ho1 t1
    go_wp2_with fail
    go_ret
    exact PutR.mkNo r2 (o2 - 1) (Nat.le_trans l2 hn) lo.1 lo.2 hh2.out l6 HG2.out
  | yes t2 r2 =>
    obtain ⟨rfl, l1, l2, l5, l7⟩ := hr2.yes
    have hh2 := Lib.hid (prs_bump (o2 := o1 - 1) l5)
    have HG2 := Lib.hid (grown_bump (hb2.trans l7) (o1 - 1))
    have hoo : Hid (o1 - 1 = o) := Lib.hid (by omega)
    obtain ⟨A2, c2, hc2, hbk2, hs2⟩ := l5.blk
    obtain ⟨⟨d0, d1, d2, d3⟩, g0, g1, g2, g3⟩ := hbk2.four
    clear hr2 l5 l7 hb2 hbk2 hs2 t1
    have lo : 0 ≤ o1 ∧ o1 ≤ 64 := by omega
    clear ho1
    go_wp2_with fail
    go_ret
    rw [hoo.out] at hh2 HG2 ⊢
    exact PutR.mkYes rfl l1 (Nat.le_trans l2 hn) hh2.out HG2.out
theorem within_arm2 (g B : Nat) (t : Tok) (r : List Tok) (o : Int) (x : List UInt8) (a : Nat) (R : Rd) (w : World) (h : Prs w g B (t :: r) o 0 0) (ho : 0 ≤ o) (ho2 : o < 64) (hx : t.tx = x) (hr : r ≠ []) (hl : r.length ≤ 4294967296) (n0 n1 : List Tok) (o1 : Int) (ho1 : o + 1 = o1)
    (hn : n1.length ≤ n0.length)
    (hC : ∀ W, Prs W g B r o1 0 0 → w.grownBy W (some g) → Calls Tryz.prog 90 #[ptr a] W fun e w' => PutR R g B n1 o1 W e w') :
    Calls Tryz.prog 77 #[ptr g, .string (bs x), .func (.func 90) #[] #[ptr a]] w fun e w' => PutR R g B n0 o w e w' := by
  have HG := Lib.hid (grown_set w g 1 (.int .i64 o1))
  have HN := Lib.hid (next_yes g B t r o1 0 x (w.setCell ⟨g, 1, none⟩ (.int .i64 o1)) (h.opened o1) hx hr hl)
  have HC := Lib.hid hC
  obtain ⟨A, c, hc, hbk, hs⟩ := h.blk
  obtain ⟨⟨c0, c1, c2, c3⟩, f0, f1, f2, f3⟩ := hbk.four
  clear h hbk hs hC hx hr
  generalize hz : bs x = z at *
  clear hz
  have t1 : decide ((64 : Int) < o1) = false := by simp; omega
  go_enter Tryz.func77, Tryz.ntmps77
  go_wp2_with fail
  with_reducible refine HN.out.mono ?_
  rintro e w1 ⟨rfl, h1, hb1⟩
  have hb2 := HG.out.trans hb1
  have HC2 := Lib.hid (HC.out w1 h1 hb2)
  clear h1 HC HN HG hb1
  go_wp2_with fail
  refine HC2.out.mono ?_
  rintro e w2 hr2
  clear HC2
  cases R with
  | no E P =>
    obtain ⟨t2, r2, o2, rfl, l2, l3, l4, l5, l6, l7⟩ := hr2.no
    have hh2 := Lib.hid (prs_bump (o2 := o2 - 1) l5)
    have HG2 := Lib.hid (grown_bump (hb2.trans l7) (o2 - 1))
    obtain ⟨A2, c2, hc2, hbk2, hs2⟩ := l5.blk
    obtain ⟨⟨d0, d1, d2, d3⟩, g0, g1, g2, g3⟩ := hbk2.four
    clear hr2 l5 l7 hb2 hbk2 hs2
    have lo : o ≤ o2 - 1 ∧ o2 - 1 ≤ o + 1 := by omega
    clear ho1 t1
    go_wp2_with fail
    go_ret
    exact PutR.mkNo r2 (o2 - 1) (Nat.le_trans l2 hn) lo.1 lo.2 hh2.out l6 HG2.out
  | yes t2 r2 =>
    obtain ⟨rfl, l1, l2, l5, l7⟩ := hr2.yes
    have hh2 := Lib.hid (prs_bump (o2 := o1 - 1) l5)
    have HG2 := Lib.hid (grown_bump (hb2.trans l7) (o1 - 1))
    have hoo : Hid (o1 - 1 = o) := Lib.hid (by omega)
    obtain ⟨A2, c2, hc2, hbk2, hs2⟩ := l5.blk
    obtain ⟨⟨d0, d1, d2, d3⟩, g0, g1, g2, g3⟩ := hbk2.four
    clear hr2 l5 l7 hb2 hbk2 hs2 t1
    have lo : 0 ≤ o1 ∧ o1 ≤ 64 := by omega
    clear ho1
    go_wp2_with fail
    go_ret
    rw [hoo.out] at hh2 HG2 ⊢
    exact PutR.mkYes rfl l1 (Nat.le_trans l2 hn) hh2.out HG2.out
theorem within_arm3 (g B : Nat) (t : Tok) (r : List Tok) (o : Int) (x : List UInt8) (a : Nat) (R : Rd) (w : World) (h : Prs w g B (t :: r) o 0 0) (ho : 0 ≤ o) (ho2 : o < 64) (hx : t.tx = x) (hr : r ≠ []) (hl : r.length ≤ 4294967296) (n0 n1 : List Tok) (o1 : Int) (ho1 : o + 1 = o1)
    (hn : n1.length ≤ n0.length)
    (hC : ∀ W, Prs W g B r o1 0 0 → w.grownBy W (some g) → Calls Tryz.prog 91 #[ptr a] W fun e w' => PutR R g B n1 o1 W e w') :
    Calls Tryz.prog 77 #[ptr g, .string (bs x), .func (.func 91) #[] #[ptr a]] w fun e w' => PutR R g B n0 o w e w' := by
  have HG := Lib.hid (grown_set w g 1 (.int .i64 o1))
  have HN := Lib.hid (next_yes g B t r o1 0 x (w.setCell ⟨g, 1, none⟩ (.int .i64 o1)) (h.opened o1) hx hr hl)
  have HC := Lib.hid hC
  obtain ⟨A, c, hc, hbk, hs⟩ := h.blk
  obtain ⟨⟨c0, c1, c2, c3⟩, f0, f1, f2, f3⟩ := hbk.four
  clear h hbk hs hC hx hr
  generalize hz : bs x = z at *
  clear hz
  have t1 : decide ((64 : Int) < o1) = false := by simp; omega
  go_enter Tryz.func77, Tryz.ntmps77
  go_wp2_with fail
  with_reducible refine HN.out.mono ?_
  rintro e w1 ⟨rfl, h1, hb1⟩
  have hb2 := HG.out.trans hb1
  have HC2 := Lib.hid (HC.out w1 h1 hb2)
  clear h1 HC HN HG hb1
  go_wp2_with fail
  refine HC2.out.mono ?_
  rintro e w2 hr2
  clear HC2
  cases R with
  | no E P =>
    obtain ⟨t2, r2, o2, rfl, l2, l3, l4, l5, l6, l7⟩ := hr2.no
    have hh2 := Lib.hid (prs_bump (o2 := o2 - 1) l5)
    have HG2 := Lib.hid (grown_bump (hb2.trans l7) (o2 - 1))
    obtain ⟨A2, c2, hc2, hbk2, hs2⟩ := l5.blk
    obtain ⟨⟨d0, d1, d2, d3⟩, g0, g1, g2, g3⟩ := hbk2.four
    clear hr2 l5 l7 hb2 hbk2 hs2
    have lo : o ≤ o2 - 1 ∧ o2 - 1 ≤ o + 1 := by omega
    clear ho1 t1
    go_wp2_with fail
    go_ret
    exact PutR.mkNo r2 (o2 - 1) (Nat.le_trans l2 hn) lo.1 lo.2 hh2.out l6 HG2.out
  | yes t2 r2 =>
    obtain ⟨rfl, l1, l2, l5, l7⟩ := hr2.yes
    have hh2 := Lib.hid (prs_bump (o2 := o1 - 1) l5)
    have HG2 := Lib.hid (grown_bump (hb2.trans l7) (o1 - 1))
    have hoo : Hid (o1 - 1 = o) := Lib.hid (by omega)
    obtain ⟨A2, c2, hc2, hbk2, hs2⟩ := l5.blk
    obtain ⟨⟨d0, d1, d2, d3⟩, g0, g1, g2, g3⟩ := hbk2.four
    clear hr2 l5 l7 hb2 hbk2 hs2 t1
    have lo : 0 ≤ o1 ∧ o1 ≤ 64 := by omega
    clear ho1
    go_wp2_with fail
    go_ret
    rw [hoo.out] at hh2 HG2 ⊢
    exact PutR.mkYes rfl l1 (Nat.le_trans l2 hn) hh2.out HG2.out
-- (end of them)
end Go.Proofs.YthonnpjlkcjoeaaGreatDoor.T
