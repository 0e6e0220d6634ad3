/- Contracts of the answer's reader: arm at what opens, one. -/
import Derived.Test.YthonnpjlkcjoeaaRdD
namespace Go.Proofs.Ythonnpjlkcjoeaa.T
open Go.RowKit Go.Proofs.Ythonnpjlkcjoeaa.B
set_option linter.unusedSimpArgs false
set_option linter.unusedVariables false
set_option linter.unusedSectionVars false

theorem Con.out {f : Nat} {fn : List Tok → Rd} {g : Nat} {s : ByteArray} {o : Int} (h : Con f fn g s o) {p : Nat} {w : World} (hp : p ≤ s.size) (hr : Rdr w g s p o 0 0) {r : Rd} (he : fn (tk s p) = r) :
    Calls Try.prog f #[ptr g] w fun e w' => OutR r g s p o w e w' := by rw [← he]; exact h p w hp hr
theorem OutR.yes {t : List UInt8} {ts : List Tok} {g : Nat} {s : ByteArray} {p : Nat} {o : Int} {w w' : World} {e : Ending} (h : OutR (.yes t ts) g s p o w e w') :
    e = .returned (.string (bs t)) ∧ ∃ p', p ≤ p' ∧ p' ≤ s.size ∧ t.length ≤ p' - p ∧ tk s p' = ts ∧ Rdr w' g s p' o 0 0 ∧ Below g w w' := by
  obtain ⟨h1, ⟨p', a, b, c, d, e⟩, h3⟩ := h
  exact ⟨h1, p', a, b, c, d, e, h3⟩
theorem OutR.no {E P : Nat} {g : Nat} {s : ByteArray} {p : Nat} {o : Int} {w w' : World} {e : Ending} (h : OutR (.no E P) g s p o w e w') :
    ∃ (t : ByteArray) (p' : Nat) (o' : Int), e = .returned (.string t) ∧ p ≤ p' ∧ p' ≤ s.size ∧ t.size ≤ p' - p + 1 ∧ Rdr w' g s p' o' E P ∧ ((E : Int) != 0) = true ∧ Below g w w' := by
  obtain ⟨⟨t, p', o', a, b, c, d, e⟩, h2, h3⟩ := h
  exact ⟨t, p', o', a, b, c, d, e, h2, h3⟩
theorem OutR.mkNo {E P : Nat} {g : Nat} {s : ByteArray} {p : Nat} {o : Int} {w w' : World} {t : ByteArray} (p' : Nat) (o' : Int) (h1 : p ≤ p') (h2 : p' ≤ s.size) (h3 : t.size ≤ p' - p + 1) (h4 : Rdr w' g s p' o' E P) (h5 : ((E : Int) != 0) = true) (h6 : Below g w w') :
    OutR (.no E P) g s p o w (.returned (.string t)) w' := ⟨⟨t, p', o', rfl, h1, h2, h3, h4⟩, h5, h6⟩
theorem OutR.mkYes {t : List UInt8} {ts : List Tok} {g : Nat} {s : ByteArray} {p : Nat} {o : Int} {w w' : World} {v : ByteArray} (hv : v = bs t) (p' : Nat) (h1 : p ≤ p') (h2 : p' ≤ s.size) (h3 : t.length ≤ p' - p) (h4 : tk s p' = ts) (h5 : Rdr w' g s p' o 0 0) (h6 : Below g w w') :
    OutR (.yes t ts) g s p o w (.returned (.string v)) w' := ⟨by rw [hv], ⟨p', h1, h2, h3, h4, h5⟩, h6⟩
theorem rdr_open {w : World} {g : Nat} {s : ByteArray} {p : Nat} {o e q o2 : Int} (h : Rdr w g s p o e q) : Rdr (w.setCell ⟨g, 2, none⟩ (.int .i64 o2)) g s p o2 e q := h.set_ 2 (.int .i64 o2)
theorem below_open {g : Nat} {w w' : World} (h : Below g w w') (o2 : Int) : Below g w (w'.setCell ⟨g, 2, none⟩ (.int .i64 o2)) := h.setCell (Nat.le_refl g) _
theorem add_bs {P : Program} (a b : ByteArray) (w : World) (h : a.size + b.size ≤ 9223372036854775807) : (Op.stringOp .add a b).run P w = .ok (.string (a ++ b)) w := run_string_add_sum w a b h
theorem bs_app (x y : List UInt8) : bs x ++ bs y = bs (x ++ y) := by
  apply ByteArray.ext
  apply Array.toList_inj.1
  rw [ByteArray.data_append, Array.toList_append, bs_list, bs_list, bs_list]

section
variable (g : Nat) (s : ByteArray) (hs : s.size ≤ 4611686018427387904)
include hs


/-- In brackets: a list. -/
theorem arm_list (z : Bool) (one arm : List Tok → Rd) (p : Nat) (o : Int) (w : World) (hp : p ≤ s.size) (h : Rdr w g s p o 0 0) (ho0 : 0 ≤ o) (ho : o ≤ 64) (hz : z = true ↔ o = 64)
    (hO : z = false → Con 61 one g s (o + 1)) (hn : (nx s p).tx = [91]) :
    Calls Try.prog 82 #[ptr g] w fun e w' => OutR (armS z one arm (tk s p)) g s p o w e w' := by
  have hbad : (nx s p).bad = false := by
    cases hb : (nx s p).bad
    · rfl
    · have := nx_bad hb; rw [hn] at this; cases this
  have e0 : armS z one arm (tk s p) = if z then .no 16 (nx s p).pl else match one (tk s ((nx s p).pl + 1)) with
      | .no e p => .no e p
      | .yes t ts1 => endT (108 :: t) [93] ts1 := by
    unfold armS
    rw [tk_hd hp, hn, if_neg (by decide), if_neg (by decide), if_pos (by decide), tk_tail hp (by rw [hn]; decide), hn]
    unfold failT
    rw [tk_hd hp, hbad]
    rfl
  have hlo := nx_lo hp
  rw [hn] at hlo
  have hlo1 : p ≤ (nx s p).pl := hlo.1
  have hlo2 : (nx s p).pl + 1 ≤ s.size := hlo.2
  have hN := now_tok g s p o w hp hs h hbad
  rw [hn] at hN
  have hOp := opens_any g s p o w hp hs h ho0 ho (by rw [hn]; decide)
  unfold OpensR at hOp
  have hT := fun (o' : Int) (W : World) (hr : Rdr W g s p o' 0 0) => take_yes g s p o' W hp hs hr [91] hn (by decide)
  have hTe := fun (o' E Q : Int) (W : World) (hr : Rdr W g s p o' E Q) (he : (E != 0) = true) => take_err g s p o' E Q W hp hs hr he [91] (by decide)
  have hOe := fun (o' E Q : Int) (W : World) (hr : Rdr W g s p o' E Q) (he : (E != 0) = true) => one_err g s hs p o' E Q W hp hr he
  have hNe := fun (p' : Nat) (hp' : p' ≤ s.size) (o' E Q : Int) (W : World) (hr : Rdr W g s p' o' E Q) (he : (E != 0) = true) => now_err g s p' o' E Q W hp' hs hr he
  have hCe := fun (p' : Nat) (hp' : p' ≤ s.size) (o' E Q : Int) (W : World) (hr : Rdr W g s p' o' E Q) (he : (E != 0) = true) => take_err g s p' o' E Q W hp' hs hr he [93] (by decide)
  have hCy := fun (p' : Nat) (hp' : p' ≤ s.size) (o' : Int) (W : World) (hr : Rdr W g s p' o' 0 0) (hx : (nx s p').tx = [93]) => take_yes g s p' o' W hp' hs hr [93] hx (by decide)
  have hCn := fun (p' : Nat) (hp' : p' ≤ s.size) (o' : Int) (W : World) (hr : Rdr W g s p' o' 0 0) (hx : (nx s p').tx ≠ [93]) => take_no g s p' o' W hp' hs hr [93] hx (by decide)
  obtain ⟨⟨c0, c1, c2, c3, c4⟩, f0, f1, f2, f3, f4⟩ := Blk.five h
  obtain ⟨R, hR⟩ : ∃ R, armS z one arm (tk s p) = R := ⟨_, rfl⟩
  rw [hR] at e0 ⊢
  generalize (nx s p).pl = a at hOp hT hN hlo hlo1 hlo2 e0
  have HE0 := Lib.hid e0
  have HOP := Lib.hid hOp
  have HT := Lib.hid hT
  have HTE := Lib.hid hTe
  have HOE := Lib.hid hOe
  have HNE := Lib.hid hNe
  have HCE := Lib.hid hCe
  have HCY := Lib.hid hCy
  have HCN := Lib.hid hCn
  have HN := Lib.hid hN
  have HZ := Lib.hid hz
  clear e0 h hOp hT hTe hOe hNe hCe hCy hCn hN hbad hn hR hz c0 c1 c2 c4 f0 f1 f2 f3 f4 hlo
  have t1 : ((bs [91]).toList == [105, 110, 116]) = false := by rw [bs_list']; rfl
  have t2 : ((bs [91]).toList == [98, 111, 111, 108]) = false := by rw [bs_list']; rfl
  have t3 : ((bs [91]).toList == [116, 101, 120, 116]) = false := by rw [bs_list']; rfl
  have t4 : ((bs [91]).toList == [63]) = false := by rw [bs_list']; rfl
  have t5 : ((bs [91]).toList == [40]) = false := by rw [bs_list']; rfl
  have t6 : ((bs [91]).toList == [91]) = true := by rw [bs_list']; rfl
  generalize hy : bs [91] = y at t1 t2 t3 t4 t5 t6 HN
  have HT' : ∀ (o' : Int) (W : World) (hr : Rdr W g s p o' 0 0), Calls Try.prog 84 #[ptr g, .string ⟨#[91]⟩] W fun e w' => TakeY g s (a + 1) o' W e w' := HT.out
  have HTE' : ∀ (o' E Q : Int) (W : World) (hr : Rdr W g s p o' E Q) (he : (E != 0) = true), Calls Try.prog 84 #[ptr g, .string ⟨#[91]⟩] W fun e w' => e = .returned (.tuple #[]) ∧ W = w' := HTE.out
  clear HT HTE hy
  have HT := Lib.hid HT'
  have HTE := Lib.hid HTE'
  clear HT' HTE'

  have HC := Lib.hid hO
  clear hO
  cases z
  · have ho64 : o < 64 := by
      rcases Int.lt_or_eq_of_le ho with h | h
      · exact h
      · exact absurd (HZ.out.2 h) (by simp)
    clear HTE HOE HZ
    go_enter Try.func82, Try.ntmps82
    go_wp2_with fail
    refine HN.out.mono ?_
    rintro e w' ⟨rfl, rfl⟩
    go_wp2_with fail
    refine HOP.out.mono ?_
    rintro e w1 ⟨rfl, hb1, h1, _⟩
    replace h1 := h1 (by first | exact ho64 | (have := ho64; simp; omega) | simp)
    have HT1 := Lib.hid (HT.out _ _ h1)
    clear HT HOP HN h1
    go_wp2_with fail
    refine HT1.out.mono ?_
    rintro e w2 ⟨rfl, h2, hb2⟩
    replace hb2 := hb1.trans hb2
    clear hb1 HT1
    rcases hr : one (tk s (a + 1)) with ⟨E, P⟩ | ⟨t, ts1⟩
    · have HRR : Hid (R = .no E P) := Lib.hid (by rw [HE0.out, hr]; rfl)
      have HO1 := Lib.hid ((HC.out (by first | rfl | trivial)).out hlo2 h2 hr)
      clear HC hr HE0 h2 HCY HCN
      go_wp2_with fail
      refine HO1.out.mono ?_
      rintro e w3 hout
      obtain ⟨t, p', o', rfl, q1, q2, q3, h3, hE, hb3⟩ := hout.no
      replace hb3 := hb2.trans hb3
      have HCE1 := Lib.hid (HCE.out p' q2 o' E P w3 h3 hE)
      have HADD := fun W => add_bs (P := Try.prog) ⟨#[108]⟩ t W (by show 1 + t.size ≤ _; omega)
      obtain ⟨⟨c0, c1, c2, c3', c4⟩, f0, f1, f2, f3, f4⟩ := Blk.five h3
      have hr3 := fun o2 => rdr_open (o2 := o2) h3
      have hb4 := fun o2 => below_open hb3 o2
      have HR3 := Lib.hid hr3
      have HB4 := Lib.hid hb4
      clear HO1 hout HCE h3 hb2 hb3 hr3 hb4 c3
      go_wp2_with fail
      refine HCE1.out.mono ?_
      rintro e w' ⟨rfl, rfl⟩
      go_wp2_with fail
      go_ret
      rw [HRR.out]
      exact OutR.mkNo p' _ (by omega) q2 (by rw [ByteArray.size_append]; show 1 + t.size ≤ _; omega) (HR3.out _) hE (HB4.out _)
    · have HO1 := Lib.hid ((HC.out (by first | rfl | trivial)).out hlo2 h2 hr)
      have HRR : Hid (R = endT (108 :: t) [93] ts1) := Lib.hid (by rw [HE0.out, hr]; rfl)
      clear HC hr HE0 h2 HCE
      go_wp2_with fail
      refine HO1.out.mono ?_
      rintro e w3 hout
      obtain ⟨rfl, p', q1, q2, q3, rfl, h3, hb3⟩ := hout.yes
      replace hb3 := hb2.trans hb3
      have HADD := fun W => add_bs (P := Try.prog) ⟨#[108]⟩ (bs t) W (by rw [bs_size]; show 1 + t.length ≤ _; omega)
      by_cases hx : (nx s p').tx = [93]
      · have HC1 := Lib.hid (HCY.out p' q2 (o + 1) w3 h3 hx)
        have hl3 := nx_lo q2
        rw [hx] at hl3
        have hR : R = .yes (108 :: t) (tk s ((nx s p').pl + 1)) := by
          rw [HRR.out]; unfold endT; rw [tk_hd q2, if_pos hx, tk_tail q2 (by rw [hx]; decide), hx]; rfl
        have hl4 : (nx s p').pl + 1 ≤ s.size := hl3.2
        have hl5 : p' ≤ (nx s p').pl := hl3.1
        have HRS := Lib.hid hR
        generalize (nx s p').pl = b at *
        clear HO1 hout HCY HCN h3 hb2 hx hl3 hR HRR
        go_wp2_with fail
        refine HC1.out.mono ?_
        rintro e w4 ⟨rfl, h4, hb4⟩
        replace hb4 := hb3.trans hb4
        obtain ⟨⟨c0, c1, c2, c3', c4⟩, f0, f1, f2, f3, f4⟩ := Blk.five h4
        have HR3 := Lib.hid (rdr_open (o2 := o) h4)
        have HB4 := Lib.hid (below_open hb4 o)
        have ho1 : o + 1 - 1 = o := by omega
        have HO2 := Lib.hid ho1
        clear h4 hb3 hb4 ho1 c3
        go_wp2_with fail
        go_ret
        rw [HRS.out]
        exact OutR.mkYes (bs_app [108] t) (b + 1) (by omega) hl4 (by simp only [List.length_cons]; omega) rfl (by first | exact HR3.out | (rw [← HO2.out]; exact HR3.out)) (by first | exact HB4.out | (rw [← HO2.out]; exact HB4.out))
      · have HC1 := Lib.hid (HCN.out p' q2 (o + 1) w3 h3 hx)
        have hR : R = .no (if (nx s p').bad then 11 else 15) (nx s p').pl := by
          rw [HRR.out]; unfold endT; rw [tk_hd q2, if_neg hx]; unfold failT; rw [tk_hd q2]
        obtain ⟨E, hE⟩ : ∃ E : Nat, (if (nx s p').bad then 11 else 15) = E := ⟨_, rfl⟩
        have hEi : (if (nx s p').bad = true then (11 : Int) else 15) = (E : Int) := by rw [← hE]; split <;> rfl
        have hE0 : ((E : Int) != 0) = true := by rw [← hEi]; cases (nx s p').bad <;> decide
        rw [hE] at hR
        rw [hEi] at HC1
        have HRS := Lib.hid hR
        generalize (nx s p').pl = b at *
        clear HO1 hout HCY HCN h3 hb2 hx hR HRR hE hEi
        go_wp2_with fail
        refine HC1.out.mono ?_
        rintro e w4 ⟨rfl, h4, hb4⟩
        replace hb4 := hb3.trans hb4
        obtain ⟨⟨c0, c1, c2, c3', c4⟩, f0, f1, f2, f3, f4⟩ := Blk.five h4
        have hr3 := fun o2 => rdr_open (o2 := o2) h4
        have hb5 := fun o2 => below_open hb4 o2
        have HR3 := Lib.hid hr3
        have HB4 := Lib.hid hb5
        clear h4 hb3 hb4 hr3 hb5 c3
        go_wp2_with fail
        go_ret
        rw [HRS.out]
        exact OutR.mkNo p' _ (by omega) q2 (by rw [ByteArray.size_append, bs_size]; show 1 + t.length ≤ _; omega) (HR3.out _) hE0 (HB4.out _)
  · obtain rfl : o = 64 := HZ.out.1 rfl
    have HRR : Hid (R = .no 16 a) := Lib.hid (by rw [HE0.out]; rfl)
    clear HC HT HCY HCN HE0 HZ
    go_enter Try.func82, Try.ntmps82
    go_wp2_with fail
    refine HN.out.mono ?_
    rintro e w' ⟨rfl, rfl⟩
    go_wp2_with fail
    refine HOP.out.mono ?_
    rintro e w1 ⟨rfl, hb1, _, h1⟩
    replace h1 := h1 (by simp)
    have HTE1 := Lib.hid (HTE.out 65 16 a w1 h1 (by decide))
    have HOE1 := Lib.hid (HOE.out 65 16 a w1 h1 (by decide))
    have HNE1 := Lib.hid (HNE.out p hp 65 16 a w1 h1 (by decide))
    have HCE1 := Lib.hid (HCE.out p hp 65 16 a w1 h1 (by decide))
    obtain ⟨⟨c0, c1, c2, c3', c4⟩, f0, f1, f2, f3, f4⟩ := Blk.five h1
    have hr2 := rdr_open (o2 := 64) h1
    have hb2 := below_open hb1 64
    have HR2 := Lib.hid hr2
    have HB2 := Lib.hid hb2
    clear h1 hb1 hr2 hb2 c3 HTE HOE HNE HCE
    go_wp2_with fail
    refine HTE1.out.mono ?_
    rintro e w' ⟨rfl, rfl⟩
    go_wp2_with fail
    refine HOE1.out.mono ?_
    rintro e w' ⟨rfl, rfl⟩
    go_wp2_with fail
    refine HCE1.out.mono ?_
    rintro e w' ⟨rfl, rfl⟩
    go_wp2_with fail
    go_ret
    rw [HRR.out]
    exact OutR.mkNo p 64 (Nat.le_refl _) hp (by show 1 ≤ _; omega) HR2.out (by decide) HB2.out

/-- A box. -/
theorem arm_box (z : Bool) (one arm : List Tok → Rd) (p : Nat) (o : Int) (w : World) (hp : p ≤ s.size) (h : Rdr w g s p o 0 0) (ho0 : 0 ≤ o) (ho : o ≤ 64) (hz : z = true ↔ o = 64)
    (hO : z = false → Con 82 arm g s (o + 1)) (hn : (nx s p).tx = [98, 111, 120]) :
    Calls Try.prog 82 #[ptr g] w fun e w' => OutR (armS z one arm (tk s p)) g s p o w e w' := by
  have hbad : (nx s p).bad = false := by
    cases hb : (nx s p).bad
    · rfl
    · have := nx_bad hb; rw [hn] at this; cases this
  have e0 : armS z one arm (tk s p) = if z then .no 16 (nx s p).pl else match arm (tk s ((nx s p).pl + 3)) with
      | .no e p => .no e p
      | .yes t ts1 => .yes (120 :: t) ts1 := by
    unfold armS
    rw [tk_hd hp, hn, if_neg (by decide), if_neg (by decide), if_neg (by decide), if_pos (by decide), tk_tail hp (by rw [hn]; decide), hn]
    unfold failT
    rw [tk_hd hp, hbad]
    rfl
  have hlo := nx_lo hp
  rw [hn] at hlo
  have hlo1 : p ≤ (nx s p).pl := hlo.1
  have hlo2 : (nx s p).pl + 3 ≤ s.size := hlo.2
  have hN := now_tok g s p o w hp hs h hbad
  rw [hn] at hN
  have hOp := opens_any g s p o w hp hs h ho0 ho (by rw [hn]; decide)
  unfold OpensR at hOp
  have hT := fun (o' : Int) (W : World) (hr : Rdr W g s p o' 0 0) => take_yes g s p o' W hp hs hr [98, 111, 120] hn (by decide)
  have hTe := fun (o' E Q : Int) (W : World) (hr : Rdr W g s p o' E Q) (he : (E != 0) = true) => take_err g s p o' E Q W hp hs hr he [98, 111, 120] (by decide)
  have hOe := fun (o' E Q : Int) (W : World) (hr : Rdr W g s p o' E Q) (he : (E != 0) = true) => arm_err g s hs p o' E Q W hp hr he
  have hNe := fun (p' : Nat) (hp' : p' ≤ s.size) (o' E Q : Int) (W : World) (hr : Rdr W g s p' o' E Q) (he : (E != 0) = true) => now_err g s p' o' E Q W hp' hs hr he
  have hCe := fun (p' : Nat) (hp' : p' ≤ s.size) (o' E Q : Int) (W : World) (hr : Rdr W g s p' o' E Q) (he : (E != 0) = true) => take_err g s p' o' E Q W hp' hs hr he [93] (by decide)
  have hCy := fun (p' : Nat) (hp' : p' ≤ s.size) (o' : Int) (W : World) (hr : Rdr W g s p' o' 0 0) (hx : (nx s p').tx = [93]) => take_yes g s p' o' W hp' hs hr [93] hx (by decide)
  have hCn := fun (p' : Nat) (hp' : p' ≤ s.size) (o' : Int) (W : World) (hr : Rdr W g s p' o' 0 0) (hx : (nx s p').tx ≠ [93]) => take_no g s p' o' W hp' hs hr [93] hx (by decide)
  obtain ⟨⟨c0, c1, c2, c3, c4⟩, f0, f1, f2, f3, f4⟩ := Blk.five h
  obtain ⟨R, hR⟩ : ∃ R, armS z one arm (tk s p) = R := ⟨_, rfl⟩
  rw [hR] at e0 ⊢
  generalize (nx s p).pl = a at hOp hT hN hlo hlo1 hlo2 e0
  have HE0 := Lib.hid e0
  have HOP := Lib.hid hOp
  have HT := Lib.hid hT
  have HTE := Lib.hid hTe
  have HOE := Lib.hid hOe
  have HNE := Lib.hid hNe
  have HCE := Lib.hid hCe
  have HCY := Lib.hid hCy
  have HCN := Lib.hid hCn
  have HN := Lib.hid hN
  have HZ := Lib.hid hz
  clear e0 h hOp hT hTe hOe hNe hCe hCy hCn hN hbad hn hR hz c0 c1 c2 c4 f0 f1 f2 f3 f4 hlo
  have t1 : ((bs [98, 111, 120]).toList == [105, 110, 116]) = false := by rw [bs_list']; rfl
  have t2 : ((bs [98, 111, 120]).toList == [98, 111, 111, 108]) = false := by rw [bs_list']; rfl
  have t3 : ((bs [98, 111, 120]).toList == [116, 101, 120, 116]) = false := by rw [bs_list']; rfl
  have t4 : ((bs [98, 111, 120]).toList == [63]) = false := by rw [bs_list']; rfl
  have t5 : ((bs [98, 111, 120]).toList == [40]) = false := by rw [bs_list']; rfl
  have t6 : ((bs [98, 111, 120]).toList == [91]) = false := by rw [bs_list']; rfl
  have t7 : ((bs [98, 111, 120]).toList == [98, 111, 120]) = true := by rw [bs_list']; rfl
  generalize hy : bs [98, 111, 120] = y at t1 t2 t3 t4 t5 t6 t7 HN
  have HT' : ∀ (o' : Int) (W : World) (hr : Rdr W g s p o' 0 0), Calls Try.prog 84 #[ptr g, .string ⟨#[98, 111, 120]⟩] W fun e w' => TakeY g s (a + 3) o' W e w' := HT.out
  have HTE' : ∀ (o' E Q : Int) (W : World) (hr : Rdr W g s p o' E Q) (he : (E != 0) = true), Calls Try.prog 84 #[ptr g, .string ⟨#[98, 111, 120]⟩] W fun e w' => e = .returned (.tuple #[]) ∧ W = w' := HTE.out
  clear HT HTE hy
  have HT := Lib.hid HT'
  have HTE := Lib.hid HTE'
  clear HT' HTE'

  have HC := Lib.hid hO
  clear hO
  cases z
  · have ho64 : o < 64 := by
      rcases Int.lt_or_eq_of_le ho with h | h
      · exact h
      · exact absurd (HZ.out.2 h) (by simp)
    clear HTE HOE HZ
    go_enter Try.func82, Try.ntmps82
    go_wp2_with fail
    refine HN.out.mono ?_
    rintro e w' ⟨rfl, rfl⟩
    go_wp2_with fail
    refine HOP.out.mono ?_
    rintro e w1 ⟨rfl, hb1, h1, _⟩
    replace h1 := h1 (by first | exact ho64 | (have := ho64; simp; omega) | simp)
    have HT1 := Lib.hid (HT.out _ _ h1)
    clear HT HOP HN h1
    go_wp2_with fail
    refine HT1.out.mono ?_
    rintro e w2 ⟨rfl, h2, hb2⟩
    replace hb2 := hb1.trans hb2
    clear hb1 HT1
    rcases hr : arm (tk s (a + 3)) with ⟨E, P⟩ | ⟨t, ts1⟩
    · have HRR : Hid (R = .no E P) := Lib.hid (by rw [HE0.out, hr]; rfl)
      have HO1 := Lib.hid ((HC.out (by first | rfl | trivial)).out hlo2 h2 hr)
      clear HC hr HE0 h2 HCY HCN HCE HNE
      go_wp2_with fail
      refine HO1.out.mono ?_
      rintro e w3 hout
      obtain ⟨t, p', o', rfl, q1, q2, q3, h3, hE, hb3⟩ := hout.no
      replace hb3 := hb2.trans hb3
      have HADD := fun W => add_bs (P := Try.prog) ⟨#[120]⟩ t W (by show 1 + t.size ≤ _; omega)
      obtain ⟨⟨c0, c1, c2, c3', c4⟩, f0, f1, f2, f3, f4⟩ := Blk.five h3
      have hr3 := fun o2 => rdr_open (o2 := o2) h3
      have hb4 := fun o2 => below_open hb3 o2
      have HR3 := Lib.hid hr3
      have HB4 := Lib.hid hb4
      clear HO1 hout h3 hb2 hb3 hr3 hb4 c3
      go_wp2_with fail
      go_ret
      rw [HRR.out]
      exact OutR.mkNo p' _ (by omega) q2 (by rw [ByteArray.size_append]; show 1 + t.size ≤ _; omega) (HR3.out _) hE (HB4.out _)
    · have HO1 := Lib.hid ((HC.out (by first | rfl | trivial)).out hlo2 h2 hr)
      have HRR : Hid (R = .yes (120 :: t) ts1) := Lib.hid (by rw [HE0.out, hr]; rfl)
      clear HC hr HE0 h2 HCE HNE HCY HCN
      go_wp2_with fail
      refine HO1.out.mono ?_
      rintro e w3 hout
      obtain ⟨rfl, p', q1, q2, q3, rfl, h3, hb3⟩ := hout.yes
      replace hb3 := hb2.trans hb3
      have HADD := fun W => add_bs (P := Try.prog) ⟨#[120]⟩ (bs t) W (by rw [bs_size]; show 1 + t.length ≤ _; omega)
      obtain ⟨⟨c0, c1, c2, c3', c4⟩, f0, f1, f2, f3, f4⟩ := Blk.five h3
      have HR3 := Lib.hid (rdr_open (o2 := o) h3)
      have HB4 := Lib.hid (below_open hb3 o)
      have ho1 : o + 1 - 1 = o := by omega
      have HO2 := Lib.hid ho1
      clear HO1 hout h3 hb2 hb3 ho1 c3
      go_wp2_with fail
      go_ret
      rw [HRR.out]
      exact OutR.mkYes (bs_app [120] t) p' (by omega) q2 (by simp only [List.length_cons]; omega) rfl (by first | exact HR3.out | (rw [← HO2.out]; exact HR3.out)) (by first | exact HB4.out | (rw [← HO2.out]; exact HB4.out))
  · obtain rfl : o = 64 := HZ.out.1 rfl
    have HRR : Hid (R = .no 16 a) := Lib.hid (by rw [HE0.out]; rfl)
    clear HC HT HCY HCN HE0 HZ
    go_enter Try.func82, Try.ntmps82
    go_wp2_with fail
    refine HN.out.mono ?_
    rintro e w' ⟨rfl, rfl⟩
    go_wp2_with fail
    refine HOP.out.mono ?_
    rintro e w1 ⟨rfl, hb1, _, h1⟩
    replace h1 := h1 (by simp)
    have HTE1 := Lib.hid (HTE.out 65 16 a w1 h1 (by decide))
    have HOE1 := Lib.hid (HOE.out 65 16 a w1 h1 (by decide))
    have HNE1 := Lib.hid (HNE.out p hp 65 16 a w1 h1 (by decide))
    have HCE1 := Lib.hid (HCE.out p hp 65 16 a w1 h1 (by decide))
    obtain ⟨⟨c0, c1, c2, c3', c4⟩, f0, f1, f2, f3, f4⟩ := Blk.five h1
    have hr2 := rdr_open (o2 := 64) h1
    have hb2 := below_open hb1 64
    have HR2 := Lib.hid hr2
    have HB2 := Lib.hid hb2
    clear h1 hb1 hr2 hb2 c3 HTE HOE HNE HCE
    go_wp2_with fail
    refine HTE1.out.mono ?_
    rintro e w' ⟨rfl, rfl⟩
    go_wp2_with fail
    refine HOE1.out.mono ?_
    rintro e w' ⟨rfl, rfl⟩
    go_wp2_with fail
    go_ret
    rw [HRR.out]
    exact OutR.mkNo p 64 (Nat.le_refl _) hp (by show 1 ≤ _; omega) HR2.out (by decide) HB2.out

/-- In parentheses. -/
theorem arm_par (z : Bool) (one arm : List Tok → Rd) (p : Nat) (o : Int) (w : World) (hp : p ≤ s.size) (h : Rdr w g s p o 0 0) (ho0 : 0 ≤ o) (ho : o ≤ 64) (hz : z = true ↔ o = 64)
    (hO : z = false → Con 61 one g s (o + 1)) (hn : (nx s p).tx = [40]) :
    Calls Try.prog 82 #[ptr g] w fun e w' => OutR (armS z one arm (tk s p)) g s p o w e w' := by
  have hbad : (nx s p).bad = false := by
    cases hb : (nx s p).bad
    · rfl
    · have := nx_bad hb; rw [hn] at this; cases this
  have e0 : armS z one arm (tk s p) = if z then .no 16 (nx s p).pl else match one (tk s ((nx s p).pl + 1)) with
      | .no e p => .no e p
      | .yes t ts1 => pairT one t ts1 := by
    unfold armS
    rw [tk_hd hp, hn, if_neg (by decide), if_pos (by decide), tk_tail hp (by rw [hn]; decide), hn]
    unfold failT
    rw [tk_hd hp, hbad]
    rfl
  have hlo := nx_lo hp
  rw [hn] at hlo
  have hlo1 : p ≤ (nx s p).pl := hlo.1
  have hlo2 : (nx s p).pl + 1 ≤ s.size := hlo.2
  have hN := now_tok g s p o w hp hs h hbad
  rw [hn] at hN
  have hOp := opens_any g s p o w hp hs h ho0 ho (by rw [hn]; decide)
  unfold OpensR at hOp
  have hT := fun (o' : Int) (W : World) (hr : Rdr W g s p o' 0 0) => take_yes g s p o' W hp hs hr [40] hn (by decide)
  have hTe := fun (o' E Q : Int) (W : World) (hr : Rdr W g s p o' E Q) (he : (E != 0) = true) => take_err g s p o' E Q W hp hs hr he [40] (by decide)
  have hOe := fun (o' E Q : Int) (W : World) (hr : Rdr W g s p o' E Q) (he : (E != 0) = true) => one_err g s hs p o' E Q W hp hr he
  have hNe := fun (p' : Nat) (hp' : p' ≤ s.size) (o' E Q : Int) (W : World) (hr : Rdr W g s p' o' E Q) (he : (E != 0) = true) => now_err g s p' o' E Q W hp' hs hr he
  have hCe := fun (p' : Nat) (hp' : p' ≤ s.size) (o' E Q : Int) (W : World) (hr : Rdr W g s p' o' E Q) (he : (E != 0) = true) => take_err g s p' o' E Q W hp' hs hr he [41] (by decide)
  have hCy := fun (p' : Nat) (hp' : p' ≤ s.size) (o' : Int) (W : World) (hr : Rdr W g s p' o' 0 0) (hx : (nx s p').tx = [41]) => take_yes g s p' o' W hp' hs hr [41] hx (by decide)
  have hCn := fun (p' : Nat) (hp' : p' ≤ s.size) (o' : Int) (W : World) (hr : Rdr W g s p' o' 0 0) (hx : (nx s p').tx ≠ [41]) => take_no g s p' o' W hp' hs hr [41] hx (by decide)
  obtain ⟨⟨c0, c1, c2, c3, c4⟩, f0, f1, f2, f3, f4⟩ := Blk.five h
  obtain ⟨R, hR⟩ : ∃ R, armS z one arm (tk s p) = R := ⟨_, rfl⟩
  rw [hR] at e0 ⊢
  generalize (nx s p).pl = a at hOp hT hN hlo hlo1 hlo2 e0
  have HE0 := Lib.hid e0
  have HOP := Lib.hid hOp
  have HT := Lib.hid hT
  have HTE := Lib.hid hTe
  have HOE := Lib.hid hOe
  have HNE := Lib.hid hNe
  have HCE := Lib.hid hCe
  have HCY := Lib.hid hCy
  have HCN := Lib.hid hCn
  have HN := Lib.hid hN
  have HZ := Lib.hid hz
  clear e0 h hOp hT hTe hOe hNe hCe hCy hCn hN hbad hn hR hz c0 c1 c2 c4 f0 f1 f2 f3 f4 hlo
  have t1 : ((bs [40]).toList == [105, 110, 116]) = false := by rw [bs_list']; rfl
  have t2 : ((bs [40]).toList == [98, 111, 111, 108]) = false := by rw [bs_list']; rfl
  have t3 : ((bs [40]).toList == [116, 101, 120, 116]) = false := by rw [bs_list']; rfl
  have t4 : ((bs [40]).toList == [63]) = false := by rw [bs_list']; rfl
  have t5 : ((bs [40]).toList == [40]) = true := by rw [bs_list']; rfl
  generalize hy : bs [40] = y at t1 t2 t3 t4 t5 HN
  have HT' : ∀ (o' : Int) (W : World) (hr : Rdr W g s p o' 0 0), Calls Try.prog 84 #[ptr g, .string ⟨#[40]⟩] W fun e w' => TakeY g s (a + 1) o' W e w' := HT.out
  have HTE' : ∀ (o' E Q : Int) (W : World) (hr : Rdr W g s p o' E Q) (he : (E != 0) = true), Calls Try.prog 84 #[ptr g, .string ⟨#[40]⟩] W fun e w' => e = .returned (.tuple #[]) ∧ W = w' := HTE.out
  clear HT HTE hy
  have HT := Lib.hid HT'
  have HTE := Lib.hid HTE'
  clear HT' HTE'

  have HC := Lib.hid hO
  clear hO
  cases z
  · have ho64 : o < 64 := by
      rcases Int.lt_or_eq_of_le ho with h | h
      · exact h
      · exact absurd (HZ.out.2 h) (by simp)
    clear HTE HOE HZ
    go_enter Try.func82, Try.ntmps82
    go_wp2_with fail
    refine HN.out.mono ?_
    rintro e w' ⟨rfl, rfl⟩
    go_wp2_with fail
    refine HOP.out.mono ?_
    rintro e w1 ⟨rfl, hb1, h1, _⟩
    replace h1 := h1 (by first | exact ho64 | (have := ho64; simp; omega) | simp)
    have HT1 := Lib.hid (HT.out _ _ h1)
    clear HT HOP HN h1
    go_wp2_with fail
    refine HT1.out.mono ?_
    rintro e w2 ⟨rfl, h2, hb2⟩
    replace hb2 := hb1.trans hb2
    clear hb1 HT1
    rcases hr : one (tk s (a + 1)) with ⟨E, P⟩ | ⟨t, ts1⟩
    · have HRR : Hid (R = .no E P) := Lib.hid (by rw [HE0.out, hr]; rfl)
      have HO1 := Lib.hid ((HC.out (by first | rfl | trivial)).out hlo2 h2 hr)
      clear HC hr HE0 h2 HCY HCN
      go_wp2_with fail
      refine HO1.out.mono ?_
      rintro e wx hout
      obtain ⟨t, p', o', rfl, q1, q2, q3, hX, hE, hbX⟩ := hout.no
      replace hbX := hb2.trans hbX
      have HNE1 := Lib.hid (HNE.out p' q2 o' E P wx hX hE)
      clear HO1 hout HNE c3 hb2
      go_wp2_with fail
      refine HNE1.out.mono ?_
      rintro e w' ⟨k, _, _, rfl, rfl⟩
      have HCE1 := Lib.hid (HCE.out p' q2 o' E P wx hX hE)
      obtain ⟨⟨c0, c1, c2, c3', c4⟩, f0, f1, f2, f3, f4⟩ := Blk.five hX
      have hr3 := fun o2 => rdr_open (o2 := o2) hX
      have hb4 := fun o2 => below_open hbX o2
      have HR3 := Lib.hid hr3
      have HB4 := Lib.hid hb4
      clear hX hbX hr3 hb4 HCE
      go_wp2_with fail
      refine HCE1.out.mono ?_
      rintro e w' ⟨rfl, rfl⟩
      go_wp2_with fail
      go_ret
      rw [HRR.out]
      exact OutR.mkNo p' _ (by omega) q2 (by omega) (HR3.out _) hE (HB4.out _)
    · have HO1 := Lib.hid ((HC.out (by first | rfl | trivial)).out hlo2 h2 hr)
      have HRR : Hid (R = pairT one t ts1) := Lib.hid (by rw [HE0.out, hr]; rfl)
      clear hr HE0 h2
      go_wp2_with fail
      refine HO1.out.mono ?_
      rintro e wx hout
      obtain ⟨rfl, p1, r1, r2, r3, rfl, h3, hb3⟩ := hout.yes
      replace hb3 := hb2.trans hb3
      clear HO1 hout c3 hb2
      by_cases hcm : (nx s p1).tx = [44]
      · have hbd : (nx s p1).bad = false := by
          cases hb : (nx s p1).bad
          · rfl
          · have := nx_bad hb; rw [hcm] at this; cases this
        have hN1 := now_tok g s p1 (o + 1) wx r2 hs h3 hbd
        have hT1 := take_yes g s p1 (o + 1) wx r2 hs h3 [44] hcm (by decide)
        have hl1 := nx_lo r2
        rw [hcm] at hN1 hl1
        have hR : R = match one (tk s ((nx s p1).pl + 1)) with
            | .no e p => .no e p
            | .yes u ts2 => endT (44 :: (t ++ u)) [41] ts2 := by
          rw [HRR.out]; unfold pairT; rw [tk_hd r2, if_pos hcm, tk_tail r2 (by rw [hcm]; decide), hcm]; rfl
        have hl2 : (nx s p1).pl + 1 ≤ s.size := hl1.2
        have hl3 : p1 ≤ (nx s p1).pl := hl1.1
        generalize (nx s p1).pl = a1 at *
        obtain ⟨⟨c0, c1, c2, c3, c4⟩, f0, f1, f2, f3, f4⟩ := Blk.five h3
        have t7 : ((bs [44]).toList == [44]) = true := by rw [bs_list']; rfl
        have HN1 := Lib.hid hN1
        have hT1' : Calls Try.prog 84 #[ptr g, .string ⟨#[44]⟩] wx fun e w' => TakeY g s (a1 + 1) (o + 1) wx e w' := hT1
        have HT1 := Lib.hid hT1'
        have HRQ := Lib.hid hR
        generalize bs [44] = y1 at t7 HN1
        clear hN1 hT1 hT1' hl1 hcm hbd h3 hR HRR c0 c1 c2 c4 f0 f1 f2 f3 f4
        go_wp2_with fail
        refine HN1.out.mono ?_
        rintro e w' ⟨rfl, rfl⟩
        go_wp2_with fail
        refine HT1.out.mono ?_
        rintro e w4 ⟨rfl, h4, hb4⟩
        replace hb4 := hb3.trans hb4
        clear HN1 HT1 hb3 c3
        rcases hr : one (tk s (a1 + 1)) with ⟨E, P⟩ | ⟨u, ts2⟩
        · have HRR : Hid (R = .no E P) := Lib.hid (by rw [HRQ.out, hr])
          have HO1 := Lib.hid ((HC.out (by first | rfl | trivial)).out hl2 h4 hr)
          have HA1 := fun W => add_bs (P := Try.prog) ⟨#[44]⟩ (bs t) W (by rw [bs_size]; show 1 + t.length ≤ _; omega)
          clear HC hr h4 HCY HCN HNE HRQ
          go_wp2_with fail
          refine HO1.out.mono ?_
          rintro e wx hout
          obtain ⟨u, p', o', rfl, q1, q2, q3, hX, hE, hbX⟩ := hout.no
          replace hbX := hb4.trans hbX
          have HA2 := fun W => add_bs (P := Try.prog) (⟨#[44]⟩ ++ bs t) u W (by rw [ByteArray.size_append, bs_size]; show 1 + t.length + u.size ≤ _; omega)
          clear HO1 hout hb4
          have HCE1 := Lib.hid (HCE.out p' q2 o' E P wx hX hE)
          obtain ⟨⟨c0, c1, c2, c3', c4⟩, f0, f1, f2, f3, f4⟩ := Blk.five hX
          have hr3 := fun o2 => rdr_open (o2 := o2) hX
          have hb4 := fun o2 => below_open hbX o2
          have HR3 := Lib.hid hr3
          have HB4 := Lib.hid hb4
          clear hX hbX hr3 hb4 HCE
          go_wp2_with fail
          refine HCE1.out.mono ?_
          rintro e w' ⟨rfl, rfl⟩
          go_wp2_with fail
          go_ret
          rw [HRR.out]
          exact OutR.mkNo p' _ (by omega) q2 (by rw [ByteArray.size_append, ByteArray.size_append, bs_size]; show 1 + t.length + u.size ≤ _; omega) (HR3.out _) hE (HB4.out _)
        · have HO1 := Lib.hid ((HC.out (by first | rfl | trivial)).out hl2 h4 hr)
          have HRE : Hid (R = endT (44 :: (t ++ u)) [41] ts2) := Lib.hid (by rw [HRQ.out, hr])
          have HA1 := fun W => add_bs (P := Try.prog) ⟨#[44]⟩ (bs t) W (by rw [bs_size]; show 1 + t.length ≤ _; omega)
          clear HC hr h4 HNE HCE HRQ
          go_wp2_with fail
          refine HO1.out.mono ?_
          rintro e wx hout
          obtain ⟨rfl, p', q1, q2, q3, rfl, hX, hbX⟩ := hout.yes
          replace hbX := hb4.trans hbX
          have HA2 := fun W => add_bs (P := Try.prog) (⟨#[44]⟩ ++ bs t) (bs u) W (by rw [ByteArray.size_append, bs_size, bs_size]; show 1 + t.length + u.length ≤ _; omega)
          clear HO1 hout hb4
          by_cases hx : (nx s p').tx = [41]
          · have HC1 := Lib.hid (HCY.out p' q2 (o + 1) wx hX hx)
            have hl3 := nx_lo q2
            rw [hx] at hl3
            have hR : R = .yes (44 :: (t ++ u)) (tk s ((nx s p').pl + 1)) := by
              rw [HRE.out]; unfold endT; rw [tk_hd q2, if_pos hx, tk_tail q2 (by rw [hx]; decide), hx]; rfl
            have hl4 : (nx s p').pl + 1 ≤ s.size := hl3.2
            have hl5 : p' ≤ (nx s p').pl := hl3.1
            have HRS := Lib.hid hR
            generalize (nx s p').pl = b at *
            clear HCY HCN hX hx hl3 hR HRE
            go_wp2_with fail
            refine HC1.out.mono ?_
            rintro e w6 ⟨rfl, h4, hb4⟩
            replace hb4 := hbX.trans hb4
            obtain ⟨⟨c0, c1, c2, c3', c4⟩, f0, f1, f2, f3, f4⟩ := Blk.five h4
            have HR3 := Lib.hid (rdr_open (o2 := o) h4)
            have HB4 := Lib.hid (below_open hb4 o)
            have ho1 : o + 1 - 1 = o := by omega
            have HO2 := Lib.hid ho1
            clear h4 hbX hb4 ho1
            go_wp2_with fail
            go_ret
            rw [HRS.out]
            exact OutR.mkYes (by rw [show (⟨#[44]⟩ : ByteArray) = bs [44] from rfl, bs_app, bs_app]; rfl) (b + 1) (by omega) hl4 (by first | (simp only [List.length_cons, List.length_append]; omega) | omega) rfl (by first | exact HR3.out | (rw [← HO2.out]; exact HR3.out)) (by first | exact HB4.out | (rw [← HO2.out]; exact HB4.out))
          · have HC1 := Lib.hid (HCN.out p' q2 (o + 1) wx hX hx)
            have hR : R = .no (if (nx s p').bad then 11 else 15) (nx s p').pl := by
              rw [HRE.out]; unfold endT; rw [tk_hd q2, if_neg hx]; unfold failT; rw [tk_hd q2]
            obtain ⟨E, hE⟩ : ∃ E : Nat, (if (nx s p').bad then 11 else 15) = E := ⟨_, rfl⟩
            have hEi : (if (nx s p').bad = true then (11 : Int) else 15) = (E : Int) := by rw [← hE]; split <;> rfl
            have hE0 : ((E : Int) != 0) = true := by rw [← hEi]; cases (nx s p').bad <;> decide
            rw [hE] at hR
            rw [hEi] at HC1
            have HRS := Lib.hid hR
            generalize (nx s p').pl = b at *
            clear HCY HCN hX hx hR HRE hE hEi
            go_wp2_with fail
            refine HC1.out.mono ?_
            rintro e w6 ⟨rfl, h4, hb4⟩
            replace hb4 := hbX.trans hb4
            obtain ⟨⟨c0, c1, c2, c3', c4⟩, f0, f1, f2, f3, f4⟩ := Blk.five h4
            have hr3 := fun o2 => rdr_open (o2 := o2) h4
            have hb5 := fun o2 => below_open hb4 o2
            have HR3 := Lib.hid hr3
            have HB4 := Lib.hid hb5
            clear h4 hbX hb4 hr3 hb5
            go_wp2_with fail
            go_ret
            rw [HRS.out]
            exact OutR.mkNo p' _ (by omega) q2 (by first | (simp only [ByteArray.size_append, bs_size]; show 1 + _ + _ ≤ _; omega) | (rw [bs_size]; omega)) (HR3.out _) hE0 (HB4.out _)
      · have HRE : Hid (R = endT t [41] (tk s p1)) := Lib.hid (by rw [HRR.out]; unfold pairT; rw [tk_hd r2, if_neg hcm])
        cases hbd : (nx s p1).bad
        · have hN1 := now_tok g s p1 (o + 1) wx r2 hs h3 hbd
          have t7 := bs_ne hcm
          generalize hyy : bs (nx s p1).tx = y1 at hN1 t7
          generalize hpp : (nx s p1).pl = a1 at hN1
          have HN1 := Lib.hid hN1
          clear hN1 HC HRR HNE HCE hcm hbd hyy hpp
          go_wp2_with fail
          refine HN1.out.mono ?_
          rintro e w' ⟨rfl, rfl⟩
          obtain ⟨p', hpe⟩ : ∃ p', p1 = p' := ⟨_, rfl⟩
          subst hpe
          have q2 := r2
          have hX := h3
          have hbX := hb3
          clear h3 hb3 HN1
          by_cases hx : (nx s p1).tx = [41]
          · have HC1 := Lib.hid (HCY.out p1 q2 (o + 1) wx hX hx)
            have hl3 := nx_lo q2
            rw [hx] at hl3
            have hR : R = .yes (t) (tk s ((nx s p1).pl + 1)) := by
              rw [HRE.out]; unfold endT; rw [tk_hd q2, if_pos hx, tk_tail q2 (by rw [hx]; decide), hx]; rfl
            have hl4 : (nx s p1).pl + 1 ≤ s.size := hl3.2
            have hl5 : p1 ≤ (nx s p1).pl := hl3.1
            have HRS := Lib.hid hR
            generalize (nx s p1).pl = b at *
            clear HCY HCN hX hx hl3 hR HRE
            go_wp2_with fail
            refine HC1.out.mono ?_
            rintro e w6 ⟨rfl, h4, hb4⟩
            replace hb4 := hbX.trans hb4
            obtain ⟨⟨c0, c1, c2, c3', c4⟩, f0, f1, f2, f3, f4⟩ := Blk.five h4
            have HR3 := Lib.hid (rdr_open (o2 := o) h4)
            have HB4 := Lib.hid (below_open hb4 o)
            have ho1 : o + 1 - 1 = o := by omega
            have HO2 := Lib.hid ho1
            clear h4 hbX hb4 ho1
            go_wp2_with fail
            go_ret
            rw [HRS.out]
            exact OutR.mkYes (rfl) (b + 1) (by omega) hl4 (by first | (simp only [List.length_cons, List.length_append]; omega) | omega) rfl (by first | exact HR3.out | (rw [← HO2.out]; exact HR3.out)) (by first | exact HB4.out | (rw [← HO2.out]; exact HB4.out))
          · have HC1 := Lib.hid (HCN.out p1 q2 (o + 1) wx hX hx)
            have hR : R = .no (if (nx s p1).bad then 11 else 15) (nx s p1).pl := by
              rw [HRE.out]; unfold endT; rw [tk_hd q2, if_neg hx]; unfold failT; rw [tk_hd q2]
            obtain ⟨E, hE⟩ : ∃ E : Nat, (if (nx s p1).bad then 11 else 15) = E := ⟨_, rfl⟩
            have hEi : (if (nx s p1).bad = true then (11 : Int) else 15) = (E : Int) := by rw [← hE]; split <;> rfl
            have hE0 : ((E : Int) != 0) = true := by rw [← hEi]; cases (nx s p1).bad <;> decide
            rw [hE] at hR
            rw [hEi] at HC1
            have HRS := Lib.hid hR
            generalize (nx s p1).pl = b at *
            clear HCY HCN hX hx hR HRE hE hEi
            go_wp2_with fail
            refine HC1.out.mono ?_
            rintro e w6 ⟨rfl, h4, hb4⟩
            replace hb4 := hbX.trans hb4
            obtain ⟨⟨c0, c1, c2, c3', c4⟩, f0, f1, f2, f3, f4⟩ := Blk.five h4
            have hr3 := fun o2 => rdr_open (o2 := o2) h4
            have hb5 := fun o2 => below_open hb4 o2
            have HR3 := Lib.hid hr3
            have HB4 := Lib.hid hb5
            clear h4 hbX hb4 hr3 hb5
            go_wp2_with fail
            go_ret
            rw [HRS.out]
            exact OutR.mkNo p1 _ (by omega) q2 (by first | (simp only [ByteArray.size_append, bs_size]; show 1 + _ + _ ≤ _; omega) | (rw [bs_size]; omega)) (HR3.out _) hE0 (HB4.out _)
        · have hN1 := now_bad g s p1 (o + 1) wx r2 hs h3 hbd
          have HRR2 : Hid (R = .no 11 (nx s p1).pl) := Lib.hid (by
            rw [HRE.out]; unfold endT; rw [tk_hd r2, if_neg (by rw [nx_bad hbd]; decide)]; unfold failT; rw [tk_hd r2, hbd]; rfl)
          have HN1 := Lib.hid hN1
          generalize (nx s p1).pl = P at *
          clear hN1 HC HRR HNE HCY HCN hcm hbd HRE h3
          go_wp2_with fail
          refine HN1.out.mono ?_
          rintro e w5 ⟨rfl, hX, hbX⟩
          replace hbX := hb3.trans hbX
          have HRR := HRR2
          clear HN1 hb3 HRR2
          have HCE1 := Lib.hid (HCE.out p1 r2 (o + 1) 11 P w5 hX (by decide))
          obtain ⟨⟨c0, c1, c2, c3', c4⟩, f0, f1, f2, f3, f4⟩ := Blk.five hX
          have hr3 := fun o2 => rdr_open (o2 := o2) hX
          have hb4 := fun o2 => below_open hbX o2
          have HR3 := Lib.hid hr3
          have HB4 := Lib.hid hb4
          clear hX hbX hr3 hb4 HCE
          go_wp2_with fail
          refine HCE1.out.mono ?_
          rintro e w' ⟨rfl, rfl⟩
          go_wp2_with fail
          go_ret
          rw [HRR.out]
          exact OutR.mkNo p1 _ (by omega) r2 (by rw [bs_size]; omega) (HR3.out _) (by decide) (HB4.out _)
  · obtain rfl : o = 64 := HZ.out.1 rfl
    have HRR : Hid (R = .no 16 a) := Lib.hid (by rw [HE0.out]; rfl)
    clear HC HT HCY HCN HE0 HZ
    go_enter Try.func82, Try.ntmps82
    go_wp2_with fail
    refine HN.out.mono ?_
    rintro e w' ⟨rfl, rfl⟩
    go_wp2_with fail
    refine HOP.out.mono ?_
    rintro e w1 ⟨rfl, hb1, _, h1⟩
    replace h1 := h1 (by simp)
    have HTE1 := Lib.hid (HTE.out 65 16 a w1 h1 (by decide))
    have HOE1 := Lib.hid (HOE.out 65 16 a w1 h1 (by decide))
    have HNE1 := Lib.hid (HNE.out p hp 65 16 a w1 h1 (by decide))
    have HCE1 := Lib.hid (HCE.out p hp 65 16 a w1 h1 (by decide))
    obtain ⟨⟨c0, c1, c2, c3', c4⟩, f0, f1, f2, f3, f4⟩ := Blk.five h1
    have hr2 := rdr_open (o2 := 64) h1
    have hb2 := below_open hb1 64
    have HR2 := Lib.hid hr2
    have HB2 := Lib.hid hb2
    clear h1 hb1 hr2 hb2 c3 HTE HOE HNE HCE
    go_wp2_with fail
    refine HTE1.out.mono ?_
    rintro e w' ⟨rfl, rfl⟩
    go_wp2_with fail
    refine HOE1.out.mono ?_
    rintro e w' ⟨rfl, rfl⟩
    go_wp2_with fail
    refine HNE1.out.mono ?_
    rintro e w' ⟨k, _, _, rfl, rfl⟩
    go_wp2_with fail
    refine HCE1.out.mono ?_
    rintro e w' ⟨rfl, rfl⟩
    go_wp2_with fail
    go_ret
    rw [HRR.out]
    exact OutR.mkNo p 64 (Nat.le_refl _) hp (by show 0 ≤ _; omega) HR2.out (by decide) HB2.out

end
end Go.Proofs.Ythonnpjlkcjoeaa.T
