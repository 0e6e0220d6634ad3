/- Contract of the answer's Read. -/
import Derived.Test.YthonnpjlkcjoeaaRdE
namespace Go.Proofs.Ythonnpjlkcjoeaa.T
open Go.RowKit Go.Proofs.Ythonnpjlkcjoeaa.B
set_option linter.unusedSimpArgs false
set_option linter.unusedVariables false
set_option linter.unusedSectionVars false

/-- Whoever has looked at what is next has met the fault there. -/
def fz : Rd → Rd
  | .no e p => .no e p
  | .yes t ts => if (hd ts).bad = true ∧ (hd ts).tx = [] then .no 11 (hd ts).pl else .yes t ts
theorem fz_yes {r : Rd} {t : List UInt8} {ts : List Tok} (h : fz r = .yes t ts) : r = .yes t ts ∧ ¬ ((hd ts).bad = true ∧ (hd ts).tx = []) := by
  rcases r with ⟨e, p⟩ | ⟨t', ts'⟩
  · cases h
  · unfold fz at h
    simp only at h
    split at h
    · cases h
    · rename_i h1
      injection h with h2 h3
      subst h2 h3
      exact ⟨rfl, h1⟩
theorem endT_fz {t x : List UInt8} {ts : List Tok} (hx : x ≠ []) (h : (hd ts).bad = true ∧ (hd ts).tx = []) : endT t x ts = .no 11 (hd ts).pl := by
  unfold endT failT; rw [if_neg (by rw [h.2]; exact fun e => hx e.symm), h.1]; rfl
theorem fz_match (r : Rd) (k k' : List UInt8 → List Tok → Rd) (hk : ∀ t ts, (hd ts).bad = true ∧ (hd ts).tx = [] → k' t ts = .no 11 (hd ts).pl) (hkk : ∀ t ts, k t ts = k' t ts) :
    (match fz r with | .no e p => Rd.no e p | .yes t ts => k t ts) = match r with | .no e p => Rd.no e p | .yes t ts => k' t ts := by
  rcases r with ⟨e, p⟩ | ⟨t, ts⟩
  · rfl
  · unfold fz
    simp only
    by_cases hb : (hd ts).bad = true ∧ (hd ts).tx = []
    · rw [if_pos hb]; exact (hk t ts hb).symm
    · rw [if_neg hb]; exact hkk t ts
theorem pairT_fz (one : List Tok → Rd) (t : List UInt8) (ts : List Tok) : pairT (fun ts => fz (one ts)) t ts = pairT one t ts := by
  unfold pairT
  split
  · exact fz_match (one ts.tail) (fun u ts2 => endT (44 :: (t ++ u)) [41] ts2) (fun u ts2 => endT (44 :: (t ++ u)) [41] ts2) (fun _ _ hb => endT_fz (by decide) hb) (fun _ _ => rfl)
  · rfl
theorem armS_fz (z : Bool) (one arm : List Tok → Rd) (ts : List Tok) : armS z (fun ts => fz (one ts)) arm ts = armS z one arm ts := by
  unfold armS
  split
  · rfl
  · split
    · split
      · rfl
      · exact fz_match (one ts.tail) (fun t ts1 => pairT (fun ts => fz (one ts)) t ts1) (fun t ts1 => pairT one t ts1)
          (fun t ts1 hb => by unfold pairT; rw [if_neg (by rw [hb.2]; decide), endT_fz (by decide) hb]) (fun t ts1 => pairT_fz one t ts1)
    · split
      · split
        · rfl
        · exact fz_match (one ts.tail) (fun t ts1 => endT (108 :: t) [93] ts1) (fun t ts1 => endT (108 :: t) [93] ts1) (fun _ _ hb => endT_fz (by decide) hb) (fun _ _ => rfl)
      · rfl
theorem fz_idem (r : Rd) (f : List UInt8 → List UInt8) : fz (match fz r with | .no e p => .no e p | .yes b ts2 => .yes (f b) ts2) = fz (match r with | .no e p => .no e p | .yes b ts2 => .yes (f b) ts2) := by
  rcases r with ⟨e, p⟩ | ⟨b, ts2⟩
  · rfl
  · unfold fz
    simp only
    by_cases hb : (hd ts2).bad = true ∧ (hd ts2).tx = []
    · rw [if_pos hb]; simp only; rw [if_pos hb]
    · rw [if_neg hb]
theorem oneS_fz (z : Bool) (one arm : List Tok → Rd) (ts : List Tok) : fz (oneS z (fun ts => fz (one ts)) arm ts) = fz (oneS z one arm ts) := by
  unfold oneS
  rcases h : arm ts with ⟨e, p⟩ | ⟨a, ts1⟩
  · rfl
  · simp only
    split
    · split
      · rfl
      · exact fz_idem (one ts1.tail) (fun b => 62 :: (a ++ b))
    · rfl

section
variable (g : Nat) (s : ByteArray) (hs : s.size ≤ 4611686018427387904)
include hs

/-- Every token: arm. -/
theorem arm_any (z : Bool) (one arm : List Tok → Rd) (o : Int) (ho0 : 0 ≤ o) (ho : o ≤ 64) (hz : z = true ↔ o = 64)
    (hO : z = false → Con 61 one g s (o + 1)) (hA : z = false → Con 82 arm g s (o + 1)) :
    Con 82 (armS z one arm) g s o := by
  intro p w hp h
  by_cases n1 : (nx s p).tx = wI
  · exact arm_base g s hs z one arm p o w hp h (.inl n1)
  by_cases n2 : (nx s p).tx = wB
  · exact arm_base g s hs z one arm p o w hp h (.inr (.inl n2))
  by_cases n3 : (nx s p).tx = wT
  · exact arm_base g s hs z one arm p o w hp h (.inr (.inr (.inl n3)))
  by_cases n4 : (nx s p).tx = [63]
  · exact arm_base g s hs z one arm p o w hp h (.inr (.inr (.inr n4)))
  by_cases n5 : (nx s p).tx = [40]
  · exact arm_par g s hs z one arm p o w hp h ho0 ho hz hO n5
  by_cases n6 : (nx s p).tx = [91]
  · exact arm_list g s hs z one arm p o w hp h ho0 ho hz hO n6
  by_cases n7 : (nx s p).tx = wX
  · exact arm_box g s hs z one arm p o w hp h ho0 ho hz hA n7
  exact arm_none g s hs z one arm p o w hp h ⟨n1, n2, n3, n4, n5, n6, n7⟩

theorem one_any (z : Bool) (one arm : List Tok → Rd) (o : Int) (ho0 : 0 ≤ o) (ho : o ≤ 64) (hz : z = true ↔ o = 64)
    (hO : z = false → Con 61 one g s (o + 1)) (hA : Con 82 arm g s o)
    (hfz : ∀ ts t ts', one ts = .yes t ts' → ¬ ((hd ts').bad = true ∧ (hd ts').tx = [])) :
    Con 61 (fun ts => fz (oneS z one arm ts)) g s o := by
  intro p w hp h
  show Calls _ _ _ _ (fun e w' => OutR (fz (oneS z one arm (tk s p))) g s p o w e w')
  obtain ⟨R, hR⟩ : ∃ R, fz (oneS z one arm (tk s p)) = R := ⟨_, rfl⟩
  rw [hR]
  have HR0 := Lib.hid hR
  have HO := Lib.hid hO
  have HZ := Lib.hid hz
  have HFZ := Lib.hid hfz
  clear hR hO hz hfz
  rcases hr : arm (tk s p) with ⟨E, P⟩ | ⟨a, ts1⟩
  · have HRR : Hid (R = .no E P) := Lib.hid (by rw [← HR0.out]; unfold oneS; rw [hr]; rfl)
    have HA := Lib.hid (hA.out hp h hr)
    clear hA hr h HR0 HO HZ HFZ
    go_enter Try.func61, Try.ntmps61
    go_wp2_with fail
    refine HA.out.mono ?_
    rintro e wx hout
    obtain ⟨t, p', o', rfl, q1, q2, q3, hX, hE, hbX⟩ := hout.no
    have HNE1 := Lib.hid (now_err g s p' o' E P wx q2 hs hX hE)
    have HX := Lib.hid hX
    have HBX := Lib.hid hbX
    clear HA hout hX hbX
    go_wp2_with fail
    refine HNE1.out.mono ?_
    rintro e w' ⟨k, _, _, rfl, rfl⟩
    go_wp2_with fail
    go_ret
    rw [HRR.out]
    exact OutR.mkNo p' _ (by omega) q2 (by omega) HX.out hE HBX.out
  · have HA := Lib.hid (hA.out hp h hr)
    have HR1 : Hid (R = fz (if (hd ts1).tx = [45, 62] then (if z then failT 16 ts1 else match one ts1.tail with
        | .no e p => .no e p
        | .yes b ts2 => .yes (62 :: (a ++ b)) ts2) else .yes a ts1)) := Lib.hid (by rw [← HR0.out]; unfold oneS; rw [hr]; rfl)
    clear hA hr h HR0
    go_enter Try.func61, Try.ntmps61
    go_wp2_with fail
    refine HA.out.mono ?_
    rintro e wx hout
    obtain ⟨rfl, p1, r1, r2, r3, rfl, h3, hb3⟩ := hout.yes
    clear HA hout
    have hlo := nx_lo r2
    rw [tk_hd r2] at HR1
    by_cases hx : (nx s p1).tx = [45, 62]
    · have hbd : (nx s p1).bad = false := by
        cases hb : (nx s p1).bad
        · rfl
        · have := nx_bad hb; rw [hx] at this; cases this
      have hN1 := now_tok g s p1 o wx r2 hs h3 hbd
      have hOp := opens_any g s p1 o wx r2 hs h3 ho0 ho (by rw [hx]; decide)
      unfold OpensR at hOp
      rw [hx] at hN1 hlo
      have hl2 : (nx s p1).pl + 2 ≤ s.size := hlo.2
      have hl1 : p1 ≤ (nx s p1).pl := hlo.1
      have hT := fun (o' : Int) (W : World) (hr : Rdr W g s p1 o' 0 0) => take_yes g s p1 o' W r2 hs hr [45, 62] hx (by decide)
      have hT' : ∀ (o' : Int) (W : World) (hr : Rdr W g s p1 o' 0 0), Calls Try.prog 84 #[ptr g, .string ⟨#[45, 62]⟩] W fun e w' => TakeY g s ((nx s p1).pl + 2) o' W e w' := hT
      have HR2 : Hid (R = fz (if z then .no 16 (nx s p1).pl else match one (tk s ((nx s p1).pl + 2)) with
        | .no e p => .no e p
        | .yes b ts2 => .yes (62 :: (a ++ b)) ts2)) := Lib.hid (by
          rw [HR1.out, if_pos hx, tk_tail r2 (by rw [hx]; decide), hx]
          unfold failT
          rw [tk_hd r2, hbd]; rfl)
      obtain ⟨⟨c0, c1, c2, c3, c4⟩, f0, f1, f2, f3, f4⟩ := Blk.five h3
      have t7 : ((bs [45, 62]).toList == [45, 62]) = true := by rw [bs_list']; rfl
      have t8 : ((bs [45, 62]).toList != [45, 62]) = false := by rw [bs_list']; rfl
      generalize bs [45, 62] = y1 at t7 t8 hN1
      generalize (nx s p1).pl = a1 at *
      have HN1 := Lib.hid hN1
      have HOP := Lib.hid hOp
      have HT := Lib.hid hT'
      clear hN1 hOp hT hT' hx hbd h3 hlo HR1 c0 c1 c2 c4 f0 f1 f2 f3 f4
      go_wp2_with fail
      refine HN1.out.mono ?_
      rintro e w' ⟨rfl, rfl⟩
      go_wp2_with fail
      cases z
      · have ho64 : o < 64 := by
          rcases Int.lt_or_eq_of_le ho with h | h
          · exact h
          · exact absurd (HZ.out.2 h) (by simp)
        refine HOP.out.mono ?_
        rintro e w1 ⟨rfl, hb1, h1, _⟩
        replace h1 := h1 (by first | exact ho64 | (have := ho64; simp; omega) | simp)
        have HT1 := Lib.hid (HT.out _ _ h1)
        clear HT HOP HN1 h1 c3
        go_wp2_with fail
        refine HT1.out.mono ?_
        rintro e w2 ⟨rfl, h2, hb2⟩
        replace hb2 := (hb3.trans hb1).trans hb2
        clear hb1 hb3 HT1
        rcases hr : one (tk s (a1 + 2)) with ⟨E, P⟩ | ⟨b, ts2⟩
        · have HRR : Hid (R = .no E P) := Lib.hid (by rw [HR2.out, hr]; rfl)
          have HO1 := Lib.hid ((HO.out (by first | rfl | trivial)).out hl2 h2 hr)
          have HA1 := fun W => add_bs (P := Try.prog) ⟨#[62]⟩ (bs a) W (by rw [bs_size]; show 1 + a.length ≤ _; omega)
          clear HO hr h2 HR2 HFZ
          go_wp2_with fail
          refine HO1.out.mono ?_
          rintro e wx hout
          obtain ⟨t, p', o', rfl, q1, q2, q3, hX, hE, hbX⟩ := hout.no
          replace hbX := hb2.trans hbX
          have HA2 := fun W => add_bs (P := Try.prog) (⟨#[62]⟩ ++ bs a) t W (by rw [ByteArray.size_append, bs_size]; show 1 + a.length + t.size ≤ _; omega)
          obtain ⟨⟨c0, c1, c2, c3', c4⟩, f0, f1, f2, f3, f4⟩ := Blk.five hX
          have hr3 := fun o2 => rdr_open (o2 := o2) hX
          have hb4 := fun o2 => below_open hbX o2
          have HR3 := Lib.hid hr3
          have HB4 := Lib.hid hb4
          clear HO1 hout hX hbX hr3 hb4 hb2
          go_wp2_with fail
          go_ret
          rw [HRR.out]
          exact OutR.mkNo p' _ (by omega) q2 (by rw [ByteArray.size_append, ByteArray.size_append, bs_size]; show 1 + a.length + t.size ≤ _; omega) (HR3.out _) hE (HB4.out _)
        · have hfb := HFZ.out _ _ _ hr
          have HRR : Hid (R = .yes (62 :: (a ++ b)) ts2) := Lib.hid (by rw [HR2.out, hr]; show fz (.yes _ _) = _; unfold fz; simp only; rw [if_neg hfb])
          have HO1 := Lib.hid ((HO.out (by first | rfl | trivial)).out hl2 h2 hr)
          have HA1 := fun W => add_bs (P := Try.prog) ⟨#[62]⟩ (bs a) W (by rw [bs_size]; show 1 + a.length ≤ _; omega)
          clear HO hr h2 HR2 HFZ hfb
          go_wp2_with fail
          refine HO1.out.mono ?_
          rintro e wx hout
          obtain ⟨rfl, p', q1, q2, q3, rfl, hX, hbX⟩ := hout.yes
          replace hbX := hb2.trans hbX
          have HA2 := fun W => add_bs (P := Try.prog) (⟨#[62]⟩ ++ bs a) (bs b) W (by rw [ByteArray.size_append, bs_size, bs_size]; show 1 + a.length + b.length ≤ _; omega)
          obtain ⟨⟨c0, c1, c2, c3', c4⟩, f0, f1, f2, f3, f4⟩ := Blk.five hX
          have HR3 := Lib.hid (rdr_open (o2 := o) hX)
          have HB4 := Lib.hid (below_open hbX o)
          have ho1 : o + 1 - 1 = o := by omega
          have HO2 := Lib.hid ho1
          clear HO1 hout hX hbX hb2 ho1
          go_wp2_with fail
          go_ret
          rw [HRR.out]
          exact OutR.mkYes (by rw [show (⟨#[62]⟩ : ByteArray) = bs [62] from rfl, bs_app, bs_app]; rfl) p' (by omega) q2 (by simp only [List.length_cons, List.length_append]; omega) rfl (by first | exact HR3.out | (rw [← HO2.out]; exact HR3.out)) (by first | exact HB4.out | (rw [← HO2.out]; exact HB4.out))
      · obtain rfl : o = 64 := HZ.out.1 rfl
        have HRR : Hid (R = .no 16 a1) := Lib.hid (by rw [HR2.out]; rfl)
        refine HOP.out.mono ?_
        rintro e w1 ⟨rfl, hb1, _, h1⟩
        replace h1 := h1 (by simp)
        replace hb1 := hb3.trans hb1
        have HTE1 := Lib.hid (take_err g s p1 65 16 a1 w1 r2 hs h1 (by decide) [45, 62] (by decide))
        have HTE2 : Hid (Calls Try.prog 84 #[ptr g, .string ⟨#[45, 62]⟩] w1 fun e w' => e = .returned (.tuple #[]) ∧ w1 = w') := Lib.hid HTE1.out
        have HOE1 := Lib.hid (one_err g s hs p1 65 16 a1 w1 r2 h1 (by decide))
        have HA1 := fun W => add_bs (P := Try.prog) ⟨#[62]⟩ (bs a) W (by rw [bs_size]; show 1 + a.length ≤ _; omega)
        have HA2 := fun W => add_bs (P := Try.prog) (⟨#[62]⟩ ++ bs a) ⟨#[]⟩ W (by rw [ByteArray.size_append, bs_size]; show 1 + a.length + 0 ≤ _; omega)
        obtain ⟨⟨c0, c1, c2, c3', c4⟩, f0, f1, f2, f3, f4⟩ := Blk.five h1
        have HRX := Lib.hid (rdr_open (o2 := 64) h1)
        have HB2 := Lib.hid (below_open hb1 64)
        clear h1 hb1 hb3 c3 HOP HT HO HTE1
        go_wp2_with fail
        refine HTE2.out.mono ?_
        rintro e w' ⟨rfl, rfl⟩
        go_wp2_with fail
        refine HOE1.out.mono ?_
        rintro e w' ⟨rfl, rfl⟩
        go_wp2_with fail
        go_ret
        rw [HRR.out]
        exact OutR.mkNo p1 64 r1 r2 (by simp only [ByteArray.size_append, bs_size]; show 1 + a.length + 0 ≤ _; omega) HRX.out (by decide) HB2.out
    · have HR2 : Hid (R = fz (.yes a (tk s p1))) := Lib.hid (by rw [HR1.out, if_neg hx])
      cases hbd : (nx s p1).bad
      · have HRR : Hid (R = .yes a (tk s p1)) := Lib.hid (by rw [HR2.out]; unfold fz; simp only; rw [tk_hd r2, if_neg (by rw [hbd]; simp)])
        have hN1 := now_tok g s p1 o wx r2 hs h3 hbd
        have t7 := bs_ne hx
        have t8 := bs_bne hx
        generalize bs (nx s p1).tx = y1 at hN1 t7 t8
        generalize (nx s p1).pl = a1 at hN1
        have HN1 := Lib.hid hN1
        have HX := Lib.hid h3
        have HBX := Lib.hid hb3
        clear hN1 HO HR1 HR2 hx hbd h3 hb3 HZ HFZ
        go_wp2_with fail
        refine HN1.out.mono ?_
        rintro e w' ⟨rfl, rfl⟩
        go_wp2_with fail
        go_ret
        rw [HRR.out]
        exact OutR.mkYes rfl p1 r1 r2 r3 rfl HX.out HBX.out
      · have HRR : Hid (R = .no 11 (nx s p1).pl) := Lib.hid (by rw [HR2.out]; unfold fz; simp only; rw [tk_hd r2, if_pos ⟨hbd, nx_bad hbd⟩])
        have hN1 := now_bad g s p1 o wx r2 hs h3 hbd
        generalize (nx s p1).pl = P at *
        have HN1 := Lib.hid hN1
        clear hN1 HO HR1 HR2 hx hbd h3 HZ HFZ
        go_wp2_with fail
        refine HN1.out.mono ?_
        rintro e w5 ⟨rfl, hX, hbX⟩
        have HX := Lib.hid hX
        have HBX := Lib.hid (hb3.trans hbX)
        clear hX hbX hb3 HN1
        go_wp2_with fail
        go_ret
        rw [HRR.out]
        exact OutR.mkNo p1 _ r1 r2 (by rw [bs_size]; omega) HX.out (by decide) HBX.out

theorem prs_any (d : Nat) : ∀ (o : Int), o + d = 64 → 0 ≤ o → Con 61 (fun ts => fz (oneP d ts)) g s o ∧ Con 82 (armP d) g s o := by
  induction d with
  | zero =>
    intro o ho h0
    have ha : Con 82 (armP 0) g s o := by
      rw [armP_zero]; exact arm_any g s hs true _ _ o h0 (by omega) ⟨(fun _ => by omega), (fun _ => rfl)⟩ (fun h => by cases h) (fun h => by cases h)
    refine ⟨?_, ha⟩
    have := one_any g s hs true (fun _ => .no 0 0) (armP 0) o h0 (by omega) ⟨(fun _ => by omega), (fun _ => rfl)⟩ (fun h => by cases h) ha (fun _ _ _ h => by cases h)
    rw [oneP_zero]; exact this
  | succ d ih =>
    intro o ho h0
    obtain ⟨i1, i2⟩ := ih (o + 1) (by omega) (by omega)
    have ha : Con 82 (armP (d + 1)) g s o := by
      have := arm_any g s hs false (fun ts => fz (oneP d ts)) (armP d) o h0 (by omega) ⟨(fun h => by cases h), (fun e => by omega)⟩ (fun _ => i1) (fun _ => i2)
      rw [armP_succ]
      have e : armS false (fun ts => fz (oneP d ts)) (armP d) = armS false (oneP d) (armP d) := funext fun ts => armS_fz _ _ _ _
      rw [e] at this
      exact this
    refine ⟨?_, ha⟩
    have := one_any g s hs false (fun ts => fz (oneP d ts)) (armP (d + 1)) o h0 (by omega) ⟨(fun h => by cases h), (fun e => by omega)⟩ (fun _ => i1) ha (fun _ _ _ h => (fz_yes h).2)
    rw [oneP_succ]
    have e : (fun ts => fz (oneS false (fun ts => fz (oneP d ts)) (armP (d + 1)) ts)) = fun ts => fz (oneS false (oneP d) (armP (d + 1)) ts) := funext fun ts => oneS_fz _ _ _ _
    rw [e] at this
    exact this
end

/-- Read, by the answer. -/
def ReadV (s : ByteArray) : Value := .tuple #[.string (bs (readL s.data.toList).1), .int .i64 (readL s.data.toList).2.1, .int .i64 (readL s.data.toList).2.2]
theorem readE_fz (r : Rd) : readE r = match fz r with
    | .no e p => ([], e, p)
    | .yes t ts => if (hd ts).tx ≠ [] then ([], (if (hd ts).bad then 11 else 15), (hd ts).pl) else if 64 < t.length then ([], 21, 0) else (t, 0, 0) := by
  rcases r with ⟨e, p⟩ | ⟨t, ts⟩
  · rfl
  · unfold fz readE
    simp only
    by_cases hb : (hd ts).bad = true ∧ (hd ts).tx = []
    · rw [if_pos hb, if_pos (.inr hb.1)]; simp [hb.1]
    · rw [if_neg hb]
      simp only
      by_cases ht : (hd ts).tx = []
      · have : (hd ts).bad = false := by cases h : (hd ts).bad; rfl; exact absurd ⟨h, ht⟩ hb
        rw [if_neg (show ¬ ((hd ts).tx ≠ [] ∨ (hd ts).bad = true) by rw [this]; simp [ht]), if_neg (show ¬ ((hd ts).tx ≠ []) by simp [ht])]
      · rw [if_pos (.inl ht), if_pos ht]

set_option maxRecDepth 100000 in
theorem ReadR_any (s : ByteArray) (w : World) (hs : s.size ≤ 4611686018427387904) :
    Calls Try.prog 31 #[.string s] w fun e w' => e = .returned (ReadV s) ∧ Below w.heap.size w w' := by
  unfold ReadV readL
  rw [readE_fz]
  have hC := (prs_any w.heap.size s hs 64 0 (by omega) (by omega)).1
  have hnew : Rdr (w.alloc (.cells #[.string s, .int .i64 0, .int .i64 0, .int .i64 0, .int .i64 0] 77)) w.heap.size s (0 : Nat) 0 0 0 := Blk.new w _ _
  have hnb : Below w.heap.size w (w.alloc (.cells #[.string s, .int .i64 0, .int .i64 0, .int .i64 0, .int .i64 0] 77)) := (Below.refl _ _).alloc (Nat.le_refl _) _
  obtain ⟨g, hg⟩ : ∃ g, w.heap.size = g := ⟨_, rfl⟩
  rw [hg] at hC hnew hnb ⊢
  have HNB := Lib.hid hnb
  rcases hr : fz (oneP 64 (toks s.data.toList 0)) with ⟨E, P⟩ | ⟨t, ts⟩
  · have HO := Lib.hid (hC.out (Nat.zero_le _) hnew hr)
    clear hC hnew hr hnb
    simp only
    go_enter Try.func31, Try.ntmps31
    go_wp2_with fail
    refine HO.out.mono ?_
    rintro e wx hout
    obtain ⟨t, p', o', rfl, q1, q2, q3, hX, hE, hbX⟩ := hout.no
    have HNE1 := Lib.hid (now_err g s p' o' E P wx q2 hs hX hE)
    obtain ⟨⟨c0, c1, c2, c3, c4⟩, f0, f1, f2, f3, f4⟩ := Blk.five hX
    have HBX := Lib.hid (HNB.out.trans hbX)
    clear HO hout hX hbX HNB
    go_wp2_with fail
    refine HNE1.out.mono ?_
    rintro e w' ⟨k, _, _, rfl, rfl⟩
    go_wp2_with fail
    go_quiet (fail)
    go_wp2_with fail
    go_ret3
    exact ⟨rfl, below_drewN HBX.out _⟩
  · have hfb := (fz_yes hr).2
    have HO := Lib.hid (hC.out (Nat.zero_le _) hnew hr)
    obtain ⟨R, hR⟩ : ∃ R, (if (hd ts).tx ≠ [] then ([], (if (hd ts).bad then 11 else 15), (hd ts).pl) else if 64 < t.length then ([], 21, 0) else (t, 0, 0) : List UInt8 × Nat × Nat) = R := ⟨_, rfl⟩
    simp only
    rw [hR]
    have HRR := Lib.hid hR
    clear hC hnew hr hnb hR
    go_enter Try.func31, Try.ntmps31
    go_wp2_with fail
    refine HO.out.mono ?_
    rintro e wx hout
    obtain ⟨rfl, p1, r1, r2, r3, rfl, h3, hb3⟩ := hout.yes
    rw [tk_hd r2] at HRR hfb
    have HBX := Lib.hid (HNB.out.trans hb3)
    have hbd : (nx s p1).bad = false := by
      cases hb : (nx s p1).bad
      · rfl
      · exact absurd ⟨hb, nx_bad hb⟩ hfb
    have hN1 := now_tok g s p1 0 wx r2 hs h3 hbd
    by_cases hx : (nx s p1).tx = []
    · rw [hx] at hN1
      rw [if_neg (by simp [hx])] at HRR
      obtain ⟨⟨c0, c1, c2, c3, c4⟩, f0, f1, f2, f3, f4⟩ := Blk.five h3
      have hN1' : Calls Try.prog 62 #[ptr g] wx fun e w' => e = .returned (.tuple #[.string ⟨#[]⟩, .int .i64 (nx s p1).pl]) ∧ wx = w' := hN1
      generalize (nx s p1).pl = a1 at hN1'
      have HN1 := Lib.hid hN1'
      have hbz : (bs t).size = t.length := bs_size t
      clear HO hout h3 hb3 HNB hN1 hN1' hx hfb hbd
      by_cases h64 : 64 < t.length
      · have HR2 : Hid (R = ([], 21, 0)) := Lib.hid (by rw [← HRR.out, if_pos h64])
        have h64' : decide ((64 : Int) < (t.length : Int)) = true := by simp; omega
        clear hbz
        go_wp2_with fail
        refine HN1.out.mono ?_
        rintro e w' ⟨rfl, rfl⟩
        go_wp2_with fail
        go_ret3
        exact ⟨by rw [HR2.out]; rfl, HBX.out⟩
      · have HR2 : Hid (R = (t, 0, 0)) := Lib.hid (by rw [← HRR.out, if_neg h64])
        have h64' : decide ((64 : Int) < (t.length : Int)) = false := by simp; omega
        clear hbz
        go_wp2_with fail
        refine HN1.out.mono ?_
        rintro e w' ⟨rfl, rfl⟩
        go_wp2_with fail
        go_ret3
        exact ⟨by rw [HR2.out]; rfl, HBX.out⟩
    · rw [if_pos hx, hbd] at HRR
      have t7 : ((bs (nx s p1).tx).toList == []) = false := bs_ne hx
      have t8 : ((bs (nx s p1).tx).toList.isEmpty) = false := by rw [bs_list']; cases h : (nx s p1).tx; exact absurd h hx; rfl
      have hW := wrong_ok g s p1 0 0 15 (nx s p1).pl wx h3
      generalize bs (nx s p1).tx = y1 at hN1 t7 t8
      generalize (nx s p1).pl = a1 at *
      have HR2 : Hid (R = ([], 15, a1)) := Lib.hid (by rw [← HRR.out]; rfl)
      have HN1 := Lib.hid hN1
      have HW := Lib.hid hW
      clear HO hout h3 hb3 HNB hN1 hx hfb hbd hW HRR
      go_wp2_with fail
      refine HN1.out.mono ?_
      rintro e w' ⟨rfl, rfl⟩
      go_wp2_with fail
      refine HW.out.mono ?_
      rintro e w2 ⟨rfl, h2, hb2⟩
      obtain ⟨⟨c0, c1, c2, c3, c4⟩, f0, f1, f2, f3, f4⟩ := Blk.five h2
      have HB2 := Lib.hid (HBX.out.trans hb2)
      clear h2 hb2 HW
      go_wp2_with fail
      go_quiet (fail)
      go_wp2_with fail
      go_ret3
      exact ⟨by rw [HR2.out]; rfl, below_drewN HB2.out _⟩
end Go.Proofs.Ythonnpjlkcjoeaa.T
