/- Contracts of the program's parser: what stands in parentheses; arm, one. -/
import Derived.Test.YthonnpjlkcjoeaaGreatDoorRdN
namespace Go.Proofs.YthonnpjlkcjoeaaGreatDoor.T
open Go.RowKit Go.Proofs.YthonnpjlkcjoeaaGreatDoor.B
set_option linter.unusedSimpArgs false
set_option linter.unusedVariables false

def ConP (f : Nat) (fn : List Tok → Rd) (g B : Nat) (o : Int) (n : Nat) : Prop :=
  ∀ ts W, GoodT ts → ts.length ≤ n → Prs W g B ts o 0 0 → Calls Tryz.prog f #[ptr g] W fun e w' => PutR (fn ts) g B ts o W e w'
theorem ConP.less {f : Nat} {fn : List Tok → Rd} {g B : Nat} {o : Int} {n m : Nat} (h : ConP f fn g B o n) (hm : m ≤ n) : ConP f fn g B o m := fun ts W h1 h2 h3 => h ts W h1 (Nat.le_trans h2 hm) h3

theorem pairT_yes {one : List Tok → Rd} {t : List UInt8} {ts : List Tok} (h : (hd ts).tx = [44]) : pairT one t ts = ((one ts.tail).map ((44 :: t) ++ ·)).bind fun t ts => endT t [41] ts := by
  unfold pairT
  rw [if_pos h]
  cases one ts.tail <;> rfl
theorem pairT_no {one : List Tok → Rd} {t : List UInt8} {ts : List Tok} (h : (hd ts).tx ≠ [44]) : pairT one t ts = endT t [41] ts := if_neg h

theorem arm1_ok (b g B : Nat) (r : List Tok) (o : Int) (one : List Tok → Rd) (n0 : List Tok) (w : World) (cb : w.cell? ⟨b, 0, none⟩ = some (ptr g))
    (hb : b ≠ g) (lb : b < w.heap.size) (hG : GoodT r) (hP : Prs w g B r o 0 0) (hn : 1 + r.length ≤ n0.length) (hsz : n0.length ≤ 4294967296)
    (hO : ConP 65 one g B o r.length) :
    Calls Tryz.prog 87 #[ptr b] w fun e w' => PutR ((one r).bind fun t ts => pairT one t ts) g B n0 o w e w' := by
  have HC := Lib.hid (hO r w hG (Nat.le_refl _) hP)
  have HK : Hid (∀ W, w.grownBy W (some g) → W.cell? ⟨b, 0, none⟩ = some (ptr g)) := Lib.hid fun W hg => cell_keep hg cb hb lb
  obtain ⟨R, hR⟩ : ∃ R, one r = R := ⟨_, rfl⟩
  rw [hR] at HC ⊢
  clear hP hb lb hG hR
  cases R with
  | no E P =>
    have HE : Hid (∀ (v : ByteArray) (W : World), PutR (.no E P) g B r o w (.returned (.string v)) W → Calls Tryz.prog 88 #[ptr g, .string ⟨#[44]⟩] W (fun e w' => e = .returned (.bool false) ∧ W = w') ∧ Calls Tryz.prog 89 #[ptr g, .string v, .string ⟨#[41]⟩] W fun e w' => PutR (.no E P) g B n0 o w e w') := Lib.hid fun v W h => by
      obtain ⟨t, r2, o', e, h1, h2, h3, h4, h5, h6⟩ := h.no
      exact ⟨next_err g B r2 o' E P ⟨#[44]⟩ W h4 h5, end_any g B r n0 o [41] (by decide) _ v w W h (by omega) (by omega)⟩
    clear hO hn hsz
    show Calls _ _ _ _ fun e w' => PutR (.no E P) g B n0 o w e w'
    go_enter Tryz.func87, Tryz.ntmps87
    go_wp2_with fail
    refine HC.out.mono ?_
    rintro e w3 h3
    obtain ⟨v, rfl, hv, hg, hp⟩ := h3.any
    have k2 := HK.out w3 hg
    have H1 := Lib.hid (HE.out v w3 hp).1
    have H2 := Lib.hid (HE.out v w3 hp).2
    clear h3 hp hg hv HE HK HC
    go_wp2_with fail
    refine H1.out.mono ?_
    rintro e w4 ⟨rfl, rfl⟩
    go_wp2_with fail
    refine H2.out.mono ?_
    rintro e w4 h4
    obtain ⟨u, rfl, hu, hg4, hp4⟩ := h4.any
    have HQ := Lib.hid hp4
    clear h4 hp4 hg4 hu H1 H2
    go_wp2_with fail
    go_ret
    exact HQ.out
  | yes t ts =>
    show Calls _ _ _ _ fun e w' => PutR (pairT one t ts) g B n0 o w e w'
    by_cases hx : (hd ts).tx = [44]
    · rw [pairT_yes hx]
      obtain ⟨R2, hR2⟩ : ∃ R2, one ts.tail = R2 := ⟨_, rfl⟩
      rw [hR2]
      have HE : Hid (∀ (W : World), PutR (.yes t ts) g B r o w (.returned (.string (bs t))) W → Calls Tryz.prog 88 #[ptr g, .string ⟨#[44]⟩] W (fun e w' => e = .returned (.bool true) ∧ w.grownBy w' (some g) ∧ Calls Tryz.prog 65 #[ptr g] w' fun e w2 => PutR R2 g B ts.tail o w' e w2)) := Lib.hid fun W h => by
        obtain ⟨_, h1, h2, h3, h4⟩ := h.yes
        obtain ⟨u, r2, rfl⟩ := h1.ne
        have hr2 : r2 ≠ [] := by
          intro hr
          rw [hr] at h1
          rw [show (hd (u :: r2)).tx = u.tx from rfl, show u.tx = [] from h1] at hx
          cases hx
        have hG2 : GoodT r2 := h1.next (by rw [show u.tx = [44] from hx]; decide)
        simp only [List.length_cons] at h2
        refine (next_yes g B u r2 o 0 [44] W h3 hx hr2 (by omega)).mono ?_
        rintro e w' ⟨rfl, h5, h6⟩
        refine ⟨rfl, h4.trans h6, ?_⟩
        rw [← hR2]
        exact hO r2 w' hG2 (by omega) h5
      have HN : Hid (∀ (W : World), PutR (.yes t ts) g B r o w (.returned (.string (bs t))) W → t.length + ts.length ≤ r.length ∧ 1 ≤ ts.length) := Lib.hid fun W h => by
        obtain ⟨_, h1, h2, h3, h4⟩ := h.yes
        obtain ⟨u, r2, rfl⟩ := h1.ne
        exact ⟨h2, by simp⟩
      have HZ : Hid (⟨#[44]⟩ ++ bs t = bs (44 :: t)) := Lib.hid (bs_app [44] t)
      go_enter Tryz.func87, Tryz.ntmps87
      clear hO hR2
      go_wp2_with fail
      refine HC.out.mono ?_
      rintro e w3 h3
      obtain ⟨v, rfl, hv, hg, hp⟩ := h3.any
      have he := hp.yes.1
      injection he with he; injection he with he; subst he
      have k2 := HK.out w3 hg
      have H1 := Lib.hid (HE.out w3 hp)
      have hN := HN.out w3 hp
      have s1 := fun W => add_sum (P := Tryz.prog) ⟨#[44]⟩ (bs t) 4294967296 (by decide) (by rw [bs_size]; omega) (by decide) W
      have HB : Hid (∀ v : ByteArray, v.size ≤ ts.tail.length → ∀ W, (Op.stringOp .add (⟨#[44]⟩ ++ bs t) v).run Tryz.prog W = .ok (.string (⟨#[44]⟩ ++ bs t ++ v)) W) := Lib.hid fun v hv W => add_sum _ _ 4294967297 (by rw [ByteArray.size_append, bs_size]; show 1 + _ ≤ _; omega) (by rw [List.length_tail] at hv; omega) (by decide) W
      have HL : Hid ((44 :: t).length + ts.tail.length ≤ n0.length) := Lib.hid (by simp only [List.length_cons, List.length_tail]; omega)
      have HD : Hid (∀ (v : ByteArray) (W : World), PutR (R2.map ((44 :: t) ++ ·)) g B n0 o w (.returned (.string v)) W → Calls Tryz.prog 89 #[ptr g, .string v, .string ⟨#[41]⟩] W fun e w' => PutR ((R2.map ((44 :: t) ++ ·)).bind fun t ts => endT t [41] ts) g B n0 o w e w') :=
        Lib.hid fun v W h => end_any g B n0 n0 o [41] (by decide) _ v w W h hsz (Nat.le_refl _)
      clear h3 hp hg hv HE HC HN hN hx hn hsz
      generalize bs t = y at *
      go_wp2_with fail
      refine H1.out.mono ?_
      rintro e w4 ⟨rfl, hg4, hc4⟩
      have k4 := HK.out w4 hg4
      have H2 := Lib.hid hc4
      have HG := Lib.hid hg4
      clear hc4 H1 hg4
      go_wp2_with fail
      refine H2.out.mono ?_
      rintro e w5 h5
      obtain ⟨v2, rfl, hv2, hg5, hp5⟩ := h5.any
      have k5 := HK.out w5 (HG.out.trans hg5)
      have s2 := HB.out v2 hv2
      have HP := Lib.hid (hp5.front (n0 := n0) (44 :: t) (z := ⟨#[44]⟩ ++ y ++ v2) (by rw [HZ.out]) HG.out HL.out)
      clear h5 hp5 hg5 hv2 HG H2
      go_wp2_with fail
      refine (HD.out _ _ HP.out).mono ?_
      rintro e w6 h6
      obtain ⟨u, rfl, hu, hg6, hp6⟩ := h6.any
      have HQ := Lib.hid hp6
      clear h6 hp6 hg6 hu
      go_wp2_with fail
      go_ret
      exact HQ.out
    · rw [pairT_no hx]
      have HE : Hid (∀ (v : ByteArray) (W : World), PutR (.yes t ts) g B r o w (.returned (.string v)) W → Calls Tryz.prog 88 #[ptr g, .string ⟨#[44]⟩] W (fun e w' => e = .returned (.bool false) ∧ W = w') ∧ Calls Tryz.prog 89 #[ptr g, .string v, .string ⟨#[41]⟩] W fun e w' => PutR (endT t [41] ts) g B n0 o w e w') := Lib.hid fun v W h => by
        obtain ⟨e, h1, h2, h3, h4⟩ := h.yes
        obtain ⟨u, r2, rfl⟩ := h1.ne
        exact ⟨next_no g B u r2 o 0 [44] W h3 hx, end_any g B r n0 o [41] (by decide) _ v w W h (by omega) (by omega)⟩
      clear hO hn hsz hx
      go_enter Tryz.func87, Tryz.ntmps87
      go_wp2_with fail
      refine HC.out.mono ?_
      rintro e w3 h3
      obtain ⟨v, rfl, hv, hg, hp⟩ := h3.any
      have k2 := HK.out w3 hg
      have H1 := Lib.hid (HE.out v w3 hp).1
      have H2 := Lib.hid (HE.out v w3 hp).2
      clear h3 hp hg hv HE HK HC
      go_wp2_with fail
      refine H1.out.mono ?_
      rintro e w4 ⟨rfl, rfl⟩
      go_wp2_with fail
      refine H2.out.mono ?_
      rintro e w4 h4
      obtain ⟨u, rfl, hu, hg4, hp4⟩ := h4.any
      have HQ := Lib.hid hp4
      clear h4 hp4 hg4 hu H1 H2
      go_wp2_with fail
      go_ret
      exact HQ.out
end Go.Proofs.YthonnpjlkcjoeaaGreatDoor.T
