/- Contract of the program's Read: the same as the answer's. -/
import Derived.Test.YthonnpjlkcjoeaaGreatDoorRdU
import Derived.BigQuiet
namespace Go.Proofs.YthonnpjlkcjoeaaGreatDoor.T
open Go.RowKit Go.Proofs.YthonnpjlkcjoeaaGreatDoor.B
set_option linter.unusedSimpArgs false
set_option linter.unusedVariables false

theorem below_of_grown {B g : Nat} {w w' : World} (h : w.grownBy w' (some g)) (hB : B ≤ g) (hl : B ≤ w.heap.size) : Below B w w' :=
  ⟨h.os, h.tape, h.output, h.size, fun k hk => h.block k (by omega) (by simp; omega)⟩

theorem prs_new (W : World) (A : Option Addr) (c : Nat) (ts : List Tok) (hc : ts.length ≤ c) (hsl : Sl W W.heap.size 3 A ts.length (tcells ts)) : Prs (W.alloc (.cells #[.slice A ts.length c, .int .i64 0, .int .i64 0, .int .i64 0] 130)) W.heap.size W.heap.size ts 0 0 0 :=
  ⟨⟨A, c, hc, Blk.new W _ _, hsl.keep fun p hp => World.cell?_of_block ((World.grownBy_alloc W _ none).block p.block (by omega) (by simp))⟩, Nat.le_refl _⟩

theorem toksN_len (s : List UInt8) : ∀ (n p : Nat), (toksN n s p).length ≤ n + 1 := by
  intro n
  induction n with
  | zero => intro p; exact Nat.le_refl 1
  | succ n ih =>
    intro p
    unfold toksN
    split
    · simp
    · simp only [List.length_cons]
      exact Nat.succ_le_succ (ih _)
theorem tk_len (s : ByteArray) (hs : s.size ≤ 2147483647) : (tk s 0).length ≤ 4294967296 := by
  have := toksN_len s.data.toList (s.data.toList.length - 0) 0
  have h2 : s.data.toList.length = s.size := by simp
  show (toksN (s.data.toList.length - 0) s.data.toList 0).length ≤ _
  omega

/-- Read's end: what was read, and whether something is left. -/
theorem readE_left (t : List UInt8) (u : Tok) (r : List Tok) (h : r ≠ [] ∨ u.bad = true) (hG : GoodT (u :: r)) : readE (.yes t (u :: r)) = ([], badE u.bad 15, u.pl) := by
  unfold readE
  simp only
  rw [if_pos (show (hd (u :: r)).tx ≠ [] ∨ (hd (u :: r)).bad = true from ?_)]
  · rfl
  · rcases h with h | h
    · cases r with
      | nil => exact absurd rfl h
      | cons a b => exact .inl hG.1
    · exact .inr h
theorem readE_all (t : List UInt8) (u : Tok) (h : u.bad = false) (hG : GoodT [u]) : readE (.yes t [u]) = if 64 < t.length then ([], 21, 0) else (t, 0, 0) := by
  unfold readE
  simp only
  rw [if_neg (show ¬ ((hd [u]).tx ≠ [] ∨ (hd [u]).bad = true) from ?_)]
  rintro (h1 | h1)
  · exact h1 hG
  · rw [show (hd [u]).bad = u.bad from rfl, h] at h1; cases h1

set_option maxRecDepth 100000 in
theorem ReadP_any (s : ByteArray) (w : World) (hs : s.size ≤ 2147483647) :
    Calls Tryz.prog 53 #[.string s] w fun e w' => e = .returned (ReadV s) ∧ Below w.heap.size w w' := by
  unfold ReadV readL
  have HC := cut_any s w hs
  unfold CutR at HC
  have hG := goodT_tk s
  have hlen : (tk s 0).length ≤ 4294967296 := tk_len s hs
  obtain ⟨R, hR⟩ : ∃ R, oneP 64 (tk s 0) = R := ⟨_, rfl⟩
  rw [show toks s.data.toList 0 = tk s 0 from rfl, hR]
  generalize tk s 0 = T at *
  have HT : Hid (∀ (W : World) (A : Option Addr) (c : Nat), T.length ≤ c → Sl W W.heap.size 3 A T.length (tcells T) → Calls Tryz.prog 65 #[ptr W.heap.size] (W.alloc (.cells #[.slice A T.length c, .int .i64 0, .int .i64 0, .int .i64 0] 130)) fun e w' => PutR R W.heap.size W.heap.size T 0 (W.alloc (.cells #[.slice A T.length c, .int .i64 0, .int .i64 0, .int .i64 0] 130)) e w') := Lib.hid fun W A c hc hsl => by
    rw [← hR]
    exact (prsP_any W.heap.size W.heap.size T.length hlen 64 0 (by omega) (by omega)).1 T _ hG (Nat.le_refl _) (prs_new W A c T hc hsl)
  have HC := Lib.hid HC
  clear hR
  cases R with
  | no E P =>
    show Calls _ _ _ _ fun e w' => e = .returned (.tuple #[.string (bs []), .int .i64 E, .int .i64 P]) ∧ _
    go_enter Tryz.func53, Tryz.ntmps53
    go_wp2_with fail
    refine HC.out.mono ?_
    rintro e w1 ⟨A, c, rfl, hc, hsl, hb1⟩
    have H1 := Lib.hid (HT.out w1 A c hc hsl)
    have HB1 := Lib.hid hb1
    clear HC HT hsl hb1
    go_wp2_with fail
    refine H1.out.mono ?_
    rintro e w2 h2
    obtain ⟨v, r, o', rfl, l2, l3, l4, l5, l6, l7⟩ := h2.no
    obtain ⟨A2, c2, hc2, hbk, hsl2⟩ := l5.blk
    obtain ⟨⟨c0, c1, c2, c3⟩, f0, f1, f2, f3⟩ := hbk.four
    have t1 : ((E : Int) == 0) = false := by simpa using l6
    have HB2 := Lib.hid (below_of_grown ((World.grownBy_alloc w1 _ _).trans l7) HB1.out.size HB1.out.size)
    clear h2 l5 l7 hbk hsl2 H1
    go_wp2_with fail
    go_quiet (fail)
    go_wp2_with fail
    go_ret3
    exact ⟨rfl, below_drewN (HB1.out.trans HB2.out) _⟩
  | yes t ts =>
    obtain ⟨V, hV⟩ : ∃ V, readE (.yes t ts) = V := ⟨_, rfl⟩
    rw [hV]
    have HV := Lib.hid hV
    clear hV
    go_enter Tryz.func53, Tryz.ntmps53
    go_wp2_with fail
    refine HC.out.mono ?_
    rintro e w1 ⟨A, c, rfl, hc, hsl, hb1⟩
    have H1 := Lib.hid (HT.out w1 A c hc hsl)
    have HB1 := Lib.hid hb1
    clear HC HT hsl hb1
    go_wp2_with fail
    refine H1.out.mono ?_
    rintro e w2 h2
    obtain ⟨rfl, l1, l2, l5, l7⟩ := h2.yes
    obtain ⟨u, r, rfl⟩ := l1.ne
    obtain ⟨tb, off, c, hc2, htb, hbk, hsl2, q0, q1, q2⟩ := l5.open_
    obtain ⟨⟨c0, c1, c2, c3⟩, f0, f1, f2, f3⟩ := hbk.four
    have HB2 := Lib.hid (below_of_grown ((World.grownBy_alloc w1 _ _).trans l7) HB1.out.size HB1.out.size)
    have hbz : (bs t).size = t.length := bs_size t
    have HF := Lib.hid (fail15 w1.heap.size w1.heap.size u r 0 0 w2 l5)
    have HNE := Lib.hid (badE_ne 15 (by decide) u.bad)
    clear h2 hbk hsl2 H1 l7
    by_cases hr : r = []
    · subst hr
      cases hb : u.bad
      · rw [readE_all t u hb l1] at HV
        rw [hb] at q2
        clear l5 l1 hb HF HNE q0 q1
        by_cases h64 : 64 < t.length
        · have HR2 : Hid (V = ([], 21, 0)) := Lib.hid (by rw [← HV.out, if_pos h64])
          have h64' : decide ((64 : Int) < (t.length : Int)) = true := by simp; omega
          clear hbz
          go_wp2_with fail
          go_ret3
          exact ⟨by rw [HR2.out]; rfl, HB1.out.trans HB2.out⟩
        · have HR2 : Hid (V = (t, 0, 0)) := Lib.hid (by rw [← HV.out, if_neg h64])
          have h64' : decide ((64 : Int) < (t.length : Int)) = false := by simp; omega
          clear hbz
          go_wp2_with fail
          go_ret3
          exact ⟨by rw [HR2.out]; rfl, HB1.out.trans HB2.out⟩
      · rw [readE_left t u [] (.inr hb) l1] at HV
        rw [hb] at q2
        clear l5 l1 hb q0 q1
        go_wp2_with fail
        refine HF.out.mono ?_
        rintro e w3 ⟨rfl, h3, hg3⟩
        obtain ⟨A3, c3', hc3, hbk3, hsl3⟩ := h3.blk
        obtain ⟨⟨d0, d1, d2, d3⟩, g0, g1, g2, g3⟩ := hbk3.four
        have t1 := HNE.out
        have HB3 := Lib.hid (below_of_grown hg3 HB1.out.size (Nat.le_trans HB1.out.size HB2.out.size))
        clear h3 hbk3 hsl3 HF
        go_wp2_with fail
        go_quiet (fail)
        go_wp2_with fail
        go_ret3
        exact ⟨by rw [← HV.out]; rfl, below_drewN ((HB1.out.trans HB2.out).trans HB3.out) _⟩
    · rw [readE_left t u r (.inl hr) l1] at HV
      have hr0 : 0 < r.length := List.length_pos_iff.2 hr
      have h1 : decide ((1 : Int) < ((r.length + 1 : Nat) : Int)) = true := by simp; omega
      have h1' : decide ((1 : Int) < (r.length : Int) + 1) = true := by simp; omega
      clear l5 l1 q0 q1 q2 hr
      go_wp2_with fail
      refine HF.out.mono ?_
      rintro e w3 ⟨rfl, h3, hg3⟩
      obtain ⟨A3, c3', hc3, hbk3, hsl3⟩ := h3.blk
      obtain ⟨⟨d0, d1, d2, d3⟩, g0, g1, g2, g3⟩ := hbk3.four
      have t1 := HNE.out
      have HB3 := Lib.hid (below_of_grown hg3 HB1.out.size (Nat.le_trans HB1.out.size HB2.out.size))
      clear h3 hbk3 hsl3 HF
      go_wp2_with fail
      go_quiet (fail)
      go_wp2_with fail
      go_ret3
      exact ⟨by rw [← HV.out]; rfl, below_drewN ((HB1.out.trans HB2.out).trans HB3.out) _⟩
end Go.Proofs.YthonnpjlkcjoeaaGreatDoor.T
