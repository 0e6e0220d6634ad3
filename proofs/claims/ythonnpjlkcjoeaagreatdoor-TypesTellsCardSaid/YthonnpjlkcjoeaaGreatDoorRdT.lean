/- Contract of the program's parser: one. -/
import Derived.Test.YthonnpjlkcjoeaaGreatDoorRdS
namespace Go.Proofs.YthonnpjlkcjoeaaGreatDoor.T
open Go.RowKit Go.Proofs.YthonnpjlkcjoeaaGreatDoor.B
set_option linter.unusedSimpArgs false
set_option linter.unusedVariables false

/-- What within comes to, called out of one. -/
def OpensA (A : List UInt8) (n g B : Nat) (n0 : List Tok) (o : Int) (R : Rd) (w0 w : World) : Prop :=
  ∀ X : Obj, (w.alloc X).cell? ⟨w.heap.size, 0, none⟩ = some (.string (bs A)) → Calls Tryz.prog 77 #[ptr g, .string ⟨#[45, 62]⟩, .func (.func 78) #[] #[ptr w.heap.size, ptr n]] (w.alloc X) fun e w' => PutR R g B n0 o w0 e w'

theorem opensA_deep (A : List UInt8) (n g B : Nat) (t : Tok) (r n0 : List Tok) (w0 w : World) (h : Prs w g B (t :: r) 64 0 0) (hn : (t :: r).length ≤ n0.length) (h0 : w0.grownBy w (some g)) : OpensA A n g B n0 64 (failT 16 (t :: r)) w0 w := fun X hX =>
  (within_deep g B t r ⟨#[45, 62]⟩ _ (w.alloc X) (h.alloc X) n0 hn).mono fun e w' hp => hp.from (h0.trans (World.grownBy_alloc w X (some g))) (Nat.le_refl _)

theorem opensA_ok (A : List UInt8) (n g B : Nat) (t : Tok) (r n0 : List Tok) (o : Int) (one : List Tok → Rd) (w0 w : World) (h : Prs w g B (t :: r) o 0 0) (ho : 0 ≤ o) (ho2 : o < 64) (hx : t.tx = [45, 62]) (hr : r ≠ []) (hG : GoodT r)
    (hn : A.length + (t :: r).length ≤ n0.length) (hl : n0.length ≤ 4294967296) (h0 : w0.grownBy w (some g)) (hc : w.cell? ⟨n, 0, none⟩ = some (ptr g)) (hng : n ≠ g) (hnl : n < w.heap.size)
    (hO : ConP 65 one g B (o + 1) r.length) : OpensA A n g B n0 o ((one r).map ((62 :: A) ++ ·)) w0 w := fun X hX => by
  simp only [List.length_cons] at hn
  refine (within_one g B t r o [45, 62] w.heap.size n _ (w.alloc X) (h.alloc X) ho ho2 hx hr (by omega) n0 n0 (o + 1) rfl (Nat.le_refl _) fun W hP hg => ?_).mono fun e w' hp => hp.from (h0.trans (World.grownBy_alloc w X (some g))) (Nat.le_refl _)
  have hlt := h.lt
  have hs := hg.size
  rw [alloc_size] at hs
  exact one1_ok w.heap.size n g B A r (o + 1) (one r) n0 r W (cell_keep hg hX (by omega) (by rw [alloc_size]; omega)) (cell_keep hg (cellX hnl X hc) hng (by rw [alloc_size]; omega)) (by omega) hng (by omega) (by omega) hP (by omega) hl fun W' hP' _ => hO r W' hG (Nat.le_refl _) hP'

section
variable (g B : Nat) (ts : List Tok) (o : Int) (w : World) (h : Prs w g B ts o 0 0)
include h

/-- A fault in what stands ahead. -/
theorem one_no (E P : Nat) (hA : ∀ W, Prs W g B ts o 0 0 → Calls Tryz.prog 76 #[ptr g] W fun e w' => PutR (.no E P) g B ts o W e w') :
    Calls Tryz.prog 65 #[ptr g] w fun e w' => PutR (.no E P) g B ts o w e w' := by
  have HA := Lib.hid fun X => hA (w.alloc X) (h.alloc X)
  have HL := Lib.hid h.lt
  clear h hA
  go_enter Tryz.func65, Tryz.ntmps65
  go_wp2_with fail
  refine (HA.out _).mono ?_
  rintro e w2 h2
  have k1 := box_new w (ptr g) 126
  obtain ⟨v, r, o', rfl, l2, l3, l4, l5, l6, l7⟩ := h2.no
  have k2 := cell_keep l7 k1 (by have := HL.out; omega) (by rw [alloc_size]; omega)
  have hs := l7.size
  rw [alloc_size] at hs
  have k3 := fun X => cellX (by omega) X k2
  obtain ⟨A, c, hc, hbk, hsl⟩ := l5.blk
  obtain ⟨⟨c0, c1, c2, c3⟩, f0, f1, f2, f3⟩ := hbk.four
  have d2 := fun X => cellX l5.lt X c2
  have t1 : ((E : Int) == 0) = false := by simpa using l6
  have HQ : Hid (∀ X, PutR (.no E P) g B ts o w (.returned (.string v)) (w2.alloc X)) := Lib.hid fun X => PutR.mkNo r o' l2 l3 l4 (l5.alloc X) l6 ((World.grownBy_alloc w _ _).trans (l7.trans (World.grownBy_alloc w2 X _)))
  clear h2 l5 l6 l7 hbk hsl HA k1 k2
  go_wp2_with fail
  go_ret
  exact HQ.out _
/-- There is always a token left. -/
theorem one_vac (A : List UInt8) (hA : ∀ W, Prs W g B ts o 0 0 → Calls Tryz.prog 76 #[ptr g] W fun e w' => PutR (.yes A []) g B ts o W e w') :
    Calls Tryz.prog 65 #[ptr g] w fun e w' => False := by
  have HA := Lib.hid fun X => hA (w.alloc X) (h.alloc X)
  clear h hA
  go_enter Tryz.func65, Tryz.ntmps65
  go_wp2_with fail
  refine (HA.out _).mono ?_
  rintro e w2 h2
  exact absurd h2.yes.2.1 id
/-- No arrow behind it. -/
theorem one_yes (A : List UInt8) (u : Tok) (r : List Tok) (hx : u.tx ≠ [45, 62]) (hA : ∀ W, Prs W g B ts o 0 0 → Calls Tryz.prog 76 #[ptr g] W fun e w' => PutR (.yes A (u :: r)) g B ts o W e w') :
    Calls Tryz.prog 65 #[ptr g] w fun e w' => PutR (.yes A (u :: r)) g B ts o w e w' := by
  have HA := Lib.hid fun X => hA (w.alloc X) (h.alloc X)
  have HL := Lib.hid h.lt
  have t1 := bs_ne hx
  obtain ⟨y, hy⟩ : ∃ y, bs u.tx = y := ⟨_, rfl⟩
  rw [hy] at t1
  have HY := Lib.hid hy
  clear h hA hx hy
  go_enter Tryz.func65, Tryz.ntmps65
  go_wp2_with fail
  refine (HA.out _).mono ?_
  rintro e w2 h2
  have k1 := box_new w (ptr g) 126
  obtain ⟨rfl, l1, l2, l5, l7⟩ := h2.yes
  have k2 := cell_keep l7 k1 (by have := HL.out; omega) (by rw [alloc_size]; omega)
  have hs := l7.size
  rw [alloc_size] at hs
  have k3 := fun X => cellX (by omega) X k2
  obtain ⟨tb, off, c, hc, htb, hbk, hsl, q0, q1, q2⟩ := l5.open_
  obtain ⟨⟨c0, c1, c2, c3⟩, f0, f1, f2, f3⟩ := hbk.four
  rw [HY.out] at q0
  have d0 := fun X => cellX l5.lt X c0
  have d2 := fun X => cellX l5.lt X c2
  have e0 := fun X => cellX (Nat.lt_of_lt_of_le htb (Nat.le_trans l5.hB (Nat.le_of_lt l5.lt))) X q0
  have HQ : Hid (∀ X, PutR (.yes A (u :: r)) g B ts o w (.returned (.string (bs A))) (w2.alloc X)) := Lib.hid fun X => PutR.mkYes rfl l1 l2 (l5.alloc X) ((World.grownBy_alloc w _ _).trans (l7.trans (World.grownBy_alloc w2 X _)))
  clear h2 l5 l7 hbk hsl HA k1 k2 l1 l2
  generalize bs A = z at *
  go_wp2_with fail
  go_ret
  exact HQ.out _
/-- An arrow. -/
theorem one_arrow (A : List UInt8) (u : Tok) (r : List Tok) (R : Rd) (hx : u.tx = [45, 62]) (hA : ∀ W, Prs W g B ts o 0 0 → Calls Tryz.prog 76 #[ptr g] W fun e w' => PutR (.yes A (u :: r)) g B ts o W e w')
    (hO : ∀ W n, Prs W g B (u :: r) o 0 0 → GoodT (u :: r) → A.length + (u :: r).length ≤ ts.length → w.grownBy W (some g) → W.cell? ⟨n, 0, none⟩ = some (ptr g) → n ≠ g → n < W.heap.size → OpensA A n g B ts o R w W) :
    Calls Tryz.prog 65 #[ptr g] w fun e w' => PutR R g B ts o w e w' := by
  have HA := Lib.hid fun X => hA (w.alloc X) (h.alloc X)
  have HL := Lib.hid h.lt
  have HO := Lib.hid hO
  have t1 : ((bs u.tx).toList == [45, 62]) = true := by rw [bs_list', hx]; rfl
  obtain ⟨y, hy⟩ : ∃ y, bs u.tx = y := ⟨_, rfl⟩
  rw [hy] at t1
  have HY := Lib.hid hy
  clear h hA hx hy hO
  go_enter Tryz.func65, Tryz.ntmps65
  go_wp2_with fail
  refine (HA.out _).mono ?_
  rintro e w2 h2
  have k1 := box_new w (ptr g) 126
  obtain ⟨rfl, l1, l2, l5, l7⟩ := h2.yes
  have k2 := cell_keep l7 k1 (by have := HL.out; omega) (by rw [alloc_size]; omega)
  have hs := l7.size
  rw [alloc_size] at hs
  have k3 := fun X => cellX (by omega) X k2
  obtain ⟨tb, off, c, hc, htb, hbk, hsl, q0, q1, q2⟩ := l5.open_
  obtain ⟨⟨c0, c1, c2, c3⟩, f0, f1, f2, f3⟩ := hbk.four
  rw [HY.out] at q0
  have d0 := fun X => cellX l5.lt X c0
  have d2 := fun X => cellX l5.lt X c2
  have e0 := fun X => cellX (Nat.lt_of_lt_of_le htb (Nat.le_trans l5.hB (Nat.le_of_lt l5.lt))) X q0
  have HQ := Lib.hid (HO.out w2 w.heap.size l5 l1 l2 ((World.grownBy_alloc w _ _).trans l7) k2 (by have := HL.out; omega) (by omega))
  clear h2 l5 l7 hbk hsl HA k1 k2 l1 l2 HO
  unfold OpensA at HQ
  obtain ⟨z, hz⟩ : ∃ z, bs A = z := ⟨_, rfl⟩
  rw [hz] at HQ ⊢
  clear hz
  go_wp2_with fail
  refine (HQ.out _ (box_new w2 _ _)).mono ?_
  rintro e w4 h4
  obtain ⟨v, rfl, hv, hg, hp⟩ := h4.any
  have HQ2 := Lib.hid hp
  clear h4 hp hg hv HQ
  go_wp2_with fail
  go_ret
  exact HQ2.out
end
end Go.Proofs.YthonnpjlkcjoeaaGreatDoor.T
