/- Contract of the program's parser: arm. -/
import Derived.Test.YthonnpjlkcjoeaaGreatDoorRdO
namespace Go.Proofs.YthonnpjlkcjoeaaGreatDoor.T
open Go.RowKit Go.Proofs.YthonnpjlkcjoeaaGreatDoor.B
set_option linter.unusedSimpArgs false
set_option linter.unusedVariables false

theorem Prs.lt {W : World} {g B : Nat} {ts : List Tok} {o e q : Int} (h : Prs W g B ts o e q) : g < W.heap.size := by
  obtain ⟨A, c, hc, hb, hs⟩ := h.blk
  exact hb.lt

/-- What within comes to, called out of arm. -/
def OpensP (k : Nat) (x : List UInt8) (g B : Nat) (ts : List Tok) (o : Int) (R : Rd) (w : World) : Prop :=
  ∀ X : Obj, (w.alloc X).cell? ⟨w.heap.size, 0, none⟩ = some (ptr g) → Calls Tryz.prog 77 #[ptr g, .string (bs x), .func (.func k) #[] #[ptr w.heap.size]] (w.alloc X) fun e w' => PutR R g B ts o w e w'

theorem opens_deep (k : Nat) (x : List UInt8) (g B : Nat) (t : Tok) (r : List Tok) (w : World) (h : Prs w g B (t :: r) 64 0 0) : OpensP k x g B (t :: r) 64 (failT 16 (t :: r)) w := fun X hX =>
  (within_deep g B t r (bs x) _ (w.alloc X) (h.alloc X) (t :: r) (Nat.le_refl _)).mono fun e w' hp => hp.from (World.grownBy_alloc w X (some g)) (Nat.le_refl _)

theorem alloc_size (w : World) (X : Obj) : (w.alloc X).heap.size = w.heap.size + 1 := Array.size_push ..

theorem opens_paren (g B : Nat) (t : Tok) (r : List Tok) (o : Int) (one : List Tok → Rd) (w : World) (h : Prs w g B (t :: r) o 0 0) (ho : 0 ≤ o) (ho2 : o < 64) (hx : t.tx = [40]) (hr : r ≠ []) (hG : GoodT r) (hl : (t :: r).length ≤ 4294967296)
    (hO : ConP 65 one g B (o + 1) r.length) : OpensP 87 [40] g B (t :: r) o ((one r).bind fun t ts => pairT one t ts) w := fun X hX => by
  have hl2 : r.length + 1 ≤ 4294967296 := hl
  refine (within_arm1 g B t r o [40] w.heap.size _ (w.alloc X) (h.alloc X) ho ho2 hx hr (by omega) (t :: r) (t :: r) (o + 1) rfl (Nat.le_refl _) fun W hP hg => ?_).mono fun e w' hp => hp.from (World.grownBy_alloc w X (some g)) (Nat.le_refl _)
  have hlt := h.lt
  have hs := hg.size
  rw [alloc_size] at hs
  exact arm1_ok w.heap.size g B r (o + 1) one (t :: r) W (cell_keep hg hX (by omega) (by rw [alloc_size]; omega)) (by omega) (by omega) hG hP (by simp only [List.length_cons]; omega) hl hO

theorem opens_list (g B : Nat) (t : Tok) (r : List Tok) (o : Int) (one : List Tok → Rd) (w : World) (h : Prs w g B (t :: r) o 0 0) (ho : 0 ≤ o) (ho2 : o < 64) (hx : t.tx = [91]) (hr : r ≠ []) (hG : GoodT r) (hl : (t :: r).length ≤ 4294967296)
    (hO : ConP 65 one g B (o + 1) r.length) : OpensP 90 [91] g B (t :: r) o (((one r).map ([108] ++ ·)).bind fun t ts => endT t [93] ts) w := fun X hX => by
  have hl2 : r.length + 1 ≤ 4294967296 := hl
  refine (within_arm2 g B t r o [91] w.heap.size _ (w.alloc X) (h.alloc X) ho ho2 hx hr (by omega) (t :: r) (t :: r) (o + 1) rfl (Nat.le_refl _) fun W hP hg => ?_).mono fun e w' hp => hp.from (World.grownBy_alloc w X (some g)) (Nat.le_refl _)
  have hlt := h.lt
  have hs := hg.size
  rw [alloc_size] at hs
  exact arm2_ok w.heap.size g B r (o + 1) (one r) (t :: r) r W (cell_keep hg hX (by omega) (by rw [alloc_size]; omega)) (by omega) (by omega) hP (by simp only [List.length_cons]; omega) hl fun W' hP' _ => hO r W' hG (Nat.le_refl _) hP'

theorem opens_box (g B : Nat) (t : Tok) (r : List Tok) (o : Int) (arm : List Tok → Rd) (w : World) (h : Prs w g B (t :: r) o 0 0) (ho : 0 ≤ o) (ho2 : o < 64) (hx : t.tx = wX) (hr : r ≠ []) (hG : GoodT r) (hl : (t :: r).length ≤ 4294967296)
    (hO : ConP 76 arm g B (o + 1) r.length) : OpensP 91 wX g B (t :: r) o ((arm r).map ([120] ++ ·)) w := fun X hX => by
  have hl2 : r.length + 1 ≤ 4294967296 := hl
  refine (within_arm3 g B t r o wX w.heap.size _ (w.alloc X) (h.alloc X) ho ho2 hx hr (by omega) (t :: r) (t :: r) (o + 1) rfl (Nat.le_refl _) fun W hP hg => ?_).mono fun e w' hp => hp.from (World.grownBy_alloc w X (some g)) (Nat.le_refl _)
  have hlt := h.lt
  have hs := hg.size
  rw [alloc_size] at hs
  exact arm3_ok w.heap.size g B r (o + 1) (arm r) (t :: r) r W (cell_keep hg hX (by omega) (by rw [alloc_size]; omega)) hP (by simp only [List.length_cons]; omega) hl fun W' hP' _ => hO r W' hG (Nat.le_refl _) hP'

theorem cellX {w : World} {a i : Nat} {v : Value} (hl : a < w.heap.size) (X : Obj) (hc : w.cell? ⟨a, i, none⟩ = some v) : (w.alloc X).cell? ⟨a, i, none⟩ = some v := by
  rw [World.cell?_of_block ((World.grownBy_alloc w X none).block a hl (by simp))]
  exact hc
theorem box_new (w : World) (v : Value) (t : TypeId) : (w.alloc (.cells #[v] t)).cell? ⟨w.heap.size, 0, none⟩ = some v := World.cell?_alloc_new w #[v] t 0
theorem PutR.dr {R : Rd} {ts : List Tok} {g B : Nat} {o : Int} {w w' : World} {e : Ending} (h : PutR R g B ts o w e w') : PutR R g B ts o w e w'.drew := by
  cases R with
  | no E P =>
    obtain ⟨t, r, o', rfl, h1, h2, h3, h4, h5, h6⟩ := h.no
    exact PutR.mkNo r o' h1 h2 h3 h4.dr h5 (h6.trans (grown_dr w' _))
  | yes t r =>
    obtain ⟨rfl, h1, h2, h3, h4⟩ := h.yes
    exact PutR.mkYes rfl h1 h2 h3.dr (h4.trans (grown_dr w' _))

-- (printed)

/-- arm, at a token that opens: what within comes to. -/
theorem parm_paren (g B : Nat) (t : Tok) (r : List Tok) (o : Int) (R : Rd) (w : World) (h : Prs w g B (t :: r) o 0 0) (hx : t.tx = [40]) (hO : OpensP 87 [40] g B (t :: r) o R w) :
    Calls Tryz.prog 76 #[ptr g] w fun e w' => PutR R g B (t :: r) o w e w' := by
  have HO := Lib.hid hO
  have HL := Lib.hid h.lt
  obtain ⟨tb, off, c, hc, htb, hb, hs, k0, k1, k2⟩ := h.open_
  obtain ⟨⟨c0, c1, c2, c3⟩, f0, f1, f2, f3⟩ := hb.four
  rw [hx] at k0
  have d0 := fun X => (cellX h.lt X c0)
  have d2 := fun X => (cellX h.lt X c2)
  have g0 := fun X => (hb.grown (World.grownBy_alloc w X none) (by simp)).four.2.1
  have e0 := fun X => (cellX (Nat.lt_of_lt_of_le htb (Nat.le_trans h.hB (Nat.le_of_lt h.lt))) X k0)
  have t1 : ((bs [40]).toList == [105, 110, 116]) = false := by rw [bs_list']; rfl
  have t2 : ((bs [40]).toList == [98, 111, 111, 108]) = false := by rw [bs_list']; rfl
  have t3 : ((bs [40]).toList == [116, 101, 120, 116]) = false := by rw [bs_list']; rfl
  have t4 : ((bs [40]).toList == [63]) = false := by rw [bs_list']; rfl
  have t5 : ((bs [40]).toList == [40]) = true := by rw [bs_list']; rfl
  generalize bs [40] = y at k0 e0 t1 t2 t3 t4 t5
  clear h hO hb hs k1 k2 hx
  go_enter Tryz.func76, Tryz.ntmps76
  go_wp2_with fail
  refine (HO.out _ (box_new w (ptr g) _)).mono ?_
  rintro e w3 h3
  obtain ⟨v, rfl, hv, hg, hp⟩ := h3.any
  have HQ := Lib.hid hp
  clear h3 hp hg hv HO
  go_wp2_with fail
  go_ret
  exact HQ.out

/-- arm, at a token that opens: what within comes to. -/
theorem parm_list (g B : Nat) (t : Tok) (r : List Tok) (o : Int) (R : Rd) (w : World) (h : Prs w g B (t :: r) o 0 0) (hx : t.tx = [91]) (hO : OpensP 90 [91] g B (t :: r) o R w) :
    Calls Tryz.prog 76 #[ptr g] w fun e w' => PutR R g B (t :: r) o w e w' := by
  have HO := Lib.hid hO
  have HL := Lib.hid h.lt
  obtain ⟨tb, off, c, hc, htb, hb, hs, k0, k1, k2⟩ := h.open_
  obtain ⟨⟨c0, c1, c2, c3⟩, f0, f1, f2, f3⟩ := hb.four
  rw [hx] at k0
  have d0 := fun X => (cellX h.lt X c0)
  have d2 := fun X => (cellX h.lt X c2)
  have g0 := fun X => (hb.grown (World.grownBy_alloc w X none) (by simp)).four.2.1
  have e0 := fun X => (cellX (Nat.lt_of_lt_of_le htb (Nat.le_trans h.hB (Nat.le_of_lt h.lt))) X k0)
  have t1 : ((bs [91]).toList == [105, 110, 116]) = false := by rw [bs_list']; rfl
  have t2 : ((bs [91]).toList == [98, 111, 111, 108]) = false := by rw [bs_list']; rfl
  have t3 : ((bs [91]).toList == [116, 101, 120, 116]) = false := by rw [bs_list']; rfl
  have t4 : ((bs [91]).toList == [63]) = false := by rw [bs_list']; rfl
  have t5 : ((bs [91]).toList == [40]) = false := by rw [bs_list']; rfl
  have t6 : ((bs [91]).toList == [91]) = true := by rw [bs_list']; rfl
  generalize bs [91] = y at k0 e0 t1 t2 t3 t4 t5 t6
  clear h hO hb hs k1 k2 hx
  go_enter Tryz.func76, Tryz.ntmps76
  go_wp2_with fail
  refine (HO.out _ (box_new w (ptr g) _)).mono ?_
  rintro e w3 h3
  obtain ⟨v, rfl, hv, hg, hp⟩ := h3.any
  have HQ := Lib.hid hp
  clear h3 hp hg hv HO
  go_wp2_with fail
  go_ret
  exact HQ.out

/-- arm, at a token that opens: what within comes to. -/
theorem parm_box (g B : Nat) (t : Tok) (r : List Tok) (o : Int) (R : Rd) (w : World) (h : Prs w g B (t :: r) o 0 0) (hx : t.tx = wX) (hO : OpensP 91 wX g B (t :: r) o R w) :
    Calls Tryz.prog 76 #[ptr g] w fun e w' => PutR R g B (t :: r) o w e w' := by
  have HO := Lib.hid hO
  have HL := Lib.hid h.lt
  obtain ⟨tb, off, c, hc, htb, hb, hs, k0, k1, k2⟩ := h.open_
  obtain ⟨⟨c0, c1, c2, c3⟩, f0, f1, f2, f3⟩ := hb.four
  rw [hx] at k0
  have d0 := fun X => (cellX h.lt X c0)
  have d2 := fun X => (cellX h.lt X c2)
  have g0 := fun X => (hb.grown (World.grownBy_alloc w X none) (by simp)).four.2.1
  have e0 := fun X => (cellX (Nat.lt_of_lt_of_le htb (Nat.le_trans h.hB (Nat.le_of_lt h.lt))) X k0)
  have t1 : ((bs wX).toList == [105, 110, 116]) = false := by rw [bs_list']; rfl
  have t2 : ((bs wX).toList == [98, 111, 111, 108]) = false := by rw [bs_list']; rfl
  have t3 : ((bs wX).toList == [116, 101, 120, 116]) = false := by rw [bs_list']; rfl
  have t4 : ((bs wX).toList == [63]) = false := by rw [bs_list']; rfl
  have t5 : ((bs wX).toList == [40]) = false := by rw [bs_list']; rfl
  have t6 : ((bs wX).toList == [91]) = false := by rw [bs_list']; rfl
  have t7 : ((bs wX).toList == [98, 111, 120]) = true := by rw [bs_list']; rfl
  generalize bs wX = y at k0 e0 t1 t2 t3 t4 t5 t6 t7
  clear h hO hb hs k1 k2 hx
  go_enter Tryz.func76, Tryz.ntmps76
  go_wp2_with fail
  refine (HO.out _ (box_new w (ptr g) _)).mono ?_
  rintro e w3 h3
  obtain ⟨v, rfl, hv, hg, hp⟩ := h3.any
  have HQ := Lib.hid hp
  clear h3 hp hg hv HO
  go_wp2_with fail
  go_ret
  exact HQ.out

/-- arm, at a token that is a type. -/
theorem parm_int (g B : Nat) (t : Tok) (r : List Tok) (o : Int) (w : World) (h : Prs w g B (t :: r) o 0 0) (hx : t.tx = wI) (hr : r ≠ []) (hG : GoodT r) :
    Calls Tryz.prog 76 #[ptr g] w fun e w' => PutR (.yes ((wI : List UInt8).take 1) r) g B (t :: r) o w e w' := by
  have HL := Lib.hid h.lt
  have hB := h.hB
  have hr0 : 0 < r.length := List.length_pos_iff.2 hr
  obtain ⟨tb, off, c, hc, htb, hb, hs, k0, k1, k2⟩ := h.open_
  obtain ⟨⟨c0, c1, c2, c3⟩, f0, f1, f2, f3⟩ := hb.four
  rw [hx] at k0
  have d0 := fun X => (cellX h.lt X c0)
  have d2 := fun X => (cellX h.lt X c2)
  have g0 := fun X => (hb.grown (World.grownBy_alloc w X none) (by simp)).four.2.1
  have e0 := fun X => (cellX (Nat.lt_of_lt_of_le htb (Nat.le_trans h.hB (Nat.le_of_lt h.lt))) X k0)
  have t1 : ((bs wI).toList == [105, 110, 116]) = true := by rw [bs_list']; rfl
  have l1 : 1 ≤ (bs wI).size := by decide
  have l2 : 1 ≤ r.length + 1 := by omega
  have l3 : 1 ≤ c := by omega
  have HE : Hid ((bs wI).extract 0 1 = bs ((wI : List UInt8).take 1)) := Lib.hid (by rw [extract_bs, bs_list]; rfl)
  have HF : Hid (∀ X, PutR (.yes ((wI : List UInt8).take 1) r) g B (t :: r) o w (.returned (.string (bs ((wI : List UInt8).take 1)))) ((w.alloc X).setCell ⟨g, 0, none⟩ (.slice (some ⟨tb, off + 3, none⟩) r.length (c - 1)))) := Lib.hid fun X => by
    have hb1 := hb.grown (World.grownBy_alloc w X none) (by simp)
    have hs1 := hs.keep fun p hp => World.cell?_of_block ((World.grownBy_alloc w X none).block p.block (by have := hb.lt; omega) (by simp))
    exact PutR.mkYes rfl hG (by simp [wI, wB, wT]; omega) ⟨⟨_, c - 1, by omega, hb1.set_ 0 _, sl_own (g := g) (i := 0) (sl_tail hs1) hB _⟩, hB⟩ ((World.grownBy_alloc w X _).trans (grown_set _ g 0 _))
  generalize bs wI = y at k0 e0 l1 HE t1
  clear h hb hs k1 k2 hx hr hG htb
  go_enter Tryz.func76, Tryz.ntmps76
  go_wp2_with fail
  go_region
  all_goals
    go_wp2_with fail
    go_ret
    rw [HE.out]
    first | exact HF.out _ | exact (HF.out _).dr

/-- arm, at a token that is a type. -/
theorem parm_bool (g B : Nat) (t : Tok) (r : List Tok) (o : Int) (w : World) (h : Prs w g B (t :: r) o 0 0) (hx : t.tx = wB) (hr : r ≠ []) (hG : GoodT r) :
    Calls Tryz.prog 76 #[ptr g] w fun e w' => PutR (.yes ((wB : List UInt8).take 1) r) g B (t :: r) o w e w' := by
  have HL := Lib.hid h.lt
  have hB := h.hB
  have hr0 : 0 < r.length := List.length_pos_iff.2 hr
  obtain ⟨tb, off, c, hc, htb, hb, hs, k0, k1, k2⟩ := h.open_
  obtain ⟨⟨c0, c1, c2, c3⟩, f0, f1, f2, f3⟩ := hb.four
  rw [hx] at k0
  have d0 := fun X => (cellX h.lt X c0)
  have d2 := fun X => (cellX h.lt X c2)
  have g0 := fun X => (hb.grown (World.grownBy_alloc w X none) (by simp)).four.2.1
  have e0 := fun X => (cellX (Nat.lt_of_lt_of_le htb (Nat.le_trans h.hB (Nat.le_of_lt h.lt))) X k0)
  have t1 : ((bs wB).toList == [105, 110, 116]) = false := by rw [bs_list']; rfl
  have t2 : ((bs wB).toList == [98, 111, 111, 108]) = true := by rw [bs_list']; rfl
  have l1 : 1 ≤ (bs wB).size := by decide
  have l2 : 1 ≤ r.length + 1 := by omega
  have l3 : 1 ≤ c := by omega
  have HE : Hid ((bs wB).extract 0 1 = bs ((wB : List UInt8).take 1)) := Lib.hid (by rw [extract_bs, bs_list]; rfl)
  have HF : Hid (∀ X, PutR (.yes ((wB : List UInt8).take 1) r) g B (t :: r) o w (.returned (.string (bs ((wB : List UInt8).take 1)))) ((w.alloc X).setCell ⟨g, 0, none⟩ (.slice (some ⟨tb, off + 3, none⟩) r.length (c - 1)))) := Lib.hid fun X => by
    have hb1 := hb.grown (World.grownBy_alloc w X none) (by simp)
    have hs1 := hs.keep fun p hp => World.cell?_of_block ((World.grownBy_alloc w X none).block p.block (by have := hb.lt; omega) (by simp))
    exact PutR.mkYes rfl hG (by simp [wI, wB, wT]; omega) ⟨⟨_, c - 1, by omega, hb1.set_ 0 _, sl_own (g := g) (i := 0) (sl_tail hs1) hB _⟩, hB⟩ ((World.grownBy_alloc w X _).trans (grown_set _ g 0 _))
  generalize bs wB = y at k0 e0 l1 HE t1 t2
  clear h hb hs k1 k2 hx hr hG htb
  go_enter Tryz.func76, Tryz.ntmps76
  go_wp2_with fail
  go_region
  all_goals
    go_wp2_with fail
    go_ret
    rw [HE.out]
    first | exact HF.out _ | exact (HF.out _).dr

/-- arm, at a token that is a type. -/
theorem parm_text (g B : Nat) (t : Tok) (r : List Tok) (o : Int) (w : World) (h : Prs w g B (t :: r) o 0 0) (hx : t.tx = wT) (hr : r ≠ []) (hG : GoodT r) :
    Calls Tryz.prog 76 #[ptr g] w fun e w' => PutR (.yes ((wT : List UInt8).take 1) r) g B (t :: r) o w e w' := by
  have HL := Lib.hid h.lt
  have hB := h.hB
  have hr0 : 0 < r.length := List.length_pos_iff.2 hr
  obtain ⟨tb, off, c, hc, htb, hb, hs, k0, k1, k2⟩ := h.open_
  obtain ⟨⟨c0, c1, c2, c3⟩, f0, f1, f2, f3⟩ := hb.four
  rw [hx] at k0
  have d0 := fun X => (cellX h.lt X c0)
  have d2 := fun X => (cellX h.lt X c2)
  have g0 := fun X => (hb.grown (World.grownBy_alloc w X none) (by simp)).four.2.1
  have e0 := fun X => (cellX (Nat.lt_of_lt_of_le htb (Nat.le_trans h.hB (Nat.le_of_lt h.lt))) X k0)
  have t1 : ((bs wT).toList == [105, 110, 116]) = false := by rw [bs_list']; rfl
  have t2 : ((bs wT).toList == [98, 111, 111, 108]) = false := by rw [bs_list']; rfl
  have t3 : ((bs wT).toList == [116, 101, 120, 116]) = true := by rw [bs_list']; rfl
  have l1 : 1 ≤ (bs wT).size := by decide
  have l2 : 1 ≤ r.length + 1 := by omega
  have l3 : 1 ≤ c := by omega
  have HE : Hid ((bs wT).extract 0 1 = bs ((wT : List UInt8).take 1)) := Lib.hid (by rw [extract_bs, bs_list]; rfl)
  have HF : Hid (∀ X, PutR (.yes ((wT : List UInt8).take 1) r) g B (t :: r) o w (.returned (.string (bs ((wT : List UInt8).take 1)))) ((w.alloc X).setCell ⟨g, 0, none⟩ (.slice (some ⟨tb, off + 3, none⟩) r.length (c - 1)))) := Lib.hid fun X => by
    have hb1 := hb.grown (World.grownBy_alloc w X none) (by simp)
    have hs1 := hs.keep fun p hp => World.cell?_of_block ((World.grownBy_alloc w X none).block p.block (by have := hb.lt; omega) (by simp))
    exact PutR.mkYes rfl hG (by simp [wI, wB, wT]; omega) ⟨⟨_, c - 1, by omega, hb1.set_ 0 _, sl_own (g := g) (i := 0) (sl_tail hs1) hB _⟩, hB⟩ ((World.grownBy_alloc w X _).trans (grown_set _ g 0 _))
  generalize bs wT = y at k0 e0 l1 HE t1 t2 t3
  clear h hb hs k1 k2 hx hr hG htb
  go_enter Tryz.func76, Tryz.ntmps76
  go_wp2_with fail
  go_region
  all_goals
    go_wp2_with fail
    go_ret
    rw [HE.out]
    first | exact HF.out _ | exact (HF.out _).dr

/-- arm, at a token that is a type. -/
theorem parm_any (g B : Nat) (t : Tok) (r : List Tok) (o : Int) (w : World) (h : Prs w g B (t :: r) o 0 0) (hx : t.tx = [63]) (hr : r ≠ []) (hG : GoodT r) :
    Calls Tryz.prog 76 #[ptr g] w fun e w' => PutR (.yes (([63] : List UInt8).take 1) r) g B (t :: r) o w e w' := by
  have HL := Lib.hid h.lt
  have hB := h.hB
  have hr0 : 0 < r.length := List.length_pos_iff.2 hr
  obtain ⟨tb, off, c, hc, htb, hb, hs, k0, k1, k2⟩ := h.open_
  obtain ⟨⟨c0, c1, c2, c3⟩, f0, f1, f2, f3⟩ := hb.four
  rw [hx] at k0
  have d0 := fun X => (cellX h.lt X c0)
  have d2 := fun X => (cellX h.lt X c2)
  have g0 := fun X => (hb.grown (World.grownBy_alloc w X none) (by simp)).four.2.1
  have e0 := fun X => (cellX (Nat.lt_of_lt_of_le htb (Nat.le_trans h.hB (Nat.le_of_lt h.lt))) X k0)
  have t1 : ((bs [63]).toList == [105, 110, 116]) = false := by rw [bs_list']; rfl
  have t2 : ((bs [63]).toList == [98, 111, 111, 108]) = false := by rw [bs_list']; rfl
  have t3 : ((bs [63]).toList == [116, 101, 120, 116]) = false := by rw [bs_list']; rfl
  have t4 : ((bs [63]).toList == [63]) = true := by rw [bs_list']; rfl
  have l1 : 1 ≤ (bs [63]).size := by decide
  have l2 : 1 ≤ r.length + 1 := by omega
  have l3 : 1 ≤ c := by omega
  have HE : Hid ((bs [63]).extract 0 1 = bs (([63] : List UInt8).take 1)) := Lib.hid (by rw [extract_bs, bs_list]; rfl)
  have HF : Hid (∀ X, PutR (.yes (([63] : List UInt8).take 1) r) g B (t :: r) o w (.returned (.string (bs (([63] : List UInt8).take 1)))) ((w.alloc X).setCell ⟨g, 0, none⟩ (.slice (some ⟨tb, off + 3, none⟩) r.length (c - 1)))) := Lib.hid fun X => by
    have hb1 := hb.grown (World.grownBy_alloc w X none) (by simp)
    have hs1 := hs.keep fun p hp => World.cell?_of_block ((World.grownBy_alloc w X none).block p.block (by have := hb.lt; omega) (by simp))
    exact PutR.mkYes rfl hG (by simp [wI, wB, wT]; omega) ⟨⟨_, c - 1, by omega, hb1.set_ 0 _, sl_own (g := g) (i := 0) (sl_tail hs1) hB _⟩, hB⟩ ((World.grownBy_alloc w X _).trans (grown_set _ g 0 _))
  generalize bs [63] = y at k0 e0 l1 HE t1 t2 t3 t4
  clear h hb hs k1 k2 hx hr hG htb
  go_enter Tryz.func76, Tryz.ntmps76
  go_wp2_with fail
  go_region
  all_goals
    go_wp2_with fail
    go_ret
    rw [HE.out]
    first | exact HF.out _ | exact (HF.out _).dr

/-- arm, at a token that begins no type. -/
theorem parm_none (g B : Nat) (t : Tok) (r : List Tok) (o : Int) (w : World) (h : Prs w g B (t :: r) o 0 0) (hn : t.tx ≠ wI ∧ t.tx ≠ wB ∧ t.tx ≠ wT ∧ t.tx ≠ [63] ∧ t.tx ≠ [40] ∧ t.tx ≠ [91] ∧ t.tx ≠ wX) :
    Calls Tryz.prog 76 #[ptr g] w fun e w' => PutR (failT 15 (t :: r)) g B (t :: r) o w e w' := by
  obtain ⟨n1, n2, n3, n4, n5, n6, n7⟩ := hn
  have HL := Lib.hid h.lt
  have HF := Lib.hid fun X => fail15 g B t r o 0 (w.alloc X) (h.alloc X)
  have HB := Lib.hid (badE_ne 15 (by decide) t.bad)
  have r0 : failT 15 (t :: r) = .no (badE t.bad 15) t.pl := rfl
  rw [r0]
  obtain ⟨tb, off, c, hc, htb, hb, hs, k0, k1, k2⟩ := h.open_
  obtain ⟨⟨c0, c1, c2, c3⟩, f0, f1, f2, f3⟩ := hb.four
  have d0 := fun X => (cellX h.lt X c0)
  have d2 := fun X => (cellX h.lt X c2)
  have g0 := fun X => (hb.grown (World.grownBy_alloc w X none) (by simp)).four.2.1
  have e0 := fun X => (cellX (Nat.lt_of_lt_of_le htb (Nat.le_trans h.hB (Nat.le_of_lt h.lt))) X k0)
  have t1 := bs_ne n1
  have t2 := bs_ne n2
  have t3 := bs_ne n3
  have t4 := bs_ne n4
  have t5 := bs_ne n5
  have t6 := bs_ne n6
  have t7 := bs_ne n7
  unfold wI wB wT wX at *
  generalize bs t.tx = y at k0 e0 t1 t2 t3 t4 t5 t6 t7
  clear h hb hs k1 k2 n1 n2 n3 n4 n5 n6 n7 r0 htb
  go_enter Tryz.func76, Tryz.ntmps76
  go_wp2_with fail
  refine (HF.out _).mono ?_
  rintro e w3 ⟨rfl, h3, hg3⟩
  have HQ := Lib.hid (PutR.mkNo (o := o) (t := ⟨#[]⟩) (ts := t :: r) (t :: r) o (by show 0 + _ ≤ _; omega) (by omega) (by omega) h3 HB.out ((World.grownBy_alloc w _ _).trans hg3))
  clear h3 hg3 HF HB
  go_wp2_with fail
  go_ret
  exact HQ.out

theorem armS_ok (g B : Nat) (o : Int) (z : Bool) (one arm : List Tok → Rd) (n : Nat) (ho : 0 ≤ o) (ho2 : o ≤ 64) (hz : z = true ↔ o = 64) (hn : n ≤ 4294967296)
    (hO : z = false → ConP 65 one g B (o + 1) n) (hA : z = false → ConP 76 arm g B (o + 1) n) : ConP 76 (armS z one arm) g B o n := by
  intro ts w hG hl hP
  obtain ⟨t, r, rfl⟩ := hG.ne
  have hl1 : r.length + 1 ≤ n := hl
  have hnx : t.tx ≠ [] → r ≠ [] ∧ GoodT r := fun hx => ⟨fun hr => hx (by rw [hr] at hG; exact hG), hG.next hx⟩
  by_cases h1 : t.tx = wI
  · obtain ⟨a, b⟩ := hnx (by rw [h1]; decide)
    rw [show armS z one arm (t :: r) = .yes ((wI : List UInt8).take 1) r by unfold armS; rw [show hd (t :: r) = t from rfl, h1, if_pos (by simp)]; rfl]
    exact parm_int g B t r o w hP h1 a b
  by_cases h2 : t.tx = wB
  · obtain ⟨a, b⟩ := hnx (by rw [h2]; decide)
    rw [show armS z one arm (t :: r) = .yes ((wB : List UInt8).take 1) r by unfold armS; rw [show hd (t :: r) = t from rfl, h2, if_pos (by simp)]; rfl]
    exact parm_bool g B t r o w hP h2 a b
  by_cases h3 : t.tx = wT
  · obtain ⟨a, b⟩ := hnx (by rw [h3]; decide)
    rw [show armS z one arm (t :: r) = .yes ((wT : List UInt8).take 1) r by unfold armS; rw [show hd (t :: r) = t from rfl, h3, if_pos (by simp)]; rfl]
    exact parm_text g B t r o w hP h3 a b
  by_cases h4 : t.tx = [63]
  · obtain ⟨a, b⟩ := hnx (by rw [h4]; decide)
    rw [show armS z one arm (t :: r) = .yes (([63] : List UInt8).take 1) r by unfold armS; rw [show hd (t :: r) = t from rfl, h4, if_pos (by simp)]; rfl]
    exact parm_any g B t r o w hP h4 a b
  have hn4 : ¬ (t.tx = wI ∨ t.tx = wB ∨ t.tx = wT ∨ t.tx = [63]) := by
    rintro (h | h | h | h)
    · exact h1 h
    · exact h2 h
    · exact h3 h
    · exact h4 h
  have ho3 : z = false → o < 64 := fun hf => by
    rcases Int.lt_or_eq_of_le ho2 with h | h
    · exact h
    · rw [hz.2 h] at hf; cases hf
  by_cases h5 : t.tx = [40]
  · obtain ⟨a, b⟩ := hnx (by rw [h5]; decide)
    have e0 : armS z one arm (t :: r) = if z then failT 16 (t :: r) else (one r).bind fun t ts => pairT one t ts := by
      unfold armS; rw [show hd (t :: r) = t from rfl, if_neg hn4, if_pos h5]; cases z <;> (try rfl)
    refine parm_paren g B t r o _ w hP h5 ?_
    rw [e0]
    cases z
    · exact opens_paren g B t r o one w hP ho (ho3 rfl) h5 a b (Nat.le_trans hl hn) ((hO rfl).less (by omega))
    · obtain rfl := hz.1 rfl
      exact opens_deep _ _ g B t r w hP
  by_cases h6 : t.tx = [91]
  · obtain ⟨a, b⟩ := hnx (by rw [h6]; decide)
    have e0 : armS z one arm (t :: r) = if z then failT 16 (t :: r) else ((one r).map ([108] ++ ·)).bind fun t ts => endT t [93] ts := by
      unfold armS; rw [show hd (t :: r) = t from rfl, if_neg hn4, if_neg h5, if_pos h6]
      cases z
      · show (match one r with | .no e p => Rd.no e p | .yes t ts1 => endT (108 :: t) [93] ts1) = _
        cases one r <;> rfl
      · rfl
    refine parm_list g B t r o _ w hP h6 ?_
    rw [e0]
    cases z
    · exact opens_list g B t r o one w hP ho (ho3 rfl) h6 a b (Nat.le_trans hl hn) ((hO rfl).less (by omega))
    · obtain rfl := hz.1 rfl
      exact opens_deep _ _ g B t r w hP
  by_cases h7 : t.tx = wX
  · obtain ⟨a, b⟩ := hnx (by rw [h7]; decide)
    have e0 : armS z one arm (t :: r) = if z then failT 16 (t :: r) else (arm r).map ([120] ++ ·) := by
      unfold armS; rw [show hd (t :: r) = t from rfl, if_neg hn4, if_neg h5, if_neg h6, if_pos h7]
      cases z
      · show (match arm r with | .no e p => Rd.no e p | .yes t ts1 => .yes (120 :: t) ts1) = _
        cases arm r <;> rfl
      · rfl
    refine parm_box g B t r o _ w hP h7 ?_
    rw [e0]
    cases z
    · exact opens_box g B t r o arm w hP ho (ho3 rfl) h7 a b (Nat.le_trans hl hn) ((hA rfl).less (by omega))
    · obtain rfl := hz.1 rfl
      exact opens_deep _ _ g B t r w hP
  · rw [show armS z one arm (t :: r) = failT 15 (t :: r) by unfold armS; rw [show hd (t :: r) = t from rfl, if_neg hn4, if_neg h5, if_neg h6, if_neg h7]]
    exact parm_none g B t r o w hP ⟨h1, h2, h3, h4, h5, h6, h7⟩
end Go.Proofs.YthonnpjlkcjoeaaGreatDoor.T
