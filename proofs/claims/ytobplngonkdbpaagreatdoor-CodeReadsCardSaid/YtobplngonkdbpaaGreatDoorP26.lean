/- Parts of this claim: CgG, CgH. -/
import Derived.Test.YtobplngonkdbpaaGreatDoorP25
set_option linter.unusedVariables false
set_option linter.unusedSimpArgs false
/- CgG -/
namespace Go.Proofs.YtobplngonkdbpaaGreatDoor.D
open Go.RowKit
open Go.Proofs.YtobplngonkdbpaaGreatDoor.B
set_option linter.unusedVariables false
set_option linter.unusedSimpArgs false

/-- Lists of at most so many. -/
structure CB (L : CoL) : Prop where
  f : L.fns.length ≤ 1073741824
  c : L.casts.length ≤ 1073741824
  n : L.nums.length ≤ 1073741824
  t : L.texts.length ≤ 1073741824
  y : L.types.length ≤ 1073741824
  fe : ∀ g ∈ L.fns, g.f.env.length ≤ 1073741824
  fc : ∀ g ∈ L.fns, g.f.code.length ≤ 1073741824
  co : ∀ g ∈ L.casts, g.w.co.length ≤ 1073741824
theorem rd_low {W : World} {sz n g0 i : Nat} {u v : Value} {xs : List Value} (h : Rd W sz u n xs) (hb : ∀ q, u.ownBlock = some q → g0 < q) : Rd (W.setCell ⟨g0, i, none⟩ v) sz u n xs := by
  have hbut := but_set (C := fun k => k = g0) (But.refl _ W) (b := g0) (i := i) rfl v
  exact h.step hbut.size fun b hb1 => hbut.block b (h.lt b hb1) (by have := hb b hb1; omega)
theorem rd_row {W : World} {sz n g0 : Nat} {u : Value} {cs : Array Value} {xs : List Value} (h : Rd W sz u n xs) (hb : ∀ q, u.ownBlock = some q → g0 < q) : Rd (W.setRow g0 cs) sz u n xs := by
  have hbut := but_setRow (C := fun k => k = g0) (But.refl _ W) (b := g0) (.inl rfl) cs
  exact h.step hbut.size fun b hb1 => hbut.block b (h.lt b hb1) (by have := hb b hb1; omega)
theorem own_ge {W : World} {base e sz n g0 : Nat} {u : Value} {xs : List Value} (h : W.ownsRow base e sz u n xs) (hg : g0 < base) : ∀ q, u.ownBlock = some q → g0 < q := fun q hq => Nat.lt_of_lt_of_le hg (h.lt q hq).1
/-- What the copy's parts are at each step: readable, and beyond the box. -/
structure CP (W : World) (g0 : Nat) (fs : List FuL) (ws : List WtL) : Prop where
  fe : ∀ g ∈ fs, Rd W 1 g.ev g.f.env.length (envC g.f.env) ∧ Rd W 3 g.cv g.f.code.length (codC g.f.code) ∧ (∀ q, g.ev.ownBlock = some q → g0 + 1 < q) ∧ (∀ q, g.cv.ownBlock = some q → g0 + 1 < q)
  co : ∀ g ∈ ws, Rd W 7 g.cv g.w.co.length (cosC g.w.co) ∧ (∀ q, g.cv.ownBlock = some q → g0 + 1 < q)
theorem CP.grow {W W' : World} {g0 : Nat} {fs : List FuL} {ws : List WtL} (h : CP W g0 fs ws) (hb : Below W.heap.size W W') : CP W' g0 fs ws :=
  ⟨fun g hg => ⟨(h.fe g hg).1.grow hb, (h.fe g hg).2.1.grow hb, (h.fe g hg).2.2⟩, fun g hg => ⟨(h.co g hg).1.grow hb, (h.co g hg).2⟩⟩
theorem CP.low {W : World} {g0 i : Nat} {v : Value} {fs : List FuL} {ws : List WtL} (h : CP W g0 fs ws) : CP (W.setCell ⟨g0, i, none⟩ v) g0 fs ws :=
  ⟨fun g hg => ⟨rd_low (h.fe g hg).1 (fun q hq => by have := (h.fe g hg).2.2.1 q hq; omega), rd_low (h.fe g hg).2.1 (fun q hq => by have := (h.fe g hg).2.2.2 q hq; omega), (h.fe g hg).2.2⟩, fun g hg => ⟨rd_low (h.co g hg).1 (fun q hq => by have := (h.co g hg).2 q hq; omega), (h.co g hg).2⟩⟩
theorem CP.row {W : World} {g0 : Nat} {cs : Array Value} {fs : List FuL} {ws : List WtL} (h : CP W g0 fs ws) : CP (W.setRow (g0 + 1) cs) g0 fs ws :=
  ⟨fun g hg => ⟨rd_row (h.fe g hg).1 (h.fe g hg).2.2.1, rd_row (h.fe g hg).2.1 (h.fe g hg).2.2.2, (h.fe g hg).2.2⟩, fun g hg => ⟨rd_row (h.co g hg).1 (h.co g hg).2, (h.co g hg).2⟩⟩
/-- The state of the copying. -/
structure CS (w W : World) (g0 : Nat) (cs : Array Value) (fs : List FuL) (ws : List WtL) (rows : List Rw) : Prop where
  blk : Blk W g0 27 cs
  nil : Blk W (g0 + 1) 27 nilV
  bel : Below w.heap.size w W
  eq : w.heap.size = g0
  cp : CP W g0 fs ws
  own : ∀ r ∈ rows, W.ownsRow (g0 + 2) r.e r.sz r.v r.n r.xs
section
variable {w W W' : World} {g0 : Nat} {cs : Array Value} {fs : List FuL} {ws : List WtL} {rows : List Rw}
theorem CS.call (h : CS w W g0 cs fs ws rows) (hb : Below W.heap.size W W') : CS w W' g0 cs fs ws rows :=
  ⟨h.blk.below hb h.blk.lt, h.nil.below hb h.nil.lt, bl h.bel hb, h.eq, h.cp.grow hb, fun r hr => own_below (h.own r hr) hb⟩
theorem CS.set (h : CS w W g0 cs fs ws rows) (j : Nat) (v : Value) : CS w (W.setCell ⟨g0, j, none⟩ v) g0 (cs.setIfInBounds j v) fs ws rows :=
  ⟨h.blk.set_ j v, h.nil.far (show g0 + 1 ≠ g0 by omega) v, below_set h.bel (by have := h.eq; omega) v, h.eq, h.cp.low, fun r hr => own_but (cf := g0) (h.own r hr) (but_set (C := fun k => k = g0) (But.refl _ W) rfl v) (by omega)⟩
theorem CS.row (h : CS w W g0 cs fs ws rows) {r : Rw} (hr : W.ownsRow (g0 + 2) r.e r.sz r.v r.n r.xs) : CS w W g0 cs fs ws (r :: rows) :=
  ⟨h.blk, h.nil, h.bel, h.eq, h.cp, fun x hx => by
    rcases List.mem_cons.1 hx with rfl | hx
    · exact hr
    · exact h.own x hx⟩
theorem CS.big (h : CS w W g0 cs fs ws rows) : g0 + 2 ≤ W.heap.size := by have := h.nil.lt; omega
theorem CS.fns (h : CS w W g0 cs [] ws rows) {D : List FuL} (hD : ∀ g ∈ D, Rd W 1 g.ev g.f.env.length (envC g.f.env) ∧ Rd W 3 g.cv g.f.code.length (codC g.f.code) ∧ (∀ q, g.ev.ownBlock = some q → g0 + 1 < q) ∧ (∀ q, g.cv.ownBlock = some q → g0 + 1 < q)) : CS w W g0 cs D ws rows :=
  ⟨h.blk, h.nil, h.bel, h.eq, ⟨hD, h.cp.co⟩, h.own⟩
theorem CS.wts (h : CS w W g0 cs fs [] rows) {D : List WtL} (hD : ∀ g ∈ D, Rd W 7 g.cv g.w.co.length (cosC g.w.co) ∧ (∀ q, g.cv.ownBlock = some q → g0 + 1 < q)) : CS w W g0 cs fs D rows :=
  ⟨h.blk, h.nil, h.bel, h.eq, ⟨h.cp.fe, hD⟩, h.own⟩
end
set_option maxRecDepth 100000 in
set_option maxHeartbeats 2000000 in
theorem copyCode_c (L : CoL) (w : World) (h : CR w L) (hB : CB L) :
    Calls Tryz.prog 23 #[.agg L.vals.toArray] w fun e w' => ∃ L' : CoL, e = .returned (.agg L'.vals.toArray) ∧ L'.code = L.code ∧ CR w' L' ∧ Below w.heap.size w w' := by
  obtain ⟨A1, c1, e1, hc1, hd1, s1⟩ := h.f.sl
  obtain ⟨A2, c2, e2, hc2, hd2, s2⟩ := h.c.sl
  obtain ⟨A3, c3, e3, hc3, hd3, s3⟩ := h.n.sl
  obtain ⟨A4, c4, e4, hc4, hd4, s4⟩ := h.t.sl
  obtain ⟨A5, c5, e5, hc5, hd5, s5⟩ := h.y.sl
  obtain ⟨n1, hn1⟩ : ∃ n, L.fns.length = n := ⟨_, rfl⟩
  obtain ⟨n2, hn2⟩ : ∃ n, L.casts.length = n := ⟨_, rfl⟩
  obtain ⟨n3, hn3⟩ : ∃ n, L.nums.length = n := ⟨_, rfl⟩
  obtain ⟨n4, hn4⟩ : ∃ n, L.texts.length = n := ⟨_, rfl⟩
  obtain ⟨n5, hn5⟩ : ∃ n, L.types.length = n := ⟨_, rfl⟩
  rw [hn1] at e1 s1
  rw [hn2] at e2 s2
  rw [hn3] at e3 s3
  rw [hn4] at e4 s4
  rw [hn5] at e5 s5
  rw [show L.vals.toArray = #[.slice A1 n1 c1, .slice A2 n2 c2, .slice A3 n3 c3, .slice A4 n4 c4, .slice A5 n5 c5] by unfold CoL.vals; rw [e1, e2, e3, e4, e5]]
  have HF := Lib.hid (fun W (hb : Below w.heap.size w W) => copyFns_c L.fns n1 A1 c1 W hn1 (by have := hB.f; omega) ((s1.below hb).more hb.size) (fun g hg => (h.fe g hg).grow hb) (fun g hg => (h.fc g hg).grow hb) hB.fe hB.fc)
  have HW := Lib.hid (fun W (hb : Below w.heap.size w W) => copyWaits_c L.casts n2 A2 c2 W hn2 (by have := hB.c; omega) ((s2.below hb).more hb.size) (fun g hg => (h.co g hg).grow hb) hB.co)
  have HN := Lib.hid (fun W (hb : Below w.heap.size w W) => copyLongs_c L.nums n3 A3 c3 W hn3 (by have := hB.n; omega) ((s3.below hb).more hb.size))
  have HT := Lib.hid (fun W (hb : Below w.heap.size w W) => copyTexts_c L.texts n4 A4 c4 W hn4 (by have := hB.t; omega) ((s4.below hb).more hb.size))
  have HY := Lib.hid (fun W (hb : Below w.heap.size w W) => copyTexts_c L.types n5 A5 c5 W hn5 (by have := hB.y; omega) ((s5.below hb).more hb.size))
  have HNN := Lib.hid (And.intro hn1 (And.intro hn2 (And.intro hn3 (And.intro hn4 hn5))))
  obtain ⟨g0, hg0⟩ : ∃ x, w.heap.size = x := ⟨_, rfl⟩
  obtain ⟨W1, hW1⟩ : ∃ W1, ((w.alloc (.cells #[.slice A1 n1 c1, .slice A2 n2 c2, .slice A3 n3 c3, .slice A4 n4 c4, .slice A5 n5 c5] 27)).alloc (.cells #[.slice none 0 0, .slice none 0 0, .slice none 0 0, .slice none 0 0, .slice none 0 0] 27)) = W1 := ⟨_, rfl⟩
  have hb1 : Below w.heap.size w W1 := by rw [← hW1]; exact bal (bal b0 _) _
  have k1 : Blk W1 g0 27 #[.slice A1 n1 c1, .slice A2 n2 c2, .slice A3 n3 c3, .slice A4 n4 c4, .slice A5 n5 c5] := by rw [← hW1, ← hg0]; exact (Blk.new w _ _).alloc _
  have k2 : Blk W1 (g0 + 1) 27 nilV := by
    rw [← hW1, ← hg0]
    have := Blk.new (w.alloc (.cells #[.slice A1 n1 c1, .slice A2 n2 c2, .slice A3 n3 c3, .slice A4 n4 c4, .slice A5 n5 c5] 27)) 27 #[.slice none 0 0, .slice none 0 0, .slice none 0 0, .slice none 0 0, .slice none 0 0]
    simp only [World.size_alloc] at this
    exact this
  have x0 : W1.cell? ⟨g0, 0, none⟩ = some (.slice A1 n1 c1) := (k1.cell 0).trans rfl
  have HS0 := Lib.hid (show CS w W1 g0 #[.slice A1 n1 c1, .slice A2 n2 c2, .slice A3 n3 c3, .slice A4 n4 c4, .slice A5 n5 c5] [] [] [] from ⟨k1, k2, hb1, hg0, ⟨(fun g hg => by cases hg), (fun g hg => by cases hg)⟩, (fun r hr => by cases hr)⟩)
  clear h hB e1 e2 e3 e4 e5 s1 s2 s3 s4 s5 hn1 hn2 hn3 hn4 hn5 hc1 hc2 hc3 hc4 hc5 hd1 hd2 hd3 hd4 hd5 hb1 k1 k2
  go_enter Tryz.func23, Tryz.ntmps23
  go_upto_region 1 with fail
  clear hW1 hg0
  go_wp2_with fail
  (refine (HF.out _ HS0.out.bel).mono ?_); rintro ev w2 ⟨D1, B1, d1, rfl, hm1, ho1, hq1, hb2⟩
  have hs := HS0.out.call hb2
  have hs := hs.fns (D := D1) fun g hg => ⟨(hq1 g hg).1, (hq1 g hg).2.1, fun q hq => Nat.lt_of_lt_of_le (Nat.lt_of_succ_le HS0.out.big) ((hq1 g hg).2.2.1 q hq), fun q hq => Nat.lt_of_lt_of_le (Nat.lt_of_succ_le HS0.out.big) ((hq1 g hg).2.2.2 q hq)⟩
  have hs := hs.row (r := ⟨90, 4, .slice B1 n1 d1, n1, D1.flatMap FuL.cells⟩) (own_base ho1 HS0.out.big)
  have y0 : w2.cell? ⟨g0, 0, none⟩ = some (.slice A1 n1 c1) := (hs.blk.cell 0).trans rfl
  have z0 := hs.blk.frozen 0
  have hs := hs.set 0 (.slice B1 n1 d1)
  have HM1 := Lib.hid hm1
  clear hb2 ho1 hq1 hm1 x0
  go_upto_region 2 with fail
  obtain ⟨V1, hV1⟩ : ∃ X, w2.setCell ⟨g0, 0, none⟩ (.slice B1 n1 d1) = X := ⟨_, rfl⟩
  rw [hV1] at hs ⊢
  have HS1 := Lib.hid (show CS w V1 g0 #[.slice B1 n1 d1, .slice A2 n2 c2, .slice A3 n3 c3, .slice A4 n4 c4, .slice A5 n5 c5] D1 [] [⟨90, 4, .slice B1 n1 d1, n1, D1.flatMap FuL.cells⟩] from hs)
  have x1 : V1.cell? ⟨g0, 1, none⟩ = some (.slice A2 n2 c2) := (hs.blk.cell 1).trans rfl
  clear hs hV1 y0 z0
  go_wp2_with fail
  (refine (HW.out _ HS1.out.bel).mono ?_); rintro ev w3 ⟨D2, B2, d2, rfl, hm2, ho2, hq2, hb3⟩
  have hs := HS1.out.call hb3
  have hs := hs.wts (D := D2) fun g hg => ⟨(hq2 g hg).1, fun q hq => Nat.lt_of_lt_of_le (Nat.lt_of_succ_le HS1.out.big) ((hq2 g hg).2 q hq)⟩
  have hs := hs.row (r := ⟨84, 3, .slice B2 n2 d2, n2, D2.flatMap WtL.cells⟩) (own_base ho2 HS1.out.big)
  have y1 : w3.cell? ⟨g0, 1, none⟩ = some (.slice A2 n2 c2) := (hs.blk.cell 1).trans rfl
  have z1 := hs.blk.frozen 1
  have hs := hs.set 1 (.slice B2 n2 d2)
  have HM2 := Lib.hid hm2
  clear hb3 ho2 hq2 hm2 x1
  go_upto_region 3 with fail
  obtain ⟨V2, hV2⟩ : ∃ X, w3.setCell ⟨g0, 1, none⟩ (.slice B2 n2 d2) = X := ⟨_, rfl⟩
  rw [hV2] at hs ⊢
  have HS2 := Lib.hid (show CS w V2 g0 #[.slice B1 n1 d1, .slice B2 n2 d2, .slice A3 n3 c3, .slice A4 n4 c4, .slice A5 n5 c5] D1 D2 [⟨84, 3, .slice B2 n2 d2, n2, D2.flatMap WtL.cells⟩, ⟨90, 4, .slice B1 n1 d1, n1, D1.flatMap FuL.cells⟩] from hs)
  have x2 : V2.cell? ⟨g0, 2, none⟩ = some (.slice A3 n3 c3) := (hs.blk.cell 2).trans rfl
  clear hs hV2 y1 z1
  go_wp2_with fail
  (refine (HN.out _ HS2.out.bel).mono ?_); rintro ev w4 ⟨B3, d3, rfl, ho3, hb4⟩
  have hs := HS2.out.call hb4
  have hs := hs.row (r := ⟨2, 1, .slice B3 n3 d3, n3, numC L.nums⟩) (own_base ho3 HS2.out.big)
  have y2 : w4.cell? ⟨g0, 2, none⟩ = some (.slice A3 n3 c3) := (hs.blk.cell 2).trans rfl
  have z2 := hs.blk.frozen 2
  have hs := hs.set 2 (.slice B3 n3 d3)
  clear hb4 ho3 x2
  go_upto_region 4 with fail
  obtain ⟨V3, hV3⟩ : ∃ X, w4.setCell ⟨g0, 2, none⟩ (.slice B3 n3 d3) = X := ⟨_, rfl⟩
  rw [hV3] at hs ⊢
  have HS3 := Lib.hid (show CS w V3 g0 #[.slice B1 n1 d1, .slice B2 n2 d2, .slice B3 n3 d3, .slice A4 n4 c4, .slice A5 n5 c5] D1 D2 [⟨2, 1, .slice B3 n3 d3, n3, numC L.nums⟩, ⟨84, 3, .slice B2 n2 d2, n2, D2.flatMap WtL.cells⟩, ⟨90, 4, .slice B1 n1 d1, n1, D1.flatMap FuL.cells⟩] from hs)
  have x3 : V3.cell? ⟨g0, 3, none⟩ = some (.slice A4 n4 c4) := (hs.blk.cell 3).trans rfl
  clear hs hV3 y2 z2
  go_wp2_with fail
  (refine (HT.out _ HS3.out.bel).mono ?_); rintro ev w5 ⟨B4, d4, rfl, ho4, hb5⟩
  have hs := HS3.out.call hb5
  have hs := hs.row (r := ⟨9, 1, .slice B4 n4 d4, n4, envC L.texts⟩) (own_base ho4 HS3.out.big)
  have y3 : w5.cell? ⟨g0, 3, none⟩ = some (.slice A4 n4 c4) := (hs.blk.cell 3).trans rfl
  have z3 := hs.blk.frozen 3
  have hs := hs.set 3 (.slice B4 n4 d4)
  clear hb5 ho4 x3
  go_upto_region 5 with fail
  obtain ⟨V4, hV4⟩ : ∃ X, w5.setCell ⟨g0, 3, none⟩ (.slice B4 n4 d4) = X := ⟨_, rfl⟩
  rw [hV4] at hs ⊢
  have HS4 := Lib.hid (show CS w V4 g0 #[.slice B1 n1 d1, .slice B2 n2 d2, .slice B3 n3 d3, .slice B4 n4 d4, .slice A5 n5 c5] D1 D2 [⟨9, 1, .slice B4 n4 d4, n4, envC L.texts⟩, ⟨2, 1, .slice B3 n3 d3, n3, numC L.nums⟩, ⟨84, 3, .slice B2 n2 d2, n2, D2.flatMap WtL.cells⟩, ⟨90, 4, .slice B1 n1 d1, n1, D1.flatMap FuL.cells⟩] from hs)
  have x4 : V4.cell? ⟨g0, 4, none⟩ = some (.slice A5 n5 c5) := (hs.blk.cell 4).trans rfl
  clear hs hV4 y3 z3
  go_wp2_with fail
  (refine (HY.out _ HS4.out.bel).mono ?_); rintro ev w6 ⟨B5, d5, rfl, ho5, hb6⟩
  have hs := HS4.out.call hb6
  have hs := hs.row (r := ⟨9, 1, .slice B5 n5 d5, n5, envC L.types⟩) (own_base ho5 HS4.out.big)
  have y4 : w6.cell? ⟨g0, 4, none⟩ = some (.slice A5 n5 c5) := (hs.blk.cell 4).trans rfl
  have z4 := hs.blk.frozen 4
  have hs := hs.set 4 (.slice B5 n5 d5)
  clear hb6 ho5 x4
  go_upto_region 6 with fail
  obtain ⟨V5, hV5⟩ : ∃ X, w6.setCell ⟨g0, 4, none⟩ (.slice B5 n5 d5) = X := ⟨_, rfl⟩
  rw [hV5] at hs ⊢
  have HS5 := Lib.hid (show CS w V5 g0 #[.slice B1 n1 d1, .slice B2 n2 d2, .slice B3 n3 d3, .slice B4 n4 d4, .slice B5 n5 d5] D1 D2 [⟨9, 1, .slice B5 n5 d5, n5, envC L.types⟩, ⟨9, 1, .slice B4 n4 d4, n4, envC L.texts⟩, ⟨2, 1, .slice B3 n3 d3, n3, numC L.nums⟩, ⟨84, 3, .slice B2 n2 d2, n2, D2.flatMap WtL.cells⟩, ⟨90, 4, .slice B1 n1 d1, n1, D1.flatMap FuL.cells⟩] from hs)
  clear hs hV5 y4 z4
  have u0 : V5.cell? ⟨g0, 0, none⟩ = some (.slice B1 n1 d1) := (HS5.out.blk.cell 0).trans rfl
  have u1 : V5.cell? ⟨g0, 1, none⟩ = some (.slice B2 n2 d2) := (HS5.out.blk.cell 1).trans rfl
  have u2 : V5.cell? ⟨g0, 2, none⟩ = some (.slice B3 n3 d3) := (HS5.out.blk.cell 2).trans rfl
  have u3 : V5.cell? ⟨g0, 3, none⟩ = some (.slice B4 n4 d4) := (HS5.out.blk.cell 3).trans rfl
  have u4 : V5.cell? ⟨g0, 4, none⟩ = some (.slice B5 n5 d5) := (HS5.out.blk.cell 4).trans rfl
  have k5 := HS5.out.nil
  go_wp2_with (refine wpList_store_row rfl 27 (.tmp 2) (.tmp 23) rfl (g0 + 1) #[.slice B1 n1 d1, .slice B2 n2 d2, .slice B3 n3 d3, .slice B4 n4 d4, .slice B5 n5 d5] rfl rfl 27 _ k5 (by kernel_rfl) rfl (by kernel_rfl) ?_)
  (try simp only [Exit.inBlock, Exit.then])
  refine bodyPost_ret (results_cell_row rfl _ _ (g0 + 1) 27 #[.slice B1 n1 d1, .slice B2 n2 d2, .slice B3 n3 d3, .slice B4 n4 d4, .slice B5 n5 d5] (0, 0) _ rfl (setRow_heap _ _ _ _ _ _ k5) Tryz.underlying27 rfl (by kernel_rfl)) rfl ⟨⟨D1, D2, L.nums, L.texts, L.types, .slice B1 n1 d1, .slice B2 n2 d2, .slice B3 n3 d3, .slice B4 n4 d4, .slice B5 n5 d5⟩, rfl, ?_, ?_, ?_⟩
  · simp only [CoL.code, HM1.out, HM2.out]
  · have hl1 : D1.length = n1 := by have := congrArg List.length HM1.out; simp only [List.length_map] at this; rw [this]; exact HNN.out.1
    have hl2 : D2.length = n2 := by have := congrArg List.length HM2.out; simp only [List.length_map] at this; rw [this]; exact HNN.out.2.1
    have hr := fun (r : Rw) hr => own_but (cf := g0 + 1) (HS5.out.own r hr) (but_setRow (C := fun k => k = g0 + 1) (But.refl _ V5) (.inl rfl) #[.slice B1 n1 d1, .slice B2 n2 d2, .slice B3 n3 d3, .slice B4 n4 d4, .slice B5 n5 d5]) (by omega)
    have hc := HS5.out.cp.row (cs := #[.slice B1 n1 d1, .slice B2 n2 d2, .slice B3 n3 d3, .slice B4 n4 d4, .slice B5 n5 d5])
    refine ⟨?_, ?_, ?_, ?_, ?_, fun g hg => rd_rs (hc.fe g hg).1, fun g hg => rd_rs (hc.fe g hg).2.1, fun g hg => rd_rs (hc.co g hg).1⟩
    · have := rd_rs <| Rd.of_own (hr ⟨90, 4, .slice B1 n1 d1, n1, D1.flatMap FuL.cells⟩ (by simp)); rw [← hl1] at this ⊢; exact this
    · have := rd_rs <| Rd.of_own (hr ⟨84, 3, .slice B2 n2 d2, n2, D2.flatMap WtL.cells⟩ (by simp)); rw [← hl2] at this ⊢; exact this
    · have := rd_rs <| Rd.of_own (hr ⟨2, 1, .slice B3 n3 d3, n3, numC L.nums⟩ (by simp)); rw [← HNN.out.2.2.1] at this ⊢; exact this
    · have := rd_rs <| Rd.of_own (hr ⟨9, 1, .slice B4 n4 d4, n4, envC L.texts⟩ (by simp)); rw [← HNN.out.2.2.2.1] at this ⊢; exact this
    · have := rd_rs <| Rd.of_own (hr ⟨9, 1, .slice B5 n5 d5, n5, envC L.types⟩ (by simp)); rw [← HNN.out.2.2.2.2] at this ⊢; exact this
  · exact below_setRow HS5.out.bel (by have := HS5.out.eq; omega) _
end Go.Proofs.YtobplngonkdbpaaGreatDoor.D

/- CgH -/
namespace Go.Proofs.YtobplngonkdbpaaGreatDoor.D
open Go.RowKit
open Go.Proofs.YtobplngonkdbpaaGreatDoor.B
set_option linter.unusedVariables false
set_option linter.unusedSimpArgs false

theorem retV {v v' : Value} (h : v = v') : Ending.returned v = Ending.returned v' := by rw [h]
/-- How many boxes the first k letters have. -/
def cnt (s : ByteArray) (k : Nat) : Nat := (s.data.toList.take k).count 120
theorem cnt_succ (s : ByteArray) (k : Nat) (h : k < s.size) : cnt s (k + 1) = cnt s k + if s[k] = 120 then 1 else 0 := by
  have hl : k < s.data.toList.length := by simpa using h
  unfold cnt
  rw [List.take_succ_eq_append_getElem hl, List.count_append]
  congr 1
  have e : s.data.toList[k] = s[k] := by simp [ByteArray.getElem_eq_getElem_data]
  rw [e]
  by_cases hx : s[k] = 120
  · rw [if_pos hx, hx]; rfl
  · rw [if_neg hx, List.count_singleton, if_neg (by simpa using hx)]
theorem cnt_le (s : ByteArray) (k : Nat) : cnt s k ≤ cnt s s.size := by
  unfold cnt
  rw [show s.data.toList.take s.size = s.data.toList from List.take_of_length_le (by simp)]
  exact (List.take_sublist _ _).count_le _
def deepB (s : ByteArray) : Bool := decide (12 < cnt s s.size)
def sizeT (s : ByteArray) : Int := if deepB s = true then 2147483648 else s.size

theorem deep_w (s : ByteArray) (w : World) (hs : s.size ≤ 4611686018427387904) : Calls Tryz.prog 120 #[.string s] w fun e w' => e = .returned (.bool (deepB s)) ∧ w = w' := by
  obtain ⟨R, hR⟩ : ∃ R, deepB s = R := ⟨_, rfl⟩
  rw [hR]
  have HR := Lib.hid hR
  clear hR
  go_enter Tryz.func120, Tryz.ntmps120
  go_wp2
  go_loop [3, 4] (fun n i => ∃ (k N : Nat), k ≤ s.size ∧ i = .int .i64 k ∧ n = .int .i64 N ∧ N ≤ 13 ∧ Hid (N = cnt s k)) (fun _ i => s.size - (intOf i).toNat)
  case atStart => exact ⟨0, 0, Nat.zero_le _, rfl, rfl, by omega, Lib.hid rfl⟩
  case round =>
    obtain ⟨k, N, hk, rfl, rfl, hN, HC⟩ := hrel
    by_cases hlt : k < s.size
    · have HS := Lib.hid (cnt_succ s k hlt)
      by_cases hn : N ≤ 12
      · by_cases hx : s[k] = 120
        · have hx' : ((s[k].toNat : Int) == 120) = true := by rw [hx]; rfl
          have HX := Lib.hid hx
          clear hx
          go_wp2
          go_round
          case rel => exact ⟨k + 1, N + 1, by omega, by go_num, by go_num, by omega, Lib.hid (by rw [HS.out, if_pos HX.out, ← HC.out])⟩
          case measure => simp [intOf]; omega
        · have hx' : ((s[k].toNat : Int) == 120) = false := by
            rw [beq_eq_false_iff_ne]
            intro e
            exact hx (UInt8.toNat_inj.1 (by have : s[k].toNat = 120 := by omega
                                            exact this))
          have HX := Lib.hid hx
          clear hx
          go_wp2
          go_round
          case rel => exact ⟨k + 1, N, by omega, by go_num, rfl, by omega, Lib.hid (by rw [HS.out, if_neg HX.out, ← HC.out, Nat.add_zero])⟩
          case measure => simp [intOf]; omega
      · have hd : decide ((12 : Int) < (N : Int)) = true := by simp; omega
        have hr : R = true := by
          rw [← HR.out]
          unfold deepB
          have h1 := cnt_le s k
          have h2 := HC.out
          exact decide_eq_true (by omega)
        go_wp2
        go_ret
        exact ⟨retV (congrArg Value.bool (by first | rfl | exact hd | (rw [hr]))), rfl⟩
    · obtain rfl : k = s.size := by omega
      go_wp2
      go_ret
      refine ⟨retV (congrArg Value.bool ?_), rfl⟩
      rw [← HR.out]
      unfold deepB
      rw [← HC.out]
      exact decide_eq_decide.2 (by omega)
theorem sizeType_w (s : ByteArray) (w : World) (hs : s.size ≤ 4611686018427387904) : Calls Tryz.prog 86 #[.string s] w fun e w' => e = .returned (.int .i64 (sizeT s)) ∧ w' = w := by
  have hd := fun W => deep_w s W hs
  unfold sizeT
  generalize deepB s = v at *
  go_enter Tryz.func86, Tryz.ntmps86
  go_wp2_with fail
  (refine (hd _).mono ?_); rintro e w1 ⟨rfl, rfl⟩
  cases v
  · go_wp2_with fail
    go_ret
    exact ⟨rfl, rfl⟩
  · go_wp2_with fail
    go_ret
    exact ⟨rfl, rfl⟩


/-- What a type counts. -/
def tyN (s : Bs) : Nat := if deepB ⟨s.toArray⟩ = true then 2147483648 else s.length
theorem tyN_ge (s : Bs) (h : tyN s ≤ 2147483647) : tyN s = s.length := by
  unfold tyN at h ⊢
  split at h
  · omega
  · rename_i hd; rw [if_neg hd]
theorem tyN_le (s : Bs) (h : s.length ≤ 140737488355328) : tyN s ≤ 140737488355328 := by unfold tyN; split <;> omega
theorem sizeTy_c (s : Bs) (w : World) (hs : s.length ≤ 140737488355328) : Calls Tryz.prog 86 #[.string ⟨s.toArray⟩] w fun e w' => e = .returned (.int .i64 (tyN s : Nat)) ∧ Below w.heap.size w w' := by
  have hz := str_size s
  refine (sizeType_w ⟨s.toArray⟩ w (by omega)).mono ?_
  rintro e w' ⟨rfl, rfl⟩
  refine ⟨?_, b0⟩
  unfold sizeT tyN
  split
  · rfl
  · rw [hz]
def mT (l : List Bs) : Nat := l.length + (l.map List.length).sum
def mF (f : Fu) : Nat := mT f.env + f.param.length + f.res.length + f.code.length
def mW (f : Wt) : Nat := f.f.length + f.t.length + f.co.length
/-- How much code counts. -/
def mC (c : Cod) : Nat := c.fns.length + c.casts.length + c.nums.length + mT c.texts + mT c.types + (c.fns.map mF).sum + (c.casts.map mW).sum
theorem sum_take {α : Type} (f : α → Nat) {l : List α} {k : Nat} {a : α} (h : l[k]? = some a) : ((l.take (k + 1)).map f).sum = ((l.take k).map f).sum + f a := by
  rw [List.take_add_one, h]; simp
set_option maxRecDepth 100000 in
theorem sizeTexts_c (l : List Bs) (n : Nat) (A : Option Addr) (c : Nat) (w : World) (hn : l.length = n) (hb : n ≤ 140737488355328) (hl : ∀ x ∈ l, x.length ≤ 140737488355328) (hA : Sl w w.heap.size 1 A n (envC l)) :
    Calls Tryz.prog 84 #[.slice A n c] w fun e w' => ∃ N : Nat, e = .returned (.int .i64 N) ∧ N ≤ 200000000000000 ∧ (N ≤ 2147483647 → mT l ≤ N) ∧ Below w.heap.size w w' := by
  have HA := Lib.hid (And.intro hA (And.intro hn hl))
  clear hA hn hl
  go_enter Tryz.func84, Tryz.ntmps84
  go_wp2_with fail
  go_loopg [3, 4] n (fun gg z i wr => ∃ k N : Nat, k ≤ n ∧ gg = n - k ∧ i = .int .i64 k ∧ z = .int .i64 N ∧ N ≤ 200000000000000 ∧ Hid ((N ≤ 2147483647 → N = l.length + ((l.take k).map List.length).sum) ∧ Below w.heap.size w wr))
  case atStart => exact ⟨0, n, by omega, rfl, rfl, rfl, by omega, Lib.hid ⟨fun _ => by rw [HA.out.2.1]; simp, b0⟩⟩
  case round =>
    obtain ⟨k, N, hk, rfl, rfl, rfl, hN, HR⟩ := hrel
    by_cases hlt : k < n
    · by_cases hbig : N ≤ 2147483647
      · obtain ⟨x, hx⟩ : ∃ x, l[k]? = some x := ⟨_, List.getElem?_eq_getElem (by rw [HA.out.2.1]; exact hlt)⟩
        obtain ⟨b, o, rfl, hbl, hc⟩ := HA.out.1.at_ (by omega)
        have d0 : wr.cell? ⟨b, o + k, none⟩ = some (.string ⟨x.toArray⟩) := (HR.out.2.cell (p := ⟨b, o + k, none⟩) hbl).trans (hc k _ (by simp [envC, hx]; rfl))
        have hz := str_size x
        have hxl := HA.out.2.2 x (List.mem_of_getElem? hx)
        have hst := sum_take List.length hx
        skip
        have HST := Lib.hid hst
        clear hx hbl hc hst
        go_wp2_with fail
        skip
        go_roundg (n - (k + 1))
        case measure => omega
        case rel => exact ⟨k + 1, N + x.length, by omega, rfl, by go_num, by go_num, by omega, Lib.hid ⟨fun h => by rw [HST.out]; have := HR.out.1 hbig; omega, HR.out.2⟩⟩
      · have hd : decide ((N : Int) ≤ 2147483647) = false := by simp; omega
        go_wp2_with fail
        go_ret
        exact ⟨N, rfl, hN, fun h => absurd h hbig, HR.out.2⟩
    · obtain rfl : k = n := by omega
      go_wp2_with fail
      go_ret
      refine ⟨N, rfl, hN, fun h => ?_, HR.out.2⟩
      have := HR.out.1 h
      rw [← HA.out.2.1, List.take_length] at this
      unfold mT; omega
set_option maxRecDepth 100000 in
theorem sizeTypes_c (l : List Bs) (n : Nat) (A : Option Addr) (c : Nat) (w : World) (hn : l.length = n) (hb : n ≤ 140737488355328) (hl : ∀ x ∈ l, x.length ≤ 140737488355328) (hA : Sl w w.heap.size 1 A n (envC l)) :
    Calls Tryz.prog 85 #[.slice A n c] w fun e w' => ∃ N : Nat, e = .returned (.int .i64 N) ∧ N ≤ 200000000000000 ∧ (N ≤ 2147483647 → mT l ≤ N) ∧ Below w.heap.size w w' := by
  have HA := Lib.hid (And.intro hA (And.intro hn hl))
  clear hA hn hl
  go_enter Tryz.func85, Tryz.ntmps85
  go_wp2_with fail
  go_loopg [3, 4] n (fun gg z i wr => ∃ k N : Nat, k ≤ n ∧ gg = n - k ∧ i = .int .i64 k ∧ z = .int .i64 N ∧ N ≤ 200000000000000 ∧ Hid ((N ≤ 2147483647 → N = l.length + ((l.take k).map List.length).sum) ∧ Below w.heap.size w wr))
  case atStart => exact ⟨0, n, by omega, rfl, rfl, rfl, by omega, Lib.hid ⟨fun _ => by rw [HA.out.2.1]; simp, b0⟩⟩
  case round =>
    obtain ⟨k, N, hk, rfl, rfl, rfl, hN, HR⟩ := hrel
    by_cases hlt : k < n
    · by_cases hbig : N ≤ 2147483647
      · obtain ⟨x, hx⟩ : ∃ x, l[k]? = some x := ⟨_, List.getElem?_eq_getElem (by rw [HA.out.2.1]; exact hlt)⟩
        obtain ⟨b, o, rfl, hbl, hc⟩ := HA.out.1.at_ (by omega)
        have d0 : wr.cell? ⟨b, o + k, none⟩ = some (.string ⟨x.toArray⟩) := (HR.out.2.cell (p := ⟨b, o + k, none⟩) hbl).trans (hc k _ (by simp [envC, hx]; rfl))
        have hz := str_size x
        have hxl := HA.out.2.2 x (List.mem_of_getElem? hx)
        have hst := sum_take List.length hx
        have hty := tyN_le x hxl
        have HTY := Lib.hid (tyN_ge x)
        have HC := Lib.hid (sizeTy_c x wr hxl)
        have HST := Lib.hid hst
        clear hx hbl hc hst
        go_wp2_with fail
        (refine HC.out.mono ?_); rintro ev w2 ⟨rfl, hb2⟩
        have HB2 := Lib.hid (bl HR.out.2 hb2)
        clear hb2
        go_wp2_with fail
        go_roundg (n - (k + 1))
        case measure => omega
        case rel => exact ⟨k + 1, N + tyN x, by omega, rfl, by go_num, by go_num, by omega, Lib.hid ⟨fun h => by rw [HST.out]; have := HR.out.1 hbig; have := HTY.out (by omega); omega, HB2.out⟩⟩
      · have hd : decide ((N : Int) ≤ 2147483647) = false := by simp; omega
        go_wp2_with fail
        go_ret
        exact ⟨N, rfl, hN, fun h => absurd h hbig, HR.out.2⟩
    · obtain rfl : k = n := by omega
      go_wp2_with fail
      go_ret
      refine ⟨N, rfl, hN, fun h => ?_, HR.out.2⟩
      have := HR.out.1 h
      rw [← HA.out.2.1, List.take_length] at this
      unfold mT; omega
end Go.Proofs.YtobplngonkdbpaaGreatDoor.D
