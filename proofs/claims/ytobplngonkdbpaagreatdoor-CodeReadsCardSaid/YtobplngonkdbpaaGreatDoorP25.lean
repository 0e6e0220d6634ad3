/- Parts of this claim: CgF. -/
import Derived.Test.YtobplngonkdbpaaGreatDoorP24
set_option linter.unusedVariables false
set_option linter.unusedSimpArgs false
/- CgF -/
namespace Go.Proofs.YtobplngonkdbpaaGreatDoor.D
open Go.RowKit
open Go.Proofs.YtobplngonkdbpaaGreatDoor.B
set_option linter.unusedVariables false
set_option linter.unusedSimpArgs false

theorem envC_one (l : List Bs) : ∀ u ∈ envC l, u.oneCell' = true := by
  intro u hu; obtain ⟨x, _, rfl⟩ := List.mem_map.1 hu; rfl
theorem numC_one (l : List Int) : ∀ u ∈ numC l, u.oneCell' = true := by
  intro u hu; obtain ⟨x, _, rfl⟩ := List.mem_map.1 hu; rfl
theorem codC_one (l : List In) : ∀ u ∈ codC l, u.oneCell' = true := by
  intro u hu
  obtain ⟨x, _, hx⟩ := List.mem_flatMap.1 hu
  simp only [inC, List.mem_cons, List.not_mem_nil, or_false] at hx
  rcases hx with rfl | rfl | rfl <;> rfl
theorem cosC_one (l : List Nd) : ∀ u ∈ cosC l, u.oneCell' = true := by
  intro u hu
  obtain ⟨x, _, hx⟩ := List.mem_flatMap.1 hu
  simp only [ndC, List.mem_cons, List.not_mem_nil, or_false] at hx
  rcases hx with rfl | rfl | rfl | rfl | rfl | rfl | rfl <;> rfl
theorem copyTexts_c (l : List Bs) (N : Nat) (A : Option Addr) (c : Nat) (w : World) (hN : l.length = N) (hb : N ≤ 1073741824) (hA : Sl w w.heap.size 1 A N (envC l)) :
    Calls Tryz.prog 83 #[.slice A N c] w fun e w' => ∃ A' c', e = .returned (.slice A' N c') ∧ w'.ownsRow w.heap.size 9 1 (.slice A' N c') N (envC l) ∧ Below w.heap.size w w' := by
  obtain ⟨i0, hi0, hz0, hz1, hz2⟩ := info_parts info9
  go_enter Tryz.func83, Tryz.ntmps83
  go_wp2_with (at_builtin; refine wpList_append_sl _ rfl (.tmp 4) (.tmp 5) _ rfl w.heap.size 9 i0 _ 1 16 Tryz.underlying25 hi0 hz0 hz1 hz2 rfl (by omega) (.slice none 0 0) 0 [] rfl (World.ownsRow_nil _ _ _ _) w.heap.size A N c (envC l) rfl hA (envC_one l) (by simp only [maxLen]; omega) (by omega) (Nat.le_refl _) ?_; intro v1 w1 hown hg hat)
  obtain ⟨A', c', rfl, _, _⟩ := own_shape hown
  simp only [Nat.zero_add, List.nil_append] at hown ⊢
  go_ret
  exact ⟨A', c', rfl, hown, (Below.refl _ _).grown hg (Nat.le_refl _) (by simp [Value.ownBlock])⟩
theorem copyLongs_c (l : List Int) (N : Nat) (A : Option Addr) (c : Nat) (w : World) (hN : l.length = N) (hb : N ≤ 1073741824) (hA : Sl w w.heap.size 1 A N (numC l)) :
    Calls Tryz.prog 82 #[.slice A N c] w fun e w' => ∃ A' c', e = .returned (.slice A' N c') ∧ w'.ownsRow w.heap.size 2 1 (.slice A' N c') N (numC l) ∧ Below w.heap.size w w' := by
  obtain ⟨i0, hi0, hz0, hz1, hz2⟩ := info_parts infoL
  go_enter Tryz.func82, Tryz.ntmps82
  go_wp2_with (at_builtin; refine wpList_append_sl _ rfl (.tmp 4) (.tmp 5) _ rfl w.heap.size 2 i0 _ 1 8 Tryz.underlying24 hi0 hz0 hz1 hz2 rfl (by omega) (.slice none 0 0) 0 [] rfl (World.ownsRow_nil _ _ _ _) w.heap.size A N c (numC l) rfl hA (numC_one l) (by simp only [maxLen]; omega) (by omega) (Nat.le_refl _) ?_; intro v1 w1 hown hg hat)
  obtain ⟨A', c', rfl, _, _⟩ := own_shape hown
  simp only [Nat.zero_add, List.nil_append] at hown ⊢
  go_ret
  exact ⟨A', c', rfl, hown, (Below.refl _ _).grown hg (Nat.le_refl _) (by simp [Value.ownBlock])⟩
theorem copyIns_c (l : List In) (N : Nat) (A : Option Addr) (c : Nat) (w : World) (hN : l.length = N) (hb : N ≤ 1073741824) (hA : Sl w w.heap.size 3 A N (codC l)) :
    Calls Tryz.prog 149 #[.slice A N c] w fun e w' => ∃ A' c', e = .returned (.slice A' N c') ∧ w'.ownsRow w.heap.size 92 3 (.slice A' N c') N (codC l) ∧ Below w.heap.size w w' := by
  obtain ⟨i0, hi0, hz0, hz1, hz2⟩ := info_parts infoI
  go_enter Tryz.func149, Tryz.ntmps149
  go_wp2_with (at_builtin; refine wpList_append_sl _ rfl (.tmp 4) (.tmp 5) _ rfl w.heap.size 92 i0 _ 3 24 Tryz.underlying88 hi0 hz0 hz1 hz2 rfl (by omega) (.slice none 0 0) 0 [] rfl (World.ownsRow_nil _ _ _ _) w.heap.size A N c (codC l) rfl hA (codC_one l) (by simp only [maxLen]; omega) (by omega) (Nat.le_refl _) ?_; intro v1 w1 hown hg hat)
  obtain ⟨A', c', rfl, _, _⟩ := own_shape hown
  simp only [Nat.zero_add, List.nil_append] at hown ⊢
  go_ret
  exact ⟨A', c', rfl, hown, (Below.refl _ _).grown hg (Nat.le_refl _) (by simp [Value.ownBlock])⟩
theorem copyCos_c (l : List Nd) (N : Nat) (A : Option Addr) (c : Nat) (w : World) (hN : l.length = N) (hb : N ≤ 1073741824) (hA : Sl w w.heap.size 7 A N (cosC l)) :
    Calls Tryz.prog 150 #[.slice A N c] w fun e w' => ∃ A' c', e = .returned (.slice A' N c') ∧ w'.ownsRow w.heap.size 86 7 (.slice A' N c') N (cosC l) ∧ Below w.heap.size w w' := by
  obtain ⟨i0, hi0, hz0, hz1, hz2⟩ := info_parts infoN
  go_enter Tryz.func150, Tryz.ntmps150
  go_wp2_with (at_builtin; refine wpList_append_sl _ rfl (.tmp 4) (.tmp 5) _ rfl w.heap.size 86 i0 _ 7 40 Tryz.underlying82 hi0 hz0 hz1 hz2 rfl (by omega) (.slice none 0 0) 0 [] rfl (World.ownsRow_nil _ _ _ _) w.heap.size A N c (cosC l) rfl hA (cosC_one l) (by simp only [maxLen]; omega) (by omega) (Nat.le_refl _) ?_; intro v1 w1 hown hg hat)
  obtain ⟨A', c', rfl, _, _⟩ := own_shape hown
  simp only [Nat.zero_add, List.nil_append] at hown ⊢
  go_ret
  exact ⟨A', c', rfl, hown, (Below.refl _ _).grown hg (Nat.le_refl _) (by simp [Value.ownBlock])⟩

set_option maxRecDepth 100000 in
theorem copyFn_c (f : Fu) (M Q : Nat) (A1 A2 : Option Addr) (c1 c2 : Nat) (w : World) (hM : f.env.length = M) (hQ : f.code.length = Q) (hMb : M ≤ 1073741824) (hQb : Q ≤ 1073741824)
    (h1 : Sl w w.heap.size 1 A1 M (envC f.env)) (h2 : Sl w w.heap.size 3 A2 Q (codC f.code)) :
    Calls Tryz.prog 118 #[.agg #[.slice A1 M c1, .string ⟨f.param.toArray⟩, .string ⟨f.res.toArray⟩, .slice A2 Q c2]] w
      fun e w' => ∃ B1 d1 B2 d2, e = .returned (.agg #[.slice B1 M d1, .string ⟨f.param.toArray⟩, .string ⟨f.res.toArray⟩, .slice B2 Q d2]) ∧ w'.ownsRow w.heap.size 9 1 (.slice B1 M d1) M (envC f.env) ∧ w'.ownsRow w.heap.size 92 3 (.slice B2 Q d2) Q (codC f.code) ∧ Below w.heap.size w w' := by
  have HT := Lib.hid (fun W (h : Below w.heap.size w W) => copyTexts_c f.env M A1 c1 W hM hMb ((h1.below h).more h.size))
  have HI := Lib.hid (fun W (h : Below w.heap.size w W) => copyIns_c f.code Q A2 c2 W hQ hQb ((h2.below h).more h.size))
  obtain ⟨g0, hg0⟩ : ∃ x, w.heap.size = x := ⟨_, rfl⟩
  obtain ⟨W1, hW1⟩ : ∃ W1, ((w.alloc (.cells #[.slice A1 M c1, .string ⟨f.param.toArray⟩, .string ⟨f.res.toArray⟩, .slice A2 Q c2] 90)).alloc (.cells #[.slice none 0 0, .string ⟨#[]⟩, .string ⟨#[]⟩, .slice none 0 0] 90)) = W1 := ⟨_, rfl⟩
  have hb1 : Below w.heap.size w W1 := by rw [← hW1]; exact bal (bal b0 _) _
  have k1 : Blk W1 g0 90 #[.slice A1 M c1, .string ⟨f.param.toArray⟩, .string ⟨f.res.toArray⟩, .slice A2 Q c2] := by rw [← hW1, ← hg0]; exact (Blk.new w _ _).alloc _
  have k2 : Blk W1 (g0 + 1) 90 #[.slice none 0 0, .string ⟨#[]⟩, .string ⟨#[]⟩, .slice none 0 0] := by
    rw [← hW1, ← hg0]
    have := Blk.new (w.alloc (.cells #[.slice A1 M c1, .string ⟨f.param.toArray⟩, .string ⟨f.res.toArray⟩, .slice A2 Q c2] 90)) 90 #[.slice none 0 0, .string ⟨#[]⟩, .string ⟨#[]⟩, .slice none 0 0]
    simpa only [World.size_alloc] using this
  have x0 : W1.cell? ⟨g0, 0, none⟩ = some (.slice A1 M c1) := (k1.cell 0).trans rfl
  have HK := Lib.hid (And.intro hb1 (And.intro k1 (And.intro k2 (show w.heap.size = g0 from hg0))))
  clear h1 h2 hM hQ hb1 k1 k2
  go_enter Tryz.func118, Tryz.ntmps118
  go_upto_region 1 with fail
  clear hW1 hg0
  go_wp2_with fail
  (refine (HT.out _ HK.out.1).mono ?_); rintro ev w2 ⟨B1, d1, rfl, ho1, hb2⟩
  have k1 := HK.out.2.1.below hb2 HK.out.2.1.lt
  have x0' : w2.cell? ⟨g0, 0, none⟩ = some (.slice A1 M c1) := (k1.cell 0).trans rfl
  have z0 := k1.frozen 0
  have x3 : w2.cell? ⟨g0, 3, none⟩ = some (.slice A2 Q c2) := (k1.cell 3).trans rfl
  have k1' : Blk (w2.setCell ⟨g0, 0, none⟩ (.slice B1 M d1)) g0 90 #[.slice B1 M d1, .string ⟨f.param.toArray⟩, .string ⟨f.res.toArray⟩, .slice A2 Q c2] := k1.set_ 0 _
  have k2' := (HK.out.2.2.1.below hb2 HK.out.2.2.1.lt).far (p := ⟨g0, 0, none⟩) (show g0 + 1 ≠ g0 by omega) (.slice B1 M d1)
  have hb2' : Below w.heap.size w (w2.setCell ⟨g0, 0, none⟩ (.slice B1 M d1)) := below_set (bl HK.out.1 hb2) (by have := HK.out.2.2.2; omega) _
  have ho1' := own_but (cf := g0) ho1 (but_set (C := fun k => k = g0) (But.refl _ w2) (b := g0) (i := 0) rfl (.slice B1 M d1)) HK.out.2.1.lt
  have HF2 := Lib.hid (And.intro k1' (And.intro k2' (And.intro hb2' ho1')))
  clear k1 k1' k2' hb2 hb2' ho1 ho1' x0
  go_upto_region 2 with fail
  obtain ⟨W3, hW3⟩ : ∃ X, w2.setCell ⟨g0, 0, none⟩ (.slice B1 M d1) = X := ⟨_, rfl⟩
  rw [hW3] at HF2 ⊢
  have y3 : W3.cell? ⟨g0, 3, none⟩ = some (.slice A2 Q c2) := (HF2.out.1.cell 3).trans rfl
  clear hW3 x0' z0 x3
  go_wp2_with fail
  (refine (HI.out _ HF2.out.2.2.1).mono ?_); rintro ev w4 ⟨B2, d2, rfl, ho2, hb4⟩
  have k1 := HF2.out.1.below hb4 HF2.out.1.lt
  have x3 : w4.cell? ⟨g0, 3, none⟩ = some (.slice A2 Q c2) := (k1.cell 3).trans rfl
  have z3 := k1.frozen 3
  have k1' : Blk (w4.setCell ⟨g0, 3, none⟩ (.slice B2 Q d2)) g0 90 #[.slice B1 M d1, .string ⟨f.param.toArray⟩, .string ⟨f.res.toArray⟩, .slice B2 Q d2] := k1.set_ 3 _
  have k2' := (HF2.out.2.1.below hb4 HF2.out.2.1.lt).far (p := ⟨g0, 3, none⟩) (show g0 + 1 ≠ g0 by omega) (.slice B2 Q d2)
  have hb4' : Below w.heap.size w (w4.setCell ⟨g0, 3, none⟩ (.slice B2 Q d2)) := below_set (bl HF2.out.2.2.1 hb4) (by have := HK.out.2.2.2; omega) _
  have hbut := but_set (C := fun k => k = g0) (But.refl _ w4) (b := g0) (i := 3) rfl (.slice B2 Q d2)
  have ho2' := own_but (cf := g0) ho2 hbut HF2.out.1.lt
  have ho1' := own_but (cf := g0) (own_below HF2.out.2.2.2 hb4) hbut HK.out.2.1.lt
  have HF4 := Lib.hid (show Blk (w4.setCell ⟨g0, 3, none⟩ (.slice B2 Q d2)) (g0 + 1) 90 #[.slice none 0 0, .string ⟨#[]⟩, .string ⟨#[]⟩, .slice none 0 0] ∧ Below w.heap.size w (w4.setCell ⟨g0, 3, none⟩ (.slice B2 Q d2)) ∧ (w4.setCell ⟨g0, 3, none⟩ (.slice B2 Q d2)).ownsRow (g0 + 2) 9 1 (.slice B1 M d1) M (envC f.env) ∧ (w4.setCell ⟨g0, 3, none⟩ (.slice B2 Q d2)).ownsRow (g0 + 2) 92 3 (.slice B2 Q d2) Q (codC f.code) from
    ⟨k2', hb4', own_base ho1' (by have := HK.out.2.2.1.lt; omega), own_base ho2' (by have := HF2.out.2.1.lt; omega)⟩)
  clear k1 k2' hb4 hb4' hbut ho1' ho2' ho2 y3
  have HK1 := Lib.hid k1'
  clear k1'
  go_upto_region 3 with fail
  obtain ⟨W5, hW5⟩ : ∃ X, w4.setCell ⟨g0, 3, none⟩ (.slice B2 Q d2) = X := ⟨_, rfl⟩
  rw [hW5] at HF4 HK1 ⊢
  have u0 : W5.cell? ⟨g0, 0, none⟩ = some (.slice B1 M d1) := (HK1.out.cell 0).trans rfl
  have u1 : W5.cell? ⟨g0, 1, none⟩ = some (.string ⟨f.param.toArray⟩) := (HK1.out.cell 1).trans rfl
  have u2 : W5.cell? ⟨g0, 2, none⟩ = some (.string ⟨f.res.toArray⟩) := (HK1.out.cell 2).trans rfl
  have u3 : W5.cell? ⟨g0, 3, none⟩ = some (.slice B2 Q d2) := (HK1.out.cell 3).trans rfl
  have k5 := HF4.out.1
  clear hW5 x3 z3
  go_wp2_with (refine wpList_store_row rfl 90 (.tmp 2) (.tmp 11) rfl (g0 + 1) #[.slice B1 M d1, .string ⟨f.param.toArray⟩, .string ⟨f.res.toArray⟩, .slice B2 Q d2] rfl rfl 90 _ k5 (by kernel_rfl) rfl (by kernel_rfl) ?_)
  (try simp only [Exit.inBlock, Exit.then])
  refine bodyPost_ret (results_cell_row rfl _ _ (g0 + 1) 90 #[.slice B1 M d1, .string ⟨f.param.toArray⟩, .string ⟨f.res.toArray⟩, .slice B2 Q d2] (0, 0) _ rfl (setRow_heap _ _ _ _ _ _ k5) Tryz.underlying90 rfl (by kernel_rfl)) rfl ⟨B1, d1, B2, d2, rfl, ?_, ?_, ?_⟩
  · exact own_base (own_but (cf := g0 + 1) HF4.out.2.2.1 (but_setRow (C := fun k => k = g0 + 1) (But.refl _ W5) (.inl rfl) _) (by omega)) (by have := HK.out.2.2.2; omega)
  · exact own_base (own_but (cf := g0 + 1) HF4.out.2.2.2 (but_setRow (C := fun k => k = g0 + 1) (But.refl _ W5) (.inl rfl) _) (by omega)) (by have := HK.out.2.2.2; omega)
  · exact below_setRow HF4.out.2.1 (by have := HK.out.2.2.2; omega) _
set_option maxRecDepth 100000 in
theorem copyWait_c (f : Wt) (Q : Nat) (A2 : Option Addr) (c2 : Nat) (w : World) (hQ : f.co.length = Q) (hQb : Q ≤ 1073741824) (h2 : Sl w w.heap.size 7 A2 Q (cosC f.co)) :
    Calls Tryz.prog 119 #[.agg #[.string ⟨f.f.toArray⟩, .string ⟨f.t.toArray⟩, .slice A2 Q c2]] w
      fun e w' => ∃ B2 d2, e = .returned (.agg #[.string ⟨f.f.toArray⟩, .string ⟨f.t.toArray⟩, .slice B2 Q d2]) ∧ w'.ownsRow w.heap.size 86 7 (.slice B2 Q d2) Q (cosC f.co) ∧ Below w.heap.size w w' := by
  have HI := Lib.hid (fun W (h : Below w.heap.size w W) => copyCos_c f.co Q A2 c2 W hQ hQb ((h2.below h).more h.size))
  obtain ⟨g0, hg0⟩ : ∃ x, w.heap.size = x := ⟨_, rfl⟩
  obtain ⟨W1, hW1⟩ : ∃ W1, ((w.alloc (.cells #[.string ⟨f.f.toArray⟩, .string ⟨f.t.toArray⟩, .slice A2 Q c2] 84)).alloc (.cells #[.string ⟨#[]⟩, .string ⟨#[]⟩, .slice none 0 0] 84)) = W1 := ⟨_, rfl⟩
  have hb1 : Below w.heap.size w W1 := by rw [← hW1]; exact bal (bal b0 _) _
  have k1 : Blk W1 g0 84 #[.string ⟨f.f.toArray⟩, .string ⟨f.t.toArray⟩, .slice A2 Q c2] := by rw [← hW1, ← hg0]; exact (Blk.new w _ _).alloc _
  have k2 : Blk W1 (g0 + 1) 84 #[.string ⟨#[]⟩, .string ⟨#[]⟩, .slice none 0 0] := by
    rw [← hW1, ← hg0]
    have := Blk.new (w.alloc (.cells #[.string ⟨f.f.toArray⟩, .string ⟨f.t.toArray⟩, .slice A2 Q c2] 84)) 84 #[.string ⟨#[]⟩, .string ⟨#[]⟩, .slice none 0 0]
    simpa only [World.size_alloc] using this
  have x2 : W1.cell? ⟨g0, 2, none⟩ = some (.slice A2 Q c2) := (k1.cell 2).trans rfl
  have HK := Lib.hid (And.intro hb1 (And.intro k1 (And.intro k2 (show w.heap.size = g0 from hg0))))
  clear h2 hQ hb1 k1 k2
  go_enter Tryz.func119, Tryz.ntmps119
  go_upto_region 1 with fail
  clear hW1 hg0
  go_wp2_with fail
  (refine (HI.out _ HK.out.1).mono ?_); rintro ev w4 ⟨B2, d2, rfl, ho2, hb4⟩
  have k1 := HK.out.2.1.below hb4 HK.out.2.1.lt
  have x3 : w4.cell? ⟨g0, 2, none⟩ = some (.slice A2 Q c2) := (k1.cell 2).trans rfl
  have z3 := k1.frozen 2
  have k1' : Blk (w4.setCell ⟨g0, 2, none⟩ (.slice B2 Q d2)) g0 84 #[.string ⟨f.f.toArray⟩, .string ⟨f.t.toArray⟩, .slice B2 Q d2] := k1.set_ 2 _
  have k2' := (HK.out.2.2.1.below hb4 HK.out.2.2.1.lt).far (p := ⟨g0, 2, none⟩) (show g0 + 1 ≠ g0 by omega) (.slice B2 Q d2)
  have hb4' : Below w.heap.size w (w4.setCell ⟨g0, 2, none⟩ (.slice B2 Q d2)) := below_set (bl HK.out.1 hb4) (by have := HK.out.2.2.2; omega) _
  have hbut := but_set (C := fun k => k = g0) (But.refl _ w4) (b := g0) (i := 2) rfl (.slice B2 Q d2)
  have ho2' := own_but (cf := g0) ho2 hbut HK.out.2.1.lt
  have HF4 := Lib.hid (show Blk (w4.setCell ⟨g0, 2, none⟩ (.slice B2 Q d2)) (g0 + 1) 84 #[.string ⟨#[]⟩, .string ⟨#[]⟩, .slice none 0 0] ∧ Below w.heap.size w (w4.setCell ⟨g0, 2, none⟩ (.slice B2 Q d2)) ∧ (w4.setCell ⟨g0, 2, none⟩ (.slice B2 Q d2)).ownsRow (g0 + 2) 86 7 (.slice B2 Q d2) Q (cosC f.co) from
    ⟨k2', hb4', own_base ho2' (by have := HK.out.2.2.1.lt; omega)⟩)
  clear k1 k2' hb4 hb4' hbut ho2' ho2 x2
  have HK1 := Lib.hid k1'
  clear k1'
  go_upto_region 2 with fail
  obtain ⟨W5, hW5⟩ : ∃ X, w4.setCell ⟨g0, 2, none⟩ (.slice B2 Q d2) = X := ⟨_, rfl⟩
  rw [hW5] at HF4 HK1 ⊢
  have u0 : W5.cell? ⟨g0, 0, none⟩ = some (.string ⟨f.f.toArray⟩) := (HK1.out.cell 0).trans rfl
  have u1 : W5.cell? ⟨g0, 1, none⟩ = some (.string ⟨f.t.toArray⟩) := (HK1.out.cell 1).trans rfl
  have u2 : W5.cell? ⟨g0, 2, none⟩ = some (.slice B2 Q d2) := (HK1.out.cell 2).trans rfl
  have k5 := HF4.out.1
  clear hW5 x3 z3
  go_wp2_with (refine wpList_store_row rfl 84 (.tmp 2) (.tmp 7) rfl (g0 + 1) #[.string ⟨f.f.toArray⟩, .string ⟨f.t.toArray⟩, .slice B2 Q d2] rfl rfl 84 _ k5 (by kernel_rfl) rfl (by kernel_rfl) ?_)
  (try simp only [Exit.inBlock, Exit.then])
  refine bodyPost_ret (results_cell_row rfl _ _ (g0 + 1) 84 #[.string ⟨f.f.toArray⟩, .string ⟨f.t.toArray⟩, .slice B2 Q d2] (0, 0) _ rfl (setRow_heap _ _ _ _ _ _ k5) Tryz.underlying84 rfl (by kernel_rfl)) rfl ⟨B2, d2, rfl, ?_, ?_⟩
  · exact own_base (own_but (cf := g0 + 1) HF4.out.2.2 (but_setRow (C := fun k => k = g0 + 1) (But.refl _ W5) (.inl rfl) _) (by omega)) (by have := HK.out.2.2.2; omega)
  · exact below_setRow HF4.out.2.1 (by have := HK.out.2.2.2; omega) _
set_option maxRecDepth 100000 in
set_option maxHeartbeats 1000000 in
theorem copyFns_c (l : List FuL) (N : Nat) (A : Option Addr) (c : Nat) (w : World) (hN : l.length = N) (hb : N ≤ 1073741824) (hA : Sl w w.heap.size 4 A N (l.flatMap FuL.cells)) (h1 : ∀ g ∈ l, Rs w 1 g.ev g.f.env.length (envC g.f.env)) (h2 : ∀ g ∈ l, Rs w 3 g.cv g.f.code.length (codC g.f.code)) (h3 : ∀ g ∈ l, g.f.env.length ≤ 1073741824) (h4 : ∀ g ∈ l, g.f.code.length ≤ 1073741824) :
    Calls Tryz.prog 80 #[.slice A N c] w fun e w' => ∃ (D : List FuL) (A' : Option Addr) (c' : Nat), e = .returned (.slice A' N c') ∧ D.map (·.f) = l.map (·.f) ∧ w'.ownsRow w.heap.size 90 4 (.slice A' N c') N (D.flatMap FuL.cells) ∧ (∀ g ∈ D, Rd w' 1 g.ev g.f.env.length (envC g.f.env) ∧ Rd w' 3 g.cv g.f.code.length (codC g.f.code) ∧ (∀ q, g.ev.ownBlock = some q → w.heap.size ≤ q) ∧ (∀ q, g.cv.ownBlock = some q → w.heap.size ≤ q)) ∧ Below w.heap.size w w' := by
  obtain ⟨i0, hi0, hz0, hz1, hz2⟩ := info_parts infoF
  have HA := Lib.hid (And.intro hA hN)
  have HN4 := Lib.hid (And.intro h1 (And.intro h2 (And.intro h3 h4)))
  clear h1 h2 h3 h4
  clear hA hN
  go_enter Tryz.func80, Tryz.ntmps80
  go_wp2_with fail
  go_loopg [3, 4] N (fun gg V i wr => ∃ (k : Nat) (D : List FuL), k ≤ N ∧ gg = N - k ∧ i = .int .i64 k ∧ Hid (wr.ownsRow w.heap.size 90 4 V k (D.flatMap FuL.cells) ∧ D.length = k ∧ D.map (·.f) = (l.take k).map (·.f) ∧ (∀ g ∈ D, Rd wr 1 g.ev g.f.env.length (envC g.f.env) ∧ Rd wr 3 g.cv g.f.code.length (codC g.f.code) ∧ Ap g.ev V ∧ Ap g.cv V ∧ (∀ q, g.ev.ownBlock = some q → w.heap.size ≤ q) ∧ (∀ q, g.cv.ownBlock = some q → w.heap.size ≤ q)) ∧ Below w.heap.size w wr))
  case atStart => exact ⟨0, [], by omega, rfl, rfl, Lib.hid ⟨World.ownsRow_nil _ _ _ _, rfl, rfl, (fun g hg => by cases hg), b0⟩⟩
  case round =>
    obtain ⟨k, D, hk, rfl, rfl, HR⟩ := hrel
    obtain ⟨AV, cV, rfl, hv1, hv2⟩ := own_shape HR.out.1
    by_cases hlt : k < N
    · obtain ⟨x, hx⟩ : ∃ x, l[k]? = some x := ⟨_, List.getElem?_eq_getElem (by rw [HA.out.2]; exact hlt)⟩
      obtain ⟨b, o, rfl, hb1, hc1⟩ := HA.out.1.at_ (by omega)
      have hm := List.mem_of_getElem? hx
      have kc : ∀ j v, (FuL.cells x)[j]? = some v → j < 4 → wr.cell? ⟨b, o + k * 4 + j, none⟩ = some v := fun j v hv hj => by
        rw [Nat.add_assoc]
        exact (HR.out.2.2.2.2.cell (p := ⟨b, o + (k * 4 + j), none⟩) hb1).trans (hc1 _ _ (by rw [flat_at FuL.cells 4 (fun _ => rfl) _ _ _ _ hx hj]; exact hv))
      obtain ⟨A1, c1, ev1, hc1a, hd1, s1⟩ := (HN4.out.1 x hm).sl
      obtain ⟨A2, c2, ev2, hc2a, hd2, s2⟩ := (HN4.out.2.1 x hm).sl
      obtain ⟨M, hM⟩ : ∃ M, x.f.env.length = M := ⟨_, rfl⟩
      obtain ⟨Q, hQ⟩ : ∃ Q, x.f.code.length = Q := ⟨_, rfl⟩
      have hMb : M ≤ 1073741824 := by rw [← hM]; exact HN4.out.2.2.1 x hm
      have hQb : Q ≤ 1073741824 := by rw [← hQ]; exact HN4.out.2.2.2 x hm
      rw [hM] at ev1 s1
      rw [hQ] at ev2 s2
      have HCALL := Lib.hid (fun W (h : Below w.heap.size w W) => copyFn_c x.f M Q A1 A2 c1 c2 W hM hQ hMb hQb ((s1.below h).more h.size) ((s2.below h).more h.size))
      have HMQ := Lib.hid (And.intro hM hQ)
      have t0 : wr.cell? ⟨b, o + k * 4, none⟩ = some (.slice A1 M c1) := kc 0 _ (by show some x.ev = _; rw [ev1]) (by decide)
      have t1 : wr.cell? ⟨b, o + k * 4 + 1, none⟩ = some (.string ⟨x.f.param.toArray⟩) := kc 1 _ rfl (by decide)
      have t2 : wr.cell? ⟨b, o + k * 4 + 2, none⟩ = some (.string ⟨x.f.res.toArray⟩) := kc 2 _ rfl (by decide)
      have t3 : wr.cell? ⟨b, o + k * 4 + 3, none⟩ = some (.slice A2 Q c2) := kc 3 _ (by show some x.cv = _; rw [ev2]) (by decide)
      clear ev1 ev2 s1 s2 hM hQ hc1a hd1 hc2a hd2
      have HTK := Lib.hid (show (l.take (k + 1)).map (·.f) = (l.take k).map (·.f) ++ [x.f] by rw [List.take_add_one, hx]; simp)
      clear hx hb1 hc1 kc hm
      go_wp2_with fail
      (refine (HCALL.out _ HR.out.2.2.2.2).mono ?_); rintro ev w2 ⟨B1, d1, B2, d2, rfl, hn1, hn2, hb2⟩
      have HN2 := Lib.hid (And.intro hb2 (And.intro hn1 hn2))
      clear hb2 hn1 hn2
      have HO2 := Lib.hid (own_below HR.out.1 HN2.out.1)
      go_wp2_with (at_builtin; refine wpList_append_fine _ rfl (.tmp 11) (.tmp 17) _ rfl w.heap.size 90 i0 _ 4 80 Tryz.underlying22 hi0 hz0 hz1 hz2 rfl (.slice AV k cV) k (D.flatMap FuL.cells) rfl (own_below HO2.out (bal b0 _)) (w2.heap.size + 1) (some ⟨w2.heap.size, 0, none⟩) 1 1 [.slice B1 M d1, .string ⟨x.f.param.toArray⟩, .string ⟨x.f.res.toArray⟩, .slice B2 Q d2] rfl (Sl.fresh w2 _ 4 _ rfl) (by intro u hu; simp only [List.mem_cons, List.not_mem_nil, or_false] at hu; rcases hu with rfl | rfl | rfl | rfl <;> rfl) (by decide) (by unfold maxLen; omega) (by omega) (by have := HR.out.2.2.2.2.size; have := HN2.out.1.size; simp only [World.size_alloc]; omega) ?_; intro V' w3 ho3 ht3)
      obtain ⟨AV3, cV3, rfl, _, _⟩ := own_shape ho3
      have HF := Lib.hid (show w3.ownsRow w.heap.size 90 4 (.slice AV3 (k + 1) cV3) (k + 1) ((D ++ [(⟨.slice B1 M d1, x.f, .slice B2 Q d2⟩ : FuL)]).flatMap FuL.cells) ∧ (D ++ [(⟨.slice B1 M d1, x.f, .slice B2 Q d2⟩ : FuL)]).length = k + 1 ∧ (D ++ [(⟨.slice B1 M d1, x.f, .slice B2 Q d2⟩ : FuL)]).map (·.f) = (l.take (k + 1)).map (·.f) ∧ (∀ g ∈ (D ++ [(⟨.slice B1 M d1, x.f, .slice B2 Q d2⟩ : FuL)]), Rd w3 1 g.ev g.f.env.length (envC g.f.env) ∧ Rd w3 3 g.cv g.f.code.length (codC g.f.code) ∧ Ap g.ev (.slice AV3 (k + 1) cV3) ∧ Ap g.cv (.slice AV3 (k + 1) cV3) ∧ (∀ q, g.ev.ownBlock = some q → w.heap.size ≤ q) ∧ (∀ q, g.cv.ownBlock = some q → w.heap.size ≤ q)) ∧ Below w.heap.size w w3 from by
        have hbA : Below wr.heap.size wr (w2.alloc (.cells #[.slice B1 M d1, .string ⟨x.f.param.toArray⟩, .string ⟨x.f.res.toArray⟩, .slice B2 Q d2] 90)) := bal HN2.out.1 _
        have hst : ∀ u : Value, (∀ q, u.ownBlock = some q → q < wr.heap.size) → Ap u (.slice AV k cV) → Ap u (.slice AV3 (k + 1) cV3) := fun u hu ha => ha.touch (fun q hq => Nat.lt_of_lt_of_le (hu q hq) hbA.size) ht3
        refine ⟨by rw [List.flatMap_append]; exact ho3, by rw [List.length_append, HR.out.2.1]; rfl, by rw [HTK.out, List.map_append, HR.out.2.2.1]; rfl, fun g hg => ?_, ((HR.out.2.2.2.2.trans (hbA.mono HR.out.2.2.2.2.size))).trans ((ht3.but (C := fun q => (Value.slice AV k cV).ownBlock = some q) (But.refl _ _) fun q hq _ => hq).below (by have := HR.out.2.2.2.2.size; have := hbA.size; omega) fun q hq => (HR.out.1.lt q hq).1)⟩
        rcases List.mem_append.1 hg with hg | hg
        · have h := HR.out.2.2.2.1 g hg
          exact ⟨ht3.rd ((h.1.grow HN2.out.1).grow (bal b0 _)) (fun q hq e => h.2.2.1 q hq e), ht3.rd ((h.2.1.grow HN2.out.1).grow (bal b0 _)) (fun q hq e => h.2.2.2.1 q hq e), hst _ (fun q hq => h.1.lt q hq) h.2.2.1, hst _ (fun q hq => h.2.1.lt q hq) h.2.2.2.1, h.2.2.2.2⟩
        · rw [List.mem_singleton.1 hg]
          have a1 : Ap (.slice B1 M d1) (.slice AV k cV) := (Ap.fresh (N := wr.heap.size) (fun q hq => (HR.out.1.lt q hq).2) (fun q hq => (HN2.out.2.1.lt q hq).1)).symm
          have a2 : Ap (.slice B2 Q d2) (.slice AV k cV) := (Ap.fresh (N := wr.heap.size) (fun q hq => (HR.out.1.lt q hq).2) (fun q hq => (HN2.out.2.2.lt q hq).1)).symm
          have r1 := Rd.of_own (own_below HN2.out.2.1 (bal (a := w2) b0 (.cells #[.slice B1 M d1, .string ⟨x.f.param.toArray⟩, .string ⟨x.f.res.toArray⟩, .slice B2 Q d2] 90)))
          have r2 := Rd.of_own (own_below HN2.out.2.2 (bal (a := w2) b0 (.cells #[.slice B1 M d1, .string ⟨x.f.param.toArray⟩, .string ⟨x.f.res.toArray⟩, .slice B2 Q d2] 90)))
          refine ⟨?_, ?_, a1.touch (fun q hq => r1.lt q hq) ht3, a2.touch (fun q hq => r2.lt q hq) ht3, fun q hq => Nat.le_trans HR.out.2.2.2.2.size (HN2.out.2.1.lt q hq).1, fun q hq => Nat.le_trans HR.out.2.2.2.2.size (HN2.out.2.2.lt q hq).1⟩
          · show Rd w3 1 (.slice B1 M d1) x.f.env.length (envC x.f.env)
            rw [HMQ.out.1]; exact ht3.rd r1 (fun q hq e => a1 q hq e)
          · show Rd w3 3 (.slice B2 Q d2) x.f.code.length (codC x.f.code)
            rw [HMQ.out.2]; exact ht3.rd r2 (fun q hq e => a2 q hq e))
      clear ho3 ht3
      go_wp2_with fail
      go_roundg (N - (k + 1))
      case measure => omega
      case rel => exact ⟨k + 1, _, by omega, rfl, by go_num, HF⟩
    · obtain rfl : k = N := by omega
      go_wp2_with fail
      go_ret
      exact ⟨D, AV, cV, rfl, by rw [HR.out.2.2.1, ← HA.out.2, List.take_length], HR.out.1, fun g hg => ⟨(HR.out.2.2.2.1 g hg).1, (HR.out.2.2.2.1 g hg).2.1, (HR.out.2.2.2.1 g hg).2.2.2.2⟩, HR.out.2.2.2.2⟩

set_option maxRecDepth 100000 in
set_option maxHeartbeats 1000000 in
theorem copyWaits_c (l : List WtL) (N : Nat) (A : Option Addr) (c : Nat) (w : World) (hN : l.length = N) (hb : N ≤ 1073741824) (hA : Sl w w.heap.size 3 A N (l.flatMap WtL.cells)) (h2 : ∀ g ∈ l, Rs w 7 g.cv g.w.co.length (cosC g.w.co)) (h4 : ∀ g ∈ l, g.w.co.length ≤ 1073741824) :
    Calls Tryz.prog 81 #[.slice A N c] w fun e w' => ∃ (D : List WtL) (A' : Option Addr) (c' : Nat), e = .returned (.slice A' N c') ∧ D.map (·.w) = l.map (·.w) ∧ w'.ownsRow w.heap.size 84 3 (.slice A' N c') N (D.flatMap WtL.cells) ∧ (∀ g ∈ D, Rd w' 7 g.cv g.w.co.length (cosC g.w.co) ∧ (∀ q, g.cv.ownBlock = some q → w.heap.size ≤ q)) ∧ Below w.heap.size w w' := by
  obtain ⟨i0, hi0, hz0, hz1, hz2⟩ := info_parts infoW
  have HA := Lib.hid (And.intro hA hN)
  have HN4 := Lib.hid (And.intro h2 h4)
  clear h2 h4
  clear hA hN
  go_enter Tryz.func81, Tryz.ntmps81
  go_wp2_with fail
  go_loopg [3, 4] N (fun gg V i wr => ∃ (k : Nat) (D : List WtL), k ≤ N ∧ gg = N - k ∧ i = .int .i64 k ∧ Hid (wr.ownsRow w.heap.size 84 3 V k (D.flatMap WtL.cells) ∧ D.length = k ∧ D.map (·.w) = (l.take k).map (·.w) ∧ (∀ g ∈ D, Rd wr 7 g.cv g.w.co.length (cosC g.w.co) ∧ Ap g.cv V ∧ (∀ q, g.cv.ownBlock = some q → w.heap.size ≤ q)) ∧ Below w.heap.size w wr))
  case atStart => exact ⟨0, [], by omega, rfl, rfl, Lib.hid ⟨World.ownsRow_nil _ _ _ _, rfl, rfl, (fun g hg => by cases hg), b0⟩⟩
  case round =>
    obtain ⟨k, D, hk, rfl, rfl, HR⟩ := hrel
    obtain ⟨AV, cV, rfl, hv1, hv2⟩ := own_shape HR.out.1
    by_cases hlt : k < N
    · obtain ⟨x, hx⟩ : ∃ x, l[k]? = some x := ⟨_, List.getElem?_eq_getElem (by rw [HA.out.2]; exact hlt)⟩
      obtain ⟨b, o, rfl, hb1, hc1⟩ := HA.out.1.at_ (by omega)
      have hm := List.mem_of_getElem? hx
      have kc : ∀ j v, (WtL.cells x)[j]? = some v → j < 3 → wr.cell? ⟨b, o + k * 3 + j, none⟩ = some v := fun j v hv hj => by
        rw [Nat.add_assoc]
        exact (HR.out.2.2.2.2.cell (p := ⟨b, o + (k * 3 + j), none⟩) hb1).trans (hc1 _ _ (by rw [flat_at WtL.cells 3 (fun _ => rfl) _ _ _ _ hx hj]; exact hv))
      obtain ⟨A2, c2, ev2, hc2a, hd2, s2⟩ := (HN4.out.1 x hm).sl
      obtain ⟨Q, hQ⟩ : ∃ Q, x.w.co.length = Q := ⟨_, rfl⟩
      have hQb : Q ≤ 1073741824 := by rw [← hQ]; exact HN4.out.2 x hm
      rw [hQ] at ev2 s2
      have HCALL := Lib.hid (fun W (h : Below w.heap.size w W) => copyWait_c x.w Q A2 c2 W hQ hQb ((s2.below h).more h.size))
      have HMQ := Lib.hid hQ
      have t0 : wr.cell? ⟨b, o + k * 3, none⟩ = some (.string ⟨x.w.f.toArray⟩) := kc 0 _ rfl (by decide)
      have t1 : wr.cell? ⟨b, o + k * 3 + 1, none⟩ = some (.string ⟨x.w.t.toArray⟩) := kc 1 _ rfl (by decide)
      have t2 : wr.cell? ⟨b, o + k * 3 + 2, none⟩ = some (.slice A2 Q c2) := kc 2 _ (by show some x.cv = _; rw [ev2]) (by decide)
      clear ev2 s2 hQ hc2a hd2
      have HTK := Lib.hid (show (l.take (k + 1)).map (·.w) = (l.take k).map (·.w) ++ [x.w] by rw [List.take_add_one, hx]; simp)
      clear hx hb1 hc1 kc hm
      go_wp2_with fail
      (refine (HCALL.out _ HR.out.2.2.2.2).mono ?_); rintro ev w2 ⟨B2, d2, rfl, hn2, hb2⟩
      have HN2 := Lib.hid (And.intro hb2 hn2)
      clear hb2 hn2
      have HO2 := Lib.hid (own_below HR.out.1 HN2.out.1)
      go_wp2_with (at_builtin; refine wpList_append_fine _ rfl (.tmp 11) (.tmp 17) _ rfl w.heap.size 84 i0 _ 3 56 Tryz.underlying23 hi0 hz0 hz1 hz2 rfl (.slice AV k cV) k (D.flatMap WtL.cells) rfl (own_below HO2.out (bal b0 _)) (w2.heap.size + 1) (some ⟨w2.heap.size, 0, none⟩) 1 1 [.string ⟨x.w.f.toArray⟩, .string ⟨x.w.t.toArray⟩, .slice B2 Q d2] rfl (Sl.fresh w2 _ 3 _ rfl) (by intro u hu; simp only [List.mem_cons, List.not_mem_nil, or_false] at hu; rcases hu with rfl | rfl | rfl <;> rfl) (by decide) (by unfold maxLen; omega) (by omega) (by have := HR.out.2.2.2.2.size; have := HN2.out.1.size; simp only [World.size_alloc]; omega) ?_; intro V' w3 ho3 ht3)
      obtain ⟨AV3, cV3, rfl, _, _⟩ := own_shape ho3
      have HF := Lib.hid (show w3.ownsRow w.heap.size 84 3 (.slice AV3 (k + 1) cV3) (k + 1) ((D ++ [(⟨x.w, .slice B2 Q d2⟩ : WtL)]).flatMap WtL.cells) ∧ (D ++ [(⟨x.w, .slice B2 Q d2⟩ : WtL)]).length = k + 1 ∧ (D ++ [(⟨x.w, .slice B2 Q d2⟩ : WtL)]).map (·.w) = (l.take (k + 1)).map (·.w) ∧ (∀ g ∈ (D ++ [(⟨x.w, .slice B2 Q d2⟩ : WtL)]), Rd w3 7 g.cv g.w.co.length (cosC g.w.co) ∧ Ap g.cv (.slice AV3 (k + 1) cV3) ∧ (∀ q, g.cv.ownBlock = some q → w.heap.size ≤ q)) ∧ Below w.heap.size w w3 from by
        have hbA : Below wr.heap.size wr (w2.alloc (.cells #[.string ⟨x.w.f.toArray⟩, .string ⟨x.w.t.toArray⟩, .slice B2 Q d2] 84)) := bal HN2.out.1 _
        have hst : ∀ u : Value, (∀ q, u.ownBlock = some q → q < wr.heap.size) → Ap u (.slice AV k cV) → Ap u (.slice AV3 (k + 1) cV3) := fun u hu ha => ha.touch (fun q hq => Nat.lt_of_lt_of_le (hu q hq) hbA.size) ht3
        refine ⟨by rw [List.flatMap_append]; exact ho3, by rw [List.length_append, HR.out.2.1]; rfl, by rw [HTK.out, List.map_append, HR.out.2.2.1]; rfl, fun g hg => ?_, ((HR.out.2.2.2.2.trans (hbA.mono HR.out.2.2.2.2.size))).trans ((ht3.but (C := fun q => (Value.slice AV k cV).ownBlock = some q) (But.refl _ _) fun q hq _ => hq).below (by have := HR.out.2.2.2.2.size; have := hbA.size; omega) fun q hq => (HR.out.1.lt q hq).1)⟩
        rcases List.mem_append.1 hg with hg | hg
        · have h := HR.out.2.2.2.1 g hg
          exact ⟨ht3.rd ((h.1.grow HN2.out.1).grow (bal b0 _)) (fun q hq e => h.2.1 q hq e), hst _ (fun q hq => h.1.lt q hq) h.2.1, h.2.2⟩
        · rw [List.mem_singleton.1 hg]
          have a2 : Ap (.slice B2 Q d2) (.slice AV k cV) := (Ap.fresh (N := wr.heap.size) (fun q hq => (HR.out.1.lt q hq).2) (fun q hq => (HN2.out.2.lt q hq).1)).symm
          have r2 := Rd.of_own (own_below HN2.out.2 (bal (a := w2) b0 (.cells #[.string ⟨x.w.f.toArray⟩, .string ⟨x.w.t.toArray⟩, .slice B2 Q d2] 84)))
          refine ⟨?_, a2.touch (fun q hq => r2.lt q hq) ht3, fun q hq => Nat.le_trans HR.out.2.2.2.2.size (HN2.out.2.lt q hq).1⟩
          show Rd w3 7 (.slice B2 Q d2) x.w.co.length (cosC x.w.co)
          rw [HMQ.out]; exact ht3.rd r2 (fun q hq e => a2 q hq e))
      clear ho3 ht3
      go_wp2_with fail
      go_roundg (N - (k + 1))
      case measure => omega
      case rel => exact ⟨k + 1, _, by omega, rfl, by go_num, HF⟩
    · obtain rfl : k = N := by omega
      go_wp2_with fail
      go_ret
      exact ⟨D, AV, cV, rfl, by rw [HR.out.2.2.1, ← HA.out.2, List.take_length], HR.out.1, fun g hg => ⟨(HR.out.2.2.2.1 g hg).1, (HR.out.2.2.2.1 g hg).2.2⟩, HR.out.2.2.2.2⟩

end Go.Proofs.YtobplngonkdbpaaGreatDoor.D
