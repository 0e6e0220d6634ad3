/- CoerceMays, walked. Printed by gen_cpe.py. -/
import Derived.Test.YtkebplifkkhhlaaDoorCpD
import Derived.Test.YtkebplifkkhhlaaDoorCoL
namespace Go.Proofs.YtkebplifkkhhlaaDoor.C
open Go.RowKit Go.Proofs.YtkebplifkkhhlaaDoor.B
open Go.Proofs.YtkebplifkkhhlaaDoor.T (Ty str isB good04_any)
set_option linter.unusedVariables false
set_option linter.unusedSimpArgs false

set_option maxRecDepth 100000 in
set_option maxHeartbeats 4000000 in
theorem coerceMays_walk (l : List Nd) (A : Option Addr) (c : Nat) (x y : ByteArray) (w : World) (hl : l.length ≤ c) (hc : c ≤ maxLen) (hA : LN w A l) (hx : x.size ≤ 4611686018427387904) (hy : y.size ≤ 4611686018427387904) :
    Calls Tryd.prog 7 #[.slice A l.length c, .string x, .string y] w fun e w' => e = .returned (.bool true) ∧ Below w.heap.size w w' := by
  have hwk := fun W => works_any W
  have hlg := fun W => long_any l A c W
  have HWK := Lib.hid hwk
  by_cases hz : l.length ≤ 16384
  · have e1 : decide (16384 < (l.length : Int)) = false := by simp; omega
    rw [e1] at hlg
    have HLG := Lib.hid hlg
    have hwi := wideCos_any l A c w hz hA
    have HA := Lib.hid (show ∀ W, Below w.heap.size w W → LN W A l from fun W hb => hA.below hb)
    obtain ⟨G, hG⟩ := GX.is l x y
    have hgx := fun W => good04_any x W hx
    have hgy := fun W => good04_any y W hy
    have hrd := fun W hb => ReadR_top l A c W (by omega) (HA.out W hb)
    have HRD := Lib.hid hrd
    have HZ := Lib.hid (And.intro hz (And.intro hl hc))
    have HXY := Lib.hid (And.intro hx hy)
    have HGG := Lib.hid hG
    have HGX := Lib.hid hgx
    have HGY := Lib.hid hgy
    have h4 : (G != G) = false := by simp
    clear hwk hlg e1 hA hgx hgy hrd hz hl hc hx hy hG
    go_enter Tryd.func7, Tryd.ntmps7
    go_wp2_with fail
    (refine (HLG.out _).mono ?_); rintro ev w0 ⟨rfl, rfl⟩
    go_wp2_with fail
    (refine hwi.mono ?_); rintro ev w1 ⟨rfl, hrow, hb1⟩
    clear hwi
    have HLW := Lib.hid (show ∀ W, Below w1.heap.size w1 W → LN W (some ⟨w.heap.size, 0, none⟩) l ∧ LN W (some ⟨w.heap.size, 0, none⟩) (wholeN l) from fun W hb => ⟨(wideN_sl hrow).below hb, (wholeN_sl hrow).below hb⟩)
    have HB1 := Lib.hid hb1
    clear hrow
    go_wp2_with fail
    (refine (HRD.out _ hb1).mono ?_); rintro ev w2 ⟨hb2, hq⟩
    have HB2 := Lib.hid hb2
    clear HRD hb1 hb2
    have hma := fun W hb => may_any l (some ⟨w.heap.size, 0, none⟩) (l.length + 64) W (by omega) (by have := HZ.out.1; simp only [maxLen]; omega) (HLW.out W hb).1
    have hhe := fun W hb => Height_c l (some ⟨w.heap.size, 0, none⟩) (l.length + 64) W (by omega) (by have := HZ.out.1; simp only [maxLen]; omega) (HLW.out W hb).1
    have hid := fun W hb => IsId_any l (some ⟨w.heap.size, 0, none⟩) (l.length + 64) W (by omega) (by have := HZ.out.1; simp only [maxLen]; omega) (HLW.out W hb).1
    have hfi := fun W hb => Fits_any l (some ⟨w.heap.size, 0, none⟩) (l.length + 64) x y G W (by omega) (by have := HZ.out.1; simp only [maxLen]; omega) (HLW.out W hb).1 HXY.out.1 HXY.out.2 HGG.out
    have heq := fun W hb => eqCos_any l (some ⟨w.heap.size, 0, none⟩) A (l.length + 64) c W (by have := HZ.out.1; omega) (HLW.out W hb).1 (HA.out W (bl HB1.out hb))
    have hsp := fun W hb => spareCos_any l w.heap.size W HZ.out.1 (HLW.out W hb).2
    unfold highC at hhe
    unfold idL at hid
    have hGG := HGG.out
    unfold GX at hGG
    obtain ⟨R, hR⟩ : ∃ R, treeC l = R := ⟨_, rfl⟩
    have HTR := Lib.hid hR
    rw [hR] at hma hhe hid hGG hq
    clear hR
    rcases R with _ | t
    · have hG0 : G = false := by
        rcases hGG with ⟨_, h⟩ | ⟨t, h, _⟩
        · exact h
        · cases h
      subst hG0
      obtain ⟨⟨v0, v1, v2, v3, v4, v5, v6⟩, A2, nk, c2, rfl⟩ := hq
      unfold NV
      simp only at hhe hid hma ⊢
      have HMA := Lib.hid hma
      have HHE := Lib.hid hhe
      have HID := Lib.hid hid
      have HFI := Lib.hid hfi
      have HEQ := Lib.hid heq
      have HSP := Lib.hid hsp
      clear hma hhe hid hfi heq hsp hGG
      go_wp2_with fail
      (refine (HMA.out _ (bal HB2.out _)).mono ?_); rintro ev z0 ⟨rfl, hz0⟩
      have HZ0 := Lib.hid (bl (bal HB2.out _) hz0)
      clear hz0
      go_wp2_with fail
      (refine (HHE.out _ HZ0.out).mono ?_); rintro ev z1 ⟨rfl, hz1⟩
      have HZ1 := Lib.hid (bl HZ0.out hz1)
      clear hz1
      go_wp2_with fail
      (refine (HID.out _ HZ1.out).mono ?_); rintro ev z2 ⟨rfl, hz2⟩
      have HZ2 := Lib.hid (bl HZ1.out hz2)
      clear hz2
      go_wp2_with fail
      (refine (HFI.out _ HZ2.out).mono ?_); rintro ev z3 ⟨rfl, hz3⟩
      have HZ3 := Lib.hid (bl HZ2.out hz3)
      clear hz3
      go_wp2_with fail
      (refine (HEQ.out _ HZ3.out).mono ?_); rintro ev z4 ⟨rfl, hz4⟩
      have HZ4 := Lib.hid (bl HZ3.out hz4)
      clear hz4
      go_wp2_with fail
      (refine (HSP.out _ HZ4.out).mono ?_); rintro ev z5 ⟨rfl, hz5⟩
      have HZ5 := Lib.hid (bl HZ4.out hz5)
      clear hz5
      go_wp2_with fail
      (refine (HWK.out _).mono ?_); rintro ev z7 ⟨rfl, hz7⟩
      go_wp2_with fail
      go_ret
      exact ⟨rfl, bl HB1.out (bl HZ5.out hz7)⟩
    · have hok := (treeC_some HTR.out).2.1
      have hhi := (treeC_some HTR.out).2.2
      obtain ⟨A2, c2, rfl, hs⟩ := hq
      have hs' := fun W hb => hs.below (w' := W) hb
      have hhr := fun W hb => highR_any (t.sz + 1) t A2 c2 _ W (by omega) (hs' W hb) (by omega)
      have hir := fun W hb => idR_any (t.sz + 1) t A2 c2 _ W (by omega) (hs' W hb)
      have hgr := fun S T W hS hT hS64 hT64 hb => goesR_any t A2 c2 _ S T W hok (hs' W hb) hS hT hS64 hT64
      unfold NV at hhr hir hgr ⊢
      simp only at hhe hid hma ⊢
      obtain ⟨H, hH⟩ : ∃ H, t.high = H := ⟨_, rfl⟩
      obtain ⟨I, hI⟩ : ∃ I, idC t = I := ⟨_, rfl⟩
      rw [hH] at hhr hhe
      rw [hI] at hir hid
      generalize t.nk = nk at *
      obtain ⟨nd, hnd⟩ : ∃ x, t.nd = x := ⟨_, rfl⟩
      rw [hnd] at hhr hir hgr ⊢
      obtain ⟨v0, v1, v2, v3, v4, v5, v6⟩ := nd
      simp only at hhr hir hgr ⊢
      have h2 : ((H : Int) != (H : Int)) = false := by simp
      have h3 : (I != I) = false := by simp
      have HMA := Lib.hid hma
      have HHE := Lib.hid hhe
      have HID := Lib.hid hid
      have HFI := Lib.hid hfi
      have HEQ := Lib.hid heq
      have HSP := Lib.hid hsp
      have HHR := Lib.hid hhr
      have HIR := Lib.hid hir
      have HGR := Lib.hid hgr
      clear hma hhe hid hfi heq hsp hhr hir hgr hs hs' hok hhi hH hI hnd
      go_wp2_with fail
      (refine (HHR.out _ (bal (Below.refl _ _) _)).mono ?_); rintro ev y1 ⟨rfl, hy1⟩
      have HY1 := Lib.hid (bl (bal (Below.refl _ _) _) hy1)
      have HK := Lib.hid (fun W (hb : Below y1.heap.size y1 W) => (Blk.new w2 105 #[.int .i8 v0, .int .i64 v1, .bool v2, .int .u8 v3, .int .i64 v4, .int .u8 v5, .int .u8 v6, .slice A2 nk c2]).below (bl hy1 hb) (by simp only [World.size_alloc]; omega))
      have hs1 : w2.heap.size < y1.heap.size := by have := hy1.size; simp only [World.size_alloc] at this; omega
      clear hy1
      have hbk := HK.out y1 (Below.refl _ _)
      have d0 := (hbk.cell 0).trans rfl
      have d1 := (hbk.cell 1).trans rfl
      have d2 := (hbk.cell 2).trans rfl
      have d3 := (hbk.cell 3).trans rfl
      have d4 := (hbk.cell 4).trans rfl
      have d5 := (hbk.cell 5).trans rfl
      have d6 := (hbk.cell 6).trans rfl
      have d7 := (hbk.cell 7).trans rfl
      clear hbk
      go_wp2_with fail
      (refine (HIR.out _ HY1.out).mono ?_); rintro ev y2 ⟨rfl, hy2⟩
      have HY2 := Lib.hid (bl HY1.out hy2)
      have hbk := HK.out y2 hy2
      clear d0 d1 d2 d3 d4 d5 d6 d7
      have d0 := (hbk.cell 0).trans rfl
      have d1 := (hbk.cell 1).trans rfl
      have d2 := (hbk.cell 2).trans rfl
      have d3 := (hbk.cell 3).trans rfl
      have d4 := (hbk.cell 4).trans rfl
      have d5 := (hbk.cell 5).trans rfl
      have d6 := (hbk.cell 6).trans rfl
      have d7 := (hbk.cell 7).trans rfl
      clear hbk hy2
      go_wp2_with fail
      have HB9 := Lib.hid (bl HB2.out HY2.out)
      (refine (HGX.out _).mono ?_); rintro ev y3 ⟨rfl, rfl⟩
      have HG3 := Lib.hid hGG
      clear hGG
      rcases HG3.out with ⟨h, _⟩ | ⟨t', ht, hg⟩
      · cases h
      injection ht with ht
      subst ht
      rcases hg with ⟨h1, rfl⟩ | ⟨h1, h2', rfl⟩ | ⟨h1, h2', S, T, rfl, rfl, hS, hT, hS64, hT64, rfl⟩
      · rw [h1]
        clear h1
        go_wp2_with fail
        (refine (HMA.out _ HB9.out).mono ?_); rintro ev z0 ⟨rfl, hz0⟩
        have HZ0 := Lib.hid (bl HB9.out hz0)
        clear hz0
        go_wp2_with fail
        (refine (HHE.out _ HZ0.out).mono ?_); rintro ev z1 ⟨rfl, hz1⟩
        have HZ1 := Lib.hid (bl HZ0.out hz1)
        clear hz1
        go_wp2_with fail
        (refine (HID.out _ HZ1.out).mono ?_); rintro ev z2 ⟨rfl, hz2⟩
        have HZ2 := Lib.hid (bl HZ1.out hz2)
        clear hz2
        go_wp2_with fail
        (refine (HFI.out _ HZ2.out).mono ?_); rintro ev z3 ⟨rfl, hz3⟩
        have HZ3 := Lib.hid (bl HZ2.out hz3)
        clear hz3
        go_wp2_with fail
        (refine (HEQ.out _ HZ3.out).mono ?_); rintro ev z4 ⟨rfl, hz4⟩
        have HZ4 := Lib.hid (bl HZ3.out hz4)
        clear hz4
        go_wp2_with fail
        (refine (HSP.out _ HZ4.out).mono ?_); rintro ev z5 ⟨rfl, hz5⟩
        have HZ5 := Lib.hid (bl HZ4.out hz5)
        clear hz5
        go_wp2_with fail
        (refine (HWK.out _).mono ?_); rintro ev z7 ⟨rfl, hz7⟩
        go_wp2_with fail
        go_ret
        exact ⟨rfl, bl HB1.out (bl HZ5.out hz7)⟩
      · rw [h1]
        clear h1
        go_wp2_with fail
        (refine (HGY.out _).mono ?_); rintro ev y4 ⟨rfl, rfl⟩
        rw [h2']
        clear h2'
        go_wp2_with fail
        (refine (HMA.out _ HB9.out).mono ?_); rintro ev z0 ⟨rfl, hz0⟩
        have HZ0 := Lib.hid (bl HB9.out hz0)
        clear hz0
        go_wp2_with fail
        (refine (HHE.out _ HZ0.out).mono ?_); rintro ev z1 ⟨rfl, hz1⟩
        have HZ1 := Lib.hid (bl HZ0.out hz1)
        clear hz1
        go_wp2_with fail
        (refine (HID.out _ HZ1.out).mono ?_); rintro ev z2 ⟨rfl, hz2⟩
        have HZ2 := Lib.hid (bl HZ1.out hz2)
        clear hz2
        go_wp2_with fail
        (refine (HFI.out _ HZ2.out).mono ?_); rintro ev z3 ⟨rfl, hz3⟩
        have HZ3 := Lib.hid (bl HZ2.out hz3)
        clear hz3
        go_wp2_with fail
        (refine (HEQ.out _ HZ3.out).mono ?_); rintro ev z4 ⟨rfl, hz4⟩
        have HZ4 := Lib.hid (bl HZ3.out hz4)
        clear hz4
        go_wp2_with fail
        (refine (HSP.out _ HZ4.out).mono ?_); rintro ev z5 ⟨rfl, hz5⟩
        have HZ5 := Lib.hid (bl HZ4.out hz5)
        clear hz5
        go_wp2_with fail
        (refine (HWK.out _).mono ?_); rintro ev z7 ⟨rfl, hz7⟩
        go_wp2_with fail
        go_ret
        exact ⟨rfl, bl HB1.out (bl HZ5.out hz7)⟩
      · rw [h1]
        clear h1
        go_wp2_with fail
        (refine (HGY.out _).mono ?_); rintro ev y4 ⟨rfl, rfl⟩
        rw [h2']
        clear h2'
        go_wp2_with fail
        (refine (HGR.out S T _ hS hT hS64 hT64 HY2.out).mono ?_); rintro ev y5 ⟨rfl, hy5⟩
        have HB8 := Lib.hid (bl HB9.out hy5)
        clear hy5
        go_wp2_with fail
        (refine (HMA.out _ HB8.out).mono ?_); rintro ev z0 ⟨rfl, hz0⟩
        have HZ0 := Lib.hid (bl HB8.out hz0)
        clear hz0
        go_wp2_with fail
        (refine (HHE.out _ HZ0.out).mono ?_); rintro ev z1 ⟨rfl, hz1⟩
        have HZ1 := Lib.hid (bl HZ0.out hz1)
        clear hz1
        go_wp2_with fail
        (refine (HID.out _ HZ1.out).mono ?_); rintro ev z2 ⟨rfl, hz2⟩
        have HZ2 := Lib.hid (bl HZ1.out hz2)
        clear hz2
        go_wp2_with fail
        (refine (HFI.out _ HZ2.out).mono ?_); rintro ev z3 ⟨rfl, hz3⟩
        have HZ3 := Lib.hid (bl HZ2.out hz3)
        clear hz3
        go_wp2_with fail
        (refine (HEQ.out _ HZ3.out).mono ?_); rintro ev z4 ⟨rfl, hz4⟩
        have HZ4 := Lib.hid (bl HZ3.out hz4)
        clear hz4
        go_wp2_with fail
        (refine (HSP.out _ HZ4.out).mono ?_); rintro ev z5 ⟨rfl, hz5⟩
        have HZ5 := Lib.hid (bl HZ4.out hz5)
        clear hz5
        go_wp2_with fail
        (refine (HWK.out _).mono ?_); rintro ev z7 ⟨rfl, hz7⟩
        go_wp2_with fail
        go_ret
        exact ⟨rfl, bl HB1.out (bl HZ5.out hz7)⟩
  · have e1 : decide (16384 < (l.length : Int)) = true := by simp; omega
    rw [e1] at hlg
    have HLG := Lib.hid hlg
    clear e1 hwk hlg hA hl hc hx hy hz
    go_enter Tryd.func7, Tryd.ntmps7
    go_wp2_with fail
    (refine (HLG.out _).mono ?_); rintro ev w1 ⟨rfl, rfl⟩
    go_wp2_with fail
    (refine (HWK.out _).mono ?_); rintro ev w2 ⟨rfl, hb2⟩
    go_wp2_with fail
    go_ret
    exact ⟨rfl, hb2⟩
end Go.Proofs.YtkebplifkkhhlaaDoor.C
