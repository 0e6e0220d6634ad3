/- CoerceThens, walked. -/
import Derived.Test.YtjklecncdinabaaGreatDoorCqD
import Derived.Test.YtjklecncdinabaaGreatDoorBagUC
import Derived.Test.YtjklecncdinabaaGreatDoorBagV
namespace Go.Proofs.YtjklecncdinabaaGreatDoor.C
open Go.RowKit Go.Proofs.YtjklecncdinabaaGreatDoor.B
set_option linter.unusedVariables false
set_option linter.unusedSimpArgs false

theorem then_len2 (l l2 : List Nd) : (thenL l l2).1.length ≤ l.length + l2.length := by
  unfold thenL
  split
  · rename_i a b h1 h2
    split
    · rename_i hm
      have h3 := then_len _ a b (Nat.le_refl _) hm
      rw [(treeC_some h1).1, (treeC_some h2).1]
      exact h3
    · simp
  · simp

/-- Read, one form for both answers. -/
def ReadUQ (R : Option Co) (B : Nat) (w : World) (e : Ending) (w' : World) : Prop := Below w.heap.size w w' ∧ ∃ n A k c, e = .returned (.tuple #[NV n A k c, .bool R.isSome]) ∧ ∀ t, R = some t → n = t.nd ∧ k = t.nk ∧ TrS w' (B ≤ ·) t (.slice A k c)
theorem ReadU_any (l : List Nd) (A : Option Addr) (c B : Nat) (w : World) (hl : l.length ≤ 1000000000000) (hA : LN w A l) (hB : B ≤ w.heap.size) :
    Calls Tryz.prog 7 #[.slice A l.length c] w fun e w' => ReadUQ (treeC l) B w e w' :=
  (ReadR_top l A c w hl hA).mono fun e w' ⟨h1, h2⟩ => by
    refine ⟨h1, ?_⟩
    rcases hR : treeC l with _ | t
    · rw [hR] at h2
      obtain ⟨n, A, k, c, h2⟩ := h2
      exact ⟨n, A, k, c, h2, fun t ht => by cases ht⟩
    · rw [hR] at h2
      obtain ⟨A, c, h2, h3⟩ := h2
      exact ⟨t.nd, A, t.nk, c, h2, fun t' ht => by injection ht with ht; subst ht; exact ⟨rfl, rfl, h3.mono fun b hb => Nat.le_trans hB hb⟩⟩

set_option maxRecDepth 100000 in
set_option maxHeartbeats 8000000 in
theorem coerceThens_walk (l l2 : List Nd) (A A2 : Option Addr) (c c2 : Nat) (w : World) (hl : l.length ≤ c) (hc : c ≤ maxLen) (hA : LN w A l) (hl2 : l2.length ≤ c2) (hc2 : c2 ≤ maxLen) (hA2 : LN w A2 l2) :
    Calls Tryz.prog 3 #[.slice A l.length c, .slice A2 l2.length c2] w fun e w' => e = .returned (.bool true) ∧ Below w.heap.size w w' := by
  have hwk := fun W => works_any W
  have hlg := fun W => long_any l A c W
  have hlg2 := fun W => long_any l2 A2 c2 W
  have HWK := Lib.hid hwk
  by_cases hz : l.length ≤ 16384
  · have e1 : decide (16384 < (l.length : Int)) = false := by simp; omega
    rw [e1] at hlg
    have HLG := Lib.hid hlg
    by_cases hy : l2.length ≤ 16384
    · have e2 : decide (16384 < (l2.length : Int)) = false := by simp; omega
      rw [e2] at hlg2
      have HLG2 := Lib.hid hlg2
      have hwi := wideCos_any l A c w hz hA
      have hwi2 := fun W (hb : Below w.heap.size w W) => wideCos_any l2 A2 c2 W hy (hA2.below hb)
      have HWI2 := Lib.hid hwi2
      have HA := Lib.hid (show ∀ W, Below w.heap.size w W → LN W A l ∧ LN W A2 l2 from fun W hb => ⟨hA.below hb, hA2.below hb⟩)
      have HZ := Lib.hid (And.intro hz hy)
      obtain ⟨M, hM⟩ : ∃ M, meetL l l2 = M := ⟨_, rfl⟩
      have HM := Lib.hid hM
      obtain ⟨T, hT⟩ : ∃ T, thenL l l2 = T := ⟨_, rfl⟩
      have hTl := then_len2 l l2
      rw [hT] at hTl
      have HT := Lib.hid (And.intro hT hTl)
      obtain ⟨TL, TE⟩ := T
      have hMM : (M != M) = false := by simp
      have hTT : (TE != TE) = false := by simp
      clear hwk hlg hlg2 e1 e2 hA hA2 hz hy hwi2 hl hc hl2 hc2 hM hT hTl
      go_enter Tryz.func3, Tryz.ntmps3
      go_wp2_with fail
      (refine (HLG.out _).mono ?_); rintro ev w0 ⟨rfl, rfl⟩
      go_wp2_with fail
      (refine (HLG2.out _).mono ?_); rintro ev w0 ⟨rfl, rfl⟩
      go_wp2_with fail
      (refine hwi.mono ?_); rintro ev w1 ⟨rfl, hrow, hb1⟩
      clear hwi
      have HW1 := Lib.hid (And.intro hrow hb1)
      clear hrow hb1
      go_wp2_with fail
      (refine (HWI2.out _ HW1.out.2).mono ?_); rintro ev w2 ⟨rfl, hrow2, hb2⟩
      have hrow1 := HW1.out.1.of_block (hb2.block _ HW1.out.1.lt)
      have HLW := Lib.hid (show ∀ W, Below w2.heap.size w2 W → (LN W (some ⟨w.heap.size, 0, none⟩) l ∧ LN W (some ⟨w.heap.size, 0, none⟩) (wholeN l)) ∧ (LN W (some ⟨w1.heap.size, 0, none⟩) l2 ∧ LN W (some ⟨w1.heap.size, 0, none⟩) (wholeN l2)) from fun W hb => ⟨⟨(wideN_sl hrow1).below hb, (wholeN_sl hrow1).below hb⟩, ⟨(wideN_sl hrow2).below hb, (wholeN_sl hrow2).below hb⟩⟩)
      have HB2 := Lib.hid (bl HW1.out.2 hb2)
      clear hrow1 hrow2 hb2
      have hr1 := ReadU_any l A c w2.heap.size w2 (by have := HZ.out; omega) (HA.out _ HB2.out).1 (Nat.le_refl _)
      have hr2 := fun W (hb : Below w2.heap.size w2 W) => ReadU_any l2 A2 c2 w2.heap.size W (by have := HZ.out; omega) (HA.out W (bl HB2.out hb)).2 hb.size
      have hok : ∀ a b, treeC l = some a → treeC l2 = some b → okC a ∧ okC b := fun a b h1 h2 => ⟨(treeC_some h1).2.1, (treeC_some h2).2.1⟩
      have hm := HM.out
      unfold meetL at hm
      generalize treeC l = R at *
      generalize treeC l2 = R2 at *
      have HR2 := Lib.hid hr2
      have HO := Lib.hid hok
      have HMM := Lib.hid hm
      clear hr2 hok hm
      unfold ReadUQ NV at hr1 HR2
      go_wp2_with fail
      (refine hr1.mono ?_); rintro ev w3 ⟨hb3, ⟨s0, s1, s2, s3, s4, s5, s6⟩, As, sk, cs, rfl, hsT⟩
      clear hr1
      simp only
      have HS := Lib.hid (And.intro hb3 hsT)
      clear hb3 hsT
      go_wp2_with fail
      (refine (HR2.out _ (bal HS.out.1 _)).mono ?_); rintro ev w4 ⟨hb4, ⟨t0, t1, t2, t3, t4, t5, t6⟩, At, tk, ct, rfl, htT⟩
      simp only
      have hx1 := ((Blk.new w3 31 #[.int .i8 s0, .int .i64 s1, .bool s2, .int .u8 s3, .int .i64 s4, .int .u8 s5, .int .u8 s6, .slice As sk cs]).below hb4 (by simp only [World.size_alloc]; omega))
      have HB4 := Lib.hid (bl HS.out.1 (bl (bal b0 _) hb4))
      have HS4 := Lib.hid (show ∀ t, R = some t → (⟨s0, s1, s2, s3, s4, s5, s6⟩ : Nd) = t.nd ∧ sk = t.nk ∧ TrS w4 (w2.heap.size ≤ ·) t (.slice As sk cs) from fun t ht => by
        obtain ⟨h1, h2, h3⟩ := HS.out.2 t ht
        exact ⟨h1, h2, h3.below (bl (bal b0 _) hb4)⟩)
      have HT4 := Lib.hid htT
      have hx2 := hx1.alloc (.cells #[.int .i8 t0, .int .i64 t1, .bool t2, .int .u8 t3, .int .i64 t4, .int .u8 t5, .int .u8 t6, .slice At tk ct] 31)
      obtain ⟨x0, x1, x2, x3, x4, x5, x6, x7⟩ := blk_cells8 hx2
      clear hx1 hx2 hb4 htT HS
      go_upto_region 7 with fail
      go_cut [11] from 40 to 48 (fun m wx => m = .bool M ∧ Below w2.heap.size w2 wx)
      case first =>
        cases R with
        | none =>
          have hm := HMM.out
          try simp only at hm
          subst hm
          cases R2 with
          | none =>
            simp only [Option.isSome]
            go_wp2_with fail
            go_meet
            case rel => exact ⟨rfl, bal HB4.out _⟩
          | some t =>
            simp only [Option.isSome]
            go_wp2_with fail
            go_meet
            case rel => exact ⟨rfl, bal HB4.out _⟩
        | some s =>
          cases R2 with
          | none =>
            have hm := HMM.out
            try simp only at hm
            subst hm
            simp only [Option.isSome]
            go_wp2_with fail
            go_meet
            case rel => exact ⟨rfl, bal HB4.out _⟩
          | some t =>
            obtain ⟨e1, e2, hs⟩ := HS4.out s rfl
            obtain ⟨e3, e4, ht⟩ := HT4.out t rfl
            have hmeet := fun W (hb : Below w4.heap.size w4 W) => meetsR_callW _ s t _ _ _ _ W (Nat.le_refl _) (HO.out s t rfl rfl).1 (HO.out s t rfl rfl).2 (hs.below hb) (ht.below hb)
            have hsv := NV_TV s As cs
            have htv := NV_TV t At ct
            rw [← e1, ← e2] at hsv
            rw [← e3, ← e4] at htv
            have hm := HMM.out
            try simp only at hm
            rw [← htv, ← hsv] at hmeet
            unfold MeetRQ NV at hmeet
            rw [hm] at hmeet
            simp only at hmeet
            have HME := Lib.hid hmeet
            clear hm hmeet hsv htv e1 e2 e3 e4 hs ht HMM HO HS4 HT4
            simp only [Option.isSome]
            go_wp2_with fail
            (refine (HME.out _ (bal b0 _)).mono ?_); rintro ev w5 ⟨rfl, hb5⟩
            go_wp2_with fail
            go_meet
            case rel => exact ⟨rfl, bl (bal HB4.out _) hb5⟩
      case rest =>
        obtain ⟨rfl, hbc⟩ := hcut
        have htl := HT.out.2
        try simp only at htl
        have hth := fun W hb => Then_any l l2 (some ⟨w.heap.size, 0, none⟩) (some ⟨w1.heap.size, 0, none⟩) (l.length + 64) (l2.length + 64) W (by omega) (by have := HZ.out.1; simp only [maxLen]; omega) (HLW.out W hb).1.1 (by omega) (by have := HZ.out.2; simp only [maxLen]; omega) (HLW.out W hb).2.1 (by have := HZ.out; omega)
        have htr := fun W hb => thenR_any l l2 A A2 c c2 W (HA.out W hb).1 (HA.out W hb).2 (by have := HZ.out; omega)
        have hme := fun W hb => Meet_any l l2 (some ⟨w.heap.size, 0, none⟩) (some ⟨w1.heap.size, 0, none⟩) (l.length + 64) (l2.length + 64) W (by omega) (by have := HZ.out.1; simp only [maxLen]; omega) (HLW.out W hb).1.1 (by omega) (by have := HZ.out.2; simp only [maxLen]; omega) (HLW.out W hb).2.1
        rw [HM.out] at hme
        rw [HT.out.1] at hth htr
        unfold ThenR at hth htr
        try simp only at hth htr
        have HTH := Lib.hid hth
        have HTR := Lib.hid htr
        have HME := Lib.hid hme
        have HBC := Lib.hid hbc
        clear hth htr hme hbc
        go_wp2_with fail
        (refine (HTH.out _ HBC.out).mono ?_); rintro ev w3 ⟨V3, rfl, ho3, hb3⟩
        have i3 := In.of_own ho3
        obtain ⟨A3, c3, rfl, _, _⟩ := own_shape ho3
        have HB3 := Lib.hid (bl HBC.out hb3)
        have HO3 := Lib.hid ho3
        clear ho3
        go_wp2_with fail
        (refine (HTR.out _ (bl HB2.out HB3.out)).mono ?_); rintro ev w4 ⟨V4, rfl, ho4, hb4⟩
        obtain ⟨A4, c4, rfl, _, _⟩ := own_shape ho4
        have HB4 := Lib.hid (bl HB3.out hb4)
        have HO34 := Lib.hid (own_below HO3.out hb4)
        have HO4 := Lib.hid ho4
        clear ho4
        go_wp2_with fail
        (refine (HME.out _ HB4.out).mono ?_); rintro ev w5 ⟨rfl, hb5⟩
        have hO5 := own_below HO34.out hb5
        have heq := eqCos_any TL A3 A4 c3 c4 w5 (by have := HZ.out; omega) (own_LN hO5 rfl) (own_LN (own_below HO4.out hb5) rfl)
        have HO35 := Lib.hid hO5
        have HB5 := Lib.hid (bl HB4.out hb5)
        clear hO5
        go_wp2_with fail
        (refine heq.mono ?_); rintro ev w6 ⟨rfl, hb6⟩
        clear heq
        have HO36 := Lib.hid (own_below HO35.out hb6)
        have HB6 := Lib.hid (bl HB5.out hb6)
        have z3 := hb3.size
        have z4 := hb4.size
        have z5 := hb5.size
        have z6 := hb6.size
        have zc := HBC.out.size
        clear hb3 hb4 hb5 hb6
        go_wp2_with fail
        have hr0 := bag_new w6 59
        have hg0 : Below w6.heap.size w6 (w6.alloc (.cells bagCells 59)) := bal b0 _
        refine (addCos_any w6.heap.size (w6.heap.size + 1) 0 (fun _ => nilV) [] A3 _ c3 _ hr0 (World.ownsRow_nil _ _ _ _) (by omega) (by omega) (by simp)).mono ?_
        rintro e u1 ⟨rfl, f1, hr1, hf1, ho1, hd1, hp1⟩
        have hd1' : But (fun k => k = w6.heap.size) (w6.alloc (.cells bagCells 59)) u1 := ⟨hd1.os, hd1.tape, hd1.output, hd1.size, fun k hk hne => hd1.block k hk (fun h => by
          rcases h with h | h
          · exact hne h
          · cases h)⟩
        have hg1 : Below w6.heap.size w6 u1 := hg0.trans (hd1'.below (by simp) fun k hk => by rw [hk]; exact Nat.le_refl _)
        have HU1 := Lib.hid (And.intro hr1 (And.intro hf1 (And.intro ho1 hp1)))
        have HG1 := Lib.hid hg1
        clear hr0 hg0 hr1 hf1 ho1 hd1 hd1' hp1
        go_wp2_with fail
        (refine (HTH.out _ (bl HB6.out hg1)).mono ?_); rintro ev w7 ⟨V7, rfl, ho7, hb7⟩
        have i7 := In.of_own ho7
        obtain ⟨A7, c7, rfl, _, _⟩ := own_shape ho7
        obtain ⟨hr1, hf1, ho1, hp1⟩ := HU1.out
        have hr17 := hr1.of_block (hb7.block _ hr1.lt)
        have ho17 := own_below ho1 hb7
        have HB7 := Lib.hid hb7
        have HO7 := Lib.hid ho7
        have z1 := hg1.size
        have z7 := hb7.size
        have zr := hr1.lt
        clear hg1 hb7 ho7 hr1 hf1 ho1 hp1
        go_wp2_with fail
        refine (addCos_any w6.heap.size (w6.heap.size + 1) 1 f1 _ A7 _ c7 _ hr17 ho17 (by omega) (by omega) (by omega)).mono ?_
        rintro e u2 ⟨rfl, f2, hr2, hf2, ho2, hd2, hp2⟩
        clear hr17 ho17
        go_wp2_with fail
        obtain ⟨hr1, hf1, ho1, hp1⟩ := HU1.out
        have hof1 : ∀ b, (f1 6).ownBlock = some b → w6.heap.size + 1 ≤ b ∧ b < u1.heap.size := fun b hb => ho1.lt b hb
        have hg72 : Below w6.heap.size w7 u2 := hd2.below (by omega) (fun k hk => by
          rcases hk with hk | hk
          · omega
          · have := hof1 k hk; omega)
        have hg2 : Below w6.heap.size w6 u2 := (HG1.out.trans (HB7.out.mono (by omega))).trans hg72
        have z2 := hd2.size
        have Ra := own_keep (own_less HO36.out (base' := w2.heap.size) (by omega)) hg2 (fun b hb => by have := i3 b hb; omega)
        have Rb0 := own_less HO7.out (base' := w2.heap.size) (by omega)
        have Rb : u2.ownsRow w2.heap.size 28 7 (.slice A7 TL.length c7) TL.length (nds TL) := by
          refine ⟨Rb0.1, ?_⟩
          rcases Rb0.2 with h | ⟨g, cap, cur, hv, hbg, hg, r⟩
          · exact .inl h
          · have hi := i7 g (by rw [hv]; rfl)
            refine .inr ⟨g, cap, cur, hv, hbg, (hd2.block g hi.2 (fun h => ?_)).trans hg, r⟩
            rcases h with h | h
            · omega
            · have := hof1 g h; omega
        have hp2' : ∀ b, (f2 6).ownBlock = some b → (w6.heap.size + 1 ≤ b ∧ b < u1.heap.size) ∨ w7.heap.size ≤ b := fun b hb => (hp2 b hb).imp_left (hof1 b)
        have hAp := apart_cos w6.heap.size w2.heap.size 2 f2 (fun m => [Value.slice A3 TL.length c3, .slice A7 TL.length c7].getD m nilV) (fun m => [TL.length, TL.length].getD m 0) u2 hr2
          (fun k hk => by rw [hf2 k hk, hf1 k hk]) ho2 (by omega) (by omega) (fin2 ⟨_, Ra⟩ ⟨_, Rb⟩)
          (fin2 (fun b hb => by have := i3 b hb; exact ⟨by omega, fun e => by have := hp2' b e; omega⟩) (fun b hb => by have := i7 b hb; exact ⟨by omega, fun e => by have := hp2' b e; omega⟩)) (ap2 (i3.ap i7 (by omega)))
          (fin2 (by have := HZ.out; show TL.length ≤ _; omega) (by have := HZ.out; show TL.length ≤ _; omega)) (by omega)
        have hCB : ∀ k, (∃ m, m < 2 ∧ ([Value.slice A3 TL.length c3, .slice A7 TL.length c7].getD m nilV).ownBlock = some k) → w2.heap.size ≤ k := by
          rintro k ⟨m, hm, e⟩
          rcases m with _|_|m
          · have := (i3 k e).1; omega
          · have := (i7 k e).1; omega
          · omega
        have h62 := HB6.out.size
        have HAA := Lib.hid hAp
        have HCB := Lib.hid hCB
        have HG2 := Lib.hid (And.intro hg2 z2)
        clear hAp hCB Ra Rb Rb0 hf1 hf2 ho1 ho2 hr1 hr2 hp1 hp2 hp2' hg72 hg2 hd2 hof1 HU1
        refine HAA.out.mono ?_
        rintro e u3 ⟨rfl, hbut⟩
        have h3 : Below w2.heap.size w2 u3 := (HB6.out.trans (HG2.out.1.mono (by omega))).trans (hbut.below (by omega) fun k hk => HCB.out k hk)
        have H3 := Lib.hid h3
        clear hbut HAA HCB h3
        go_wp2_with fail
        (refine (eqCos_any l (some ⟨w.heap.size, 0, none⟩) A (l.length + 64) c u3 (by have := HZ.out.1; omega) (HLW.out u3 H3.out).1.1 (HA.out u3 (bl HB2.out H3.out)).1).mono ?_)
        rintro e u4 ⟨rfl, hb4⟩
        have H4 := Lib.hid (bl H3.out hb4)
        clear hb4
        go_wp2_with fail
        (refine (eqCos_any l2 (some ⟨w1.heap.size, 0, none⟩) A2 (l2.length + 64) c2 u4 (by have := HZ.out.2; omega) (HLW.out u4 H4.out).2.1 (HA.out u4 (bl HB2.out H4.out)).2).mono ?_)
        rintro e u5 ⟨rfl, hb5⟩
        have H5 := Lib.hid (bl H4.out hb5)
        clear hb5
        go_wp2_with fail
        (refine (spareCos_any l w.heap.size u5 HZ.out.1 (HLW.out u5 H5.out).1.2).mono ?_)
        rintro e u6 ⟨rfl, hb6⟩
        have H6 := Lib.hid (bl H5.out hb6)
        clear hb6
        go_wp2_with fail
        (refine (spareCos_any l2 w1.heap.size u6 HZ.out.2 (HLW.out u6 H6.out).2.2).mono ?_)
        rintro e u7 ⟨rfl, hb7⟩
        have H7 := Lib.hid (bl H6.out hb7)
        clear hb7
        go_wp2_with fail
        (refine (HWK.out _).mono ?_); rintro ev u8 ⟨rfl, hb8⟩
        go_wp2_with fail
        go_ret
        exact ⟨rfl, bl HB2.out (bl H7.out hb8)⟩
    · have e2 : decide (16384 < (l2.length : Int)) = true := by simp; omega
      rw [e2] at hlg2
      have HLG2 := Lib.hid hlg2
      clear e1 e2 hwk hlg hlg2 hA hA2 hl hc hl2 hc2 hz hy
      go_enter Tryz.func3, Tryz.ntmps3
      go_wp2_with fail
      (refine (HLG.out _).mono ?_); rintro ev w1 ⟨rfl, rfl⟩
      go_wp2_with fail
      (refine (HLG2.out _).mono ?_); rintro ev w1 ⟨rfl, rfl⟩
      go_wp2_with fail
      (refine (HWK.out _).mono ?_); rintro ev w2 ⟨rfl, hb2⟩
      go_wp2_with fail
      go_ret
      exact ⟨rfl, hb2⟩
  · have e1 : decide (16384 < (l.length : Int)) = true := by simp; omega
    rw [e1] at hlg
    have HLG := Lib.hid hlg
    clear e1 hwk hlg hlg2 hA hA2 hl hc hl2 hc2 hz
    go_enter Tryz.func3, Tryz.ntmps3
    go_wp2_with fail
    (refine (HLG.out _).mono ?_); rintro ev w1 ⟨rfl, rfl⟩
    go_wp2_with fail
    (refine (HWK.out _).mono ?_); rintro ev w2 ⟨rfl, hb2⟩
    go_wp2_with fail
    go_ret
    exact ⟨rfl, hb2⟩
end Go.Proofs.YtjklecncdinabaaGreatDoor.C
