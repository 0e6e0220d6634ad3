/- Parts of this claim: CgO, RowsIn. -/
import Derived.ProofKit
import Derived.Deep.Slices
import Derived.SizedLaws
import Derived.OpenShut
import Derived.Test.YtobplngonkdbpaaGreatDoorP25
import Derived.Test.YtobplngonkdbpaaGreatDoorP06
import Derived.Test.YtobplngonkdbpaaGreatDoorP23
import Derived.Test.YtobplngonkdbpaaGreatDoorP04
import Derived.Test.YtobplngonkdbpaaGreatDoorProg
set_option linter.unusedVariables false
set_option linter.unusedSimpArgs false
/- CgO -/
namespace Go.Proofs.YtobplngonkdbpaaGreatDoor.D
open Go.RowKit
open Go.Proofs.YtobplngonkdbpaaGreatDoor.B
set_option linter.unusedVariables false
set_option linter.unusedSimpArgs false

theorem showB_c (L : CoL) (c : Cod) (w : World) (hc : L.code = c) (hok : c.ok) (hm : mC c ≤ 1048576) (hCR : CR w L) (hg : Gl w) : Calls Tryz.prog 9 #[.agg L.vals.toArray] w fun e w' => e = .returned (strV (showV c)) ∧ Below w.heap.size w w' := by
  subst hc
  obtain ⟨hB, hb2⟩ := small_bounds hm
  have hl := show_len hok
  exact show_c L w hok (by omega) hb2 (fun g hg => by have := hB.fe g hg; omega) (fun g hg => by have := hB.co g hg; omega) hCR hg
theorem heightB_c (L : CoL) (c : Cod) (w : World) (hc : L.code = c) (hok : c.ok) (hm : mC c ≤ 1048576) (hCR : CR w L) : Calls Tryz.prog 13 #[.agg L.vals.toArray] w fun e w' => e = .returned (.int .i64 (heV c : Nat)) ∧ Below w.heap.size w w' := by
  subst hc
  obtain ⟨hB, hb2⟩ := small_bounds hm
  exact height_c L w hok (fun g hg => by have := hB.co g hg; omega) hCR
theorem sizeB_c (L : CoL) (c : Cod) (w : World) (hc : L.code = c) (hm : mC c ≤ 1048576) (hCR : CR w L) : Calls Tryz.prog 15 #[.agg L.vals.toArray] w fun e w' => e = .returned (.int .i64 (szV c : Nat)) ∧ Below w.heap.size w w' := by
  subst hc
  have := szV_le L.code
  exact size_c L w (by omega) hCR
theorem readBad_c (t : Bs) (w : World) (hl : t.length ≤ 1073741824) (hg : Gl w) (hb : (readV t).1 = none) : Calls Tryz.prog 17 #[.string ⟨t.toArray⟩] w fun e w' => ∃ n : Nat, e = .returned (.tuple #[.agg nilV, .int .i64 60, .int .i64 n]) ∧ 1 ≤ n ∧ Below w.heap.size w w' := by
  refine (read_c t w hl hg).mono ?_
  rintro e w1 ⟨hb1, ⟨k, c, L, hr, _⟩ | ⟨n, hr, rfl⟩⟩
  · rw [hr] at hb; cases hb
  · exact ⟨n, rfl, runV_line t.length t _ 1 n (Nat.le_refl _) (Nat.le_refl _) hr, hb1⟩
set_option maxRecDepth 100000 in
set_option maxHeartbeats 16000000 in
theorem codeRound_walk (t : Bs) (L : CoL) (w : World) (ht : t.length ≤ 140737488355328) (hCR : CR w L) (hok : L.code.ok) (hB : RBd L) (hg : Gl w) :
    Calls Tryz.prog 5 #[strV t, .agg L.vals.toArray] w fun e w' => e = .returned (.bool true) ∧ Below w.heap.size w w' := by
  obtain ⟨A1, c1, e1, hc1, hd1, s1⟩ := hCR.f.sl
  obtain ⟨A2, c2, e2, hc2, hd2, s2⟩ := hCR.c.sl
  obtain ⟨A3, c3, e3, hc3, hd3, s3⟩ := hCR.n.sl
  obtain ⟨A4, c4, e4, hc4, hd4, s4⟩ := hCR.t.sl
  obtain ⟨A5, c5, e5, hc5, hd5, s5⟩ := hCR.y.sl
  obtain ⟨n1, hn1⟩ : ∃ n, L.fns.length = n := ⟨_, rfl⟩
  obtain ⟨n2, hn2⟩ : ∃ n, L.casts.length = n := ⟨_, rfl⟩
  obtain ⟨n3, hn3⟩ : ∃ n, L.nums.length = n := ⟨_, rfl⟩
  obtain ⟨n4, hn4⟩ : ∃ n, L.texts.length = n := ⟨_, rfl⟩
  obtain ⟨n5, hn5⟩ : ∃ n, L.types.length = n := ⟨_, rfl⟩
  rw [hn1] at e1
  rw [hn2] at e2
  rw [hn3] at e3
  rw [hn4] at e4
  rw [hn5] at e5
  have hv : L.vals.toArray = #[.slice A1 n1 c1, .slice A2 n2 c2, .slice A3 n3 c3, .slice A4 n4 c4, .slice A5 n5 c5] := by unfold CoL.vals; rw [e1, e2, e3, e4, e5]
  obtain ⟨C, hC⟩ : ∃ C, L.code = C := ⟨_, rfl⟩
  have HHV := Lib.hid (fun W (hb : Below w.heap.size w W) => heavy_c L W (hCR.grow hb) hB)
  have HCP := Lib.hid (fun W (hb : Below w.heap.size w W) (hm : mC L.code ≤ 1048576) => copyCode_c L W (hCR.grow hb) (small_bounds hm).1)
  have HEQ := Lib.hid (fun (L8 : CoL) W (hb : Below w.heap.size w W) (h8 : CR W L8) (hc : L8.code = L.code) => eqCode_c L8 L W h8 (hCR.grow hb) hc)
  have HG := Lib.hid (fun W (hb : Below w.heap.size w W) => hg.on hb)
  rw [hC] at HHV HCP HEQ hok
  rw [hv] at HHV HCP HEQ ⊢
  obtain ⟨X, hX⟩ : ∃ X, showV C = X := ⟨_, rfl⟩
  have hrd := read_show hok
  have HMORE := Lib.hid (read_more (c := C))
  have HLESS := Lib.hid (fun (h : showV C ≠ []) => read_less h)
  have hdl : X.dropLast = X.take (X.length - 1) := List.dropLast_eq_take
  rw [hX] at hrd HMORE HLESS
  rw [hdl] at HLESS
  have HX := Lib.hid (And.intro hX hrd)
  have HLEN := Lib.hid (show X.length ≤ 400 * mC C by rw [← hX]; exact show_len hok)
  have HOK := Lib.hid hok
  obtain ⟨g0, hg0⟩ : ∃ x, w.heap.size = x := ⟨_, rfl⟩
  obtain ⟨W1, hW1⟩ : ∃ W1, w.alloc (.cells #[.slice A1 n1 c1, .slice A2 n2 c2, .slice A3 n3 c3, .slice A4 n4 c4, .slice A5 n5 c5] 27) = W1 := ⟨_, rfl⟩
  have hb1 : Below w.heap.size w W1 := by rw [← hW1]; exact bal b0 _
  have k1 : Blk W1 g0 27 #[.slice A1 n1 c1, .slice A2 n2 c2, .slice A3 n3 c3, .slice A4 n4 c4, .slice A5 n5 c5] := by rw [← hW1, ← hg0]; exact Blk.new w _ _
  have HK := Lib.hid (And.intro hb1 k1)
  clear hCR hB hg hok hv hC hX hrd hdl e1 e2 e3 e4 e5 s1 s2 s3 s4 s5 hn1 hn2 hn3 hn4 hn5 hc1 hc2 hc3 hc4 hc5 hd1 hd2 hd3 hd4 hd5 hb1 k1
  have hz := str_size t
  unfold strV
  go_enter Tryz.func5, Tryz.ntmps5
  go_upto_region 1 with fail
  clear hW1 hg0
  by_cases hl : t.length ≤ 65536
  rotate_left
  · have hl' : 65536 < t.length := by omega
    go_wp2_with fail
    refine (lives_c _ (HG.out _ HK.out.1)).mono ?_
    rintro e w2 ⟨rfl, hb2⟩
    go_wp2_with fail
    go_ret
    exact ⟨rfl, bl HK.out.1 hb2⟩
  have hd : decide ((65536 : Int) < (t.length : Int)) = false := decide_eq_false (by omega)
  go_wp2_with (refine wpList_load_row_g (by kernel_rfl) 27 (.tmp 3) rfl g0 rfl 27 #[.slice A1 n1 c1, .slice A2 n2 c2, .slice A3 n3 c3, .slice A4 n4 c4, .slice A5 n5 c5] (0, 0) _ HK.out.2 Tryz.underlying27 rfl (by kernel_rfl) ?_)
  refine (HHV.out _ HK.out.1).mono ?_
  rintro e w2 ⟨b, rfl, hm, hb2⟩
  have HK2 := Lib.hid (And.intro (bl HK.out.1 hb2) (HK.out.2.below hb2 HK.out.2.lt))
  clear hb2
  cases b with
  | true =>
    clear hm
    go_wp2_with fail
    refine (lives_c _ (HG.out _ HK2.out.1)).mono ?_
    rintro e w3 ⟨rfl, hb3⟩
    go_wp2_with fail
    go_ret
    exact ⟨rfl, bl HK2.out.1 hb3⟩
  | false =>
    have HMC := Lib.hid (show mC C ≤ 1048576 by have := hm rfl; omega)
    have hlX : X.length ≤ 13107200 := by have := hm rfl; have := HLEN.out; omega
    clear hm
    go_wp2_with fail
    refine (read_c t _ (by omega) (HG.out _ HK2.out.1)).mono ?_
    rintro e w3 ⟨hb3, ⟨k, c, LA, hr, hc, rfl, how⟩ | ⟨n, hr, rfl⟩⟩
    · obtain ⟨hs, hcok, -, -⟩ := read_ok hr
      have hmA : mC c ≤ 1048576 := by have := show_ge c; rw [show showV c = t from hs] at this; omega
      obtain ⟨B1, d1, B2, d2, B3, d3, B4, d4, B5, d5, hvA⟩ := own_vals how
      obtain ⟨m1, hm1⟩ : ∃ n, LA.fns.length = n := ⟨_, rfl⟩
      obtain ⟨m2, hm2⟩ : ∃ n, LA.casts.length = n := ⟨_, rfl⟩
      obtain ⟨m3, hm3⟩ : ∃ n, LA.nums.length = n := ⟨_, rfl⟩
      obtain ⟨m4, hm4⟩ : ∃ n, LA.texts.length = n := ⟨_, rfl⟩
      obtain ⟨m5, hm5⟩ : ∃ n, LA.types.length = n := ⟨_, rfl⟩
      rw [hm1, hm2, hm3, hm4, hm5] at hvA
      have hcrA := CR.of_own how.own
      have HSH := Lib.hid (fun W (hb : Below w3.heap.size w3 W) (hgW : Gl W) => showB_c LA c W hc hcok hmA (hcrA.grow hb) hgW)
      rw [hvA, show showV c = t from hs] at HSH
      rw [hvA]
      obtain ⟨g5, hg5⟩ : ∃ x, w3.heap.size = x := ⟨_, rfl⟩
      have HG5 := Lib.hid hg5
      have HB3 := Lib.hid hb3
      clear hb3 hr hs hcok hmA hvA hm1 hm2 hm3 hm4 hm5 hcrA hc how hg5
      go_upto_region 4 with fail
      rw [HG5.out]
      obtain ⟨W5, hW5⟩ : ∃ W5, w3.alloc (.cells #[.slice B1 m1 d1, .slice B2 m2 d2, .slice B3 m3 d3, .slice B4 m4 d4, .slice B5 m5 d5] 27) = W5 := ⟨_, rfl⟩
      have hb5 : Below w3.heap.size w3 W5 := by rw [← hW5]; exact bal b0 _
      have k5 : Blk W5 g5 27 #[.slice B1 m1 d1, .slice B2 m2 d2, .slice B3 m3 d3, .slice B4 m4 d4, .slice B5 m5 d5] := by rw [← hW5]; exact bk HG5.out _ _
      have HK5 := Lib.hid (show Below w3.heap.size w3 W5 ∧ (Below w.heap.size w W5 ∧ Blk W5 g0 27 #[.slice A1 n1 c1, .slice A2 n2 c2, .slice A3 n3 c3, .slice A4 n4 c4, .slice A5 n5 c5]) ∧ Blk W5 g5 27 #[.slice B1 m1 d1, .slice B2 m2 d2, .slice B3 m3 d3, .slice B4 m4 d4, .slice B5 m5 d5] from ⟨hb5, ⟨bl HK2.out.1 (bl HB3.out hb5), HK2.out.2.below (bl HB3.out hb5) HK2.out.2.lt⟩, k5⟩)
      clear hb5 k5
      rw [hW5]
      clear hW5
      go_wp2_with (refine wpList_load_row_g (by kernel_rfl) 27 (.tmp 5) rfl g5 rfl 27 #[.slice B1 m1 d1, .slice B2 m2 d2, .slice B3 m3 d3, .slice B4 m4 d4, .slice B5 m5 d5] (0, 0) _ HK5.out.2.2 Tryz.underlying27 rfl (by kernel_rfl) ?_)
      refine (HSH.out _ HK5.out.1 (HG.out _ HK5.out.2.1.1)).mono ?_
      rintro e w5 ⟨rfl, hb5⟩
      unfold strV
      have HT := Lib.hid (show Below w.heap.size w w5 ∧ Blk w5 g0 27 #[.slice A1 n1 c1, .slice A2 n2 c2, .slice A3 n3 c3, .slice A4 n4 c4, .slice A5 n5 c5] from ⟨bl HK5.out.2.1.1 hb5, HK5.out.2.1.2.below hb5 HK5.out.2.1.2.lt⟩)
      clear hb5
      go_wp2_with (refine wpList_load_row_g (by kernel_rfl) 27 (.tmp 3) rfl g0 rfl 27 #[.slice A1 n1 c1, .slice A2 n2 c2, .slice A3 n3 c3, .slice A4 n4 c4, .slice A5 n5 c5] (0, 0) _ HT.out.2 Tryz.underlying27 rfl (by kernel_rfl) ?_)
      refine (HCP.out _ HT.out.1 HMC.out).mono ?_
      rintro e w6 ⟨L6, rfl, hc6, hcr6, hb6⟩
      have H6 := Lib.hid (And.intro hc6 (And.intro hcr6 (bl HT.out.1 hb6)))
      have hk6 := HT.out.2.below hb6 HT.out.2.lt
      clear hc6 hcr6 hb6
      have HK6 := Lib.hid hk6
      clear hk6
      go_wp2_with fail
      refine (showB_c L6 C _ H6.out.1 HOK.out HMC.out H6.out.2.1 (HG.out _ H6.out.2.2)).mono ?_
      rintro e w7 ⟨rfl, hb7⟩
      have HT7 := Lib.hid (And.intro (bl H6.out.2.2 hb7) (HK6.out.below hb7 HK6.out.lt))
      clear hb7
      rw [HX.out.1]
      unfold strV
      go_wp2_with fail
      refine (read_c X _ (by omega) (HG.out _ HT7.out.1)).mono ?_
      rintro e w8 ⟨hb8, ⟨k, c, L8, hr8, hc8, rfl, how⟩ | ⟨n, hr8, _⟩⟩
      rotate_left
      · exfalso
        obtain ⟨k0, h0⟩ := HX.out.2
        rw [h0] at hr8; cases hr8
      have hcc : c = C := by
        obtain ⟨k0, h0⟩ := HX.out.2
        rw [h0] at hr8
        injection hr8 with h1
        injection h1 with h1
        injection h1 with _ h2
        exact h2.symm
      have hc8' := hc8.trans hcc
      obtain ⟨E1, f1, E2, f2, E3, f3, E4, f4, E5, f5, hv8⟩ := own_vals how
      obtain ⟨p1, hp1⟩ : ∃ n, L8.fns.length = n := ⟨_, rfl⟩
      obtain ⟨p2, hp2⟩ : ∃ n, L8.casts.length = n := ⟨_, rfl⟩
      obtain ⟨p3, hp3⟩ : ∃ n, L8.nums.length = n := ⟨_, rfl⟩
      obtain ⟨p4, hp4⟩ : ∃ n, L8.texts.length = n := ⟨_, rfl⟩
      obtain ⟨p5, hp5⟩ : ∃ n, L8.types.length = n := ⟨_, rfl⟩
      rw [hp1, hp2, hp3, hp4, hp5] at hv8
      have hcr8 := CR.of_own how.own
      have hb8' := bl HT7.out.1 hb8
      have HEQ8 := Lib.hid (fun W (hb : Below w8.heap.size w8 W) => HEQ.out L8 W (bl hb8' hb) (hcr8.grow hb) hc8')
      have HSZ8 := Lib.hid (fun W (hb : Below w8.heap.size w8 W) => sizeB_c L8 C W hc8' HMC.out (hcr8.grow hb))
      have HHE8 := Lib.hid (fun W (hb : Below w8.heap.size w8 W) => heightB_c L8 C W hc8' HOK.out HMC.out (hcr8.grow hb))
      rw [hv8] at HEQ8 HSZ8 HHE8 ⊢
      obtain ⟨g8, hg8⟩ : ∃ x, w8.heap.size = x := ⟨_, rfl⟩
      have HKK := Lib.hid (And.intro hb8' (HT7.out.2.below hb8 HT7.out.2.lt))
      clear hb8 hb8' hr8 hcc hc8 hc8' how hcr8 hp1 hp2 hp3 hp4 hp5 hv8
      have HG8 := Lib.hid hg8
      clear hg8
      go_upto_region 8 with fail
      rw [HG8.out]
      obtain ⟨W9, hW9⟩ : ∃ W9, w8.alloc (.cells #[.slice E1 p1 f1, .slice E2 p2 f2, .slice E3 p3 f3, .slice E4 p4 f4, .slice E5 p5 f5] 27) = W9 := ⟨_, rfl⟩
      have hb9 : Below w8.heap.size w8 W9 := by rw [← hW9]; exact bal b0 _
      have k9 : Blk W9 g8 27 #[.slice E1 p1 f1, .slice E2 p2 f2, .slice E3 p3 f3, .slice E4 p4 f4, .slice E5 p5 f5] := by rw [← hW9]; exact bk HG8.out _ _
      have HK9 := Lib.hid (show Below w8.heap.size w8 W9 ∧ Below w.heap.size w W9 ∧ Blk W9 g0 27 #[.slice A1 n1 c1, .slice A2 n2 c2, .slice A3 n3 c3, .slice A4 n4 c4, .slice A5 n5 c5] ∧ Blk W9 g8 27 #[.slice E1 p1 f1, .slice E2 p2 f2, .slice E3 p3 f3, .slice E4 p4 f4, .slice E5 p5 f5] from ⟨hb9, bl HKK.out.1 hb9, HKK.out.2.below hb9 HKK.out.2.lt, k9⟩)
      clear hb9 k9
      rw [hW9]
      clear hW9
      refine wp_region_held_drew (S := (fun W' => Below W9.heap.size W9 W' ∧ Blk W' g0 27 #[.slice A1 n1 c1, .slice A2 n2 c2, .slice A3 n3 c3, .slice A4 n4 c4, .slice A5 n5 c5] ∧ Blk W' g8 27 #[.slice E1 p1 f1, .slice E2 p2 f2, .slice E3 p3 f3, .slice E4 p4 f4, .slice E5 p5 f5])) (by kernel_rfl) ?ss1 (fun hHeld => ?rr1)
      case ss1 => (try dsimp only); exact ⟨bdr b0 1, HK9.out.2.2.1.drewN 1, HK9.out.2.2.2.drewN 1⟩
      refine rgt 0 71 rfl rfl hHeld ?_
      try simp only [Act.put, rg1, rg2, rg3]
      refine rgt 1 72 rfl rfl hHeld ?_
      try simp only [Act.put, rg1, rg2, rg3]
      refine rgt 2 73 rfl rfl hHeld ?_
      try simp only [Act.put, rg1, rg2, rg3]
      refine rgt 3 74 rfl rfl hHeld ?_ (by intro wq hq; (try dsimp only at hq); exact exec_load_row _ _ g8 rfl _ #[.slice E1 p1 f1, .slice E2 p2 f2, .slice E3 p3 f3, .slice E4 p4 f4, .slice E5 p5 f5] (0, 0) _ hq.2.2 Tryz.underlying27 rfl (by kernel_rfl))
      try simp only [Act.put, rg1, rg2, rg3]
      refine rgt 4 75 rfl rfl hHeld ?_ (by intro wq hq; (try dsimp only at hq); exact exec_load_row _ _ g0 rfl _ #[.slice A1 n1 c1, .slice A2 n2 c2, .slice A3 n3 c3, .slice A4 n4 c4, .slice A5 n5 c5] (0, 0) _ hq.2.1 Tryz.underlying27 rfl (by kernel_rfl))
      try simp only [Act.put, rg1, rg2, rg3]
      refine rgc 5 (some 76) rfl (fun K hK => ?_)
      go_simp
      ((refine (HEQ8.out _ (bl HK9.out.1 hHeld.1)).mono ?_); rintro e wk5 ⟨rfl, hc5_⟩)
      refine hK.out _ _ ?ss7 (fun hHeld2 => ?rr7)
      case ss7 => (try dsimp only); exact ⟨bl hHeld.1 hc5_, hHeld.2.1.below hc5_ hHeld.2.1.lt, hHeld.2.2.below hc5_ hHeld.2.2.lt⟩
      clear hK K
      clear hHeld
      have hHeld := hHeld2
      clear hHeld2
      try simp only [Act.put, rg1, rg2, rg3]
      refine rgt 6 77 rfl rfl hHeld ?_
      try simp only [Act.put, rg1, rg2, rg3]
      refine rgt 7 78 rfl rfl hHeld ?_
      try simp only [Act.put, rg1, rg2, rg3]
      refine rgt 8 79 rfl rfl hHeld ?_
      try simp only [Act.put, rg1, rg2, rg3]
      refine rgt 9 80 rfl rfl hHeld ?_ (by intro wq hq; (try dsimp only at hq); exact exec_load_row _ _ g8 rfl _ #[.slice E1 p1 f1, .slice E2 p2 f2, .slice E3 p3 f3, .slice E4 p4 f4, .slice E5 p5 f5] (0, 0) _ hq.2.2 Tryz.underlying27 rfl (by kernel_rfl))
      try simp only [Act.put, rg1, rg2, rg3]
      refine rgt 11 82 rfl rfl hHeld ?_ (by intro wq hq; (try dsimp only at hq); exact exec_load_row _ _ g0 rfl _ #[.slice A1 n1 c1, .slice A2 n2 c2, .slice A3 n3 c3, .slice A4 n4 c4, .slice A5 n5 c5] (0, 0) _ hq.2.1 Tryz.underlying27 rfl (by kernel_rfl))
      try simp only [Act.put, rg1, rg2, rg3]
      refine rgc 10 (some 81) rfl (fun K hK => ?_)
      go_simp
      ((refine (HSZ8.out _ (bl HK9.out.1 hHeld.1)).mono ?_); rintro e wk10 ⟨rfl, hc10_⟩)
      refine hK.out _ _ ?ss13 (fun hHeld2 => ?rr13)
      case ss13 => (try dsimp only); exact ⟨bl hHeld.1 hc10_, hHeld.2.1.below hc10_ hHeld.2.1.lt, hHeld.2.2.below hc10_ hHeld.2.2.lt⟩
      clear hK K
      clear hHeld
      have hHeld := hHeld2
      clear hHeld2
      try simp only [Act.put, rg1, rg2, rg3]
      refine rgc 12 (some 83) rfl (fun K hK => ?_)
      go_simp
      ((refine (HCP.out _ (bl HK9.out.2.1 hHeld.1) HMC.out).mono ?_); rintro e wk12 ⟨Lx, rfl, hcx, hcrx, hc12_⟩; have HX12 := Lib.hid (And.intro hcx hcrx); clear hcx hcrx)
      refine hK.out _ _ ?ss14 (fun hHeld2 => ?rr14)
      case ss14 => (try dsimp only); exact ⟨bl hHeld.1 hc12_, hHeld.2.1.below hc12_ hHeld.2.1.lt, hHeld.2.2.below hc12_ hHeld.2.2.lt⟩
      clear hK K
      clear hHeld
      have hHeld := hHeld2
      clear hHeld2
      try simp only [Act.put, rg1, rg2, rg3]
      refine rgc 13 (some 84) rfl (fun K hK => ?_)
      go_simp
      ((refine (sizeB_c Lx C _ HX12.out.1 HMC.out HX12.out.2).mono ?_); rintro e wk13 ⟨rfl, hc13_⟩)
      refine hK.out _ _ ?ss15 (fun hHeld2 => ?rr15)
      case ss15 => (try dsimp only); exact ⟨bl hHeld.1 hc13_, hHeld.2.1.below hc13_ hHeld.2.1.lt, hHeld.2.2.below hc13_ hHeld.2.2.lt⟩
      clear hK K
      clear hHeld
      have hHeld := hHeld2
      clear hHeld2
      try simp only [Act.put, rg1, rg2, rg3]
      refine rgt 14 85 rfl rfl hHeld ?_
      try simp only [Act.put, rg1, rg2, rg3]
      refine rgt 15 86 rfl rfl hHeld ?_
      try simp only [Act.put, rg1, rg2, rg3]
      refine rgt 16 87 rfl rfl hHeld ?_
      try simp only [Act.put, rg1, rg2, rg3]
      refine rgt 17 88 rfl rfl hHeld ?_ (by intro wq hq; (try dsimp only at hq); exact exec_load_row _ _ g8 rfl _ #[.slice E1 p1 f1, .slice E2 p2 f2, .slice E3 p3 f3, .slice E4 p4 f4, .slice E5 p5 f5] (0, 0) _ hq.2.2 Tryz.underlying27 rfl (by kernel_rfl))
      try simp only [Act.put, rg1, rg2, rg3]
      refine rgt 19 90 rfl rfl hHeld ?_ (by intro wq hq; (try dsimp only at hq); exact exec_load_row _ _ g0 rfl _ #[.slice A1 n1 c1, .slice A2 n2 c2, .slice A3 n3 c3, .slice A4 n4 c4, .slice A5 n5 c5] (0, 0) _ hq.2.1 Tryz.underlying27 rfl (by kernel_rfl))
      try simp only [Act.put, rg1, rg2, rg3]
      refine rgc 18 (some 89) rfl (fun K hK => ?_)
      go_simp
      ((refine (HHE8.out _ (bl HK9.out.1 hHeld.1)).mono ?_); rintro e wk18 ⟨rfl, hc18_⟩)
      refine hK.out _ _ ?ss21 (fun hHeld2 => ?rr21)
      case ss21 => (try dsimp only); exact ⟨bl hHeld.1 hc18_, hHeld.2.1.below hc18_ hHeld.2.1.lt, hHeld.2.2.below hc18_ hHeld.2.2.lt⟩
      clear hK K
      clear hHeld
      have hHeld := hHeld2
      clear hHeld2
      try simp only [Act.put, rg1, rg2, rg3]
      refine rgc 20 (some 91) rfl (fun K hK => ?_)
      go_simp
      ((refine (HCP.out _ (bl HK9.out.2.1 hHeld.1) HMC.out).mono ?_); rintro e wk20 ⟨Ly, rfl, hcy, hcry, hc20_⟩; have HX20 := Lib.hid (And.intro hcy hcry); clear hcy hcry)
      refine hK.out _ _ ?ss22 (fun hHeld2 => ?rr22)
      case ss22 => (try dsimp only); exact ⟨bl hHeld.1 hc20_, hHeld.2.1.below hc20_ hHeld.2.1.lt, hHeld.2.2.below hc20_ hHeld.2.2.lt⟩
      clear hK K
      clear hHeld
      have hHeld := hHeld2
      clear hHeld2
      try simp only [Act.put, rg1, rg2, rg3]
      refine rgc 21 (some 92) rfl (fun K hK => ?_)
      go_simp
      ((refine (heightB_c Ly C _ HX20.out.1 HOK.out HMC.out HX20.out.2).mono ?_); rintro e wk21 ⟨rfl, hc21_⟩)
      refine hK.out _ _ ?ss23 (fun hHeld2 => ?rr23)
      case ss23 => (try dsimp only); exact ⟨bl hHeld.1 hc21_, hHeld.2.1.below hc21_ hHeld.2.1.lt, hHeld.2.2.below hc21_ hHeld.2.2.lt⟩
      clear hK K
      clear hHeld
      have hHeld := hHeld2
      clear hHeld2
      try simp only [Act.put, rg1, rg2, rg3]
      refine rgt 22 93 rfl rfl hHeld ?_
      try simp only [Act.put, rg1, rg2, rg3]
      refine rgt 23 94 rfl rfl hHeld ?_
      try simp only [Act.put, rg1, rg2, rg3]
      refine wpAnyH_done (by kernel_rfl) ?_ _
      have HF := Lib.hid (bl HK9.out.2.1 hHeld.1)
      clear hHeld
      have HCAT := Lib.hid (cat_bytes X [10])
      by_cases hne : X = []
      · subst hne
        go_wp2_with fail
        refine (readBad_c [10] _ (by decide) (HG.out _ HF.out) HMORE.out).mono ?_
        rintro e w20 ⟨q, rfl, hq, hb20⟩
        unfold nilV
        have HF20 := Lib.hid (bl HF.out hb20)
        clear hb20
        go_wp2_with fail
        refine (lives_c _ (HG.out _ (bal HF20.out _))).mono ?_
        rintro e w21 ⟨rfl, hb21⟩
        go_wp2_with fail
        go_ret
        exact ⟨rfl, bl (bal HF20.out _) hb21⟩
      · have hpos : 0 < X.length := List.length_pos_iff.2 hne
        have hzX := str_size X
        have hext := ext_at X 0 (X.length - 1)
        go_wp2_with fail
        refine (readBad_c (X.take (X.length - 1)) _ (by rw [List.length_take]; omega) (HG.out _ HF.out) (HLESS.out hne)).mono ?_
        rintro e w18 ⟨q, rfl, hq, hb18⟩
        unfold nilV
        have HF18 := Lib.hid (bal (bl HF.out hb18) (.cells #[.slice none 0 0, .slice none 0 0, .slice none 0 0, .slice none 0 0, .slice none 0 0] 27))
        clear hb18 hext HF
        have HF := HF18
        clear HF18
        generalize hXs : (⟨X.toArray⟩ : ByteArray) = Xs
        have hXz : Xs.size ≤ 13107200 := by rw [← hXs, str_size]; exact hlX
        have HXS := Lib.hid hXs
        clear hXs hzX
        go_wp2_with fail
        rw [← HXS.out, HCAT.out]
        refine (readBad_c (X ++ [10]) _ (by rw [List.length_append]; simp only [List.length_cons, List.length_nil]; omega) (HG.out _ HF.out) HMORE.out).mono ?_
        rintro e w20 ⟨q, rfl, hq, hb20⟩
        unfold nilV
        have HF20 := Lib.hid (bl HF.out hb20)
        clear hb20
        go_wp2_with fail
        refine (lives_c _ (HG.out _ (bal HF20.out _))).mono ?_
        rintro e w21 ⟨rfl, hb21⟩
        go_wp2_with fail
        go_ret
        exact ⟨rfl, bl (bal HF20.out _) hb21⟩
    · have hn : 1 ≤ n := runV_line t.length t _ 1 n (Nat.le_refl _) (Nat.le_refl _) hr
      obtain ⟨g5, hg5⟩ : ∃ x, w3.heap.size = x := ⟨_, rfl⟩
      have HG5 := Lib.hid hg5
      have HB3 := Lib.hid hb3
      rw [show nilV = #[.slice none 0 0, .slice none 0 0, .slice none 0 0, .slice none 0 0, .slice none 0 0] from rfl]
      clear hb3 hr hg5
      go_upto_region 4 with fail
      rw [HG5.out]
      obtain ⟨W5, hW5⟩ : ∃ W5, w3.alloc (.cells #[.slice none 0 0, .slice none 0 0, .slice none 0 0, .slice none 0 0, .slice none 0 0] 27) = W5 := ⟨_, rfl⟩
      have hb5 : Below w3.heap.size w3 W5 := by rw [← hW5]; exact bal b0 _
      have k5 : Blk W5 g5 27 #[.slice none 0 0, .slice none 0 0, .slice none 0 0, .slice none 0 0, .slice none 0 0] := by rw [← hW5]; exact bk HG5.out _ _
      have HK5 := Lib.hid (show Below w3.heap.size w3 W5 ∧ (Below w.heap.size w W5 ∧ Blk W5 g0 27 #[.slice A1 n1 c1, .slice A2 n2 c2, .slice A3 n3 c3, .slice A4 n4 c4, .slice A5 n5 c5]) ∧ Blk W5 g5 27 #[.slice none 0 0, .slice none 0 0, .slice none 0 0, .slice none 0 0, .slice none 0 0] from ⟨hb5, ⟨bl HK2.out.1 (bl HB3.out hb5), HK2.out.2.below (bl HB3.out hb5) HK2.out.2.lt⟩, k5⟩)
      clear hb5 k5
      rw [hW5]
      clear hW5
      have hd2 : decide ((n : Int) < 1) = false := decide_eq_false (by omega)
      go_wp2_with (refine wpList_load_row_g (by kernel_rfl) 27 (.tmp 5) rfl g5 rfl 27 #[.slice none 0 0, .slice none 0 0, .slice none 0 0, .slice none 0 0, .slice none 0 0] (0, 0) _ HK5.out.2.2 Tryz.underlying27 rfl (by kernel_rfl) ?_)
      refine (eqCode_c CoL.nil CoL.nil _ (cr_nil _) (cr_nil _) rfl).mono ?_
      rintro e w5 ⟨rfl, hb5⟩
      have HT := Lib.hid (show Below w.heap.size w w5 ∧ Blk w5 g0 27 #[.slice A1 n1 c1, .slice A2 n2 c2, .slice A3 n3 c3, .slice A4 n4 c4, .slice A5 n5 c5] from ⟨bl HK5.out.2.1.1 hb5, HK5.out.2.1.2.below hb5 HK5.out.2.1.2.lt⟩)
      clear hb5
      go_wp2_with (refine wpList_load_row_g (by kernel_rfl) 27 (.tmp 3) rfl g0 rfl 27 #[.slice A1 n1 c1, .slice A2 n2 c2, .slice A3 n3 c3, .slice A4 n4 c4, .slice A5 n5 c5] (0, 0) _ HT.out.2 Tryz.underlying27 rfl (by kernel_rfl) ?_)
      refine (HCP.out _ HT.out.1 HMC.out).mono ?_
      rintro e w6 ⟨L6, rfl, hc6, hcr6, hb6⟩
      have H6 := Lib.hid (And.intro hc6 (And.intro hcr6 (bl HT.out.1 hb6)))
      have hk6 := HT.out.2.below hb6 HT.out.2.lt
      clear hc6 hcr6 hb6
      have HK6 := Lib.hid hk6
      clear hk6
      go_wp2_with fail
      refine (showB_c L6 C _ H6.out.1 HOK.out HMC.out H6.out.2.1 (HG.out _ H6.out.2.2)).mono ?_
      rintro e w7 ⟨rfl, hb7⟩
      have HT7 := Lib.hid (And.intro (bl H6.out.2.2 hb7) (HK6.out.below hb7 HK6.out.lt))
      clear hb7
      rw [HX.out.1]
      unfold strV
      go_wp2_with fail
      refine (read_c X _ (by omega) (HG.out _ HT7.out.1)).mono ?_
      rintro e w8 ⟨hb8, ⟨k, c, L8, hr8, hc8, rfl, how⟩ | ⟨n, hr8, _⟩⟩
      rotate_left
      · exfalso
        obtain ⟨k0, h0⟩ := HX.out.2
        rw [h0] at hr8; cases hr8
      have hcc : c = C := by
        obtain ⟨k0, h0⟩ := HX.out.2
        rw [h0] at hr8
        injection hr8 with h1
        injection h1 with h1
        injection h1 with _ h2
        exact h2.symm
      have hc8' := hc8.trans hcc
      obtain ⟨E1, f1, E2, f2, E3, f3, E4, f4, E5, f5, hv8⟩ := own_vals how
      obtain ⟨p1, hp1⟩ : ∃ n, L8.fns.length = n := ⟨_, rfl⟩
      obtain ⟨p2, hp2⟩ : ∃ n, L8.casts.length = n := ⟨_, rfl⟩
      obtain ⟨p3, hp3⟩ : ∃ n, L8.nums.length = n := ⟨_, rfl⟩
      obtain ⟨p4, hp4⟩ : ∃ n, L8.texts.length = n := ⟨_, rfl⟩
      obtain ⟨p5, hp5⟩ : ∃ n, L8.types.length = n := ⟨_, rfl⟩
      rw [hp1, hp2, hp3, hp4, hp5] at hv8
      have hcr8 := CR.of_own how.own
      have hb8' := bl HT7.out.1 hb8
      have HEQ8 := Lib.hid (fun W (hb : Below w8.heap.size w8 W) => HEQ.out L8 W (bl hb8' hb) (hcr8.grow hb) hc8')
      have HSZ8 := Lib.hid (fun W (hb : Below w8.heap.size w8 W) => sizeB_c L8 C W hc8' HMC.out (hcr8.grow hb))
      have HHE8 := Lib.hid (fun W (hb : Below w8.heap.size w8 W) => heightB_c L8 C W hc8' HOK.out HMC.out (hcr8.grow hb))
      rw [hv8] at HEQ8 HSZ8 HHE8 ⊢
      obtain ⟨g8, hg8⟩ : ∃ x, w8.heap.size = x := ⟨_, rfl⟩
      have HKK := Lib.hid (And.intro hb8' (HT7.out.2.below hb8 HT7.out.2.lt))
      clear hb8 hb8' hr8 hcc hc8 hc8' how hcr8 hp1 hp2 hp3 hp4 hp5 hv8
      have HG8 := Lib.hid hg8
      clear hg8
      go_upto_region 8 with fail
      rw [HG8.out]
      obtain ⟨W9, hW9⟩ : ∃ W9, w8.alloc (.cells #[.slice E1 p1 f1, .slice E2 p2 f2, .slice E3 p3 f3, .slice E4 p4 f4, .slice E5 p5 f5] 27) = W9 := ⟨_, rfl⟩
      have hb9 : Below w8.heap.size w8 W9 := by rw [← hW9]; exact bal b0 _
      have k9 : Blk W9 g8 27 #[.slice E1 p1 f1, .slice E2 p2 f2, .slice E3 p3 f3, .slice E4 p4 f4, .slice E5 p5 f5] := by rw [← hW9]; exact bk HG8.out _ _
      have HK9 := Lib.hid (show Below w8.heap.size w8 W9 ∧ Below w.heap.size w W9 ∧ Blk W9 g0 27 #[.slice A1 n1 c1, .slice A2 n2 c2, .slice A3 n3 c3, .slice A4 n4 c4, .slice A5 n5 c5] ∧ Blk W9 g8 27 #[.slice E1 p1 f1, .slice E2 p2 f2, .slice E3 p3 f3, .slice E4 p4 f4, .slice E5 p5 f5] from ⟨hb9, bl HKK.out.1 hb9, HKK.out.2.below hb9 HKK.out.2.lt, k9⟩)
      clear hb9 k9
      rw [hW9]
      clear hW9
      refine wp_region_held_drew (S := (fun W' => Below W9.heap.size W9 W' ∧ Blk W' g0 27 #[.slice A1 n1 c1, .slice A2 n2 c2, .slice A3 n3 c3, .slice A4 n4 c4, .slice A5 n5 c5] ∧ Blk W' g8 27 #[.slice E1 p1 f1, .slice E2 p2 f2, .slice E3 p3 f3, .slice E4 p4 f4, .slice E5 p5 f5])) (by kernel_rfl) ?ss26 (fun hHeld => ?rr26)
      case ss26 => (try dsimp only); exact ⟨bdr b0 1, HK9.out.2.2.1.drewN 1, HK9.out.2.2.2.drewN 1⟩
      refine rgt 0 71 rfl rfl hHeld ?_
      try simp only [Act.put, rg1, rg2, rg3]
      refine rgt 1 72 rfl rfl hHeld ?_
      try simp only [Act.put, rg1, rg2, rg3]
      refine rgt 2 73 rfl rfl hHeld ?_
      try simp only [Act.put, rg1, rg2, rg3]
      refine rgt 3 74 rfl rfl hHeld ?_ (by intro wq hq; (try dsimp only at hq); exact exec_load_row _ _ g8 rfl _ #[.slice E1 p1 f1, .slice E2 p2 f2, .slice E3 p3 f3, .slice E4 p4 f4, .slice E5 p5 f5] (0, 0) _ hq.2.2 Tryz.underlying27 rfl (by kernel_rfl))
      try simp only [Act.put, rg1, rg2, rg3]
      refine rgt 4 75 rfl rfl hHeld ?_ (by intro wq hq; (try dsimp only at hq); exact exec_load_row _ _ g0 rfl _ #[.slice A1 n1 c1, .slice A2 n2 c2, .slice A3 n3 c3, .slice A4 n4 c4, .slice A5 n5 c5] (0, 0) _ hq.2.1 Tryz.underlying27 rfl (by kernel_rfl))
      try simp only [Act.put, rg1, rg2, rg3]
      refine rgc 5 (some 76) rfl (fun K hK => ?_)
      go_simp
      ((refine (HEQ8.out _ (bl HK9.out.1 hHeld.1)).mono ?_); rintro e wk5 ⟨rfl, hc5_⟩)
      refine hK.out _ _ ?ss32 (fun hHeld2 => ?rr32)
      case ss32 => (try dsimp only); exact ⟨bl hHeld.1 hc5_, hHeld.2.1.below hc5_ hHeld.2.1.lt, hHeld.2.2.below hc5_ hHeld.2.2.lt⟩
      clear hK K
      clear hHeld
      have hHeld := hHeld2
      clear hHeld2
      try simp only [Act.put, rg1, rg2, rg3]
      refine rgt 6 77 rfl rfl hHeld ?_
      try simp only [Act.put, rg1, rg2, rg3]
      refine rgt 7 78 rfl rfl hHeld ?_
      try simp only [Act.put, rg1, rg2, rg3]
      refine rgt 8 79 rfl rfl hHeld ?_
      try simp only [Act.put, rg1, rg2, rg3]
      refine rgt 9 80 rfl rfl hHeld ?_ (by intro wq hq; (try dsimp only at hq); exact exec_load_row _ _ g8 rfl _ #[.slice E1 p1 f1, .slice E2 p2 f2, .slice E3 p3 f3, .slice E4 p4 f4, .slice E5 p5 f5] (0, 0) _ hq.2.2 Tryz.underlying27 rfl (by kernel_rfl))
      try simp only [Act.put, rg1, rg2, rg3]
      refine rgt 11 82 rfl rfl hHeld ?_ (by intro wq hq; (try dsimp only at hq); exact exec_load_row _ _ g0 rfl _ #[.slice A1 n1 c1, .slice A2 n2 c2, .slice A3 n3 c3, .slice A4 n4 c4, .slice A5 n5 c5] (0, 0) _ hq.2.1 Tryz.underlying27 rfl (by kernel_rfl))
      try simp only [Act.put, rg1, rg2, rg3]
      refine rgc 10 (some 81) rfl (fun K hK => ?_)
      go_simp
      ((refine (HSZ8.out _ (bl HK9.out.1 hHeld.1)).mono ?_); rintro e wk10 ⟨rfl, hc10_⟩)
      refine hK.out _ _ ?ss38 (fun hHeld2 => ?rr38)
      case ss38 => (try dsimp only); exact ⟨bl hHeld.1 hc10_, hHeld.2.1.below hc10_ hHeld.2.1.lt, hHeld.2.2.below hc10_ hHeld.2.2.lt⟩
      clear hK K
      clear hHeld
      have hHeld := hHeld2
      clear hHeld2
      try simp only [Act.put, rg1, rg2, rg3]
      refine rgc 12 (some 83) rfl (fun K hK => ?_)
      go_simp
      ((refine (HCP.out _ (bl HK9.out.2.1 hHeld.1) HMC.out).mono ?_); rintro e wk12 ⟨Lx, rfl, hcx, hcrx, hc12_⟩; have HX12 := Lib.hid (And.intro hcx hcrx); clear hcx hcrx)
      refine hK.out _ _ ?ss39 (fun hHeld2 => ?rr39)
      case ss39 => (try dsimp only); exact ⟨bl hHeld.1 hc12_, hHeld.2.1.below hc12_ hHeld.2.1.lt, hHeld.2.2.below hc12_ hHeld.2.2.lt⟩
      clear hK K
      clear hHeld
      have hHeld := hHeld2
      clear hHeld2
      try simp only [Act.put, rg1, rg2, rg3]
      refine rgc 13 (some 84) rfl (fun K hK => ?_)
      go_simp
      ((refine (sizeB_c Lx C _ HX12.out.1 HMC.out HX12.out.2).mono ?_); rintro e wk13 ⟨rfl, hc13_⟩)
      refine hK.out _ _ ?ss40 (fun hHeld2 => ?rr40)
      case ss40 => (try dsimp only); exact ⟨bl hHeld.1 hc13_, hHeld.2.1.below hc13_ hHeld.2.1.lt, hHeld.2.2.below hc13_ hHeld.2.2.lt⟩
      clear hK K
      clear hHeld
      have hHeld := hHeld2
      clear hHeld2
      try simp only [Act.put, rg1, rg2, rg3]
      refine rgt 14 85 rfl rfl hHeld ?_
      try simp only [Act.put, rg1, rg2, rg3]
      refine rgt 15 86 rfl rfl hHeld ?_
      try simp only [Act.put, rg1, rg2, rg3]
      refine rgt 16 87 rfl rfl hHeld ?_
      try simp only [Act.put, rg1, rg2, rg3]
      refine rgt 17 88 rfl rfl hHeld ?_ (by intro wq hq; (try dsimp only at hq); exact exec_load_row _ _ g8 rfl _ #[.slice E1 p1 f1, .slice E2 p2 f2, .slice E3 p3 f3, .slice E4 p4 f4, .slice E5 p5 f5] (0, 0) _ hq.2.2 Tryz.underlying27 rfl (by kernel_rfl))
      try simp only [Act.put, rg1, rg2, rg3]
      refine rgt 19 90 rfl rfl hHeld ?_ (by intro wq hq; (try dsimp only at hq); exact exec_load_row _ _ g0 rfl _ #[.slice A1 n1 c1, .slice A2 n2 c2, .slice A3 n3 c3, .slice A4 n4 c4, .slice A5 n5 c5] (0, 0) _ hq.2.1 Tryz.underlying27 rfl (by kernel_rfl))
      try simp only [Act.put, rg1, rg2, rg3]
      refine rgc 18 (some 89) rfl (fun K hK => ?_)
      go_simp
      ((refine (HHE8.out _ (bl HK9.out.1 hHeld.1)).mono ?_); rintro e wk18 ⟨rfl, hc18_⟩)
      refine hK.out _ _ ?ss46 (fun hHeld2 => ?rr46)
      case ss46 => (try dsimp only); exact ⟨bl hHeld.1 hc18_, hHeld.2.1.below hc18_ hHeld.2.1.lt, hHeld.2.2.below hc18_ hHeld.2.2.lt⟩
      clear hK K
      clear hHeld
      have hHeld := hHeld2
      clear hHeld2
      try simp only [Act.put, rg1, rg2, rg3]
      refine rgc 20 (some 91) rfl (fun K hK => ?_)
      go_simp
      ((refine (HCP.out _ (bl HK9.out.2.1 hHeld.1) HMC.out).mono ?_); rintro e wk20 ⟨Ly, rfl, hcy, hcry, hc20_⟩; have HX20 := Lib.hid (And.intro hcy hcry); clear hcy hcry)
      refine hK.out _ _ ?ss47 (fun hHeld2 => ?rr47)
      case ss47 => (try dsimp only); exact ⟨bl hHeld.1 hc20_, hHeld.2.1.below hc20_ hHeld.2.1.lt, hHeld.2.2.below hc20_ hHeld.2.2.lt⟩
      clear hK K
      clear hHeld
      have hHeld := hHeld2
      clear hHeld2
      try simp only [Act.put, rg1, rg2, rg3]
      refine rgc 21 (some 92) rfl (fun K hK => ?_)
      go_simp
      ((refine (heightB_c Ly C _ HX20.out.1 HOK.out HMC.out HX20.out.2).mono ?_); rintro e wk21 ⟨rfl, hc21_⟩)
      refine hK.out _ _ ?ss48 (fun hHeld2 => ?rr48)
      case ss48 => (try dsimp only); exact ⟨bl hHeld.1 hc21_, hHeld.2.1.below hc21_ hHeld.2.1.lt, hHeld.2.2.below hc21_ hHeld.2.2.lt⟩
      clear hK K
      clear hHeld
      have hHeld := hHeld2
      clear hHeld2
      try simp only [Act.put, rg1, rg2, rg3]
      refine rgt 22 93 rfl rfl hHeld ?_
      try simp only [Act.put, rg1, rg2, rg3]
      refine rgt 23 94 rfl rfl hHeld ?_
      try simp only [Act.put, rg1, rg2, rg3]
      refine wpAnyH_done (by kernel_rfl) ?_ _
      have HF := Lib.hid (bl HK9.out.2.1 hHeld.1)
      clear hHeld
      have HCAT := Lib.hid (cat_bytes X [10])
      by_cases hne : X = []
      · subst hne
        go_wp2_with fail
        refine (readBad_c [10] _ (by decide) (HG.out _ HF.out) HMORE.out).mono ?_
        rintro e w20 ⟨q, rfl, hq, hb20⟩
        unfold nilV
        have HF20 := Lib.hid (bl HF.out hb20)
        clear hb20
        go_wp2_with fail
        refine (lives_c _ (HG.out _ (bal HF20.out _))).mono ?_
        rintro e w21 ⟨rfl, hb21⟩
        go_wp2_with fail
        go_ret
        exact ⟨rfl, bl (bal HF20.out _) hb21⟩
      · have hpos : 0 < X.length := List.length_pos_iff.2 hne
        have hzX := str_size X
        have hext := ext_at X 0 (X.length - 1)
        go_wp2_with fail
        refine (readBad_c (X.take (X.length - 1)) _ (by rw [List.length_take]; omega) (HG.out _ HF.out) (HLESS.out hne)).mono ?_
        rintro e w18 ⟨q, rfl, hq, hb18⟩
        unfold nilV
        have HF18 := Lib.hid (bal (bl HF.out hb18) (.cells #[.slice none 0 0, .slice none 0 0, .slice none 0 0, .slice none 0 0, .slice none 0 0] 27))
        clear hb18 hext HF
        have HF := HF18
        clear HF18
        generalize hXs : (⟨X.toArray⟩ : ByteArray) = Xs
        have hXz : Xs.size ≤ 13107200 := by rw [← hXs, str_size]; exact hlX
        have HXS := Lib.hid hXs
        clear hXs hzX
        go_wp2_with fail
        rw [← HXS.out, HCAT.out]
        refine (readBad_c (X ++ [10]) _ (by rw [List.length_append]; simp only [List.length_cons, List.length_nil]; omega) (HG.out _ HF.out) HMORE.out).mono ?_
        rintro e w20 ⟨q, rfl, hq, hb20⟩
        unfold nilV
        have HF20 := Lib.hid (bl HF.out hb20)
        clear hb20
        go_wp2_with fail
        refine (lives_c _ (HG.out _ (bal HF20.out _))).mono ?_
        rintro e w21 ⟨rfl, hb21⟩
        go_wp2_with fail
        go_ret
        exact ⟨rfl, bl (bal HF20.out _) hb21⟩
end Go.Proofs.YtobplngonkdbpaaGreatDoor.D

/- RowsIn -/
namespace Go.Proofs.YtobplngonkdbpaaGreatDoor.D
open Go.RowKit Go.Proofs.YtobplngonkdbpaaGreatDoor.B Go.ChangeShapes Go.WideShapes Go.Deep
set_option linter.unusedVariables false

theorem wts_mem {H : Type} {P : Program} {e : TypeId} {d : DataW H} {n : Nat} : ∀ {ds : List (DataW H)}, d ∈ ds → n ∈ d.weights P e → n ∈ DataW.weightsAll P e ds
  | [], h, _ => by simp at h
  | x :: r, h, hn => by
    simp only [DataW.weightsAll, List.mem_append]
    rcases List.mem_cons.1 h with rfl | h
    · exact .inl hn
    · exact .inr (wts_mem h hn)
theorem flat_at2 {α : Type} (f : α → List Value) (sz : Nat) (hf : ∀ a, (f a).length = sz) : ∀ (l : List α) (k j : Nat) (a : α), l[k]? = some a → j < sz → (l.flatMap f)[k * sz + j]? = (f a)[j]?
  | [], k, j, a, h, _ => by simp at h
  | x :: l, 0, j, a, h, hj => by
    rw [List.getElem?_cons_zero] at h
    injection h with h
    subst h
    rw [List.flatMap_cons, Nat.zero_mul, Nat.zero_add, List.getElem?_append_left (by rw [hf]; exact hj)]
  | x :: l, k + 1, j, a, h, hj => by
    rw [List.getElem?_cons_succ] at h
    rw [List.flatMap_cons, List.getElem?_append_right (by rw [hf, Nat.succ_mul]; omega), hf, show (k + 1) * sz + j - sz = k * sz + j by rw [Nat.succ_mul]; omega]
    exact flat_at2 f sz hf l k j a h hj
theorem flat_len {α : Type} (cells : α → List Value) {sz : Nat} (hcl : ∀ a, (cells a).length = sz) : ∀ l : List α, (l.flatMap cells).length = l.length * sz
  | [] => by simp
  | a :: l => by rw [List.flatMap_cons, List.length_append, hcl, flat_len cells hcl l, List.length_cons, Nat.succ_mul, Nat.add_comm]
/-- A slice of rows that came in. -/
theorem open_rows {H : Type} {enc : TypeId × Value → H} {W : World} {α : Type} [Inhabited α] {P : Program} {st et : TypeId} {sz bs : Nat} (hu : P.underlying st = some (.slice et)) (hc : P.cellsOf et = sz) (hb : P.bytesOf et = bs) (hbs : 0 < bs) (hs0 : 0 < sz)
    (cells : α → List Value) (hcl : ∀ a, (cells a).length = sz) (Q : α → Prop)
    (one : ∀ {fuel : Nat} {cs : List Value} {x : DataW H × List MemPlace}, DataW.trod enc P W 0 (fun _ => true) true fuel et cs = some x → (∀ n ∈ x.1.weights P et, n ≤ reachBytes) → ∃ a, cs = cells a ∧ Q a)
    {fuel : Nat} {v : Value} {x : DataW H × List MemPlace} (h : DataW.trod enc P W 0 (fun _ => true) true fuel st [v] = some x) (hsz : ∀ n ∈ x.1.weights P st, n ≤ reachBytes) :
    ∃ l : List α, Rs W sz v l.length (l.flatMap cells) ∧ (∀ a ∈ l, Q a) ∧ l.length ≤ reachBytes := by
  rcases open_slice hu h with ⟨hcs, hx⟩ | ⟨a, len, cap, m, n, D, Pl, hcs, _, hl, hm, hmm, hx, hi⟩
  · simp only [List.cons.injEq, and_true] at hcs
    subst hcs
    exact ⟨[], ⟨none, 0, rfl, Nat.le_refl _, by unfold maxLen; omega, Sl.nil _ _ _ _⟩, by simp, by simp⟩
  · simp only [List.cons.injEq, and_true] at hcs
    subst hcs
    have hle : len ≤ m := by rw [hmm]; simpa using hl
    have hx1 : x.1 = .slice ((List.range len).map D) ((List.range (m - len)).map fun j => D (len + j)) := by rw [hx]
    rw [hx1] at hsz
    simp only [DataW.weights, hu, List.mem_cons, List.mem_append, hb, List.length_map, List.length_range] at hsz
    have hlen := hsz _ (.inl rfl)
    have hlen2 : len ≤ reachBytes := Nat.le_trans (Nat.le_mul_of_pos_right len hbs) (Nat.le_trans (Nat.mul_le_mul_right bs hle) (by first | exact hlen | (have := hlen; simpa [Nat.add_sub_cancel' hle] using this)))
    have key : ∀ i, i < len → ∃ s : α, Q s ∧ ∀ j, j < sz → W.cell? (a.add (i * sz + j)) = (cells s)[j]? := by
      intro i hil
      obtain ⟨cs', hc', ht⟩ := hi i (by omega)
      rw [hc] at hc'
      obtain ⟨_, hcl', hat⟩ := World.cells?_some hc'
      have hd : D i ∈ (List.range len).map D := List.mem_map.2 ⟨i, List.mem_range.2 hil, rfl⟩
      obtain ⟨s, rfl, hq⟩ := one ht (fun n hn => hsz _ (.inr (.inl (wts_mem hd hn))))
      refine ⟨s, hq, fun j hj => ?_⟩
      rw [← Go.Deep.add_add, hat j hj]
    obtain ⟨f, hf⟩ := choose_lt key
    refine ⟨(List.range len).map f, ?_, ?_, by simpa using hlen2⟩
    · refine ⟨some a, cap, by simp, by simpa using hl, hm, by rw [flat_len cells hcl], ?_⟩
      rcases Nat.eq_zero_or_pos len with h0 | h0
      · exact .inl (by simpa using h0)
      · right
        obtain ⟨b, o, spot⟩ := a
        have hc0 := (hf 0 h0).2 0 hs0
        obtain ⟨v0, hv0⟩ : ∃ v0, (cells (f 0))[0]? = some v0 := ⟨_, List.getElem?_eq_getElem (by rw [hcl]; exact hs0)⟩
        rw [hv0] at hc0
        have hspot : spot = none := by simpa [Addr.add] using World.cell?_spot hc0
        subst hspot
        refine ⟨b, o, rfl, by have := World.block_lt_of_cell? W _ hc0; simpa [Addr.add] using this, fun j u hj => ?_⟩
        have hjl : j < len * sz := by
          have := (List.getElem?_eq_some_iff.1 hj).1
          rw [flat_len cells hcl] at this; simpa using this
        have hk : j / sz < len := Nat.div_lt_of_lt_mul (by rw [Nat.mul_comm]; exact hjl)
        have hr : j % sz < sz := Nat.mod_lt _ hs0
        have he : j / sz * sz + j % sz = j := by rw [Nat.mul_comm]; exact Nat.div_add_mod j sz
        have h1 := (hf (j / sz) hk).2 (j % sz) hr
        rw [add_flat, he] at h1
        rw [h1, ← flat_at2 cells sz hcl ((List.range len).map f) (j / sz) (j % sz) (f (j / sz)) (by rw [List.getElem?_map, List.getElem?_range hk]; rfl) hr, he, hj]
    · intro s hs
      obtain ⟨i, hi, rfl⟩ := List.mem_map.1 hs
      exact (hf i (List.mem_range.1 hi)).1
end Go.Proofs.YtobplngonkdbpaaGreatDoor.D
