/- Parts of this claim: BgC, BagV. -/
import Derived.Test.YtobplngonkdbpaaGreatDoorP11
import Derived.Test.YtobplngonkdbpaaGreatDoorP01
set_option linter.unusedVariables false
set_option linter.unusedSimpArgs false
/- BgC -/
namespace Go.Proofs.YtobplngonkdbpaaGreatDoor.B
open Go.RowKit
set_option linter.unusedSimpArgs false
set_option linter.unusedVariables false
theorem infoECos : (Tryz.prog.info? 86).map (fun i => (i.zero, i.size, i.bytes)) = some (some (.agg #[.int .i8 0, .int .i64 0, .bool false, .int .u8 0, .int .i64 0, .int .u8 0, .int .u8 0]), 7, 40) := by kernel_rfl
theorem infoQCos : (Tryz.prog.info? 82).map (fun i => (i.zero, i.size, i.bytes)) = some (some (.slice none 0 0), 1, 24) := by kernel_rfl
/-- A mark. -/
def markO (n i : Nat) : List Value := [.int .i8 0, .int .i64 0, .bool false, .int .u8 0, .int .i64 (1048576 * (n : Int) + i + 1), .int .u8 0, .int .u8 0]
theorem markO_len (n i : Nat) : (markO n i).length = 7 := rfl
set_option maxRecDepth 100000 in
set_option maxHeartbeats 2000000 in
theorem apartCos_any (gb base K : Nat) (ob oc : Nat) (vs : Nat -> Value) (ns : Nat -> Nat) (w : World) (hS : Shelfed gb 6 K w ob oc vs w) (hg : gb < w.heap.size) (hob : ob < w.heap.size)
  (h1 : ∀ m, m < K -> (vs m).ownBlock ≠ some gb) (h2 : ∀ m, m < K -> (vs m).ownBlock ≠ some ob) (hv : ∀ m, m < K -> ∃ xs, w.ownsRow base 86 7 (vs m) (ns m) xs) (hap : ∀ i j, i < K -> j < K -> i ≠ j -> Ap (vs i) (vs j))
  (hbs : base <= w.heap.size) (hK : K <= 300) (hns : ∀ m, m < K -> ns m <= 1099511627) :
  Calls Tryz.prog 67 #[.pointer (some ⟨gb, 0, none⟩)] w fun e w' => e = .returned (.bool true) /\ But (fun k => ∃ m, m < K /\ (vs m).ownBlock = some k) w w' := by
 have HS := Lib.hid fun (W : World) (hb : But (fun k => ∃ m, m < K /\ (vs m).ownBlock = some k) w W) => shelfed_but hS hg hob h1 h2 hb
 have HM := Lib.hid (B1.start (M := markO) hv)
 have HNS := Lib.hid hns
 have HAP := Lib.hid hap
 have hLT : ∀ m, m < K -> ∀ b, (vs m).ownBlock = some b -> b < w.heap.size := fun m hm b hb => by
  obtain ⟨xs, hx⟩ := hv m hm; exact (hx.lt b hb).2
 have HLT := Lib.hid hLT
 have hc0 := hS.c
 clear hv hap h1 h2 hS hns hLT
 go_enter Tryz.func67, Tryz.ntmps67
 go_wp2_with fail
 go_loopg [3] K (fun q i wr => ∃ k : Nat, k <= K /\ q = K - k /\ i = .int .i64 k /\ B1 base 86 7 K vs ns markO w wr k 0)
 case atStart => exact ⟨0, by omega, rfl, rfl, HM.out⟩
 case round =>
  obtain ⟨k, hk, rfl, rfl, hB⟩ := hrel
  obtain ⟨sc, se⟩ := HS.out _ hB.but
  by_cases hkK : k < K
  ·
   obtain ⟨A, c, hv, hnc, hcm, hat⟩ := hB.at_ hkK
   have se1 := se k hkK
   rw [hv] at se1
   have HB := Lib.hid hB
   have hn := HNS.out k hkK
   clear hat se hB
   obtain ⟨nk, hnk⟩ : ∃ n, ns k = n := ⟨_, rfl⟩
   rw [hnk] at hv hnc hn se1
   have HV := Lib.hid hv
   have HN := Lib.hid hnk
   clear hv hnk
   go_wp2_with fail
   go_loopg [4] nk (fun q i wr => ∃ j : Nat, j <= nk /\ q = nk - j /\ i = .int .i64 j /\ B1 base 86 7 K vs ns markO w wr k j)
   case atStart => exact ⟨0, by omega, rfl, rfl, HB.out⟩
   case round =>
    obtain ⟨j, hj, rfl, rfl, hB⟩ := hrel
    obtain ⟨sc, se⟩ := HS.out _ hB.but
    have se1 := se k hkK
    rw [HV.out] at se1
    by_cases hjn : j < nk
    ·
     obtain ⟨A', c', hv', _, _, hat⟩ := hB.at_ hkK
     have hnk := HN.out
     obtain ⟨g, hA, hbg, hgw, hth⟩ := hat (by omega)
     rw [HV.out] at hv'
     injection hv' with e1 e2 e3
     subst e1 e3 hA
     obtain ⟨o0, t0⟩ := Option.isSome_iff_exists.1 (hth 0 (by omega)).1
     obtain ⟨o1, t1⟩ := Option.isSome_iff_exists.1 (hth 1 (by omega)).1
     obtain ⟨o2, t2⟩ := Option.isSome_iff_exists.1 (hth 2 (by omega)).1
     obtain ⟨o3, t3⟩ := Option.isSome_iff_exists.1 (hth 3 (by omega)).1
     obtain ⟨o4, t4⟩ := Option.isSome_iff_exists.1 (hth 4 (by omega)).1
     obtain ⟨o5, t5⟩ := Option.isSome_iff_exists.1 (hth 5 (by omega)).1
     obtain ⟨o6, t6⟩ := Option.isSome_iff_exists.1 (hth 6 (by omega)).1
     have r0 := (hth 0 (by omega)).2
     have r1 := (hth 1 (by omega)).2
     have r2 := (hth 2 (by omega)).2
     have r3 := (hth 3 (by omega)).2
     have r4 := (hth 4 (by omega)).2
     have r5 := (hth 5 (by omega)).2
     have r6 := (hth 6 (by omega)).2
     rw [Nat.add_zero] at t0 r0
     have hnum := fun W => (bnum_any k j W (by omega) (by omega) (by omega) (by omega))
     have HB2 := Lib.hid hB
     clear hB hth se hat hnk e2
     go_wp2_with fail
     go_region_with (go_at_call 90; refine (hnum _).mono ?_; rintro e w' ⟨rfl, rfl⟩)
     all_goals
      go_wp2_with fail
      go_roundg (nk - (j + 1))
      case measure => omega
      case rel => exact ⟨j + 1, by omega, rfl, by go_num, (HB2.out.mark markO_len hkK (by rw [HN.out]; exact hjn) HAP.out HV.out).drew⟩
    ·
     obtain rfl : j = nk := by omega
     have HB2 := Lib.hid hB
     clear hB se
     go_wp2_with fail
     go_roundg (K - (k + 1))
     case measure => omega
     case rel => exact ⟨k + 1, by omega, rfl, by go_num, by have := HB2.out; rw [<- HN.out] at this; exact this.next⟩
  ·
   obtain rfl : K = k := by omega
   have HB2 := Lib.hid (hB.done (T1 := 82) hB.but.size)
   clear hB se hc0 HM
   go_wp2_with fail
   go_loopg [5, 6, 7] K (fun q a b i wr => ∃ n : Nat, n <= K /\ q = K - n /\ i = .int .i64 n /\ ∃ one more os ms, one = a /\ more = b /\ B2 base 82 86 7 K vs ns markO w wr n n n one more os ms)
   case atStart => exact ⟨0, by omega, rfl, rfl, _, _, [], [], rfl, rfl, HB2.out⟩
   clear HB2
   case round =>
    obtain ⟨n, hn, rfl, rfl, one, more, os, ms, rfl, rfl, hB⟩ := hrel
    obtain ⟨sc, se⟩ := HS.out _ hB.but
    by_cases hnK : n < K
    ·
     obtain ⟨A, c, hv, hnc, hcm⟩ := (hB.v n hnK).form
     have se1 := se n hnK
     have HV := Lib.hid hv
     rw [hv] at se1
     have hlen := HNS.out n hnK
     have HL0 := Lib.hid (BL.start hB hnK HLT.out HAP.out)
     have HB0 := Lib.hid hB.enter
     rw [hv] at HL0
     clear hv hB se
     go_wp2_with fail
     go_loopg [5, 8, 9] 70 (fun q a b i wr => ∃ j : Nat, j <= 70 /\ q = 70 - j /\ i = .int .i64 (ns n + j : Nat) /\ ∃ one l p os, one = a /\ l = b /\ Hid (p = n /\ j = 0 \/ p = n + 1 /\ 0 < j) /\
      B2 base 82 86 7 K vs ns markO w wr n p (n + 1) one more os ms /\ BL base 86 7 K vs ns markO w wr n j l one more os ms)
     case atStart => exact ⟨0, by omega, rfl, by go_num, _, _, n, os, rfl, rfl, Lib.hid (.inl ⟨rfl, rfl⟩), HB0.out, HL0.out⟩
     clear HB0 HL0
     case round =>
      obtain ⟨j, hj, rfl, rfl, one, l, p, os, rfl, rfl, HP, hB, hL⟩ := hrel
      obtain ⟨sc, se⟩ := HS.out _ hB.but
      have se1 := se n hnK
      rw [HV.out] at se1
      by_cases hj70 : j < 70
      ·
       obtain ⟨Al, cl, rfl, hl1, hl2⟩ := own_shape hL.own
       have hnum := fun W => (bnum_any n (ns n + j : Nat) W (by omega) (by omega) (by omega) (by omega))
       have hxj : ((ns n + j : Nat) : Int) = (ns n : Int) + j := by omega
       rw [hxj] at hnum
       have HBl := Lib.hid hL
       have HBb := Lib.hid hB
       have hsz := hB.but.size
       clear hB hL se
       obtain ⟨i0, hi0, hz0, hz1, hz2⟩ := info_parts3 infoECos
       go_wp2_with fail
       refine (hnum _).mono ?_
       rintro e w' ⟨rfl, rfl⟩
       have hBa := HBl.out.grow (Below.alloc (Below.refl _ _) (Nat.le_refl _) (.cells #[.int .i8 0, .int .i64 0, .bool false, .int .u8 0, .int .i64 (1048576 * (n : Int) + ((ns n : Int) + j) + 1), .int .u8 0, .int .u8 0] 86))
       have HBc := Lib.hid (HBb.out.grow (Below.alloc (Below.refl _ _) (Nat.le_refl _) (.cells #[.int .i8 0, .int .i64 0, .bool false, .int .u8 0, .int .i64 (1048576 * (n : Int) + ((ns n : Int) + j) + 1), .int .u8 0, .int .u8 0] 86)))
       have hown0 := hBa.own
       have HBd := Lib.hid hBa
       have hbase : base <= (wr.alloc (.cells #[.int .i8 0, .int .i64 0, .bool false, .int .u8 0, .int .i64 (1048576 * (n : Int) + ((ns n : Int) + j) + 1), .int .u8 0, .int .u8 0] 86)).heap.size := by
        simp; omega
       clear hBa
       go_wp2_with (at_builtin; refine wpList_append_fine _ rfl (.tmp 79) (.tmp 84) 82 rfl base 86 i0 _ 7 40 Tryz.underlying82 hi0 hz0 hz1 hz2 rfl _ (ns n + j) _ rfl hown0 (wr.heap.size + 1) _ 1 1 [.int .i8 0, .int .i64 0, .bool false, .int .u8 0, .int .i64 (1048576 * (n : Int) + ((ns n : Int) + j) + 1), .int .u8 0, .int .u8 0] rfl (D.Sl.fresh _ _ 7 _ rfl) ?_ ?_ ?_ ?_ ?_ ?_)
       ·
        intro u hu
        simp only [List.mem_cons, List.not_mem_nil, or_false] at hu
        rcases hu with rfl | rfl | rfl | rfl | rfl | rfl | rfl <;> rfl
       · omega
       · unfold maxLen; omega
       · omega
       · exact hbase
       intro l1 w1 hown1 ht1
       have hmk : markO n (ns n + j) = [.int .i8 0, .int .i64 0, .bool false, .int .u8 0, .int .i64 (1048576 * (n : Int) + ((ns n : Int) + j) + 1), .int .u8 0, .int .u8 0] := by unfold markO; rw [hxj]
       rw [<- hmk] at hown1
       have hrow := HBc.out.onRow HBd.out hnK (HP.out.imp And.left id) (by omega) hown1 ht1 (by simp; omega)
       obtain ⟨Al1, cl1, rfl, hl3, hl4⟩ := own_shape hown1
       obtain ⟨sc1, se1'⟩ := HS.out _ hrow.1.but
       have se2 := se1' n hnK
       rw [HV.out] at se2
       have hsz1 := hrow.1.but.size
       by_cases hj0 : j = 0
       ·
        subst hj0
        obtain ⟨rfl, _⟩ : p = n /\ 0 = 0 := by rcases HP.out with h | h; exact h; omega
        obtain ⟨i1, hi1, hy0, hy1, hy2⟩ := info_parts3 infoQCos
        obtain ⟨Ao, co, rfl, ho1, ho2⟩ := own_shape hrow.1.hone
        have hgr : Below w1.heap.size w1 (w1.alloc (.cells #[.slice Al1 (ns p + 0 + 1) cl1] 82)) := Below.alloc (Below.refl _ _) (Nat.le_refl _) _
        have HB1 := Lib.hid (hrow.1.grow hgr)
        have HL1 := Lib.hid ((hrow.2.1 rfl).grow hgr)
        have hone1 := HB1.out.hone
        clear hrow se1' hown1 ht1 HBc HBd HBl HBb hmk hown0 hgr
        have s1 : ∀ u ∈ [Value.slice Al1 (ns p + 0 + 1) cl1], u.oneCell' = true := by intro u hu; simp at hu; subst hu; rfl
        have s2 : p + 1 <= maxLen := by unfold maxLen; omega
        have s3 : (p + 1) * 24 <= 140737488355328 := by omega
        have s4 : w.heap.size <= (w1.alloc (.cells #[.slice Al1 (ns p + 0 + 1) cl1] 82)).heap.size := by simp; omega
        have S1 := Lib.hid s1
        clear s1
        go_wp2_with (at_builtin; refine wpList_append_fine _ rfl (.tmp 96) (.tmp 98) 46 rfl w.heap.size 82 i1 _ 1 24 Tryz.underlying46 hi1 hy0 hy1 hy2 rfl _ p _ rfl hone1 (w1.heap.size + 1) _ 1 1 [.slice Al1 (ns p + 0 + 1) cl1] rfl (Sl.one _ _ _) S1.out Nat.one_pos s2 s3 s4 ?_)
        clear s2 s3 s4 S1
        intro o1 w2 hown2 ht2
        have hfin := HB1.out.onOne HL1.out hnK HLT.out hown2 ht2
        have HF := Lib.hid hfin
        clear hfin hown2 ht2 hone1
        go_wp2_with fail
        go_roundg (70 - (0 + 1))
        case measure => omega
        case rel => exact ⟨0 + 1, by omega, rfl, by go_num, o1, .slice Al1 (ns p + 0 + 1) cl1, p + 1, _, rfl, rfl, Lib.hid (.inr ⟨rfl, by omega⟩), HF.out.1, HF.out.2⟩
       ·
        obtain ⟨rfl, hj1⟩ : p = n + 1 /\ 0 < j := by rcases HP.out with h | h; omega; exact h
        have HF := Lib.hid (And.intro hrow.1 (hrow.2.2 rfl))
        clear hrow se1' hown1 ht1 HBc HBd HBl HBb hmk hown0
        go_wp2_with fail
        go_roundg (70 - (j + 1))
        case measure => omega
        case rel => exact ⟨j + 1, by omega, rfl, by go_num, one, .slice Al1 (ns n + j + 1) cl1, n + 1, os, rfl, rfl, Lib.hid (.inr ⟨rfl, by omega⟩), HF.out.1, HF.out.2⟩
      ·
       obtain rfl : j = 70 := by omega
       obtain rfl : p = n + 1 := by rcases HP.out with h | h; omega; exact h.1
       obtain ⟨i1, hi1, hy0, hy1, hy2⟩ := info_parts3 infoQCos
       obtain ⟨Al, cl, rfl, hl1, hl2⟩ := own_shape hL.own
       obtain ⟨Am, cm, rfl, hm1, hm2⟩ := own_shape hB.hmore
       have hgr : Below wr.heap.size wr (wr.alloc (.cells #[.slice Al (ns n + 70) cl] 82)) := Below.alloc (Below.refl _ _) (Nat.le_refl _) _
       have HB1 := Lib.hid (hB.grow hgr)
       have HL1 := Lib.hid (hL.grow hgr)
       have hmore1 := HB1.out.hmore
       have hsz1 := hB.but.size
       have s1 : ∀ u ∈ [Value.slice Al (ns n + 70) cl], u.oneCell' = true := by intro u hu; simp at hu; subst hu; rfl
       have s2 : n + 1 <= maxLen := by unfold maxLen; omega
       have s3 : (n + 1) * 24 <= 140737488355328 := by omega
       have s4 : w.heap.size <= (wr.alloc (.cells #[.slice Al (ns n + 70) cl] 82)).heap.size := by simp; omega
       have S1 := Lib.hid s1
       clear s1 hB hL se hgr
       go_wp2_with (at_builtin; refine wpList_append_fine _ rfl (.tmp 100) (.tmp 102) 46 rfl w.heap.size 82 i1 _ 1 24 Tryz.underlying46 hi1 hy0 hy1 hy2 rfl _ n _ rfl hmore1 (wr.heap.size + 1) _ 1 1 [.slice Al (ns n + 70) cl] rfl (Sl.one _ _ _) S1.out Nat.one_pos s2 s3 s4 ?_)
       clear s2 s3 s4 S1
       intro o1 w2 hown2 ht2
       have HF := Lib.hid (HB1.out.onMore HL1.out hnK HLT.out hown2 ht2)
       clear hown2 ht2 hmore1
       go_wp2_with fail
       go_roundg (K - (n + 1))
       case measure => omega
       case rel => exact ⟨n + 1, by omega, rfl, by go_num, one, o1, os, _, rfl, rfl, HF.out⟩
    ·
     obtain rfl : K = n := by omega
     obtain ⟨wz, rfl⟩ : ∃ x : World, x = wr := ⟨_, rfl⟩
     obtain ⟨Am, cm, rfl, hm1, hm2⟩ := own_shape hB.hmore
     obtain ⟨Ao, co, rfl, ho1, ho2⟩ := own_shape hB.hone
     have HB := Lib.hid hB
     have HBut := Lib.hid hB.but
     have HM := Lib.hid (Rd.of_own hB.hmore)
     have HO := Lib.hid (Rd.of_own hB.hone)
     have hszr := hB.but.size
     clear hB se
     go_wp2_with fail
     go_loopg [10] K (fun q i W => ∃ n : Nat, n <= K /\ q = K - n /\ i = .int .i64 n /\ Below wz.heap.size wz W)
     case atStart => exact ⟨0, by omega, rfl, rfl, Below.refl _ _⟩
     case round =>
      obtain ⟨n, hn, rfl, rfl, hbw⟩ := hrel
      by_cases hnK : n < K
      ·
       obtain ⟨bm, rfl, lm, x, hx, cx⟩ := HM.out.cell (j := n) (by omega)
       obtain ⟨bo, rfl, lo, y, hy, cy⟩ := HO.out.cell (j := n) (by omega)
       obtain ⟨hX, _⟩ := HB.out.m n hnK x hx
       obtain ⟨hY, _⟩ := HB.out.o n hnK y hy
       have hV := HB.out.v n hnK
       obtain ⟨A2, c2, rfl, hx1, hx2⟩ := hX.form
       obtain ⟨A1, c1, rfl, hy1, hy2⟩ := hY.form
       obtain ⟨A3, c3, hv3, hv1, hv2⟩ := hV.form
       have se1 : wz.cell? ⟨ob, n, none⟩ = some (.slice A3 (ns n) c3) := by rw [<- hv3]; exact (HS.out _ HBut.out).e n hnK
       rw [hv3] at hV
       have HX := Lib.hid hX
       have HY := Lib.hid hY
       have HV := Lib.hid hV
       have hlen := HNS.out n hnK
       have HF : Hid (∀ W, Below wz.heap.size wz W -> W.cell? ⟨gb, 6, none⟩ = some (.slice (some ⟨ob, 0, none⟩) K oc) /\ W.cell? ⟨bm, n, none⟩ = some (.slice A2 (ns n + 70) c2) /\ W.cell? ⟨bo, n, none⟩ = some (.slice A1 (ns n + 1) c1) /\ W.cell? ⟨ob, n, none⟩ = some (.slice A3 (ns n) c3)) :=
        Lib.hid fun W hb => ⟨(hb.cell (p := ⟨gb, 6, none⟩) (by show gb < _; omega)).trans sc, (hb.cell (p := ⟨bm, n, none⟩) lm).trans cx, (hb.cell (p := ⟨bo, n, none⟩) lo).trans cy, (hb.cell (p := ⟨ob, n, none⟩) (by show ob < _; omega)).trans se1⟩
       clear hX hY hV hv3 hx hy cx cy se1
       obtain ⟨f1, f2, f3, f4⟩ := HF.out _ hbw
       go_wp2_with fail
       go_loopg [11] (ns n + 70) (fun q i W => ∃ j : Nat, j <= ns n + 70 /\ q = ns n + 70 - j /\ i = .int .i64 j /\ Below wz.heap.size wz W)
       case atStart => exact ⟨0, by omega, rfl, rfl, hbw⟩
       clear f1 f2 f3 f4 hbw
       case round =>
        obtain ⟨j, hj, rfl, rfl, hbw⟩ := hrel
        obtain ⟨f1, f2, f3, f4⟩ := HF.out _ hbw
        by_cases hj70 : j < ns n + 70
        ·
         obtain ⟨b2, rfl, l2, v2⟩ := mark_cell (markO_len n) HX.out (i := j) hj70
         have HQ := Lib.hid (show ∀ W, Below wz.heap.size wz W -> W.cell? ⟨b2, j * 7, none⟩ = some (.int .i8 0) /\ W.cell? ⟨b2, j * 7 + 1, none⟩ = some (.int .i64 0) /\ W.cell? ⟨b2, j * 7 + 2, none⟩ = some (.bool false) /\ W.cell? ⟨b2, j * 7 + 3, none⟩ = some (.int .u8 0) /\ W.cell? ⟨b2, j * 7 + 4, none⟩ = some (.int .i64 (1048576 * (n : Int) + (j : Nat) + 1)) /\ W.cell? ⟨b2, j * 7 + 5, none⟩ = some (.int .u8 0) /\ W.cell? ⟨b2, j * 7 + 6, none⟩ = some (.int .u8 0) from fun W hb => ⟨(hb.cell (p := ⟨b2, j * 7, none⟩) l2).trans (v2 0 _ rfl), (hb.cell (p := ⟨b2, j * 7 + 1, none⟩) l2).trans (v2 1 _ rfl), (hb.cell (p := ⟨b2, j * 7 + 2, none⟩) l2).trans (v2 2 _ rfl), (hb.cell (p := ⟨b2, j * 7 + 3, none⟩) l2).trans (v2 3 _ rfl), (hb.cell (p := ⟨b2, j * 7 + 4, none⟩) l2).trans (v2 4 _ rfl), (hb.cell (p := ⟨b2, j * 7 + 5, none⟩) l2).trans (v2 5 _ rfl), (hb.cell (p := ⟨b2, j * 7 + 6, none⟩) l2).trans (v2 6 _ rfl)⟩)
         obtain ⟨q0, q1, q2, q3, q4, q5, q6⟩ := HQ.out _ hbw
         clear v2
         have hnum := fun W => (bnum_any n j W (by omega) (by omega) (by omega) (by omega)).mono (fun e w' h => And.intro h.1 h.2.symm)
         have HNUM := Lib.hid hnum
         clear hnum
         rcases Nat.lt_trichotomy j (ns n) with h3 | h3 | h3
         ·
          skip
          obtain ⟨b3, rfl, l3, v3⟩ := mark_cell (markO_len n) HV.out (i := j) (by omega)
          have HGG := Lib.hid (show ∀ W, Below wz.heap.size wz W -> W.cell? ⟨b3, j * 7, none⟩ = some (.int .i8 0) /\ W.cell? ⟨b3, j * 7 + 1, none⟩ = some (.int .i64 0) /\ W.cell? ⟨b3, j * 7 + 2, none⟩ = some (.bool false) /\ W.cell? ⟨b3, j * 7 + 3, none⟩ = some (.int .u8 0) /\ W.cell? ⟨b3, j * 7 + 4, none⟩ = some (.int .i64 (1048576 * (n : Int) + (j : Nat) + 1)) /\ W.cell? ⟨b3, j * 7 + 5, none⟩ = some (.int .u8 0) /\ W.cell? ⟨b3, j * 7 + 6, none⟩ = some (.int .u8 0) from fun W hb => ⟨(hb.cell (p := ⟨b3, j * 7, none⟩) l3).trans (v3 0 _ rfl), (hb.cell (p := ⟨b3, j * 7 + 1, none⟩) l3).trans (v3 1 _ rfl), (hb.cell (p := ⟨b3, j * 7 + 2, none⟩) l3).trans (v3 2 _ rfl), (hb.cell (p := ⟨b3, j * 7 + 3, none⟩) l3).trans (v3 3 _ rfl), (hb.cell (p := ⟨b3, j * 7 + 4, none⟩) l3).trans (v3 4 _ rfl), (hb.cell (p := ⟨b3, j * 7 + 5, none⟩) l3).trans (v3 5 _ rfl), (hb.cell (p := ⟨b3, j * 7 + 6, none⟩) l3).trans (v3 6 _ rfl)⟩)
          clear v3
          go_upto_region 27 with fail
          obtain ⟨W3, hW⟩ : ∃ W3, wr.alloc (.cells #[.int .i8 0, .int .i64 0, .bool false, .int .u8 0, .int .i64 (1048576 * (n : Int) + (j : Nat) + 1), .int .u8 0, .int .u8 0] 86) = W3 := ⟨_, rfl⟩
          rw [hW]
          have hb3 : Below wz.heap.size wz W3 := by rw [<- hW]; exact bal hbw _
          have hx3 : Blk W3 wr.heap.size 86 #[.int .i8 0, .int .i64 0, .bool false, .int .u8 0, .int .i64 (1048576 * (n : Int) + (j : Nat) + 1), .int .u8 0, .int .u8 0] := by rw [<- hW]; exact Blk.new _ _ _
          have hxb := hbw.size
          obtain ⟨xb, hxe⟩ : ∃ x, wr.heap.size = x := ⟨_, rfl⟩
          rw [hxe] at hx3 hxb ⊢
          clear hW hxe f1 f2 f3 f4 q0 q1 q2 q3 q4 q5 q6 hbw
          obtain ⟨f1, f2, f3, f4⟩ := HF.out _ hb3
          obtain ⟨q0, q1, q2, q3, q4, q5, q6⟩ := HQ.out _ hb3
          obtain ⟨x0, x1, x2, x3, x4, x5, x6⟩ := blk_cells7 hx3
          have xf := fun i => Blk.frozen hx3 i
          obtain ⟨g0, g1, g2, g3, g4, g5, g6⟩ := HGG.out _ hb3
          have Hhb3 := Lib.hid (And.intro hb3 hx3)
          clear hb3 hx3
          go_upto_region 29 with fail
          obtain ⟨W4, hW⟩ : ∃ Wq, B.set7 W3 xb (.int .i8 0) (.int .i64 0) (.bool false) (.int .u8 0) (.int .i64 (1048576 * (n : Int) + (j : Nat) + 1)) (.int .u8 0) (.int .u8 0) = Wq := ⟨_, rfl⟩
          change Code.wp _ _ _ _ (B.set7 W3 xb (.int .i8 0) (.int .i64 0) (.bool false) (.int .u8 0) (.int .i64 (1048576 * (n : Int) + (j : Nat) + 1)) (.int .u8 0) (.int .u8 0))
          rw [hW]
          have hb4 : Below wz.heap.size wz W4 := hW ▸ below_set7 (Hhb3.out.1) hxb _ _ _ _ _ _ _
          have hx4 : Blk W4 xb 86 #[.int .i8 0, .int .i64 0, .bool false, .int .u8 0, .int .i64 (1048576 * (n : Int) + (j : Nat) + 1), .int .u8 0, .int .u8 0] := hW ▸ blk_set7 (Hhb3.out.2) _ _ _ _ _ _ _
          clear hW
          clear f1 f2 f3 f4 q0 q1 q2 q3 q4 q5 q6 x0 x1 x2 x3 x4 x5 x6 xf g0 g1 g2 g3 g4 g5 g6
          obtain ⟨f1, f2, f3, f4⟩ := HF.out _ hb4
          obtain ⟨q0, q1, q2, q3, q4, q5, q6⟩ := HQ.out _ hb4
          obtain ⟨x0, x1, x2, x3, x4, x5, x6⟩ := blk_cells7 hx4
          have xf := fun i => Blk.frozen hx4 i
          obtain ⟨g0, g1, g2, g3, g4, g5, g6⟩ := HGG.out _ hb4
          have Hhb4 := Lib.hid (And.intro hb4 hx4)
          clear hb4 hx4
          go_upto_region 31 with fail
          go_quiet ((go_at_call 90; refine Calls.quiet_of_same (HNUM.out _)))
          go_upto_region 33 with fail
          obtain ⟨W5, hW⟩ : ∃ Wq, B.set7 (W4.drewN nq) xb (.int .i8 0) (.int .i64 0) (.bool false) (.int .u8 0) (.int .i64 (1048576 * (n : Int) + (j : Nat) + 1)) (.int .u8 0) (.int .u8 0) = Wq := ⟨_, rfl⟩
          change Code.wp _ _ _ _ (B.set7 (W4.drewN nq) xb (.int .i8 0) (.int .i64 0) (.bool false) (.int .u8 0) (.int .i64 (1048576 * (n : Int) + (j : Nat) + 1)) (.int .u8 0) (.int .u8 0))
          rw [hW]
          have hb5 : Below wz.heap.size wz W5 := hW ▸ below_set7 (bdr Hhb4.out.1 _) hxb _ _ _ _ _ _ _
          have hx5 : Blk W5 xb 86 #[.int .i8 0, .int .i64 0, .bool false, .int .u8 0, .int .i64 (1048576 * (n : Int) + (j : Nat) + 1), .int .u8 0, .int .u8 0] := hW ▸ blk_set7 ((Hhb4.out.2).drewN _) _ _ _ _ _ _ _
          clear hW
          clear f1 f2 f3 f4 q0 q1 q2 q3 q4 q5 q6 x0 x1 x2 x3 x4 x5 x6 xf g0 g1 g2 g3 g4 g5 g6
          obtain ⟨f1, f2, f3, f4⟩ := HF.out _ hb5
          obtain ⟨q0, q1, q2, q3, q4, q5, q6⟩ := HQ.out _ hb5
          obtain ⟨x0, x1, x2, x3, x4, x5, x6⟩ := blk_cells7 hx5
          have xf := fun i => Blk.frozen hx5 i
          obtain ⟨g0, g1, g2, g3, g4, g5, g6⟩ := HGG.out _ hb5
          have Hhb5 := Lib.hid (And.intro hb5 hx5)
          clear hb5 hx5
          go_quiet ((go_at_call 90; refine Calls.quiet_of_same (HNUM.out _)))
          go_wp2_with fail
          go_roundg (ns n + 70 - (j + 1))
          case measure => omega
          case rel => exact ⟨j + 1, by omega, rfl, by go_num, bdr Hhb5.out.1 _⟩
         ·
          subst h3
          obtain ⟨b3, rfl, l3, v3⟩ := mark_cell (markO_len n) HY.out (i := ns n) (by omega)
          have HGG := Lib.hid (show ∀ W, Below wz.heap.size wz W -> W.cell? ⟨b3, ns n * 7, none⟩ = some (.int .i8 0) /\ W.cell? ⟨b3, ns n * 7 + 1, none⟩ = some (.int .i64 0) /\ W.cell? ⟨b3, ns n * 7 + 2, none⟩ = some (.bool false) /\ W.cell? ⟨b3, ns n * 7 + 3, none⟩ = some (.int .u8 0) /\ W.cell? ⟨b3, ns n * 7 + 4, none⟩ = some (.int .i64 (1048576 * (n : Int) + (ns n : Nat) + 1)) /\ W.cell? ⟨b3, ns n * 7 + 5, none⟩ = some (.int .u8 0) /\ W.cell? ⟨b3, ns n * 7 + 6, none⟩ = some (.int .u8 0) from fun W hb => ⟨(hb.cell (p := ⟨b3, ns n * 7, none⟩) l3).trans (v3 0 _ rfl), (hb.cell (p := ⟨b3, ns n * 7 + 1, none⟩) l3).trans (v3 1 _ rfl), (hb.cell (p := ⟨b3, ns n * 7 + 2, none⟩) l3).trans (v3 2 _ rfl), (hb.cell (p := ⟨b3, ns n * 7 + 3, none⟩) l3).trans (v3 3 _ rfl), (hb.cell (p := ⟨b3, ns n * 7 + 4, none⟩) l3).trans (v3 4 _ rfl), (hb.cell (p := ⟨b3, ns n * 7 + 5, none⟩) l3).trans (v3 5 _ rfl), (hb.cell (p := ⟨b3, ns n * 7 + 6, none⟩) l3).trans (v3 6 _ rfl)⟩)
          clear v3
          go_upto_region 27 with fail
          obtain ⟨W3, hW⟩ : ∃ W3, wr.alloc (.cells #[.int .i8 0, .int .i64 0, .bool false, .int .u8 0, .int .i64 (1048576 * (n : Int) + (ns n : Nat) + 1), .int .u8 0, .int .u8 0] 86) = W3 := ⟨_, rfl⟩
          rw [hW]
          have hb3 : Below wz.heap.size wz W3 := by rw [<- hW]; exact bal hbw _
          have hx3 : Blk W3 wr.heap.size 86 #[.int .i8 0, .int .i64 0, .bool false, .int .u8 0, .int .i64 (1048576 * (n : Int) + (ns n : Nat) + 1), .int .u8 0, .int .u8 0] := by rw [<- hW]; exact Blk.new _ _ _
          have hxb := hbw.size
          obtain ⟨xb, hxe⟩ : ∃ x, wr.heap.size = x := ⟨_, rfl⟩
          rw [hxe] at hx3 hxb ⊢
          clear hW hxe f1 f2 f3 f4 q0 q1 q2 q3 q4 q5 q6 hbw
          obtain ⟨f1, f2, f3, f4⟩ := HF.out _ hb3
          obtain ⟨q0, q1, q2, q3, q4, q5, q6⟩ := HQ.out _ hb3
          obtain ⟨x0, x1, x2, x3, x4, x5, x6⟩ := blk_cells7 hx3
          have xf := fun i => Blk.frozen hx3 i
          obtain ⟨g0, g1, g2, g3, g4, g5, g6⟩ := HGG.out _ hb3
          have Hhb3 := Lib.hid (And.intro hb3 hx3)
          clear hb3 hx3
          go_upto_region 31 with fail
          obtain ⟨W4, hW⟩ : ∃ Wq, B.set7 W3 xb (.int .i8 0) (.int .i64 0) (.bool false) (.int .u8 0) (.int .i64 (1048576 * (n : Int) + (ns n : Nat) + 1)) (.int .u8 0) (.int .u8 0) = Wq := ⟨_, rfl⟩
          change Code.wp _ _ _ _ (B.set7 W3 xb (.int .i8 0) (.int .i64 0) (.bool false) (.int .u8 0) (.int .i64 (1048576 * (n : Int) + (ns n : Nat) + 1)) (.int .u8 0) (.int .u8 0))
          rw [hW]
          have hb4 : Below wz.heap.size wz W4 := hW ▸ below_set7 (Hhb3.out.1) hxb _ _ _ _ _ _ _
          have hx4 : Blk W4 xb 86 #[.int .i8 0, .int .i64 0, .bool false, .int .u8 0, .int .i64 (1048576 * (n : Int) + (ns n : Nat) + 1), .int .u8 0, .int .u8 0] := hW ▸ blk_set7 (Hhb3.out.2) _ _ _ _ _ _ _
          clear hW
          clear f1 f2 f3 f4 q0 q1 q2 q3 q4 q5 q6 x0 x1 x2 x3 x4 x5 x6 xf g0 g1 g2 g3 g4 g5 g6
          obtain ⟨f1, f2, f3, f4⟩ := HF.out _ hb4
          obtain ⟨q0, q1, q2, q3, q4, q5, q6⟩ := HQ.out _ hb4
          obtain ⟨x0, x1, x2, x3, x4, x5, x6⟩ := blk_cells7 hx4
          have xf := fun i => Blk.frozen hx4 i
          obtain ⟨g0, g1, g2, g3, g4, g5, g6⟩ := HGG.out _ hb4
          have Hhb4 := Lib.hid (And.intro hb4 hx4)
          clear hb4 hx4
          go_quiet ((go_at_call 90; refine Calls.quiet_of_same (HNUM.out _)))
          go_upto_region 33 with fail
          obtain ⟨W5, hW⟩ : ∃ Wq, B.set7 (W4.drewN nq) xb (.int .i8 0) (.int .i64 0) (.bool false) (.int .u8 0) (.int .i64 (1048576 * (n : Int) + (ns n : Nat) + 1)) (.int .u8 0) (.int .u8 0) = Wq := ⟨_, rfl⟩
          change Code.wp _ _ _ _ (B.set7 (W4.drewN nq) xb (.int .i8 0) (.int .i64 0) (.bool false) (.int .u8 0) (.int .i64 (1048576 * (n : Int) + (ns n : Nat) + 1)) (.int .u8 0) (.int .u8 0))
          rw [hW]
          have hb5 : Below wz.heap.size wz W5 := hW ▸ below_set7 (bdr Hhb4.out.1 _) hxb _ _ _ _ _ _ _
          have hx5 : Blk W5 xb 86 #[.int .i8 0, .int .i64 0, .bool false, .int .u8 0, .int .i64 (1048576 * (n : Int) + (ns n : Nat) + 1), .int .u8 0, .int .u8 0] := hW ▸ blk_set7 ((Hhb4.out.2).drewN _) _ _ _ _ _ _ _
          clear hW
          clear f1 f2 f3 f4 q0 q1 q2 q3 q4 q5 q6 x0 x1 x2 x3 x4 x5 x6 xf g0 g1 g2 g3 g4 g5 g6
          obtain ⟨f1, f2, f3, f4⟩ := HF.out _ hb5
          obtain ⟨q0, q1, q2, q3, q4, q5, q6⟩ := HQ.out _ hb5
          obtain ⟨x0, x1, x2, x3, x4, x5, x6⟩ := blk_cells7 hx5
          have xf := fun i => Blk.frozen hx5 i
          obtain ⟨g0, g1, g2, g3, g4, g5, g6⟩ := HGG.out _ hb5
          have Hhb5 := Lib.hid (And.intro hb5 hx5)
          clear hb5 hx5
          go_quiet ((go_at_call 90; refine Calls.quiet_of_same (HNUM.out _)))
          go_wp2_with fail
          go_roundg (ns n + 70 - (ns n + 1))
          case measure => omega
          case rel => exact ⟨ns n + 1, by omega, rfl, by go_num, bdr Hhb5.out.1 _⟩
         ·
          skip
          go_upto_region 27 with fail
          obtain ⟨W3, hW⟩ : ∃ W3, wr.alloc (.cells #[.int .i8 0, .int .i64 0, .bool false, .int .u8 0, .int .i64 (1048576 * (n : Int) + (j : Nat) + 1), .int .u8 0, .int .u8 0] 86) = W3 := ⟨_, rfl⟩
          rw [hW]
          have hb3 : Below wz.heap.size wz W3 := by rw [<- hW]; exact bal hbw _
          have hx3 : Blk W3 wr.heap.size 86 #[.int .i8 0, .int .i64 0, .bool false, .int .u8 0, .int .i64 (1048576 * (n : Int) + (j : Nat) + 1), .int .u8 0, .int .u8 0] := by rw [<- hW]; exact Blk.new _ _ _
          have hxb := hbw.size
          obtain ⟨xb, hxe⟩ : ∃ x, wr.heap.size = x := ⟨_, rfl⟩
          rw [hxe] at hx3 hxb ⊢
          clear hW hxe f1 f2 f3 f4 q0 q1 q2 q3 q4 q5 q6 hbw
          obtain ⟨f1, f2, f3, f4⟩ := HF.out _ hb3
          obtain ⟨q0, q1, q2, q3, q4, q5, q6⟩ := HQ.out _ hb3
          obtain ⟨x0, x1, x2, x3, x4, x5, x6⟩ := blk_cells7 hx3
          have xf := fun i => Blk.frozen hx3 i
          have Hhb3 := Lib.hid (And.intro hb3 hx3)
          clear hb3 hx3
          go_upto_region 31 with fail
          go_quiet ((go_at_call 90; refine Calls.quiet_of_same (HNUM.out _)))
          go_upto_region 33 with fail
          obtain ⟨W5, hW⟩ : ∃ Wq, B.set7 (W3.drewN nq) xb (.int .i8 0) (.int .i64 0) (.bool false) (.int .u8 0) (.int .i64 (1048576 * (n : Int) + (j : Nat) + 1)) (.int .u8 0) (.int .u8 0) = Wq := ⟨_, rfl⟩
          change Code.wp _ _ _ _ (B.set7 (W3.drewN nq) xb (.int .i8 0) (.int .i64 0) (.bool false) (.int .u8 0) (.int .i64 (1048576 * (n : Int) + (j : Nat) + 1)) (.int .u8 0) (.int .u8 0))
          rw [hW]
          have hb5 : Below wz.heap.size wz W5 := hW ▸ below_set7 (bdr Hhb3.out.1 _) hxb _ _ _ _ _ _ _
          have hx5 : Blk W5 xb 86 #[.int .i8 0, .int .i64 0, .bool false, .int .u8 0, .int .i64 (1048576 * (n : Int) + (j : Nat) + 1), .int .u8 0, .int .u8 0] := hW ▸ blk_set7 ((Hhb3.out.2).drewN _) _ _ _ _ _ _ _
          clear hW
          clear f1 f2 f3 f4 q0 q1 q2 q3 q4 q5 q6 x0 x1 x2 x3 x4 x5 x6 xf
          obtain ⟨f1, f2, f3, f4⟩ := HF.out _ hb5
          obtain ⟨q0, q1, q2, q3, q4, q5, q6⟩ := HQ.out _ hb5
          obtain ⟨x0, x1, x2, x3, x4, x5, x6⟩ := blk_cells7 hx5
          have xf := fun i => Blk.frozen hx5 i
          have Hhb5 := Lib.hid (And.intro hb5 hx5)
          clear hb5 hx5
          go_quiet ((go_at_call 90; refine Calls.quiet_of_same (HNUM.out _)))
          go_wp2_with fail
          go_roundg (ns n + 70 - (j + 1))
          case measure => omega
          case rel => exact ⟨j + 1, by omega, rfl, by go_num, bdr Hhb5.out.1 _⟩
        ·
         obtain rfl : j = ns n + 70 := by omega
         go_wp2_with fail
         go_roundg (K - (n + 1))
         case measure => omega
         case rel => exact ⟨n + 1, by omega, rfl, by go_num, hbw⟩
      ·
       obtain rfl : K = n := by omega
       go_wp2_with fail
       go_ret
       exact ⟨rfl, HBut.out.trans (But.of_below (C := fun _ => False) hbw) fun _ _ h => h.elim⟩
end Go.Proofs.YtobplngonkdbpaaGreatDoor.B
/- BagV -/
namespace Go.Proofs.YtobplngonkdbpaaGreatDoor.B
open Go.RowKit
set_option linter.unusedVariables false
abbrev nilV : Value := .slice none 0 0
abbrev bagCells : Array Value := #[nilV, nilV, nilV, nilV, nilV, nilV, nilV, nilV, nilV, nilV, nilV, nilV, nilV, nilV, nilV, nilV, nilV, nilV]
theorem bagCells_at (i : Nat) (h : i < bagCells.size) : bagCells[i]? = some nilV := by
 have h' : i < 18 := h
 rcases i with _|_|_|_|_|_|_|_|_|_|_|_|_|_|_|_|_|_|i
 all_goals first | rfl | omega
theorem bag_new (w : World) (T : TypeId) : (w.alloc (.cells bagCells T)).rowIs w.heap.size T 18 (fun _ => nilV) := World.rowIs_alloc w bagCells T _ bagCells_at
/-- The block of a slice lies from lo on, below hi. -/
def In (lo hi : Nat) (v : Value) : Prop := ∀ b, v.ownBlock = some b -> lo <= b /\ b < hi
end Go.Proofs.YtobplngonkdbpaaGreatDoor.B
