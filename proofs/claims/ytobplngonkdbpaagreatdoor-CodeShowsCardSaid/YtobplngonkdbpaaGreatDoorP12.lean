/- Parts of this claim: BagT. -/
import Derived.Test.YtobplngonkdbpaaGreatDoorP11
import Derived.Test.YtobplngonkdbpaaGreatDoorP01
import Derived.Test.YtobplngonkdbpaaGreatDoorP05
set_option linter.unusedVariables false
set_option linter.unusedSimpArgs false
/- BagT -/
namespace Go.Proofs.YtobplngonkdbpaaGreatDoor.B
open Go.RowKit
set_option linter.unusedSimpArgs false
set_option linter.unusedVariables false
/-- A mark. -/
def tmarkB (n i : Nat) : ByteArray := ⟨#[33]⟩ ++ T.itoaS (1048576 * (n : Int) + (i : Int) + 1)
theorem btext_any (n i : Nat) (w W : World) (hn : n <= 1048576) (hi : i <= 4611686018427387904) (ht : T.Tab w) (hb : Below w.heap.size w W) :
  Calls Tryz.prog 88 #[.int .i64 n, .int .i64 i] W fun e w' => e = .returned (.string (tmarkB n i)) /\ Below W.heap.size W w' := by
 have h1 := Lib.hid fun V => bnum_any (n : Int) (i : Int) V (by omega) (by omega) (by omega) (by omega)
 have h2 := Lib.hid (T.itoa_any (1048576 * (n : Int) + (i : Int) + 1) w W (by omega) (by omega) ht hb)
 have hz := T.itoaS_size (1048576 * (n : Int) + (i : Int) + 1) (by omega) (by omega)
 have s1 := fun V => (run_string_add_sum (P := Tryz.prog) V ⟨#[33]⟩ (T.itoaS (1048576 * (n : Int) + (i : Int) + 1)) (by show 1 + _ <= _; omega))
 unfold tmarkB
 generalize T.itoaS (1048576 * (n : Int) + (i : Int) + 1) = d at *
 go_enter Tryz.func88, Tryz.ntmps88
 go_wp2_with fail
 refine (h1.out _).mono ?_
 rintro e w' ⟨rfl, rfl⟩
 go_wp2_with fail
 refine h2.out.mono ?_
 rintro e w' ⟨rfl, hb2⟩
 go_wp2_with fail
 go_ret
 exact ⟨rfl, hb2⟩
theorem infoETexts : (Tryz.prog.info? 9).map (fun i => (i.zero, i.size, i.bytes)) = some (some (.string ⟨#[]⟩), 1, 16) := by kernel_rfl
def markT (n i : Nat) : List Value := [.string (tmarkB n i)]
theorem markT_len (n i : Nat) : (markT n i).length = 1 := rfl
set_option maxRecDepth 100000 in
set_option maxHeartbeats 2000000 in
theorem apartTexts_any (w0 : World) (ht : T.Tab w0) (gb base K : Nat) (ob oc : Nat) (vs : Nat -> Value) (ns : Nat -> Nat) (w : World) (hS : Shelfed gb 4 K w ob oc vs w) (hg : gb < w.heap.size) (hob : ob < w.heap.size)
  (h1 : ∀ m, m < K -> (vs m).ownBlock ≠ some gb) (h2 : ∀ m, m < K -> (vs m).ownBlock ≠ some ob) (hv : ∀ m, m < K -> ∃ xs, w.ownsRow base 9 1 (vs m) (ns m) xs) (hap : ∀ i j, i < K -> j < K -> i ≠ j -> Ap (vs i) (vs j))
  (hw0 : Below w0.heap.size w0 w) (hb0 : w0.heap.size <= base) (hbs : base <= w.heap.size) (hK : K <= 300) (hns : ∀ m, m < K -> ns m <= 1099511627776) :
  Calls Tryz.prog 65 #[.pointer (some ⟨gb, 0, none⟩)] w fun e w' => e = .returned (.bool true) /\ But (fun k => ∃ m, m < K /\ (vs m).ownBlock = some k) w w' := by
 have HS := Lib.hid fun (W : World) (hb : But (fun k => ∃ m, m < K /\ (vs m).ownBlock = some k) w W) => shelfed_but hS hg hob h1 h2 hb
 have HBL := Lib.hid fun (W : World) (hb : But (fun k => ∃ m, m < K /\ (vs m).ownBlock = some k) w W) => hw0.trans (hb.below hw0.size fun k ⟨m, hm, e⟩ => by obtain ⟨xs, hx⟩ := hv m hm; have := (hx.lt k e).1; omega)
 have HTX := Lib.hid fun (n i : Nat) (W : World) (hn : n <= 1048576) (hi : i <= 4611686018427387904) (hb : Below w0.heap.size w0 W) => btext_any n i w0 W hn hi ht hb
 have HM := Lib.hid (B1.start (M := markT) hv)
 have HNS := Lib.hid hns
 have HAP := Lib.hid hap
 have hLT : ∀ m, m < K -> ∀ b, (vs m).ownBlock = some b -> b < w.heap.size := fun m hm b hb => by
  obtain ⟨xs, hx⟩ := hv m hm; exact (hx.lt b hb).2
 have HLT := Lib.hid hLT
 have hc0 := hS.c
 clear hv hap h1 h2 hS hns hLT ht hw0
 go_enter Tryz.func65, Tryz.ntmps65
 go_wp2_with fail
 go_loopg [3] K (fun q i wr => ∃ k : Nat, k <= K /\ q = K - k /\ i = .int .i64 k /\ B1 base 9 1 K vs ns markT w wr k 0)
 case atStart => exact ⟨0, by omega, rfl, rfl, HM.out⟩
 case round =>
  obtain ⟨k, hk, rfl, rfl, hB⟩ := hrel
  obtain ⟨sc, se⟩ := HS.out _ hB.but
  by_cases hkK : k < K
  ·
   obtain ⟨A, c, hv, hnc, hcm, hat⟩ := hB.at_ hkK
   have se1 := se k hkK
   rw [hv] at se1
   have HB := Lib.hid hB
   have hn := HNS.out k hkK
   clear hat se hB
   obtain ⟨nk, hnk⟩ : ∃ n, ns k = n := ⟨_, rfl⟩
   rw [hnk] at hv hnc hn se1
   have HV := Lib.hid hv
   have HN := Lib.hid hnk
   clear hv hnk
   go_wp2_with fail
   go_loopg [4] nk (fun q i wr => ∃ j : Nat, j <= nk /\ q = nk - j /\ i = .int .i64 j /\ B1 base 9 1 K vs ns markT w wr k j)
   case atStart => exact ⟨0, by omega, rfl, rfl, HB.out⟩
   case round =>
    obtain ⟨j, hj, rfl, rfl, hB⟩ := hrel
    obtain ⟨sc, se⟩ := HS.out _ hB.but
    have se1 := se k hkK
    rw [HV.out] at se1
    by_cases hjn : j < nk
    ·
     obtain ⟨A', c', hv', _, _, hat⟩ := hB.at_ hkK
     have hnk := HN.out
     obtain ⟨g, hA, hbg, hgw, hth⟩ := hat (by omega)
     rw [HV.out] at hv'
     injection hv' with e1 e2 e3
     subst e1 e3 hA
     obtain ⟨t1, t2⟩ := hth 0 (by omega)
     rw [Nat.mul_one, Nat.add_zero] at t1 t2
     obtain ⟨old, t1⟩ := Option.isSome_iff_exists.1 t1
     have hnum := fun (W : World) (hb : Below wr.heap.size wr W) => HTX.out k j W (by omega) (by omega) (below_from (HBL.out _ hB.but) hb (HBL.out _ hB.but).size)
     have HB2 := Lib.hid hB
     have HF : Hid (∀ W, Below wr.heap.size wr W -> W.cell? ⟨gb, 4, none⟩ = some (.slice (some ⟨ob, 0, none⟩) K oc) /\ W.cell? ⟨ob, k, none⟩ = some (.slice (some ⟨g, 0, none⟩) nk c) /\ W.cell? ⟨g, j, none⟩ = some old /\ W.frozen? ⟨g, j, none⟩ = false) :=
      Lib.hid fun W hb => ⟨(hb.cell (p := ⟨gb, 4, none⟩) (by have := hB.but.size; show gb < _; omega)).trans sc, (hb.cell (p := ⟨ob, k, none⟩) (by have := hB.but.size; show ob < _; omega)).trans se1, (hb.cell (p := ⟨g, j, none⟩) hgw).trans t1, (hb.frozen (p := ⟨g, j, none⟩) hgw).trans t2⟩
     obtain ⟨tm, htm⟩ : ∃ x, tmarkB k j = x := ⟨_, rfl⟩
     rw [htm] at hnum
     have HTM := Lib.hid htm
     clear hB hth se hat hnk e2 htm
     go_wp2_with fail
     go_region_with (go_at_call 88; refine (hnum _ (by first | exact Below.refl _ _ | exact (Below.refl _ _).drew)).mono ?_; rintro e w1 ⟨rfl, hb0⟩; have hb1 : Below wr.heap.size wr w1 := (by first | exact hb0 | exact Below.trans (Below.refl _ _).drew hb0); obtain ⟨f1, f2, f3, f4⟩ := HF.out w1 hb1)
     all_goals
      go_wp2_with fail
      go_roundg (nk - (j + 1))
      case measure => omega
      case rel => exact ⟨j + 1, by omega, rfl, by go_num, ((HB2.out.grow hb1).mark1 markT_len hkK (by rw [HN.out]; exact hjn) HAP.out HV.out (by rw [markT, HTM.out]))⟩
    ·
     obtain rfl : j = nk := by omega
     have HB2 := Lib.hid hB
     clear hB se
     go_wp2_with fail
     go_roundg (K - (k + 1))
     case measure => omega
     case rel => exact ⟨k + 1, by omega, rfl, by go_num, by have := HB2.out; rw [<- HN.out] at this; exact this.next⟩
  ·
   obtain rfl : K = k := by omega
   have HB2 := Lib.hid (hB.done (T1 := 25) hB.but.size)
   clear hB se hc0 HM
   go_wp2_with fail
   go_loopg [5, 6, 7] K (fun q a b i wr => ∃ n : Nat, n <= K /\ q = K - n /\ i = .int .i64 n /\ ∃ one more os ms, one = a /\ more = b /\ B2 base 25 9 1 K vs ns markT w wr n n n one more os ms)
   case atStart => exact ⟨0, by omega, rfl, rfl, _, _, [], [], rfl, rfl, HB2.out⟩
   clear HB2
   case round =>
    obtain ⟨n, hn, rfl, rfl, one, more, os, ms, rfl, rfl, hB⟩ := hrel
    obtain ⟨sc, se⟩ := HS.out _ hB.but
    by_cases hnK : n < K
    ·
     obtain ⟨A, c, hv, hnc, hcm⟩ := (hB.v n hnK).form
     have se1 := se n hnK
     have HV := Lib.hid hv
     rw [hv] at se1
     have hlen := HNS.out n hnK
     have HL0 := Lib.hid (BL.start hB hnK HLT.out HAP.out)
     have HB0 := Lib.hid hB.enter
     rw [hv] at HL0
     clear hv hB se
     go_wp2_with fail
     go_loopg [5, 8, 9] 70 (fun q a b i wr => ∃ j : Nat, j <= 70 /\ q = 70 - j /\ i = .int .i64 (ns n + j : Nat) /\ ∃ one l p os, one = a /\ l = b /\ Hid (p = n /\ j = 0 \/ p = n + 1 /\ 0 < j) /\
      B2 base 25 9 1 K vs ns markT w wr n p (n + 1) one more os ms /\ BL base 9 1 K vs ns markT w wr n j l one more os ms)
     case atStart => exact ⟨0, by omega, rfl, by go_num, _, _, n, os, rfl, rfl, Lib.hid (.inl ⟨rfl, rfl⟩), HB0.out, HL0.out⟩
     clear HB0 HL0
     case round =>
      obtain ⟨j, hj, rfl, rfl, one, l, p, os, rfl, rfl, HP, hB, hL⟩ := hrel
      obtain ⟨sc, se⟩ := HS.out _ hB.but
      have se1 := se n hnK
      rw [HV.out] at se1
      by_cases hj70 : j < 70
      ·
       obtain ⟨Al, cl, rfl, hl1, hl2⟩ := own_shape hL.own
       have hnum := HTX.out n (ns n + j) wr (by omega) (by omega) (HBL.out _ hB.but)
       obtain ⟨tm, htm⟩ : ∃ x, tmarkB n (ns n + j) = x := ⟨_, rfl⟩
       rw [htm] at hnum
       have HTM := Lib.hid htm
       have hxj : ((ns n + j : Nat) : Int) = (ns n : Int) + j := by omega
       rw [hxj] at hnum
       clear htm
       have HBl := Lib.hid hL
       have HBb := Lib.hid hB
       have hsz := hB.but.size
       clear hB hL se
       obtain ⟨i0, hi0, hz0, hz1, hz2⟩ := info_parts3 infoETexts
       go_wp2_with fail
       refine hnum.mono ?_
       rintro e wr2 ⟨rfl, hbt⟩
       have hsz2 := hbt.size
       have hBa := (HBl.out.grow hbt).grow (Below.alloc (Below.refl _ _) (Nat.le_refl _) (.cells #[.string tm] 9))
       have HBc := Lib.hid ((HBb.out.grow hbt).grow (Below.alloc (Below.refl _ _) (Nat.le_refl _) (.cells #[.string tm] 9)))
       have hown0 := hBa.own
       have HBd := Lib.hid hBa
       have hbase : base <= (wr2.alloc (.cells #[.string tm] 9)).heap.size := by
        simp; omega
       clear hBa
       go_wp2_with (at_builtin; refine wpList_append_fine _ rfl (.tmp 78) (.tmp 82) 25 rfl base 9 i0 _ 1 16 Tryz.underlying25 hi0 hz0 hz1 hz2 rfl _ (ns n + j) _ rfl hown0 (wr2.heap.size + 1) _ 1 1 [.string tm] rfl (Sl.one _ _ _) ?_ ?_ ?_ ?_ ?_ ?_)
       · intro u hu; simp at hu; subst hu; rfl
       · omega
       · unfold maxLen; omega
       · omega
       · exact hbase
       intro l1 w1 hown1 ht1
       have hmk : markT n (ns n + j) = [.string tm] := by unfold markT; rw [HTM.out]
       rw [<- hmk] at hown1
       have hrow := HBc.out.onRow HBd.out hnK (HP.out.imp And.left id) (by omega) hown1 ht1 (by simp; omega)
       obtain ⟨Al1, cl1, rfl, hl3, hl4⟩ := own_shape hown1
       obtain ⟨sc1, se1'⟩ := HS.out _ hrow.1.but
       have se2 := se1' n hnK
       rw [HV.out] at se2
       have hsz1 := hrow.1.but.size
       by_cases hj0 : j = 0
       ·
        subst hj0
        obtain ⟨rfl, _⟩ : p = n /\ 0 = 0 := by rcases HP.out with h | h; exact h; omega
        obtain ⟨i1, hi1, hy0, hy1, hy2⟩ := info_parts3 infoLTexts
        obtain ⟨Ao, co, rfl, ho1, ho2⟩ := own_shape hrow.1.hone
        have hgr : Below w1.heap.size w1 (w1.alloc (.cells #[.slice Al1 (ns p + 0 + 1) cl1] 25)) := Below.alloc (Below.refl _ _) (Nat.le_refl _) _
        have HB1 := Lib.hid (hrow.1.grow hgr)
        have HL1 := Lib.hid ((hrow.2.1 rfl).grow hgr)
        have hone1 := HB1.out.hone
        clear hrow se1' hown1 ht1 HBc HBd HBl HBb hmk hown0 hgr
        have s1 : ∀ u ∈ [Value.slice Al1 (ns p + 0 + 1) cl1], u.oneCell' = true := by intro u hu; simp at hu; subst hu; rfl
        have s2 : p + 1 <= maxLen := by unfold maxLen; omega
        have s3 : (p + 1) * 24 <= 140737488355328 := by omega
        have s4 : w.heap.size <= (w1.alloc (.cells #[.slice Al1 (ns p + 0 + 1) cl1] 25)).heap.size := by simp; omega
        have S1 := Lib.hid s1
        clear s1
        go_wp2_with (at_builtin; refine wpList_append_fine _ rfl (.tmp 94) (.tmp 96) 44 rfl w.heap.size 25 i1 _ 1 24 Tryz.underlying44 hi1 hy0 hy1 hy2 rfl _ p _ rfl hone1 (w1.heap.size + 1) _ 1 1 [.slice Al1 (ns p + 0 + 1) cl1] rfl (Sl.one _ _ _) S1.out Nat.one_pos s2 s3 s4 ?_)
        clear s2 s3 s4 S1
        intro o1 w2 hown2 ht2
        have hfin := HB1.out.onOne HL1.out hnK HLT.out hown2 ht2
        have HF := Lib.hid hfin
        clear hfin hown2 ht2 hone1
        go_wp2_with fail
        go_roundg (70 - (0 + 1))
        case measure => omega
        case rel => exact ⟨0 + 1, by omega, rfl, by go_num, o1, .slice Al1 (ns p + 0 + 1) cl1, p + 1, _, rfl, rfl, Lib.hid (.inr ⟨rfl, by omega⟩), HF.out.1, HF.out.2⟩
       ·
        obtain ⟨rfl, hj1⟩ : p = n + 1 /\ 0 < j := by rcases HP.out with h | h; omega; exact h
        have HF := Lib.hid (And.intro hrow.1 (hrow.2.2 rfl))
        clear hrow se1' hown1 ht1 HBc HBd HBl HBb hmk hown0
        go_wp2_with fail
        go_roundg (70 - (j + 1))
        case measure => omega
        case rel => exact ⟨j + 1, by omega, rfl, by go_num, one, .slice Al1 (ns n + j + 1) cl1, n + 1, os, rfl, rfl, Lib.hid (.inr ⟨rfl, by omega⟩), HF.out.1, HF.out.2⟩
      ·
       obtain rfl : j = 70 := by omega
       obtain rfl : p = n + 1 := by rcases HP.out with h | h; omega; exact h.1
       obtain ⟨i1, hi1, hy0, hy1, hy2⟩ := info_parts3 infoLTexts
       obtain ⟨Al, cl, rfl, hl1, hl2⟩ := own_shape hL.own
       obtain ⟨Am, cm, rfl, hm1, hm2⟩ := own_shape hB.hmore
       have hgr : Below wr.heap.size wr (wr.alloc (.cells #[.slice Al (ns n + 70) cl] 25)) := Below.alloc (Below.refl _ _) (Nat.le_refl _) _
       have HB1 := Lib.hid (hB.grow hgr)
       have HL1 := Lib.hid (hL.grow hgr)
       have hmore1 := HB1.out.hmore
       have hsz1 := hB.but.size
       have s1 : ∀ u ∈ [Value.slice Al (ns n + 70) cl], u.oneCell' = true := by intro u hu; simp at hu; subst hu; rfl
       have s2 : n + 1 <= maxLen := by unfold maxLen; omega
       have s3 : (n + 1) * 24 <= 140737488355328 := by omega
       have s4 : w.heap.size <= (wr.alloc (.cells #[.slice Al (ns n + 70) cl] 25)).heap.size := by simp; omega
       have S1 := Lib.hid s1
       clear s1 hB hL se hgr
       go_wp2_with (at_builtin; refine wpList_append_fine _ rfl (.tmp 98) (.tmp 100) 44 rfl w.heap.size 25 i1 _ 1 24 Tryz.underlying44 hi1 hy0 hy1 hy2 rfl _ n _ rfl hmore1 (wr.heap.size + 1) _ 1 1 [.slice Al (ns n + 70) cl] rfl (Sl.one _ _ _) S1.out Nat.one_pos s2 s3 s4 ?_)
       clear s2 s3 s4 S1
       intro o1 w2 hown2 ht2
       have HF := Lib.hid (HB1.out.onMore HL1.out hnK HLT.out hown2 ht2)
       clear hown2 ht2 hmore1
       go_wp2_with fail
       go_roundg (K - (n + 1))
       case measure => omega
       case rel => exact ⟨n + 1, by omega, rfl, by go_num, one, o1, os, _, rfl, rfl, HF.out⟩
    ·
     obtain rfl : K = n := by omega
     obtain ⟨wz, rfl⟩ : ∃ x : World, x = wr := ⟨_, rfl⟩
     obtain ⟨Am, cm, rfl, hm1, hm2⟩ := own_shape hB.hmore
     obtain ⟨Ao, co, rfl, ho1, ho2⟩ := own_shape hB.hone
     have HB := Lib.hid hB
     have HBut := Lib.hid hB.but
     have HM := Lib.hid (Rd.of_own hB.hmore)
     have HO := Lib.hid (Rd.of_own hB.hone)
     have hszr := hB.but.size
     clear hB se
     go_wp2_with fail
     go_loopg [10] K (fun q i W => ∃ n : Nat, n <= K /\ q = K - n /\ i = .int .i64 n /\ Below wz.heap.size wz W)
     case atStart => exact ⟨0, by omega, rfl, rfl, Below.refl _ _⟩
     case round =>
      obtain ⟨n, hn, rfl, rfl, hbw⟩ := hrel
      by_cases hnK : n < K
      ·
       obtain ⟨bm, rfl, lm, x, hx, cx⟩ := HM.out.cell (j := n) (by omega)
       obtain ⟨bo, rfl, lo, y, hy, cy⟩ := HO.out.cell (j := n) (by omega)
       obtain ⟨hX, _⟩ := HB.out.m n hnK x hx
       obtain ⟨hY, _⟩ := HB.out.o n hnK y hy
       have hV := HB.out.v n hnK
       obtain ⟨A2, c2, rfl, hx1, hx2⟩ := hX.form
       obtain ⟨A1, c1, rfl, hy1, hy2⟩ := hY.form
       obtain ⟨A3, c3, hv3, hv1, hv2⟩ := hV.form
       have se1 : wz.cell? ⟨ob, n, none⟩ = some (.slice A3 (ns n) c3) := by rw [<- hv3]; exact (HS.out _ HBut.out).e n hnK
       rw [hv3] at hV
       have HX := Lib.hid hX
       have HY := Lib.hid hY
       have HV := Lib.hid hV
       have hlen := HNS.out n hnK
       have HF : Hid (∀ W, Below wz.heap.size wz W -> W.cell? ⟨gb, 4, none⟩ = some (.slice (some ⟨ob, 0, none⟩) K oc) /\ W.cell? ⟨bm, n, none⟩ = some (.slice A2 (ns n + 70) c2) /\ W.cell? ⟨bo, n, none⟩ = some (.slice A1 (ns n + 1) c1) /\ W.cell? ⟨ob, n, none⟩ = some (.slice A3 (ns n) c3)) :=
        Lib.hid fun W hb => ⟨(hb.cell (p := ⟨gb, 4, none⟩) (by show gb < _; omega)).trans sc, (hb.cell (p := ⟨bm, n, none⟩) lm).trans cx, (hb.cell (p := ⟨bo, n, none⟩) lo).trans cy, (hb.cell (p := ⟨ob, n, none⟩) (by show ob < _; omega)).trans se1⟩
       clear hX hY hV hv3 hx hy cx cy se1
       obtain ⟨f1, f2, f3, f4⟩ := HF.out _ hbw
       go_wp2_with fail
       go_loopg [11] (ns n + 70) (fun q i W => ∃ j : Nat, j <= ns n + 70 /\ q = ns n + 70 - j /\ i = .int .i64 j /\ Below wz.heap.size wz W)
       case atStart => exact ⟨0, by omega, rfl, rfl, hbw⟩
       clear f1 f2 f3 f4 hbw
       case round =>
        obtain ⟨j, hj, rfl, rfl, hbw⟩ := hrel
        obtain ⟨f1, f2, f3, f4⟩ := HF.out _ hbw
        by_cases hj70 : j < ns n + 70
        ·
         obtain ⟨b2, rfl, l2, u, hu, cu⟩ := HX.out.cell (j := j) (by omega)
         have hmk := mks_at1 (M := markT n) (i := j) (k := ns n + 70) (fun _ => rfl) hj70 rfl
         have HT0 : Hid (∀ W, Below wz.heap.size wz W -> _) := Lib.hid fun W hb => HTX.out n j W (by omega) (by omega) (below_from (HBL.out _ HBut.out) hb (HBL.out _ HBut.out).size)
         obtain ⟨tm, htm⟩ : ∃ x, tmarkB n j = x := ⟨_, rfl⟩
         have HTM := Lib.hid htm
         have HT : Hid (∀ W, Below wz.heap.size wz W -> Calls Tryz.prog 88 #[.int .i64 n, .int .i64 j] W fun e w' => e = .returned (.string tm) /\ Below W.heap.size W w') := Lib.hid fun W hb => by rw [<- htm]; exact HT0.out W hb
         rw [hmk, htm] at hu
         injection hu with hu
         subst hu
         have f5 := (hbw.cell (p := ⟨b2, j, none⟩) l2).trans cu
         clear hmk htm HT0
         rcases Nat.lt_trichotomy j (ns n) with h3 | h3 | h3
         ·
          obtain ⟨b3, rfl, l3, u, hu, cu3⟩ := HV.out.cell (j := j) (by omega)
          have hmk := mks_at1 (M := markT n) (i := j) (k := ns n) (fun _ => rfl) (by omega) rfl
          rw [hmk, HTM.out] at hu
          injection hu with hu
          subst hu
          have f6 := (hbw.cell (p := ⟨b3, j, none⟩) l3).trans cu3
          clear hmk cu3
          go_wp2_with fail
          refine (HT.out _ hbw).mono ?_
          rintro e w1 ⟨rfl, hb1⟩
          have hbw1 := below_from hbw hb1 hbw.size
          obtain ⟨g1, g2, g3, g4⟩ := HF.out _ hbw1
          have g5 := (hbw1.cell (p := ⟨b2, j, none⟩) l2).trans cu
          go_wp2_with fail
          refine (HT.out _ hbw1).mono ?_
          rintro e w2 ⟨rfl, hb2⟩
          have hbw2 := below_from hbw1 hb2 hbw1.size
          go_wp2_with fail
          go_roundg (ns n + 70 - (j + 1))
          case measure => omega
          case rel => exact ⟨j + 1, by omega, rfl, by go_num, hbw2⟩
         ·
          subst h3
          obtain ⟨b3, rfl, l3, u, hu, cu3⟩ := HY.out.cell (j := ns n) (by omega)
          have hmk := mks_at1 (M := markT n) (i := ns n) (k := ns n + 1) (fun _ => rfl) (by omega) rfl
          rw [hmk, HTM.out] at hu
          injection hu with hu
          subst hu
          have f6 := (hbw.cell (p := ⟨b3, ns n, none⟩) l3).trans cu3
          clear hmk cu3
          go_wp2_with fail
          refine (HT.out _ hbw).mono ?_
          rintro e w1 ⟨rfl, hb1⟩
          have hbw1 := below_from hbw hb1 hbw.size
          obtain ⟨g1, g2, g3, g4⟩ := HF.out _ hbw1
          have g5 := (hbw1.cell (p := ⟨b2, ns n, none⟩) l2).trans cu
          go_wp2_with fail
          refine (HT.out _ hbw1).mono ?_
          rintro e w2 ⟨rfl, hb2⟩
          have hbw2 := below_from hbw1 hb2 hbw1.size
          go_wp2_with fail
          go_roundg (ns n + 70 - (ns n + 1))
          case measure => omega
          case rel => exact ⟨ns n + 1, by omega, rfl, by go_num, hbw2⟩
         ·
          skip
          go_wp2_with fail
          refine (HT.out _ hbw).mono ?_
          rintro e w1 ⟨rfl, hb1⟩
          have hbw1 := below_from hbw hb1 hbw.size
          obtain ⟨g1, g2, g3, g4⟩ := HF.out _ hbw1
          have g5 := (hbw1.cell (p := ⟨b2, j, none⟩) l2).trans cu
          go_wp2_with fail
          refine (HT.out _ hbw1).mono ?_
          rintro e w2 ⟨rfl, hb2⟩
          have hbw2 := below_from hbw1 hb2 hbw1.size
          go_wp2_with fail
          go_roundg (ns n + 70 - (j + 1))
          case measure => omega
          case rel => exact ⟨j + 1, by omega, rfl, by go_num, hbw2⟩
        ·
         obtain rfl : j = ns n + 70 := by omega
         go_wp2_with fail
         go_roundg (K - (n + 1))
         case measure => omega
         case rel => exact ⟨n + 1, by omega, rfl, by go_num, hbw⟩
      ·
       obtain rfl : K = n := by omega
       go_wp2_with fail
       go_ret
       exact ⟨rfl, HBut.out.trans (But.of_below (C := fun _ => False) hbw) fun _ _ h => h.elim⟩
end Go.Proofs.YtobplngonkdbpaaGreatDoor.B
