/- Parts of this claim: CfB. -/
import Derived.Deep.CutRange
import Derived.Test.YtobplngonkdbpaaGreatDoorP09
import Derived.Test.YtobplngonkdbpaaGreatDoorP05
set_option linter.unusedVariables false
set_option linter.unusedSimpArgs false
/- CfB -/
namespace Go.Proofs.YtobplngonkdbpaaGreatDoor.D
open Go.RowKit
open Go.Proofs.YtobplngonkdbpaaGreatDoor.B
set_option linter.unusedVariables false
set_option linter.unusedSimpArgs false
theorem infoL : (Tryz.prog.info? 2).map (fun i => (i.zero, i.size, i.bytes)) = some (some (.int .i64 0), 1, 8) := by kernel_rfl
theorem textF_c (cf : Nat) (s : Bs) (g : Bool) (w : World) (hl : s.length <= 1073741824) (hg : Gl w) (hb : Blk w cf 141 #[.bool g]) (h8 : 8 <= cf) :
  Calls Tryz.prog 103 #[.pointer (some ⟨cf, 0, none⟩), strV s] w fun e w' =>
   ∃ b : Bs, e = .returned (.string ⟨b.toArray⟩) /\ (∀ t, unq s = some t -> b = t) /\ Blk w' cf 141 #[.bool (g && (unq s).isSome)] /\ But (fun k => k = cf) w w' := text_c cf s g w hl hg hb h8
set_option maxRecDepth 100000 in
set_option maxHeartbeats 4000000 in
theorem line_num (r st B : Nat) (L : CoL) (s a : Bs) (w : World) (hl : s.length <= 1073741824) (hg : Gl w) (h8 : 8 <= r) (hr : RAt w r L st) (hB : LB L B) (hBb : B <= 1073741824) (hws : wordsP s = [kNum, a]) (hla : a.length <= 1073741824) :
  Calls Tryz.prog 48 #[.pointer (some ⟨r, 0, none⟩), strV s] w fun e w' => LineQ r st B L s w e w' := by
 obtain ⟨i0, hi0, hz0, hz1, hz2⟩ := info_parts infoL
 have hW := words_p s w hl hg
 rw [hws] at hW
 have HW := Lib.hid hW
 have HR := Lib.hid hr
 have HG := Lib.hid hg
 have HB := Lib.hid hB
 have HWS := Lib.hid hws
 have hrw := hr.blk.lt
 clear hW hr hg hB hws
 go_enter Tryz.func48, Tryz.ntmps48
 go_wp2_with fail
 go_step3
 go_wp2_with fail
 (refine HW.out.mono ?_); rintro ev w1 ⟨v, rfl, hown, hb1⟩
 obtain ⟨_, bw, cw, rfl, hbw, hbw2, hcw, hq⟩ := wordsK hown (show 0 < 2 by decide)
 clear HW
 have hq0 := hq 0 kNum rfl
 have hq1 := hq 1 a rfl
 go_upto_region 3 with fail
 obtain ⟨cf, hcf⟩ : ∃ cf, w1.heap.size = cf := ⟨_, rfl⟩
 obtain ⟨W2, hW2⟩ : ∃ W2, w1.alloc (.cells #[.bool true] 141) = W2 := ⟨_, rfl⟩
 have hb2 : Below w.heap.size w W2 := by rw [<- hW2]; exact bal hb1 _
 have hk2 : Blk W2 cf 141 #[.bool true] := by rw [<- hW2, <- hcf]; exact Blk.new _ _ _
 have p0 : W2.cell? ⟨bw, 0, none⟩ = some (.string ⟨#[110, 117, 109]⟩) := by rw [<- hW2, World.cell?_alloc_lt _ _ _ hbw2]; exact hq0
 have p1 : W2.cell? ⟨bw, 1, none⟩ = some (strV a) := by rw [<- hW2, World.cell?_alloc_lt _ _ _ hbw2]; exact hq1
 have hbc : bw < cf := by omega
 have hwc : w.heap.size <= cf := by omega
 have y2 : W2.cell? ⟨r, 2, none⟩ = some L.nv := ((HR.out.grow hb2).blk.cell 2).trans rfl
 rw [hW2, hcf]
 have H2 := Lib.hid (And.intro hb2 (And.intro hk2 (And.intro hbc (And.intro hwc hbw))))
 clear hq0 hq1 hq hW2 hcf hb1 hb2 hk2 hown hbw2 hbc hwc hbw hcw
 go_upto_region 7 with fail
 refine wp_region_held_drew (S := (fun W' => W'.cell? ⟨bw, 1, none⟩ = some (strV a))) (by kernel_rfl) ?ss1 (fun hHeld => ?rr1)
 case ss1 => (try dsimp only); exact p1
 refine rgt 0 31 rfl rfl hHeld ?_
 try simp only [Act.put, rg1, rg2, rg3]
 refine rgt 1 32 rfl rfl hHeld ?_
 try simp only [Act.put, rg1, rg2, rg3]
 refine rgt 2 33 rfl rfl hHeld ?_
 try simp only [Act.put, rg1, rg2, rg3]
 refine rgt 3 34 rfl rfl hHeld ?_
 try simp only [Act.put, rg1, rg2, rg3]
 refine rgt 4 35 rfl rfl hHeld ?_
 try simp only [Act.put, rg1, rg2, rg3]
 refine rgt 6 37 rfl rfl hHeld ?_
 try simp only [Act.put, rg1, rg2, rg3]
 refine rgt 7 38 rfl rfl hHeld ?_
 try simp only [Act.put, rg1, rg2, rg3]
 refine rgt 8 39 rfl rfl hHeld ?_
 try simp only [Act.put, rg1, rg2, rg3]
 refine rgt 9 40 rfl rfl hHeld ?_
 try simp only [Act.put, rg1, rg2, rg3]
 refine wpAnyH_ready (rs := [5, 10]) (by kernel_rfl) (by simp) ?_
 refine AllReadyH.cons (o := ⟨some 36, _, _, _, _, _⟩) rfl (fun K hK => ?br11) (AllReadyH.cons (o := ⟨some 41, _, _, _, _, _⟩) rfl (fun K hK => ?br12) AllReadyH.nil)
 case br11 =>
  go_simp
  refine hK.out _ _ ?ss13 (fun hHeld2 => ?rr13)
  case ss13 => (try dsimp only); exact hHeld
  clear hK K
  clear hHeld2
  try simp only [Act.put, rg1, rg2, rg3]
  refine rgc 10 (some 41) rfl (fun K hK => ?_)
  go_simp
  ((refine (any_c cf a true _ hla ((HG.out.on H2.out.1).on (bdr b0 1)) H2.out.2.1.drew (by have := H2.out.2.2.2.1; omega)).mono ?_); rintro e w3 ⟨n, rfl, hn, hv, hk3, hbt⟩; have hb3 : Below w.heap.size w w3 := (bdr H2.out.1 1).trans (hbt.below (bdr H2.out.1 1).size fun k hk => by have := H2.out.2.2.2.1; omega); have y3 : w3.cell? ⟨r, 2, none⟩ = some L.nv := ((HR.out.grow hb3).blk.cell 2).trans rfl; have q3 : w3.cell? ⟨bw, 1, none⟩ = some (strV a) := (World.cell?_of_block (hbt.block bw (by have := H2.out.2.1.lt; have := H2.out.2.2.1; exact Nat.lt_trans H2.out.2.2.1 H2.out.2.1.lt) (Nat.ne_of_lt H2.out.2.2.1))).trans p1; have F3 := Lib.hid (And.intro hn (And.intro hv (And.intro hk3 (And.intro hb3 hbt)))); clear hv hk3 hb3 hbt)
  refine hK.out _ _ ?ss14 (fun hHeld2 => ?rr14)
  case ss14 => (try dsimp only); exact q3
  clear hK K
  clear hHeld
  have hHeld := hHeld2
  clear hHeld2
  try simp only [Act.put, rg1, rg2, rg3]
  refine rgc 11 (some 42) rfl (fun K hK => ?_)
  go_simp
  go_simp; have y4 : (w3.alloc (.cells #[.int .i64 n] 2)).cell? ⟨r, 2, none⟩ = some L.nv := ((HR.out.grow (bal F3.out.2.2.2.1 _)).blk.cell 2).trans rfl
  refine hK.out _ _ ?ss15 (fun hHeld2 => ?rr15)
  case ss15 => (try dsimp only); exact (World.cell?_alloc_lt _ _ _ (Nat.lt_trans H2.out.2.2.1 F3.out.2.2.1.lt)).trans q3
  clear hK K
  clear hHeld
  have hHeld := hHeld2
  clear hHeld2
  try simp only [Act.put, rg1, rg2, rg3]
  refine rgc 12 (some 43) rfl (fun K hK => ?_)
  (refine step_append_fine rfl (.tmp 36) (.tmp 42) _ rfl (r + 1) 2 i0 _ 1 8 Tryz.underlying24 hi0 hz0 hz1 hz2 rfl L.nv L.nums.length (numC L.nums) rfl ((HR.out.grow (bal F3.out.2.2.2.1 _)).own.own (rowN L) (rowN_in L)) (w3.heap.size + 1) (some ⟨w3.heap.size, 0, none⟩) 1 1 [.int .i64 n] rfl (Sl.one w3 _ _) (fun u hu => by rw [List.mem_singleton.1 hu]; rfl) (by decide) (by have := HB.out.n; unfold maxLen; omega) (by have := HB.out.n; omega) (by have := (bal F3.out.2.2.2.1 (.cells #[.int .i64 n] 2)).size; omega) ?_); (intro V' w4 ho4 ht4); (obtain ⟨AV, cV, rfl, _, _⟩ := own_shape ho4); have k4 := (HR.out.grow (bal F3.out.2.2.2.1 _)).far (rowN_in L) ht4; have y5 := (k4.cell 2).trans rfl; have z5 := k4.frozen 2; simp only [List.getElem?_toArray, List.getElem?_cons_zero, List.getElem?_cons_succ] at y5; have q5 : w4.cell? ⟨bw, 1, none⟩ = some (strV a) := (World.cell?_of_block (ht4.block (by rw [World.size_alloc]; exact Nat.lt_succ_of_lt (Nat.lt_trans H2.out.2.2.1 F3.out.2.2.1.lt)) (HR.out.away (rowN_in L) H2.out.2.2.2.2))).trans ((World.cell?_alloc_lt _ _ _ (Nat.lt_trans H2.out.2.2.1 F3.out.2.2.1.lt)).trans q3)
  refine hK.out _ _ ?ss16 (fun hHeld2 => ?rr16)
  case ss16 => (try dsimp only); exact q5
  clear hK K
  clear hHeld
  have hHeld := hHeld2
  clear hHeld2
  try simp only [Act.put, rg1, rg2, rg3]
  refine rgt 13 44 rfl rfl hHeld ?_
  try simp only [Act.put, rg1, rg2, rg3]
  refine rgt 14 45 rfl rfl hHeld ?_
  try simp only [Act.put, rg1, rg2, rg3]
  refine rgt 15 46 rfl rfl hHeld ?_
  try simp only [Act.put, rg1, rg2, rg3]
  refine rgc 16 (none) rfl (fun K hK => ?_)
  go_simp
  go_simp
  refine hK.out _ _ ?ss20 (fun hHeld2 => ?rr20)
  case ss20 => (try dsimp only); exact (World.cell?_setCell_other _ _ _ _ (fun e => by have := H2.out.2.2.2.2; injection e with e; omega)).trans q5
  clear hK K
  clear hHeld
  have hHeld := hHeld2
  clear hHeld2
  try simp only [Act.put, rg1, rg2, rg3]
  refine wpAnyH_done (by kernel_rfl) ?_ _
  have hr5 := RAt.num (HR.out.grow (bal F3.out.2.2.2.1 _)) ht4 ho4
  have hk5 : Blk (w4.setCell ⟨r, 2, none⟩ (.slice AV (L.nums.length + 1) cV)) cf 141 #[.bool (numV a).isSome] := by
   have h := F3.out.2.2.1
   simp only [numB_all, Bool.true_and] at h
   exact Blk.far ((ht4.block (by rw [World.size_alloc]; exact Nat.lt_succ_of_lt h.lt) (HR.out.away (rowN_in L) H2.out.2.2.2.1)).trans (h.alloc _)) (show cf ≠ r by have := H2.out.2.2.2.1; omega) _
  have hb5 : Below r w (w4.setCell ⟨r, 2, none⟩ (.slice AV (L.nums.length + 1) cV)) :=
   below_set (((bal F3.out.2.2.2.1 (.cells #[.int .i64 n] 2)).mono (Nat.le_of_lt hrw)).trans ((HR.out.grow (bal F3.out.2.2.2.1 (.cells #[.int .i64 n] 2))).but (rowN_in L) ht4)) (Nat.le_refl r) _
  have hlb : LB { L with nums := L.nums ++ [n], nv := .slice AV (L.nums.length + 1) cV } (B + 1) := by
   obtain ⟨l1, l2, l3, l4, l5, l6⟩ := HB.out
   exact ⟨by (try simp only [List.length_append, List.length_singleton]); omega, by (try simp only [List.length_append, List.length_singleton]); omega, by (try simp only [List.length_append, List.length_singleton]); omega, by (try simp only [List.length_append, List.length_singleton]); omega, by (try simp only [List.length_append, List.length_singleton]); omega, fun g hg => by have := l6 g hg; omega⟩
  have hi : rdItem (wordsP s) = (numV a).map .num := by rw [HWS.out]; unfold rdItem; simp [kNum, kText, kType]
  have hvv := F3.out.2.1
  try simp only [numB_all] at hvv
  obtain ⟨W5, hW5⟩ : ∃ X, w4.setCell ⟨r, 2, none⟩ (.slice AV (L.nums.length + 1) cV) = X := ⟨_, rfl⟩
  rw [hW5] at hr5 hk5 hb5 ⊢
  have cr := (hr5.blk.cell 5).trans rfl
  have zr := hr5.blk.frozen 5
  have ck := (hk5.cell 0).trans rfl
  simp only [List.getElem?_toArray, List.getElem?_cons_zero, List.getElem?_cons_succ] at cr ck
  have h6 : ∀ i, (numV a).map Item.num = some i -> (CoL.code { L with nums := L.nums ++ [n], nv := .slice AV (L.nums.length + 1) cV }) = addI L.code i /\ stageI i = 1 := by
   intro i hi2
   obtain ⟨v, hv, rfl⟩ := Option.map_eq_some_iff.1 hi2
   rw [<- hvv v hv]
   exact ⟨rfl, rfl⟩
  have H5 := Lib.hid (And.intro hr5 (And.intro hb5 (And.intro hlb (And.intro hi h6))))
  clear hr5 hb5 hlb hi h6 hvv hk5 hW5 ht4 ho4 y3 y4 y5 z5 q3 q5 k4 F3 hHeld p0 p1 y2
  rcases hv : numV a with _ | v
  ·
   rw [hv] at ck
   simp only [Option.isSome_none] at ck
   have HV := Lib.hid hv
   clear hv
   go_wp2_with fail
   go_step3
   go_wp2_with fail
   rw [Exit.noGoto_ret]
   go_ret
   exact line_no (by rw [H5.out.2.2.2.1, HV.out]; rfl) H5.out.2.1
  ·
   rw [hv] at ck
   simp only [Option.isSome_some] at ck
   have HV := Lib.hid hv
   clear hv
   by_cases hs : st <= 1
   ·
    have hd : decide ((st : Int) <= 1) = true := by simp; omega
    have HS := Lib.hid hs
    clear hs
    go_wp2_with fail
    rw [Exit.noGoto_ret]
    go_ret
    exact line_yes (cf := cf) H5.out.2.2.2.1 H5.out.1 H5.out.2.2.1 H5.out.2.1 (by rw [HV.out]; rfl) H5.out.2.2.2.2 (fun i hi2 hx => by obtain ⟨v, _, rfl⟩ := Option.map_eq_some_iff.1 hi2; cases hx) HS.out
   ·
    have hd : decide ((st : Int) <= 1) = false := by simp; omega
    have HS := Lib.hid hs
    clear hs
    go_wp2_with fail
    go_step3
    go_wp2_with fail
    rw [Exit.noGoto_ret]
    go_ret
    exact line_late (cf := cf) H5.out.2.2.2.1 H5.out.2.1 H5.out.2.2.2.2 HS.out
 case br12 =>
  go_simp
  ((refine (any_c cf a true _ hla ((HG.out.on H2.out.1).on (bdr b0 1)) H2.out.2.1.drew (by have := H2.out.2.2.2.1; omega)).mono ?_); rintro e w3 ⟨n, rfl, hn, hv, hk3, hbt⟩; have hb3 : Below w.heap.size w w3 := (bdr H2.out.1 1).trans (hbt.below (bdr H2.out.1 1).size fun k hk => by have := H2.out.2.2.2.1; omega); have y3 : w3.cell? ⟨r, 2, none⟩ = some L.nv := ((HR.out.grow hb3).blk.cell 2).trans rfl; have q3 : w3.cell? ⟨bw, 1, none⟩ = some (strV a) := (World.cell?_of_block (hbt.block bw (by have := H2.out.2.1.lt; have := H2.out.2.2.1; exact Nat.lt_trans H2.out.2.2.1 H2.out.2.1.lt) (Nat.ne_of_lt H2.out.2.2.1))).trans p1; have F3 := Lib.hid (And.intro hn (And.intro hv (And.intro hk3 (And.intro hb3 hbt)))); clear hv hk3 hb3 hbt)
  refine hK.out _ _ ?ss21 (fun hHeld2 => ?rr21)
  case ss21 => (try dsimp only); exact q3
  clear hK K
  clear hHeld
  have hHeld := hHeld2
  clear hHeld2
  try simp only [Act.put, rg1, rg2, rg3]
  refine wpAnyH_ready (rs := [5, 11]) (by kernel_rfl) (by simp) ?_
  refine AllReadyH.cons (o := ⟨some 36, _, _, _, _, _⟩) rfl (fun K hK => ?br22) (AllReadyH.cons (o := ⟨some 42, _, _, _, _, _⟩) rfl (fun K hK => ?br23) AllReadyH.nil)
  case br22 =>
   go_simp
   refine hK.out _ _ ?ss24 (fun hHeld2 => ?rr24)
   case ss24 => (try dsimp only); exact hHeld
   clear hK K
   clear hHeld2
   try simp only [Act.put, rg1, rg2, rg3]
   refine rgc 11 (some 42) rfl (fun K hK => ?_)
   go_simp
   go_simp; have y4 : (w3.alloc (.cells #[.int .i64 n] 2)).cell? ⟨r, 2, none⟩ = some L.nv := ((HR.out.grow (bal F3.out.2.2.2.1 _)).blk.cell 2).trans rfl
   refine hK.out _ _ ?ss25 (fun hHeld2 => ?rr25)
   case ss25 => (try dsimp only); exact (World.cell?_alloc_lt _ _ _ (Nat.lt_trans H2.out.2.2.1 F3.out.2.2.1.lt)).trans q3
   clear hK K
   clear hHeld
   have hHeld := hHeld2
   clear hHeld2
   try simp only [Act.put, rg1, rg2, rg3]
   refine rgc 12 (some 43) rfl (fun K hK => ?_)
   (refine step_append_fine rfl (.tmp 36) (.tmp 42) _ rfl (r + 1) 2 i0 _ 1 8 Tryz.underlying24 hi0 hz0 hz1 hz2 rfl L.nv L.nums.length (numC L.nums) rfl ((HR.out.grow (bal F3.out.2.2.2.1 _)).own.own (rowN L) (rowN_in L)) (w3.heap.size + 1) (some ⟨w3.heap.size, 0, none⟩) 1 1 [.int .i64 n] rfl (Sl.one w3 _ _) (fun u hu => by rw [List.mem_singleton.1 hu]; rfl) (by decide) (by have := HB.out.n; unfold maxLen; omega) (by have := HB.out.n; omega) (by have := (bal F3.out.2.2.2.1 (.cells #[.int .i64 n] 2)).size; omega) ?_); (intro V' w4 ho4 ht4); (obtain ⟨AV, cV, rfl, _, _⟩ := own_shape ho4); have k4 := (HR.out.grow (bal F3.out.2.2.2.1 _)).far (rowN_in L) ht4; have y5 := (k4.cell 2).trans rfl; have z5 := k4.frozen 2; simp only [List.getElem?_toArray, List.getElem?_cons_zero, List.getElem?_cons_succ] at y5; have q5 : w4.cell? ⟨bw, 1, none⟩ = some (strV a) := (World.cell?_of_block (ht4.block (by rw [World.size_alloc]; exact Nat.lt_succ_of_lt (Nat.lt_trans H2.out.2.2.1 F3.out.2.2.1.lt)) (HR.out.away (rowN_in L) H2.out.2.2.2.2))).trans ((World.cell?_alloc_lt _ _ _ (Nat.lt_trans H2.out.2.2.1 F3.out.2.2.1.lt)).trans q3)
   refine hK.out _ _ ?ss26 (fun hHeld2 => ?rr26)
   case ss26 => (try dsimp only); exact q5
   clear hK K
   clear hHeld
   have hHeld := hHeld2
   clear hHeld2
   try simp only [Act.put, rg1, rg2, rg3]
   refine rgt 13 44 rfl rfl hHeld ?_
   try simp only [Act.put, rg1, rg2, rg3]
   refine rgt 14 45 rfl rfl hHeld ?_
   try simp only [Act.put, rg1, rg2, rg3]
   refine rgt 15 46 rfl rfl hHeld ?_
   try simp only [Act.put, rg1, rg2, rg3]
   refine rgc 16 (none) rfl (fun K hK => ?_)
   go_simp
   go_simp
   refine hK.out _ _ ?ss30 (fun hHeld2 => ?rr30)
   case ss30 => (try dsimp only); exact (World.cell?_setCell_other _ _ _ _ (fun e => by have := H2.out.2.2.2.2; injection e with e; omega)).trans q5
   clear hK K
   clear hHeld
   have hHeld := hHeld2
   clear hHeld2
   try simp only [Act.put, rg1, rg2, rg3]
   refine wpAnyH_done (by kernel_rfl) ?_ _
   have hr5 := RAt.num (HR.out.grow (bal F3.out.2.2.2.1 _)) ht4 ho4
   have hk5 : Blk (w4.setCell ⟨r, 2, none⟩ (.slice AV (L.nums.length + 1) cV)) cf 141 #[.bool (numV a).isSome] := by
    have h := F3.out.2.2.1
    simp only [numB_all, Bool.true_and] at h
    exact Blk.far ((ht4.block (by rw [World.size_alloc]; exact Nat.lt_succ_of_lt h.lt) (HR.out.away (rowN_in L) H2.out.2.2.2.1)).trans (h.alloc _)) (show cf ≠ r by have := H2.out.2.2.2.1; omega) _
   have hb5 : Below r w (w4.setCell ⟨r, 2, none⟩ (.slice AV (L.nums.length + 1) cV)) :=
    below_set (((bal F3.out.2.2.2.1 (.cells #[.int .i64 n] 2)).mono (Nat.le_of_lt hrw)).trans ((HR.out.grow (bal F3.out.2.2.2.1 (.cells #[.int .i64 n] 2))).but (rowN_in L) ht4)) (Nat.le_refl r) _
   have hlb : LB { L with nums := L.nums ++ [n], nv := .slice AV (L.nums.length + 1) cV } (B + 1) := by
    obtain ⟨l1, l2, l3, l4, l5, l6⟩ := HB.out
    exact ⟨by (try simp only [List.length_append, List.length_singleton]); omega, by (try simp only [List.length_append, List.length_singleton]); omega, by (try simp only [List.length_append, List.length_singleton]); omega, by (try simp only [List.length_append, List.length_singleton]); omega, by (try simp only [List.length_append, List.length_singleton]); omega, fun g hg => by have := l6 g hg; omega⟩
   have hi : rdItem (wordsP s) = (numV a).map .num := by rw [HWS.out]; unfold rdItem; simp [kNum, kText, kType]
   have hvv := F3.out.2.1
   try simp only [numB_all] at hvv
   obtain ⟨W5, hW5⟩ : ∃ X, w4.setCell ⟨r, 2, none⟩ (.slice AV (L.nums.length + 1) cV) = X := ⟨_, rfl⟩
   rw [hW5] at hr5 hk5 hb5 ⊢
   have cr := (hr5.blk.cell 5).trans rfl
   have zr := hr5.blk.frozen 5
   have ck := (hk5.cell 0).trans rfl
   simp only [List.getElem?_toArray, List.getElem?_cons_zero, List.getElem?_cons_succ] at cr ck
   have h6 : ∀ i, (numV a).map Item.num = some i -> (CoL.code { L with nums := L.nums ++ [n], nv := .slice AV (L.nums.length + 1) cV }) = addI L.code i /\ stageI i = 1 := by
    intro i hi2
    obtain ⟨v, hv, rfl⟩ := Option.map_eq_some_iff.1 hi2
    rw [<- hvv v hv]
    exact ⟨rfl, rfl⟩
   have H5 := Lib.hid (And.intro hr5 (And.intro hb5 (And.intro hlb (And.intro hi h6))))
   clear hr5 hb5 hlb hi h6 hvv hk5 hW5 ht4 ho4 y3 y4 y5 z5 q3 q5 k4 F3 hHeld p0 p1 y2
   rcases hv : numV a with _ | v
   ·
    rw [hv] at ck
    simp only [Option.isSome_none] at ck
    have HV := Lib.hid hv
    clear hv
    go_wp2_with fail
    go_step3
    go_wp2_with fail
    rw [Exit.noGoto_ret]
    go_ret
    exact line_no (by rw [H5.out.2.2.2.1, HV.out]; rfl) H5.out.2.1
   ·
    rw [hv] at ck
    simp only [Option.isSome_some] at ck
    have HV := Lib.hid hv
    clear hv
    by_cases hs : st <= 1
    ·
     have hd : decide ((st : Int) <= 1) = true := by simp; omega
     have HS := Lib.hid hs
     clear hs
     go_wp2_with fail
     rw [Exit.noGoto_ret]
     go_ret
     exact line_yes (cf := cf) H5.out.2.2.2.1 H5.out.1 H5.out.2.2.1 H5.out.2.1 (by rw [HV.out]; rfl) H5.out.2.2.2.2 (fun i hi2 hx => by obtain ⟨v, _, rfl⟩ := Option.map_eq_some_iff.1 hi2; cases hx) HS.out
    ·
     have hd : decide ((st : Int) <= 1) = false := by simp; omega
     have HS := Lib.hid hs
     clear hs
     go_wp2_with fail
     go_step3
     go_wp2_with fail
     rw [Exit.noGoto_ret]
     go_ret
     exact line_late (cf := cf) H5.out.2.2.2.1 H5.out.2.1 H5.out.2.2.2.2 HS.out
  case br23 =>
   go_simp
   go_simp; have y4 : (w3.alloc (.cells #[.int .i64 n] 2)).cell? ⟨r, 2, none⟩ = some L.nv := ((HR.out.grow (bal F3.out.2.2.2.1 _)).blk.cell 2).trans rfl
   refine hK.out _ _ ?ss31 (fun hHeld2 => ?rr31)
   case ss31 => (try dsimp only); exact (World.cell?_alloc_lt _ _ _ (Nat.lt_trans H2.out.2.2.1 F3.out.2.2.1.lt)).trans q3
   clear hK K
   clear hHeld
   have hHeld := hHeld2
   clear hHeld2
   try simp only [Act.put, rg1, rg2, rg3]
   refine rgc 5 (some 36) rfl (fun K hK => ?_)
   go_simp
   refine hK.out _ _ ?ss32 (fun hHeld2 => ?rr32)
   case ss32 => (try dsimp only); exact hHeld
   clear hK K
   clear hHeld2
   try simp only [Act.put, rg1, rg2, rg3]
   refine rgc 12 (some 43) rfl (fun K hK => ?_)
   (refine step_append_fine rfl (.tmp 36) (.tmp 42) _ rfl (r + 1) 2 i0 _ 1 8 Tryz.underlying24 hi0 hz0 hz1 hz2 rfl L.nv L.nums.length (numC L.nums) rfl ((HR.out.grow (bal F3.out.2.2.2.1 _)).own.own (rowN L) (rowN_in L)) (w3.heap.size + 1) (some ⟨w3.heap.size, 0, none⟩) 1 1 [.int .i64 n] rfl (Sl.one w3 _ _) (fun u hu => by rw [List.mem_singleton.1 hu]; rfl) (by decide) (by have := HB.out.n; unfold maxLen; omega) (by have := HB.out.n; omega) (by have := (bal F3.out.2.2.2.1 (.cells #[.int .i64 n] 2)).size; omega) ?_); (intro V' w4 ho4 ht4); (obtain ⟨AV, cV, rfl, _, _⟩ := own_shape ho4); have k4 := (HR.out.grow (bal F3.out.2.2.2.1 _)).far (rowN_in L) ht4; have y5 := (k4.cell 2).trans rfl; have z5 := k4.frozen 2; simp only [List.getElem?_toArray, List.getElem?_cons_zero, List.getElem?_cons_succ] at y5; have q5 : w4.cell? ⟨bw, 1, none⟩ = some (strV a) := (World.cell?_of_block (ht4.block (by rw [World.size_alloc]; exact Nat.lt_succ_of_lt (Nat.lt_trans H2.out.2.2.1 F3.out.2.2.1.lt)) (HR.out.away (rowN_in L) H2.out.2.2.2.2))).trans ((World.cell?_alloc_lt _ _ _ (Nat.lt_trans H2.out.2.2.1 F3.out.2.2.1.lt)).trans q3)
   refine hK.out _ _ ?ss33 (fun hHeld2 => ?rr33)
   case ss33 => (try dsimp only); exact q5
   clear hK K
   clear hHeld
   have hHeld := hHeld2
   clear hHeld2
   try simp only [Act.put, rg1, rg2, rg3]
   refine rgt 13 44 rfl rfl hHeld ?_
   try simp only [Act.put, rg1, rg2, rg3]
   refine rgt 14 45 rfl rfl hHeld ?_
   try simp only [Act.put, rg1, rg2, rg3]
   refine rgt 15 46 rfl rfl hHeld ?_
   try simp only [Act.put, rg1, rg2, rg3]
   refine rgc 16 (none) rfl (fun K hK => ?_)
   go_simp
   go_simp
   refine hK.out _ _ ?ss37 (fun hHeld2 => ?rr37)
   case ss37 => (try dsimp only); exact (World.cell?_setCell_other _ _ _ _ (fun e => by have := H2.out.2.2.2.2; injection e with e; omega)).trans q5
   clear hK K
   clear hHeld
   have hHeld := hHeld2
   clear hHeld2
   try simp only [Act.put, rg1, rg2, rg3]
   refine wpAnyH_done (by kernel_rfl) ?_ _
   have hr5 := RAt.num (HR.out.grow (bal F3.out.2.2.2.1 _)) ht4 ho4
   have hk5 : Blk (w4.setCell ⟨r, 2, none⟩ (.slice AV (L.nums.length + 1) cV)) cf 141 #[.bool (numV a).isSome] := by
    have h := F3.out.2.2.1
    simp only [numB_all, Bool.true_and] at h
    exact Blk.far ((ht4.block (by rw [World.size_alloc]; exact Nat.lt_succ_of_lt h.lt) (HR.out.away (rowN_in L) H2.out.2.2.2.1)).trans (h.alloc _)) (show cf ≠ r by have := H2.out.2.2.2.1; omega) _
   have hb5 : Below r w (w4.setCell ⟨r, 2, none⟩ (.slice AV (L.nums.length + 1) cV)) :=
    below_set (((bal F3.out.2.2.2.1 (.cells #[.int .i64 n] 2)).mono (Nat.le_of_lt hrw)).trans ((HR.out.grow (bal F3.out.2.2.2.1 (.cells #[.int .i64 n] 2))).but (rowN_in L) ht4)) (Nat.le_refl r) _
   have hlb : LB { L with nums := L.nums ++ [n], nv := .slice AV (L.nums.length + 1) cV } (B + 1) := by
    obtain ⟨l1, l2, l3, l4, l5, l6⟩ := HB.out
    exact ⟨by (try simp only [List.length_append, List.length_singleton]); omega, by (try simp only [List.length_append, List.length_singleton]); omega, by (try simp only [List.length_append, List.length_singleton]); omega, by (try simp only [List.length_append, List.length_singleton]); omega, by (try simp only [List.length_append, List.length_singleton]); omega, fun g hg => by have := l6 g hg; omega⟩
   have hi : rdItem (wordsP s) = (numV a).map .num := by rw [HWS.out]; unfold rdItem; simp [kNum, kText, kType]
   have hvv := F3.out.2.1
   try simp only [numB_all] at hvv
   obtain ⟨W5, hW5⟩ : ∃ X, w4.setCell ⟨r, 2, none⟩ (.slice AV (L.nums.length + 1) cV) = X := ⟨_, rfl⟩
   rw [hW5] at hr5 hk5 hb5 ⊢
   have cr := (hr5.blk.cell 5).trans rfl
   have zr := hr5.blk.frozen 5
   have ck := (hk5.cell 0).trans rfl
   simp only [List.getElem?_toArray, List.getElem?_cons_zero, List.getElem?_cons_succ] at cr ck
   have h6 : ∀ i, (numV a).map Item.num = some i -> (CoL.code { L with nums := L.nums ++ [n], nv := .slice AV (L.nums.length + 1) cV }) = addI L.code i /\ stageI i = 1 := by
    intro i hi2
    obtain ⟨v, hv, rfl⟩ := Option.map_eq_some_iff.1 hi2
    rw [<- hvv v hv]
    exact ⟨rfl, rfl⟩
   have H5 := Lib.hid (And.intro hr5 (And.intro hb5 (And.intro hlb (And.intro hi h6))))
   clear hr5 hb5 hlb hi h6 hvv hk5 hW5 ht4 ho4 y3 y4 y5 z5 q3 q5 k4 F3 hHeld p0 p1 y2
   rcases hv : numV a with _ | v
   ·
    rw [hv] at ck
    simp only [Option.isSome_none] at ck
    have HV := Lib.hid hv
    clear hv
    go_wp2_with fail
    go_step3
    go_wp2_with fail
    rw [Exit.noGoto_ret]
    go_ret
    exact line_no (by rw [H5.out.2.2.2.1, HV.out]; rfl) H5.out.2.1
   ·
    rw [hv] at ck
    simp only [Option.isSome_some] at ck
    have HV := Lib.hid hv
    clear hv
    by_cases hs : st <= 1
    ·
     have hd : decide ((st : Int) <= 1) = true := by simp; omega
     have HS := Lib.hid hs
     clear hs
     go_wp2_with fail
     rw [Exit.noGoto_ret]
     go_ret
     exact line_yes (cf := cf) H5.out.2.2.2.1 H5.out.1 H5.out.2.2.1 H5.out.2.1 (by rw [HV.out]; rfl) H5.out.2.2.2.2 (fun i hi2 hx => by obtain ⟨v, _, rfl⟩ := Option.map_eq_some_iff.1 hi2; cases hx) HS.out
    ·
     have hd : decide ((st : Int) <= 1) = false := by simp; omega
     have HS := Lib.hid hs
     clear hs
     go_wp2_with fail
     go_step3
     go_wp2_with fail
     rw [Exit.noGoto_ret]
     go_ret
     exact line_late (cf := cf) H5.out.2.2.2.1 H5.out.2.1 H5.out.2.2.2.2 HS.out
set_option maxRecDepth 100000 in
set_option maxHeartbeats 4000000 in
theorem line_text (r st B : Nat) (L : CoL) (s a : Bs) (w : World) (hl : s.length <= 1073741824) (hg : Gl w) (h8 : 8 <= r) (hr : RAt w r L st) (hB : LB L B) (hBb : B <= 1073741824) (hws : wordsP s = [kText, a]) (hla : a.length <= 1073741824) :
  Calls Tryz.prog 48 #[.pointer (some ⟨r, 0, none⟩), strV s] w fun e w' => LineQ r st B L s w e w' := by
 obtain ⟨i0, hi0, hz0, hz1, hz2⟩ := info_parts info9
 have hW := words_p s w hl hg
 rw [hws] at hW
 have HW := Lib.hid hW
 have HR := Lib.hid hr
 have HG := Lib.hid hg
 have HB := Lib.hid hB
 have HWS := Lib.hid hws
 have hrw := hr.blk.lt
 clear hW hr hg hB hws
 go_enter Tryz.func48, Tryz.ntmps48
 go_wp2_with fail
 go_step3
 go_wp2_with fail
 (refine HW.out.mono ?_); rintro ev w1 ⟨v, rfl, hown, hb1⟩
 obtain ⟨_, bw, cw, rfl, hbw, hbw2, hcw, hq⟩ := wordsK hown (show 0 < 2 by decide)
 clear HW
 have hq0 := hq 0 kText rfl
 have hq1 := hq 1 a rfl
 go_upto_region 3 with fail
 obtain ⟨cf, hcf⟩ : ∃ cf, w1.heap.size = cf := ⟨_, rfl⟩
 obtain ⟨W2, hW2⟩ : ∃ W2, w1.alloc (.cells #[.bool true] 141) = W2 := ⟨_, rfl⟩
 have hb2 : Below w.heap.size w W2 := by rw [<- hW2]; exact bal hb1 _
 have hk2 : Blk W2 cf 141 #[.bool true] := by rw [<- hW2, <- hcf]; exact Blk.new _ _ _
 have p0 : W2.cell? ⟨bw, 0, none⟩ = some (.string ⟨#[116, 101, 120, 116]⟩) := by rw [<- hW2, World.cell?_alloc_lt _ _ _ hbw2]; exact hq0
 have p1 : W2.cell? ⟨bw, 1, none⟩ = some (strV a) := by rw [<- hW2, World.cell?_alloc_lt _ _ _ hbw2]; exact hq1
 have hbc : bw < cf := by omega
 have hwc : w.heap.size <= cf := by omega
 have y2 : W2.cell? ⟨r, 3, none⟩ = some L.tv := ((HR.out.grow hb2).blk.cell 3).trans rfl
 rw [hW2, hcf]
 have H2 := Lib.hid (And.intro hb2 (And.intro hk2 (And.intro hbc (And.intro hwc hbw))))
 clear hq0 hq1 hq hW2 hcf hb1 hb2 hk2 hown hbw2 hbc hwc hbw hcw
 go_upto_region 10 with fail
 refine wp_region_held_drew (S := (fun W' => W'.cell? ⟨bw, 1, none⟩ = some (strV a))) (by kernel_rfl) ?ss38 (fun hHeld => ?rr38)
 case ss38 => (try dsimp only); exact p1
 refine rgt 0 56 rfl rfl hHeld ?_
 try simp only [Act.put, rg1, rg2, rg3]
 refine rgt 1 57 rfl rfl hHeld ?_
 try simp only [Act.put, rg1, rg2, rg3]
 refine rgt 2 58 rfl rfl hHeld ?_
 try simp only [Act.put, rg1, rg2, rg3]
 refine rgt 3 59 rfl rfl hHeld ?_
 try simp only [Act.put, rg1, rg2, rg3]
 refine rgt 4 60 rfl rfl hHeld ?_
 try simp only [Act.put, rg1, rg2, rg3]
 refine rgt 6 62 rfl rfl hHeld ?_
 try simp only [Act.put, rg1, rg2, rg3]
 refine rgt 7 63 rfl rfl hHeld ?_
 try simp only [Act.put, rg1, rg2, rg3]
 refine rgt 8 64 rfl rfl hHeld ?_
 try simp only [Act.put, rg1, rg2, rg3]
 refine rgt 9 65 rfl rfl hHeld ?_
 try simp only [Act.put, rg1, rg2, rg3]
 refine wpAnyH_ready (rs := [5, 10]) (by kernel_rfl) (by simp) ?_
 refine AllReadyH.cons (o := ⟨some 61, _, _, _, _, _⟩) rfl (fun K hK => ?br48) (AllReadyH.cons (o := ⟨some 66, _, _, _, _, _⟩) rfl (fun K hK => ?br49) AllReadyH.nil)
 case br48 =>
  go_simp
  refine hK.out _ _ ?ss50 (fun hHeld2 => ?rr50)
  case ss50 => (try dsimp only); exact hHeld
  clear hK K
  clear hHeld2
  try simp only [Act.put, rg1, rg2, rg3]
  refine rgc 10 (some 66) rfl (fun K hK => ?_)
  go_simp
  ((refine (textF_c cf a true _ hla ((HG.out.on H2.out.1).on (bdr b0 1)) H2.out.2.1.drew (by have := H2.out.2.2.2.1; omega)).mono ?_); rintro e w3 ⟨n, rfl, hv, hk3, hbt⟩; have hb3 : Below w.heap.size w w3 := (bdr H2.out.1 1).trans (hbt.below (bdr H2.out.1 1).size fun k hk => by have := H2.out.2.2.2.1; omega); have y3 : w3.cell? ⟨r, 3, none⟩ = some L.tv := ((HR.out.grow hb3).blk.cell 3).trans rfl; have q3 : w3.cell? ⟨bw, 1, none⟩ = some (strV a) := (World.cell?_of_block (hbt.block bw (by have := H2.out.2.1.lt; have := H2.out.2.2.1; exact Nat.lt_trans H2.out.2.2.1 H2.out.2.1.lt) (Nat.ne_of_lt H2.out.2.2.1))).trans p1; have F3 := Lib.hid (And.intro trivial (And.intro hv (And.intro hk3 (And.intro hb3 hbt)))); clear hv hk3 hb3 hbt)
  refine hK.out _ _ ?ss51 (fun hHeld2 => ?rr51)
  case ss51 => (try dsimp only); exact q3
  clear hK K
  clear hHeld
  have hHeld := hHeld2
  clear hHeld2
  try simp only [Act.put, rg1, rg2, rg3]
  refine rgc 11 (some 67) rfl (fun K hK => ?_)
  go_simp
  go_simp; have y4 : (w3.alloc (.cells #[.string ⟨n.toArray⟩] 9)).cell? ⟨r, 3, none⟩ = some L.tv := ((HR.out.grow (bal F3.out.2.2.2.1 _)).blk.cell 3).trans rfl
  refine hK.out _ _ ?ss52 (fun hHeld2 => ?rr52)
  case ss52 => (try dsimp only); exact (World.cell?_alloc_lt _ _ _ (Nat.lt_trans H2.out.2.2.1 F3.out.2.2.1.lt)).trans q3
  clear hK K
  clear hHeld
  have hHeld := hHeld2
  clear hHeld2
  try simp only [Act.put, rg1, rg2, rg3]
  refine rgc 12 (some 68) rfl (fun K hK => ?_)
  (refine step_append_fine rfl (.tmp 61) (.tmp 67) _ rfl (r + 1) 9 i0 _ 1 16 Tryz.underlying25 hi0 hz0 hz1 hz2 rfl L.tv L.texts.length (envC L.texts) rfl ((HR.out.grow (bal F3.out.2.2.2.1 _)).own.own (rowT L) (rowT_in L)) (w3.heap.size + 1) (some ⟨w3.heap.size, 0, none⟩) 1 1 [.string ⟨n.toArray⟩] rfl (Sl.one w3 _ _) (fun u hu => by rw [List.mem_singleton.1 hu]; rfl) (by decide) (by have := HB.out.t; unfold maxLen; omega) (by have := HB.out.t; omega) (by have := (bal F3.out.2.2.2.1 (.cells #[.string ⟨n.toArray⟩] 9)).size; omega) ?_); (intro V' w4 ho4 ht4); (obtain ⟨AV, cV, rfl, _, _⟩ := own_shape ho4); have k4 := (HR.out.grow (bal F3.out.2.2.2.1 _)).far (rowT_in L) ht4; have y5 := (k4.cell 3).trans rfl; have z5 := k4.frozen 3; simp only [List.getElem?_toArray, List.getElem?_cons_zero, List.getElem?_cons_succ] at y5; have q5 : w4.cell? ⟨bw, 1, none⟩ = some (strV a) := (World.cell?_of_block (ht4.block (by rw [World.size_alloc]; exact Nat.lt_succ_of_lt (Nat.lt_trans H2.out.2.2.1 F3.out.2.2.1.lt)) (HR.out.away (rowT_in L) H2.out.2.2.2.2))).trans ((World.cell?_alloc_lt _ _ _ (Nat.lt_trans H2.out.2.2.1 F3.out.2.2.1.lt)).trans q3)
  refine hK.out _ _ ?ss53 (fun hHeld2 => ?rr53)
  case ss53 => (try dsimp only); exact q5
  clear hK K
  clear hHeld
  have hHeld := hHeld2
  clear hHeld2
  try simp only [Act.put, rg1, rg2, rg3]
  refine rgt 13 69 rfl rfl hHeld ?_
  try simp only [Act.put, rg1, rg2, rg3]
  refine rgt 14 70 rfl rfl hHeld ?_
  try simp only [Act.put, rg1, rg2, rg3]
  refine rgt 15 71 rfl rfl hHeld ?_
  try simp only [Act.put, rg1, rg2, rg3]
  refine rgc 16 (none) rfl (fun K hK => ?_)
  go_simp
  go_simp
  refine hK.out _ _ ?ss57 (fun hHeld2 => ?rr57)
  case ss57 => (try dsimp only); exact (World.cell?_setCell_other _ _ _ _ (fun e => by have := H2.out.2.2.2.2; injection e with e; omega)).trans q5
  clear hK K
  clear hHeld
  have hHeld := hHeld2
  clear hHeld2
  try simp only [Act.put, rg1, rg2, rg3]
  refine wpAnyH_done (by kernel_rfl) ?_ _
  have hr5 := RAt.text (HR.out.grow (bal F3.out.2.2.2.1 _)) ht4 ho4
  have hk5 : Blk (w4.setCell ⟨r, 3, none⟩ (.slice AV (L.texts.length + 1) cV)) cf 141 #[.bool (unq a).isSome] := by
   have h := F3.out.2.2.1
   simp only [numB_all, Bool.true_and] at h
   exact Blk.far ((ht4.block (by rw [World.size_alloc]; exact Nat.lt_succ_of_lt h.lt) (HR.out.away (rowT_in L) H2.out.2.2.2.1)).trans (h.alloc _)) (show cf ≠ r by have := H2.out.2.2.2.1; omega) _
  have hb5 : Below r w (w4.setCell ⟨r, 3, none⟩ (.slice AV (L.texts.length + 1) cV)) :=
   below_set (((bal F3.out.2.2.2.1 (.cells #[.string ⟨n.toArray⟩] 9)).mono (Nat.le_of_lt hrw)).trans ((HR.out.grow (bal F3.out.2.2.2.1 (.cells #[.string ⟨n.toArray⟩] 9))).but (rowT_in L) ht4)) (Nat.le_refl r) _
  have hlb : LB { L with texts := L.texts ++ [n], tv := .slice AV (L.texts.length + 1) cV } (B + 1) := by
   obtain ⟨l1, l2, l3, l4, l5, l6⟩ := HB.out
   exact ⟨by (try simp only [List.length_append, List.length_singleton]); omega, by (try simp only [List.length_append, List.length_singleton]); omega, by (try simp only [List.length_append, List.length_singleton]); omega, by (try simp only [List.length_append, List.length_singleton]); omega, by (try simp only [List.length_append, List.length_singleton]); omega, fun g hg => by have := l6 g hg; omega⟩
  have hi : rdItem (wordsP s) = (unq a).map .text := by rw [HWS.out]; unfold rdItem; simp [kNum, kText, kType]
  have hvv := F3.out.2.1
  try simp only [numB_all] at hvv
  obtain ⟨W5, hW5⟩ : ∃ X, w4.setCell ⟨r, 3, none⟩ (.slice AV (L.texts.length + 1) cV) = X := ⟨_, rfl⟩
  rw [hW5] at hr5 hk5 hb5 ⊢
  have cr := (hr5.blk.cell 5).trans rfl
  have zr := hr5.blk.frozen 5
  have ck := (hk5.cell 0).trans rfl
  simp only [List.getElem?_toArray, List.getElem?_cons_zero, List.getElem?_cons_succ] at cr ck
  have h6 : ∀ i, (unq a).map Item.text = some i -> (CoL.code { L with texts := L.texts ++ [n], tv := .slice AV (L.texts.length + 1) cV }) = addI L.code i /\ stageI i = 2 := by
   intro i hi2
   obtain ⟨v, hv, rfl⟩ := Option.map_eq_some_iff.1 hi2
   rw [<- hvv v hv]
   exact ⟨rfl, rfl⟩
  have H5 := Lib.hid (And.intro hr5 (And.intro hb5 (And.intro hlb (And.intro hi h6))))
  clear hr5 hb5 hlb hi h6 hvv hk5 hW5 ht4 ho4 y3 y4 y5 z5 q3 q5 k4 F3 hHeld p0 p1 y2
  rcases hv : unq a with _ | v
  ·
   rw [hv] at ck
   simp only [Option.isSome_none] at ck
   have HV := Lib.hid hv
   clear hv
   go_wp2_with fail
   go_step3
   go_wp2_with fail
   rw [Exit.noGoto_ret]
   go_ret
   exact line_no (by rw [H5.out.2.2.2.1, HV.out]; rfl) H5.out.2.1
  ·
   rw [hv] at ck
   simp only [Option.isSome_some] at ck
   have HV := Lib.hid hv
   clear hv
   by_cases hs : st <= 2
   ·
    have hd : decide ((st : Int) <= 2) = true := by simp; omega
    have HS := Lib.hid hs
    clear hs
    go_wp2_with fail
    rw [Exit.noGoto_ret]
    go_ret
    exact line_yes (cf := cf) H5.out.2.2.2.1 H5.out.1 H5.out.2.2.1 H5.out.2.1 (by rw [HV.out]; rfl) H5.out.2.2.2.2 (fun i hi2 hx => by obtain ⟨v, _, rfl⟩ := Option.map_eq_some_iff.1 hi2; cases hx) HS.out
   ·
    have hd : decide ((st : Int) <= 2) = false := by simp; omega
    have HS := Lib.hid hs
    clear hs
    go_wp2_with fail
    go_step3
    go_wp2_with fail
    rw [Exit.noGoto_ret]
    go_ret
    exact line_late (cf := cf) H5.out.2.2.2.1 H5.out.2.1 H5.out.2.2.2.2 HS.out
 case br49 =>
  go_simp
  ((refine (textF_c cf a true _ hla ((HG.out.on H2.out.1).on (bdr b0 1)) H2.out.2.1.drew (by have := H2.out.2.2.2.1; omega)).mono ?_); rintro e w3 ⟨n, rfl, hv, hk3, hbt⟩; have hb3 : Below w.heap.size w w3 := (bdr H2.out.1 1).trans (hbt.below (bdr H2.out.1 1).size fun k hk => by have := H2.out.2.2.2.1; omega); have y3 : w3.cell? ⟨r, 3, none⟩ = some L.tv := ((HR.out.grow hb3).blk.cell 3).trans rfl; have q3 : w3.cell? ⟨bw, 1, none⟩ = some (strV a) := (World.cell?_of_block (hbt.block bw (by have := H2.out.2.1.lt; have := H2.out.2.2.1; exact Nat.lt_trans H2.out.2.2.1 H2.out.2.1.lt) (Nat.ne_of_lt H2.out.2.2.1))).trans p1; have F3 := Lib.hid (And.intro trivial (And.intro hv (And.intro hk3 (And.intro hb3 hbt)))); clear hv hk3 hb3 hbt)
  refine hK.out _ _ ?ss58 (fun hHeld2 => ?rr58)
  case ss58 => (try dsimp only); exact q3
  clear hK K
  clear hHeld
  have hHeld := hHeld2
  clear hHeld2
  try simp only [Act.put, rg1, rg2, rg3]
  refine wpAnyH_ready (rs := [5, 11]) (by kernel_rfl) (by simp) ?_
  refine AllReadyH.cons (o := ⟨some 61, _, _, _, _, _⟩) rfl (fun K hK => ?br59) (AllReadyH.cons (o := ⟨some 67, _, _, _, _, _⟩) rfl (fun K hK => ?br60) AllReadyH.nil)
  case br59 =>
   go_simp
   refine hK.out _ _ ?ss61 (fun hHeld2 => ?rr61)
   case ss61 => (try dsimp only); exact hHeld
   clear hK K
   clear hHeld2
   try simp only [Act.put, rg1, rg2, rg3]
   refine rgc 11 (some 67) rfl (fun K hK => ?_)
   go_simp
   go_simp; have y4 : (w3.alloc (.cells #[.string ⟨n.toArray⟩] 9)).cell? ⟨r, 3, none⟩ = some L.tv := ((HR.out.grow (bal F3.out.2.2.2.1 _)).blk.cell 3).trans rfl
   refine hK.out _ _ ?ss62 (fun hHeld2 => ?rr62)
   case ss62 => (try dsimp only); exact (World.cell?_alloc_lt _ _ _ (Nat.lt_trans H2.out.2.2.1 F3.out.2.2.1.lt)).trans q3
   clear hK K
   clear hHeld
   have hHeld := hHeld2
   clear hHeld2
   try simp only [Act.put, rg1, rg2, rg3]
   refine rgc 12 (some 68) rfl (fun K hK => ?_)
   (refine step_append_fine rfl (.tmp 61) (.tmp 67) _ rfl (r + 1) 9 i0 _ 1 16 Tryz.underlying25 hi0 hz0 hz1 hz2 rfl L.tv L.texts.length (envC L.texts) rfl ((HR.out.grow (bal F3.out.2.2.2.1 _)).own.own (rowT L) (rowT_in L)) (w3.heap.size + 1) (some ⟨w3.heap.size, 0, none⟩) 1 1 [.string ⟨n.toArray⟩] rfl (Sl.one w3 _ _) (fun u hu => by rw [List.mem_singleton.1 hu]; rfl) (by decide) (by have := HB.out.t; unfold maxLen; omega) (by have := HB.out.t; omega) (by have := (bal F3.out.2.2.2.1 (.cells #[.string ⟨n.toArray⟩] 9)).size; omega) ?_); (intro V' w4 ho4 ht4); (obtain ⟨AV, cV, rfl, _, _⟩ := own_shape ho4); have k4 := (HR.out.grow (bal F3.out.2.2.2.1 _)).far (rowT_in L) ht4; have y5 := (k4.cell 3).trans rfl; have z5 := k4.frozen 3; simp only [List.getElem?_toArray, List.getElem?_cons_zero, List.getElem?_cons_succ] at y5; have q5 : w4.cell? ⟨bw, 1, none⟩ = some (strV a) := (World.cell?_of_block (ht4.block (by rw [World.size_alloc]; exact Nat.lt_succ_of_lt (Nat.lt_trans H2.out.2.2.1 F3.out.2.2.1.lt)) (HR.out.away (rowT_in L) H2.out.2.2.2.2))).trans ((World.cell?_alloc_lt _ _ _ (Nat.lt_trans H2.out.2.2.1 F3.out.2.2.1.lt)).trans q3)
   refine hK.out _ _ ?ss63 (fun hHeld2 => ?rr63)
   case ss63 => (try dsimp only); exact q5
   clear hK K
   clear hHeld
   have hHeld := hHeld2
   clear hHeld2
   try simp only [Act.put, rg1, rg2, rg3]
   refine rgt 13 69 rfl rfl hHeld ?_
   try simp only [Act.put, rg1, rg2, rg3]
   refine rgt 14 70 rfl rfl hHeld ?_
   try simp only [Act.put, rg1, rg2, rg3]
   refine rgt 15 71 rfl rfl hHeld ?_
   try simp only [Act.put, rg1, rg2, rg3]
   refine rgc 16 (none) rfl (fun K hK => ?_)
   go_simp
   go_simp
   refine hK.out _ _ ?ss67 (fun hHeld2 => ?rr67)
   case ss67 => (try dsimp only); exact (World.cell?_setCell_other _ _ _ _ (fun e => by have := H2.out.2.2.2.2; injection e with e; omega)).trans q5
   clear hK K
   clear hHeld
   have hHeld := hHeld2
   clear hHeld2
   try simp only [Act.put, rg1, rg2, rg3]
   refine wpAnyH_done (by kernel_rfl) ?_ _
   have hr5 := RAt.text (HR.out.grow (bal F3.out.2.2.2.1 _)) ht4 ho4
   have hk5 : Blk (w4.setCell ⟨r, 3, none⟩ (.slice AV (L.texts.length + 1) cV)) cf 141 #[.bool (unq a).isSome] := by
    have h := F3.out.2.2.1
    simp only [numB_all, Bool.true_and] at h
    exact Blk.far ((ht4.block (by rw [World.size_alloc]; exact Nat.lt_succ_of_lt h.lt) (HR.out.away (rowT_in L) H2.out.2.2.2.1)).trans (h.alloc _)) (show cf ≠ r by have := H2.out.2.2.2.1; omega) _
   have hb5 : Below r w (w4.setCell ⟨r, 3, none⟩ (.slice AV (L.texts.length + 1) cV)) :=
    below_set (((bal F3.out.2.2.2.1 (.cells #[.string ⟨n.toArray⟩] 9)).mono (Nat.le_of_lt hrw)).trans ((HR.out.grow (bal F3.out.2.2.2.1 (.cells #[.string ⟨n.toArray⟩] 9))).but (rowT_in L) ht4)) (Nat.le_refl r) _
   have hlb : LB { L with texts := L.texts ++ [n], tv := .slice AV (L.texts.length + 1) cV } (B + 1) := by
    obtain ⟨l1, l2, l3, l4, l5, l6⟩ := HB.out
    exact ⟨by (try simp only [List.length_append, List.length_singleton]); omega, by (try simp only [List.length_append, List.length_singleton]); omega, by (try simp only [List.length_append, List.length_singleton]); omega, by (try simp only [List.length_append, List.length_singleton]); omega, by (try simp only [List.length_append, List.length_singleton]); omega, fun g hg => by have := l6 g hg; omega⟩
   have hi : rdItem (wordsP s) = (unq a).map .text := by rw [HWS.out]; unfold rdItem; simp [kNum, kText, kType]
   have hvv := F3.out.2.1
   try simp only [numB_all] at hvv
   obtain ⟨W5, hW5⟩ : ∃ X, w4.setCell ⟨r, 3, none⟩ (.slice AV (L.texts.length + 1) cV) = X := ⟨_, rfl⟩
   rw [hW5] at hr5 hk5 hb5 ⊢
   have cr := (hr5.blk.cell 5).trans rfl
   have zr := hr5.blk.frozen 5
   have ck := (hk5.cell 0).trans rfl
   simp only [List.getElem?_toArray, List.getElem?_cons_zero, List.getElem?_cons_succ] at cr ck
   have h6 : ∀ i, (unq a).map Item.text = some i -> (CoL.code { L with texts := L.texts ++ [n], tv := .slice AV (L.texts.length + 1) cV }) = addI L.code i /\ stageI i = 2 := by
    intro i hi2
    obtain ⟨v, hv, rfl⟩ := Option.map_eq_some_iff.1 hi2
    rw [<- hvv v hv]
    exact ⟨rfl, rfl⟩
   have H5 := Lib.hid (And.intro hr5 (And.intro hb5 (And.intro hlb (And.intro hi h6))))
   clear hr5 hb5 hlb hi h6 hvv hk5 hW5 ht4 ho4 y3 y4 y5 z5 q3 q5 k4 F3 hHeld p0 p1 y2
   rcases hv : unq a with _ | v
   ·
    rw [hv] at ck
    simp only [Option.isSome_none] at ck
    have HV := Lib.hid hv
    clear hv
    go_wp2_with fail
    go_step3
    go_wp2_with fail
    rw [Exit.noGoto_ret]
    go_ret
    exact line_no (by rw [H5.out.2.2.2.1, HV.out]; rfl) H5.out.2.1
   ·
    rw [hv] at ck
    simp only [Option.isSome_some] at ck
    have HV := Lib.hid hv
    clear hv
    by_cases hs : st <= 2
    ·
     have hd : decide ((st : Int) <= 2) = true := by simp; omega
     have HS := Lib.hid hs
     clear hs
     go_wp2_with fail
     rw [Exit.noGoto_ret]
     go_ret
     exact line_yes (cf := cf) H5.out.2.2.2.1 H5.out.1 H5.out.2.2.1 H5.out.2.1 (by rw [HV.out]; rfl) H5.out.2.2.2.2 (fun i hi2 hx => by obtain ⟨v, _, rfl⟩ := Option.map_eq_some_iff.1 hi2; cases hx) HS.out
    ·
     have hd : decide ((st : Int) <= 2) = false := by simp; omega
     have HS := Lib.hid hs
     clear hs
     go_wp2_with fail
     go_step3
     go_wp2_with fail
     rw [Exit.noGoto_ret]
     go_ret
     exact line_late (cf := cf) H5.out.2.2.2.1 H5.out.2.1 H5.out.2.2.2.2 HS.out
  case br60 =>
   go_simp
   go_simp; have y4 : (w3.alloc (.cells #[.string ⟨n.toArray⟩] 9)).cell? ⟨r, 3, none⟩ = some L.tv := ((HR.out.grow (bal F3.out.2.2.2.1 _)).blk.cell 3).trans rfl
   refine hK.out _ _ ?ss68 (fun hHeld2 => ?rr68)
   case ss68 => (try dsimp only); exact (World.cell?_alloc_lt _ _ _ (Nat.lt_trans H2.out.2.2.1 F3.out.2.2.1.lt)).trans q3
   clear hK K
   clear hHeld
   have hHeld := hHeld2
   clear hHeld2
   try simp only [Act.put, rg1, rg2, rg3]
   refine rgc 5 (some 61) rfl (fun K hK => ?_)
   go_simp
   refine hK.out _ _ ?ss69 (fun hHeld2 => ?rr69)
   case ss69 => (try dsimp only); exact hHeld
   clear hK K
   clear hHeld2
   try simp only [Act.put, rg1, rg2, rg3]
   refine rgc 12 (some 68) rfl (fun K hK => ?_)
   (refine step_append_fine rfl (.tmp 61) (.tmp 67) _ rfl (r + 1) 9 i0 _ 1 16 Tryz.underlying25 hi0 hz0 hz1 hz2 rfl L.tv L.texts.length (envC L.texts) rfl ((HR.out.grow (bal F3.out.2.2.2.1 _)).own.own (rowT L) (rowT_in L)) (w3.heap.size + 1) (some ⟨w3.heap.size, 0, none⟩) 1 1 [.string ⟨n.toArray⟩] rfl (Sl.one w3 _ _) (fun u hu => by rw [List.mem_singleton.1 hu]; rfl) (by decide) (by have := HB.out.t; unfold maxLen; omega) (by have := HB.out.t; omega) (by have := (bal F3.out.2.2.2.1 (.cells #[.string ⟨n.toArray⟩] 9)).size; omega) ?_); (intro V' w4 ho4 ht4); (obtain ⟨AV, cV, rfl, _, _⟩ := own_shape ho4); have k4 := (HR.out.grow (bal F3.out.2.2.2.1 _)).far (rowT_in L) ht4; have y5 := (k4.cell 3).trans rfl; have z5 := k4.frozen 3; simp only [List.getElem?_toArray, List.getElem?_cons_zero, List.getElem?_cons_succ] at y5; have q5 : w4.cell? ⟨bw, 1, none⟩ = some (strV a) := (World.cell?_of_block (ht4.block (by rw [World.size_alloc]; exact Nat.lt_succ_of_lt (Nat.lt_trans H2.out.2.2.1 F3.out.2.2.1.lt)) (HR.out.away (rowT_in L) H2.out.2.2.2.2))).trans ((World.cell?_alloc_lt _ _ _ (Nat.lt_trans H2.out.2.2.1 F3.out.2.2.1.lt)).trans q3)
   refine hK.out _ _ ?ss70 (fun hHeld2 => ?rr70)
   case ss70 => (try dsimp only); exact q5
   clear hK K
   clear hHeld
   have hHeld := hHeld2
   clear hHeld2
   try simp only [Act.put, rg1, rg2, rg3]
   refine rgt 13 69 rfl rfl hHeld ?_
   try simp only [Act.put, rg1, rg2, rg3]
   refine rgt 14 70 rfl rfl hHeld ?_
   try simp only [Act.put, rg1, rg2, rg3]
   refine rgt 15 71 rfl rfl hHeld ?_
   try simp only [Act.put, rg1, rg2, rg3]
   refine rgc 16 (none) rfl (fun K hK => ?_)
   go_simp
   go_simp
   refine hK.out _ _ ?ss74 (fun hHeld2 => ?rr74)
   case ss74 => (try dsimp only); exact (World.cell?_setCell_other _ _ _ _ (fun e => by have := H2.out.2.2.2.2; injection e with e; omega)).trans q5
   clear hK K
   clear hHeld
   have hHeld := hHeld2
   clear hHeld2
   try simp only [Act.put, rg1, rg2, rg3]
   refine wpAnyH_done (by kernel_rfl) ?_ _
   have hr5 := RAt.text (HR.out.grow (bal F3.out.2.2.2.1 _)) ht4 ho4
   have hk5 : Blk (w4.setCell ⟨r, 3, none⟩ (.slice AV (L.texts.length + 1) cV)) cf 141 #[.bool (unq a).isSome] := by
    have h := F3.out.2.2.1
    simp only [numB_all, Bool.true_and] at h
    exact Blk.far ((ht4.block (by rw [World.size_alloc]; exact Nat.lt_succ_of_lt h.lt) (HR.out.away (rowT_in L) H2.out.2.2.2.1)).trans (h.alloc _)) (show cf ≠ r by have := H2.out.2.2.2.1; omega) _
   have hb5 : Below r w (w4.setCell ⟨r, 3, none⟩ (.slice AV (L.texts.length + 1) cV)) :=
    below_set (((bal F3.out.2.2.2.1 (.cells #[.string ⟨n.toArray⟩] 9)).mono (Nat.le_of_lt hrw)).trans ((HR.out.grow (bal F3.out.2.2.2.1 (.cells #[.string ⟨n.toArray⟩] 9))).but (rowT_in L) ht4)) (Nat.le_refl r) _
   have hlb : LB { L with texts := L.texts ++ [n], tv := .slice AV (L.texts.length + 1) cV } (B + 1) := by
    obtain ⟨l1, l2, l3, l4, l5, l6⟩ := HB.out
    exact ⟨by (try simp only [List.length_append, List.length_singleton]); omega, by (try simp only [List.length_append, List.length_singleton]); omega, by (try simp only [List.length_append, List.length_singleton]); omega, by (try simp only [List.length_append, List.length_singleton]); omega, by (try simp only [List.length_append, List.length_singleton]); omega, fun g hg => by have := l6 g hg; omega⟩
   have hi : rdItem (wordsP s) = (unq a).map .text := by rw [HWS.out]; unfold rdItem; simp [kNum, kText, kType]
   have hvv := F3.out.2.1
   try simp only [numB_all] at hvv
   obtain ⟨W5, hW5⟩ : ∃ X, w4.setCell ⟨r, 3, none⟩ (.slice AV (L.texts.length + 1) cV) = X := ⟨_, rfl⟩
   rw [hW5] at hr5 hk5 hb5 ⊢
   have cr := (hr5.blk.cell 5).trans rfl
   have zr := hr5.blk.frozen 5
   have ck := (hk5.cell 0).trans rfl
   simp only [List.getElem?_toArray, List.getElem?_cons_zero, List.getElem?_cons_succ] at cr ck
   have h6 : ∀ i, (unq a).map Item.text = some i -> (CoL.code { L with texts := L.texts ++ [n], tv := .slice AV (L.texts.length + 1) cV }) = addI L.code i /\ stageI i = 2 := by
    intro i hi2
    obtain ⟨v, hv, rfl⟩ := Option.map_eq_some_iff.1 hi2
    rw [<- hvv v hv]
    exact ⟨rfl, rfl⟩
   have H5 := Lib.hid (And.intro hr5 (And.intro hb5 (And.intro hlb (And.intro hi h6))))
   clear hr5 hb5 hlb hi h6 hvv hk5 hW5 ht4 ho4 y3 y4 y5 z5 q3 q5 k4 F3 hHeld p0 p1 y2
   rcases hv : unq a with _ | v
   ·
    rw [hv] at ck
    simp only [Option.isSome_none] at ck
    have HV := Lib.hid hv
    clear hv
    go_wp2_with fail
    go_step3
    go_wp2_with fail
    rw [Exit.noGoto_ret]
    go_ret
    exact line_no (by rw [H5.out.2.2.2.1, HV.out]; rfl) H5.out.2.1
   ·
    rw [hv] at ck
    simp only [Option.isSome_some] at ck
    have HV := Lib.hid hv
    clear hv
    by_cases hs : st <= 2
    ·
     have hd : decide ((st : Int) <= 2) = true := by simp; omega
     have HS := Lib.hid hs
     clear hs
     go_wp2_with fail
     rw [Exit.noGoto_ret]
     go_ret
     exact line_yes (cf := cf) H5.out.2.2.2.1 H5.out.1 H5.out.2.2.1 H5.out.2.1 (by rw [HV.out]; rfl) H5.out.2.2.2.2 (fun i hi2 hx => by obtain ⟨v, _, rfl⟩ := Option.map_eq_some_iff.1 hi2; cases hx) HS.out
    ·
     have hd : decide ((st : Int) <= 2) = false := by simp; omega
     have HS := Lib.hid hs
     clear hs
     go_wp2_with fail
     go_step3
     go_wp2_with fail
     rw [Exit.noGoto_ret]
     go_ret
     exact line_late (cf := cf) H5.out.2.2.2.1 H5.out.2.1 H5.out.2.2.2.2 HS.out
set_option maxRecDepth 100000 in
set_option maxHeartbeats 4000000 in
theorem line_type (r st B : Nat) (L : CoL) (s a : Bs) (w : World) (hl : s.length <= 1073741824) (hg : Gl w) (h8 : 8 <= r) (hr : RAt w r L st) (hB : LB L B) (hBb : B <= 1073741824) (hws : wordsP s = [kType, a]) (hla : a.length <= 1073741824) :
  Calls Tryz.prog 48 #[.pointer (some ⟨r, 0, none⟩), strV s] w fun e w' => LineQ r st B L s w e w' := by
 obtain ⟨i0, hi0, hz0, hz1, hz2⟩ := info_parts info9
 have hW := words_p s w hl hg
 rw [hws] at hW
 have HW := Lib.hid hW
 have HR := Lib.hid hr
 have HG := Lib.hid hg
 have HB := Lib.hid hB
 have HWS := Lib.hid hws
 have hrw := hr.blk.lt
 clear hW hr hg hB hws
 go_enter Tryz.func48, Tryz.ntmps48
 go_wp2_with fail
 go_step3
 go_wp2_with fail
 (refine HW.out.mono ?_); rintro ev w1 ⟨v, rfl, hown, hb1⟩
 obtain ⟨_, bw, cw, rfl, hbw, hbw2, hcw, hq⟩ := wordsK hown (show 0 < 2 by decide)
 clear HW
 have hq0 := hq 0 kType rfl
 have hq1 := hq 1 a rfl
 go_upto_region 3 with fail
 obtain ⟨cf, hcf⟩ : ∃ cf, w1.heap.size = cf := ⟨_, rfl⟩
 obtain ⟨W2, hW2⟩ : ∃ W2, w1.alloc (.cells #[.bool true] 141) = W2 := ⟨_, rfl⟩
 have hb2 : Below w.heap.size w W2 := by rw [<- hW2]; exact bal hb1 _
 have hk2 : Blk W2 cf 141 #[.bool true] := by rw [<- hW2, <- hcf]; exact Blk.new _ _ _
 have p0 : W2.cell? ⟨bw, 0, none⟩ = some (.string ⟨#[116, 121, 112, 101]⟩) := by rw [<- hW2, World.cell?_alloc_lt _ _ _ hbw2]; exact hq0
 have p1 : W2.cell? ⟨bw, 1, none⟩ = some (strV a) := by rw [<- hW2, World.cell?_alloc_lt _ _ _ hbw2]; exact hq1
 have hbc : bw < cf := by omega
 have hwc : w.heap.size <= cf := by omega
 have y2 : W2.cell? ⟨r, 4, none⟩ = some L.yv := ((HR.out.grow hb2).blk.cell 4).trans rfl
 rw [hW2, hcf]
 have H2 := Lib.hid (And.intro hb2 (And.intro hk2 (And.intro hbc (And.intro hwc hbw))))
 clear hq0 hq1 hq hW2 hcf hb1 hb2 hk2 hown hbw2 hbc hwc hbw hcw
 go_upto_region 13 with fail
 refine wp_region_held_drew (S := (fun W' => W'.cell? ⟨bw, 1, none⟩ = some (strV a))) (by kernel_rfl) ?ss75 (fun hHeld => ?rr75)
 case ss75 => (try dsimp only); exact p1
 refine rgt 0 81 rfl rfl hHeld ?_
 try simp only [Act.put, rg1, rg2, rg3]
 refine rgt 1 82 rfl rfl hHeld ?_
 try simp only [Act.put, rg1, rg2, rg3]
 refine rgt 2 83 rfl rfl hHeld ?_
 try simp only [Act.put, rg1, rg2, rg3]
 refine rgt 3 84 rfl rfl hHeld ?_
 try simp only [Act.put, rg1, rg2, rg3]
 refine rgt 4 85 rfl rfl hHeld ?_
 try simp only [Act.put, rg1, rg2, rg3]
 refine rgt 6 87 rfl rfl hHeld ?_
 try simp only [Act.put, rg1, rg2, rg3]
 refine rgt 7 88 rfl rfl hHeld ?_
 try simp only [Act.put, rg1, rg2, rg3]
 refine rgt 8 89 rfl rfl hHeld ?_
 try simp only [Act.put, rg1, rg2, rg3]
 refine rgt 9 90 rfl rfl hHeld ?_
 try simp only [Act.put, rg1, rg2, rg3]
 refine wpAnyH_ready (rs := [5, 10]) (by kernel_rfl) (by simp) ?_
 refine AllReadyH.cons (o := ⟨some 86, _, _, _, _, _⟩) rfl (fun K hK => ?br85) (AllReadyH.cons (o := ⟨some 91, _, _, _, _, _⟩) rfl (fun K hK => ?br86) AllReadyH.nil)
 case br85 =>
  go_simp
  refine hK.out _ _ ?ss87 (fun hHeld2 => ?rr87)
  case ss87 => (try dsimp only); exact hHeld
  clear hK K
  clear hHeld2
  try simp only [Act.put, rg1, rg2, rg3]
  refine rgc 10 (some 91) rfl (fun K hK => ?_)
  go_simp
  ((refine (textF_c cf a true _ hla ((HG.out.on H2.out.1).on (bdr b0 1)) H2.out.2.1.drew (by have := H2.out.2.2.2.1; omega)).mono ?_); rintro e w3 ⟨n, rfl, hv, hk3, hbt⟩; have hb3 : Below w.heap.size w w3 := (bdr H2.out.1 1).trans (hbt.below (bdr H2.out.1 1).size fun k hk => by have := H2.out.2.2.2.1; omega); have y3 : w3.cell? ⟨r, 4, none⟩ = some L.yv := ((HR.out.grow hb3).blk.cell 4).trans rfl; have q3 : w3.cell? ⟨bw, 1, none⟩ = some (strV a) := (World.cell?_of_block (hbt.block bw (by have := H2.out.2.1.lt; have := H2.out.2.2.1; exact Nat.lt_trans H2.out.2.2.1 H2.out.2.1.lt) (Nat.ne_of_lt H2.out.2.2.1))).trans p1; have F3 := Lib.hid (And.intro trivial (And.intro hv (And.intro hk3 (And.intro hb3 hbt)))); clear hv hk3 hb3 hbt)
  refine hK.out _ _ ?ss88 (fun hHeld2 => ?rr88)
  case ss88 => (try dsimp only); exact q3
  clear hK K
  clear hHeld
  have hHeld := hHeld2
  clear hHeld2
  try simp only [Act.put, rg1, rg2, rg3]
  refine rgc 11 (some 92) rfl (fun K hK => ?_)
  go_simp
  go_simp; have y4 : (w3.alloc (.cells #[.string ⟨n.toArray⟩] 9)).cell? ⟨r, 4, none⟩ = some L.yv := ((HR.out.grow (bal F3.out.2.2.2.1 _)).blk.cell 4).trans rfl
  refine hK.out _ _ ?ss89 (fun hHeld2 => ?rr89)
  case ss89 => (try dsimp only); exact (World.cell?_alloc_lt _ _ _ (Nat.lt_trans H2.out.2.2.1 F3.out.2.2.1.lt)).trans q3
  clear hK K
  clear hHeld
  have hHeld := hHeld2
  clear hHeld2
  try simp only [Act.put, rg1, rg2, rg3]
  refine rgc 12 (some 93) rfl (fun K hK => ?_)
  (refine step_append_fine rfl (.tmp 86) (.tmp 92) _ rfl (r + 1) 9 i0 _ 1 16 Tryz.underlying25 hi0 hz0 hz1 hz2 rfl L.yv L.types.length (envC L.types) rfl ((HR.out.grow (bal F3.out.2.2.2.1 _)).own.own (rowY L) (rowY_in L)) (w3.heap.size + 1) (some ⟨w3.heap.size, 0, none⟩) 1 1 [.string ⟨n.toArray⟩] rfl (Sl.one w3 _ _) (fun u hu => by rw [List.mem_singleton.1 hu]; rfl) (by decide) (by have := HB.out.y; unfold maxLen; omega) (by have := HB.out.y; omega) (by have := (bal F3.out.2.2.2.1 (.cells #[.string ⟨n.toArray⟩] 9)).size; omega) ?_); (intro V' w4 ho4 ht4); (obtain ⟨AV, cV, rfl, _, _⟩ := own_shape ho4); have k4 := (HR.out.grow (bal F3.out.2.2.2.1 _)).far (rowY_in L) ht4; have y5 := (k4.cell 4).trans rfl; have z5 := k4.frozen 4; simp only [List.getElem?_toArray, List.getElem?_cons_zero, List.getElem?_cons_succ] at y5; have q5 : w4.cell? ⟨bw, 1, none⟩ = some (strV a) := (World.cell?_of_block (ht4.block (by rw [World.size_alloc]; exact Nat.lt_succ_of_lt (Nat.lt_trans H2.out.2.2.1 F3.out.2.2.1.lt)) (HR.out.away (rowY_in L) H2.out.2.2.2.2))).trans ((World.cell?_alloc_lt _ _ _ (Nat.lt_trans H2.out.2.2.1 F3.out.2.2.1.lt)).trans q3)
  refine hK.out _ _ ?ss90 (fun hHeld2 => ?rr90)
  case ss90 => (try dsimp only); exact q5
  clear hK K
  clear hHeld
  have hHeld := hHeld2
  clear hHeld2
  try simp only [Act.put, rg1, rg2, rg3]
  refine rgt 13 94 rfl rfl hHeld ?_
  try simp only [Act.put, rg1, rg2, rg3]
  refine rgt 14 95 rfl rfl hHeld ?_
  try simp only [Act.put, rg1, rg2, rg3]
  refine rgt 15 96 rfl rfl hHeld ?_
  try simp only [Act.put, rg1, rg2, rg3]
  refine rgc 16 (none) rfl (fun K hK => ?_)
  go_simp
  go_simp
  refine hK.out _ _ ?ss94 (fun hHeld2 => ?rr94)
  case ss94 => (try dsimp only); exact (World.cell?_setCell_other _ _ _ _ (fun e => by have := H2.out.2.2.2.2; injection e with e; omega)).trans q5
  clear hK K
  clear hHeld
  have hHeld := hHeld2
  clear hHeld2
  try simp only [Act.put, rg1, rg2, rg3]
  refine wpAnyH_done (by kernel_rfl) ?_ _
  have hr5 := RAt.type (HR.out.grow (bal F3.out.2.2.2.1 _)) ht4 ho4
  have hk5 : Blk (w4.setCell ⟨r, 4, none⟩ (.slice AV (L.types.length + 1) cV)) cf 141 #[.bool (unq a).isSome] := by
   have h := F3.out.2.2.1
   simp only [numB_all, Bool.true_and] at h
   exact Blk.far ((ht4.block (by rw [World.size_alloc]; exact Nat.lt_succ_of_lt h.lt) (HR.out.away (rowY_in L) H2.out.2.2.2.1)).trans (h.alloc _)) (show cf ≠ r by have := H2.out.2.2.2.1; omega) _
  have hb5 : Below r w (w4.setCell ⟨r, 4, none⟩ (.slice AV (L.types.length + 1) cV)) :=
   below_set (((bal F3.out.2.2.2.1 (.cells #[.string ⟨n.toArray⟩] 9)).mono (Nat.le_of_lt hrw)).trans ((HR.out.grow (bal F3.out.2.2.2.1 (.cells #[.string ⟨n.toArray⟩] 9))).but (rowY_in L) ht4)) (Nat.le_refl r) _
  have hlb : LB { L with types := L.types ++ [n], yv := .slice AV (L.types.length + 1) cV } (B + 1) := by
   obtain ⟨l1, l2, l3, l4, l5, l6⟩ := HB.out
   exact ⟨by (try simp only [List.length_append, List.length_singleton]); omega, by (try simp only [List.length_append, List.length_singleton]); omega, by (try simp only [List.length_append, List.length_singleton]); omega, by (try simp only [List.length_append, List.length_singleton]); omega, by (try simp only [List.length_append, List.length_singleton]); omega, fun g hg => by have := l6 g hg; omega⟩
  have hi : rdItem (wordsP s) = (unq a).map .type := by rw [HWS.out]; unfold rdItem; simp [kNum, kText, kType]
  have hvv := F3.out.2.1
  try simp only [numB_all] at hvv
  obtain ⟨W5, hW5⟩ : ∃ X, w4.setCell ⟨r, 4, none⟩ (.slice AV (L.types.length + 1) cV) = X := ⟨_, rfl⟩
  rw [hW5] at hr5 hk5 hb5 ⊢
  have cr := (hr5.blk.cell 5).trans rfl
  have zr := hr5.blk.frozen 5
  have ck := (hk5.cell 0).trans rfl
  simp only [List.getElem?_toArray, List.getElem?_cons_zero, List.getElem?_cons_succ] at cr ck
  have h6 : ∀ i, (unq a).map Item.type = some i -> (CoL.code { L with types := L.types ++ [n], yv := .slice AV (L.types.length + 1) cV }) = addI L.code i /\ stageI i = 3 := by
   intro i hi2
   obtain ⟨v, hv, rfl⟩ := Option.map_eq_some_iff.1 hi2
   rw [<- hvv v hv]
   exact ⟨rfl, rfl⟩
  have H5 := Lib.hid (And.intro hr5 (And.intro hb5 (And.intro hlb (And.intro hi h6))))
  clear hr5 hb5 hlb hi h6 hvv hk5 hW5 ht4 ho4 y3 y4 y5 z5 q3 q5 k4 F3 hHeld p0 p1 y2
  rcases hv : unq a with _ | v
  ·
   rw [hv] at ck
   simp only [Option.isSome_none] at ck
   have HV := Lib.hid hv
   clear hv
   go_wp2_with fail
   go_step3
   go_wp2_with fail
   rw [Exit.noGoto_ret]
   go_ret
   exact line_no (by rw [H5.out.2.2.2.1, HV.out]; rfl) H5.out.2.1
  ·
   rw [hv] at ck
   simp only [Option.isSome_some] at ck
   have HV := Lib.hid hv
   clear hv
   by_cases hs : st <= 3
   ·
    have hd : decide ((st : Int) <= 3) = true := by simp; omega
    have HS := Lib.hid hs
    clear hs
    go_wp2_with fail
    rw [Exit.noGoto_ret]
    go_ret
    exact line_yes (cf := cf) H5.out.2.2.2.1 H5.out.1 H5.out.2.2.1 H5.out.2.1 (by rw [HV.out]; rfl) H5.out.2.2.2.2 (fun i hi2 hx => by obtain ⟨v, _, rfl⟩ := Option.map_eq_some_iff.1 hi2; cases hx) HS.out
   ·
    have hd : decide ((st : Int) <= 3) = false := by simp; omega
    have HS := Lib.hid hs
    clear hs
    go_wp2_with fail
    go_step3
    go_wp2_with fail
    rw [Exit.noGoto_ret]
    go_ret
    exact line_late (cf := cf) H5.out.2.2.2.1 H5.out.2.1 H5.out.2.2.2.2 HS.out
 case br86 =>
  go_simp
  ((refine (textF_c cf a true _ hla ((HG.out.on H2.out.1).on (bdr b0 1)) H2.out.2.1.drew (by have := H2.out.2.2.2.1; omega)).mono ?_); rintro e w3 ⟨n, rfl, hv, hk3, hbt⟩; have hb3 : Below w.heap.size w w3 := (bdr H2.out.1 1).trans (hbt.below (bdr H2.out.1 1).size fun k hk => by have := H2.out.2.2.2.1; omega); have y3 : w3.cell? ⟨r, 4, none⟩ = some L.yv := ((HR.out.grow hb3).blk.cell 4).trans rfl; have q3 : w3.cell? ⟨bw, 1, none⟩ = some (strV a) := (World.cell?_of_block (hbt.block bw (by have := H2.out.2.1.lt; have := H2.out.2.2.1; exact Nat.lt_trans H2.out.2.2.1 H2.out.2.1.lt) (Nat.ne_of_lt H2.out.2.2.1))).trans p1; have F3 := Lib.hid (And.intro trivial (And.intro hv (And.intro hk3 (And.intro hb3 hbt)))); clear hv hk3 hb3 hbt)
  refine hK.out _ _ ?ss95 (fun hHeld2 => ?rr95)
  case ss95 => (try dsimp only); exact q3
  clear hK K
  clear hHeld
  have hHeld := hHeld2
  clear hHeld2
  try simp only [Act.put, rg1, rg2, rg3]
  refine wpAnyH_ready (rs := [5, 11]) (by kernel_rfl) (by simp) ?_
  refine AllReadyH.cons (o := ⟨some 86, _, _, _, _, _⟩) rfl (fun K hK => ?br96) (AllReadyH.cons (o := ⟨some 92, _, _, _, _, _⟩) rfl (fun K hK => ?br97) AllReadyH.nil)
  case br96 =>
   go_simp
   refine hK.out _ _ ?ss98 (fun hHeld2 => ?rr98)
   case ss98 => (try dsimp only); exact hHeld
   clear hK K
   clear hHeld2
   try simp only [Act.put, rg1, rg2, rg3]
   refine rgc 11 (some 92) rfl (fun K hK => ?_)
   go_simp
   go_simp; have y4 : (w3.alloc (.cells #[.string ⟨n.toArray⟩] 9)).cell? ⟨r, 4, none⟩ = some L.yv := ((HR.out.grow (bal F3.out.2.2.2.1 _)).blk.cell 4).trans rfl
   refine hK.out _ _ ?ss99 (fun hHeld2 => ?rr99)
   case ss99 => (try dsimp only); exact (World.cell?_alloc_lt _ _ _ (Nat.lt_trans H2.out.2.2.1 F3.out.2.2.1.lt)).trans q3
   clear hK K
   clear hHeld
   have hHeld := hHeld2
   clear hHeld2
   try simp only [Act.put, rg1, rg2, rg3]
   refine rgc 12 (some 93) rfl (fun K hK => ?_)
   (refine step_append_fine rfl (.tmp 86) (.tmp 92) _ rfl (r + 1) 9 i0 _ 1 16 Tryz.underlying25 hi0 hz0 hz1 hz2 rfl L.yv L.types.length (envC L.types) rfl ((HR.out.grow (bal F3.out.2.2.2.1 _)).own.own (rowY L) (rowY_in L)) (w3.heap.size + 1) (some ⟨w3.heap.size, 0, none⟩) 1 1 [.string ⟨n.toArray⟩] rfl (Sl.one w3 _ _) (fun u hu => by rw [List.mem_singleton.1 hu]; rfl) (by decide) (by have := HB.out.y; unfold maxLen; omega) (by have := HB.out.y; omega) (by have := (bal F3.out.2.2.2.1 (.cells #[.string ⟨n.toArray⟩] 9)).size; omega) ?_); (intro V' w4 ho4 ht4); (obtain ⟨AV, cV, rfl, _, _⟩ := own_shape ho4); have k4 := (HR.out.grow (bal F3.out.2.2.2.1 _)).far (rowY_in L) ht4; have y5 := (k4.cell 4).trans rfl; have z5 := k4.frozen 4; simp only [List.getElem?_toArray, List.getElem?_cons_zero, List.getElem?_cons_succ] at y5; have q5 : w4.cell? ⟨bw, 1, none⟩ = some (strV a) := (World.cell?_of_block (ht4.block (by rw [World.size_alloc]; exact Nat.lt_succ_of_lt (Nat.lt_trans H2.out.2.2.1 F3.out.2.2.1.lt)) (HR.out.away (rowY_in L) H2.out.2.2.2.2))).trans ((World.cell?_alloc_lt _ _ _ (Nat.lt_trans H2.out.2.2.1 F3.out.2.2.1.lt)).trans q3)
   refine hK.out _ _ ?ss100 (fun hHeld2 => ?rr100)
   case ss100 => (try dsimp only); exact q5
   clear hK K
   clear hHeld
   have hHeld := hHeld2
   clear hHeld2
   try simp only [Act.put, rg1, rg2, rg3]
   refine rgt 13 94 rfl rfl hHeld ?_
   try simp only [Act.put, rg1, rg2, rg3]
   refine rgt 14 95 rfl rfl hHeld ?_
   try simp only [Act.put, rg1, rg2, rg3]
   refine rgt 15 96 rfl rfl hHeld ?_
   try simp only [Act.put, rg1, rg2, rg3]
   refine rgc 16 (none) rfl (fun K hK => ?_)
   go_simp
   go_simp
   refine hK.out _ _ ?ss104 (fun hHeld2 => ?rr104)
   case ss104 => (try dsimp only); exact (World.cell?_setCell_other _ _ _ _ (fun e => by have := H2.out.2.2.2.2; injection e with e; omega)).trans q5
   clear hK K
   clear hHeld
   have hHeld := hHeld2
   clear hHeld2
   try simp only [Act.put, rg1, rg2, rg3]
   refine wpAnyH_done (by kernel_rfl) ?_ _
   have hr5 := RAt.type (HR.out.grow (bal F3.out.2.2.2.1 _)) ht4 ho4
   have hk5 : Blk (w4.setCell ⟨r, 4, none⟩ (.slice AV (L.types.length + 1) cV)) cf 141 #[.bool (unq a).isSome] := by
    have h := F3.out.2.2.1
    simp only [numB_all, Bool.true_and] at h
    exact Blk.far ((ht4.block (by rw [World.size_alloc]; exact Nat.lt_succ_of_lt h.lt) (HR.out.away (rowY_in L) H2.out.2.2.2.1)).trans (h.alloc _)) (show cf ≠ r by have := H2.out.2.2.2.1; omega) _
   have hb5 : Below r w (w4.setCell ⟨r, 4, none⟩ (.slice AV (L.types.length + 1) cV)) :=
    below_set (((bal F3.out.2.2.2.1 (.cells #[.string ⟨n.toArray⟩] 9)).mono (Nat.le_of_lt hrw)).trans ((HR.out.grow (bal F3.out.2.2.2.1 (.cells #[.string ⟨n.toArray⟩] 9))).but (rowY_in L) ht4)) (Nat.le_refl r) _
   have hlb : LB { L with types := L.types ++ [n], yv := .slice AV (L.types.length + 1) cV } (B + 1) := by
    obtain ⟨l1, l2, l3, l4, l5, l6⟩ := HB.out
    exact ⟨by (try simp only [List.length_append, List.length_singleton]); omega, by (try simp only [List.length_append, List.length_singleton]); omega, by (try simp only [List.length_append, List.length_singleton]); omega, by (try simp only [List.length_append, List.length_singleton]); omega, by (try simp only [List.length_append, List.length_singleton]); omega, fun g hg => by have := l6 g hg; omega⟩
   have hi : rdItem (wordsP s) = (unq a).map .type := by rw [HWS.out]; unfold rdItem; simp [kNum, kText, kType]
   have hvv := F3.out.2.1
   try simp only [numB_all] at hvv
   obtain ⟨W5, hW5⟩ : ∃ X, w4.setCell ⟨r, 4, none⟩ (.slice AV (L.types.length + 1) cV) = X := ⟨_, rfl⟩
   rw [hW5] at hr5 hk5 hb5 ⊢
   have cr := (hr5.blk.cell 5).trans rfl
   have zr := hr5.blk.frozen 5
   have ck := (hk5.cell 0).trans rfl
   simp only [List.getElem?_toArray, List.getElem?_cons_zero, List.getElem?_cons_succ] at cr ck
   have h6 : ∀ i, (unq a).map Item.type = some i -> (CoL.code { L with types := L.types ++ [n], yv := .slice AV (L.types.length + 1) cV }) = addI L.code i /\ stageI i = 3 := by
    intro i hi2
    obtain ⟨v, hv, rfl⟩ := Option.map_eq_some_iff.1 hi2
    rw [<- hvv v hv]
    exact ⟨rfl, rfl⟩
   have H5 := Lib.hid (And.intro hr5 (And.intro hb5 (And.intro hlb (And.intro hi h6))))
   clear hr5 hb5 hlb hi h6 hvv hk5 hW5 ht4 ho4 y3 y4 y5 z5 q3 q5 k4 F3 hHeld p0 p1 y2
   rcases hv : unq a with _ | v
   ·
    rw [hv] at ck
    simp only [Option.isSome_none] at ck
    have HV := Lib.hid hv
    clear hv
    go_wp2_with fail
    go_step3
    go_wp2_with fail
    rw [Exit.noGoto_ret]
    go_ret
    exact line_no (by rw [H5.out.2.2.2.1, HV.out]; rfl) H5.out.2.1
   ·
    rw [hv] at ck
    simp only [Option.isSome_some] at ck
    have HV := Lib.hid hv
    clear hv
    by_cases hs : st <= 3
    ·
     have hd : decide ((st : Int) <= 3) = true := by simp; omega
     have HS := Lib.hid hs
     clear hs
     go_wp2_with fail
     rw [Exit.noGoto_ret]
     go_ret
     exact line_yes (cf := cf) H5.out.2.2.2.1 H5.out.1 H5.out.2.2.1 H5.out.2.1 (by rw [HV.out]; rfl) H5.out.2.2.2.2 (fun i hi2 hx => by obtain ⟨v, _, rfl⟩ := Option.map_eq_some_iff.1 hi2; cases hx) HS.out
    ·
     have hd : decide ((st : Int) <= 3) = false := by simp; omega
     have HS := Lib.hid hs
     clear hs
     go_wp2_with fail
     go_step3
     go_wp2_with fail
     rw [Exit.noGoto_ret]
     go_ret
     exact line_late (cf := cf) H5.out.2.2.2.1 H5.out.2.1 H5.out.2.2.2.2 HS.out
  case br97 =>
   go_simp
   go_simp; have y4 : (w3.alloc (.cells #[.string ⟨n.toArray⟩] 9)).cell? ⟨r, 4, none⟩ = some L.yv := ((HR.out.grow (bal F3.out.2.2.2.1 _)).blk.cell 4).trans rfl
   refine hK.out _ _ ?ss105 (fun hHeld2 => ?rr105)
   case ss105 => (try dsimp only); exact (World.cell?_alloc_lt _ _ _ (Nat.lt_trans H2.out.2.2.1 F3.out.2.2.1.lt)).trans q3
   clear hK K
   clear hHeld
   have hHeld := hHeld2
   clear hHeld2
   try simp only [Act.put, rg1, rg2, rg3]
   refine rgc 5 (some 86) rfl (fun K hK => ?_)
   go_simp
   refine hK.out _ _ ?ss106 (fun hHeld2 => ?rr106)
   case ss106 => (try dsimp only); exact hHeld
   clear hK K
   clear hHeld2
   try simp only [Act.put, rg1, rg2, rg3]
   refine rgc 12 (some 93) rfl (fun K hK => ?_)
   (refine step_append_fine rfl (.tmp 86) (.tmp 92) _ rfl (r + 1) 9 i0 _ 1 16 Tryz.underlying25 hi0 hz0 hz1 hz2 rfl L.yv L.types.length (envC L.types) rfl ((HR.out.grow (bal F3.out.2.2.2.1 _)).own.own (rowY L) (rowY_in L)) (w3.heap.size + 1) (some ⟨w3.heap.size, 0, none⟩) 1 1 [.string ⟨n.toArray⟩] rfl (Sl.one w3 _ _) (fun u hu => by rw [List.mem_singleton.1 hu]; rfl) (by decide) (by have := HB.out.y; unfold maxLen; omega) (by have := HB.out.y; omega) (by have := (bal F3.out.2.2.2.1 (.cells #[.string ⟨n.toArray⟩] 9)).size; omega) ?_); (intro V' w4 ho4 ht4); (obtain ⟨AV, cV, rfl, _, _⟩ := own_shape ho4); have k4 := (HR.out.grow (bal F3.out.2.2.2.1 _)).far (rowY_in L) ht4; have y5 := (k4.cell 4).trans rfl; have z5 := k4.frozen 4; simp only [List.getElem?_toArray, List.getElem?_cons_zero, List.getElem?_cons_succ] at y5; have q5 : w4.cell? ⟨bw, 1, none⟩ = some (strV a) := (World.cell?_of_block (ht4.block (by rw [World.size_alloc]; exact Nat.lt_succ_of_lt (Nat.lt_trans H2.out.2.2.1 F3.out.2.2.1.lt)) (HR.out.away (rowY_in L) H2.out.2.2.2.2))).trans ((World.cell?_alloc_lt _ _ _ (Nat.lt_trans H2.out.2.2.1 F3.out.2.2.1.lt)).trans q3)
   refine hK.out _ _ ?ss107 (fun hHeld2 => ?rr107)
   case ss107 => (try dsimp only); exact q5
   clear hK K
   clear hHeld
   have hHeld := hHeld2
   clear hHeld2
   try simp only [Act.put, rg1, rg2, rg3]
   refine rgt 13 94 rfl rfl hHeld ?_
   try simp only [Act.put, rg1, rg2, rg3]
   refine rgt 14 95 rfl rfl hHeld ?_
   try simp only [Act.put, rg1, rg2, rg3]
   refine rgt 15 96 rfl rfl hHeld ?_
   try simp only [Act.put, rg1, rg2, rg3]
   refine rgc 16 (none) rfl (fun K hK => ?_)
   go_simp
   go_simp
   refine hK.out _ _ ?ss111 (fun hHeld2 => ?rr111)
   case ss111 => (try dsimp only); exact (World.cell?_setCell_other _ _ _ _ (fun e => by have := H2.out.2.2.2.2; injection e with e; omega)).trans q5
   clear hK K
   clear hHeld
   have hHeld := hHeld2
   clear hHeld2
   try simp only [Act.put, rg1, rg2, rg3]
   refine wpAnyH_done (by kernel_rfl) ?_ _
   have hr5 := RAt.type (HR.out.grow (bal F3.out.2.2.2.1 _)) ht4 ho4
   have hk5 : Blk (w4.setCell ⟨r, 4, none⟩ (.slice AV (L.types.length + 1) cV)) cf 141 #[.bool (unq a).isSome] := by
    have h := F3.out.2.2.1
    simp only [numB_all, Bool.true_and] at h
    exact Blk.far ((ht4.block (by rw [World.size_alloc]; exact Nat.lt_succ_of_lt h.lt) (HR.out.away (rowY_in L) H2.out.2.2.2.1)).trans (h.alloc _)) (show cf ≠ r by have := H2.out.2.2.2.1; omega) _
   have hb5 : Below r w (w4.setCell ⟨r, 4, none⟩ (.slice AV (L.types.length + 1) cV)) :=
    below_set (((bal F3.out.2.2.2.1 (.cells #[.string ⟨n.toArray⟩] 9)).mono (Nat.le_of_lt hrw)).trans ((HR.out.grow (bal F3.out.2.2.2.1 (.cells #[.string ⟨n.toArray⟩] 9))).but (rowY_in L) ht4)) (Nat.le_refl r) _
   have hlb : LB { L with types := L.types ++ [n], yv := .slice AV (L.types.length + 1) cV } (B + 1) := by
    obtain ⟨l1, l2, l3, l4, l5, l6⟩ := HB.out
    exact ⟨by (try simp only [List.length_append, List.length_singleton]); omega, by (try simp only [List.length_append, List.length_singleton]); omega, by (try simp only [List.length_append, List.length_singleton]); omega, by (try simp only [List.length_append, List.length_singleton]); omega, by (try simp only [List.length_append, List.length_singleton]); omega, fun g hg => by have := l6 g hg; omega⟩
   have hi : rdItem (wordsP s) = (unq a).map .type := by rw [HWS.out]; unfold rdItem; simp [kNum, kText, kType]
   have hvv := F3.out.2.1
   try simp only [numB_all] at hvv
   obtain ⟨W5, hW5⟩ : ∃ X, w4.setCell ⟨r, 4, none⟩ (.slice AV (L.types.length + 1) cV) = X := ⟨_, rfl⟩
   rw [hW5] at hr5 hk5 hb5 ⊢
   have cr := (hr5.blk.cell 5).trans rfl
   have zr := hr5.blk.frozen 5
   have ck := (hk5.cell 0).trans rfl
   simp only [List.getElem?_toArray, List.getElem?_cons_zero, List.getElem?_cons_succ] at cr ck
   have h6 : ∀ i, (unq a).map Item.type = some i -> (CoL.code { L with types := L.types ++ [n], yv := .slice AV (L.types.length + 1) cV }) = addI L.code i /\ stageI i = 3 := by
    intro i hi2
    obtain ⟨v, hv, rfl⟩ := Option.map_eq_some_iff.1 hi2
    rw [<- hvv v hv]
    exact ⟨rfl, rfl⟩
   have H5 := Lib.hid (And.intro hr5 (And.intro hb5 (And.intro hlb (And.intro hi h6))))
   clear hr5 hb5 hlb hi h6 hvv hk5 hW5 ht4 ho4 y3 y4 y5 z5 q3 q5 k4 F3 hHeld p0 p1 y2
   rcases hv : unq a with _ | v
   ·
    rw [hv] at ck
    simp only [Option.isSome_none] at ck
    have HV := Lib.hid hv
    clear hv
    go_wp2_with fail
    go_step3
    go_wp2_with fail
    rw [Exit.noGoto_ret]
    go_ret
    exact line_no (by rw [H5.out.2.2.2.1, HV.out]; rfl) H5.out.2.1
   ·
    rw [hv] at ck
    simp only [Option.isSome_some] at ck
    have HV := Lib.hid hv
    clear hv
    by_cases hs : st <= 3
    ·
     have hd : decide ((st : Int) <= 3) = true := by simp; omega
     have HS := Lib.hid hs
     clear hs
     go_wp2_with fail
     rw [Exit.noGoto_ret]
     go_ret
     exact line_yes (cf := cf) H5.out.2.2.2.1 H5.out.1 H5.out.2.2.1 H5.out.2.1 (by rw [HV.out]; rfl) H5.out.2.2.2.2 (fun i hi2 hx => by obtain ⟨v, _, rfl⟩ := Option.map_eq_some_iff.1 hi2; cases hx) HS.out
    ·
     have hd : decide ((st : Int) <= 3) = false := by simp; omega
     have HS := Lib.hid hs
     clear hs
     go_wp2_with fail
     go_step3
     go_wp2_with fail
     rw [Exit.noGoto_ret]
     go_ret
     exact line_late (cf := cf) H5.out.2.2.2.1 H5.out.2.1 H5.out.2.2.2.2 HS.out
end Go.Proofs.YtobplngonkdbpaaGreatDoor.D
