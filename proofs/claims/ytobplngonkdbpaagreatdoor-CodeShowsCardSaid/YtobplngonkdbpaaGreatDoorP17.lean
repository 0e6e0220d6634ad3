/- Parts of this claim: CfD. -/
import Derived.Laws.CopyOwn
import Derived.Test.YtobplngonkdbpaaGreatDoorP11
import Derived.Test.YtobplngonkdbpaaGreatDoorP05
set_option linter.unusedVariables false
set_option linter.unusedSimpArgs false
/- CfD -/
namespace Go.Proofs.YtobplngonkdbpaaGreatDoor.D
open Go.RowKit
open Go.Proofs.YtobplngonkdbpaaGreatDoor.B
set_option linter.unusedVariables false
set_option linter.unusedSimpArgs false
theorem infoW : (Tryz.prog.info? 84).map (fun i => (i.zero, i.size, i.bytes)) = some (some (.agg #[.string ⟨#[]⟩, .string ⟨#[]⟩, .slice none 0 0]), 3, 56) := by kernel_rfl
theorem infoN : (Tryz.prog.info? 86).map (fun i => (i.zero, i.size, i.bytes)) = some (some (.agg #[.int .i8 0, .int .i64 0, .bool false, .int .u8 0, .int .i64 0, .int .u8 0, .int .u8 0]), 7, 40) := by kernel_rfl
theorem nodeG_c (cf : Nat) (s : Bs) (g : Bool) (w : World) (hl : s.length <= 1073741824) (hg : Gl w) (hb : Blk w cf 141 #[.bool g]) (h8 : 8 <= cf) :
  Calls Tryz.prog 104 #[.pointer (some ⟨cf, 0, none⟩), strV s] w fun e w' =>
   ∃ c : Nd, e = .returned (.agg #[.int .i8 c.op, .int .i64 c.proj, .bool c.inj, .int .u8 c.head, .int .i64 c.lab, .int .u8 c.from_, .int .u8 c.to_]) /\ c.ok /\ (∀ t, ndV s = some t -> c = t) /\ Blk w' cf 141 #[.bool (g && (ndV s).isSome)] /\ But (fun k => k = cf) w w' := nodeF_c cf s g w hl hg hb h8
set_option maxRecDepth 100000 in
set_option maxHeartbeats 4000000 in
theorem line_cast (r st B : Nat) (L : CoL) (s f t : Bs) (cs : List Bs) (w : World) (hl : s.length <= 1073741824) (hg : Gl w) (h8 : 8 <= r) (hr : RAt w r L st) (hB : LB L B) (hBb : B <= 1073741824) (hws : wordsP s = kCast :: f :: t :: cs)
  (hlw : ∀ x ∈ wordsP s, x.length <= 1073741824) (hlN : (wordsP s).length <= 1073741825) :
  Calls Tryz.prog 48 #[.pointer (some ⟨r, 0, none⟩), strV s] w fun e w' => LineQ r st B L s w e w' := by
 obtain ⟨i0, hi0, hz0, hz1, hz2⟩ := info_parts infoW
 obtain ⟨i1, hi1, hy0, hy1, hy2⟩ := info_parts infoN
 have hW := words_p s w hl hg
 obtain ⟨M, hM⟩ : ∃ M, cs.length = M := ⟨_, rfl⟩
 have hN : (wordsP s).length = M + 3 := by rw [hws, <- hM]; rfl
 rw [hN] at hW hlN
 have HW := Lib.hid hW
 have HR := Lib.hid hr
 have HG := Lib.hid hg
 have HB := Lib.hid hB
 have HWS := Lib.hid (And.intro hws (And.intro hM hN))
 have HLW := Lib.hid hlw
 have hrw := hr.blk.lt
 clear hW hr hg hB hws hM hN hlw
 go_enter Tryz.func48, Tryz.ntmps48
 go_wp2_with fail
 go_step3
 go_wp2_with fail
 (refine HW.out.mono ?_); rintro ev w1 ⟨v, rfl, hown, hb1⟩
 obtain ⟨hNN, bw, cw, rfl, hbw, hbw2, hcw, hq⟩ := wordsK hown (show 0 < (wordsP s).length by rw [HWS.out.2.2]; omega)
 clear HW hNN
 have hq0 := hq 0 kCast (by rw [HWS.out.1]; rfl)
 have hq1 := hq 1 f (by rw [HWS.out.1]; rfl)
 have hq2 := hq 2 t (by rw [HWS.out.1]; rfl)
 have hq3 : ∀ j x, cs[j]? = some x -> w1.cell? ⟨bw, 3 + j, none⟩ = some (strV x) := fun j x hx => hq (3 + j) x (by rw [HWS.out.1, show 3 + j = j + 1 + 1 + 1 by omega]; exact hx)
 go_upto_region 3 with fail
 obtain ⟨cf, hcf⟩ : ∃ cf, w1.heap.size = cf := ⟨_, rfl⟩
 obtain ⟨W2, hW2⟩ : ∃ W2, w1.alloc (.cells #[.bool true] 141) = W2 := ⟨_, rfl⟩
 have hb2 : Below w.heap.size w W2 := by rw [<- hW2]; exact bal hb1 _
 have hk2 : Blk W2 cf 141 #[.bool true] := by rw [<- hW2, <- hcf]; exact Blk.new _ _ _
 have p0 : W2.cell? ⟨bw, 0, none⟩ = some (.string ⟨#[99, 97, 115, 116]⟩) := by rw [<- hW2, World.cell?_alloc_lt _ _ _ hbw2]; exact hq0
 have p1 : W2.cell? ⟨bw, 1, none⟩ = some (strV f) := by rw [<- hW2, World.cell?_alloc_lt _ _ _ hbw2]; exact hq1
 have p2 : W2.cell? ⟨bw, 2, none⟩ = some (strV t) := by rw [<- hW2, World.cell?_alloc_lt _ _ _ hbw2]; exact hq2
 have p3 : ∀ j x, cs[j]? = some x -> W2.cell? ⟨bw, 3 + j, none⟩ = some (strV x) := fun j x hx => by rw [<- hW2, World.cell?_alloc_lt _ _ _ hbw2]; exact hq3 j x hx
 have hbc : bw < cf := by omega
 have hwc : w.heap.size <= cf := by omega
 have hge : decide ((3 : Int) <= ((M + 3 : Nat) : Int)) = true := by simp; omega
 rw [hW2, hcf]
 have H2 := Lib.hid (And.intro hb2 (And.intro hk2 (And.intro hbc (And.intro hwc hbw))))
 have HP := Lib.hid p3
 clear hq0 hq1 hq2 hq3 hq hW2 hcf hb1 hb2 hk2 hown hbw2 hbc hwc hbw p3
 have h1m : (1 : Int) < (M : Int) + 3 := by omega
 have h2m : (2 : Int) < (M : Int) + 3 := by omega
 have HSr := Lib.hid (show ∀ W', Below w.heap.size w W' -> W'.heap[bw]? = W2.heap[bw]? -> Below w.heap.size w W' /\ W'.heap[bw]? = W2.heap[bw]? /\ W'.cell? ⟨bw, 1, none⟩ = some (strV f) /\ W'.cell? ⟨bw, 2, none⟩ = some (strV t) from fun W' h1 h2 =>
  ⟨h1, h2, (World.cell?_of_block (a := ⟨bw, 1, none⟩) h2).trans p1, (World.cell?_of_block (a := ⟨bw, 2, none⟩) h2).trans p2⟩)
 have KN := Lib.hid (show ∀ W : World, Blk (W.alloc (.cells #[.string ⟨#[]⟩, .string ⟨#[]⟩, .slice none 0 0] 84)) W.heap.size 84 #[.string ⟨#[]⟩, .string ⟨#[]⟩, .slice none 0 0] from fun W => Blk.new W _ _)
 have hbwl : bw < W2.heap.size := Nat.lt_trans H2.out.2.2.1 H2.out.2.1.lt
 have hcfl : cf < W2.heap.size := H2.out.2.1.lt
 have h8c : 8 <= cf := by have := H2.out.2.2.2.1; omega
 have hbne : bw ≠ cf := Nat.ne_of_lt H2.out.2.2.1
 have hww : w.heap.size <= W2.heap.size := H2.out.1.size
 have HCF := Lib.hid (And.intro hbwl (And.intro hcfl (And.intro h8c (And.intro hbne hww))))
 have HLf := Lib.hid (HLW.out f (by rw [HWS.out.1]; simp))
 have HLt := Lib.hid (HLW.out t (by rw [HWS.out.1]; simp))
 clear hbwl hcfl h8c hbne hww
 go_upto_region 16 with fail
 go_cut [9] from 16 to 116 (fun p9 wx => ∃ (b9 : Nat) (f' t' : Bs), p9 = .pointer (some ⟨b9, 0, none⟩) /\ Hid (Blk wx b9 84 #[.string ⟨f'.toArray⟩, .string ⟨t'.toArray⟩, .slice none 0 0] /\
  Blk wx cf 141 #[.bool ((unq f).isSome && (unq t).isSome)] /\ (∀ v, unq f = some v -> f' = v) /\ (∀ v, unq t = some v -> t' = v) /\ Below w.heap.size w wx /\ wx.heap[bw]? = W2.heap[bw]? /\ cf < b9))
 case first =>
  refine wp_region_held_drew (S := (fun W' => Below w.heap.size w W' /\ W'.heap[bw]? = W2.heap[bw]? /\ W'.cell? ⟨bw, 1, none⟩ = some (strV f) /\ W'.cell? ⟨bw, 2, none⟩ = some (strV t))) (by kernel_rfl) ?ss1 (fun hHeld => ?rr1)
  case ss1 => (try dsimp only); exact HSr.out _ (bdr H2.out.1 1) rfl
  refine rgt 0 106 rfl rfl hHeld ?_
  try simp only [Act.put, rg1, rg2, rg3]
  refine rgt 1 107 rfl rfl hHeld ?_
  try simp only [Act.put, rg1, rg2, rg3]
  refine rgt 2 108 rfl rfl hHeld ?_
  try simp only [Act.put, rg1, rg2, rg3]
  refine rgt 3 109 rfl rfl hHeld ?_
  try simp only [Act.put, rg1, rg2, rg3]
  refine rgt 5 111 rfl rfl hHeld ?_
  try simp only [Act.put, rg1, rg2, rg3]
  refine rgt 6 112 rfl rfl hHeld ?_
  try simp only [Act.put, rg1, rg2, rg3]
  refine rgt 7 113 rfl rfl hHeld ?_
  try simp only [Act.put, rg1, rg2, rg3]
  refine rgt 8 114 rfl rfl hHeld ?_
  try simp only [Act.put, rg1, rg2, rg3]
  refine wpAnyH_ready (rs := [4, 11]) (by kernel_rfl) (by simp) ?_
  refine AllReadyH.cons (o := ⟨some 110, _, _, _, _, _⟩) rfl (fun K hK => ?br10) (AllReadyH.cons (o := ⟨some 9, _, _, _, _, _⟩) rfl (fun K hK => ?br11) AllReadyH.nil)
  case br10 =>
   go_simp
   ((refine (textF_c cf f true _ HLf.out (HG.out.on hHeld.1) (by first | exact H2.out.2.1.drew | exact H2.out.2.1.drew.alloc _) HCF.out.2.2.1).mono ?_); rintro e w3 ⟨fv, rfl, hv3, hk3, hbt3⟩; have F3 := Lib.hid (And.intro hv3 (And.intro hk3 hbt3)); clear hv3 hk3 hbt3)
   refine hK.out _ _ ?ss12 (fun hHeld2 => ?rr12)
   case ss12 => (try dsimp only); exact HSr.out _ (hHeld.1.trans (F3.out.2.2.below hHeld.1.size fun k hk => by have := H2.out.2.2.2.1; omega)) ((F3.out.2.2.block bw (lt_same hHeld.2.1 HCF.out.1) HCF.out.2.2.2.1).trans hHeld.2.1)
   clear hK K
   clear hHeld
   have hHeld := hHeld2
   clear hHeld2
   try simp only [Act.put, rg1, rg2, rg3]
   refine wpAnyH_ready (rs := [9, 11]) (by kernel_rfl) (by simp) ?_
   refine AllReadyH.cons (o := ⟨some 115, _, _, _, _, _⟩) rfl (fun K hK => ?br13) (AllReadyH.cons (o := ⟨some 9, _, _, _, _, _⟩) rfl (fun K hK => ?br14) AllReadyH.nil)
   case br13 =>
    go_simp
    ((refine (textF_c cf t _ _ HLt.out (HG.out.on hHeld.1) (by first | exact F3.out.2.1 | exact F3.out.2.1.alloc _) HCF.out.2.2.1).mono ?_); rintro e w4 ⟨tv, rfl, hv4, hk4, hbt4⟩; have F4 := Lib.hid (And.intro hv4 (And.intro hk4 hbt4)); clear hv4 hk4 hbt4)
    refine hK.out _ _ ?ss15 (fun hHeld2 => ?rr15)
    case ss15 => (try dsimp only); exact HSr.out _ (hHeld.1.trans (F4.out.2.2.below hHeld.1.size fun k hk => by have := H2.out.2.2.2.1; omega)) ((F4.out.2.2.block bw (lt_same hHeld.2.1 HCF.out.1) HCF.out.2.2.2.1).trans hHeld.2.1)
    clear hK K
    clear hHeld
    have hHeld := hHeld2
    clear hHeld2
    try simp only [Act.put, rg1, rg2, rg3]
    refine rgt 10 116 rfl rfl hHeld ?_
    try simp only [Act.put, rg1, rg2, rg3]
    refine rgc 11 (some 9) rfl (fun K hK => ?_)
    go_simp
    go_simp
    refine hK.out _ _ ?ss17 (fun hHeld2 => ?rr17)
    case ss17 => (try dsimp only); exact HSr.out _ (bal hHeld.1 _) ((Below.heap_alloc _ _ bw (lt_same hHeld.2.1 HCF.out.1)).trans hHeld.2.1)
    clear hK K
    clear hHeld
    have hHeld := hHeld2
    clear hHeld2
    try simp only [Act.put, rg1, rg2, rg3]
    refine rgc 12 (none) rfl (fun K hK => ?_)
    (refine step_store_row rfl 84 (.tmp 9) (.tmp 116) rfl _ #[.string ⟨fv.toArray⟩, .string ⟨tv.toArray⟩, .slice none 0 0] rfl rfl 84 #[.string ⟨#[]⟩, .string ⟨#[]⟩, .slice none 0 0] ?hg (by kernel_rfl) rfl (by kernel_rfl) ?_); (case hg => first | exact KN.out _ | exact (F4.out.2.2.block _ (by simp only [World.size_alloc]; omega) (Nat.ne_of_gt F3.out.2.1.lt)).trans (KN.out w3) | exact (F4.out.2.2.block _ (by have := F3.out.2.2.size; simp only [World.size_alloc, World.size_drew] at this; omega) (Nat.ne_of_gt HCF.out.2.1)).trans ((F3.out.2.2.block _ (by simp only [World.size_alloc, World.size_drew]; omega) (Nat.ne_of_gt HCF.out.2.1)).trans (KN.out W2.drew)))
    refine hK.out _ _ ?ss18 (fun hHeld2 => ?rr18)
    case ss18 => (try dsimp only); exact HSr.out _ (below_setRow hHeld.1 (Nat.le_of_lt (Nat.lt_of_le_of_lt H2.out.2.2.2.1 (by first | exact HCF.out.2.1 | exact F3.out.2.1.lt | exact F4.out.2.1.lt))) _) ((setRow_other _ _ _ _ (Nat.ne_of_lt (Nat.lt_trans H2.out.2.2.1 (by first | exact HCF.out.2.1 | exact F3.out.2.1.lt | exact F4.out.2.1.lt)))).trans hHeld.2.1)
    clear hK K
    clear hHeld
    have hHeld := hHeld2
    clear hHeld2
    try simp only [Act.put, rg1, rg2, rg3]
    refine wpAnyH_done (by kernel_rfl) ?_ _
    go_wp2_with fail
    go_meet
    case rel =>
     refine ⟨_, fv, tv, rfl, Lib.hid ⟨setRow_heap _ _ _ _ _ _ (by first | exact KN.out _ | exact (F4.out.2.2.block _ (by simp only [World.size_alloc]; omega) (Nat.ne_of_gt F3.out.2.1.lt)).trans (KN.out w3) | exact (F4.out.2.2.block _ (by have := F3.out.2.2.size; simp only [World.size_alloc, World.size_drew] at this; omega) (Nat.ne_of_gt HCF.out.2.1)).trans ((F3.out.2.2.block _ (by simp only [World.size_alloc, World.size_drew]; omega) (Nat.ne_of_gt HCF.out.2.1)).trans (KN.out W2.drew))), (setRow_other _ _ _ _ (Nat.ne_of_lt (by first | exact HCF.out.2.1 | exact F3.out.2.1.lt | exact F4.out.2.1.lt))).trans ?_, F3.out.1, F4.out.1, hHeld.1, hHeld.2.1, by first | exact HCF.out.2.1 | exact F3.out.2.1.lt | exact F4.out.2.1.lt⟩⟩
     have h9 := F4.out.2.1
     rw [Bool.true_and] at h9
     first | exact h9 | exact h9.alloc _
   case br14 =>
    go_simp
    go_simp
    refine hK.out _ _ ?ss19 (fun hHeld2 => ?rr19)
    case ss19 => (try dsimp only); exact HSr.out _ (bal hHeld.1 _) ((Below.heap_alloc _ _ bw (lt_same hHeld.2.1 HCF.out.1)).trans hHeld.2.1)
    clear hK K
    clear hHeld
    have hHeld := hHeld2
    clear hHeld2
    try simp only [Act.put, rg1, rg2, rg3]
    refine rgc 9 (some 115) rfl (fun K hK => ?_)
    go_simp
    ((refine (textF_c cf t _ _ HLt.out (HG.out.on hHeld.1) (by first | exact F3.out.2.1 | exact F3.out.2.1.alloc _) HCF.out.2.2.1).mono ?_); rintro e w4 ⟨tv, rfl, hv4, hk4, hbt4⟩; have F4 := Lib.hid (And.intro hv4 (And.intro hk4 hbt4)); clear hv4 hk4 hbt4)
    refine hK.out _ _ ?ss20 (fun hHeld2 => ?rr20)
    case ss20 => (try dsimp only); exact HSr.out _ (hHeld.1.trans (F4.out.2.2.below hHeld.1.size fun k hk => by have := H2.out.2.2.2.1; omega)) ((F4.out.2.2.block bw (lt_same hHeld.2.1 HCF.out.1) HCF.out.2.2.2.1).trans hHeld.2.1)
    clear hK K
    clear hHeld
    have hHeld := hHeld2
    clear hHeld2
    try simp only [Act.put, rg1, rg2, rg3]
    refine rgt 10 116 rfl rfl hHeld ?_
    try simp only [Act.put, rg1, rg2, rg3]
    refine rgc 12 (none) rfl (fun K hK => ?_)
    (refine step_store_row rfl 84 (.tmp 9) (.tmp 116) rfl _ #[.string ⟨fv.toArray⟩, .string ⟨tv.toArray⟩, .slice none 0 0] rfl rfl 84 #[.string ⟨#[]⟩, .string ⟨#[]⟩, .slice none 0 0] ?hg (by kernel_rfl) rfl (by kernel_rfl) ?_); (case hg => first | exact KN.out _ | exact (F4.out.2.2.block _ (by simp only [World.size_alloc]; omega) (Nat.ne_of_gt F3.out.2.1.lt)).trans (KN.out w3) | exact (F4.out.2.2.block _ (by have := F3.out.2.2.size; simp only [World.size_alloc, World.size_drew] at this; omega) (Nat.ne_of_gt HCF.out.2.1)).trans ((F3.out.2.2.block _ (by simp only [World.size_alloc, World.size_drew]; omega) (Nat.ne_of_gt HCF.out.2.1)).trans (KN.out W2.drew)))
    refine hK.out _ _ ?ss22 (fun hHeld2 => ?rr22)
    case ss22 => (try dsimp only); exact HSr.out _ (below_setRow hHeld.1 (Nat.le_of_lt (Nat.lt_of_le_of_lt H2.out.2.2.2.1 (by first | exact HCF.out.2.1 | exact F3.out.2.1.lt | exact F4.out.2.1.lt))) _) ((setRow_other _ _ _ _ (Nat.ne_of_lt (Nat.lt_trans H2.out.2.2.1 (by first | exact HCF.out.2.1 | exact F3.out.2.1.lt | exact F4.out.2.1.lt)))).trans hHeld.2.1)
    clear hK K
    clear hHeld
    have hHeld := hHeld2
    clear hHeld2
    try simp only [Act.put, rg1, rg2, rg3]
    refine wpAnyH_done (by kernel_rfl) ?_ _
    go_wp2_with fail
    go_meet
    case rel =>
     refine ⟨_, fv, tv, rfl, Lib.hid ⟨setRow_heap _ _ _ _ _ _ (by first | exact KN.out _ | exact (F4.out.2.2.block _ (by simp only [World.size_alloc]; omega) (Nat.ne_of_gt F3.out.2.1.lt)).trans (KN.out w3) | exact (F4.out.2.2.block _ (by have := F3.out.2.2.size; simp only [World.size_alloc, World.size_drew] at this; omega) (Nat.ne_of_gt HCF.out.2.1)).trans ((F3.out.2.2.block _ (by simp only [World.size_alloc, World.size_drew]; omega) (Nat.ne_of_gt HCF.out.2.1)).trans (KN.out W2.drew))), (setRow_other _ _ _ _ (Nat.ne_of_lt (by first | exact HCF.out.2.1 | exact F3.out.2.1.lt | exact F4.out.2.1.lt))).trans ?_, F3.out.1, F4.out.1, hHeld.1, hHeld.2.1, by first | exact HCF.out.2.1 | exact F3.out.2.1.lt | exact F4.out.2.1.lt⟩⟩
     have h9 := F4.out.2.1
     rw [Bool.true_and] at h9
     first | exact h9 | exact h9.alloc _
  case br11 =>
   go_simp
   go_simp
   refine hK.out _ _ ?ss23 (fun hHeld2 => ?rr23)
   case ss23 => (try dsimp only); exact HSr.out _ (bal hHeld.1 _) ((Below.heap_alloc _ _ bw (lt_same hHeld.2.1 HCF.out.1)).trans hHeld.2.1)
   clear hK K
   clear hHeld
   have hHeld := hHeld2
   clear hHeld2
   try simp only [Act.put, rg1, rg2, rg3]
   refine rgc 4 (some 110) rfl (fun K hK => ?_)
   go_simp
   ((refine (textF_c cf f true _ HLf.out (HG.out.on hHeld.1) (by first | exact H2.out.2.1.drew | exact H2.out.2.1.drew.alloc _) HCF.out.2.2.1).mono ?_); rintro e w3 ⟨fv, rfl, hv3, hk3, hbt3⟩; have F3 := Lib.hid (And.intro hv3 (And.intro hk3 hbt3)); clear hv3 hk3 hbt3)
   refine hK.out _ _ ?ss24 (fun hHeld2 => ?rr24)
   case ss24 => (try dsimp only); exact HSr.out _ (hHeld.1.trans (F3.out.2.2.below hHeld.1.size fun k hk => by have := H2.out.2.2.2.1; omega)) ((F3.out.2.2.block bw (lt_same hHeld.2.1 HCF.out.1) HCF.out.2.2.2.1).trans hHeld.2.1)
   clear hK K
   clear hHeld
   have hHeld := hHeld2
   clear hHeld2
   try simp only [Act.put, rg1, rg2, rg3]
   refine rgc 9 (some 115) rfl (fun K hK => ?_)
   go_simp
   ((refine (textF_c cf t _ _ HLt.out (HG.out.on hHeld.1) (by first | exact F3.out.2.1 | exact F3.out.2.1.alloc _) HCF.out.2.2.1).mono ?_); rintro e w4 ⟨tv, rfl, hv4, hk4, hbt4⟩; have F4 := Lib.hid (And.intro hv4 (And.intro hk4 hbt4)); clear hv4 hk4 hbt4)
   refine hK.out _ _ ?ss25 (fun hHeld2 => ?rr25)
   case ss25 => (try dsimp only); exact HSr.out _ (hHeld.1.trans (F4.out.2.2.below hHeld.1.size fun k hk => by have := H2.out.2.2.2.1; omega)) ((F4.out.2.2.block bw (lt_same hHeld.2.1 HCF.out.1) HCF.out.2.2.2.1).trans hHeld.2.1)
   clear hK K
   clear hHeld
   have hHeld := hHeld2
   clear hHeld2
   try simp only [Act.put, rg1, rg2, rg3]
   refine rgt 10 116 rfl rfl hHeld ?_
   try simp only [Act.put, rg1, rg2, rg3]
   refine rgc 12 (none) rfl (fun K hK => ?_)
   (refine step_store_row rfl 84 (.tmp 9) (.tmp 116) rfl _ #[.string ⟨fv.toArray⟩, .string ⟨tv.toArray⟩, .slice none 0 0] rfl rfl 84 #[.string ⟨#[]⟩, .string ⟨#[]⟩, .slice none 0 0] ?hg (by kernel_rfl) rfl (by kernel_rfl) ?_); (case hg => first | exact KN.out _ | exact (F4.out.2.2.block _ (by simp only [World.size_alloc]; omega) (Nat.ne_of_gt F3.out.2.1.lt)).trans (KN.out w3) | exact (F4.out.2.2.block _ (by have := F3.out.2.2.size; simp only [World.size_alloc, World.size_drew] at this; omega) (Nat.ne_of_gt HCF.out.2.1)).trans ((F3.out.2.2.block _ (by simp only [World.size_alloc, World.size_drew]; omega) (Nat.ne_of_gt HCF.out.2.1)).trans (KN.out W2.drew)))
   refine hK.out _ _ ?ss27 (fun hHeld2 => ?rr27)
   case ss27 => (try dsimp only); exact HSr.out _ (below_setRow hHeld.1 (Nat.le_of_lt (Nat.lt_of_le_of_lt H2.out.2.2.2.1 (by first | exact HCF.out.2.1 | exact F3.out.2.1.lt | exact F4.out.2.1.lt))) _) ((setRow_other _ _ _ _ (Nat.ne_of_lt (Nat.lt_trans H2.out.2.2.1 (by first | exact HCF.out.2.1 | exact F3.out.2.1.lt | exact F4.out.2.1.lt)))).trans hHeld.2.1)
   clear hK K
   clear hHeld
   have hHeld := hHeld2
   clear hHeld2
   try simp only [Act.put, rg1, rg2, rg3]
   refine wpAnyH_done (by kernel_rfl) ?_ _
   go_wp2_with fail
   go_meet
   case rel =>
    refine ⟨_, fv, tv, rfl, Lib.hid ⟨setRow_heap _ _ _ _ _ _ (by first | exact KN.out _ | exact (F4.out.2.2.block _ (by simp only [World.size_alloc]; omega) (Nat.ne_of_gt F3.out.2.1.lt)).trans (KN.out w3) | exact (F4.out.2.2.block _ (by have := F3.out.2.2.size; simp only [World.size_alloc, World.size_drew] at this; omega) (Nat.ne_of_gt HCF.out.2.1)).trans ((F3.out.2.2.block _ (by simp only [World.size_alloc, World.size_drew]; omega) (Nat.ne_of_gt HCF.out.2.1)).trans (KN.out W2.drew))), (setRow_other _ _ _ _ (Nat.ne_of_lt (by first | exact HCF.out.2.1 | exact F3.out.2.1.lt | exact F4.out.2.1.lt))).trans ?_, F3.out.1, F4.out.1, hHeld.1, hHeld.2.1, by first | exact HCF.out.2.1 | exact F3.out.2.1.lt | exact F4.out.2.1.lt⟩⟩
    have h9 := F4.out.2.1
    rw [Bool.true_and] at h9
    first | exact h9 | exact h9.alloc _
 case rest =>
  obtain ⟨b9, fv, tv, rfl, HC⟩ := hcut
  clear KN HSr p0 p1 p2 hge h1m h2m
  have hm3 : ((3 : Int) <= (M : Int) + 3) := by omega
  have hmc : (M : Int) + 3 <= (cw : Int) := by omega
  go_upto_region 17 with fail
  go_cut [118, 119, 120] from 16 to 120 (fun sv lv iv wx => ∃ o : Nat, sv = .slice (some ⟨bw, o, none⟩) M (cw - 3) /\ lv = .int .i64 M /\ iv = .int .i64 0 /\ (0 < M -> o = 3) /\ wx = wc)
  case first =>
   by_cases h3 : cw = 3
   ·
    have hM0 : M = 0 := by omega
    subst h3
    subst hM0
    go_wp2_with fail
    go_meet
    case rel => exact ⟨0, rfl, rfl, rfl, fun h => by omega, rfl⟩
   ·
    go_wp2_with fail
    go_meet
    case rel => exact ⟨3, rfl, rfl, rfl, fun _ => rfl, rfl⟩
  case rest =>
   obtain ⟨o, rfl, rfl, rfl, ho3, rfl⟩ := hcut
   have HB9 := Lib.hid (show cf < b9 /\ w.heap.size <= cf /\ 8 <= cf /\ b9 < wc.heap.size from ⟨HC.out.2.2.2.2.2.2, H2.out.2.2.2.1, HCF.out.2.2.1, HC.out.1.lt⟩)
   have HO3 := Lib.hid ho3
   clear hmc hm3 ho3
   go_wp2_with fail
   go_loopg [120] M (fun gg i wr => ∃ (k : Nat) (V : Value) (D : List Nd), k <= M /\ gg = M - k /\ i = .int .i64 k /\ Hid (Blk wr b9 84 #[.string ⟨fv.toArray⟩, .string ⟨tv.toArray⟩, V] /\ wr.ownsRow wc.heap.size 86 7 V k (cosC D) /\ D.length = k /\
    Blk wr cf 141 #[.bool ((unq f).isSome && (unq t).isSome && (allV ndV (cs.take k)).isSome)] /\ (∀ l, allV ndV (cs.take k) = some l -> D = l) /\ Below w.heap.size w wr /\ wr.heap[bw]? = W2.heap[bw]? /\ wc.heap.size <= wr.heap.size))
   case atStart => exact ⟨0, .slice none 0 0, [], by omega, rfl, rfl, Lib.hid ⟨HC.out.1, World.ownsRow_nil _ _ _ _, rfl, by rw [List.take_zero, allV, Option.isSome_some, Bool.and_true]; exact HC.out.2.1, fun l hl2 => (by rw [List.take_zero, allV] at hl2; injection hl2), HC.out.2.2.2.2.1, HC.out.2.2.2.2.2.1, Nat.le_refl _⟩⟩
   case round =>
    obtain ⟨k, V, D, hk, rfl, rfl, HR1⟩ := hrel
    obtain ⟨AV, cV, rfl, hkc, hkm⟩ := own_shape HR1.out.2.1
    have hDk := Lib.hid HR1.out.2.2.1
    by_cases hlt : k < M
    ·
     obtain ⟨x, hx⟩ : ∃ x, cs[k]? = some x := ⟨_, List.getElem?_eq_getElem (by rw [HWS.out.2.1]; exact hlt)⟩
     obtain rfl := HO3.out (by omega)
     have px : wr.cell? ⟨bw, 3 + k, none⟩ = some (strV x) := (World.cell?_of_block (a := ⟨bw, 3 + k, none⟩) HR1.out.2.2.2.2.2.2.1).trans (HP.out k x hx)
     have y9 : wr.cell? ⟨b9, 2, none⟩ = some (.slice AV k cV) := (HR1.out.1.cell 2).trans rfl
     have hxl := Lib.hid (HLW.out x (by rw [HWS.out.1]; exact List.mem_cons_of_mem _ (List.mem_cons_of_mem _ (List.mem_cons_of_mem _ (List.mem_of_getElem? hx)))))
     have HX := Lib.hid (show cs.take (k + 1) = cs.take k ++ [x] by rw [List.take_add_one, hx]; rfl)
     have HDV := Lib.hid HR1.out.2.2.2.2.1
     clear hx
     go_upto_region 20 with fail
     refine wp_region_held_drew (S := (fun W' => Below w.heap.size w W' /\ W'.heap[bw]? = W2.heap[bw]?)) (by kernel_rfl) ?ss28 (fun hHeld => ?rr28)
     case ss28 => (try dsimp only); exact ⟨bdr HR1.out.2.2.2.2.2.1 1, HR1.out.2.2.2.2.2.2.1⟩
     refine rgt 0 124 rfl rfl hHeld ?_
     try simp only [Act.put, rg1, rg2, rg3]
     refine rgt 2 126 rfl rfl hHeld ?_
     try simp only [Act.put, rg1, rg2, rg3]
     refine rgt 3 127 rfl rfl hHeld ?_
     try simp only [Act.put, rg1, rg2, rg3]
     refine wpAnyH_ready (rs := [1, 4]) (by kernel_rfl) (by simp) ?_
     refine AllReadyH.cons (o := ⟨some 125, _, _, _, _, _⟩) rfl (fun K hK => ?br32) (AllReadyH.cons (o := ⟨some 128, _, _, _, _, _⟩) rfl (fun K hK => ?br33) AllReadyH.nil)
     case br32 =>
      go_simp
      refine hK.out _ _ ?ss34 (fun hHeld2 => ?rr34)
      case ss34 => (try dsimp only); exact hHeld
      clear hK K
      clear hHeld2
      try simp only [Act.put, rg1, rg2, rg3]
      refine rgc 4 (some 128) rfl (fun K hK => ?_)
      go_simp
      ((refine (nodeG_c cf x _ _ hxl.out (HG.out.on hHeld.1) HR1.out.2.2.2.1.drew HCF.out.2.2.1).mono ?_); rintro e w3 ⟨c, rfl, hcok, hv, hk3, hbt⟩; have hb3 : Below w.heap.size w w3 := hHeld.1.trans (hbt.below hHeld.1.size fun k hk => by have := HB9.out.2.1; omega); have k9 : Blk w3 b9 84 #[.string ⟨fv.toArray⟩, .string ⟨tv.toArray⟩, .slice AV k cV] := (hbt.block b9 HR1.out.1.lt (Nat.ne_of_gt HB9.out.1)).trans HR1.out.1; have y3 : w3.cell? ⟨b9, 2, none⟩ = some (.slice AV k cV) := (k9.cell 2).trans rfl; have q3 : w3.heap[bw]? = W2.heap[bw]? := (hbt.block bw (lt_same hHeld.2 HCF.out.1) HCF.out.2.2.2.1).trans hHeld.2; have ow3 := own_but (own_drewN HR1.out.2.1 1) hbt (Nat.lt_trans HB9.out.1 HB9.out.2.2.2); have F3 := Lib.hid (show (∀ t, ndV x = some t -> c = t) /\ Blk w3 cf 141 #[.bool (((unq f).isSome && (unq t).isSome && (allV ndV (cs.take k)).isSome) && (ndV x).isSome)] /\ Blk w3 b9 84 #[.string ⟨fv.toArray⟩, .string ⟨tv.toArray⟩, .slice AV k cV] /\ w3.ownsRow wc.heap.size 86 7 (.slice AV k cV) k (cosC D) /\ (Value.slice AV k cV).ownBlock ≠ some cf /\ (Value.slice AV k cV).ownBlock ≠ some b9 from ⟨hv, hk3, k9, ow3, fun e => (by have := (ow3.lt cf e).1; have := HB9.out.2.2.2; have := HB9.out.1; omega), fun e => (by have := (ow3.lt b9 e).1; have := HB9.out.2.2.2; omega)⟩); have hsz3 : wc.heap.size <= w3.heap.size := Nat.le_trans HR1.out.2.2.2.2.2.2.2 hbt.size; clear hv hk3 k9 ow3)
      refine hK.out _ _ ?ss35 (fun hHeld2 => ?rr35)
      case ss35 => (try dsimp only); exact ⟨hb3, q3⟩
      clear hK K
      clear hHeld
      have hHeld := hHeld2
      clear hHeld2
      try simp only [Act.put, rg1, rg2, rg3]
      refine rgc 5 (some 129) rfl (fun K hK => ?_)
      go_simp
      go_simp; have y4 : (w3.alloc (.cells #[.int .i8 c.op, .int .i64 c.proj, .bool c.inj, .int .u8 c.head, .int .i64 c.lab, .int .u8 c.from_, .int .u8 c.to_] 86)).cell? ⟨b9, 2, none⟩ = some (.slice AV k cV) := ((F3.out.2.2.1.alloc _).cell 2).trans rfl
      refine hK.out _ _ ?ss36 (fun hHeld2 => ?rr36)
      case ss36 => (try dsimp only); exact ⟨bal hb3 _, (Below.heap_alloc _ _ bw (lt_same q3 HCF.out.1)).trans q3⟩
      clear hK K
      clear hHeld
      have hHeld := hHeld2
      clear hHeld2
      try simp only [Act.put, rg1, rg2, rg3]
      refine rgc 6 (some 130) rfl (fun K hK => ?_)
      (refine step_append_fine rfl (.tmp 125) (.tmp 129) _ rfl wc.heap.size 86 i1 _ 7 40 Tryz.underlying82 hi1 hy0 hy1 hy2 rfl (.slice AV k cV) k (cosC D) rfl (own_below F3.out.2.2.2.1 (bal (Below.refl _ _) _)) (w3.heap.size + 1) (some ⟨w3.heap.size, 0, none⟩) 1 1 [.int .i8 c.op, .int .i64 c.proj, .bool c.inj, .int .u8 c.head, .int .i64 c.lab, .int .u8 c.from_, .int .u8 c.to_] rfl (Sl.fresh w3 _ 7 _ rfl) (by intro u hu; simp only [List.mem_cons, List.not_mem_nil, or_false] at hu; rcases hu with rfl | rfl | rfl | rfl | rfl | rfl | rfl <;> rfl) (by decide) (by unfold maxLen; omega) (by omega) (by rw [World.size_alloc]; omega) ?_); (intro V' w4 ho4 ht4); (obtain ⟨AV', cV', rfl, _, _⟩ := own_shape ho4); have k9 : Blk w4 b9 84 #[.string ⟨fv.toArray⟩, .string ⟨tv.toArray⟩, .slice AV k cV] := (ht4.block (b := b9) (by rw [World.size_alloc]; exact Nat.lt_succ_of_lt F3.out.2.2.1.lt) F3.out.2.2.2.2.2).trans (F3.out.2.2.1.alloc _); have y5 : w4.cell? ⟨b9, 2, none⟩ = some (.slice AV k cV) := (k9.cell 2).trans rfl; have z5 := k9.frozen 2; have hb4 : Below w.heap.size w w4 := hHeld.1.trans (((ht4.but (C := fun q => (Value.slice AV k cV).ownBlock = some q) (But.refl _ _) fun q hq _ => hq).below hHeld.1.size fun q hq => by have := (F3.out.2.2.2.1.lt q hq).1; have := HB9.out; omega)); have hw4 : w4.heap[bw]? = W2.heap[bw]? := (ht4.block (b := bw) (lt_same hHeld.2 HCF.out.1) (fun e => by have := (F3.out.2.2.2.1.lt bw e).1; have := HB9.out; have := H2.out.2.2.1; omega)).trans hHeld.2; have hs4 : wc.heap.size <= w4.heap.size := Nat.le_trans (Nat.le_trans hsz3 (by rw [World.size_alloc]; omega)) ht4.size; clear k9
      refine hK.out _ _ ?ss37 (fun hHeld2 => ?rr37)
      case ss37 => (try dsimp only); exact ⟨hb4, hw4⟩
      clear hK K
      clear hHeld
      have hHeld := hHeld2
      clear hHeld2
      try simp only [Act.put, rg1, rg2, rg3]
      refine rgt 7 131 rfl rfl hHeld ?_
      try simp only [Act.put, rg1, rg2, rg3]
      refine rgc 8 (none) rfl (fun K hK => ?_)
      go_simp
      go_simp
      refine hK.out _ _ ?ss39 (fun hHeld2 => ?rr39)
      case ss39 => (try dsimp only); exact ⟨below_set hb4 (Nat.le_trans HB9.out.2.1 (Nat.le_of_lt HB9.out.1)) _, (Below.heap_setCell _ _ _ _ (by simp only [ne_eq]; have := HB9.out.1; have := H2.out.2.2.1; omega)).trans hw4⟩
      clear hK K
      clear hHeld
      have hHeld := hHeld2
      clear hHeld2
      try simp only [Act.put, rg1, rg2, rg3]
      refine wpAnyH_done (by kernel_rfl) ?_ _
      go_wp2_with fail
      go_roundg (M - (k + 1))
      case measure => omega
      case rel =>
       refine ⟨k + 1, .slice AV' (k + 1) cV', D ++ [c], by omega, rfl, by go_num, Lib.hid ⟨?_, ?_, by rw [List.length_append, hDk.out]; rfl, ?_, ?_, ?_, ?_, ?_⟩⟩
       · exact Blk.set_ (show Blk w4 b9 84 #[.string ⟨fv.toArray⟩, .string ⟨tv.toArray⟩, .slice AV k cV] from (ht4.block (b := b9) (by rw [World.size_alloc]; exact Nat.lt_succ_of_lt F3.out.2.2.1.lt) F3.out.2.2.2.2.2).trans (F3.out.2.2.1.alloc _)) 2 _
       ·
        refine own_but (cf := b9) ?_ (but_set (C := fun k => k = b9) (But.refl _ w4) rfl _) HB9.out.2.2.2
        have h := ho4
        simpa [cosC, ndC, List.flatMap_append] using h
       ·
        rw [HX.out, allV_is, <- Bool.and_assoc]
        exact (show Blk w4 cf 141 #[.bool (((unq f).isSome && (unq t).isSome && (allV ndV (cs.take k)).isSome) && (ndV x).isSome)] from (ht4.block (b := cf) (by rw [World.size_alloc]; exact Nat.lt_succ_of_lt F3.out.2.1.lt) F3.out.2.2.2.2.1).trans (F3.out.2.1.alloc _)).far (p := ⟨b9, 2, none⟩) (show cf ≠ b9 by have := HB9.out.1; omega) (.slice AV' (k + 1) cV')
       ·
        intro l hl2
        rw [HX.out] at hl2
        obtain ⟨q, q2, h1, h2, rfl⟩ := allV_last hl2
        rw [HDV.out q h1, F3.out.1 q2 h2]
       · exact below_set (hb4) (Nat.le_trans HB9.out.2.1 (Nat.le_of_lt HB9.out.1)) _
       · exact (Below.heap_setCell _ _ _ _ (by simp only [ne_eq]; have := HB9.out.1; have := H2.out.2.2.1; omega)).trans hw4
       · rw [World.size_setCell]; exact hs4
     case br33 =>
      go_simp
      ((refine (nodeG_c cf x _ _ hxl.out (HG.out.on hHeld.1) HR1.out.2.2.2.1.drew HCF.out.2.2.1).mono ?_); rintro e w3 ⟨c, rfl, hcok, hv, hk3, hbt⟩; have hb3 : Below w.heap.size w w3 := hHeld.1.trans (hbt.below hHeld.1.size fun k hk => by have := HB9.out.2.1; omega); have k9 : Blk w3 b9 84 #[.string ⟨fv.toArray⟩, .string ⟨tv.toArray⟩, .slice AV k cV] := (hbt.block b9 HR1.out.1.lt (Nat.ne_of_gt HB9.out.1)).trans HR1.out.1; have y3 : w3.cell? ⟨b9, 2, none⟩ = some (.slice AV k cV) := (k9.cell 2).trans rfl; have q3 : w3.heap[bw]? = W2.heap[bw]? := (hbt.block bw (lt_same hHeld.2 HCF.out.1) HCF.out.2.2.2.1).trans hHeld.2; have ow3 := own_but (own_drewN HR1.out.2.1 1) hbt (Nat.lt_trans HB9.out.1 HB9.out.2.2.2); have F3 := Lib.hid (show (∀ t, ndV x = some t -> c = t) /\ Blk w3 cf 141 #[.bool (((unq f).isSome && (unq t).isSome && (allV ndV (cs.take k)).isSome) && (ndV x).isSome)] /\ Blk w3 b9 84 #[.string ⟨fv.toArray⟩, .string ⟨tv.toArray⟩, .slice AV k cV] /\ w3.ownsRow wc.heap.size 86 7 (.slice AV k cV) k (cosC D) /\ (Value.slice AV k cV).ownBlock ≠ some cf /\ (Value.slice AV k cV).ownBlock ≠ some b9 from ⟨hv, hk3, k9, ow3, fun e => (by have := (ow3.lt cf e).1; have := HB9.out.2.2.2; have := HB9.out.1; omega), fun e => (by have := (ow3.lt b9 e).1; have := HB9.out.2.2.2; omega)⟩); have hsz3 : wc.heap.size <= w3.heap.size := Nat.le_trans HR1.out.2.2.2.2.2.2.2 hbt.size; clear hv hk3 k9 ow3)
      refine hK.out _ _ ?ss40 (fun hHeld2 => ?rr40)
      case ss40 => (try dsimp only); exact ⟨hb3, q3⟩
      clear hK K
      clear hHeld
      have hHeld := hHeld2
      clear hHeld2
      try simp only [Act.put, rg1, rg2, rg3]
      refine wpAnyH_ready (rs := [1, 5]) (by kernel_rfl) (by simp) ?_
      refine AllReadyH.cons (o := ⟨some 125, _, _, _, _, _⟩) rfl (fun K hK => ?br41) (AllReadyH.cons (o := ⟨some 129, _, _, _, _, _⟩) rfl (fun K hK => ?br42) AllReadyH.nil)
      case br41 =>
       go_simp
       refine hK.out _ _ ?ss43 (fun hHeld2 => ?rr43)
       case ss43 => (try dsimp only); exact hHeld
       clear hK K
       clear hHeld2
       try simp only [Act.put, rg1, rg2, rg3]
       refine rgc 5 (some 129) rfl (fun K hK => ?_)
       go_simp
       go_simp; have y4 : (w3.alloc (.cells #[.int .i8 c.op, .int .i64 c.proj, .bool c.inj, .int .u8 c.head, .int .i64 c.lab, .int .u8 c.from_, .int .u8 c.to_] 86)).cell? ⟨b9, 2, none⟩ = some (.slice AV k cV) := ((F3.out.2.2.1.alloc _).cell 2).trans rfl
       refine hK.out _ _ ?ss44 (fun hHeld2 => ?rr44)
       case ss44 => (try dsimp only); exact ⟨bal hb3 _, (Below.heap_alloc _ _ bw (lt_same q3 HCF.out.1)).trans q3⟩
       clear hK K
       clear hHeld
       have hHeld := hHeld2
       clear hHeld2
       try simp only [Act.put, rg1, rg2, rg3]
       refine rgc 6 (some 130) rfl (fun K hK => ?_)
       (refine step_append_fine rfl (.tmp 125) (.tmp 129) _ rfl wc.heap.size 86 i1 _ 7 40 Tryz.underlying82 hi1 hy0 hy1 hy2 rfl (.slice AV k cV) k (cosC D) rfl (own_below F3.out.2.2.2.1 (bal (Below.refl _ _) _)) (w3.heap.size + 1) (some ⟨w3.heap.size, 0, none⟩) 1 1 [.int .i8 c.op, .int .i64 c.proj, .bool c.inj, .int .u8 c.head, .int .i64 c.lab, .int .u8 c.from_, .int .u8 c.to_] rfl (Sl.fresh w3 _ 7 _ rfl) (by intro u hu; simp only [List.mem_cons, List.not_mem_nil, or_false] at hu; rcases hu with rfl | rfl | rfl | rfl | rfl | rfl | rfl <;> rfl) (by decide) (by unfold maxLen; omega) (by omega) (by rw [World.size_alloc]; omega) ?_); (intro V' w4 ho4 ht4); (obtain ⟨AV', cV', rfl, _, _⟩ := own_shape ho4); have k9 : Blk w4 b9 84 #[.string ⟨fv.toArray⟩, .string ⟨tv.toArray⟩, .slice AV k cV] := (ht4.block (b := b9) (by rw [World.size_alloc]; exact Nat.lt_succ_of_lt F3.out.2.2.1.lt) F3.out.2.2.2.2.2).trans (F3.out.2.2.1.alloc _); have y5 : w4.cell? ⟨b9, 2, none⟩ = some (.slice AV k cV) := (k9.cell 2).trans rfl; have z5 := k9.frozen 2; have hb4 : Below w.heap.size w w4 := hHeld.1.trans (((ht4.but (C := fun q => (Value.slice AV k cV).ownBlock = some q) (But.refl _ _) fun q hq _ => hq).below hHeld.1.size fun q hq => by have := (F3.out.2.2.2.1.lt q hq).1; have := HB9.out; omega)); have hw4 : w4.heap[bw]? = W2.heap[bw]? := (ht4.block (b := bw) (lt_same hHeld.2 HCF.out.1) (fun e => by have := (F3.out.2.2.2.1.lt bw e).1; have := HB9.out; have := H2.out.2.2.1; omega)).trans hHeld.2; have hs4 : wc.heap.size <= w4.heap.size := Nat.le_trans (Nat.le_trans hsz3 (by rw [World.size_alloc]; omega)) ht4.size; clear k9
       refine hK.out _ _ ?ss45 (fun hHeld2 => ?rr45)
       case ss45 => (try dsimp only); exact ⟨hb4, hw4⟩
       clear hK K
       clear hHeld
       have hHeld := hHeld2
       clear hHeld2
       try simp only [Act.put, rg1, rg2, rg3]
       refine rgt 7 131 rfl rfl hHeld ?_
       try simp only [Act.put, rg1, rg2, rg3]
       refine rgc 8 (none) rfl (fun K hK => ?_)
       go_simp
       go_simp
       refine hK.out _ _ ?ss47 (fun hHeld2 => ?rr47)
       case ss47 => (try dsimp only); exact ⟨below_set hb4 (Nat.le_trans HB9.out.2.1 (Nat.le_of_lt HB9.out.1)) _, (Below.heap_setCell _ _ _ _ (by simp only [ne_eq]; have := HB9.out.1; have := H2.out.2.2.1; omega)).trans hw4⟩
       clear hK K
       clear hHeld
       have hHeld := hHeld2
       clear hHeld2
       try simp only [Act.put, rg1, rg2, rg3]
       refine wpAnyH_done (by kernel_rfl) ?_ _
       go_wp2_with fail
       go_roundg (M - (k + 1))
       case measure => omega
       case rel =>
        refine ⟨k + 1, .slice AV' (k + 1) cV', D ++ [c], by omega, rfl, by go_num, Lib.hid ⟨?_, ?_, by rw [List.length_append, hDk.out]; rfl, ?_, ?_, ?_, ?_, ?_⟩⟩
        · exact Blk.set_ (show Blk w4 b9 84 #[.string ⟨fv.toArray⟩, .string ⟨tv.toArray⟩, .slice AV k cV] from (ht4.block (b := b9) (by rw [World.size_alloc]; exact Nat.lt_succ_of_lt F3.out.2.2.1.lt) F3.out.2.2.2.2.2).trans (F3.out.2.2.1.alloc _)) 2 _
        ·
         refine own_but (cf := b9) ?_ (but_set (C := fun k => k = b9) (But.refl _ w4) rfl _) HB9.out.2.2.2
         have h := ho4
         simpa [cosC, ndC, List.flatMap_append] using h
        ·
         rw [HX.out, allV_is, <- Bool.and_assoc]
         exact (show Blk w4 cf 141 #[.bool (((unq f).isSome && (unq t).isSome && (allV ndV (cs.take k)).isSome) && (ndV x).isSome)] from (ht4.block (b := cf) (by rw [World.size_alloc]; exact Nat.lt_succ_of_lt F3.out.2.1.lt) F3.out.2.2.2.2.1).trans (F3.out.2.1.alloc _)).far (p := ⟨b9, 2, none⟩) (show cf ≠ b9 by have := HB9.out.1; omega) (.slice AV' (k + 1) cV')
        ·
         intro l hl2
         rw [HX.out] at hl2
         obtain ⟨q, q2, h1, h2, rfl⟩ := allV_last hl2
         rw [HDV.out q h1, F3.out.1 q2 h2]
        · exact below_set (hb4) (Nat.le_trans HB9.out.2.1 (Nat.le_of_lt HB9.out.1)) _
        · exact (Below.heap_setCell _ _ _ _ (by simp only [ne_eq]; have := HB9.out.1; have := H2.out.2.2.1; omega)).trans hw4
        · rw [World.size_setCell]; exact hs4
      case br42 =>
       go_simp
       go_simp; have y4 : (w3.alloc (.cells #[.int .i8 c.op, .int .i64 c.proj, .bool c.inj, .int .u8 c.head, .int .i64 c.lab, .int .u8 c.from_, .int .u8 c.to_] 86)).cell? ⟨b9, 2, none⟩ = some (.slice AV k cV) := ((F3.out.2.2.1.alloc _).cell 2).trans rfl
       refine hK.out _ _ ?ss48 (fun hHeld2 => ?rr48)
       case ss48 => (try dsimp only); exact ⟨bal hb3 _, (Below.heap_alloc _ _ bw (lt_same q3 HCF.out.1)).trans q3⟩
       clear hK K
       clear hHeld
       have hHeld := hHeld2
       clear hHeld2
       try simp only [Act.put, rg1, rg2, rg3]
       refine rgc 1 (some 125) rfl (fun K hK => ?_)
       go_simp
       refine hK.out _ _ ?ss49 (fun hHeld2 => ?rr49)
       case ss49 => (try dsimp only); exact hHeld
       clear hK K
       clear hHeld2
       try simp only [Act.put, rg1, rg2, rg3]
       refine rgc 6 (some 130) rfl (fun K hK => ?_)
       (refine step_append_fine rfl (.tmp 125) (.tmp 129) _ rfl wc.heap.size 86 i1 _ 7 40 Tryz.underlying82 hi1 hy0 hy1 hy2 rfl (.slice AV k cV) k (cosC D) rfl (own_below F3.out.2.2.2.1 (bal (Below.refl _ _) _)) (w3.heap.size + 1) (some ⟨w3.heap.size, 0, none⟩) 1 1 [.int .i8 c.op, .int .i64 c.proj, .bool c.inj, .int .u8 c.head, .int .i64 c.lab, .int .u8 c.from_, .int .u8 c.to_] rfl (Sl.fresh w3 _ 7 _ rfl) (by intro u hu; simp only [List.mem_cons, List.not_mem_nil, or_false] at hu; rcases hu with rfl | rfl | rfl | rfl | rfl | rfl | rfl <;> rfl) (by decide) (by unfold maxLen; omega) (by omega) (by rw [World.size_alloc]; omega) ?_); (intro V' w4 ho4 ht4); (obtain ⟨AV', cV', rfl, _, _⟩ := own_shape ho4); have k9 : Blk w4 b9 84 #[.string ⟨fv.toArray⟩, .string ⟨tv.toArray⟩, .slice AV k cV] := (ht4.block (b := b9) (by rw [World.size_alloc]; exact Nat.lt_succ_of_lt F3.out.2.2.1.lt) F3.out.2.2.2.2.2).trans (F3.out.2.2.1.alloc _); have y5 : w4.cell? ⟨b9, 2, none⟩ = some (.slice AV k cV) := (k9.cell 2).trans rfl; have z5 := k9.frozen 2; have hb4 : Below w.heap.size w w4 := hHeld.1.trans (((ht4.but (C := fun q => (Value.slice AV k cV).ownBlock = some q) (But.refl _ _) fun q hq _ => hq).below hHeld.1.size fun q hq => by have := (F3.out.2.2.2.1.lt q hq).1; have := HB9.out; omega)); have hw4 : w4.heap[bw]? = W2.heap[bw]? := (ht4.block (b := bw) (lt_same hHeld.2 HCF.out.1) (fun e => by have := (F3.out.2.2.2.1.lt bw e).1; have := HB9.out; have := H2.out.2.2.1; omega)).trans hHeld.2; have hs4 : wc.heap.size <= w4.heap.size := Nat.le_trans (Nat.le_trans hsz3 (by rw [World.size_alloc]; omega)) ht4.size; clear k9
       refine hK.out _ _ ?ss50 (fun hHeld2 => ?rr50)
       case ss50 => (try dsimp only); exact ⟨hb4, hw4⟩
       clear hK K
       clear hHeld
       have hHeld := hHeld2
       clear hHeld2
       try simp only [Act.put, rg1, rg2, rg3]
       refine rgt 7 131 rfl rfl hHeld ?_
       try simp only [Act.put, rg1, rg2, rg3]
       refine rgc 8 (none) rfl (fun K hK => ?_)
       go_simp
       go_simp
       refine hK.out _ _ ?ss52 (fun hHeld2 => ?rr52)
       case ss52 => (try dsimp only); exact ⟨below_set hb4 (Nat.le_trans HB9.out.2.1 (Nat.le_of_lt HB9.out.1)) _, (Below.heap_setCell _ _ _ _ (by simp only [ne_eq]; have := HB9.out.1; have := H2.out.2.2.1; omega)).trans hw4⟩
       clear hK K
       clear hHeld
       have hHeld := hHeld2
       clear hHeld2
       try simp only [Act.put, rg1, rg2, rg3]
       refine wpAnyH_done (by kernel_rfl) ?_ _
       go_wp2_with fail
       go_roundg (M - (k + 1))
       case measure => omega
       case rel =>
        refine ⟨k + 1, .slice AV' (k + 1) cV', D ++ [c], by omega, rfl, by go_num, Lib.hid ⟨?_, ?_, by rw [List.length_append, hDk.out]; rfl, ?_, ?_, ?_, ?_, ?_⟩⟩
        · exact Blk.set_ (show Blk w4 b9 84 #[.string ⟨fv.toArray⟩, .string ⟨tv.toArray⟩, .slice AV k cV] from (ht4.block (b := b9) (by rw [World.size_alloc]; exact Nat.lt_succ_of_lt F3.out.2.2.1.lt) F3.out.2.2.2.2.2).trans (F3.out.2.2.1.alloc _)) 2 _
        ·
         refine own_but (cf := b9) ?_ (but_set (C := fun k => k = b9) (But.refl _ w4) rfl _) HB9.out.2.2.2
         have h := ho4
         simpa [cosC, ndC, List.flatMap_append] using h
        ·
         rw [HX.out, allV_is, <- Bool.and_assoc]
         exact (show Blk w4 cf 141 #[.bool (((unq f).isSome && (unq t).isSome && (allV ndV (cs.take k)).isSome) && (ndV x).isSome)] from (ht4.block (b := cf) (by rw [World.size_alloc]; exact Nat.lt_succ_of_lt F3.out.2.1.lt) F3.out.2.2.2.2.1).trans (F3.out.2.1.alloc _)).far (p := ⟨b9, 2, none⟩) (show cf ≠ b9 by have := HB9.out.1; omega) (.slice AV' (k + 1) cV')
        ·
         intro l hl2
         rw [HX.out] at hl2
         obtain ⟨q, q2, h1, h2, rfl⟩ := allV_last hl2
         rw [HDV.out q h1, F3.out.1 q2 h2]
        · exact below_set (hb4) (Nat.le_trans HB9.out.2.1 (Nat.le_of_lt HB9.out.1)) _
        · exact (Below.heap_setCell _ _ _ _ (by simp only [ne_eq]; have := HB9.out.1; have := H2.out.2.2.1; omega)).trans hw4
        · rw [World.size_setCell]; exact hs4
    ·
     obtain rfl : k = M := by omega
     have HCS := Lib.hid (show cs.take k = cs by rw [<- HWS.out.2.1]; exact List.take_length)
     rw [HCS.out] at HR1
     have HBl := Lib.hid HR1.out.2.2.2.2.2.1
     have HVr := Lib.hid HR1.out.2.1
     have k9 := HR1.out.1
     have x0 : wr.cell? ⟨b9, 0, none⟩ = some (.string ⟨fv.toArray⟩) := (k9.cell 0).trans rfl
     have x1 : wr.cell? ⟨b9, 1, none⟩ = some (.string ⟨tv.toArray⟩) := (k9.cell 1).trans rfl
     have x2 : wr.cell? ⟨b9, 2, none⟩ = some (.slice AV k cV) := (k9.cell 2).trans rfl
     have y2 : wr.cell? ⟨r, 1, none⟩ = some L.cv := ((HR.out.grow HBl.out).blk.cell 1).trans rfl
     have HK9 := Lib.hid k9
     have HKC := Lib.hid HR1.out.2.2.2.1
     have HDD := Lib.hid HR1.out.2.2.2.2.1
     have H99 := Lib.hid (show w.heap.size <= b9 /\ r < b9 /\ cf ≠ r /\ w.heap.size <= wc.heap.size from ⟨Nat.le_trans HB9.out.2.1 (Nat.le_of_lt HB9.out.1), by have := HB9.out; omega, by have := HB9.out; omega, by have := HB9.out; omega⟩)
     clear k9 HCS
     go_upto_region 22 with fail
     refine wp_region_held_drew (S := (fun W' => W'.cell? ⟨b9, 0, none⟩ = some (.string ⟨fv.toArray⟩) /\ W'.cell? ⟨b9, 1, none⟩ = some (.string ⟨tv.toArray⟩) /\ W'.cell? ⟨b9, 2, none⟩ = some (.slice AV k cV))) (by kernel_rfl) ?ss53 (fun hHeld => ?rr53)
     case ss53 => (try dsimp only); exact ⟨x0, x1, x2⟩
     refine rgt 0 133 rfl rfl hHeld ?_
     try simp only [Act.put, rg1, rg2, rg3]
     refine rgt 1 134 rfl rfl hHeld ?_
     try simp only [Act.put, rg1, rg2, rg3]
     refine rgt 2 135 rfl rfl hHeld ?_
     try simp only [Act.put, rg1, rg2, rg3]
     refine rgt 3 136 rfl rfl hHeld ?_
     try simp only [Act.put, rg1, rg2, rg3]
     refine rgt 4 137 rfl rfl hHeld ?_
     try simp only [Act.put, rg1, rg2, rg3]
     refine rgt 6 139 rfl rfl hHeld ?_
     try simp only [Act.put, rg1, rg2, rg3]
     refine wpAnyH_ready (rs := [5, 7]) (by kernel_rfl) (by simp) ?_
     refine AllReadyH.cons (o := ⟨some 138, _, _, _, _, _⟩) rfl (fun K hK => ?br60) (AllReadyH.cons (o := ⟨some 140, _, _, _, _, _⟩) rfl (fun K hK => ?br61) AllReadyH.nil)
     case br60 =>
      go_simp
      refine hK.out _ _ ?ss62 (fun hHeld2 => ?rr62)
      case ss62 => (try dsimp only); exact hHeld
      clear hK K
      clear hHeld2
      try simp only [Act.put, rg1, rg2, rg3]
      refine rgc 7 (some 140) rfl (fun K hK => ?_)
      go_simp
      go_simp; have y4 : (wr.drew.alloc (.cells #[.string ⟨fv.toArray⟩, .string ⟨tv.toArray⟩, .slice AV k cV] 84)).cell? ⟨r, 1, none⟩ = some L.cv := ((HR.out.grow (bal (bdr HBl.out 1) _)).blk.cell 1).trans rfl; have y4b : (wr.alloc (.cells #[.string ⟨fv.toArray⟩, .string ⟨tv.toArray⟩, .slice AV k cV] 84)).cell? ⟨r, 1, none⟩ = some L.cv := ((HR.out.grow (bal HBl.out _)).blk.cell 1).trans rfl
      refine hK.out _ _ ?ss63 (fun hHeld2 => ?rr63)
      case ss63 => (try dsimp only); exact ⟨((HK9.out.drew.alloc _).cell 0).trans rfl, ((HK9.out.drew.alloc _).cell 1).trans rfl, ((HK9.out.drew.alloc _).cell 2).trans rfl⟩
      clear hK K
      clear hHeld
      have hHeld := hHeld2
      clear hHeld2
      try simp only [Act.put, rg1, rg2, rg3]
      refine rgc 8 (some 141) rfl (fun K hK => ?_)
      (refine step_append_fine rfl (.tmp 138) (.tmp 140) _ rfl (r + 1) 84 i0 _ 3 56 Tryz.underlying23 hi0 hz0 hz1 hz2 rfl L.cv L.casts.length (L.casts.flatMap WtL.cells) rfl ((HR.out.grow (bal (bdr HBl.out 1) _)).own.own (rowC L) (rowC_in L)) (wr.drew.heap.size + 1) (some ⟨wr.drew.heap.size, 0, none⟩) 1 1 [.string ⟨fv.toArray⟩, .string ⟨tv.toArray⟩, .slice AV k cV] rfl (Sl.fresh wr.drew _ 3 _ rfl) (by intro u hu; simp only [List.mem_cons, List.not_mem_nil, or_false] at hu; rcases hu with rfl | rfl | rfl <;> rfl) (by decide) (by have := HB.out.c; unfold maxLen; omega) (by have := HB.out.c; omega) (by have := HBl.out.size; simp only [World.size_alloc, World.size_drew]; omega) ?_); (intro V' w4 ho4 ht4); (obtain ⟨AV', cV', rfl, _, _⟩ := own_shape ho4); have k4 := (HR.out.grow (bal (bdr HBl.out 1) _)).far (rowC_in L) ht4; have y5 := (k4.cell 1).trans rfl; have z5 := k4.frozen 1; simp only [List.getElem?_toArray, List.getElem?_cons_zero, List.getElem?_cons_succ] at y5; have k9 : Blk w4 b9 84 #[.string ⟨fv.toArray⟩, .string ⟨tv.toArray⟩, .slice AV k cV] := (ht4.block (b := b9) (HK9.out.drew.alloc _).lt (HR.out.away (rowC_in L) H99.out.1)).trans (HK9.out.drew.alloc _); have K9 := Lib.hid k9; clear k9
      refine hK.out _ _ ?ss64 (fun hHeld2 => ?rr64)
      case ss64 => (try dsimp only); exact ⟨(K9.out.cell 0).trans rfl, (K9.out.cell 1).trans rfl, (K9.out.cell 2).trans rfl⟩
      clear hK K
      clear hHeld
      have hHeld := hHeld2
      clear hHeld2
      try simp only [Act.put, rg1, rg2, rg3]
      refine rgt 9 142 rfl rfl hHeld ?_
      try simp only [Act.put, rg1, rg2, rg3]
      refine rgt 10 143 rfl rfl hHeld ?_
      try simp only [Act.put, rg1, rg2, rg3]
      refine rgt 11 144 rfl rfl hHeld ?_
      try simp only [Act.put, rg1, rg2, rg3]
      refine rgc 12 (none) rfl (fun K hK => ?_)
      go_simp
      go_simp
      refine hK.out _ _ ?ss68 (fun hHeld2 => ?rr68)
      case ss68 => (try dsimp only); exact ⟨((K9.out.far (show b9 ≠ r by have := H99.out; omega) _).cell 0).trans rfl, ((K9.out.far (show b9 ≠ r by have := H99.out; omega) _).cell 1).trans rfl, ((K9.out.far (show b9 ≠ r by have := H99.out; omega) _).cell 2).trans rfl⟩
      clear hK K
      clear hHeld
      have hHeld := hHeld2
      clear hHeld2
      try simp only [Act.put, rg1, rg2, rg3]
      refine wpAnyH_done (by kernel_rfl) ?_ _
      have hrow : (wr.drew.alloc (.cells #[.string ⟨fv.toArray⟩, .string ⟨tv.toArray⟩, .slice AV k cV] 84)).ownsRow wc.heap.size 86 7 (.slice AV k cV) D.length (cosC D) := by rw [hDk.out]; exact own_below HVr.out (bal (bdr b0 1) _)
      have hr5 := RAt.cast (f := fv) (t := tv) (HR.out.grow (bal (bdr HBl.out 1) _)) hrow (by have := H99.out; omega) (fun x hx => Ap.fresh (N := w.heap.size) (fun b hb => (HR.out.own.lt hx b hb).2) fun b hb => Nat.le_trans H99.out.2.2.2 (HVr.out.lt b hb).1) ht4 ho4
      have hk5 : Blk (w4.setCell ⟨r, 1, none⟩ (.slice AV' (L.casts.length + 1) cV')) cf 141 #[.bool ((unq f).isSome && (unq t).isSome && (allV ndV cs).isSome)] :=
       Blk.far ((ht4.block (b := cf) (HKC.out.drew.alloc _).lt (HR.out.away (rowC_in L) HB9.out.2.1)).trans (HKC.out.drew.alloc _)) H99.out.2.2.1 _
      have hb5 : Below r w (w4.setCell ⟨r, 1, none⟩ (.slice AV' (L.casts.length + 1) cV')) :=
       below_set (((bal (bdr HBl.out 1) (.cells #[.string ⟨fv.toArray⟩, .string ⟨tv.toArray⟩, .slice AV k cV] 84)).mono (Nat.le_of_lt hrw)).trans ((HR.out.grow (bal (bdr HBl.out 1) (.cells #[.string ⟨fv.toArray⟩, .string ⟨tv.toArray⟩, .slice AV k cV] 84))).but (rowC_in L) ht4)) (Nat.le_refl r) _
      have hlb : LB { L with casts := L.casts ++ [⟨⟨fv, tv, D⟩, .slice AV k cV⟩], cv := .slice AV' (L.casts.length + 1) cV' } (B + 1) := by
       obtain ⟨l1, l2, l3, l4, l5, l6⟩ := HB.out
       exact ⟨by simp only; omega, by simp only; omega, by simp only; omega, by simp only [List.length_append, List.length_singleton]; omega, by simp only; omega, fun g hg => by have := l6 g hg; omega⟩
      have hi : rdItem (wordsP s) = castIt f t cs := by rw [HWS.out.1]; unfold rdItem castIt; simp only; rw [if_neg (by decide), if_neg (by decide), if_neg (by decide), if_pos trivial]; (try rfl)
      obtain ⟨W5, hW5⟩ : ∃ X, w4.setCell ⟨r, 1, none⟩ (.slice AV' (L.casts.length + 1) cV') = X := ⟨_, rfl⟩
      rw [hW5] at hr5 hk5 hb5 ⊢
      have cr := (hr5.blk.cell 5).trans rfl
      have zr := hr5.blk.frozen 5
      have ck := (hk5.cell 0).trans rfl
      simp only [List.getElem?_toArray, List.getElem?_cons_zero, List.getElem?_cons_succ] at cr ck
      have h6 : ∀ i, castIt f t cs = some i -> (CoL.code { L with casts := L.casts ++ [⟨⟨fv, tv, D⟩, .slice AV k cV⟩], cv := .slice AV' (L.casts.length + 1) cV' }) = addI L.code i /\ stageI i = 4 := by
       intro i hi2
       rw [castIt_some HC.out.2.2.1 HC.out.2.2.2.1 HDD.out i hi2]
       exact ⟨by simp [CoL.code, addI], rfl⟩
      have H5 := Lib.hid (And.intro hr5 (And.intro hb5 (And.intro hlb (And.intro hi h6))))
      clear hr5 hb5 hlb hi h6 hk5 hW5 ht4 ho4 y5 z5 k4 hHeld x0 x1 x2 y2 hrow
      rcases hv : castIt f t cs with _ | it0
      ·
       rw [<- castIt_is, hv] at ck
       simp only [Option.isSome_none] at ck
       have HV := Lib.hid hv
       clear hv
       go_wp2_with fail
       go_step3
       go_wp2_with fail
       rw [Exit.noGoto_ret]
       go_ret
       exact line_no (by rw [H5.out.2.2.2.1, HV.out]) H5.out.2.1
      ·
       rw [<- castIt_is, hv] at ck
       simp only [Option.isSome_some] at ck
       have HV := Lib.hid hv
       clear hv
       by_cases hs : st <= 4
       ·
        have hd : decide ((st : Int) <= 4) = true := by simp; omega
        have HS := Lib.hid hs
        clear hs
        go_wp2_with fail
        rw [Exit.noGoto_ret]
        go_ret
        exact line_yes (cf := cf) H5.out.2.2.2.1 H5.out.1 H5.out.2.2.1 H5.out.2.1 (by rw [HV.out]; rfl) H5.out.2.2.2.2 (fun i hi2 hx => by rw [castIt_some HC.out.2.2.1 HC.out.2.2.2.1 HDD.out i hi2] at hx; cases hx) HS.out
       ·
        have hd : decide ((st : Int) <= 4) = false := by simp; omega
        have HS := Lib.hid hs
        clear hs
        go_wp2_with fail
        go_step3
        go_wp2_with fail
        rw [Exit.noGoto_ret]
        go_ret
        exact line_late (cf := cf) H5.out.2.2.2.1 H5.out.2.1 H5.out.2.2.2.2 HS.out
     case br61 =>
      go_simp
      go_simp; have y4 : (wr.drew.alloc (.cells #[.string ⟨fv.toArray⟩, .string ⟨tv.toArray⟩, .slice AV k cV] 84)).cell? ⟨r, 1, none⟩ = some L.cv := ((HR.out.grow (bal (bdr HBl.out 1) _)).blk.cell 1).trans rfl; have y4b : (wr.alloc (.cells #[.string ⟨fv.toArray⟩, .string ⟨tv.toArray⟩, .slice AV k cV] 84)).cell? ⟨r, 1, none⟩ = some L.cv := ((HR.out.grow (bal HBl.out _)).blk.cell 1).trans rfl
      refine hK.out _ _ ?ss69 (fun hHeld2 => ?rr69)
      case ss69 => (try dsimp only); exact ⟨((HK9.out.drew.alloc _).cell 0).trans rfl, ((HK9.out.drew.alloc _).cell 1).trans rfl, ((HK9.out.drew.alloc _).cell 2).trans rfl⟩
      clear hK K
      clear hHeld
      have hHeld := hHeld2
      clear hHeld2
      try simp only [Act.put, rg1, rg2, rg3]
      refine rgc 5 (some 138) rfl (fun K hK => ?_)
      go_simp
      refine hK.out _ _ ?ss70 (fun hHeld2 => ?rr70)
      case ss70 => (try dsimp only); exact hHeld
      clear hK K
      clear hHeld2
      try simp only [Act.put, rg1, rg2, rg3]
      refine rgc 8 (some 141) rfl (fun K hK => ?_)
      (refine step_append_fine rfl (.tmp 138) (.tmp 140) _ rfl (r + 1) 84 i0 _ 3 56 Tryz.underlying23 hi0 hz0 hz1 hz2 rfl L.cv L.casts.length (L.casts.flatMap WtL.cells) rfl ((HR.out.grow (bal (bdr HBl.out 1) _)).own.own (rowC L) (rowC_in L)) (wr.drew.heap.size + 1) (some ⟨wr.drew.heap.size, 0, none⟩) 1 1 [.string ⟨fv.toArray⟩, .string ⟨tv.toArray⟩, .slice AV k cV] rfl (Sl.fresh wr.drew _ 3 _ rfl) (by intro u hu; simp only [List.mem_cons, List.not_mem_nil, or_false] at hu; rcases hu with rfl | rfl | rfl <;> rfl) (by decide) (by have := HB.out.c; unfold maxLen; omega) (by have := HB.out.c; omega) (by have := HBl.out.size; simp only [World.size_alloc, World.size_drew]; omega) ?_); (intro V' w4 ho4 ht4); (obtain ⟨AV', cV', rfl, _, _⟩ := own_shape ho4); have k4 := (HR.out.grow (bal (bdr HBl.out 1) _)).far (rowC_in L) ht4; have y5 := (k4.cell 1).trans rfl; have z5 := k4.frozen 1; simp only [List.getElem?_toArray, List.getElem?_cons_zero, List.getElem?_cons_succ] at y5; have k9 : Blk w4 b9 84 #[.string ⟨fv.toArray⟩, .string ⟨tv.toArray⟩, .slice AV k cV] := (ht4.block (b := b9) (HK9.out.drew.alloc _).lt (HR.out.away (rowC_in L) H99.out.1)).trans (HK9.out.drew.alloc _); have K9 := Lib.hid k9; clear k9
      refine hK.out _ _ ?ss71 (fun hHeld2 => ?rr71)
      case ss71 => (try dsimp only); exact ⟨(K9.out.cell 0).trans rfl, (K9.out.cell 1).trans rfl, (K9.out.cell 2).trans rfl⟩
      clear hK K
      clear hHeld
      have hHeld := hHeld2
      clear hHeld2
      try simp only [Act.put, rg1, rg2, rg3]
      refine rgt 9 142 rfl rfl hHeld ?_
      try simp only [Act.put, rg1, rg2, rg3]
      refine rgt 10 143 rfl rfl hHeld ?_
      try simp only [Act.put, rg1, rg2, rg3]
      refine rgt 11 144 rfl rfl hHeld ?_
      try simp only [Act.put, rg1, rg2, rg3]
      refine rgc 12 (none) rfl (fun K hK => ?_)
      go_simp
      go_simp
      refine hK.out _ _ ?ss75 (fun hHeld2 => ?rr75)
      case ss75 => (try dsimp only); exact ⟨((K9.out.far (show b9 ≠ r by have := H99.out; omega) _).cell 0).trans rfl, ((K9.out.far (show b9 ≠ r by have := H99.out; omega) _).cell 1).trans rfl, ((K9.out.far (show b9 ≠ r by have := H99.out; omega) _).cell 2).trans rfl⟩
      clear hK K
      clear hHeld
      have hHeld := hHeld2
      clear hHeld2
      try simp only [Act.put, rg1, rg2, rg3]
      refine wpAnyH_done (by kernel_rfl) ?_ _
      have hrow : (wr.drew.alloc (.cells #[.string ⟨fv.toArray⟩, .string ⟨tv.toArray⟩, .slice AV k cV] 84)).ownsRow wc.heap.size 86 7 (.slice AV k cV) D.length (cosC D) := by rw [hDk.out]; exact own_below HVr.out (bal (bdr b0 1) _)
      have hr5 := RAt.cast (f := fv) (t := tv) (HR.out.grow (bal (bdr HBl.out 1) _)) hrow (by have := H99.out; omega) (fun x hx => Ap.fresh (N := w.heap.size) (fun b hb => (HR.out.own.lt hx b hb).2) fun b hb => Nat.le_trans H99.out.2.2.2 (HVr.out.lt b hb).1) ht4 ho4
      have hk5 : Blk (w4.setCell ⟨r, 1, none⟩ (.slice AV' (L.casts.length + 1) cV')) cf 141 #[.bool ((unq f).isSome && (unq t).isSome && (allV ndV cs).isSome)] :=
       Blk.far ((ht4.block (b := cf) (HKC.out.drew.alloc _).lt (HR.out.away (rowC_in L) HB9.out.2.1)).trans (HKC.out.drew.alloc _)) H99.out.2.2.1 _
      have hb5 : Below r w (w4.setCell ⟨r, 1, none⟩ (.slice AV' (L.casts.length + 1) cV')) :=
       below_set (((bal (bdr HBl.out 1) (.cells #[.string ⟨fv.toArray⟩, .string ⟨tv.toArray⟩, .slice AV k cV] 84)).mono (Nat.le_of_lt hrw)).trans ((HR.out.grow (bal (bdr HBl.out 1) (.cells #[.string ⟨fv.toArray⟩, .string ⟨tv.toArray⟩, .slice AV k cV] 84))).but (rowC_in L) ht4)) (Nat.le_refl r) _
      have hlb : LB { L with casts := L.casts ++ [⟨⟨fv, tv, D⟩, .slice AV k cV⟩], cv := .slice AV' (L.casts.length + 1) cV' } (B + 1) := by
       obtain ⟨l1, l2, l3, l4, l5, l6⟩ := HB.out
       exact ⟨by simp only; omega, by simp only; omega, by simp only; omega, by simp only [List.length_append, List.length_singleton]; omega, by simp only; omega, fun g hg => by have := l6 g hg; omega⟩
      have hi : rdItem (wordsP s) = castIt f t cs := by rw [HWS.out.1]; unfold rdItem castIt; simp only; rw [if_neg (by decide), if_neg (by decide), if_neg (by decide), if_pos trivial]; (try rfl)
      obtain ⟨W5, hW5⟩ : ∃ X, w4.setCell ⟨r, 1, none⟩ (.slice AV' (L.casts.length + 1) cV') = X := ⟨_, rfl⟩
      rw [hW5] at hr5 hk5 hb5 ⊢
      have cr := (hr5.blk.cell 5).trans rfl
      have zr := hr5.blk.frozen 5
      have ck := (hk5.cell 0).trans rfl
      simp only [List.getElem?_toArray, List.getElem?_cons_zero, List.getElem?_cons_succ] at cr ck
      have h6 : ∀ i, castIt f t cs = some i -> (CoL.code { L with casts := L.casts ++ [⟨⟨fv, tv, D⟩, .slice AV k cV⟩], cv := .slice AV' (L.casts.length + 1) cV' }) = addI L.code i /\ stageI i = 4 := by
       intro i hi2
       rw [castIt_some HC.out.2.2.1 HC.out.2.2.2.1 HDD.out i hi2]
       exact ⟨by simp [CoL.code, addI], rfl⟩
      have H5 := Lib.hid (And.intro hr5 (And.intro hb5 (And.intro hlb (And.intro hi h6))))
      clear hr5 hb5 hlb hi h6 hk5 hW5 ht4 ho4 y5 z5 k4 hHeld x0 x1 x2 y2 hrow
      rcases hv : castIt f t cs with _ | it0
      ·
       rw [<- castIt_is, hv] at ck
       simp only [Option.isSome_none] at ck
       have HV := Lib.hid hv
       clear hv
       go_wp2_with fail
       go_step3
       go_wp2_with fail
       rw [Exit.noGoto_ret]
       go_ret
       exact line_no (by rw [H5.out.2.2.2.1, HV.out]) H5.out.2.1
      ·
       rw [<- castIt_is, hv] at ck
       simp only [Option.isSome_some] at ck
       have HV := Lib.hid hv
       clear hv
       by_cases hs : st <= 4
       ·
        have hd : decide ((st : Int) <= 4) = true := by simp; omega
        have HS := Lib.hid hs
        clear hs
        go_wp2_with fail
        rw [Exit.noGoto_ret]
        go_ret
        exact line_yes (cf := cf) H5.out.2.2.2.1 H5.out.1 H5.out.2.2.1 H5.out.2.1 (by rw [HV.out]; rfl) H5.out.2.2.2.2 (fun i hi2 hx => by rw [castIt_some HC.out.2.2.1 HC.out.2.2.2.1 HDD.out i hi2] at hx; cases hx) HS.out
       ·
        have hd : decide ((st : Int) <= 4) = false := by simp; omega
        have HS := Lib.hid hs
        clear hs
        go_wp2_with fail
        go_step3
        go_wp2_with fail
        rw [Exit.noGoto_ret]
        go_ret
        exact line_late (cf := cf) H5.out.2.2.2.1 H5.out.2.1 H5.out.2.2.2.2 HS.out
end Go.Proofs.YtobplngonkdbpaaGreatDoor.D
