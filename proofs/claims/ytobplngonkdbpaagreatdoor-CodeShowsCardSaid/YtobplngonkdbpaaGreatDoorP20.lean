/- Parts of this claim: CfG. -/
import Derived.Laws.CopyOwn
import Derived.Test.YtobplngonkdbpaaGreatDoorP18
import Derived.Test.YtobplngonkdbpaaGreatDoorP05
set_option linter.unusedVariables false
set_option linter.unusedSimpArgs false
/- CfG -/
namespace Go.Proofs.YtobplngonkdbpaaGreatDoor.D
open Go.RowKit
open Go.Proofs.YtobplngonkdbpaaGreatDoor.B
set_option linter.unusedVariables false
set_option linter.unusedSimpArgs false
theorem infoI : (Tryz.prog.info? 92).map (fun i => (i.zero, i.size, i.bytes)) = some (some (.agg #[.int .i8 0, .int .i64 0, .int .i64 0]), 3, 24) := by kernel_rfl
set_option maxRecDepth 100000 in
set_option maxHeartbeats 4000000 in
theorem line_ins (r st B : Nat) (L : CoL) (F0 : List FuL) (g : FuL) (s o a b : Bs) (w : World) (hl : s.length <= 1073741824) (hg : Gl w) (h8 : 8 <= r) (hr : RAt w r L st) (hB : LB L B) (hBb : B <= 1073741824) (hws : wordsP s = [[], o, a, b]) (hL : L.fns = F0 ++ [g])
  (hlw : ∀ x ∈ wordsP s, x.length <= 1073741824) :
  Calls Tryz.prog 48 #[.pointer (some ⟨r, 0, none⟩), strV s] w fun e w' => LineQ r st B L s w e w' := by
 obtain ⟨i0, hi0, hz0, hz1, hz2⟩ := info_parts infoI
 have hW := words_p s w hl hg
 rw [hws] at hW
 obtain ⟨n, hn⟩ : ∃ n, L.fns.length = n := ⟨_, rfl⟩
 obtain ⟨m, hm⟩ : ∃ m, F0.length = m := ⟨_, rfl⟩
 have hnm : n = m + 1 := by rw [<- hn, hL, <- hm]; simp
 obtain ⟨gF, cF, hfv⟩ : ∃ gF cF, L.fv = .slice (some ⟨gF, 0, none⟩) n cF := by
  rcases (hr.own.own (rowF L) (rowF_in L)).2 with ⟨_, h0⟩ | ⟨gF, cap, cur, h1, _⟩
  · exact absurd (show L.fns.length = 0 from h0) (by omega)
  · exact ⟨gF, cap, by rw [<- hn]; exact h1⟩
 have hgF := hr.own.lt (rowF_in L) gF (by show L.fv.ownBlock = _; rw [hfv]; rfl)
 have hcell : ∀ j u, (L.fns.flatMap FuL.cells)[j]? = some u -> w.cell? ⟨gF, j, none⟩ = some u := fun j u hu => by
  have h := hr.own.own (rowF L) (rowF_in L)
  have := h.cells (g := gF) (by show L.fv.ownBlock = _; rw [hfv]; rfl) j u hu
  rwa [add_flat, Nat.zero_add] at this
 have en : IntKind.i64.wrap ((n : Int) - 1) = (m : Int) := by have := hB.f; rw [IntWalk.i64_in _ ⟨by omega, by omega⟩]; omega
 have lm : (m : Int) < (n : Int) := by omega
 have lm2 : m < n := by omega
 have l0 : (0 : Int) < (n : Int) := by omega
 have HW := Lib.hid hW
 have HR := Lib.hid hr
 have HG := Lib.hid hg
 have HB := Lib.hid hB
 have HWS := Lib.hid hws
 have HLW := Lib.hid hlw
 have HL := Lib.hid (And.intro hL (And.intro hn (And.intro hm (And.intro hnm (And.intro hfv (And.intro hgF hcell))))))
 have hrw := hr.blk.lt
 clear hW hr hg hB hws hlw hL hn hm hnm hfv hgF hcell
 go_enter Tryz.func48, Tryz.ntmps48
 go_wp2_with fail
 go_step3
 go_wp2_with fail
 (refine HW.out.mono ?_); rintro ev w1 ⟨v, rfl, hown, hb1⟩
 obtain ⟨hNN, bw, cw, rfl, hbw, hbw2, hcw, hq⟩ := wordsK hown (show 0 < 4 by decide)
 clear HW hNN
 have hq0 := hq 0 [] rfl
 have hq1 := hq 1 o rfl
 have hq2 := hq 2 a rfl
 have hq3 := hq 3 b rfl
 go_upto_region 3 with fail
 obtain ⟨cf, hcf⟩ : ∃ cf, w1.heap.size = cf := ⟨_, rfl⟩
 obtain ⟨W2, hW2⟩ : ∃ W2, w1.alloc (.cells #[.bool true] 141) = W2 := ⟨_, rfl⟩
 have hb2 : Below w.heap.size w W2 := by rw [<- hW2]; exact bal hb1 _
 have hk2 : Blk W2 cf 141 #[.bool true] := by rw [<- hW2, <- hcf]; exact Blk.new _ _ _
 have p0 : W2.cell? ⟨bw, 0, none⟩ = some (.string ⟨#[]⟩) := by rw [<- hW2, World.cell?_alloc_lt _ _ _ hbw2]; exact hq0
 have p1 : W2.cell? ⟨bw, 1, none⟩ = some (strV o) := by rw [<- hW2, World.cell?_alloc_lt _ _ _ hbw2]; exact hq1
 have p2 : W2.cell? ⟨bw, 2, none⟩ = some (strV a) := by rw [<- hW2, World.cell?_alloc_lt _ _ _ hbw2]; exact hq2
 have p3 : W2.cell? ⟨bw, 3, none⟩ = some (strV b) := by rw [<- hW2, World.cell?_alloc_lt _ _ _ hbw2]; exact hq3
 have yF : W2.cell? ⟨r, 0, none⟩ = some (.slice (some ⟨gF, 0, none⟩) n cF) := by rw [<- HL.out.2.2.2.2.1]; exact ((HR.out.grow hb2).blk.cell 0).trans rfl
 have hbc : bw < cf := by omega
 have hwc : w.heap.size <= cf := by omega
 rw [hW2, hcf]
 have H2 := Lib.hid (And.intro hb2 (And.intro hk2 (And.intro hbc (And.intro hwc hbw))))
 clear hq0 hq1 hq2 hq3 hq hW2 hcf hb1 hb2 hk2 hown hbw2 hbc hwc hbw hcw
 go_upto_region 34 with fail
 go_quiet (fail)
 go_upto_region 35 with fail
 obtain ⟨W3, hW3⟩ : ∃ X, W2.drewN nq = X := ⟨_, rfl⟩
 have hb3 : Below w.heap.size w W3 := by rw [<- hW3]; exact bdr H2.out.1 nq
 have hk3 : Blk W3 cf 141 #[.bool true] := by rw [<- hW3]; exact H2.out.2.1.drewN nq
 have q1 : W3.cell? ⟨bw, 1, none⟩ = some (strV o) := by rw [<- hW3]; exact p1
 have q2 : W3.cell? ⟨bw, 2, none⟩ = some (strV a) := by rw [<- hW3]; exact p2
 have q3 : W3.cell? ⟨bw, 3, none⟩ = some (strV b) := by rw [<- hW3]; exact p3
 rw [hW3]
 have HY := Lib.hid (show ∀ W, Below w.heap.size w W -> W.cell? ⟨gF, m * 4 + 3, none⟩ = some g.cv from fun W hb => (hb.cell (p := ⟨gF, m * 4 + 3, none⟩) HL.out.2.2.2.2.2.1.2).trans (HL.out.2.2.2.2.2.2 _ _ (by
  rw [HL.out.1, List.flatMap_append, <- HL.out.2.2.1, List.getElem?_append_right (by rw [fl_len]; omega), fl_len, show F0.length * 4 + 3 - F0.length * 4 = 3 by omega]; rfl)))
 have y2 := HY.out W3 hb3
 have HSw := Lib.hid (show ∀ W' : World, W'.heap[bw]? = W3.heap[bw]? -> W'.cell? ⟨bw, 1, none⟩ = some (strV o) /\ W'.cell? ⟨bw, 2, none⟩ = some (strV a) /\ W'.cell? ⟨bw, 3, none⟩ = some (strV b) from fun W' h =>
  ⟨(World.cell?_of_block (a := ⟨bw, 1, none⟩) h).trans q1, (World.cell?_of_block (a := ⟨bw, 2, none⟩) h).trans q2, (World.cell?_of_block (a := ⟨bw, 3, none⟩) h).trans q3⟩)
 have HCF := Lib.hid (show bw < W3.heap.size /\ cf < W3.heap.size /\ 8 <= cf /\ bw ≠ cf /\ w.heap.size <= bw /\ w.heap.size <= cf from ⟨Nat.lt_trans H2.out.2.2.1 hk3.lt, hk3.lt, by have := H2.out.2.2.2.1; omega, Nat.ne_of_lt H2.out.2.2.1, H2.out.2.2.2.2, H2.out.2.2.2.1⟩)
 have HLo := Lib.hid (HLW.out o (by rw [HWS.out]; simp))
 have HLa := Lib.hid (HLW.out a (by rw [HWS.out]; simp))
 have HLb := Lib.hid (HLW.out b (by rw [HWS.out]; simp))
 have F : Hid (True /\ Blk W3.drew cf 141 #[.bool true] /\ Below w.heap.size w W3.drew /\ W3.drew.heap[bw]? = W3.heap[bw]?) := Lib.hid ⟨trivial, hk3.drew, bdr hb3 1, rfl⟩
 have HROW := Lib.hid (RAt.ins_row (L := L) HL.out.1)
 have HAP := Lib.hid (HR.out.ins_apart HL.out.1 (gF := gF) (by rw [HL.out.2.2.2.2.1]; rfl))
 clear hW3 hb3 hk3 p0 p1 p2 p3 yF lm lm2 l0 en
 refine wp_region_held_drew (S := (fun W' => W'.cell? ⟨bw, 1, none⟩ = some (strV o) /\ W'.cell? ⟨bw, 2, none⟩ = some (strV a) /\ W'.cell? ⟨bw, 3, none⟩ = some (strV b))) (by kernel_rfl) ?ss1 (fun hHeld => ?rr1)
 case ss1 => (try dsimp only); exact HSw.out _ rfl
 refine rgt 0 238 rfl rfl hHeld ?_
 try simp only [Act.put, rg1, rg2, rg3]
 refine rgt 1 239 rfl rfl hHeld ?_
 try simp only [Act.put, rg1, rg2, rg3]
 refine rgt 2 240 rfl rfl hHeld ?_
 try simp only [Act.put, rg1, rg2, rg3]
 refine rgt 3 241 rfl rfl hHeld ?_
 try simp only [Act.put, rg1, rg2, rg3]
 refine rgt 5 243 rfl rfl hHeld ?_
 try simp only [Act.put, rg1, rg2, rg3]
 refine rgt 6 244 rfl rfl hHeld ?_
 try simp only [Act.put, rg1, rg2, rg3]
 refine rgt 7 245 rfl rfl hHeld ?_
 try simp only [Act.put, rg1, rg2, rg3]
 refine rgt 8 246 rfl rfl hHeld ?_
 try simp only [Act.put, rg1, rg2, rg3]
 refine rgt 10 248 rfl rfl hHeld ?_
 try simp only [Act.put, rg1, rg2, rg3]
 refine rgt 11 249 rfl rfl hHeld ?_
 try simp only [Act.put, rg1, rg2, rg3]
 refine rgt 12 250 rfl rfl hHeld ?_
 try simp only [Act.put, rg1, rg2, rg3]
 refine rgt 13 251 rfl rfl hHeld ?_
 try simp only [Act.put, rg1, rg2, rg3]
 refine rgt 15 253 rfl rfl hHeld ?_
 try simp only [Act.put, rg1, rg2, rg3]
 refine rgt 16 254 rfl rfl hHeld ?_
 try simp only [Act.put, rg1, rg2, rg3]
 refine rgt 17 255 rfl rfl hHeld ?_
 try simp only [Act.put, rg1, rg2, rg3]
 refine rgt 18 256 rfl rfl hHeld ?_
 try simp only [Act.put, rg1, rg2, rg3]
 refine wpAnyH_ready (rs := [4, 9]) (by kernel_rfl) (by simp) ?_
 refine AllReadyH.cons (o := ⟨some 242, _, _, _, _, _⟩) rfl (fun K hK => ?br18) (AllReadyH.cons (o := ⟨some 247, _, _, _, _, _⟩) rfl (fun K hK => ?br19) AllReadyH.nil)
 case br18 =>
  go_simp
  refine hK.out _ _ ?ss20 (fun hHeld2 => ?rr20)
  case ss20 => (try dsimp only); exact hHeld
  clear hK K
  clear hHeld2
  try simp only [Act.put, rg1, rg2, rg3]
  refine rgc 9 (some 247) rfl (fun K hK => ?_)
  go_simp
  ((refine (op_c cf o _ _ HLo.out (HG.out.on F.out.2.2.1) F.out.2.1 HCF.out.2.2.1).mono ?_); rintro e w3 ⟨n1, rfl, hr1, hv, hk, hbt⟩; have F1 := Lib.hid (And.intro hv (And.intro hk (And.intro (F.out.2.2.1.trans (hbt.below F.out.2.2.1.size fun k hk => by have := HCF.out; omega)) ((hbt.block bw (lt_same F.out.2.2.2 HCF.out.1) HCF.out.2.2.2.1).trans F.out.2.2.2)))); have y3 := HY.out w3 F1.out.2.2.1; clear hv hk hbt)
  refine hK.out _ _ ?ss21 (fun hHeld2 => ?rr21)
  case ss21 => (try dsimp only); exact HSw.out _ F1.out.2.2.2
  clear hK K
  clear hHeld
  have hHeld := hHeld2
  clear hHeld2
  try simp only [Act.put, rg1, rg2, rg3]
  refine rgc 14 (some 252) rfl (fun K hK => ?_)
  go_simp
  ((refine (anyF_c cf a _ _ HLa.out (HG.out.on F1.out.2.2.1) F1.out.2.1 HCF.out.2.2.1).mono ?_); rintro e w4 ⟨n2, rfl, hr2, hv, hk, hbt⟩; have F2 := Lib.hid (And.intro hv (And.intro hk (And.intro (F1.out.2.2.1.trans (hbt.below F1.out.2.2.1.size fun k hk => by have := HCF.out; omega)) ((hbt.block bw (lt_same F1.out.2.2.2 HCF.out.1) HCF.out.2.2.2.1).trans F1.out.2.2.2)))); have y4 := HY.out w4 F2.out.2.2.1; clear hv hk hbt)
  refine hK.out _ _ ?ss22 (fun hHeld2 => ?rr22)
  case ss22 => (try dsimp only); exact HSw.out _ F2.out.2.2.2
  clear hK K
  clear hHeld
  have hHeld := hHeld2
  clear hHeld2
  try simp only [Act.put, rg1, rg2, rg3]
  refine rgc 19 (some 257) rfl (fun K hK => ?_)
  go_simp
  ((refine (anyF_c cf b _ _ HLb.out (HG.out.on F2.out.2.2.1) F2.out.2.1 HCF.out.2.2.1).mono ?_); rintro e w5 ⟨n3, rfl, hr3, hv, hk, hbt⟩; have F3 := Lib.hid (And.intro hv (And.intro hk (And.intro (F2.out.2.2.1.trans (hbt.below F2.out.2.2.1.size fun k hk => by have := HCF.out; omega)) ((hbt.block bw (lt_same F2.out.2.2.2 HCF.out.1) HCF.out.2.2.2.1).trans F2.out.2.2.2)))); have y5 := HY.out w5 F3.out.2.2.1; clear hv hk hbt)
  refine hK.out _ _ ?ss23 (fun hHeld2 => ?rr23)
  case ss23 => (try dsimp only); exact HSw.out _ F3.out.2.2.2
  clear hK K
  clear hHeld
  have hHeld := hHeld2
  clear hHeld2
  try simp only [Act.put, rg1, rg2, rg3]
  refine rgt 20 258 rfl rfl hHeld ?_
  try simp only [Act.put, rg1, rg2, rg3]
  refine rgc 21 (some 259) rfl (fun K hK => ?_)
  go_simp
  go_simp; have y6 := HY.out (w5.alloc (.cells #[.int .i8 n1, .int .i64 n2, .int .i64 n3] 92)) (bal F3.out.2.2.1 _)
  refine hK.out _ _ ?ss25 (fun hHeld2 => ?rr25)
  case ss25 => (try dsimp only); exact HSw.out _ ((Below.heap_alloc _ _ bw (lt_same F3.out.2.2.2 HCF.out.1)).trans F3.out.2.2.2)
  clear hK K
  clear hHeld
  have hHeld := hHeld2
  clear hHeld2
  try simp only [Act.put, rg1, rg2, rg3]
  refine rgc 22 (some 260) rfl (fun K hK => ?_)
  (refine step_append_fine rfl (.tmp 242) (.tmp 259) _ rfl (r + 1) 92 i0 _ 3 24 Tryz.underlying88 hi0 hz0 hz1 hz2 rfl g.cv g.f.code.length (codC g.f.code) rfl ((HR.out.grow (bal F3.out.2.2.1 _)).own.own _ HROW.out) (w5.heap.size + 1) (some ⟨w5.heap.size, 0, none⟩) 1 1 [.int .i8 n1, .int .i64 n2, .int .i64 n3] rfl (Sl.fresh w5 _ 3 _ rfl) (by intro u hu; simp only [List.mem_cons, List.not_mem_nil, or_false] at hu; rcases hu with rfl | rfl | rfl <;> rfl) (by decide) (by have := HB.out.i g (by rw [HL.out.1]; simp); unfold maxLen; omega) (by have := HB.out.i g (by rw [HL.out.1]; simp); omega) (by have := F3.out.2.2.1.size; simp only [World.size_alloc]; omega) ?_); (intro V' w6 ho6 ht6); (obtain ⟨AV', cV', rfl, _, _⟩ := own_shape ho6); (obtain ⟨cur, hcur⟩ : ∃ cur, Blk w gF 90 cur := own_blk (HR.out.own.own (rowF L) (rowF_in L)) (by show L.fv.ownBlock = _; rw [HL.out.2.2.2.2.1]; rfl)); have kF : Blk w6 gF 90 cur := (ht6.block (b := gF) ((hcur.below (bal F3.out.2.2.1 _) hcur.lt).lt) HAP.out).trans (hcur.below (bal F3.out.2.2.1 _) hcur.lt); have y7 : w6.cell? ⟨gF, m * 4 + 3, none⟩ = some g.cv := (World.cell?_of_block (a := ⟨gF, m * 4 + 3, none⟩) (ht6.block (b := gF) ((hcur.below (bal F3.out.2.2.1 _) hcur.lt).lt) HAP.out)).trans y6; have z7 := kF.frozen (m * 4 + 3); have hw6 : w6.heap[bw]? = W3.heap[bw]? := (ht6.block (b := bw) (Nat.lt_of_lt_of_le (lt_same F3.out.2.2.2 HCF.out.1) (by simp)) (HR.out.away HROW.out HCF.out.2.2.2.2.1)).trans ((Below.heap_alloc _ _ bw (lt_same F3.out.2.2.2 HCF.out.1)).trans F3.out.2.2.2)
  refine hK.out _ _ ?ss26 (fun hHeld2 => ?rr26)
  case ss26 => (try dsimp only); exact HSw.out _ hw6
  clear hK K
  clear hHeld
  have hHeld := hHeld2
  clear hHeld2
  try simp only [Act.put, rg1, rg2, rg3]
  refine rgt 23 261 rfl rfl hHeld ?_
  try simp only [Act.put, rg1, rg2, rg3]
  refine rgt 24 262 rfl rfl hHeld ?_
  try simp only [Act.put, rg1, rg2, rg3]
  refine rgc 25 (none) rfl (fun K hK => ?_)
  go_simp
  go_simp
  refine hK.out _ _ ?ss29 (fun hHeld2 => ?rr29)
  case ss29 => (try dsimp only); exact HSw.out _ ((Below.heap_setCell _ _ _ _ (by simp only [ne_eq]; have := HCF.out; have := HL.out.2.2.2.2.2.1; omega)).trans hw6)
  clear hK K
  clear hHeld
  have hHeld := hHeld2
  clear hHeld2
  try simp only [Act.put, rg1, rg2, rg3]
  refine wpAnyH_done (by kernel_rfl) ?_ _
  have hr7 := RAt.ins (i := ⟨n1, n2, n3⟩) (HR.out.grow (bal F3.out.2.2.1 _)) HL.out.1 (by rw [HL.out.2.1]; exact HL.out.2.2.2.2.1) ht6 ho6
  rw [HL.out.2.2.1] at hr7
  have hgr : r + 1 <= gF /\ gF < w.heap.size := HL.out.2.2.2.2.2.1
  have hk7 : Blk (w6.setCell ⟨gF, m * 4 + 3, none⟩ (.slice AV' (g.f.code.length + 1) cV')) cf 141 #[.bool ((opV o).isSome && (numV a).isSome && (numV b).isSome)] := by
   have h := F3.out.2.1
   rw [Bool.true_and] at h
   exact Blk.far ((ht6.block (b := cf) (h.alloc _).lt (HR.out.away HROW.out HCF.out.2.2.2.2.2)).trans (h.alloc _)) (show cf ≠ gF by have := HCF.out; omega) _
  have hb7 : Below r w (w6.setCell ⟨gF, m * 4 + 3, none⟩ (.slice AV' (g.f.code.length + 1) cV')) :=
   below_set (((bal F3.out.2.2.1 (.cells #[.int .i8 n1, .int .i64 n2, .int .i64 n3] 92)).mono (Nat.le_of_lt hrw)).trans ((HR.out.grow (bal F3.out.2.2.1 (.cells #[.int .i8 n1, .int .i64 n2, .int .i64 n3] 92))).but HROW.out ht6)) (by omega) _
  have hlb : LB { L with fns := F0 ++ [⟨g.ev, { g.f with code := g.f.code ++ [⟨n1, n2, n3⟩] }, .slice AV' (g.f.code.length + 1) cV'⟩] } (B + 1) := by
   obtain ⟨l1, l2, l3, l4, l5, l6⟩ := HB.out
   rw [HL.out.1] at l5 l6
   refine ⟨by simp only; omega, by simp only; omega, by simp only; omega, by simp only; omega, by simp only [List.length_append, List.length_singleton] at l5 ⊢; omega, fun g2 hg2 => ?_⟩
   rcases List.mem_append.1 hg2 with hg2 | hg2
   · have := l6 g2 (by simp [hg2]); omega
   ·
    have := l6 g (by simp)
    rw [List.mem_singleton.1 hg2]
    simp only [List.length_append, List.length_singleton]; omega
  have hi : rdItem (wordsP s) = insIt o a b := by rw [HWS.out]; unfold rdItem insIt; simp only; rw [if_neg (by decide), if_neg (by decide), if_neg (by decide), if_neg (by decide), if_neg (by decide), if_pos trivial]; (try rfl)
  obtain ⟨W7, hW7⟩ : ∃ X, w6.setCell ⟨gF, m * 4 + 3, none⟩ (.slice AV' (g.f.code.length + 1) cV') = X := ⟨_, rfl⟩
  rw [hW7] at hr7 hk7 hb7 ⊢
  have cr := (hr7.blk.cell 5).trans rfl
  have zr := hr7.blk.frozen 5
  have ck := (hk7.cell 0).trans rfl
  simp only [List.getElem?_toArray, List.getElem?_cons_zero, List.getElem?_cons_succ] at cr ck
  have h6 : ∀ i, insIt o a b = some i -> (CoL.code { L with fns := F0 ++ [⟨g.ev, { g.f with code := g.f.code ++ [⟨n1, n2, n3⟩] }, .slice AV' (g.f.code.length + 1) cV'⟩] }) = addI L.code i /\ stageI i = 5 := by
   intro i hi2
   rw [insIt_some F1.out.1 F2.out.1 F3.out.1 i hi2]
   refine ⟨?_, rfl⟩
   simp only [CoL.code, addI, HL.out.1, List.map_append, List.map_cons, List.map_nil, addIn_last]
  have H5 := Lib.hid (And.intro hr7 (And.intro hb7 (And.intro hlb (And.intro hi h6))))
  have HNE := Lib.hid (show ∀ i, insIt o a b = some i -> isIns i = true -> L.fns ≠ [] from fun i _ _ => by rw [HL.out.1]; simp)
  clear hr7 hb7 hlb hi h6 hk7 hW7 ht6 ho6 y2 y7 z7 kF hHeld hw6 q1 q2 q3 hcur hgr
  rcases hv : insIt o a b with _ | it0
  ·
   rw [<- insIt_is, hv] at ck
   simp only [Option.isSome_none] at ck
   have HV := Lib.hid hv
   clear hv
   go_wp2_with fail
   go_step3
   go_wp2_with fail
   (try rw [Exit.noGoto_ret])
   go_ret
   exact line_no (by rw [H5.out.2.2.2.1, HV.out]) H5.out.2.1
  ·
   rw [<- insIt_is, hv] at ck
   simp only [Option.isSome_some] at ck
   have HV := Lib.hid hv
   clear hv
   by_cases hs : st <= 5
   ·
    have hd : decide ((st : Int) <= 5) = true := by simp; omega
    have HS := Lib.hid hs
    clear hs
    go_wp2_with fail
    (try rw [Exit.noGoto_ret])
    go_ret
    exact line_yes (cf := cf) H5.out.2.2.2.1 H5.out.1 H5.out.2.2.1 H5.out.2.1 (by rw [HV.out]; rfl) H5.out.2.2.2.2 HNE.out HS.out
   ·
    have hd : decide ((st : Int) <= 5) = false := by simp; omega
    have HS := Lib.hid hs
    clear hs
    go_wp2_with fail
    go_step3
    go_wp2_with fail
    (try rw [Exit.noGoto_ret])
    go_ret
    exact line_late (cf := cf) H5.out.2.2.2.1 H5.out.2.1 H5.out.2.2.2.2 HS.out
 case br19 =>
  go_simp
  ((refine (op_c cf o _ _ HLo.out (HG.out.on F.out.2.2.1) F.out.2.1 HCF.out.2.2.1).mono ?_); rintro e w3 ⟨n1, rfl, hr1, hv, hk, hbt⟩; have F1 := Lib.hid (And.intro hv (And.intro hk (And.intro (F.out.2.2.1.trans (hbt.below F.out.2.2.1.size fun k hk => by have := HCF.out; omega)) ((hbt.block bw (lt_same F.out.2.2.2 HCF.out.1) HCF.out.2.2.2.1).trans F.out.2.2.2)))); have y3 := HY.out w3 F1.out.2.2.1; clear hv hk hbt)
  refine hK.out _ _ ?ss30 (fun hHeld2 => ?rr30)
  case ss30 => (try dsimp only); exact HSw.out _ F1.out.2.2.2
  clear hK K
  clear hHeld
  have hHeld := hHeld2
  clear hHeld2
  try simp only [Act.put, rg1, rg2, rg3]
  refine wpAnyH_ready (rs := [4, 14]) (by kernel_rfl) (by simp) ?_
  refine AllReadyH.cons (o := ⟨some 242, _, _, _, _, _⟩) rfl (fun K hK => ?br31) (AllReadyH.cons (o := ⟨some 252, _, _, _, _, _⟩) rfl (fun K hK => ?br32) AllReadyH.nil)
  case br31 =>
   go_simp
   refine hK.out _ _ ?ss33 (fun hHeld2 => ?rr33)
   case ss33 => (try dsimp only); exact hHeld
   clear hK K
   clear hHeld2
   try simp only [Act.put, rg1, rg2, rg3]
   refine rgc 14 (some 252) rfl (fun K hK => ?_)
   go_simp
   ((refine (anyF_c cf a _ _ HLa.out (HG.out.on F1.out.2.2.1) F1.out.2.1 HCF.out.2.2.1).mono ?_); rintro e w4 ⟨n2, rfl, hr2, hv, hk, hbt⟩; have F2 := Lib.hid (And.intro hv (And.intro hk (And.intro (F1.out.2.2.1.trans (hbt.below F1.out.2.2.1.size fun k hk => by have := HCF.out; omega)) ((hbt.block bw (lt_same F1.out.2.2.2 HCF.out.1) HCF.out.2.2.2.1).trans F1.out.2.2.2)))); have y4 := HY.out w4 F2.out.2.2.1; clear hv hk hbt)
   refine hK.out _ _ ?ss34 (fun hHeld2 => ?rr34)
   case ss34 => (try dsimp only); exact HSw.out _ F2.out.2.2.2
   clear hK K
   clear hHeld
   have hHeld := hHeld2
   clear hHeld2
   try simp only [Act.put, rg1, rg2, rg3]
   refine rgc 19 (some 257) rfl (fun K hK => ?_)
   go_simp
   ((refine (anyF_c cf b _ _ HLb.out (HG.out.on F2.out.2.2.1) F2.out.2.1 HCF.out.2.2.1).mono ?_); rintro e w5 ⟨n3, rfl, hr3, hv, hk, hbt⟩; have F3 := Lib.hid (And.intro hv (And.intro hk (And.intro (F2.out.2.2.1.trans (hbt.below F2.out.2.2.1.size fun k hk => by have := HCF.out; omega)) ((hbt.block bw (lt_same F2.out.2.2.2 HCF.out.1) HCF.out.2.2.2.1).trans F2.out.2.2.2)))); have y5 := HY.out w5 F3.out.2.2.1; clear hv hk hbt)
   refine hK.out _ _ ?ss35 (fun hHeld2 => ?rr35)
   case ss35 => (try dsimp only); exact HSw.out _ F3.out.2.2.2
   clear hK K
   clear hHeld
   have hHeld := hHeld2
   clear hHeld2
   try simp only [Act.put, rg1, rg2, rg3]
   refine rgt 20 258 rfl rfl hHeld ?_
   try simp only [Act.put, rg1, rg2, rg3]
   refine rgc 21 (some 259) rfl (fun K hK => ?_)
   go_simp
   go_simp; have y6 := HY.out (w5.alloc (.cells #[.int .i8 n1, .int .i64 n2, .int .i64 n3] 92)) (bal F3.out.2.2.1 _)
   refine hK.out _ _ ?ss37 (fun hHeld2 => ?rr37)
   case ss37 => (try dsimp only); exact HSw.out _ ((Below.heap_alloc _ _ bw (lt_same F3.out.2.2.2 HCF.out.1)).trans F3.out.2.2.2)
   clear hK K
   clear hHeld
   have hHeld := hHeld2
   clear hHeld2
   try simp only [Act.put, rg1, rg2, rg3]
   refine rgc 22 (some 260) rfl (fun K hK => ?_)
   (refine step_append_fine rfl (.tmp 242) (.tmp 259) _ rfl (r + 1) 92 i0 _ 3 24 Tryz.underlying88 hi0 hz0 hz1 hz2 rfl g.cv g.f.code.length (codC g.f.code) rfl ((HR.out.grow (bal F3.out.2.2.1 _)).own.own _ HROW.out) (w5.heap.size + 1) (some ⟨w5.heap.size, 0, none⟩) 1 1 [.int .i8 n1, .int .i64 n2, .int .i64 n3] rfl (Sl.fresh w5 _ 3 _ rfl) (by intro u hu; simp only [List.mem_cons, List.not_mem_nil, or_false] at hu; rcases hu with rfl | rfl | rfl <;> rfl) (by decide) (by have := HB.out.i g (by rw [HL.out.1]; simp); unfold maxLen; omega) (by have := HB.out.i g (by rw [HL.out.1]; simp); omega) (by have := F3.out.2.2.1.size; simp only [World.size_alloc]; omega) ?_); (intro V' w6 ho6 ht6); (obtain ⟨AV', cV', rfl, _, _⟩ := own_shape ho6); (obtain ⟨cur, hcur⟩ : ∃ cur, Blk w gF 90 cur := own_blk (HR.out.own.own (rowF L) (rowF_in L)) (by show L.fv.ownBlock = _; rw [HL.out.2.2.2.2.1]; rfl)); have kF : Blk w6 gF 90 cur := (ht6.block (b := gF) ((hcur.below (bal F3.out.2.2.1 _) hcur.lt).lt) HAP.out).trans (hcur.below (bal F3.out.2.2.1 _) hcur.lt); have y7 : w6.cell? ⟨gF, m * 4 + 3, none⟩ = some g.cv := (World.cell?_of_block (a := ⟨gF, m * 4 + 3, none⟩) (ht6.block (b := gF) ((hcur.below (bal F3.out.2.2.1 _) hcur.lt).lt) HAP.out)).trans y6; have z7 := kF.frozen (m * 4 + 3); have hw6 : w6.heap[bw]? = W3.heap[bw]? := (ht6.block (b := bw) (Nat.lt_of_lt_of_le (lt_same F3.out.2.2.2 HCF.out.1) (by simp)) (HR.out.away HROW.out HCF.out.2.2.2.2.1)).trans ((Below.heap_alloc _ _ bw (lt_same F3.out.2.2.2 HCF.out.1)).trans F3.out.2.2.2)
   refine hK.out _ _ ?ss38 (fun hHeld2 => ?rr38)
   case ss38 => (try dsimp only); exact HSw.out _ hw6
   clear hK K
   clear hHeld
   have hHeld := hHeld2
   clear hHeld2
   try simp only [Act.put, rg1, rg2, rg3]
   refine rgt 23 261 rfl rfl hHeld ?_
   try simp only [Act.put, rg1, rg2, rg3]
   refine rgt 24 262 rfl rfl hHeld ?_
   try simp only [Act.put, rg1, rg2, rg3]
   refine rgc 25 (none) rfl (fun K hK => ?_)
   go_simp
   go_simp
   refine hK.out _ _ ?ss41 (fun hHeld2 => ?rr41)
   case ss41 => (try dsimp only); exact HSw.out _ ((Below.heap_setCell _ _ _ _ (by simp only [ne_eq]; have := HCF.out; have := HL.out.2.2.2.2.2.1; omega)).trans hw6)
   clear hK K
   clear hHeld
   have hHeld := hHeld2
   clear hHeld2
   try simp only [Act.put, rg1, rg2, rg3]
   refine wpAnyH_done (by kernel_rfl) ?_ _
   have hr7 := RAt.ins (i := ⟨n1, n2, n3⟩) (HR.out.grow (bal F3.out.2.2.1 _)) HL.out.1 (by rw [HL.out.2.1]; exact HL.out.2.2.2.2.1) ht6 ho6
   rw [HL.out.2.2.1] at hr7
   have hgr : r + 1 <= gF /\ gF < w.heap.size := HL.out.2.2.2.2.2.1
   have hk7 : Blk (w6.setCell ⟨gF, m * 4 + 3, none⟩ (.slice AV' (g.f.code.length + 1) cV')) cf 141 #[.bool ((opV o).isSome && (numV a).isSome && (numV b).isSome)] := by
    have h := F3.out.2.1
    rw [Bool.true_and] at h
    exact Blk.far ((ht6.block (b := cf) (h.alloc _).lt (HR.out.away HROW.out HCF.out.2.2.2.2.2)).trans (h.alloc _)) (show cf ≠ gF by have := HCF.out; omega) _
   have hb7 : Below r w (w6.setCell ⟨gF, m * 4 + 3, none⟩ (.slice AV' (g.f.code.length + 1) cV')) :=
    below_set (((bal F3.out.2.2.1 (.cells #[.int .i8 n1, .int .i64 n2, .int .i64 n3] 92)).mono (Nat.le_of_lt hrw)).trans ((HR.out.grow (bal F3.out.2.2.1 (.cells #[.int .i8 n1, .int .i64 n2, .int .i64 n3] 92))).but HROW.out ht6)) (by omega) _
   have hlb : LB { L with fns := F0 ++ [⟨g.ev, { g.f with code := g.f.code ++ [⟨n1, n2, n3⟩] }, .slice AV' (g.f.code.length + 1) cV'⟩] } (B + 1) := by
    obtain ⟨l1, l2, l3, l4, l5, l6⟩ := HB.out
    rw [HL.out.1] at l5 l6
    refine ⟨by simp only; omega, by simp only; omega, by simp only; omega, by simp only; omega, by simp only [List.length_append, List.length_singleton] at l5 ⊢; omega, fun g2 hg2 => ?_⟩
    rcases List.mem_append.1 hg2 with hg2 | hg2
    · have := l6 g2 (by simp [hg2]); omega
    ·
     have := l6 g (by simp)
     rw [List.mem_singleton.1 hg2]
     simp only [List.length_append, List.length_singleton]; omega
   have hi : rdItem (wordsP s) = insIt o a b := by rw [HWS.out]; unfold rdItem insIt; simp only; rw [if_neg (by decide), if_neg (by decide), if_neg (by decide), if_neg (by decide), if_neg (by decide), if_pos trivial]; (try rfl)
   obtain ⟨W7, hW7⟩ : ∃ X, w6.setCell ⟨gF, m * 4 + 3, none⟩ (.slice AV' (g.f.code.length + 1) cV') = X := ⟨_, rfl⟩
   rw [hW7] at hr7 hk7 hb7 ⊢
   have cr := (hr7.blk.cell 5).trans rfl
   have zr := hr7.blk.frozen 5
   have ck := (hk7.cell 0).trans rfl
   simp only [List.getElem?_toArray, List.getElem?_cons_zero, List.getElem?_cons_succ] at cr ck
   have h6 : ∀ i, insIt o a b = some i -> (CoL.code { L with fns := F0 ++ [⟨g.ev, { g.f with code := g.f.code ++ [⟨n1, n2, n3⟩] }, .slice AV' (g.f.code.length + 1) cV'⟩] }) = addI L.code i /\ stageI i = 5 := by
    intro i hi2
    rw [insIt_some F1.out.1 F2.out.1 F3.out.1 i hi2]
    refine ⟨?_, rfl⟩
    simp only [CoL.code, addI, HL.out.1, List.map_append, List.map_cons, List.map_nil, addIn_last]
   have H5 := Lib.hid (And.intro hr7 (And.intro hb7 (And.intro hlb (And.intro hi h6))))
   have HNE := Lib.hid (show ∀ i, insIt o a b = some i -> isIns i = true -> L.fns ≠ [] from fun i _ _ => by rw [HL.out.1]; simp)
   clear hr7 hb7 hlb hi h6 hk7 hW7 ht6 ho6 y2 y7 z7 kF hHeld hw6 q1 q2 q3 hcur hgr
   rcases hv : insIt o a b with _ | it0
   ·
    rw [<- insIt_is, hv] at ck
    simp only [Option.isSome_none] at ck
    have HV := Lib.hid hv
    clear hv
    go_wp2_with fail
    go_step3
    go_wp2_with fail
    (try rw [Exit.noGoto_ret])
    go_ret
    exact line_no (by rw [H5.out.2.2.2.1, HV.out]) H5.out.2.1
   ·
    rw [<- insIt_is, hv] at ck
    simp only [Option.isSome_some] at ck
    have HV := Lib.hid hv
    clear hv
    by_cases hs : st <= 5
    ·
     have hd : decide ((st : Int) <= 5) = true := by simp; omega
     have HS := Lib.hid hs
     clear hs
     go_wp2_with fail
     (try rw [Exit.noGoto_ret])
     go_ret
     exact line_yes (cf := cf) H5.out.2.2.2.1 H5.out.1 H5.out.2.2.1 H5.out.2.1 (by rw [HV.out]; rfl) H5.out.2.2.2.2 HNE.out HS.out
    ·
     have hd : decide ((st : Int) <= 5) = false := by simp; omega
     have HS := Lib.hid hs
     clear hs
     go_wp2_with fail
     go_step3
     go_wp2_with fail
     (try rw [Exit.noGoto_ret])
     go_ret
     exact line_late (cf := cf) H5.out.2.2.2.1 H5.out.2.1 H5.out.2.2.2.2 HS.out
  case br32 =>
   go_simp
   ((refine (anyF_c cf a _ _ HLa.out (HG.out.on F1.out.2.2.1) F1.out.2.1 HCF.out.2.2.1).mono ?_); rintro e w4 ⟨n2, rfl, hr2, hv, hk, hbt⟩; have F2 := Lib.hid (And.intro hv (And.intro hk (And.intro (F1.out.2.2.1.trans (hbt.below F1.out.2.2.1.size fun k hk => by have := HCF.out; omega)) ((hbt.block bw (lt_same F1.out.2.2.2 HCF.out.1) HCF.out.2.2.2.1).trans F1.out.2.2.2)))); have y4 := HY.out w4 F2.out.2.2.1; clear hv hk hbt)
   refine hK.out _ _ ?ss42 (fun hHeld2 => ?rr42)
   case ss42 => (try dsimp only); exact HSw.out _ F2.out.2.2.2
   clear hK K
   clear hHeld
   have hHeld := hHeld2
   clear hHeld2
   try simp only [Act.put, rg1, rg2, rg3]
   refine wpAnyH_ready (rs := [4, 19]) (by kernel_rfl) (by simp) ?_
   refine AllReadyH.cons (o := ⟨some 242, _, _, _, _, _⟩) rfl (fun K hK => ?br43) (AllReadyH.cons (o := ⟨some 257, _, _, _, _, _⟩) rfl (fun K hK => ?br44) AllReadyH.nil)
   case br43 =>
    go_simp
    refine hK.out _ _ ?ss45 (fun hHeld2 => ?rr45)
    case ss45 => (try dsimp only); exact hHeld
    clear hK K
    clear hHeld2
    try simp only [Act.put, rg1, rg2, rg3]
    refine rgc 19 (some 257) rfl (fun K hK => ?_)
    go_simp
    ((refine (anyF_c cf b _ _ HLb.out (HG.out.on F2.out.2.2.1) F2.out.2.1 HCF.out.2.2.1).mono ?_); rintro e w5 ⟨n3, rfl, hr3, hv, hk, hbt⟩; have F3 := Lib.hid (And.intro hv (And.intro hk (And.intro (F2.out.2.2.1.trans (hbt.below F2.out.2.2.1.size fun k hk => by have := HCF.out; omega)) ((hbt.block bw (lt_same F2.out.2.2.2 HCF.out.1) HCF.out.2.2.2.1).trans F2.out.2.2.2)))); have y5 := HY.out w5 F3.out.2.2.1; clear hv hk hbt)
    refine hK.out _ _ ?ss46 (fun hHeld2 => ?rr46)
    case ss46 => (try dsimp only); exact HSw.out _ F3.out.2.2.2
    clear hK K
    clear hHeld
    have hHeld := hHeld2
    clear hHeld2
    try simp only [Act.put, rg1, rg2, rg3]
    refine rgt 20 258 rfl rfl hHeld ?_
    try simp only [Act.put, rg1, rg2, rg3]
    refine rgc 21 (some 259) rfl (fun K hK => ?_)
    go_simp
    go_simp; have y6 := HY.out (w5.alloc (.cells #[.int .i8 n1, .int .i64 n2, .int .i64 n3] 92)) (bal F3.out.2.2.1 _)
    refine hK.out _ _ ?ss48 (fun hHeld2 => ?rr48)
    case ss48 => (try dsimp only); exact HSw.out _ ((Below.heap_alloc _ _ bw (lt_same F3.out.2.2.2 HCF.out.1)).trans F3.out.2.2.2)
    clear hK K
    clear hHeld
    have hHeld := hHeld2
    clear hHeld2
    try simp only [Act.put, rg1, rg2, rg3]
    refine rgc 22 (some 260) rfl (fun K hK => ?_)
    (refine step_append_fine rfl (.tmp 242) (.tmp 259) _ rfl (r + 1) 92 i0 _ 3 24 Tryz.underlying88 hi0 hz0 hz1 hz2 rfl g.cv g.f.code.length (codC g.f.code) rfl ((HR.out.grow (bal F3.out.2.2.1 _)).own.own _ HROW.out) (w5.heap.size + 1) (some ⟨w5.heap.size, 0, none⟩) 1 1 [.int .i8 n1, .int .i64 n2, .int .i64 n3] rfl (Sl.fresh w5 _ 3 _ rfl) (by intro u hu; simp only [List.mem_cons, List.not_mem_nil, or_false] at hu; rcases hu with rfl | rfl | rfl <;> rfl) (by decide) (by have := HB.out.i g (by rw [HL.out.1]; simp); unfold maxLen; omega) (by have := HB.out.i g (by rw [HL.out.1]; simp); omega) (by have := F3.out.2.2.1.size; simp only [World.size_alloc]; omega) ?_); (intro V' w6 ho6 ht6); (obtain ⟨AV', cV', rfl, _, _⟩ := own_shape ho6); (obtain ⟨cur, hcur⟩ : ∃ cur, Blk w gF 90 cur := own_blk (HR.out.own.own (rowF L) (rowF_in L)) (by show L.fv.ownBlock = _; rw [HL.out.2.2.2.2.1]; rfl)); have kF : Blk w6 gF 90 cur := (ht6.block (b := gF) ((hcur.below (bal F3.out.2.2.1 _) hcur.lt).lt) HAP.out).trans (hcur.below (bal F3.out.2.2.1 _) hcur.lt); have y7 : w6.cell? ⟨gF, m * 4 + 3, none⟩ = some g.cv := (World.cell?_of_block (a := ⟨gF, m * 4 + 3, none⟩) (ht6.block (b := gF) ((hcur.below (bal F3.out.2.2.1 _) hcur.lt).lt) HAP.out)).trans y6; have z7 := kF.frozen (m * 4 + 3); have hw6 : w6.heap[bw]? = W3.heap[bw]? := (ht6.block (b := bw) (Nat.lt_of_lt_of_le (lt_same F3.out.2.2.2 HCF.out.1) (by simp)) (HR.out.away HROW.out HCF.out.2.2.2.2.1)).trans ((Below.heap_alloc _ _ bw (lt_same F3.out.2.2.2 HCF.out.1)).trans F3.out.2.2.2)
    refine hK.out _ _ ?ss49 (fun hHeld2 => ?rr49)
    case ss49 => (try dsimp only); exact HSw.out _ hw6
    clear hK K
    clear hHeld
    have hHeld := hHeld2
    clear hHeld2
    try simp only [Act.put, rg1, rg2, rg3]
    refine rgt 23 261 rfl rfl hHeld ?_
    try simp only [Act.put, rg1, rg2, rg3]
    refine rgt 24 262 rfl rfl hHeld ?_
    try simp only [Act.put, rg1, rg2, rg3]
    refine rgc 25 (none) rfl (fun K hK => ?_)
    go_simp
    go_simp
    refine hK.out _ _ ?ss52 (fun hHeld2 => ?rr52)
    case ss52 => (try dsimp only); exact HSw.out _ ((Below.heap_setCell _ _ _ _ (by simp only [ne_eq]; have := HCF.out; have := HL.out.2.2.2.2.2.1; omega)).trans hw6)
    clear hK K
    clear hHeld
    have hHeld := hHeld2
    clear hHeld2
    try simp only [Act.put, rg1, rg2, rg3]
    refine wpAnyH_done (by kernel_rfl) ?_ _
    have hr7 := RAt.ins (i := ⟨n1, n2, n3⟩) (HR.out.grow (bal F3.out.2.2.1 _)) HL.out.1 (by rw [HL.out.2.1]; exact HL.out.2.2.2.2.1) ht6 ho6
    rw [HL.out.2.2.1] at hr7
    have hgr : r + 1 <= gF /\ gF < w.heap.size := HL.out.2.2.2.2.2.1
    have hk7 : Blk (w6.setCell ⟨gF, m * 4 + 3, none⟩ (.slice AV' (g.f.code.length + 1) cV')) cf 141 #[.bool ((opV o).isSome && (numV a).isSome && (numV b).isSome)] := by
     have h := F3.out.2.1
     rw [Bool.true_and] at h
     exact Blk.far ((ht6.block (b := cf) (h.alloc _).lt (HR.out.away HROW.out HCF.out.2.2.2.2.2)).trans (h.alloc _)) (show cf ≠ gF by have := HCF.out; omega) _
    have hb7 : Below r w (w6.setCell ⟨gF, m * 4 + 3, none⟩ (.slice AV' (g.f.code.length + 1) cV')) :=
     below_set (((bal F3.out.2.2.1 (.cells #[.int .i8 n1, .int .i64 n2, .int .i64 n3] 92)).mono (Nat.le_of_lt hrw)).trans ((HR.out.grow (bal F3.out.2.2.1 (.cells #[.int .i8 n1, .int .i64 n2, .int .i64 n3] 92))).but HROW.out ht6)) (by omega) _
    have hlb : LB { L with fns := F0 ++ [⟨g.ev, { g.f with code := g.f.code ++ [⟨n1, n2, n3⟩] }, .slice AV' (g.f.code.length + 1) cV'⟩] } (B + 1) := by
     obtain ⟨l1, l2, l3, l4, l5, l6⟩ := HB.out
     rw [HL.out.1] at l5 l6
     refine ⟨by simp only; omega, by simp only; omega, by simp only; omega, by simp only; omega, by simp only [List.length_append, List.length_singleton] at l5 ⊢; omega, fun g2 hg2 => ?_⟩
     rcases List.mem_append.1 hg2 with hg2 | hg2
     · have := l6 g2 (by simp [hg2]); omega
     ·
      have := l6 g (by simp)
      rw [List.mem_singleton.1 hg2]
      simp only [List.length_append, List.length_singleton]; omega
    have hi : rdItem (wordsP s) = insIt o a b := by rw [HWS.out]; unfold rdItem insIt; simp only; rw [if_neg (by decide), if_neg (by decide), if_neg (by decide), if_neg (by decide), if_neg (by decide), if_pos trivial]; (try rfl)
    obtain ⟨W7, hW7⟩ : ∃ X, w6.setCell ⟨gF, m * 4 + 3, none⟩ (.slice AV' (g.f.code.length + 1) cV') = X := ⟨_, rfl⟩
    rw [hW7] at hr7 hk7 hb7 ⊢
    have cr := (hr7.blk.cell 5).trans rfl
    have zr := hr7.blk.frozen 5
    have ck := (hk7.cell 0).trans rfl
    simp only [List.getElem?_toArray, List.getElem?_cons_zero, List.getElem?_cons_succ] at cr ck
    have h6 : ∀ i, insIt o a b = some i -> (CoL.code { L with fns := F0 ++ [⟨g.ev, { g.f with code := g.f.code ++ [⟨n1, n2, n3⟩] }, .slice AV' (g.f.code.length + 1) cV'⟩] }) = addI L.code i /\ stageI i = 5 := by
     intro i hi2
     rw [insIt_some F1.out.1 F2.out.1 F3.out.1 i hi2]
     refine ⟨?_, rfl⟩
     simp only [CoL.code, addI, HL.out.1, List.map_append, List.map_cons, List.map_nil, addIn_last]
    have H5 := Lib.hid (And.intro hr7 (And.intro hb7 (And.intro hlb (And.intro hi h6))))
    have HNE := Lib.hid (show ∀ i, insIt o a b = some i -> isIns i = true -> L.fns ≠ [] from fun i _ _ => by rw [HL.out.1]; simp)
    clear hr7 hb7 hlb hi h6 hk7 hW7 ht6 ho6 y2 y7 z7 kF hHeld hw6 q1 q2 q3 hcur hgr
    rcases hv : insIt o a b with _ | it0
    ·
     rw [<- insIt_is, hv] at ck
     simp only [Option.isSome_none] at ck
     have HV := Lib.hid hv
     clear hv
     go_wp2_with fail
     go_step3
     go_wp2_with fail
     (try rw [Exit.noGoto_ret])
     go_ret
     exact line_no (by rw [H5.out.2.2.2.1, HV.out]) H5.out.2.1
    ·
     rw [<- insIt_is, hv] at ck
     simp only [Option.isSome_some] at ck
     have HV := Lib.hid hv
     clear hv
     by_cases hs : st <= 5
     ·
      have hd : decide ((st : Int) <= 5) = true := by simp; omega
      have HS := Lib.hid hs
      clear hs
      go_wp2_with fail
      (try rw [Exit.noGoto_ret])
      go_ret
      exact line_yes (cf := cf) H5.out.2.2.2.1 H5.out.1 H5.out.2.2.1 H5.out.2.1 (by rw [HV.out]; rfl) H5.out.2.2.2.2 HNE.out HS.out
     ·
      have hd : decide ((st : Int) <= 5) = false := by simp; omega
      have HS := Lib.hid hs
      clear hs
      go_wp2_with fail
      go_step3
      go_wp2_with fail
      (try rw [Exit.noGoto_ret])
      go_ret
      exact line_late (cf := cf) H5.out.2.2.2.1 H5.out.2.1 H5.out.2.2.2.2 HS.out
   case br44 =>
    go_simp
    ((refine (anyF_c cf b _ _ HLb.out (HG.out.on F2.out.2.2.1) F2.out.2.1 HCF.out.2.2.1).mono ?_); rintro e w5 ⟨n3, rfl, hr3, hv, hk, hbt⟩; have F3 := Lib.hid (And.intro hv (And.intro hk (And.intro (F2.out.2.2.1.trans (hbt.below F2.out.2.2.1.size fun k hk => by have := HCF.out; omega)) ((hbt.block bw (lt_same F2.out.2.2.2 HCF.out.1) HCF.out.2.2.2.1).trans F2.out.2.2.2)))); have y5 := HY.out w5 F3.out.2.2.1; clear hv hk hbt)
    refine hK.out _ _ ?ss53 (fun hHeld2 => ?rr53)
    case ss53 => (try dsimp only); exact HSw.out _ F3.out.2.2.2
    clear hK K
    clear hHeld
    have hHeld := hHeld2
    clear hHeld2
    try simp only [Act.put, rg1, rg2, rg3]
    refine rgt 20 258 rfl rfl hHeld ?_
    try simp only [Act.put, rg1, rg2, rg3]
    refine wpAnyH_ready (rs := [4, 21]) (by kernel_rfl) (by simp) ?_
    refine AllReadyH.cons (o := ⟨some 242, _, _, _, _, _⟩) rfl (fun K hK => ?br55) (AllReadyH.cons (o := ⟨some 259, _, _, _, _, _⟩) rfl (fun K hK => ?br56) AllReadyH.nil)
    case br55 =>
     go_simp
     refine hK.out _ _ ?ss57 (fun hHeld2 => ?rr57)
     case ss57 => (try dsimp only); exact hHeld
     clear hK K
     clear hHeld2
     try simp only [Act.put, rg1, rg2, rg3]
     refine rgc 21 (some 259) rfl (fun K hK => ?_)
     go_simp
     go_simp; have y6 := HY.out (w5.alloc (.cells #[.int .i8 n1, .int .i64 n2, .int .i64 n3] 92)) (bal F3.out.2.2.1 _)
     refine hK.out _ _ ?ss58 (fun hHeld2 => ?rr58)
     case ss58 => (try dsimp only); exact HSw.out _ ((Below.heap_alloc _ _ bw (lt_same F3.out.2.2.2 HCF.out.1)).trans F3.out.2.2.2)
     clear hK K
     clear hHeld
     have hHeld := hHeld2
     clear hHeld2
     try simp only [Act.put, rg1, rg2, rg3]
     refine rgc 22 (some 260) rfl (fun K hK => ?_)
     (refine step_append_fine rfl (.tmp 242) (.tmp 259) _ rfl (r + 1) 92 i0 _ 3 24 Tryz.underlying88 hi0 hz0 hz1 hz2 rfl g.cv g.f.code.length (codC g.f.code) rfl ((HR.out.grow (bal F3.out.2.2.1 _)).own.own _ HROW.out) (w5.heap.size + 1) (some ⟨w5.heap.size, 0, none⟩) 1 1 [.int .i8 n1, .int .i64 n2, .int .i64 n3] rfl (Sl.fresh w5 _ 3 _ rfl) (by intro u hu; simp only [List.mem_cons, List.not_mem_nil, or_false] at hu; rcases hu with rfl | rfl | rfl <;> rfl) (by decide) (by have := HB.out.i g (by rw [HL.out.1]; simp); unfold maxLen; omega) (by have := HB.out.i g (by rw [HL.out.1]; simp); omega) (by have := F3.out.2.2.1.size; simp only [World.size_alloc]; omega) ?_); (intro V' w6 ho6 ht6); (obtain ⟨AV', cV', rfl, _, _⟩ := own_shape ho6); (obtain ⟨cur, hcur⟩ : ∃ cur, Blk w gF 90 cur := own_blk (HR.out.own.own (rowF L) (rowF_in L)) (by show L.fv.ownBlock = _; rw [HL.out.2.2.2.2.1]; rfl)); have kF : Blk w6 gF 90 cur := (ht6.block (b := gF) ((hcur.below (bal F3.out.2.2.1 _) hcur.lt).lt) HAP.out).trans (hcur.below (bal F3.out.2.2.1 _) hcur.lt); have y7 : w6.cell? ⟨gF, m * 4 + 3, none⟩ = some g.cv := (World.cell?_of_block (a := ⟨gF, m * 4 + 3, none⟩) (ht6.block (b := gF) ((hcur.below (bal F3.out.2.2.1 _) hcur.lt).lt) HAP.out)).trans y6; have z7 := kF.frozen (m * 4 + 3); have hw6 : w6.heap[bw]? = W3.heap[bw]? := (ht6.block (b := bw) (Nat.lt_of_lt_of_le (lt_same F3.out.2.2.2 HCF.out.1) (by simp)) (HR.out.away HROW.out HCF.out.2.2.2.2.1)).trans ((Below.heap_alloc _ _ bw (lt_same F3.out.2.2.2 HCF.out.1)).trans F3.out.2.2.2)
     refine hK.out _ _ ?ss59 (fun hHeld2 => ?rr59)
     case ss59 => (try dsimp only); exact HSw.out _ hw6
     clear hK K
     clear hHeld
     have hHeld := hHeld2
     clear hHeld2
     try simp only [Act.put, rg1, rg2, rg3]
     refine rgt 23 261 rfl rfl hHeld ?_
     try simp only [Act.put, rg1, rg2, rg3]
     refine rgt 24 262 rfl rfl hHeld ?_
     try simp only [Act.put, rg1, rg2, rg3]
     refine rgc 25 (none) rfl (fun K hK => ?_)
     go_simp
     go_simp
     refine hK.out _ _ ?ss62 (fun hHeld2 => ?rr62)
     case ss62 => (try dsimp only); exact HSw.out _ ((Below.heap_setCell _ _ _ _ (by simp only [ne_eq]; have := HCF.out; have := HL.out.2.2.2.2.2.1; omega)).trans hw6)
     clear hK K
     clear hHeld
     have hHeld := hHeld2
     clear hHeld2
     try simp only [Act.put, rg1, rg2, rg3]
     refine wpAnyH_done (by kernel_rfl) ?_ _
     have hr7 := RAt.ins (i := ⟨n1, n2, n3⟩) (HR.out.grow (bal F3.out.2.2.1 _)) HL.out.1 (by rw [HL.out.2.1]; exact HL.out.2.2.2.2.1) ht6 ho6
     rw [HL.out.2.2.1] at hr7
     have hgr : r + 1 <= gF /\ gF < w.heap.size := HL.out.2.2.2.2.2.1
     have hk7 : Blk (w6.setCell ⟨gF, m * 4 + 3, none⟩ (.slice AV' (g.f.code.length + 1) cV')) cf 141 #[.bool ((opV o).isSome && (numV a).isSome && (numV b).isSome)] := by
      have h := F3.out.2.1
      rw [Bool.true_and] at h
      exact Blk.far ((ht6.block (b := cf) (h.alloc _).lt (HR.out.away HROW.out HCF.out.2.2.2.2.2)).trans (h.alloc _)) (show cf ≠ gF by have := HCF.out; omega) _
     have hb7 : Below r w (w6.setCell ⟨gF, m * 4 + 3, none⟩ (.slice AV' (g.f.code.length + 1) cV')) :=
      below_set (((bal F3.out.2.2.1 (.cells #[.int .i8 n1, .int .i64 n2, .int .i64 n3] 92)).mono (Nat.le_of_lt hrw)).trans ((HR.out.grow (bal F3.out.2.2.1 (.cells #[.int .i8 n1, .int .i64 n2, .int .i64 n3] 92))).but HROW.out ht6)) (by omega) _
     have hlb : LB { L with fns := F0 ++ [⟨g.ev, { g.f with code := g.f.code ++ [⟨n1, n2, n3⟩] }, .slice AV' (g.f.code.length + 1) cV'⟩] } (B + 1) := by
      obtain ⟨l1, l2, l3, l4, l5, l6⟩ := HB.out
      rw [HL.out.1] at l5 l6
      refine ⟨by simp only; omega, by simp only; omega, by simp only; omega, by simp only; omega, by simp only [List.length_append, List.length_singleton] at l5 ⊢; omega, fun g2 hg2 => ?_⟩
      rcases List.mem_append.1 hg2 with hg2 | hg2
      · have := l6 g2 (by simp [hg2]); omega
      ·
       have := l6 g (by simp)
       rw [List.mem_singleton.1 hg2]
       simp only [List.length_append, List.length_singleton]; omega
     have hi : rdItem (wordsP s) = insIt o a b := by rw [HWS.out]; unfold rdItem insIt; simp only; rw [if_neg (by decide), if_neg (by decide), if_neg (by decide), if_neg (by decide), if_neg (by decide), if_pos trivial]; (try rfl)
     obtain ⟨W7, hW7⟩ : ∃ X, w6.setCell ⟨gF, m * 4 + 3, none⟩ (.slice AV' (g.f.code.length + 1) cV') = X := ⟨_, rfl⟩
     rw [hW7] at hr7 hk7 hb7 ⊢
     have cr := (hr7.blk.cell 5).trans rfl
     have zr := hr7.blk.frozen 5
     have ck := (hk7.cell 0).trans rfl
     simp only [List.getElem?_toArray, List.getElem?_cons_zero, List.getElem?_cons_succ] at cr ck
     have h6 : ∀ i, insIt o a b = some i -> (CoL.code { L with fns := F0 ++ [⟨g.ev, { g.f with code := g.f.code ++ [⟨n1, n2, n3⟩] }, .slice AV' (g.f.code.length + 1) cV'⟩] }) = addI L.code i /\ stageI i = 5 := by
      intro i hi2
      rw [insIt_some F1.out.1 F2.out.1 F3.out.1 i hi2]
      refine ⟨?_, rfl⟩
      simp only [CoL.code, addI, HL.out.1, List.map_append, List.map_cons, List.map_nil, addIn_last]
     have H5 := Lib.hid (And.intro hr7 (And.intro hb7 (And.intro hlb (And.intro hi h6))))
     have HNE := Lib.hid (show ∀ i, insIt o a b = some i -> isIns i = true -> L.fns ≠ [] from fun i _ _ => by rw [HL.out.1]; simp)
     clear hr7 hb7 hlb hi h6 hk7 hW7 ht6 ho6 y2 y7 z7 kF hHeld hw6 q1 q2 q3 hcur hgr
     rcases hv : insIt o a b with _ | it0
     ·
      rw [<- insIt_is, hv] at ck
      simp only [Option.isSome_none] at ck
      have HV := Lib.hid hv
      clear hv
      go_wp2_with fail
      go_step3
      go_wp2_with fail
      (try rw [Exit.noGoto_ret])
      go_ret
      exact line_no (by rw [H5.out.2.2.2.1, HV.out]) H5.out.2.1
     ·
      rw [<- insIt_is, hv] at ck
      simp only [Option.isSome_some] at ck
      have HV := Lib.hid hv
      clear hv
      by_cases hs : st <= 5
      ·
       have hd : decide ((st : Int) <= 5) = true := by simp; omega
       have HS := Lib.hid hs
       clear hs
       go_wp2_with fail
       (try rw [Exit.noGoto_ret])
       go_ret
       exact line_yes (cf := cf) H5.out.2.2.2.1 H5.out.1 H5.out.2.2.1 H5.out.2.1 (by rw [HV.out]; rfl) H5.out.2.2.2.2 HNE.out HS.out
      ·
       have hd : decide ((st : Int) <= 5) = false := by simp; omega
       have HS := Lib.hid hs
       clear hs
       go_wp2_with fail
       go_step3
       go_wp2_with fail
       (try rw [Exit.noGoto_ret])
       go_ret
       exact line_late (cf := cf) H5.out.2.2.2.1 H5.out.2.1 H5.out.2.2.2.2 HS.out
    case br56 =>
     go_simp
     go_simp; have y6 := HY.out (w5.alloc (.cells #[.int .i8 n1, .int .i64 n2, .int .i64 n3] 92)) (bal F3.out.2.2.1 _)
     refine hK.out _ _ ?ss63 (fun hHeld2 => ?rr63)
     case ss63 => (try dsimp only); exact HSw.out _ ((Below.heap_alloc _ _ bw (lt_same F3.out.2.2.2 HCF.out.1)).trans F3.out.2.2.2)
     clear hK K
     clear hHeld
     have hHeld := hHeld2
     clear hHeld2
     try simp only [Act.put, rg1, rg2, rg3]
     refine rgc 4 (some 242) rfl (fun K hK => ?_)
     go_simp
     refine hK.out _ _ ?ss64 (fun hHeld2 => ?rr64)
     case ss64 => (try dsimp only); exact hHeld
     clear hK K
     clear hHeld2
     try simp only [Act.put, rg1, rg2, rg3]
     refine rgc 22 (some 260) rfl (fun K hK => ?_)
     (refine step_append_fine rfl (.tmp 242) (.tmp 259) _ rfl (r + 1) 92 i0 _ 3 24 Tryz.underlying88 hi0 hz0 hz1 hz2 rfl g.cv g.f.code.length (codC g.f.code) rfl ((HR.out.grow (bal F3.out.2.2.1 _)).own.own _ HROW.out) (w5.heap.size + 1) (some ⟨w5.heap.size, 0, none⟩) 1 1 [.int .i8 n1, .int .i64 n2, .int .i64 n3] rfl (Sl.fresh w5 _ 3 _ rfl) (by intro u hu; simp only [List.mem_cons, List.not_mem_nil, or_false] at hu; rcases hu with rfl | rfl | rfl <;> rfl) (by decide) (by have := HB.out.i g (by rw [HL.out.1]; simp); unfold maxLen; omega) (by have := HB.out.i g (by rw [HL.out.1]; simp); omega) (by have := F3.out.2.2.1.size; simp only [World.size_alloc]; omega) ?_); (intro V' w6 ho6 ht6); (obtain ⟨AV', cV', rfl, _, _⟩ := own_shape ho6); (obtain ⟨cur, hcur⟩ : ∃ cur, Blk w gF 90 cur := own_blk (HR.out.own.own (rowF L) (rowF_in L)) (by show L.fv.ownBlock = _; rw [HL.out.2.2.2.2.1]; rfl)); have kF : Blk w6 gF 90 cur := (ht6.block (b := gF) ((hcur.below (bal F3.out.2.2.1 _) hcur.lt).lt) HAP.out).trans (hcur.below (bal F3.out.2.2.1 _) hcur.lt); have y7 : w6.cell? ⟨gF, m * 4 + 3, none⟩ = some g.cv := (World.cell?_of_block (a := ⟨gF, m * 4 + 3, none⟩) (ht6.block (b := gF) ((hcur.below (bal F3.out.2.2.1 _) hcur.lt).lt) HAP.out)).trans y6; have z7 := kF.frozen (m * 4 + 3); have hw6 : w6.heap[bw]? = W3.heap[bw]? := (ht6.block (b := bw) (Nat.lt_of_lt_of_le (lt_same F3.out.2.2.2 HCF.out.1) (by simp)) (HR.out.away HROW.out HCF.out.2.2.2.2.1)).trans ((Below.heap_alloc _ _ bw (lt_same F3.out.2.2.2 HCF.out.1)).trans F3.out.2.2.2)
     refine hK.out _ _ ?ss65 (fun hHeld2 => ?rr65)
     case ss65 => (try dsimp only); exact HSw.out _ hw6
     clear hK K
     clear hHeld
     have hHeld := hHeld2
     clear hHeld2
     try simp only [Act.put, rg1, rg2, rg3]
     refine rgt 23 261 rfl rfl hHeld ?_
     try simp only [Act.put, rg1, rg2, rg3]
     refine rgt 24 262 rfl rfl hHeld ?_
     try simp only [Act.put, rg1, rg2, rg3]
     refine rgc 25 (none) rfl (fun K hK => ?_)
     go_simp
     go_simp
     refine hK.out _ _ ?ss68 (fun hHeld2 => ?rr68)
     case ss68 => (try dsimp only); exact HSw.out _ ((Below.heap_setCell _ _ _ _ (by simp only [ne_eq]; have := HCF.out; have := HL.out.2.2.2.2.2.1; omega)).trans hw6)
     clear hK K
     clear hHeld
     have hHeld := hHeld2
     clear hHeld2
     try simp only [Act.put, rg1, rg2, rg3]
     refine wpAnyH_done (by kernel_rfl) ?_ _
     have hr7 := RAt.ins (i := ⟨n1, n2, n3⟩) (HR.out.grow (bal F3.out.2.2.1 _)) HL.out.1 (by rw [HL.out.2.1]; exact HL.out.2.2.2.2.1) ht6 ho6
     rw [HL.out.2.2.1] at hr7
     have hgr : r + 1 <= gF /\ gF < w.heap.size := HL.out.2.2.2.2.2.1
     have hk7 : Blk (w6.setCell ⟨gF, m * 4 + 3, none⟩ (.slice AV' (g.f.code.length + 1) cV')) cf 141 #[.bool ((opV o).isSome && (numV a).isSome && (numV b).isSome)] := by
      have h := F3.out.2.1
      rw [Bool.true_and] at h
      exact Blk.far ((ht6.block (b := cf) (h.alloc _).lt (HR.out.away HROW.out HCF.out.2.2.2.2.2)).trans (h.alloc _)) (show cf ≠ gF by have := HCF.out; omega) _
     have hb7 : Below r w (w6.setCell ⟨gF, m * 4 + 3, none⟩ (.slice AV' (g.f.code.length + 1) cV')) :=
      below_set (((bal F3.out.2.2.1 (.cells #[.int .i8 n1, .int .i64 n2, .int .i64 n3] 92)).mono (Nat.le_of_lt hrw)).trans ((HR.out.grow (bal F3.out.2.2.1 (.cells #[.int .i8 n1, .int .i64 n2, .int .i64 n3] 92))).but HROW.out ht6)) (by omega) _
     have hlb : LB { L with fns := F0 ++ [⟨g.ev, { g.f with code := g.f.code ++ [⟨n1, n2, n3⟩] }, .slice AV' (g.f.code.length + 1) cV'⟩] } (B + 1) := by
      obtain ⟨l1, l2, l3, l4, l5, l6⟩ := HB.out
      rw [HL.out.1] at l5 l6
      refine ⟨by simp only; omega, by simp only; omega, by simp only; omega, by simp only; omega, by simp only [List.length_append, List.length_singleton] at l5 ⊢; omega, fun g2 hg2 => ?_⟩
      rcases List.mem_append.1 hg2 with hg2 | hg2
      · have := l6 g2 (by simp [hg2]); omega
      ·
       have := l6 g (by simp)
       rw [List.mem_singleton.1 hg2]
       simp only [List.length_append, List.length_singleton]; omega
     have hi : rdItem (wordsP s) = insIt o a b := by rw [HWS.out]; unfold rdItem insIt; simp only; rw [if_neg (by decide), if_neg (by decide), if_neg (by decide), if_neg (by decide), if_neg (by decide), if_pos trivial]; (try rfl)
     obtain ⟨W7, hW7⟩ : ∃ X, w6.setCell ⟨gF, m * 4 + 3, none⟩ (.slice AV' (g.f.code.length + 1) cV') = X := ⟨_, rfl⟩
     rw [hW7] at hr7 hk7 hb7 ⊢
     have cr := (hr7.blk.cell 5).trans rfl
     have zr := hr7.blk.frozen 5
     have ck := (hk7.cell 0).trans rfl
     simp only [List.getElem?_toArray, List.getElem?_cons_zero, List.getElem?_cons_succ] at cr ck
     have h6 : ∀ i, insIt o a b = some i -> (CoL.code { L with fns := F0 ++ [⟨g.ev, { g.f with code := g.f.code ++ [⟨n1, n2, n3⟩] }, .slice AV' (g.f.code.length + 1) cV'⟩] }) = addI L.code i /\ stageI i = 5 := by
      intro i hi2
      rw [insIt_some F1.out.1 F2.out.1 F3.out.1 i hi2]
      refine ⟨?_, rfl⟩
      simp only [CoL.code, addI, HL.out.1, List.map_append, List.map_cons, List.map_nil, addIn_last]
     have H5 := Lib.hid (And.intro hr7 (And.intro hb7 (And.intro hlb (And.intro hi h6))))
     have HNE := Lib.hid (show ∀ i, insIt o a b = some i -> isIns i = true -> L.fns ≠ [] from fun i _ _ => by rw [HL.out.1]; simp)
     clear hr7 hb7 hlb hi h6 hk7 hW7 ht6 ho6 y2 y7 z7 kF hHeld hw6 q1 q2 q3 hcur hgr
     rcases hv : insIt o a b with _ | it0
     ·
      rw [<- insIt_is, hv] at ck
      simp only [Option.isSome_none] at ck
      have HV := Lib.hid hv
      clear hv
      go_wp2_with fail
      go_step3
      go_wp2_with fail
      (try rw [Exit.noGoto_ret])
      go_ret
      exact line_no (by rw [H5.out.2.2.2.1, HV.out]) H5.out.2.1
     ·
      rw [<- insIt_is, hv] at ck
      simp only [Option.isSome_some] at ck
      have HV := Lib.hid hv
      clear hv
      by_cases hs : st <= 5
      ·
       have hd : decide ((st : Int) <= 5) = true := by simp; omega
       have HS := Lib.hid hs
       clear hs
       go_wp2_with fail
       (try rw [Exit.noGoto_ret])
       go_ret
       exact line_yes (cf := cf) H5.out.2.2.2.1 H5.out.1 H5.out.2.2.1 H5.out.2.1 (by rw [HV.out]; rfl) H5.out.2.2.2.2 HNE.out HS.out
      ·
       have hd : decide ((st : Int) <= 5) = false := by simp; omega
       have HS := Lib.hid hs
       clear hs
       go_wp2_with fail
       go_step3
       go_wp2_with fail
       (try rw [Exit.noGoto_ret])
       go_ret
       exact line_late (cf := cf) H5.out.2.2.2.1 H5.out.2.1 H5.out.2.2.2.2 HS.out
end Go.Proofs.YtobplngonkdbpaaGreatDoor.D
