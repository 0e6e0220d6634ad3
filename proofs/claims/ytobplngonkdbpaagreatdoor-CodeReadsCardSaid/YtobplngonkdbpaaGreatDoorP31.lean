/- Parts of this claim: AnK, AnL, AnM. -/
import Derived.Test.YtobplngonkdbpaaGreatDoorP30
import Derived.Test.YtobplngonkdbpaaGreatDoorP06
import Derived.Test.YtobplngonkdbpaaGreatDoorP19
import Derived.Test.YtobplngonkdbpaaGreatDoorP20
set_option linter.unusedVariables false
set_option linter.unusedSimpArgs false
/- AnK -/
namespace Go.Proofs.YtobplngonkdbpaaGreatDoor.D
open Go.RowKit
open Go.Proofs.YtobplngonkdbpaaGreatDoor.B
set_option linter.unusedVariables false
set_option linter.unusedSimpArgs false

theorem rd_ins2 (o a b : Bs) : rdItem ([] :: [o, a, b]) = insIt o a b := by
  unfold rdItem insIt; simp only; rw [if_neg (by decide), if_neg (by decide), if_neg (by decide), if_neg (by decide), if_neg (by decide), if_pos trivial]
  rfl
theorem rd_ins_no (rest : List Bs) (h : rest.length ≠ 3) : rdItem ([] :: rest) = none := by
  unfold rdItem; simp only; rw [if_neg (by decide), if_neg (by decide), if_neg (by decide), if_neg (by decide), if_neg (by decide), if_pos trivial]
  rcases rest with _ | ⟨a, _ | ⟨b, _ | ⟨c, _ | ⟨d, r⟩⟩⟩⟩
  · rfl
  · rfl
  · rfl
  · simp at h
  · rfl
theorem three_or (rest : List Bs) : (∃ o a b, rest = [o, a, b]) ∨ rest.length ≠ 3 := by
  rcases rest with _ | ⟨a, _ | ⟨b, _ | ⟨c, _ | ⟨d, r⟩⟩⟩⟩
  · right; simp
  · right; simp
  · right; simp
  · left; exact ⟨_, _, _, rfl⟩
  · right; simp
theorem stepW_ins_nofn {st : Nat} {C : Cod} {o a b : Bs} (h : C.fns = []) : stepW (st, C) ([] :: [o, a, b]) = none := by
  unfold stepW
  rw [rd_ins2]
  rcases hi : insIt o a b with _ | it
  · rfl
  · simp only
    unfold stepI
    rw [if_neg]
    rintro ⟨h1, _⟩
    unfold insIt at hi
    split at hi
    · injection hi with hi; subst hi; exact h1 rfl h
    · cases hi

set_option maxRecDepth 100000 in
set_option maxHeartbeats 4000000 in
theorem insM_any (r st B bw c : Nat) (L : CoL) (rest : List Bs) (w : World) (hr : RBt w r L st) (hB : LB L B) (hBb : B ≤ 1073741824) (hst : L.fns ≠ [] → st = 5) (hw : Wds w r L bw ([] :: rest)) :
    Calls Tryz.prog 113 #[.pointer (some ⟨r, 0, none⟩), .slice (some ⟨bw, 0, none⟩) (rest.length + 1) c] w fun e w' => LineA r st B L ([] :: rest) w e w' := by
  obtain ⟨i0, hi0, hz0, hz1, hz2⟩ := info_parts infoI
  have hrl := hr.blk.lt
  obtain ⟨AF, cF, hfv, hfc, _⟩ := own_shape (hr.own.own (rowF L) (rowF_in L))
  have hfv' : L.fv = .slice AF L.fns.length cF := hfv
  have y0 : w.cell? ⟨r, 0, none⟩ = some (.slice AF L.fns.length cF) := by rw [← hfv']; exact (hr.blk.cell 0).trans rfl
  have hnb := hB.f
  have wk : IntKind.i64.wrap ((L.fns.length : Int) - 1) = (L.fns.length : Int) - 1 := IntWalk.i64_in _ ⟨by omega, by omega⟩
  rcases three_or rest with ⟨o, a, b, rfl⟩ | hne
  rotate_left
  · have HN := Lib.hid (show stepW (st, L.code) ([] :: rest) = none from stepW_none (rd_ins_no rest hne))
    have g1 : (((rest.length : Int) + 1) != 4) = true := by simp; omega
    clear hw hr hB hne hst hfv hfv' hfc
    generalize L.fns.length = n at *
    go_enter Tryz.func113, Tryz.ntmps113
    go_wp2_with fail
    go_ret
    exact lineA_no HN.out (b0.mono (Nat.le_of_lt hrl))
  rcases List.eq_nil_or_concat L.fns with hL0 | ⟨F0, g, hL⟩
  · have HN := Lib.hid (show stepW (st, L.code) ([] :: [o, a, b]) = none from stepW_ins_nofn (by simp [CoL.code, hL0]))
    rw [hL0] at y0 wk
    simp only [List.length_nil] at y0 wk
    clear hw hr hB hst hfv hfv' hfc hL0
    go_enter Tryz.func113, Tryz.ntmps113
    go_wp2_with fail
    go_ret
    exact lineA_no HN.out (b0.mono (Nat.le_of_lt hrl))
  have hst5 : st = 5 := hst (by rw [hL]; simp)
  subst hst5
  obtain ⟨n, hn⟩ : ∃ n, L.fns.length = n := ⟨_, rfl⟩
  obtain ⟨m, hm⟩ : ∃ m, F0.length = m := ⟨_, rfl⟩
  have hnm : n = m + 1 := by rw [← hn, hL, ← hm]; simp
  obtain ⟨gF, hgFv⟩ : ∃ gF, L.fv = .slice (some ⟨gF, 0, none⟩) n cF := by
    rcases (hr.own.own (rowF L) (rowF_in L)).2 with ⟨_, h0⟩ | ⟨gF, cap, cur, h1, _⟩
    · exact absurd (show L.fns.length = 0 from h0) (by omega)
    · have h1' : L.fv = .slice (some ⟨gF, 0, none⟩) L.fns.length cap := h1
      rw [hfv'] at h1'
      injection h1' with e1 e2 e3
      exact ⟨gF, by rw [hfv', e1, hn]⟩
  have hgF := hr.own.lt (rowF_in L) gF (by show L.fv.ownBlock = _; rw [hgFv]; rfl)
  have hcell : ∀ j u, (L.fns.flatMap FuL.cells)[j]? = some u → w.cell? ⟨gF, j, none⟩ = some u := fun j u hu => by
    have h := hr.own.own (rowF L) (rowF_in L)
    have := h.cells (g := gF) (by show L.fv.ownBlock = _; rw [hgFv]; rfl) j u hu
    rwa [add_flat, Nat.zero_add] at this
  have y0' : w.cell? ⟨r, 0, none⟩ = some (.slice (some ⟨gF, 0, none⟩) n cF) := by rw [← hgFv]; exact (hr.blk.cell 0).trans rfl
  have en : IntKind.i64.wrap ((n : Int) - 1) = (m : Int) := by rw [IntWalk.i64_in _ ⟨by omega, by omega⟩]; omega
  have lm : (m : Int) < (n : Int) := by omega
  have lm2 : m < n := by omega
  have lm0 : ¬ ((m : Int) < 0) := by omega
  have HY := Lib.hid (show ∀ W, Below w.heap.size w W → W.cell? ⟨gF, m * 4 + 3, none⟩ = some g.cv from fun W hb => (hb.cell (p := ⟨gF, m * 4 + 3, none⟩) hgF.2).trans (hcell _ _ (by
    rw [hL, List.concat_eq_append, List.flatMap_append, ← hm, List.getElem?_append_right (by rw [fl_len]; omega), fl_len, show F0.length * 4 + 3 - F0.length * 4 = 3 by omega]; rfl)))
  have hL' : L.fns = F0 ++ [g] := by rw [hL, List.concat_eq_append]
  have q1 := hw.cell 1 o rfl
  have q2 := hw.cell 2 a rfl
  have q3 := hw.cell 3 b rfl
  have hlo := hw.len o (by simp)
  have hla := hw.len a (by simp)
  have hlb := hw.len b (by simp)
  have HO := Lib.hid (opA_any o w hlo)
  have HA := Lib.hid (fun W => numberA_any a (-9223372036854775808) 9223372036854775807 W hla)
  have HB2 := Lib.hid (fun W => numberA_any b (-9223372036854775808) 9223372036854775807 W hlb)
  have HR := Lib.hid hr
  have HW := Lib.hid hw
  have HB := Lib.hid hB
  have HL := Lib.hid (And.intro hL' (And.intro hn (And.intro hm (And.intro hnm (And.intro hgFv hgF)))))
  have HROW := Lib.hid (RAt.ins_row (L := L) hL')
  have HAP := Lib.hid (hr.ins_apart hL' (gF := gF) (by rw [hgFv]; rfl))
  unfold strV at q1 q2 q3 HO HA HB2
  clear hw hr hB hst hfv hfv' hfc hL hL' hn hm hnm hgFv hgF hcell y0 wk
  go_enter Tryz.func113, Tryz.ntmps113
  go_wp2_with fail
  (refine HO.out.mono ?_); rintro ev w2 ⟨n1, g1, rfl, hn1, hg1, hv1, hb2⟩
  have HV1 := Lib.hid (And.intro hg1 (And.intro hv1 (And.intro hb2 hn1)))
  have r2 : w2.cell? ⟨bw, 2, none⟩ = some (.string ⟨a.toArray⟩) := (HW.out.grow hb2).cell 2 a rfl
  have r3 : w2.cell? ⟨bw, 3, none⟩ = some (.string ⟨b.toArray⟩) := (HW.out.grow hb2).cell 3 b rfl
  clear hg1 hv1 hb2 hn1 q1 q2 q3 HO
  go_wp2_with fail
  (refine (HA.out w2).mono ?_); rintro ev w3 ⟨n2, g2, rfl, hn2, hg2, hv2, rfl⟩
  rw [numV_all] at hg2 hv2
  have HV2 := Lib.hid (And.intro hg2 (And.intro hv2 hn2))
  clear hg2 hv2 hn2 HA
  go_wp2_with fail
  (refine (HB2.out w2).mono ?_); rintro ev w3 ⟨n3, g3, rfl, hn3, hg3, hv3, rfl⟩
  rw [numV_all] at hg3 hv3
  have HV3 := Lib.hid (And.intro hg3 (And.intro hv3 hn3))
  clear hg3 hv3 hn3 HB2 r2 r3
  go_upto_region 7 with fail
  have HR2 := Lib.hid (HR.out.grow HV1.out.2.2.1)
  have x0 : w2.cell? ⟨r, 0, none⟩ = some (.slice (some ⟨gF, 0, none⟩) n cF) := by rw [← HL.out.2.2.2.2.1]; exact (HR2.out.blk.cell 0).trans rfl
  have y2 : w2.cell? ⟨gF, m * 4 + 3, none⟩ = some g.cv := HY.out w2 HV1.out.2.2.1
  have y3 : w2.drew.cell? ⟨gF, m * 4 + 3, none⟩ = some g.cv := HY.out w2.drew (bdr HV1.out.2.2.1 1)
  have y4 : (w2.alloc (.cells #[.int .i8 n1, .int .i64 n2, .int .i64 n3] 92)).cell? ⟨gF, m * 4 + 3, none⟩ = some g.cv := HY.out _ (bal HV1.out.2.2.1 _)
  have HR8 := Lib.hid (show RBt (w2.drew.alloc (.cells #[.int .i8 n1, .int .i64 n2, .int .i64 n3] 92)) r L 5 from HR2.out.drew.grow (bal b0 _))
  have HSZ := Lib.hid (show r + 1 ≤ w2.heap.size ∧ gF < w2.heap.size ∧ r < gF from ⟨HR2.out.blk.lt, Nat.lt_of_lt_of_le HL.out.2.2.2.2.2.2 HV1.out.2.2.1.size, HL.out.2.2.2.2.2.1⟩)
  have HX8 := Lib.hid (show (w2.drew.alloc (.cells #[.int .i8 n1, .int .i64 n2, .int .i64 n3] 92)).cell? ⟨r, 0, none⟩ = some (.slice (some ⟨gF, 0, none⟩) n cF) by rw [← HL.out.2.2.2.2.1]; exact (HR8.out.blk.cell 0).trans rfl)
  refine wp_region_held_drew (S := (fun W' => W'.cell? ⟨r, 0, none⟩ = some (.slice (some ⟨gF, 0, none⟩) n cF))) (by kernel_rfl) ?ss1 (fun hHeld => ?rr1)
  case ss1 => (try dsimp only); exact x0
  refine rgt 0 47 rfl rfl hHeld ?_
  try simp only [Act.put, rg1, rg2, rg3]
  refine rgt 1 48 rfl rfl hHeld ?_
  try simp only [Act.put, rg1, rg2, rg3]
  refine rgt 2 49 rfl rfl hHeld ?_
  try simp only [Act.put, rg1, rg2, rg3]
  refine rgt 3 50 rfl rfl hHeld ?_
  try simp only [Act.put, rg1, rg2, rg3]
  refine rgt 4 51 rfl rfl hHeld ?_
  try simp only [Act.put, rg1, rg2, rg3]
  refine rgt 5 52 rfl rfl hHeld ?_
  try simp only [Act.put, rg1, rg2, rg3]
  refine rgt 6 53 rfl rfl hHeld ?_
  try simp only [Act.put, rg1, rg2, rg3]
  refine rgt 7 54 rfl rfl hHeld ?_
  try simp only [Act.put, rg1, rg2, rg3]
  refine rgt 8 55 rfl rfl hHeld ?_
  try simp only [Act.put, rg1, rg2, rg3]
  refine rgt 9 56 rfl rfl hHeld ?_
  try simp only [Act.put, rg1, rg2, rg3]
  refine rgt 10 57 rfl rfl hHeld ?_
  try simp only [Act.put, rg1, rg2, rg3]
  refine rgt 11 58 rfl rfl hHeld ?_
  try simp only [Act.put, rg1, rg2, rg3]
  refine rgt 12 59 rfl rfl hHeld ?_
  try simp only [Act.put, rg1, rg2, rg3]
  refine rgt 13 60 rfl rfl hHeld ?_
  try simp only [Act.put, rg1, rg2, rg3]
  refine rgt 15 62 rfl rfl hHeld ?_
  try simp only [Act.put, rg1, rg2, rg3]
  refine rgt 16 63 rfl rfl hHeld ?_
  try simp only [Act.put, rg1, rg2, rg3]
  refine rgt 17 64 rfl rfl hHeld ?_
  try simp only [Act.put, rg1, rg2, rg3]
  refine rgt 18 65 rfl rfl hHeld ?_
  try simp only [Act.put, rg1, rg2, rg3]
  refine wpAnyH_ready (rs := [14, 19]) (by kernel_rfl) (by simp) ?_
  refine AllReadyH.cons (o := ⟨some 61, _, _, _, _, _⟩) rfl (fun K hK => ?br20) (AllReadyH.cons (o := ⟨some 66, _, _, _, _, _⟩) rfl (fun K hK => ?br21) AllReadyH.nil)
  case br20 =>
    go_simp
    refine hK.out _ _ ?ss22 (fun hHeld2 => ?rr22)
    case ss22 => (try dsimp only); exact hHeld
    clear hK K
    clear hHeld2
    try simp only [Act.put, rg1, rg2, rg3]
    refine rgc 19 (some 66) rfl (fun K hK => ?_)
    go_simp
    go_simp
    refine hK.out _ _ ?ss23 (fun hHeld2 => ?rr23)
    case ss23 => (try dsimp only); exact HX8.out
    clear hK K
    clear hHeld
    have hHeld := hHeld2
    clear hHeld2
    try simp only [Act.put, rg1, rg2, rg3]
    refine rgc 20 (some 67) rfl (fun K hK => ?_)
    (refine step_append_fine rfl (.tmp 61) (.tmp 66) _ rfl (r + 1) 92 i0 _ 3 24 Tryz.underlying88 hi0 hz0 hz1 hz2 rfl g.cv g.f.code.length (codC g.f.code) rfl (HR8.out.own.own _ HROW.out) (w2.heap.size + 1) (some ⟨w2.heap.size, 0, none⟩) 1 1 [.int .i8 n1, .int .i64 n2, .int .i64 n3] rfl (Sl.fresh w2.drew _ 3 _ rfl) (by intro u hu; simp only [List.mem_cons, List.not_mem_nil, or_false] at hu; rcases hu with rfl | rfl | rfl <;> rfl) (by decide) (by have := HB.out.i g (by rw [HL.out.1]; simp); unfold maxLen; omega) (by have := HB.out.i g (by rw [HL.out.1]; simp); omega) (by have := HSZ.out.1; simp only [World.size_alloc, World.size_drew]; omega) ?_); (intro V' w6 ho6 ht6); (obtain ⟨AV', cV', rfl, _, _⟩ := own_shape ho6); (obtain ⟨cur, hcur⟩ : ∃ cur, Blk (w2.drew.alloc (.cells #[.int .i8 n1, .int .i64 n2, .int .i64 n3] 92)) gF 90 cur := own_blk (HR8.out.own.own (rowF L) (rowF_in L)) (by show L.fv.ownBlock = _; rw [HL.out.2.2.2.2.1]; rfl)); have kF : Blk w6 gF 90 cur := (ht6.block (b := gF) hcur.lt HAP.out).trans hcur; have y7 : w6.cell? ⟨gF, m * 4 + 3, none⟩ = some g.cv := (World.cell?_of_block (a := ⟨gF, m * 4 + 3, none⟩) (ht6.block (b := gF) hcur.lt HAP.out)).trans y4; have z7 := kF.frozen (m * 4 + 3); have x6 : w6.cell? ⟨r, 0, none⟩ = some (.slice (some ⟨gF, 0, none⟩) n cF) := (by rw [← HL.out.2.2.2.2.1]; exact ((HR8.out.far HROW.out ht6).cell 0).trans rfl); have H6 := Lib.hid (And.intro ho6 ht6); clear ho6 ht6 kF
    refine hK.out _ _ ?ss24 (fun hHeld2 => ?rr24)
    case ss24 => (try dsimp only); exact x6
    clear hK K
    clear hHeld
    have hHeld := hHeld2
    clear hHeld2
    try simp only [Act.put, rg1, rg2, rg3]
    refine rgt 21 68 rfl rfl hHeld ?_
    try simp only [Act.put, rg1, rg2, rg3]
    refine rgt 22 69 rfl rfl hHeld ?_
    try simp only [Act.put, rg1, rg2, rg3]
    refine rgc 23 (none) rfl (fun K hK => ?_)
    go_simp
    go_simp
    refine hK.out _ _ ?ss27 (fun hHeld2 => ?rr27)
    case ss27 => (try dsimp only); exact (World.cell?_setCell_other _ _ _ _ (fun e => by have := HSZ.out.2.2; injection e with e; omega)).trans x6
    clear hK K
    clear hHeld
    have hHeld := hHeld2
    clear hHeld2
    try simp only [Act.put, rg1, rg2, rg3]
    refine wpAnyH_done (by kernel_rfl) ?_ _
    have hfin := RBt.ins (i := ⟨n1, n2, n3⟩) HR8.out HL.out.1 (by rw [HL.out.2.1]; exact HL.out.2.2.2.2.1) H6.out.2 H6.out.1
    rw [HL.out.2.2.1] at hfin
    have hb7 : Below r w (w6.setCell ⟨gF, m * 4 + 3, none⟩ (.slice AV' (g.f.code.length + 1) cV')) :=
      below_set (((bal (bdr HV1.out.2.2.1 1) (.cells #[.int .i8 n1, .int .i64 n2, .int .i64 n3] 92)).mono (Nat.le_of_lt hrl)).trans (HR8.out.but HROW.out H6.out.2)) (by have := HSZ.out.2.2; omega) _
    have HFIN := Lib.hid (And.intro hfin hb7)
    have hlast : ∀ i, insIt o a b = some i → ∃ Ln : CoL, RBt (w6.setCell ⟨gF, m * 4 + 3, none⟩ (.slice AV' (g.f.code.length + 1) cV')) r Ln 5 ∧ stepW (5, L.code) ([] :: [o, a, b]) = some (5, Ln.code) ∧ LB Ln (B + 1) := by
      intro i hi
      refine ⟨_, hfin, ?_, ?_⟩
      · rw [stepW_some (it := i) (by rw [rd_ins2]; exact hi) (fun _ => by simp [CoL.code, HL.out.1]) (by rw [insIt_some HV1.out.2.1 HV2.out.2.1 HV3.out.2.1 i hi]; exact Nat.le_refl 5), insIt_some HV1.out.2.1 HV2.out.2.1 HV3.out.2.1 i hi]
        simp only [CoL.code, addI, stageI, HL.out.1, List.map_append, List.map_cons, List.map_nil, addIn_last]
      · obtain ⟨l1, l2, l3, l4, l5, l6⟩ := HB.out
        rw [HL.out.1] at l5 l6
        refine ⟨by simp only; omega, by simp only; omega, by simp only; omega, by simp only; omega, by simp only [List.length_append, List.length_singleton] at l5 ⊢; omega, fun g2 hg2 => ?_⟩
        rcases List.mem_append.1 hg2 with hg2 | hg2
        · have := l6 g2 (by simp [hg2]); omega
        · have := l6 g (by simp)
          rw [List.mem_singleton.1 hg2]
          simp only [List.length_append, List.length_singleton]; omega
    have HLAST := Lib.hid hlast
    clear hfin hb7 hHeld hlast x0 y2 y3 y4 y7 z7 x6 hcur
    have HIS := Lib.hid (insIt_is o a b)
    cases g1 with
    | false =>
      have HN := Lib.hid (show stepW (5, L.code) ([] :: [o, a, b]) = none from stepW_none (by rw [rd_ins2]; exact isNone (by rw [HIS.out, ← HV1.out.1]; rfl)))
      go_wp2_with fail
      go_ret
      exact lineA_no HN.out HFIN.out.2
    | true =>
      cases g2 with
      | false =>
        have HN := Lib.hid (show stepW (5, L.code) ([] :: [o, a, b]) = none from stepW_none (by rw [rd_ins2]; exact isNone (by rw [HIS.out, ← HV1.out.1, ← HV2.out.1]; rfl)))
        go_wp2_with fail
        go_ret
        exact lineA_no HN.out HFIN.out.2
      | true =>
        go_wp2_with fail
        go_ret
        cases g3 with
        | false => exact lineA_no (stepW_none (by rw [rd_ins2]; exact isNone (by rw [HIS.out, ← HV1.out.1, ← HV2.out.1, ← HV3.out.1]; rfl))) HFIN.out.2
        | true =>
          obtain ⟨i, hi⟩ := Option.isSome_iff_exists.1 (show (insIt o a b).isSome = true by rw [HIS.out, ← HV1.out.1, ← HV2.out.1, ← HV3.out.1]; rfl)
          obtain ⟨Ln, k1, k2, k3⟩ := HLAST.out i hi
          exact lineA_ok k2 k1 k3 HFIN.out.2
  case br21 =>
    go_simp
    go_simp
    refine hK.out _ _ ?ss28 (fun hHeld2 => ?rr28)
    case ss28 => (try dsimp only); exact HX8.out
    clear hK K
    clear hHeld
    have hHeld := hHeld2
    clear hHeld2
    try simp only [Act.put, rg1, rg2, rg3]
    refine rgc 14 (some 61) rfl (fun K hK => ?_)
    go_simp
    refine hK.out _ _ ?ss29 (fun hHeld2 => ?rr29)
    case ss29 => (try dsimp only); exact hHeld
    clear hK K
    clear hHeld2
    try simp only [Act.put, rg1, rg2, rg3]
    refine rgc 20 (some 67) rfl (fun K hK => ?_)
    (refine step_append_fine rfl (.tmp 61) (.tmp 66) _ rfl (r + 1) 92 i0 _ 3 24 Tryz.underlying88 hi0 hz0 hz1 hz2 rfl g.cv g.f.code.length (codC g.f.code) rfl (HR8.out.own.own _ HROW.out) (w2.heap.size + 1) (some ⟨w2.heap.size, 0, none⟩) 1 1 [.int .i8 n1, .int .i64 n2, .int .i64 n3] rfl (Sl.fresh w2.drew _ 3 _ rfl) (by intro u hu; simp only [List.mem_cons, List.not_mem_nil, or_false] at hu; rcases hu with rfl | rfl | rfl <;> rfl) (by decide) (by have := HB.out.i g (by rw [HL.out.1]; simp); unfold maxLen; omega) (by have := HB.out.i g (by rw [HL.out.1]; simp); omega) (by have := HSZ.out.1; simp only [World.size_alloc, World.size_drew]; omega) ?_); (intro V' w6 ho6 ht6); (obtain ⟨AV', cV', rfl, _, _⟩ := own_shape ho6); (obtain ⟨cur, hcur⟩ : ∃ cur, Blk (w2.drew.alloc (.cells #[.int .i8 n1, .int .i64 n2, .int .i64 n3] 92)) gF 90 cur := own_blk (HR8.out.own.own (rowF L) (rowF_in L)) (by show L.fv.ownBlock = _; rw [HL.out.2.2.2.2.1]; rfl)); have kF : Blk w6 gF 90 cur := (ht6.block (b := gF) hcur.lt HAP.out).trans hcur; have y7 : w6.cell? ⟨gF, m * 4 + 3, none⟩ = some g.cv := (World.cell?_of_block (a := ⟨gF, m * 4 + 3, none⟩) (ht6.block (b := gF) hcur.lt HAP.out)).trans y4; have z7 := kF.frozen (m * 4 + 3); have x6 : w6.cell? ⟨r, 0, none⟩ = some (.slice (some ⟨gF, 0, none⟩) n cF) := (by rw [← HL.out.2.2.2.2.1]; exact ((HR8.out.far HROW.out ht6).cell 0).trans rfl); have H6 := Lib.hid (And.intro ho6 ht6); clear ho6 ht6 kF
    refine hK.out _ _ ?ss30 (fun hHeld2 => ?rr30)
    case ss30 => (try dsimp only); exact x6
    clear hK K
    clear hHeld
    have hHeld := hHeld2
    clear hHeld2
    try simp only [Act.put, rg1, rg2, rg3]
    refine rgt 21 68 rfl rfl hHeld ?_
    try simp only [Act.put, rg1, rg2, rg3]
    refine rgt 22 69 rfl rfl hHeld ?_
    try simp only [Act.put, rg1, rg2, rg3]
    refine rgc 23 (none) rfl (fun K hK => ?_)
    go_simp
    go_simp
    refine hK.out _ _ ?ss33 (fun hHeld2 => ?rr33)
    case ss33 => (try dsimp only); exact (World.cell?_setCell_other _ _ _ _ (fun e => by have := HSZ.out.2.2; injection e with e; omega)).trans x6
    clear hK K
    clear hHeld
    have hHeld := hHeld2
    clear hHeld2
    try simp only [Act.put, rg1, rg2, rg3]
    refine wpAnyH_done (by kernel_rfl) ?_ _
    have hfin := RBt.ins (i := ⟨n1, n2, n3⟩) HR8.out HL.out.1 (by rw [HL.out.2.1]; exact HL.out.2.2.2.2.1) H6.out.2 H6.out.1
    rw [HL.out.2.2.1] at hfin
    have hb7 : Below r w (w6.setCell ⟨gF, m * 4 + 3, none⟩ (.slice AV' (g.f.code.length + 1) cV')) :=
      below_set (((bal (bdr HV1.out.2.2.1 1) (.cells #[.int .i8 n1, .int .i64 n2, .int .i64 n3] 92)).mono (Nat.le_of_lt hrl)).trans (HR8.out.but HROW.out H6.out.2)) (by have := HSZ.out.2.2; omega) _
    have HFIN := Lib.hid (And.intro hfin hb7)
    have hlast : ∀ i, insIt o a b = some i → ∃ Ln : CoL, RBt (w6.setCell ⟨gF, m * 4 + 3, none⟩ (.slice AV' (g.f.code.length + 1) cV')) r Ln 5 ∧ stepW (5, L.code) ([] :: [o, a, b]) = some (5, Ln.code) ∧ LB Ln (B + 1) := by
      intro i hi
      refine ⟨_, hfin, ?_, ?_⟩
      · rw [stepW_some (it := i) (by rw [rd_ins2]; exact hi) (fun _ => by simp [CoL.code, HL.out.1]) (by rw [insIt_some HV1.out.2.1 HV2.out.2.1 HV3.out.2.1 i hi]; exact Nat.le_refl 5), insIt_some HV1.out.2.1 HV2.out.2.1 HV3.out.2.1 i hi]
        simp only [CoL.code, addI, stageI, HL.out.1, List.map_append, List.map_cons, List.map_nil, addIn_last]
      · obtain ⟨l1, l2, l3, l4, l5, l6⟩ := HB.out
        rw [HL.out.1] at l5 l6
        refine ⟨by simp only; omega, by simp only; omega, by simp only; omega, by simp only; omega, by simp only [List.length_append, List.length_singleton] at l5 ⊢; omega, fun g2 hg2 => ?_⟩
        rcases List.mem_append.1 hg2 with hg2 | hg2
        · have := l6 g2 (by simp [hg2]); omega
        · have := l6 g (by simp)
          rw [List.mem_singleton.1 hg2]
          simp only [List.length_append, List.length_singleton]; omega
    have HLAST := Lib.hid hlast
    clear hfin hb7 hHeld hlast x0 y2 y3 y4 y7 z7 x6 hcur
    have HIS := Lib.hid (insIt_is o a b)
    cases g1 with
    | false =>
      have HN := Lib.hid (show stepW (5, L.code) ([] :: [o, a, b]) = none from stepW_none (by rw [rd_ins2]; exact isNone (by rw [HIS.out, ← HV1.out.1]; rfl)))
      go_wp2_with fail
      go_ret
      exact lineA_no HN.out HFIN.out.2
    | true =>
      cases g2 with
      | false =>
        have HN := Lib.hid (show stepW (5, L.code) ([] :: [o, a, b]) = none from stepW_none (by rw [rd_ins2]; exact isNone (by rw [HIS.out, ← HV1.out.1, ← HV2.out.1]; rfl)))
        go_wp2_with fail
        go_ret
        exact lineA_no HN.out HFIN.out.2
      | true =>
        go_wp2_with fail
        go_ret
        cases g3 with
        | false => exact lineA_no (stepW_none (by rw [rd_ins2]; exact isNone (by rw [HIS.out, ← HV1.out.1, ← HV2.out.1, ← HV3.out.1]; rfl))) HFIN.out.2
        | true =>
          obtain ⟨i, hi⟩ := Option.isSome_iff_exists.1 (show (insIt o a b).isSome = true by rw [HIS.out, ← HV1.out.1, ← HV2.out.1, ← HV3.out.1]; rfl)
          obtain ⟨Ln, k1, k2, k3⟩ := HLAST.out i hi
          exact lineA_ok k2 k1 k3 HFIN.out.2
end Go.Proofs.YtobplngonkdbpaaGreatDoor.D

/- AnL -/
namespace Go.Proofs.YtobplngonkdbpaaGreatDoor.D
open Go.RowKit
open Go.Proofs.YtobplngonkdbpaaGreatDoor.B
set_option linter.unusedVariables false
set_option linter.unusedSimpArgs false

/-- What a line's reading answers and leaves. -/
def LineB (r st B : Nat) (L : CoL) (s : Bs) (w : World) (e : Ending) (w' : World) : Prop :=
  (∃ ok, e = .returned (.bool ok) ∧ (ok = false → stepV (st, L.code) s = none) ∧ (ok = true → ∃ L' st', stepV (st, L.code) s = some (st', L'.code) ∧ RBt w' r L' st' ∧ LB L' (B + 1))) ∧ Below r w w'
theorem lineB_of {r st B : Nat} {L : CoL} {s : Bs} {ws : List Bs} {w w1 w' : World} {e : Ending} (hc : cutW s = some ws) (hb : Below r w w1) (h : LineA r st B L ws w1 e w') : LineB r st B L s w e w' := by
  obtain ⟨⟨ok, he, h1, h2⟩, h3⟩ := h
  refine ⟨⟨ok, he, fun ho => ?_, fun ho => ?_⟩, hb.trans h3⟩
  · rw [stepV_cut, hc]; exact h1 ho
  · obtain ⟨L', st', h4, h5, h6⟩ := h2 ho
    exact ⟨L', st', by rw [stepV_cut, hc]; exact h4, h5, h6⟩
theorem lineB_no {r st B : Nat} {L : CoL} {s : Bs} {w w' : World} (h : stepV (st, L.code) s = none) (hb : Below r w w') : LineB r st B L s w (.returned (.bool false)) w' :=
  ⟨⟨false, rfl, fun _ => h, fun h => by cases h⟩, hb⟩
theorem lineA_eq {r st B : Nat} {L : CoL} {ws : List Bs} {w w' : World} {e : Ending} (h : LineA r st B L ws w e w') : ∃ ok, e = .returned (.bool ok) := by
  obtain ⟨⟨ok, he, _⟩, _⟩ := h
  exact ⟨ok, he⟩
theorem rd_other {w0 : Bs} {rest : List Bs} (k0 : w0 ≠ kNum) (k1 : w0 ≠ kText) (k2 : w0 ≠ kType) (k3 : w0 ≠ kCast) (k4 : w0 ≠ kFn) (k5 : w0 ≠ []) : rdItem (w0 :: rest) = none := by
  unfold rdItem; simp only; rw [if_neg k0, if_neg k1, if_neg k2, if_neg k3, if_neg k4, if_neg k5]

set_option maxRecDepth 100000 in
set_option maxHeartbeats 4000000 in
theorem lineA_any (r st B : Nat) (L : CoL) (s : Bs) (w : World) (hl : s.length ≤ 1073741824) (hr : RBt w r L st) (hB : LB L B) (hBb : B ≤ 1073741824) (hst : L.fns ≠ [] → st = 5) :
    Calls Tryz.prog 79 #[.pointer (some ⟨r, 0, none⟩), strV s] w fun e w' => LineB r st B L s w e w' := by
  have HC := Lib.hid (cutA_any s w hl)
  have HR := Lib.hid hr
  have HB := Lib.hid hB
  have HST := Lib.hid hst
  have hrl := hr.blk.lt
  clear hr hB hst
  unfold strV at HC ⊢
  go_enter Tryz.func79, Tryz.ntmps79
  go_wp2_with fail
  (refine HC.out.mono ?_); rintro ev w1 (⟨v, ws, hc, rfl, hos⟩ | ⟨hc, rfl, hb⟩)
  rotate_left
  · have HN := Lib.hid (show stepV (st, L.code) s = none by rw [stepV_cut, hc])
    clear hc HC
    go_wp2_with fail
    go_ret
    exact lineB_no HN.out (hb.mono (Nat.le_of_lt hrl))
  obtain ⟨hj, hne⟩ := cutW_some hc
  obtain ⟨hjn, hjl⟩ := joinC_ge 32 ws
  rw [hj] at hjn hjl
  obtain ⟨w0, rest, rfl⟩ : ∃ a b, ws = a :: b := by cases ws with | nil => exact absurd rfl hne | cons a b => exact ⟨a, b, rfl⟩
  obtain ⟨_, bw, cw, rfl, hbw, hbw2, hcw, hq⟩ := wordsK hos.1 (show 0 < (w0 :: rest).length by simp)
  have hw : Wds w1 r L bw (w0 :: rest) := ⟨hq, hbw2, Nat.lt_of_lt_of_le hrl hbw, fun x hx e => by have := (HR.out.own.lt hx bw e).2; omega, fun x hx => Nat.le_trans (hjl x hx) hl, by omega⟩
  have hr1 := HR.out.grow hos.2
  have HBW := Lib.hid (And.intro hc (And.intro (hos.2.mono (Nat.le_of_lt hrl)) hw))
  have HR1 := Lib.hid hr1
  have c0 := hq 0 w0 rfl
  clear hw hr1 hos hq hj hjn hjl hne hbw hbw2 HC hc
  simp only [List.length_cons]
  by_cases k5 : w0 = []
  · subst k5
    have HM := Lib.hid (insM_any r st B bw cw L rest w1 HR1.out HB.out hBb HST.out HBW.out.2.2)
    have c0' : w1.cell? ⟨bw, 0, none⟩ = some (.string ⟨#[]⟩) := c0
    clear c0
    go_wp2_with fail
    (refine HM.out.mono ?_); intro ev w2 hq
    obtain ⟨ok, rfl⟩ := lineA_eq hq
    have HQ := Lib.hid (lineB_of HBW.out.1 HBW.out.2.1 hq)
    clear hq
    go_wp2_with fail
    go_ret
    exact HQ.out
  have e5 : (w0 == []) = false := by simpa using k5
  by_cases k0 : w0 = kNum
  · subst k0
    have HM := Lib.hid (numM_any r st B bw cw L rest w1 HR1.out HB.out hBb HBW.out.2.2)
    have c0' : w1.cell? ⟨bw, 0, none⟩ = some (.string ⟨#[110, 117, 109]⟩) := c0
    clear c0 e5
    go_wp2_with fail
    (refine HM.out.mono ?_); intro ev w2 hq
    obtain ⟨ok, rfl⟩ := lineA_eq hq
    have HQ := Lib.hid (lineB_of HBW.out.1 HBW.out.2.1 hq)
    clear hq
    go_wp2_with fail
    go_ret
    exact HQ.out
  have e0 : (w0 == [110, 117, 109]) = false := by simpa [kNum] using k0
  by_cases k1 : w0 = kText
  · subst k1
    have HM := Lib.hid (textM_any r st B bw cw L rest w1 HR1.out HB.out hBb HBW.out.2.2)
    have c0' : w1.cell? ⟨bw, 0, none⟩ = some (.string ⟨#[116, 101, 120, 116]⟩) := c0
    clear c0 e5 e0
    go_wp2_with fail
    (refine HM.out.mono ?_); intro ev w2 hq
    obtain ⟨ok, rfl⟩ := lineA_eq hq
    have HQ := Lib.hid (lineB_of HBW.out.1 HBW.out.2.1 hq)
    clear hq
    go_wp2_with fail
    go_ret
    exact HQ.out
  have e1 : (w0 == [116, 101, 120, 116]) = false := by simpa [kText] using k1
  by_cases k2 : w0 = kType
  · subst k2
    have HM := Lib.hid (typeM_any r st B bw cw L rest w1 HR1.out HB.out hBb HBW.out.2.2)
    have c0' : w1.cell? ⟨bw, 0, none⟩ = some (.string ⟨#[116, 121, 112, 101]⟩) := c0
    clear c0 e5 e0 e1
    go_wp2_with fail
    (refine HM.out.mono ?_); intro ev w2 hq
    obtain ⟨ok, rfl⟩ := lineA_eq hq
    have HQ := Lib.hid (lineB_of HBW.out.1 HBW.out.2.1 hq)
    clear hq
    go_wp2_with fail
    go_ret
    exact HQ.out
  have e2 : (w0 == [116, 121, 112, 101]) = false := by simpa [kType] using k2
  by_cases k3 : w0 = kCast
  · subst k3
    have HM := Lib.hid (castM_any r st B bw cw L rest w1 HR1.out HB.out hBb HBW.out.2.2)
    have c0' : w1.cell? ⟨bw, 0, none⟩ = some (.string ⟨#[99, 97, 115, 116]⟩) := c0
    clear c0 e5 e0 e1 e2
    go_wp2_with fail
    (refine HM.out.mono ?_); intro ev w2 hq
    obtain ⟨ok, rfl⟩ := lineA_eq hq
    have HQ := Lib.hid (lineB_of HBW.out.1 HBW.out.2.1 hq)
    clear hq
    go_wp2_with fail
    go_ret
    exact HQ.out
  have e3 : (w0 == [99, 97, 115, 116]) = false := by simpa [kCast] using k3
  by_cases k4 : w0 = kFn
  · subst k4
    have HM := Lib.hid (fnM_any r st B bw cw L rest w1 HR1.out HB.out hBb HBW.out.2.2)
    have c0' : w1.cell? ⟨bw, 0, none⟩ = some (.string ⟨#[102, 110]⟩) := c0
    clear c0 e5 e0 e1 e2 e3
    go_wp2_with fail
    (refine HM.out.mono ?_); intro ev w2 hq
    obtain ⟨ok, rfl⟩ := lineA_eq hq
    have HQ := Lib.hid (lineB_of HBW.out.1 HBW.out.2.1 hq)
    clear hq
    go_wp2_with fail
    go_ret
    exact HQ.out
  have e4 : (w0 == [102, 110]) = false := by simpa [kFn] using k4
  have HN := Lib.hid (show stepV (st, L.code) s = none by rw [stepV_cut, HBW.out.1]; exact stepW_none (rd_other k0 k1 k2 k3 k4 k5))
  unfold strV at c0
  clear k0 k1 k2 k3 k4 k5
  go_wp2_with fail
  go_ret
  exact lineB_no HN.out HBW.out.2.1
end Go.Proofs.YtobplngonkdbpaaGreatDoor.D

/- AnM -/
namespace Go.Proofs.YtobplngonkdbpaaGreatDoor.D
open Go.RowKit
open Go.Proofs.YtobplngonkdbpaaGreatDoor.B
set_option linter.unusedVariables false
set_option linter.unusedSimpArgs false

theorem lineC_no : ∀ l : Bs, (∀ x ∈ l, x.toNat ≠ 10) → lineC l = none
  | [], _ => rfl
  | c :: r, h => by rw [lineC, if_neg (h c (by simp)), lineC_no r fun x hx => h x (by simp [hx])]
theorem line_found {s : Bs} {a e : Nat} (h : clean (fun x => x.toNat ≠ 10) s a e) (hf : a ≤ e) (hc : s[e]? = some 10) : lineC (s.drop a) = some ((s.drop a).take (e - a), s.drop (e + 1)) := by
  conv => lhs; rw [drop_parts hf, drop_at hc]
  exact lineC_of _ _ h
theorem line_none {s : Bs} {a e : Nat} (h : clean (fun x => x.toNat ≠ 10) s a e) (he : e = s.length) : lineC (s.drop a) = none := by
  subst he
  refine lineC_no _ fun x hx => h x ?_
  rwa [List.take_of_length_le (by simp)]
theorem addIn_ne {l : List Fu} {i : In} (h : addIn l i ≠ []) : l ≠ [] := by
  rintro rfl; exact h rfl
theorem step_stage {st st' : Nat × Cod} {it : Item} (h : stepI st it = some st') (hs : st.2.fns ≠ [] → st.1 = 5) : st'.2.fns ≠ [] → st'.1 = 5 := by
  unfold stepI at h
  split at h
  · rename_i hc
    injection h with h
    subst h
    intro hf
    cases it with
    | fn a b c => rfl
    | ins a b c => rfl
    | num n => have := hs hf; have h2 := hc.2; rw [this] at h2; exact absurd h2 (by show ¬ 5 ≤ 1; omega)
    | text n => have := hs hf; have h2 := hc.2; rw [this] at h2; exact absurd h2 (by show ¬ 5 ≤ 2; omega)
    | type n => have := hs hf; have h2 := hc.2; rw [this] at h2; exact absurd h2 (by show ¬ 5 ≤ 3; omega)
    | cast a b c => have := hs hf; have h2 := hc.2; rw [this] at h2; exact absurd h2 (by show ¬ 5 ≤ 4; omega)
  · cases h
theorem stepV_stage {st st' : Nat × Cod} {s : Bs} (h : stepV st s = some st') (hs : st.2.fns ≠ [] → st.1 = 5) : st'.2.fns ≠ [] → st'.1 = 5 := by
  unfold stepV at h
  rcases hl : lineV s with _ | it
  · rw [hl] at h; cases h
  · rw [hl] at h; exact step_stage h hs

set_option maxRecDepth 100000 in
set_option maxHeartbeats 4000000 in
theorem readA_any (t : Bs) (w : World) (hl : t.length ≤ 1073741824) :
    Calls Tryz.prog 22 #[strV t] w fun e w' => ReadQ t w e w' := by
  have hz := str_size t
  obtain ⟨b2, hb2⟩ : ∃ b, w.heap.size = b := ⟨_, rfl⟩
  obtain ⟨W1, hW1⟩ : ∃ W1, (w.alloc (.cells #[.slice none 0 0, .slice none 0 0, .slice none 0 0, .slice none 0 0, .slice none 0 0] 27)).alloc (.cells #[.slice none 0 0, .slice none 0 0, .slice none 0 0, .slice none 0 0, .slice none 0 0, .int .i64 0] 123) = W1 := ⟨_, rfl⟩
  have hbl : Below w.heap.size w W1 := by rw [← hW1]; exact bal (bal b0 _) _
  have k2 : Blk W1 b2 27 nilV := by rw [← hW1, ← hb2]; exact (Blk.new _ _ _).alloc _
  have kr : RBt W1 (b2 + 1) .nil 0 := by
    refine ⟨?_, own_nil _ _⟩
    rw [← hW1, ← hb2]
    have := Blk.new (w.alloc (.cells #[.slice none 0 0, .slice none 0 0, .slice none 0 0, .slice none 0 0, .slice none 0 0] 27)) 123 #[.slice none 0 0, .slice none 0 0, .slice none 0 0, .slice none 0 0, .slice none 0 0, .int .i64 0]
    simp only [World.size_alloc] at this
    exact this
  have H1 := Lib.hid (And.intro hbl (And.intro k2 (And.intro kr hb2)))
  clear k2 kr
  unfold strV
  go_enter Tryz.func22, Tryz.ntmps22
  go_upto_region 3 with fail
  clear hb2 hW1 hbl
  go_wp2_with fail
  go_loopg [6, 7] t.length (fun gg u v wr => ∃ (a : Nat) (L : CoL) (st B : Nat), a ≤ t.length ∧ gg = t.length - a ∧ u = .int .i64 a ∧ v = .int .i64 (B + 1 : Nat) ∧ B ≤ a ∧ Hid (RBt wr (b2 + 1) L st ∧ LB L B ∧ (L.fns ≠ [] → st = 5) ∧ runV (t.drop a) (st, L.code) (B + 1) = readV t ∧ Below (b2 + 1) W1 wr))
  case atStart => exact ⟨0, .nil, 0, 0, by omega, rfl, rfl, rfl, Nat.le_refl 0, Lib.hid ⟨H1.out.2.2.1, lb_nil, fun h => absurd rfl h, rfl, Below.refl _ _⟩⟩
  case round =>
    obtain ⟨a, L, st, B, hal, rfl, rfl, rfl, hBa, HR⟩ := hrel
    have hbW : Below w.heap.size w wr := H1.out.1.trans (HR.out.2.2.2.2.mono (by have := H1.out.2.2.2; omega))
    have HBW := Lib.hid hbW
    have k2 : Blk wr b2 27 nilV := H1.out.2.1.below HR.out.2.2.2.2 (by omega)
    clear hbW
    by_cases hlt : a < t.length
    rotate_left
    · have g1 : ¬ ((a : Int) < (t.length : Int)) := by omega
      obtain ⟨A1, c1, e1, _⟩ := own_shape (HR.out.1.own.own (rowF L) (rowF_in L))
      obtain ⟨A2, c2, e2, _⟩ := own_shape (HR.out.1.own.own (rowC L) (rowC_in L))
      obtain ⟨A3, c3, e3, _⟩ := own_shape (HR.out.1.own.own (rowN L) (rowN_in L))
      obtain ⟨A4, c4, e4, _⟩ := own_shape (HR.out.1.own.own (rowT L) (rowT_in L))
      obtain ⟨A5, c5, e5, _⟩ := own_shape (HR.out.1.own.own (rowY L) (rowY_in L))
      have e1' : L.fv = .slice A1 L.fns.length c1 := e1
      have e2' : L.cv = .slice A2 L.casts.length c2 := e2
      have e3' : L.nv = .slice A3 L.nums.length c3 := e3
      have e4' : L.tv = .slice A4 L.texts.length c4 := e4
      have e5' : L.yv = .slice A5 L.types.length c5 := e5
      have kr := HR.out.1.blk
      rw [e1', e2', e3', e4', e5'] at kr
      have HE := Lib.hid (show L.vals.toArray = #[.slice A1 L.fns.length c1, .slice A2 L.casts.length c2, .slice A3 L.nums.length c3, .slice A4 L.texts.length c4, .slice A5 L.types.length c5] by unfold CoL.vals; rw [e1', e2', e3', e4', e5'])
      have x0 : wr.cell? ⟨b2 + 1, 0, none⟩ = some (.slice A1 L.fns.length c1) := (kr.cell 0).trans rfl
      have x1 : wr.cell? ⟨b2 + 1, 1, none⟩ = some (.slice A2 L.casts.length c2) := (kr.cell 1).trans rfl
      have x2 : wr.cell? ⟨b2 + 1, 2, none⟩ = some (.slice A3 L.nums.length c3) := (kr.cell 2).trans rfl
      have x3 : wr.cell? ⟨b2 + 1, 3, none⟩ = some (.slice A4 L.texts.length c4) := (kr.cell 3).trans rfl
      have x4 : wr.cell? ⟨b2 + 1, 4, none⟩ = some (.slice A5 L.types.length c5) := (kr.cell 4).trans rfl
      have HA := Lib.hid (show t.drop a = [] from List.drop_of_length_le (by omega))
      clear e1 e2 e3 e4 e5 e1' e2' e3' e4' e5' kr hlt
      go_wp2_with (refine wpList_store_row rfl 27 (.tmp 2) (.tmp 50) rfl b2 #[.slice A1 L.fns.length c1, .slice A2 L.casts.length c2, .slice A3 L.nums.length c3, .slice A4 L.texts.length c4, .slice A5 L.types.length c5] rfl rfl 27 nilV k2 (by kernel_rfl) rfl (by kernel_rfl) ?_)
      (try simp only [Exit.inBlock, Exit.then])
      refine bodyPost_ret (results_cell_tmp2 rfl _ _ _ b2 #[.slice A1 L.fns.length c1, .slice A2 L.casts.length c2, .slice A3 L.nums.length c3, .slice A4 L.texts.length c4, .slice A5 L.types.length c5] rfl (run_loadVar_row _ b2 27 _ _ (0, 0) _ (setRow_heap _ _ _ _ _ _ k2) Tryz.underlying27 rfl (by kernel_rfl))) rfl ⟨?_, .inl ⟨st, L.code, L, ?_, rfl, by rw [HE.out]; rfl, ?_⟩⟩
      · exact below_setRow HBW.out (by have := H1.out.2.2.2; omega) _
      · have h := HR.out.2.2.2.1
        rw [HA.out, runV_nil] at h
        exact h.symm
      · have h := HR.out.1.own
        refine ⟨fun x hx => own_base (own_but (cf := b2) (h.own x hx) (but_setRow (C := fun k => k = b2) (But.refl _ wr) (.inl rfl) _) (by omega)) (by have := H1.out.2.2.2; omega), h.ap⟩
    have g1 : ((a : Int) < (t.length : Int)) := by omega
    have HNE := Lib.hid (show t.drop a ≠ [] from fun h => by have := congrArg List.length h; simp at this; omega)
    clear hlt
    go_wp2_with fail
    go_loopg [8] (t.length - a) (fun g v wi => ∃ e : Nat, g = t.length - e ∧ v = .int .i64 e ∧ a ≤ e ∧ e ≤ t.length ∧ Hid (clean (fun x => x.toNat ≠ 10) t a e) ∧ wi = wr)
    case atStart => exact ⟨a, rfl, rfl, Nat.le_refl _, hal, Lib.hid (clean_self _ _), rfl⟩
    case round =>
      obtain ⟨e, rfl, rfl, hae, hel, HCl, rfl⟩ := hrel
      by_cases hend : e = t.length
      · have HN := Lib.hid (line_none HCl.out hend)
        have g5 : ¬ ((e : Int) < (t.length : Int)) := by omega
        have g6 : ((e : Int) == (t.length : Int)) = true := by simp; omega
        clear hend
        go_wp2_with (refine wpList_store_row rfl 27 (.tmp 2) (.tmp 41) rfl b2 nilV rfl rfl 27 nilV k2 (by kernel_rfl) rfl (by kernel_rfl) ?_)
        (try simp only [Exit.inBlock, Exit.then])
        refine bodyPost_ret (results_cell_tmp2 rfl _ _ _ b2 nilV rfl (run_loadVar_row _ b2 27 _ _ (0, 0) _ (setRow_heap _ _ _ _ _ _ k2) Tryz.underlying27 rfl (by kernel_rfl))) rfl ⟨?_, .inr ⟨B + 1, ?_, rfl⟩⟩
        · exact below_setRow HBW.out (by have := H1.out.2.2.2; omega) _
        · have h := HR.out.2.2.2.1
          rw [runV_none HNE.out HN.out] at h
          exact h.symm
      have helt : e < t.length := by omega
      have g5 : ((e : Int) < (t.length : Int)) := by omega
      have g6 : ((e : Int) == (t.length : Int)) = false := by simp; omega
      obtain ⟨x, hx⟩ : ∃ x, t[e]? = some x := ⟨_, List.getElem?_eq_getElem helt⟩
      have hek : e < (⟨t.toArray⟩ : ByteArray).size := by rw [hz]; exact helt
      have hate := str_at hx hek
      have hx255 := x.toNat_lt
      by_cases h10 : x = 10
      · subst h10
        have e10 : (((10 : UInt8).toNat : Int) != 10) = false := by decide
        have HLN := Lib.hid (line_found HCl.out hae hx)
        have hext := ext_at t a e
        obtain ⟨l, hl2⟩ : ∃ l, (t.drop a).take (e - a) = l := ⟨_, rfl⟩
        have hll : l.length ≤ 1073741824 := by rw [← hl2, List.length_take, List.length_drop]; omega
        rw [hl2] at hext HLN
        have gae : (a : Int) ≤ (e : Int) := by omega
        have gel : (e : Int) ≤ (t.length : Int) := by omega
        have HLC := Lib.hid (lineA_any (b2 + 1) st B L l wr hll HR.out.1 HR.out.2.1 (by omega) HR.out.2.2.1)
        unfold strV at HLC
        clear hx hend hl2
        go_wp2_with fail
        (refine HLC.out.mono ?_); rintro ev w3 ⟨⟨ok, rfl, ho1, ho2⟩, hb3⟩
        have HO := Lib.hid (And.intro ho1 (And.intro ho2 hb3))
        clear ho1 ho2 hb3 HLC
        cases ok with
        | false =>
          have k3 : Blk w3 b2 27 nilV := k2.below HO.out.2.2 (by omega)
          go_wp2_with (refine wpList_store_row rfl 27 (.tmp 2) (.tmp 41) rfl b2 nilV rfl rfl 27 nilV k3 (by kernel_rfl) rfl (by kernel_rfl) ?_)
          (try simp only [Exit.inBlock, Exit.then])
          refine bodyPost_ret (results_cell_tmp2 rfl _ _ _ b2 nilV rfl (run_loadVar_row _ b2 27 _ _ (0, 0) _ (setRow_heap _ _ _ _ _ _ k3) Tryz.underlying27 rfl (by kernel_rfl))) rfl ⟨?_, .inr ⟨B + 1, ?_, rfl⟩⟩
          · exact below_setRow (HBW.out.trans (HO.out.2.2.mono (by have := H1.out.2.2.2; omega))) (by have := H1.out.2.2.2; omega) _
          · have h := HR.out.2.2.2.1
            rw [runV_some HLN.out, HO.out.1 (by first | rfl | trivial)] at h
            exact h.symm
        | true =>
          obtain ⟨L', st', hs1, hs2, hs3⟩ := HO.out.2.1 rfl
          have HS := Lib.hid (And.intro hs1 (And.intro hs2 (And.intro hs3 (stepV_stage hs1 (fun h => HR.out.2.2.1 (by intro h2; apply h; simp [CoL.code, h2]))))))
          clear hs1 hs2 hs3
          go_wp2_with fail
          go_roundg (t.length - (e + 1))
          case measure => omega
          case rel =>
            refine ⟨e + 1, L', st', B + 1, by omega, rfl, by go_num, by go_num, by omega, Lib.hid ⟨HS.out.2.1, HS.out.2.2.1, fun h => HS.out.2.2.2 (by intro h2; apply h; simpa [CoL.code] using h2), ?_, ?_⟩⟩
            · have h := HR.out.2.2.2.1
              rw [runV_some HLN.out, HS.out.1] at h
              exact h
            · exact HR.out.2.2.2.2.trans HO.out.2.2
      · have e10 : ((x.toNat : Int) != 10) = true := by
          have : x.toNat ≠ 10 := fun e => h10 (UInt8.toNat_inj.1 e)
          simp; omega
        have HC2 := Lib.hid (clean_next HCl.out hae hx (fun e => h10 (UInt8.toNat_inj.1 e)))
        clear hx h10 hend
        go_wp2_with fail
        go_roundg (t.length - (e + 1))
        case measure => omega
        case rel => exact ⟨e + 1, rfl, by go_num, by omega, by omega, HC2, rfl⟩
end Go.Proofs.YtobplngonkdbpaaGreatDoor.D
