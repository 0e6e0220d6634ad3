/- Parts of this claim: AnJ. -/
import Derived.Test.YtobplngonkdbpaaGreatDoorP29
import Derived.Test.YtobplngonkdbpaaGreatDoorP06
import Derived.Test.YtobplngonkdbpaaGreatDoorP18
set_option linter.unusedVariables false
set_option linter.unusedSimpArgs false
/- AnJ -/
namespace Go.Proofs.YtobplngonkdbpaaGreatDoor.D
open Go.RowKit
open Go.Proofs.YtobplngonkdbpaaGreatDoor.B
set_option linter.unusedVariables false
set_option linter.unusedSimpArgs false

theorem rd_fn2 (rest : List Bs) : rdItem (kFn :: rest) = rdFn rest := by
  unfold rdItem; simp only; rw [if_neg (by decide), if_neg (by decide), if_neg (by decide), if_neg (by decide), if_pos trivial]
theorem rdFn_short {rest : List Bs} (h : rest.length < 3) : rdFn rest = none := by unfold rdFn; rw [if_pos (.inl h)]
theorem fn_parts {rest : List Bs} (h : 3 ≤ rest.length) : ∃ es x p q, rest = es ++ [x, p, q] := ⟨_, _, _, _, three rest h⟩
theorem rdFn_colon {es : List Bs} {x p q : Bs} (h : x ≠ [58]) : rdFn (es ++ [x, p, q]) = none := by
  unfold rdFn
  rw [if_pos]
  right
  have hl : (es ++ [x, p, q]).length = es.length + 3 := by simp
  rw [hl, Nat.add_sub_cancel, List.getElem?_append_right (Nat.le_refl _), Nat.sub_self]
  simpa using h
theorem fn_late {st : Nat × Cod} {es : List Bs} {p q : Bs} (h : ¬ st.1 ≤ 5) : stepW st (kFn :: (es ++ [[58], p, q])) = none := stepW_late (by
  intro it hit
  rw [rd_fn2, rdFn_eq] at hit
  unfold fnIt at hit
  split at hit
  · injection hit with hit; subst hit; exact h
  · cases hit)

set_option maxRecDepth 100000 in
set_option maxHeartbeats 4000000 in
theorem fnM_any (r st B bw c : Nat) (L : CoL) (rest : List Bs) (w : World) (hr : RBt w r L st) (hB : LB L B) (hBb : B ≤ 1073741824) (hw : Wds w r L bw (kFn :: rest)) :
    Calls Tryz.prog 117 #[.pointer (some ⟨r, 0, none⟩), .slice (some ⟨bw, 0, none⟩) (rest.length + 1) c] w fun e w' => LineA r st B L (kFn :: rest) w e w' := by
  obtain ⟨i0, hi0, hz0, hz1, hz2⟩ := info_parts infoF
  obtain ⟨i1, hi1, hy0, hy1, hy2⟩ := info_parts info9
  have hrl := hr.blk.lt
  by_cases hne : rest.length < 3
  · have HN := Lib.hid (show stepW (st, L.code) (kFn :: rest) = none from stepW_none (by rw [rd_fn2]; exact rdFn_short hne))
    have g1 : ((rest.length : Int) + 1) < 4 := by omega
    clear hw hr hB hne
    go_enter Tryz.func117, Tryz.ntmps117
    go_wp2_with fail
    go_ret
    exact lineA_no HN.out (b0.mono (Nat.le_of_lt hrl))
  obtain ⟨es, x, p, q, rfl⟩ := fn_parts (rest := rest) (by omega)
  obtain ⟨M, hM⟩ : ∃ M, es.length = M := ⟨_, rfl⟩
  have hnum := hw.num
  simp only [List.length_cons, List.length_append, List.length_nil] at hnum
  obtain ⟨N, hN⟩ : ∃ N, M + 4 = N := ⟨_, rfl⟩
  obtain ⟨a3, ha3⟩ : ∃ a, M + 1 = a := ⟨_, rfl⟩
  obtain ⟨a2, ha2⟩ : ∃ a, M + 2 = a := ⟨_, rfl⟩
  obtain ⟨a1, ha1⟩ : ∃ a, M + 3 = a := ⟨_, rfl⟩
  have e3 : IntKind.i64.wrap ((N : Int) - 3) = (a3 : Int) := by rw [IntWalk.i64_in _ ⟨by omega, by omega⟩]; omega
  have e2 : IntKind.i64.wrap ((N : Int) - 2) = (a2 : Int) := by rw [IntWalk.i64_in _ ⟨by omega, by omega⟩]; omega
  have e1 : IntKind.i64.wrap ((N : Int) - 1) = (a1 : Int) := by rw [IntWalk.i64_in _ ⟨by omega, by omega⟩]; omega
  have l3 : (a3 : Int) < (N : Int) := by omega
  have l2 : (a2 : Int) < (N : Int) := by omega
  have l1 : (a1 : Int) < (N : Int) := by omega
  have g0 : ¬ ((N : Int) < 4) := by omega
  have hlen : (es ++ [x, p, q]).length + 1 = N := by rw [List.length_append, hM]; simp; omega
  rw [hlen]
  have hgx : (kFn :: (es ++ [x, p, q]))[a3]? = some x := by rw [← ha3, ← hM, List.getElem?_cons_succ, List.getElem?_append_right (by omega)]; simp
  have hgp : (kFn :: (es ++ [x, p, q]))[a2]? = some p := by rw [← ha2, ← hM, List.getElem?_cons_succ, List.getElem?_append_right (by omega)]; simp [show es.length + 1 - es.length = 1 by omega]
  have hgq : (kFn :: (es ++ [x, p, q]))[a1]? = some q := by rw [← ha1, ← hM, List.getElem?_cons_succ, List.getElem?_append_right (by omega)]; simp [show es.length + 2 - es.length = 2 by omega]
  have px := hw.cell a3 x hgx
  have hlp := hw.len p (List.mem_of_getElem? hgp)
  have hlq := hw.len q (List.mem_of_getElem? hgq)
  unfold strV at px
  by_cases hx : x = [58]
  rotate_left
  · have HN := Lib.hid (show stepW (st, L.code) (kFn :: (es ++ [x, p, q])) = none from stepW_none (by rw [rd_fn2]; exact rdFn_colon hx))
    have e58 : (x == [58]) = false := by simpa using hx
    clear hw hr hB hne hx hgx hgp hgq hnum hlen hN ha1 ha2 ha3 hM
    go_enter Tryz.func117, Tryz.ntmps117
    go_wp2_with fail
    go_ret
    exact lineA_no HN.out (b0.mono (Nat.le_of_lt hrl))
  subst hx
  by_cases hs : st ≤ 5
  rotate_left
  · have HA := Lib.hid (at_no r st 5 L w hr hs (by decide))
    have HN := Lib.hid (show stepW (st, L.code) (kFn :: (es ++ [[58], p, q])) = none from fn_late hs)
    clear hw hr hB hs hne hgx hgp hgq hnum hlen hN ha1 ha2 ha3 hM
    go_enter Tryz.func117, Tryz.ntmps117
    go_wp2_with fail
    (refine HA.out.mono ?_); rintro ev w1 ⟨rfl, rfl⟩
    go_wp2_with fail
    go_ret
    exact lineA_no HN.out (b0.mono (Nat.le_of_lt hrl))
  have HA := Lib.hid (at_ok r st 5 L w hr hs (by decide))
  obtain ⟨W1, hW1⟩ : ∃ W, w.setCell ⟨r, 5, none⟩ (.int .i64 (5 : Nat)) = W := ⟨_, rfl⟩
  have hr1 : RBt W1 r L 5 := by rw [← hW1]; exact hr.stage 5
  have hw3 := (hw.set 5 (.int .i64 (5 : Nat)))
  rw [hW1] at HA hw3
  have hbW : Below r w W1 := by rw [← hW1]; exact below_set (b0.mono (Nat.le_of_lt hrl)) (Nat.le_refl r) _
  have HS := Lib.hid (And.intro hs (And.intro hr1 (And.intro hbW (And.intro hrl hw3))))
  have HB := Lib.hid hB
  have HM := Lib.hid (And.intro hM (And.intro hN (And.intro ha1 (And.intro ha2 ha3))))
  have HG := Lib.hid (And.intro hgp hgq)
  have HNp := Lib.hid (fun W => bare_any p W hlp)
  have HNq := Lib.hid (fun W => bare_any q W hlq)
  have hMb : M ≤ 1073741822 := by omega
  unfold strV at HNp HNq
  clear hw hr hB hs hW1 hr1 hbW hw3 hrl hM hnum hne hgx hgp hgq hlen hN ha1 ha2 ha3
  go_enter Tryz.func117, Tryz.ntmps117
  go_wp2_with fail
  (refine HA.out.mono ?_); rintro ev wx ⟨rfl, rfl⟩
  go_upto_region 5 with fail
  obtain ⟨b9, hb9⟩ : ∃ b, W1.heap.size = b := ⟨_, rfl⟩
  obtain ⟨W4, hW4⟩ : ∃ W4, W1.alloc (.cells #[.slice none 0 0, .string ⟨#[]⟩, .string ⟨#[]⟩, .slice none 0 0] 90) = W4 := ⟨_, rfl⟩
  have H4 := Lib.hid (show Blk W4 b9 90 #[.slice none 0 0, .string ⟨#[]⟩, .string ⟨#[]⟩, .slice none 0 0] ∧ Below W1.heap.size W1 W4 ∧ W1.heap.size = b9 from ⟨by rw [← hW4, ← hb9]; exact Blk.new _ _ _, by rw [← hW4]; exact bal b0 _, hb9⟩)
  rw [hW4, hb9]
  clear hW4 hb9 HA px
  go_wp2_with fail
  go_loopg [7] M (fun gg i wr => ∃ (k : Nat) (V : Value) (E : List Bs), k ≤ M ∧ gg = M - k ∧ i = .int .i64 (k + 1 : Nat) ∧ Hid (Blk wr b9 90 #[V, .string ⟨#[]⟩, .string ⟨#[]⟩, .slice none 0 0] ∧ wr.ownsRow (b9 + 1) 9 1 V k (envC E) ∧ E.length = k ∧ allV unq (es.take k) = some E ∧ Below W1.heap.size W1 wr))
  case atStart => exact ⟨0, .slice none 0 0, [], by omega, rfl, rfl, Lib.hid ⟨H4.out.1, World.ownsRow_nil _ _ _ _, rfl, rfl, H4.out.2.1⟩⟩
  case round =>
    obtain ⟨k, V, E, hk, rfl, rfl, HP⟩ := hrel
    obtain ⟨AV, cV, rfl, hc1, hc2⟩ := own_shape HP.out.2.1
    have HWr := Lib.hid (HS.out.2.2.2.2.grow HP.out.2.2.2.2)
    have HRr := Lib.hid (HS.out.2.1.grow HP.out.2.2.2.2)
    by_cases hlt : k < M
    · obtain ⟨y, hy⟩ : ∃ y, es[k]? = some y := ⟨_, List.getElem?_eq_getElem (by rw [HM.out.1]; exact hlt)⟩
      have hmem : (kFn :: (es ++ [[58], p, q]))[k + 1]? = some y := by rw [List.getElem?_cons_succ, List.getElem?_append_left (by rw [HM.out.1]; exact hlt)]; exact hy
      have px : wr.cell? ⟨bw, k + 1, none⟩ = some (.string ⟨y.toArray⟩) := HWr.out.cell (k + 1) y hmem
      have hxl := HWr.out.len y (List.mem_of_getElem? hmem)
      have HC := Lib.hid (bare_any y wr hxl)
      have HX := Lib.hid hy
      have g1 : (k : Int) + 1 < (a3 : Int) := by have := HM.out; omega
      have g2 : (k : Int) + 1 < (N : Int) := by have := HM.out; omega
      unfold strV at HC
      clear hy hxl hmem
      go_wp2_with fail
      (refine HC.out.mono ?_); rintro ev w5 ⟨bv, g, rfl, hg, hv, hb5⟩
      have HV := Lib.hid (And.intro hg (And.intro hv (bl HP.out.2.2.2.2 hb5)))
      have k5 := HP.out.1.below hb5 HP.out.1.lt
      have HK5 := Lib.hid k5
      have HO5 := Lib.hid (own_below HP.out.2.1 hb5)
      clear hg hv hb5 HC
      unfold strV
      cases g with
      | false =>
        have HN := Lib.hid (show stepW (st, L.code) (kFn :: (es ++ [[58], p, q])) = none from stepW_none (by
          rw [rd_fn2, rdFn_eq]; unfold fnIt
          rw [allV_cut unq HX.out (isNone HV.out.1)]))
        clear k5
        go_wp2_with fail
        go_ret
        exact lineA_no HN.out (HS.out.2.2.1.trans (HV.out.2.2.mono (Nat.le_of_lt HS.out.2.1.blk.lt)))
      | true =>
        have hcn := isSome HV.out.1 HV.out.2.1
        have HD := Lib.hid (allV_step unq HX.out HP.out.2.2.2.1 hcn)
        have y2 : w5.cell? ⟨b9, 0, none⟩ = some (.slice AV k cV) := (k5.cell 0).trans rfl
        have y3 : (w5.alloc (.cells #[.string ⟨bv.toArray⟩] 9)).cell? ⟨b9, 0, none⟩ = some (.slice AV k cV) := ((k5.alloc _).cell 0).trans rfl
        have HB6 := Lib.hid (show b9 + 1 ≤ w5.heap.size from HK5.out.lt)
        clear hcn k5
        go_wp2_with (at_builtin; refine wpList_append_fine _ rfl (.tmp 49) (.tmp 51) _ rfl (b9 + 1) 9 i1 _ 1 16 Tryz.underlying25 hi1 hy0 hy1 hy2 rfl (.slice AV k cV) k (envC E) rfl (own_below HO5.out (bal b0 _)) (w5.heap.size + 1) (some ⟨w5.heap.size, 0, none⟩) 1 1 [.string ⟨bv.toArray⟩] rfl (Sl.one w5 _ _) (fun u hu => by rw [List.mem_singleton.1 hu]; rfl) (by decide) (by unfold maxLen; omega) (by omega) (by have := HB6.out; simp only [World.size_alloc]; omega) ?_; intro V' w7 ho7 ht7; obtain ⟨AV', cV', rfl, _, _⟩ := own_shape ho7; have k7 : Blk w7 b9 90 #[.slice AV k cV, .string ⟨#[]⟩, .string ⟨#[]⟩, .slice none 0 0] := (ht7.block (b := b9) (by have := HB6.out; simp only [World.size_alloc]; omega) (fun e => by have := (HO5.out.lt b9 e).1; omega)).trans (HK5.out.alloc _); have y7 := (k7.cell 0).trans rfl; have z7 := k7.frozen 0; simp only [List.getElem?_toArray, List.getElem?_cons_zero, List.getElem?_cons_succ] at y7; have H7 := Lib.hid (And.intro k7 (And.intro ho7 ht7)); clear k7 ho7 ht7)
        go_roundg (M - (k + 1))
        case measure => omega
        case rel =>
          refine ⟨k + 1, .slice AV' (k + 1) cV', E ++ [bv], by omega, rfl, by go_num, Lib.hid ⟨H7.out.1.set_ 0 _, by rw [envC_app]; exact own_set_low H7.out.2.1 (Nat.lt_succ_self b9), by rw [List.length_append, List.length_singleton, HP.out.2.2.1], HD.out, ?_⟩⟩
          refine below_set ?_ (Nat.le_of_eq H4.out.2.2) _
          refine (HV.out.2.2.trans ((bal b0 (.cells #[.string ⟨bv.toArray⟩] 9)).mono HV.out.2.2.size)).trans ?_
          exact (H7.out.2.2.but (C := fun q => (Value.slice AV k cV).ownBlock = some q) (But.refl _ _) fun q hq _ => hq).below (by have := HV.out.2.2.size; simp only [World.size_alloc]; omega) fun q hq => by have := (HO5.out.lt q hq).1; have := H4.out.2.2; omega
    · obtain rfl : k = M := by omega
      have HD := Lib.hid (show allV unq es = some E by have := HP.out.2.2.2.1; rwa [List.take_of_length_le (by rw [HM.out.1]; exact Nat.le_refl _)] at this)
      have g1 : ¬ ((k : Int) + 1 < (a3 : Int)) := by have := HM.out; omega
      have pp : wr.cell? ⟨bw, a2, none⟩ = some (.string ⟨p.toArray⟩) := HWr.out.cell a2 p HG.out.1
      have hnp := HNp.out wr
      go_wp2_with fail
      (refine hnp.mono ?_); rintro ev w5 ⟨pv, pg, rfl, hpg, hpv, hb5⟩
      have HPV := Lib.hid (And.intro hpg (And.intro hpv hb5))
      have pq : w5.cell? ⟨bw, a1, none⟩ = some (.string ⟨q.toArray⟩) := (HWr.out.grow hb5).cell a1 q HG.out.2
      clear hpg hpv hb5 hnp pp
      unfold strV
      go_wp2_with fail
      (refine (HNq.out w5).mono ?_); rintro ev w6 ⟨qv, qg, rfl, hqg, hqv, hb6⟩
      have hb56 := bl HPV.out.2.2 hb6
      have HQV := Lib.hid (And.intro hqg (And.intro hqv hb56))
      have k6 := HP.out.1.below hb56 HP.out.1.lt
      have HK6 := Lib.hid k6
      have HO6 := Lib.hid (own_below HP.out.2.1 hb56)
      have HR6 := Lib.hid (HRr.out.grow hb56)
      have y61 := k6.frozen 1
      have x61 := (k6.cell 1).trans rfl
      have y62 := k6.frozen 2
      have x62 := (k6.cell 2).trans rfl
      simp only [List.getElem?_toArray, List.getElem?_cons_zero, List.getElem?_cons_succ] at x61 x62
      clear hqg hqv hb56 k6 pq HNq HNp
      unfold strV
      go_upto_region 16 with fail
      obtain ⟨W7, hW7⟩ : ∃ W7, (w6.setCell ⟨b9, 1, none⟩ (.string ⟨pv.toArray⟩)).setCell ⟨b9, 2, none⟩ (.string ⟨qv.toArray⟩) = W7 := ⟨_, rfl⟩
      have hbW7 : Below W1.heap.size W1 W7 := by rw [← hW7]; exact below_set (below_set (bl HP.out.2.2.2.2 HQV.out.2.2) (Nat.le_of_eq H4.out.2.2) _) (Nat.le_of_eq H4.out.2.2) _
      have hk7 : Blk W7 b9 90 #[.slice AV k cV, .string ⟨pv.toArray⟩, .string ⟨qv.toArray⟩, .slice none 0 0] := by rw [← hW7]; exact (HK6.out.set_ 1 _).set_ 2 _
      have ho7 : W7.ownsRow (b9 + 1) 9 1 (.slice AV k cV) k (envC E) := by rw [← hW7]; exact own_set_low (own_set_low HO6.out (Nat.lt_succ_self b9)) (Nat.lt_succ_self b9)
      have hr7 : RBt W7 r L 5 := HS.out.2.1.grow hbW7
      rw [hW7]
      have y1 : W7.cell? ⟨r, 0, none⟩ = some L.fv := (hr7.blk.cell 0).trans rfl
      have y2 : W7.drew.cell? ⟨r, 0, none⟩ = some L.fv := (hr7.drew.blk.cell 0).trans rfl
      have y4 : (W7.alloc (.cells #[.slice AV k cV, .string ⟨pv.toArray⟩, .string ⟨qv.toArray⟩, .slice none 0 0] 90)).cell? ⟨r, 0, none⟩ = some L.fv := (((hr7.grow (bal b0 _)).blk).cell 0).trans rfl
      have HR8 := Lib.hid (show RBt (W7.drew.alloc (.cells #[.slice AV k cV, .string ⟨pv.toArray⟩, .string ⟨qv.toArray⟩, .slice none 0 0] 90)) r L 5 from hr7.drew.grow (bal b0 _))
      have HO8 := Lib.hid (show (W7.drew.alloc (.cells #[.slice AV k cV, .string ⟨pv.toArray⟩, .string ⟨qv.toArray⟩, .slice none 0 0] 90)).ownsRow (b9 + 1) 9 1 (.slice AV k cV) k (envC E) from own_below ho7 (bal (bdr b0 1) _))
      have HSZ := Lib.hid (show r + 1 ≤ W7.heap.size ∧ b9 < W7.heap.size ∧ Below W1.heap.size W1 W7 ∧ Blk W7 b9 90 #[.slice AV k cV, .string ⟨pv.toArray⟩, .string ⟨qv.toArray⟩, .slice none 0 0] from ⟨hr7.blk.lt, hk7.lt, hbW7, hk7⟩)
      clear hW7 hbW7 hk7 ho7 hr7 x61 x62 y61 y62
      refine wp_region_held_drew (S := (fun W' => W'.heap[b9]? = W7.heap[b9]?)) (by kernel_rfl) ?ss1 (fun hHeld => ?rr1)
      case ss1 => (try dsimp only); exact rfl
      refine rgt 0 76 rfl rfl hHeld ?_
      try simp only [Act.put, rg1, rg2, rg3]
      refine rgt 1 77 rfl rfl hHeld ?_
      try simp only [Act.put, rg1, rg2, rg3]
      refine rgt 2 78 rfl rfl hHeld ?_
      try simp only [Act.put, rg1, rg2, rg3]
      refine rgt 3 79 rfl rfl hHeld ?_
      try simp only [Act.put, rg1, rg2, rg3]
      refine rgt 4 80 rfl rfl hHeld ?_
      try simp only [Act.put, rg1, rg2, rg3]
      refine rgt 6 82 rfl rfl hHeld ?_ (by intro wq hq; (try dsimp only at hq); exact exec_load_row _ _ b9 rfl _ #[.slice AV k cV, .string ⟨pv.toArray⟩, .string ⟨qv.toArray⟩, .slice none 0 0] (0, 0) _ (hq.trans HSZ.out.2.2.2) Tryz.underlying90 rfl (by kernel_rfl))
      try simp only [Act.put, rg1, rg2, rg3]
      refine wpAnyH_ready (rs := [5, 7]) (by kernel_rfl) (by simp) ?_
      refine AllReadyH.cons (o := ⟨some 81, _, _, _, _, _⟩) rfl (fun K hK => ?br8) (AllReadyH.cons (o := ⟨some 83, _, _, _, _, _⟩) rfl (fun K hK => ?br9) AllReadyH.nil)
      case br8 =>
        go_simp
        refine hK.out _ _ ?ss10 (fun hHeld2 => ?rr10)
        case ss10 => (try dsimp only); exact hHeld
        clear hK K
        clear hHeld2
        try simp only [Act.put, rg1, rg2, rg3]
        refine rgc 7 (some 83) rfl (fun K hK => ?_)
        go_simp
        go_simp
        refine hK.out _ _ ?ss11 (fun hHeld2 => ?rr11)
        case ss11 => (try dsimp only); exact (Below.heap_alloc _ _ b9 HSZ.out.2.1).trans hHeld
        clear hK K
        clear hHeld
        have hHeld := hHeld2
        clear hHeld2
        try simp only [Act.put, rg1, rg2, rg3]
        refine rgc 8 (some 84) rfl (fun K hK => ?_)
        (refine step_append_fine rfl (.tmp 81) (.tmp 83) _ rfl (r + 1) 90 i0 _ 4 80 Tryz.underlying22 hi0 hz0 hz1 hz2 rfl L.fv L.fns.length (L.fns.flatMap FuL.cells) rfl (HR8.out.own.own (rowF L) (rowF_in L)) (W7.heap.size + 1) (some ⟨W7.heap.size, 0, none⟩) 1 1 [.slice AV k cV, .string ⟨pv.toArray⟩, .string ⟨qv.toArray⟩, .slice none 0 0] rfl (Sl.fresh W7.drew _ 4 _ rfl) (by intro u hu; simp only [List.mem_cons, List.not_mem_nil, or_false] at hu; rcases hu with rfl | rfl | rfl | rfl <;> rfl) (by decide) (by have := HB.out.f; unfold maxLen; omega) (by have := HB.out.f; omega) (by have := HSZ.out.1; simp only [World.size_alloc, World.size_drew]; omega) ?_); (intro V' w8 ho8 ht8); (obtain ⟨AV', cV', rfl, _, _⟩ := own_shape ho8); have k8 := HR8.out.far (rowF_in L) ht8; have y5 := (k8.cell 0).trans rfl; have z5 := k8.frozen 0; simp only [List.getElem?_toArray, List.getElem?_cons_zero, List.getElem?_cons_succ] at y5; have H8 := Lib.hid (And.intro ho8 ht8); have h9b : w8.heap[b9]? = W7.heap[b9]? := (ht8.block (b := b9) (by have := HSZ.out.2.1; simp only [World.size_alloc, World.size_drew]; omega) (fun e => by have := (HS.out.2.1.own.lt (rowF_in L) b9 e).2; have := H4.out.2.2; omega)).trans (Below.heap_alloc _ _ b9 HSZ.out.2.1); clear ho8 ht8 k8
        refine hK.out _ _ ?ss12 (fun hHeld2 => ?rr12)
        case ss12 => (try dsimp only); exact h9b
        clear hK K
        clear hHeld
        have hHeld := hHeld2
        clear hHeld2
        try simp only [Act.put, rg1, rg2, rg3]
        refine rgt 9 85 rfl rfl hHeld ?_
        try simp only [Act.put, rg1, rg2, rg3]
        refine rgt 10 86 rfl rfl hHeld ?_
        try simp only [Act.put, rg1, rg2, rg3]
        refine rgt 11 87 rfl rfl hHeld ?_
        try simp only [Act.put, rg1, rg2, rg3]
        refine rgc 12 (none) rfl (fun K hK => ?_)
        go_simp
        go_simp
        refine hK.out _ _ ?ss16 (fun hHeld2 => ?rr16)
        case ss16 => (try dsimp only); exact (Below.heap_setCell _ _ _ _ (by have := H4.out.2.2; have := HS.out.2.1.blk.lt; simp only [ne_eq]; omega)).trans h9b
        clear hK K
        clear hHeld
        have hHeld := hHeld2
        clear hHeld2
        try simp only [Act.put, rg1, rg2, rg3]
        refine wpAnyH_done (by kernel_rfl) ?_ _
        have hfin : RBt (w8.setCell ⟨r, 0, none⟩ (.slice AV' (L.fns.length + 1) cV')) r { L with fns := L.fns ++ [⟨.slice AV k cV, ⟨E, pv, qv, []⟩, .slice none 0 0⟩], fv := .slice AV' (L.fns.length + 1) cV' } 5 :=
          HR8.out.func (b := b9 + 1) (by rw [HP.out.2.2.1]; exact HO8.out) (by have := H4.out.2.2; have := HS.out.2.1.blk.lt; omega) (fun x hx => Ap.fresh (N := b9 + 1) (fun b hb => by have := (HS.out.2.1.own.lt hx b hb).2; have := H4.out.2.2; omega) (fun b hb => (HO8.out.lt b hb).1)) H8.out.2 H8.out.1
        have hb8 : Below r w (w8.setCell ⟨r, 0, none⟩ (.slice AV' (L.fns.length + 1) cV')) :=
          below_set ((HS.out.2.2.1.trans ((bal (bdr HSZ.out.2.2.1 1) _).mono (Nat.le_of_lt HS.out.2.1.blk.lt))).trans (HR8.out.but (rowF_in L) H8.out.2)) (Nat.le_refl r) _
        have HFIN := Lib.hid (And.intro hfin hb8)
        clear hfin hb8 hHeld h9b y1 y2 y4 y5 z5
        cases pg with
        | false =>
          have HN := Lib.hid (show stepW (st, L.code) (kFn :: (es ++ [[58], p, q])) = none from stepW_none (by
            rw [rd_fn2, rdFn_eq]; unfold fnIt; rw [HD.out, isNone HPV.out.1]))
          go_wp2_with fail
          go_ret
          exact lineA_no HN.out HFIN.out.2
        | true =>
          go_wp2_with fail
          go_ret
          have hp2 := isSome HPV.out.1 HPV.out.2.1
          cases qg with
          | false => exact lineA_no (stepW_none (by rw [rd_fn2, rdFn_eq]; unfold fnIt; rw [HD.out, hp2, isNone HQV.out.1])) HFIN.out.2
          | true =>
            have hq2 := isSome HQV.out.1 HQV.out.2.1
            obtain ⟨l1, l2, l3, l4, l5, l6⟩ := HB.out
            refine lineA_ok (L' := { L with fns := L.fns ++ [⟨.slice AV k cV, ⟨E, pv, qv, []⟩, .slice none 0 0⟩], fv := .slice AV' (L.fns.length + 1) cV' }) (st' := 5) ?_ HFIN.out.1 ⟨?_, ?_, ?_, ?_, ?_, fun g hg => ?_⟩ HFIN.out.2
            · rw [stepW_some (it := .fn E pv qv) (by rw [rd_fn2, rdFn_eq]; unfold fnIt; rw [HD.out, hp2, hq2]) (fun h => by cases h) HS.out.1]
              simp [CoL.code, addI, stageI]
            all_goals first | omega | (simp only [List.length_append, List.length_singleton]; omega) | skip
            rcases List.mem_append.1 hg with hg | hg
            · have := l6 g hg; omega
            · rw [List.mem_singleton.1 hg]; simp
      case br9 =>
        go_simp
        go_simp
        refine hK.out _ _ ?ss17 (fun hHeld2 => ?rr17)
        case ss17 => (try dsimp only); exact (Below.heap_alloc _ _ b9 HSZ.out.2.1).trans hHeld
        clear hK K
        clear hHeld
        have hHeld := hHeld2
        clear hHeld2
        try simp only [Act.put, rg1, rg2, rg3]
        refine rgc 5 (some 81) rfl (fun K hK => ?_)
        go_simp
        refine hK.out _ _ ?ss18 (fun hHeld2 => ?rr18)
        case ss18 => (try dsimp only); exact hHeld
        clear hK K
        clear hHeld2
        try simp only [Act.put, rg1, rg2, rg3]
        refine rgc 8 (some 84) rfl (fun K hK => ?_)
        (refine step_append_fine rfl (.tmp 81) (.tmp 83) _ rfl (r + 1) 90 i0 _ 4 80 Tryz.underlying22 hi0 hz0 hz1 hz2 rfl L.fv L.fns.length (L.fns.flatMap FuL.cells) rfl (HR8.out.own.own (rowF L) (rowF_in L)) (W7.heap.size + 1) (some ⟨W7.heap.size, 0, none⟩) 1 1 [.slice AV k cV, .string ⟨pv.toArray⟩, .string ⟨qv.toArray⟩, .slice none 0 0] rfl (Sl.fresh W7.drew _ 4 _ rfl) (by intro u hu; simp only [List.mem_cons, List.not_mem_nil, or_false] at hu; rcases hu with rfl | rfl | rfl | rfl <;> rfl) (by decide) (by have := HB.out.f; unfold maxLen; omega) (by have := HB.out.f; omega) (by have := HSZ.out.1; simp only [World.size_alloc, World.size_drew]; omega) ?_); (intro V' w8 ho8 ht8); (obtain ⟨AV', cV', rfl, _, _⟩ := own_shape ho8); have k8 := HR8.out.far (rowF_in L) ht8; have y5 := (k8.cell 0).trans rfl; have z5 := k8.frozen 0; simp only [List.getElem?_toArray, List.getElem?_cons_zero, List.getElem?_cons_succ] at y5; have H8 := Lib.hid (And.intro ho8 ht8); have h9b : w8.heap[b9]? = W7.heap[b9]? := (ht8.block (b := b9) (by have := HSZ.out.2.1; simp only [World.size_alloc, World.size_drew]; omega) (fun e => by have := (HS.out.2.1.own.lt (rowF_in L) b9 e).2; have := H4.out.2.2; omega)).trans (Below.heap_alloc _ _ b9 HSZ.out.2.1); clear ho8 ht8 k8
        refine hK.out _ _ ?ss19 (fun hHeld2 => ?rr19)
        case ss19 => (try dsimp only); exact h9b
        clear hK K
        clear hHeld
        have hHeld := hHeld2
        clear hHeld2
        try simp only [Act.put, rg1, rg2, rg3]
        refine rgt 9 85 rfl rfl hHeld ?_
        try simp only [Act.put, rg1, rg2, rg3]
        refine rgt 10 86 rfl rfl hHeld ?_
        try simp only [Act.put, rg1, rg2, rg3]
        refine rgt 11 87 rfl rfl hHeld ?_
        try simp only [Act.put, rg1, rg2, rg3]
        refine rgc 12 (none) rfl (fun K hK => ?_)
        go_simp
        go_simp
        refine hK.out _ _ ?ss23 (fun hHeld2 => ?rr23)
        case ss23 => (try dsimp only); exact (Below.heap_setCell _ _ _ _ (by have := H4.out.2.2; have := HS.out.2.1.blk.lt; simp only [ne_eq]; omega)).trans h9b
        clear hK K
        clear hHeld
        have hHeld := hHeld2
        clear hHeld2
        try simp only [Act.put, rg1, rg2, rg3]
        refine wpAnyH_done (by kernel_rfl) ?_ _
        have hfin : RBt (w8.setCell ⟨r, 0, none⟩ (.slice AV' (L.fns.length + 1) cV')) r { L with fns := L.fns ++ [⟨.slice AV k cV, ⟨E, pv, qv, []⟩, .slice none 0 0⟩], fv := .slice AV' (L.fns.length + 1) cV' } 5 :=
          HR8.out.func (b := b9 + 1) (by rw [HP.out.2.2.1]; exact HO8.out) (by have := H4.out.2.2; have := HS.out.2.1.blk.lt; omega) (fun x hx => Ap.fresh (N := b9 + 1) (fun b hb => by have := (HS.out.2.1.own.lt hx b hb).2; have := H4.out.2.2; omega) (fun b hb => (HO8.out.lt b hb).1)) H8.out.2 H8.out.1
        have hb8 : Below r w (w8.setCell ⟨r, 0, none⟩ (.slice AV' (L.fns.length + 1) cV')) :=
          below_set ((HS.out.2.2.1.trans ((bal (bdr HSZ.out.2.2.1 1) _).mono (Nat.le_of_lt HS.out.2.1.blk.lt))).trans (HR8.out.but (rowF_in L) H8.out.2)) (Nat.le_refl r) _
        have HFIN := Lib.hid (And.intro hfin hb8)
        clear hfin hb8 hHeld h9b y1 y2 y4 y5 z5
        cases pg with
        | false =>
          have HN := Lib.hid (show stepW (st, L.code) (kFn :: (es ++ [[58], p, q])) = none from stepW_none (by
            rw [rd_fn2, rdFn_eq]; unfold fnIt; rw [HD.out, isNone HPV.out.1]))
          go_wp2_with fail
          go_ret
          exact lineA_no HN.out HFIN.out.2
        | true =>
          go_wp2_with fail
          go_ret
          have hp2 := isSome HPV.out.1 HPV.out.2.1
          cases qg with
          | false => exact lineA_no (stepW_none (by rw [rd_fn2, rdFn_eq]; unfold fnIt; rw [HD.out, hp2, isNone HQV.out.1])) HFIN.out.2
          | true =>
            have hq2 := isSome HQV.out.1 HQV.out.2.1
            obtain ⟨l1, l2, l3, l4, l5, l6⟩ := HB.out
            refine lineA_ok (L' := { L with fns := L.fns ++ [⟨.slice AV k cV, ⟨E, pv, qv, []⟩, .slice none 0 0⟩], fv := .slice AV' (L.fns.length + 1) cV' }) (st' := 5) ?_ HFIN.out.1 ⟨?_, ?_, ?_, ?_, ?_, fun g hg => ?_⟩ HFIN.out.2
            · rw [stepW_some (it := .fn E pv qv) (by rw [rd_fn2, rdFn_eq]; unfold fnIt; rw [HD.out, hp2, hq2]) (fun h => by cases h) HS.out.1]
              simp [CoL.code, addI, stageI]
            all_goals first | omega | (simp only [List.length_append, List.length_singleton]; omega) | skip
            rcases List.mem_append.1 hg with hg | hg
            · have := l6 g hg; omega
            · rw [List.mem_singleton.1 hg]; simp
end Go.Proofs.YtobplngonkdbpaaGreatDoor.D
