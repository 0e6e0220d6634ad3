/- Parts of this claim: AnI. -/
import Derived.Test.YtobplngonkdbpaaGreatDoorP16
import Derived.Test.YtobplngonkdbpaaGreatDoorP06
import Derived.Test.YtobplngonkdbpaaGreatDoorP17
import Derived.Test.YtobplngonkdbpaaGreatDoorP28
set_option linter.unusedVariables false
set_option linter.unusedSimpArgs false
/- AnI -/
namespace Go.Proofs.YtobplngonkdbpaaGreatDoor.D
open Go.RowKit
open Go.Proofs.YtobplngonkdbpaaGreatDoor.B
set_option linter.unusedVariables false
set_option linter.unusedSimpArgs false

theorem rd_cast2 (f t : Bs) (cs : List Bs) : rdItem (kCast :: f :: t :: cs) = castIt f t cs := by
  unfold rdItem castIt; simp only; rw [if_neg (by decide), if_neg (by decide), if_neg (by decide), if_pos trivial]
  cases unq f <;> cases unq t <;> cases allV ndV cs <;> rfl
theorem rd_cast_short (rest : List Bs) (h : rest.length < 2) : rdItem (kCast :: rest) = none := by
  unfold rdItem; simp only; rw [if_neg (by decide), if_neg (by decide), if_neg (by decide), if_pos trivial]
  rcases rest with _ | ⟨a, _ | ⟨b, r⟩⟩
  · rfl
  · rfl
  · simp at h; omega
theorem own_set_low {w : World} {base e sz n b i : Nat} {v u : Value} {xs : List Value} (h : w.ownsRow base e sz v n xs) (hb : b < base) : (w.setCell ⟨b, i, none⟩ u).ownsRow base e sz v n xs :=
  own_but (cf := b) h (but_set (C := fun k => k = b) (But.refl _ w) rfl u) hb
theorem cos_snoc (D : List Nd) (c : Nd) : cosC (D ++ [c]) = cosC D ++ ndC c := by simp [cosC]
theorem two_or (rest : List Bs) : (∃ f t cs, rest = f :: t :: cs) ∨ rest.length < 2 := by
  rcases rest with _ | ⟨a, _ | ⟨b, r⟩⟩
  · right; simp
  · right; simp
  · left; exact ⟨a, b, r, rfl⟩
theorem allV_cut {α : Type} (f : Bs → Option α) {cs : List Bs} {k : Nat} {x : Bs} (hx : cs[k]? = some x) (h : f x = none) : allV f cs = none := by
  rcases hq : allV f cs with _ | l
  · rfl
  · exfalso
    have e : cs = cs.take k ++ x :: cs.drop (k + 1) := by
      conv => lhs; rw [← List.take_append_drop k cs]
      have hl : k < cs.length := (List.getElem?_eq_some_iff.1 hx).1
      rw [List.drop_eq_getElem_cons hl, (List.getElem?_eq_some_iff.1 hx).2]
    have key : ∀ (a b : List Bs), allV f (a ++ x :: b) = none := by
      intro a b
      induction a with
      | nil => rw [List.nil_append, allV, h]
      | cons y a ih => rw [List.cons_append, allV, ih]; cases f y <;> rfl
    rw [e, key] at hq; cases hq
theorem allV_step {α : Type} (f : Bs → Option α) {cs : List Bs} {k : Nat} {x : Bs} {D : List α} {c : α} (hx : cs[k]? = some x) (hD : allV f (cs.take k) = some D) (h : f x = some c) : allV f (cs.take (k + 1)) = some (D ++ [c]) := by
  rw [List.take_add_one, hx, Option.toList_some, allV_snoc, hD, h]

set_option maxRecDepth 100000 in
set_option maxHeartbeats 4000000 in
theorem castM_any (r st B bw c : Nat) (L : CoL) (rest : List Bs) (w : World) (hr : RBt w r L st) (hB : LB L B) (hBb : B ≤ 1073741824) (hw : Wds w r L bw (kCast :: rest)) :
    Calls Tryz.prog 116 #[.pointer (some ⟨r, 0, none⟩), .slice (some ⟨bw, 0, none⟩) (rest.length + 1) c] w fun e w' => LineA r st B L (kCast :: rest) w e w' := by
  obtain ⟨i0, hi0, hz0, hz1, hz2⟩ := info_parts infoW
  obtain ⟨i1, hi1, hy0, hy1, hy2⟩ := info_parts infoN
  have hrl := hr.blk.lt
  rcases two_or rest with ⟨f, t, cs, rfl⟩ | hne
  rotate_left
  · have HN := Lib.hid (show stepW (st, L.code) (kCast :: rest) = none from stepW_none (rd_cast_short rest hne))
    have g1 : ((rest.length : Int) + 1) < 3 := by omega
    clear hw hr hB hne
    go_enter Tryz.func116, Tryz.ntmps116
    go_wp2_with fail
    go_ret
    exact lineA_no HN.out (b0.mono (Nat.le_of_lt hrl))
  obtain ⟨M, hM⟩ : ∃ M, cs.length = M := ⟨_, rfl⟩
  have hlf := hw.len f (by simp)
  have hlt2 := hw.len t (by simp)
  have hnum := hw.num
  simp only [List.length_cons] at hnum
  have hMb : M ≤ 1073741822 := by omega
  have g0 : ¬ ((M : Int) + 1 + 1 + 1 < 3) := by omega
  have g00 : ¬ ((M : Int) + 3 < 3) := by omega
  rw [show (f :: t :: cs).length + 1 = M + 3 by rw [← hM]; simp]
  by_cases hs : st ≤ 4
  rotate_left
  · have HA := Lib.hid (at_no r st 4 L w hr hs (by decide))
    have HN := Lib.hid (show stepW (st, L.code) (kCast :: f :: t :: cs) = none from stepW_late (by
      intro it hit
      rw [rd_cast2] at hit
      unfold castIt at hit
      split at hit
      · injection hit with hit; subst hit; exact hs
      · cases hit))
    clear hw hr hB hs
    go_enter Tryz.func116, Tryz.ntmps116
    go_wp2_with fail
    (refine HA.out.mono ?_); rintro ev w1 ⟨rfl, rfl⟩
    go_wp2_with fail
    go_ret
    exact lineA_no HN.out (b0.mono (Nat.le_of_lt hrl))
  have HA := Lib.hid (at_ok r st 4 L w hr hs (by decide))
  obtain ⟨W1, hW1⟩ : ∃ W, w.setCell ⟨r, 5, none⟩ (.int .i64 (4 : Nat)) = W := ⟨_, rfl⟩
  have hr1 : RBt W1 r L 4 := by rw [← hW1]; exact hr.stage 4
  have hw3 := (hw.set 5 (.int .i64 (4 : Nat)))
  rw [hW1] at HA hw3
  have hbW : Below r w W1 := by rw [← hW1]; exact below_set (b0.mono (Nat.le_of_lt hrl)) (Nat.le_refl r) _
  have p1 := hw3.cell 1 f rfl
  have HS := Lib.hid (And.intro hs (And.intro hr1 (And.intro hbW (And.intro hrl hw3))))
  have HB := Lib.hid hB
  have HM := Lib.hid hM
  have HNf := Lib.hid (bare_any f W1 hlf)
  have HNt := Lib.hid (fun W => bare_any t W hlt2)
  have l1 : (1 : Int) < (M : Int) + 3 := by omega
  have l2 : (2 : Int) < (M : Int) + 3 := by omega
  unfold strV at p1 HNf HNt
  clear hw hr hB hs hW1 hr1 hbW hw3 hrl hM hnum
  go_enter Tryz.func116, Tryz.ntmps116
  go_wp2_with fail
  (refine HA.out.mono ?_); rintro ev wx ⟨rfl, rfl⟩
  go_wp2_with fail
  (refine HNf.out.mono ?_); rintro ev w2 ⟨fv, fg, rfl, hfg, hfv, hb2⟩
  have p2 : w2.cell? ⟨bw, 2, none⟩ = some (.string ⟨t.toArray⟩) := (HS.out.2.2.2.2.grow hb2).cell 2 t rfl
  have HF := Lib.hid (And.intro hfg (And.intro hfv hb2))
  clear hfg hfv hb2 HNf HA
  unfold strV
  go_wp2_with fail
  (refine (HNt.out w2).mono ?_); rintro ev w3 ⟨tv, tg, rfl, htg, htv, hb3⟩
  have HT := Lib.hid (And.intro htg (And.intro htv (bl HF.out.2.2 hb3)))
  have HW3 := Lib.hid (HS.out.2.2.2.2.grow (bl HF.out.2.2 hb3))
  have HR3 := Lib.hid (HS.out.2.1.grow (bl HF.out.2.2 hb3))
  clear htg htv hb3 HNt p1 p2
  unfold strV
  go_upto_region 6 with fail
  obtain ⟨b9, hb9⟩ : ∃ b, w3.heap.size = b := ⟨_, rfl⟩
  obtain ⟨W4, hW4⟩ : ∃ W4, w3.alloc (.cells #[.string ⟨fv.toArray⟩, .string ⟨tv.toArray⟩, .slice none 0 0] 84) = W4 := ⟨_, rfl⟩
  have H4 := Lib.hid (show Blk W4 b9 84 #[.string ⟨fv.toArray⟩, .string ⟨tv.toArray⟩, .slice none 0 0] ∧ Below w3.heap.size w3 W4 ∧ w3.heap.size = b9 from ⟨by rw [← hW4, ← hb9]; exact Blk.new _ _ _, by rw [← hW4]; exact bal b0 _, hb9⟩)
  rw [hW4, hb9]
  clear hW4 hb9
  go_wp2_with fail
  go_loopg [10] M (fun gg i wr => ∃ (k : Nat) (V : Value) (D : List Nd), k ≤ M ∧ gg = M - k ∧ i = .int .i64 (k + 3 : Nat) ∧ Hid (Blk wr b9 84 #[.string ⟨fv.toArray⟩, .string ⟨tv.toArray⟩, V] ∧ wr.ownsRow (b9 + 1) 86 7 V k (cosC D) ∧ D.length = k ∧ allV ndV (cs.take k) = some D ∧ Below w3.heap.size w3 wr))
  case atStart => exact ⟨0, .slice none 0 0, [], by omega, rfl, rfl, Lib.hid ⟨H4.out.1, World.ownsRow_nil _ _ _ _, rfl, rfl, H4.out.2.1⟩⟩
  case round =>
    obtain ⟨k, V, D, hk, rfl, rfl, HP⟩ := hrel
    obtain ⟨AV, cV, rfl, hc1, hc2⟩ := own_shape HP.out.2.1
    have HWr := Lib.hid (HW3.out.grow HP.out.2.2.2.2)
    have HRr := Lib.hid (HR3.out.grow HP.out.2.2.2.2)
    by_cases hlt : k < M
    · obtain ⟨x, hx⟩ : ∃ x, cs[k]? = some x := ⟨_, List.getElem?_eq_getElem (by rw [HM.out]; exact hlt)⟩
      have px : wr.cell? ⟨bw, k + 3, none⟩ = some (.string ⟨x.toArray⟩) := HWr.out.cell (k + 3) x hx
      have hxl := HWr.out.len x (by have := List.mem_of_getElem? hx; simp [this])
      have HC := Lib.hid (coA_any x wr hxl)
      have HX := Lib.hid hx
      have g1 : (k : Int) + 3 < (M : Int) + 3 := by omega
      unfold strV at HC
      clear hx hxl
      go_wp2_with fail
      (refine HC.out.mono ?_); rintro ev w5 ⟨c, g, rfl, hg, hv, hb5⟩
      have HV := Lib.hid (And.intro hg (And.intro hv (bl HP.out.2.2.2.2 hb5)))
      have HK5 := Lib.hid (HP.out.1.below hb5 HP.out.1.lt)
      have HO5 := Lib.hid (own_below HP.out.2.1 hb5)
      clear hg hv hb5 HC
      unfold ndC
      go_upto_region 10 with fail
      obtain ⟨b11, hb11⟩ : ∃ b, w5.heap.size = b := ⟨_, rfl⟩
      obtain ⟨W6, hW6⟩ : ∃ W6, w5.alloc (.cells #[.int .i8 c.op, .int .i64 c.proj, .bool c.inj, .int .u8 c.head, .int .i64 c.lab, .int .u8 c.from_, .int .u8 c.to_] 86) = W6 := ⟨_, rfl⟩
      have H6 := Lib.hid (show Blk W6 b11 86 #[.int .i8 c.op, .int .i64 c.proj, .bool c.inj, .int .u8 c.head, .int .i64 c.lab, .int .u8 c.from_, .int .u8 c.to_] ∧ Below w5.heap.size w5 W6 ∧ w5.heap.size = b11 from ⟨by rw [← hW6, ← hb11]; exact Blk.new _ _ _, by rw [← hW6]; exact bal b0 _, hb11⟩)
      rw [hW6, hb11]
      clear hW6 hb11
      cases g with
      | false =>
        have HN := Lib.hid (show stepW (st, L.code) (kCast :: f :: t :: cs) = none from stepW_none (by
          rw [rd_cast2]; unfold castIt
          rw [allV_cut ndV HX.out (isNone HV.out.1)]
          cases unq f <;> cases unq t <;> rfl))
        go_wp2_with fail
        go_ret
        exact lineA_no HN.out (HS.out.2.2.1.trans ((bl (HT.out.2.2) (bl HV.out.2.2 H6.out.2.1)).mono (Nat.le_of_lt HS.out.2.1.blk.lt)))
      | true =>
        have hcn := isSome HV.out.1 HV.out.2.1
        have HD := Lib.hid (allV_step ndV HX.out HP.out.2.2.2.1 hcn)
        have k9 := HK5.out.below H6.out.2.1 HK5.out.lt
        have HK6 := Lib.hid k9
        have HO6 := Lib.hid (own_below HO5.out H6.out.2.1)
        have y2 : W6.cell? ⟨b9, 2, none⟩ = some (.slice AV k cV) := (k9.cell 2).trans rfl
        have HB6 := Lib.hid (show b9 + 1 ≤ W6.heap.size from HK6.out.lt)
        clear hcn k9
        go_wp2_with (first | (refine wpList_load_row rfl 86 (.tmp 11) rfl b11 rfl 86 #[.int .i8 c.op, .int .i64 c.proj, .bool c.inj, .int .u8 c.head, .int .i64 c.lab, .int .u8 c.from_, .int .u8 c.to_] (0, 0) _ H6.out.1 Tryz.underlying86 rfl (by kernel_rfl) ?_) | (at_builtin; refine wpList_append_fine _ rfl (.tmp 55) (.tmp 57) _ rfl (b9 + 1) 86 i1 _ 7 40 Tryz.underlying82 hi1 hy0 hy1 hy2 rfl (.slice AV k cV) k (cosC D) rfl (own_below HO6.out (bal b0 _)) (W6.heap.size + 1) (some ⟨W6.heap.size, 0, none⟩) 1 1 [.int .i8 c.op, .int .i64 c.proj, .bool c.inj, .int .u8 c.head, .int .i64 c.lab, .int .u8 c.from_, .int .u8 c.to_] rfl (Sl.fresh W6 _ 7 _ rfl) (by intro u hu; simp only [List.mem_cons, List.not_mem_nil, or_false] at hu; rcases hu with rfl | rfl | rfl | rfl | rfl | rfl | rfl <;> rfl) (by decide) (by unfold maxLen; omega) (by omega) (by have := HB6.out; simp only [World.size_alloc]; omega) ?_; intro V' w7 ho7 ht7; obtain ⟨AV', cV', rfl, _, _⟩ := own_shape ho7; have k7 : Blk w7 b9 84 #[.string ⟨fv.toArray⟩, .string ⟨tv.toArray⟩, .slice AV k cV] := (ht7.block (b := b9) (by have := HB6.out; simp only [World.size_alloc]; omega) (fun e => by have := (HO6.out.lt b9 e).1; omega)).trans (HK6.out.alloc _); have y7 := (k7.cell 2).trans rfl; have z7 := k7.frozen 2; simp only [List.getElem?_toArray, List.getElem?_cons_zero, List.getElem?_cons_succ] at y7; have H7 := Lib.hid (And.intro k7 (And.intro ho7 ht7)); clear k7 ho7 ht7))
        go_roundg (M - (k + 1))
        case measure => omega
        case rel =>
          refine ⟨k + 1, .slice AV' (k + 1) cV', D ++ [c], by omega, rfl, by go_num, Lib.hid ⟨H7.out.1.set_ 2 _, by rw [cos_snoc]; exact own_set_low H7.out.2.1 (Nat.lt_succ_self b9), by rw [List.length_append, List.length_singleton, HP.out.2.2.1], HD.out, ?_⟩⟩
          refine below_set ?_ (Nat.le_of_eq H4.out.2.2) _
          refine ((bl HV.out.2.2 H6.out.2.1).trans ((bal b0 (.cells #[.int .i8 c.op, .int .i64 c.proj, .bool c.inj, .int .u8 c.head, .int .i64 c.lab, .int .u8 c.from_, .int .u8 c.to_] 86)).mono (by have := (bl HV.out.2.2 H6.out.2.1).size; exact this))).trans ?_
          exact (H7.out.2.2.but (C := fun q => (Value.slice AV k cV).ownBlock = some q) (But.refl _ _) fun q hq _ => hq).below (by have := (bl HV.out.2.2 H6.out.2.1).size; simp only [World.size_alloc]; omega) fun q hq => by have := (HO6.out.lt q hq).1; have := H4.out.2.2; omega
    · obtain rfl : k = M := by omega
      have HD := Lib.hid (show allV ndV cs = some D by have := HP.out.2.2.2.1; rwa [List.take_of_length_le (by rw [HM.out]; exact Nat.le_refl _)] at this)
      have y1 : wr.cell? ⟨r, 1, none⟩ = some L.cv := (HRr.out.blk.cell 1).trans rfl
      have y2 : wr.drew.cell? ⟨r, 1, none⟩ = some L.cv := (HRr.out.drew.blk.cell 1).trans rfl
      have y4 : (wr.alloc (.cells #[.string ⟨fv.toArray⟩, .string ⟨tv.toArray⟩, .slice AV k cV] 84)).cell? ⟨r, 1, none⟩ = some L.cv := (((HRr.out.grow (bal b0 _)).blk).cell 1).trans rfl
      have HR8 := Lib.hid (show RBt (wr.drew.alloc (.cells #[.string ⟨fv.toArray⟩, .string ⟨tv.toArray⟩, .slice AV k cV] 84)) r L 4 from HRr.out.drew.grow (bal b0 _))
      have HO8 := Lib.hid (show (wr.drew.alloc (.cells #[.string ⟨fv.toArray⟩, .string ⟨tv.toArray⟩, .slice AV k cV] 84)).ownsRow (b9 + 1) 86 7 (.slice AV k cV) k (cosC D) from own_below HP.out.2.1 (bal (bdr b0 1) _))
      have HSZ := Lib.hid (show r + 1 ≤ wr.heap.size from HRr.out.blk.lt)
      go_upto_region 13 with fail
      refine wp_region_held_drew (S := (fun W' => W'.heap[b9]? = wr.heap[b9]?)) (by kernel_rfl) ?ss1 (fun hHeld => ?rr1)
      case ss1 => (try dsimp only); exact rfl
      refine rgt 0 60 rfl rfl hHeld ?_
      try simp only [Act.put, rg1, rg2, rg3]
      refine rgt 1 61 rfl rfl hHeld ?_
      try simp only [Act.put, rg1, rg2, rg3]
      refine rgt 2 62 rfl rfl hHeld ?_
      try simp only [Act.put, rg1, rg2, rg3]
      refine rgt 3 63 rfl rfl hHeld ?_
      try simp only [Act.put, rg1, rg2, rg3]
      refine rgt 4 64 rfl rfl hHeld ?_
      try simp only [Act.put, rg1, rg2, rg3]
      refine rgt 6 66 rfl rfl hHeld ?_ (by intro wq hq; (try dsimp only at hq); exact exec_load_row _ _ b9 rfl _ #[.string ⟨fv.toArray⟩, .string ⟨tv.toArray⟩, .slice AV k cV] (0, 0) _ (hq.trans HP.out.1) Tryz.underlying84 rfl (by kernel_rfl))
      try simp only [Act.put, rg1, rg2, rg3]
      refine wpAnyH_ready (rs := [5, 7]) (by kernel_rfl) (by simp) ?_
      refine AllReadyH.cons (o := ⟨some 65, _, _, _, _, _⟩) rfl (fun K hK => ?br8) (AllReadyH.cons (o := ⟨some 67, _, _, _, _, _⟩) rfl (fun K hK => ?br9) AllReadyH.nil)
      case br8 =>
        go_simp
        refine hK.out _ _ ?ss10 (fun hHeld2 => ?rr10)
        case ss10 => (try dsimp only); exact hHeld
        clear hK K
        clear hHeld2
        try simp only [Act.put, rg1, rg2, rg3]
        refine rgc 7 (some 67) rfl (fun K hK => ?_)
        go_simp
        go_simp
        refine hK.out _ _ ?ss11 (fun hHeld2 => ?rr11)
        case ss11 => (try dsimp only); exact (Below.heap_alloc _ _ b9 HP.out.1.lt).trans hHeld
        clear hK K
        clear hHeld
        have hHeld := hHeld2
        clear hHeld2
        try simp only [Act.put, rg1, rg2, rg3]
        refine rgc 8 (some 68) rfl (fun K hK => ?_)
        (refine step_append_fine rfl (.tmp 65) (.tmp 67) _ rfl (r + 1) 84 i0 _ 3 56 Tryz.underlying23 hi0 hz0 hz1 hz2 rfl L.cv L.casts.length (L.casts.flatMap WtL.cells) rfl (HR8.out.own.own (rowC L) (rowC_in L)) (wr.heap.size + 1) (some ⟨wr.heap.size, 0, none⟩) 1 1 [.string ⟨fv.toArray⟩, .string ⟨tv.toArray⟩, .slice AV k cV] rfl (Sl.fresh wr.drew _ 3 _ rfl) (by intro u hu; simp only [List.mem_cons, List.not_mem_nil, or_false] at hu; rcases hu with rfl | rfl | rfl <;> rfl) (by decide) (by have := HB.out.c; unfold maxLen; omega) (by have := HB.out.c; omega) (by have := HSZ.out; simp only [World.size_alloc, World.size_drew]; omega) ?_); (intro V' w7 ho7 ht7); (obtain ⟨AV', cV', rfl, _, _⟩ := own_shape ho7); have k7 := HR8.out.far (rowC_in L) ht7; have y5 := (k7.cell 1).trans rfl; have z5 := k7.frozen 1; simp only [List.getElem?_toArray, List.getElem?_cons_zero, List.getElem?_cons_succ] at y5; have H7 := Lib.hid (And.intro ho7 ht7); have h9b : w7.heap[b9]? = wr.heap[b9]? := (ht7.block (b := b9) (by have := HP.out.1.lt; simp only [World.size_alloc, World.size_drew]; omega) (fun e => by have := (HR3.out.own.lt (rowC_in L) b9 e).2; have := H4.out.2.2; omega)).trans (Below.heap_alloc _ _ b9 HP.out.1.lt); clear ho7 ht7 k7
        refine hK.out _ _ ?ss12 (fun hHeld2 => ?rr12)
        case ss12 => (try dsimp only); exact h9b
        clear hK K
        clear hHeld
        have hHeld := hHeld2
        clear hHeld2
        try simp only [Act.put, rg1, rg2, rg3]
        refine rgt 9 69 rfl rfl hHeld ?_
        try simp only [Act.put, rg1, rg2, rg3]
        refine rgt 10 70 rfl rfl hHeld ?_
        try simp only [Act.put, rg1, rg2, rg3]
        refine rgt 11 71 rfl rfl hHeld ?_
        try simp only [Act.put, rg1, rg2, rg3]
        refine rgc 12 (none) rfl (fun K hK => ?_)
        go_simp
        go_simp
        refine hK.out _ _ ?ss16 (fun hHeld2 => ?rr16)
        case ss16 => (try dsimp only); exact (Below.heap_setCell _ _ _ _ (by have := H4.out.2.2; have := HR3.out.blk.lt; simp only [ne_eq]; omega)).trans h9b
        clear hK K
        clear hHeld
        have hHeld := hHeld2
        clear hHeld2
        try simp only [Act.put, rg1, rg2, rg3]
        refine wpAnyH_done (by kernel_rfl) ?_ _
        have hfin : RBt (w7.setCell ⟨r, 1, none⟩ (.slice AV' (L.casts.length + 1) cV')) r { L with casts := L.casts ++ [⟨⟨fv, tv, D⟩, .slice AV k cV⟩], cv := .slice AV' (L.casts.length + 1) cV' } 4 :=
          HR8.out.cast (b := b9 + 1) (by rw [HP.out.2.2.1]; exact HO8.out) (by have := H4.out.2.2; have := HR3.out.blk.lt; omega) (fun x hx => Ap.fresh (N := b9 + 1) (fun b hb => by have := (HR3.out.own.lt hx b hb).2; have := H4.out.2.2; omega) (fun b hb => (HO8.out.lt b hb).1)) H7.out.2 H7.out.1
        have hb7 : Below r w (w7.setCell ⟨r, 1, none⟩ (.slice AV' (L.casts.length + 1) cV')) :=
          below_set ((HS.out.2.2.1.trans ((bal (bdr (bl HT.out.2.2 HP.out.2.2.2.2) 1) _).mono (Nat.le_of_lt HS.out.2.1.blk.lt))).trans (HR8.out.but (rowC_in L) H7.out.2)) (Nat.le_refl r) _
        have HFIN := Lib.hid (And.intro hfin hb7)
        clear hfin hb7 hHeld h9b y1 y2 y4 y5 z5
        cases fg with
        | false =>
          have HN := Lib.hid (show stepW (st, L.code) (kCast :: f :: t :: cs) = none from stepW_none (by
            rw [rd_cast2]; unfold castIt; rw [isNone HF.out.1]))
          go_wp2_with fail
          go_ret
          exact lineA_no HN.out HFIN.out.2
        | true =>
          go_wp2_with fail
          go_ret
          have hf2 := isSome HF.out.1 HF.out.2.1
          cases tg with
          | false => exact lineA_no (stepW_none (by rw [rd_cast2]; unfold castIt; rw [hf2, isNone HT.out.1])) HFIN.out.2
          | true =>
            have ht2 := isSome HT.out.1 HT.out.2.1
            obtain ⟨l1, l2, l3, l4, l5, l6⟩ := HB.out
            refine lineA_ok (L' := { L with casts := L.casts ++ [⟨⟨fv, tv, D⟩, .slice AV k cV⟩], cv := .slice AV' (L.casts.length + 1) cV' }) (st' := 4) ?_ HFIN.out.1 ⟨?_, ?_, ?_, ?_, ?_, fun g hg => ?_⟩ HFIN.out.2
            · rw [stepW_some (it := .cast fv tv D) (by rw [rd_cast2]; unfold castIt; rw [hf2, ht2, HD.out]) (fun h => by cases h) HS.out.1]
              simp [CoL.code, addI, stageI]
            all_goals first | omega | (simp only [List.length_append, List.length_singleton]; omega) | (have := l6 g hg; omega)
      case br9 =>
        go_simp
        go_simp
        refine hK.out _ _ ?ss17 (fun hHeld2 => ?rr17)
        case ss17 => (try dsimp only); exact (Below.heap_alloc _ _ b9 HP.out.1.lt).trans hHeld
        clear hK K
        clear hHeld
        have hHeld := hHeld2
        clear hHeld2
        try simp only [Act.put, rg1, rg2, rg3]
        refine rgc 5 (some 65) rfl (fun K hK => ?_)
        go_simp
        refine hK.out _ _ ?ss18 (fun hHeld2 => ?rr18)
        case ss18 => (try dsimp only); exact hHeld
        clear hK K
        clear hHeld2
        try simp only [Act.put, rg1, rg2, rg3]
        refine rgc 8 (some 68) rfl (fun K hK => ?_)
        (refine step_append_fine rfl (.tmp 65) (.tmp 67) _ rfl (r + 1) 84 i0 _ 3 56 Tryz.underlying23 hi0 hz0 hz1 hz2 rfl L.cv L.casts.length (L.casts.flatMap WtL.cells) rfl (HR8.out.own.own (rowC L) (rowC_in L)) (wr.heap.size + 1) (some ⟨wr.heap.size, 0, none⟩) 1 1 [.string ⟨fv.toArray⟩, .string ⟨tv.toArray⟩, .slice AV k cV] rfl (Sl.fresh wr.drew _ 3 _ rfl) (by intro u hu; simp only [List.mem_cons, List.not_mem_nil, or_false] at hu; rcases hu with rfl | rfl | rfl <;> rfl) (by decide) (by have := HB.out.c; unfold maxLen; omega) (by have := HB.out.c; omega) (by have := HSZ.out; simp only [World.size_alloc, World.size_drew]; omega) ?_); (intro V' w7 ho7 ht7); (obtain ⟨AV', cV', rfl, _, _⟩ := own_shape ho7); have k7 := HR8.out.far (rowC_in L) ht7; have y5 := (k7.cell 1).trans rfl; have z5 := k7.frozen 1; simp only [List.getElem?_toArray, List.getElem?_cons_zero, List.getElem?_cons_succ] at y5; have H7 := Lib.hid (And.intro ho7 ht7); have h9b : w7.heap[b9]? = wr.heap[b9]? := (ht7.block (b := b9) (by have := HP.out.1.lt; simp only [World.size_alloc, World.size_drew]; omega) (fun e => by have := (HR3.out.own.lt (rowC_in L) b9 e).2; have := H4.out.2.2; omega)).trans (Below.heap_alloc _ _ b9 HP.out.1.lt); clear ho7 ht7 k7
        refine hK.out _ _ ?ss19 (fun hHeld2 => ?rr19)
        case ss19 => (try dsimp only); exact h9b
        clear hK K
        clear hHeld
        have hHeld := hHeld2
        clear hHeld2
        try simp only [Act.put, rg1, rg2, rg3]
        refine rgt 9 69 rfl rfl hHeld ?_
        try simp only [Act.put, rg1, rg2, rg3]
        refine rgt 10 70 rfl rfl hHeld ?_
        try simp only [Act.put, rg1, rg2, rg3]
        refine rgt 11 71 rfl rfl hHeld ?_
        try simp only [Act.put, rg1, rg2, rg3]
        refine rgc 12 (none) rfl (fun K hK => ?_)
        go_simp
        go_simp
        refine hK.out _ _ ?ss23 (fun hHeld2 => ?rr23)
        case ss23 => (try dsimp only); exact (Below.heap_setCell _ _ _ _ (by have := H4.out.2.2; have := HR3.out.blk.lt; simp only [ne_eq]; omega)).trans h9b
        clear hK K
        clear hHeld
        have hHeld := hHeld2
        clear hHeld2
        try simp only [Act.put, rg1, rg2, rg3]
        refine wpAnyH_done (by kernel_rfl) ?_ _
        have hfin : RBt (w7.setCell ⟨r, 1, none⟩ (.slice AV' (L.casts.length + 1) cV')) r { L with casts := L.casts ++ [⟨⟨fv, tv, D⟩, .slice AV k cV⟩], cv := .slice AV' (L.casts.length + 1) cV' } 4 :=
          HR8.out.cast (b := b9 + 1) (by rw [HP.out.2.2.1]; exact HO8.out) (by have := H4.out.2.2; have := HR3.out.blk.lt; omega) (fun x hx => Ap.fresh (N := b9 + 1) (fun b hb => by have := (HR3.out.own.lt hx b hb).2; have := H4.out.2.2; omega) (fun b hb => (HO8.out.lt b hb).1)) H7.out.2 H7.out.1
        have hb7 : Below r w (w7.setCell ⟨r, 1, none⟩ (.slice AV' (L.casts.length + 1) cV')) :=
          below_set ((HS.out.2.2.1.trans ((bal (bdr (bl HT.out.2.2 HP.out.2.2.2.2) 1) _).mono (Nat.le_of_lt HS.out.2.1.blk.lt))).trans (HR8.out.but (rowC_in L) H7.out.2)) (Nat.le_refl r) _
        have HFIN := Lib.hid (And.intro hfin hb7)
        clear hfin hb7 hHeld h9b y1 y2 y4 y5 z5
        cases fg with
        | false =>
          have HN := Lib.hid (show stepW (st, L.code) (kCast :: f :: t :: cs) = none from stepW_none (by
            rw [rd_cast2]; unfold castIt; rw [isNone HF.out.1]))
          go_wp2_with fail
          go_ret
          exact lineA_no HN.out HFIN.out.2
        | true =>
          go_wp2_with fail
          go_ret
          have hf2 := isSome HF.out.1 HF.out.2.1
          cases tg with
          | false => exact lineA_no (stepW_none (by rw [rd_cast2]; unfold castIt; rw [hf2, isNone HT.out.1])) HFIN.out.2
          | true =>
            have ht2 := isSome HT.out.1 HT.out.2.1
            obtain ⟨l1, l2, l3, l4, l5, l6⟩ := HB.out
            refine lineA_ok (L' := { L with casts := L.casts ++ [⟨⟨fv, tv, D⟩, .slice AV k cV⟩], cv := .slice AV' (L.casts.length + 1) cV' }) (st' := 4) ?_ HFIN.out.1 ⟨?_, ?_, ?_, ?_, ?_, fun g hg => ?_⟩ HFIN.out.2
            · rw [stepW_some (it := .cast fv tv D) (by rw [rd_cast2]; unfold castIt; rw [hf2, ht2, HD.out]) (fun h => by cases h) HS.out.1]
              simp [CoL.code, addI, stageI]
            all_goals first | omega | (simp only [List.length_append, List.length_singleton]; omega) | (have := l6 g hg; omega)
end Go.Proofs.YtobplngonkdbpaaGreatDoor.D
