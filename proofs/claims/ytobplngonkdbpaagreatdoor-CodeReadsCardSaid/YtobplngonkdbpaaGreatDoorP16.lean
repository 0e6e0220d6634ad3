/- Parts of this claim: AnH. -/
import Derived.Test.YtobplngonkdbpaaGreatDoorP15
set_option linter.unusedVariables false
set_option linter.unusedSimpArgs false
/- AnH -/
namespace Go.Proofs.YtobplngonkdbpaaGreatDoor.D
open Go.RowKit
open Go.Proofs.YtobplngonkdbpaaGreatDoor.B
set_option linter.unusedVariables false
set_option linter.unusedSimpArgs false

theorem rd_num (rest : List Bs) : rdItem (kNum :: rest) = (match rest with | [a] => (numV a).map .num | _ => none) := by
  unfold rdItem; simp only; rw [if_pos trivial]
  rcases rest with _ | ⟨a, _ | ⟨b, r⟩⟩ <;> rfl
theorem rd_text (rest : List Bs) : rdItem (kText :: rest) = (match rest with | [a] => (unq a).map .text | _ => none) := by
  unfold rdItem; simp only; rw [if_neg (by decide), if_pos trivial]
  rcases rest with _ | ⟨a, _ | ⟨b, r⟩⟩ <;> rfl
theorem rd_type (rest : List Bs) : rdItem (kType :: rest) = (match rest with | [a] => (unq a).map .type | _ => none) := by
  unfold rdItem; simp only; rw [if_neg (by decide), if_neg (by decide), if_pos trivial]
  rcases rest with _ | ⟨a, _ | ⟨b, r⟩⟩ <;> rfl
theorem one_or (rest : List Bs) : (∃ a, rest = [a]) ∨ rest.length ≠ 1 := by
  rcases rest with _ | ⟨a, _ | ⟨b, r⟩⟩
  · right; simp
  · left; exact ⟨a, rfl⟩
  · right; simp
theorem RBt.stage {w : World} {r st : Nat} {L : CoL} (h : RBt w r L st) (k : Nat) : RBt (w.setCell ⟨r, 5, none⟩ (.int .i64 k)) r L k := ⟨h.blk.set_ 5 _, RBt.low h.own 5 _⟩

theorem at_ok (r st k : Nat) (L : CoL) (w : World) (h : RBt w r L st) (hs : st ≤ k) (hk : k ≤ 5) :
    Calls Tryz.prog 146 #[.pointer (some ⟨r, 0, none⟩), .int .i64 k] w fun e w' => e = .returned (.bool true) ∧ w.setCell ⟨r, 5, none⟩ (.int .i64 k) = w' := by
  have c5 := (h.blk.cell 5).trans rfl
  have z5 := h.blk.frozen 5
  simp only [List.getElem?_toArray, List.getElem?_cons_zero, List.getElem?_cons_succ] at c5
  have g1 : ¬ ((k : Int) < (st : Int)) := by omega
  clear h hs
  go_enter Tryz.func146, Tryz.ntmps146
  go_wp2_with fail
  go_ret
  exact ⟨rfl, rfl⟩
theorem at_no (r st k : Nat) (L : CoL) (w : World) (h : RBt w r L st) (hs : ¬ st ≤ k) (hk : k ≤ 5) :
    Calls Tryz.prog 146 #[.pointer (some ⟨r, 0, none⟩), .int .i64 k] w fun e w' => e = .returned (.bool false) ∧ w = w' := by
  have c5 := (h.blk.cell 5).trans rfl
  simp only [List.getElem?_toArray, List.getElem?_cons_zero, List.getElem?_cons_succ] at c5
  have g1 : ((k : Int) < (st : Int)) := by omega
  clear h hs
  go_enter Tryz.func146, Tryz.ntmps146
  go_wp2_with fail
  go_ret
  exact ⟨rfl, rfl⟩
set_option maxRecDepth 100000 in
set_option maxHeartbeats 4000000 in
theorem numM_any (r st B bw c : Nat) (L : CoL) (rest : List Bs) (w : World) (hr : RBt w r L st) (hB : LB L B) (hBb : B ≤ 1073741824) (hw : Wds w r L bw (kNum :: rest)) :
    Calls Tryz.prog 114 #[.pointer (some ⟨r, 0, none⟩), .slice (some ⟨bw, 0, none⟩) (rest.length + 1) c] w fun e w' => LineA r st B L (kNum :: rest) w e w' := by
  obtain ⟨i0, hi0, hz0, hz1, hz2⟩ := info_parts infoL
  have hrl := hr.blk.lt
  rcases one_or rest with ⟨a, rfl⟩ | hne
  rotate_left
  · have HN := Lib.hid (show stepW (st, L.code) (kNum :: rest) = none from stepW_none (by
      rw [rd_num]; split
      · simp at hne
      · rfl))
    have g1 : (((rest.length : Int) + 1) != 2) = true := by simp; omega
    clear hw hr hB hne
    go_enter Tryz.func114, Tryz.ntmps114
    go_wp2_with fail
    go_ret
    exact lineA_no HN.out (b0.mono (Nat.le_of_lt hrl))
  have hla := hw.len a (by simp)
  have hfar := hw.far
  have hlt := hw.lt
  by_cases hs : st ≤ 1
  rotate_left
  · have HA := Lib.hid (at_no r st 1 L w hr hs (by decide))
    have HN := Lib.hid (show stepW (st, L.code) [kNum, a] = none from stepW_late (by
      intro it hit
      rw [rd_num] at hit
      simp only [Option.map_eq_some_iff] at hit
      obtain ⟨v, _, rfl⟩ := hit
      exact hs))
    clear hw hr hB hs
    go_enter Tryz.func114, Tryz.ntmps114
    go_wp2_with fail
    (refine HA.out.mono ?_); rintro ev w1 ⟨rfl, rfl⟩
    go_wp2_with fail
    go_ret
    exact lineA_no HN.out (b0.mono (Nat.le_of_lt hrl))
  have HA := Lib.hid (at_ok r st 1 L w hr hs (by decide))
  obtain ⟨W1, hW1⟩ : ∃ W, w.setCell ⟨r, 5, none⟩ (.int .i64 (1 : Nat)) = W := ⟨_, rfl⟩
  have hr1 : RBt W1 r L 1 := by rw [← hW1]; exact hr.stage 1
  have hw3 := (hw.set 5 (.int .i64 (1 : Nat)))
  rw [hW1] at HA hw3
  have hw2 := hw3.cell 1 a rfl
  have hbW : Below r w W1 := by rw [← hW1]; exact below_set (b0.mono (Nat.le_of_lt hrl)) (Nat.le_refl r) _
  have HS := Lib.hid (And.intro hs (And.intro hr1 (And.intro hbW hrl)))
  have HB := Lib.hid hB
  have HNu := Lib.hid (numberA_any a (-9223372036854775808) 9223372036854775807 W1 hla)
  unfold strV at hw2 HNu
  clear hw hr hB hs hW1 hr1 hbW hw3 hrl
  go_enter Tryz.func114, Tryz.ntmps114
  go_wp2_with fail
  (refine HA.out.mono ?_); rintro ev wx ⟨rfl, rfl⟩
  go_wp2_with fail
  (refine HNu.out.mono ?_); rintro ev w3 ⟨z, g, rfl, hz, hg, hv, rfl⟩
  rw [numV_all] at hg hv
  obtain ⟨w3, hw3⟩ : ∃ w3, W1 = w3 := ⟨_, rfl⟩
  have hb3 : Below W1.heap.size W1 w3 := by rw [← hw3]; exact b0
  rw [hw3]
  have HR3 := Lib.hid (show RBt w3 r L 1 from HS.out.2.1.grow hb3)
  have HB3 := Lib.hid (show Below r w w3 from HS.out.2.2.1.trans (hb3.mono (Nat.le_of_lt HS.out.2.1.blk.lt)))
  have y3 : w3.cell? ⟨r, 2, none⟩ = some L.nv := (HR3.out.blk.cell 2).trans rfl
  have y4 : (w3.alloc (.cells #[.int .i64 z] 2)).cell? ⟨r, 2, none⟩ = some L.nv := (((HR3.out.grow (bal b0 _)).blk).cell 2).trans rfl
  have HV := Lib.hid (And.intro hg hv)
  clear hg hv hb3 HNu HA hw2
  skip
  go_wp2_with (at_builtin; refine wpList_append_fine _ rfl (.tmp 27) (.tmp 29) _ rfl (r + 1) 2 i0 _ 1 8 Tryz.underlying24 hi0 hz0 hz1 hz2 rfl L.nv L.nums.length (numC L.nums) rfl ((HR3.out.grow (bal b0 _)).own.own (rowN L) (rowN_in L)) (w3.heap.size + 1) (some ⟨w3.heap.size, 0, none⟩) 1 1 [.int .i64 z] rfl (Sl.one w3 _ _) (fun u hu => by rw [List.mem_singleton.1 hu]; rfl) (by decide) (by have := HB.out.n; unfold maxLen; omega) (by have := HB.out.n; omega) (by have := HR3.out.blk.lt; simp only [World.size_alloc]; omega) ?_; intro V' w4 ho4 ht4; obtain ⟨AV, cV, rfl, _, _⟩ := own_shape ho4; have k4 := (HR3.out.grow (bal b0 (.cells #[.int .i64 z] 2))).far (rowN_in L) ht4; have y5 := (k4.cell 2).trans rfl; have z5 := k4.frozen 2; simp only [List.getElem?_toArray, List.getElem?_cons_zero, List.getElem?_cons_succ] at y5)
  go_ret
  have hfin : RBt (w4.setCell ⟨r, 2, none⟩ (.slice AV (L.nums.length + 1) cV)) r { L with nums := L.nums ++ [z], nv := .slice AV (L.nums.length + 1) cV } 1 := (HR3.out.grow (bal b0 (.cells #[.int .i64 z] 2))).num ht4 ho4
  have hb5 : Below r w (w4.setCell ⟨r, 2, none⟩ (.slice AV (L.nums.length + 1) cV)) := below_set ((HB3.out.trans ((bal b0 (.cells #[.int .i64 z] 2)).mono (Nat.le_of_lt HR3.out.blk.lt))).trans ((HR3.out.grow (bal b0 (.cells #[.int .i64 z] 2))).but (rowN_in L) ht4)) (Nat.le_refl r) _
  cases g with
  | false => exact lineA_no (stepW_none (by rw [rd_num]; simp only; rw [isNone HV.out.1]; rfl)) hb5
  | true =>
    have ht := isSome HV.out.1 HV.out.2
    obtain ⟨l1, l2, l3, l4, l5, l6⟩ := HB.out
    refine lineA_ok (L' := { L with nums := L.nums ++ [z], nv := .slice AV (L.nums.length + 1) cV }) (st' := 1) ?_ hfin ⟨?_, ?_, ?_, ?_, ?_, fun g hg => ?_⟩ hb5
    · rw [stepW_some (it := .num z) (by rw [rd_num]; simp only; rw [ht]; rfl) (fun h => by cases h) HS.out.1]
      rfl
    all_goals first | omega | (simp only [List.length_append, List.length_singleton]; omega) | (have := l6 g hg; omega)
set_option maxRecDepth 100000 in
set_option maxHeartbeats 4000000 in
theorem textM_any (r st B bw c : Nat) (L : CoL) (rest : List Bs) (w : World) (hr : RBt w r L st) (hB : LB L B) (hBb : B ≤ 1073741824) (hw : Wds w r L bw (kText :: rest)) :
    Calls Tryz.prog 115 #[.pointer (some ⟨r, 0, none⟩), .slice (some ⟨bw, 0, none⟩) (rest.length + 1) c, .int .i64 2] w fun e w' => LineA r st B L (kText :: rest) w e w' := by
  obtain ⟨i0, hi0, hz0, hz1, hz2⟩ := info_parts info9
  have hrl := hr.blk.lt
  rcases one_or rest with ⟨a, rfl⟩ | hne
  rotate_left
  · have HN := Lib.hid (show stepW (st, L.code) (kText :: rest) = none from stepW_none (by
      rw [rd_text]; split
      · simp at hne
      · rfl))
    have g1 : (((rest.length : Int) + 1) != 2) = true := by simp; omega
    clear hw hr hB hne
    go_enter Tryz.func115, Tryz.ntmps115
    go_wp2_with fail
    go_ret
    exact lineA_no HN.out (b0.mono (Nat.le_of_lt hrl))
  have hla := hw.len a (by simp)
  have hfar := hw.far
  have hlt := hw.lt
  by_cases hs : st ≤ 2
  rotate_left
  · have HA := Lib.hid (at_no r st 2 L w hr hs (by decide))
    have HN := Lib.hid (show stepW (st, L.code) [kText, a] = none from stepW_late (by
      intro it hit
      rw [rd_text] at hit
      simp only [Option.map_eq_some_iff] at hit
      obtain ⟨v, _, rfl⟩ := hit
      exact hs))
    clear hw hr hB hs
    go_enter Tryz.func115, Tryz.ntmps115
    go_wp2_with fail
    (refine HA.out.mono ?_); rintro ev w1 ⟨rfl, rfl⟩
    go_wp2_with fail
    go_ret
    exact lineA_no HN.out (b0.mono (Nat.le_of_lt hrl))
  have HA := Lib.hid (at_ok r st 2 L w hr hs (by decide))
  obtain ⟨W1, hW1⟩ : ∃ W, w.setCell ⟨r, 5, none⟩ (.int .i64 (2 : Nat)) = W := ⟨_, rfl⟩
  have hr1 : RBt W1 r L 2 := by rw [← hW1]; exact hr.stage 2
  have hw3 := (hw.set 5 (.int .i64 (2 : Nat)))
  rw [hW1] at HA hw3
  have hw2 := hw3.cell 1 a rfl
  have hbW : Below r w W1 := by rw [← hW1]; exact below_set (b0.mono (Nat.le_of_lt hrl)) (Nat.le_refl r) _
  have HS := Lib.hid (And.intro hs (And.intro hr1 (And.intro hbW hrl)))
  have HB := Lib.hid hB
  have HNu := Lib.hid (bare_any a W1 hla)
  unfold strV at hw2 HNu
  clear hw hr hB hs hW1 hr1 hbW hw3 hrl
  go_enter Tryz.func115, Tryz.ntmps115
  go_wp2_with fail
  (refine HA.out.mono ?_); rintro ev wx ⟨rfl, rfl⟩
  go_wp2_with fail
  (refine HNu.out.mono ?_); rintro ev w3 ⟨z, g, rfl, hg, hv, hb3⟩
  unfold strV
  have HR3 := Lib.hid (show RBt w3 r L 2 from HS.out.2.1.grow hb3)
  have HB3 := Lib.hid (show Below r w w3 from HS.out.2.2.1.trans (hb3.mono (Nat.le_of_lt HS.out.2.1.blk.lt)))
  have y3 : w3.cell? ⟨r, 3, none⟩ = some L.tv := (HR3.out.blk.cell 3).trans rfl
  have y4 : (w3.alloc (.cells #[.string ⟨z.toArray⟩] 9)).cell? ⟨r, 3, none⟩ = some L.tv := (((HR3.out.grow (bal b0 _)).blk).cell 3).trans rfl
  have HV := Lib.hid (And.intro hg hv)
  clear hg hv hb3 HNu HA hw2
  skip
  go_wp2_with (at_builtin; refine wpList_append_fine _ rfl (.tmp 32) (.tmp 34) _ rfl (r + 1) 9 i0 _ 1 16 Tryz.underlying25 hi0 hz0 hz1 hz2 rfl L.tv L.texts.length (envC L.texts) rfl ((HR3.out.grow (bal b0 _)).own.own (rowT L) (rowT_in L)) (w3.heap.size + 1) (some ⟨w3.heap.size, 0, none⟩) 1 1 [.string ⟨z.toArray⟩] rfl (Sl.one w3 _ _) (fun u hu => by rw [List.mem_singleton.1 hu]; rfl) (by decide) (by have := HB.out.t; unfold maxLen; omega) (by have := HB.out.t; omega) (by have := HR3.out.blk.lt; simp only [World.size_alloc]; omega) ?_; intro V' w4 ho4 ht4; obtain ⟨AV, cV, rfl, _, _⟩ := own_shape ho4; have k4 := (HR3.out.grow (bal b0 (.cells #[.string ⟨z.toArray⟩] 9))).far (rowT_in L) ht4; have y5 := (k4.cell 3).trans rfl; have z5 := k4.frozen 3; simp only [List.getElem?_toArray, List.getElem?_cons_zero, List.getElem?_cons_succ] at y5)
  go_ret
  have hfin : RBt (w4.setCell ⟨r, 3, none⟩ (.slice AV (L.texts.length + 1) cV)) r { L with texts := L.texts ++ [z], tv := .slice AV (L.texts.length + 1) cV } 2 := (HR3.out.grow (bal b0 (.cells #[.string ⟨z.toArray⟩] 9))).text ht4 ho4
  have hb5 : Below r w (w4.setCell ⟨r, 3, none⟩ (.slice AV (L.texts.length + 1) cV)) := below_set ((HB3.out.trans ((bal b0 (.cells #[.string ⟨z.toArray⟩] 9)).mono (Nat.le_of_lt HR3.out.blk.lt))).trans ((HR3.out.grow (bal b0 (.cells #[.string ⟨z.toArray⟩] 9))).but (rowT_in L) ht4)) (Nat.le_refl r) _
  cases g with
  | false => exact lineA_no (stepW_none (by rw [rd_text]; simp only; rw [isNone HV.out.1]; rfl)) hb5
  | true =>
    have ht := isSome HV.out.1 HV.out.2
    obtain ⟨l1, l2, l3, l4, l5, l6⟩ := HB.out
    refine lineA_ok (L' := { L with texts := L.texts ++ [z], tv := .slice AV (L.texts.length + 1) cV }) (st' := 2) ?_ hfin ⟨?_, ?_, ?_, ?_, ?_, fun g hg => ?_⟩ hb5
    · rw [stepW_some (it := .text z) (by rw [rd_text]; simp only; rw [ht]; rfl) (fun h => by cases h) HS.out.1]
      rfl
    all_goals first | omega | (simp only [List.length_append, List.length_singleton]; omega) | (have := l6 g hg; omega)
set_option maxRecDepth 100000 in
set_option maxHeartbeats 4000000 in
theorem typeM_any (r st B bw c : Nat) (L : CoL) (rest : List Bs) (w : World) (hr : RBt w r L st) (hB : LB L B) (hBb : B ≤ 1073741824) (hw : Wds w r L bw (kType :: rest)) :
    Calls Tryz.prog 115 #[.pointer (some ⟨r, 0, none⟩), .slice (some ⟨bw, 0, none⟩) (rest.length + 1) c, .int .i64 3] w fun e w' => LineA r st B L (kType :: rest) w e w' := by
  obtain ⟨i0, hi0, hz0, hz1, hz2⟩ := info_parts info9
  have hrl := hr.blk.lt
  rcases one_or rest with ⟨a, rfl⟩ | hne
  rotate_left
  · have HN := Lib.hid (show stepW (st, L.code) (kType :: rest) = none from stepW_none (by
      rw [rd_type]; split
      · simp at hne
      · rfl))
    have g1 : (((rest.length : Int) + 1) != 2) = true := by simp; omega
    clear hw hr hB hne
    go_enter Tryz.func115, Tryz.ntmps115
    go_wp2_with fail
    go_ret
    exact lineA_no HN.out (b0.mono (Nat.le_of_lt hrl))
  have hla := hw.len a (by simp)
  have hfar := hw.far
  have hlt := hw.lt
  by_cases hs : st ≤ 3
  rotate_left
  · have HA := Lib.hid (at_no r st 3 L w hr hs (by decide))
    have HN := Lib.hid (show stepW (st, L.code) [kType, a] = none from stepW_late (by
      intro it hit
      rw [rd_type] at hit
      simp only [Option.map_eq_some_iff] at hit
      obtain ⟨v, _, rfl⟩ := hit
      exact hs))
    clear hw hr hB hs
    go_enter Tryz.func115, Tryz.ntmps115
    go_wp2_with fail
    (refine HA.out.mono ?_); rintro ev w1 ⟨rfl, rfl⟩
    go_wp2_with fail
    go_ret
    exact lineA_no HN.out (b0.mono (Nat.le_of_lt hrl))
  have HA := Lib.hid (at_ok r st 3 L w hr hs (by decide))
  obtain ⟨W1, hW1⟩ : ∃ W, w.setCell ⟨r, 5, none⟩ (.int .i64 (3 : Nat)) = W := ⟨_, rfl⟩
  have hr1 : RBt W1 r L 3 := by rw [← hW1]; exact hr.stage 3
  have hw3 := (hw.set 5 (.int .i64 (3 : Nat)))
  rw [hW1] at HA hw3
  have hw2 := hw3.cell 1 a rfl
  have hbW : Below r w W1 := by rw [← hW1]; exact below_set (b0.mono (Nat.le_of_lt hrl)) (Nat.le_refl r) _
  have HS := Lib.hid (And.intro hs (And.intro hr1 (And.intro hbW hrl)))
  have HB := Lib.hid hB
  have HNu := Lib.hid (bare_any a W1 hla)
  unfold strV at hw2 HNu
  clear hw hr hB hs hW1 hr1 hbW hw3 hrl
  go_enter Tryz.func115, Tryz.ntmps115
  go_wp2_with fail
  (refine HA.out.mono ?_); rintro ev wx ⟨rfl, rfl⟩
  go_wp2_with fail
  (refine HNu.out.mono ?_); rintro ev w3 ⟨z, g, rfl, hg, hv, hb3⟩
  unfold strV
  have HR3 := Lib.hid (show RBt w3 r L 3 from HS.out.2.1.grow hb3)
  have HB3 := Lib.hid (show Below r w w3 from HS.out.2.2.1.trans (hb3.mono (Nat.le_of_lt HS.out.2.1.blk.lt)))
  have y3 : w3.cell? ⟨r, 4, none⟩ = some L.yv := (HR3.out.blk.cell 4).trans rfl
  have y4 : (w3.alloc (.cells #[.string ⟨z.toArray⟩] 9)).cell? ⟨r, 4, none⟩ = some L.yv := (((HR3.out.grow (bal b0 _)).blk).cell 4).trans rfl
  have HV := Lib.hid (And.intro hg hv)
  clear hg hv hb3 HNu HA hw2
  skip
  go_wp2_with (at_builtin; refine wpList_append_fine _ rfl (.tmp 44) (.tmp 46) _ rfl (r + 1) 9 i0 _ 1 16 Tryz.underlying25 hi0 hz0 hz1 hz2 rfl L.yv L.types.length (envC L.types) rfl ((HR3.out.grow (bal b0 _)).own.own (rowY L) (rowY_in L)) (w3.heap.size + 1) (some ⟨w3.heap.size, 0, none⟩) 1 1 [.string ⟨z.toArray⟩] rfl (Sl.one w3 _ _) (fun u hu => by rw [List.mem_singleton.1 hu]; rfl) (by decide) (by have := HB.out.y; unfold maxLen; omega) (by have := HB.out.y; omega) (by have := HR3.out.blk.lt; simp only [World.size_alloc]; omega) ?_; intro V' w4 ho4 ht4; obtain ⟨AV, cV, rfl, _, _⟩ := own_shape ho4; have k4 := (HR3.out.grow (bal b0 (.cells #[.string ⟨z.toArray⟩] 9))).far (rowY_in L) ht4; have y5 := (k4.cell 4).trans rfl; have z5 := k4.frozen 4; simp only [List.getElem?_toArray, List.getElem?_cons_zero, List.getElem?_cons_succ] at y5)
  go_ret
  have hfin : RBt (w4.setCell ⟨r, 4, none⟩ (.slice AV (L.types.length + 1) cV)) r { L with types := L.types ++ [z], yv := .slice AV (L.types.length + 1) cV } 3 := (HR3.out.grow (bal b0 (.cells #[.string ⟨z.toArray⟩] 9))).type ht4 ho4
  have hb5 : Below r w (w4.setCell ⟨r, 4, none⟩ (.slice AV (L.types.length + 1) cV)) := below_set ((HB3.out.trans ((bal b0 (.cells #[.string ⟨z.toArray⟩] 9)).mono (Nat.le_of_lt HR3.out.blk.lt))).trans ((HR3.out.grow (bal b0 (.cells #[.string ⟨z.toArray⟩] 9))).but (rowY_in L) ht4)) (Nat.le_refl r) _
  cases g with
  | false => exact lineA_no (stepW_none (by rw [rd_type]; simp only; rw [isNone HV.out.1]; rfl)) hb5
  | true =>
    have ht := isSome HV.out.1 HV.out.2
    obtain ⟨l1, l2, l3, l4, l5, l6⟩ := HB.out
    refine lineA_ok (L' := { L with types := L.types ++ [z], yv := .slice AV (L.types.length + 1) cV }) (st' := 3) ?_ hfin ⟨?_, ?_, ?_, ?_, ?_, fun g hg => ?_⟩ hb5
    · rw [stepW_some (it := .type z) (by rw [rd_type]; simp only; rw [ht]; rfl) (fun h => by cases h) HS.out.1]
      rfl
    all_goals first | omega | (simp only [List.length_append, List.length_singleton]; omega) | (have := l6 g hg; omega)
end Go.Proofs.YtobplngonkdbpaaGreatDoor.D
