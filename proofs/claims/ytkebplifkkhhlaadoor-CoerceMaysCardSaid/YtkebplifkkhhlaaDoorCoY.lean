/- Contracts: coerce.fits, Fits. -/
import Derived.Test.YtkebplifkkhhlaaDoorCoX
namespace Go.Proofs.YtkebplifkkhhlaaDoor.C
open Go.RowKit Go.Proofs.YtkebplifkkhhlaaDoor.B
open Go.Proofs.YtkebplifkkhhlaaDoor.T (Ty str strV arB ar bs isB isB_str Head_yes Parts_yes PartsR str_q byte_eq info9)
set_option linter.unusedVariables false
set_option linter.unusedSimpArgs false

theorem head_yesI (S : Ty) (W : World) (hS : S.ok) (h64 : S.code.length ≤ 64) : Calls Tryd.prog 128 #[.string (str S)] W fun e w' => e = .returned (.int .u8 (hI S.head)) ∧ W = w' := Head_yes S W hS h64
theorem kkD_ok {S : Ty} {i : Nat} (hS : S.ok) (h64 : S.code.length ≤ 64) : (kkD S i).ok ∧ (kkD S i).code.length ≤ 64 := by
  unfold kkD
  by_cases hi : i < (kk S).length
  · have e1 : (kk S)[i]? = some ((kk S).getD i qT) := by rw [List.getD_eq_getElem?_getD, List.getElem?_eq_getElem hi]; rfl
    have m1 := kk_mem (List.mem_of_getElem? e1)
    have := Ty.kid_code m1
    exact ⟨Ty.kids_ok hS m1, by omega⟩
  · rw [List.getD_eq_getElem?_getD, List.getElem?_eq_none (by omega)]
    exact ⟨by show arB 63 = 0; decide, by decide⟩

set_option maxRecDepth 100000 in
theorem fits_anyW (S T : Ty) (w : World) (hS : S.ok) (hT : T.ok) : Calls Tryd.prog 102 #[.iface 250 (.agg #[]), .string (str S), .string (str T)] w fun e w' => e = .returned (.bool (goesC .any S T)) ∧ Below w.heap.size w w' := by
  have q1 := str_q hS
  have q2 := str_q hT
  unfold goesC
  have a1 := tAF (.agg #[])
  have a2 := tAP (.agg #[])
  unfold zFail at a1
  unfold zPart at a2
  generalize (S.head == 63) = b1 at *
  generalize (T.head == 63) = b2 at *
  generalize str S = s at *
  generalize str T = t at *
  cases b1 <;> cases b2
  all_goals
    go_enter Tryd.func102, Tryd.ntmps102
    go_wp2_with fail
    go_ret
    exact ⟨rfl, bal (bal b0 _) _⟩

set_option maxRecDepth 100000 in
set_option maxHeartbeats 1000000 in
theorem fits_failW (p l f q : Int) (S T : Ty) (w : World) (ho : okC (.fail p l f q)) (hS : S.ok) (hT : T.ok) (hS64 : S.code.length ≤ 64) : Calls Tryd.prog 102 #[.iface 224 (.agg #[.int .i64 p, .int .i64 l, .int .u8 f, .int .u8 q]), .string (str S), .string (str T)] w fun e w' => e = .returned (.bool (goesC (.fail p l f q) S T)) ∧ Below w.heap.size w w' := by
  have hh : headB f = true := by obtain ⟨_, _, h1, _⟩ := ho; unfold headB; simpa using h1
  obtain ⟨g1, g2, g3, _⟩ := gT_ok hh
  have q1 := str_q hS
  have hg := fun W => groundC_any f W hh
  have hh1 := fun W => head_yesI S W hS hS64
  have hh2 := fun W => head_yesI (gT f) W g1 g3
  rw [g2] at hh2
  have a1 := tFF (.agg #[.int .i64 p, .int .i64 l, .int .u8 f, .int .u8 q])
  have a2 := tFP (.agg #[.int .i64 p, .int .i64 l, .int .u8 f, .int .u8 q])
  unfold zPart at a2
  unfold goesC
  have HG := Lib.hid hg
  have H1 := Lib.hid hh1
  have H2 := Lib.hid hh2
  generalize str (gT f) = g at *
  generalize (S.head == 63) = b1 at *
  obtain ⟨x, hx⟩ : ∃ x, hI S.head = x := ⟨_, rfl⟩
  rw [hx] at H1 ⊢
  generalize str S = s at *
  generalize str T = t at *
  clear hg hh1 hh2 hh ho g1 g2 g3 hx
  have hf1 : ((f : Int) != f) = false := by simp
  have hf2 : ((f : Int) == f) = true := by simp
  obtain ⟨W2, hW2⟩ : ∃ W2, (w.alloc (.cells #[.int .i64 p, .int .i64 l, .int .u8 f, .int .u8 q] 224)).alloc (.cells #[.int .i64 p, .bool false, .int .u8 f, .slice none 0 0] 227) = W2 := ⟨_, rfl⟩
  have hblk : Blk W2 (w.heap.size + 1) 227 #[.int .i64 p, .bool false, .int .u8 f, .slice none 0 0] := by
    rw [← hW2]
    have := Blk.new (w.alloc (.cells #[.int .i64 p, .int .i64 l, .int .u8 f, .int .u8 q] 224)) 227 #[.int .i64 p, .bool false, .int .u8 f, .slice none 0 0]
    rwa [World.size_alloc] at this
  have hb2 : Below w.heap.size w W2 := by rw [← hW2]; exact bal (bal b0 _) _
  have HK := Lib.hid (show ∀ W', Below W2.heap.size W2 W' → Below w.heap.size w W' ∧ W'.cell? ⟨w.heap.size + 1, 2, none⟩ = some (.int .u8 f) from fun W' hb' => ⟨bl hb2 hb', ((hblk.below hb' hblk.lt).cell 2).trans rfl⟩)
  have HB2 := Lib.hid hb2
  have HW2 := Lib.hid hW2
  clear hblk hb2 hW2
  by_cases hp : p = 0
  · subst hp
    rw [if_pos rfl]
    by_cases hxf : x = f
    · have e1 : (x == f) = true := by simpa using hxf
      have e2 : (x != f) = false := by simpa using hxf
      clear hxf
      go_enter Tryd.func102, Tryd.ntmps102
      go_wp2_with fail
      rw [HW2.out]
      refine wp_region_held_drew (S := (fun W' => Below w.heap.size w W' ∧ W'.cell? ⟨w.heap.size + 1, 2, none⟩ = some (.int .u8 f))) (by kernel_rfl) ?ss1 (fun hHeld => ?rr1)
      case ss1 => (try dsimp only); exact HK.out _ (Below.refl _ _).drew
      refine wpAnyH_take (i := 0) (oi := ⟨some 47, _, _, _, _, _⟩) (v := ?vv2) rfl (by kernel_rfl) (by kernel_rfl) (by kernel_rfl) (fun _ _ _ h => h) (Or.inl ⟨by rfl, ?yy2⟩) (by assumption) ?rr2
      case yy2 => (intro wq hSw; (try dsimp only at hSw); go_simp; try with_reducible rfl)
      try simp only [Act.put, List.setIfInBounds_toArray, List.set_cons_zero, List.set_cons_succ]
      refine wpAnyH_take (i := 2) (oi := ⟨some 49, _, _, _, _, _⟩) (v := ?vv3) rfl (by kernel_rfl) (by kernel_rfl) (by kernel_rfl) (fun _ _ _ h => h) (Or.inl ⟨by rfl, ?yy3⟩) (by assumption) ?rr3
      case yy3 => (intro wq hSw; (try dsimp only at hSw); go_simp; try with_reducible rfl)
      try simp only [Act.put, List.setIfInBounds_toArray, List.set_cons_zero, List.set_cons_succ]
      refine wpAnyH_take (i := 3) (oi := ⟨some 50, _, _, _, _, _⟩) (v := ?vv4) rfl (by kernel_rfl) (by kernel_rfl) (by kernel_rfl) (fun _ _ _ h => h) (Or.inl ⟨by rfl, ?yy4⟩) (by assumption) ?rr4
      case yy4 => (intro wq hSw; (try dsimp only at hSw); go_simp; try with_reducible rfl)
      try simp only [Act.put, List.setIfInBounds_toArray, List.set_cons_zero, List.set_cons_succ]
      refine wpAnyH_ready (rs := [1]) (by kernel_rfl) (by simp) ?_
      refine AllReadyH.cons (o := ⟨some 48, _, _, _, _, _⟩) rfl (fun K hK => ?_) AllReadyH.nil
      go_simp
      ((refine (H1.out _).mono ?_); rintro e w4 ⟨rfl, rfl⟩)
      refine hK.out _ _ ?ss5 (fun hHeld2 => ?rr5)
      case ss5 => (try dsimp only); exact hHeld
      clear hK K
      clear hHeld2
      try simp only [Act.put, List.setIfInBounds_toArray, List.set_cons_zero, List.set_cons_succ]
      refine wpAnyH_take (i := 4) (oi := ⟨some 51, _, _, _, _, _⟩) (v := ?vv6) rfl (by kernel_rfl) (by kernel_rfl) (by kernel_rfl) (fun _ _ _ h => h) (Or.inl ⟨by rfl, ?yy6⟩) (by assumption) ?rr6
      case yy6 => (intro wq hSw; (try dsimp only at hSw); go_simp; try with_reducible rfl)
      try simp only [Act.put, List.setIfInBounds_toArray, List.set_cons_zero, List.set_cons_succ]
      refine wpAnyH_take (i := 5) (oi := ⟨some 52, _, _, _, _, _⟩) (v := ?vv7) rfl (by kernel_rfl) (by kernel_rfl) (by kernel_rfl) (fun _ _ _ h => h) (Or.inl ⟨by rfl, ?yy7⟩) (by assumption) ?rr7
      case yy7 => (intro wq hSw; (try dsimp only at hSw); go_simp; try with_reducible rfl)
      try simp only [Act.put, List.setIfInBounds_toArray, List.set_cons_zero, List.set_cons_succ]
      refine wpAnyH_take (i := 6) (oi := ⟨some 53, _, _, _, _, _⟩) (v := ?vv8) rfl (by kernel_rfl) (by kernel_rfl) (by kernel_rfl) (fun _ _ _ h => h) (Or.inl ⟨by rfl, ?yy8⟩) (by assumption) ?rr8
      case yy8 => (intro wq hSw; (try dsimp only at hSw); go_simp; try with_reducible rfl)
      try simp only [Act.put, List.setIfInBounds_toArray, List.set_cons_zero, List.set_cons_succ]
      refine wpAnyH_take (i := 7) (oi := ⟨some 54, _, _, _, _, _⟩) (v := ?vv9) rfl (by kernel_rfl) (by kernel_rfl) (by kernel_rfl) (fun _ _ _ h => h) (Or.inl ⟨by rfl, ?yy9⟩) (by assumption) ?rr9
      case yy9 => (intro wq hSw; (try dsimp only at hSw); go_simp; try with_reducible rfl)
      try simp only [Act.put, List.setIfInBounds_toArray, List.set_cons_zero, List.set_cons_succ]
      refine wpAnyH_done (by kernel_rfl) ?_ _
      obtain ⟨hbq, k2⟩ := hHeld
      go_wp2_with fail
      refine wp_region_held_drew (S := (fun W' => Below w.heap.size w W' ∧ W'.cell? ⟨w.heap.size + 1, 2, none⟩ = some (.int .u8 f))) (by kernel_rfl) ?ss10 (fun hHeld => ?rr10)
      case ss10 => (try dsimp only); exact ⟨hbq.drew, k2⟩
      refine wpAnyH_take (i := 0) (oi := ⟨some 55, _, _, _, _, _⟩) (v := ?vv11) rfl (by kernel_rfl) (by kernel_rfl) (by kernel_rfl) (fun _ _ _ h => h) (Or.inl ⟨by rfl, ?yy11⟩) (by assumption) ?rr11
      case yy11 => (intro wq hSw; (try dsimp only at hSw); go_simp; try with_reducible rfl)
      try simp only [Act.put, List.setIfInBounds_toArray, List.set_cons_zero, List.set_cons_succ]
      refine wpAnyH_take (i := 2) (oi := ⟨some 57, _, _, _, _, _⟩) (v := ?vv12) rfl (by kernel_rfl) (by kernel_rfl) (by kernel_rfl) (fun _ _ _ h => h) (Or.inl ⟨by rfl, ?yy12⟩) (by assumption) ?rr12
      case yy12 => (intro wq hSw; (try dsimp only at hSw); go_simp; try with_reducible rfl)
      try simp only [Act.put, List.setIfInBounds_toArray, List.set_cons_zero, List.set_cons_succ]
      refine wpAnyH_take (i := 3) (oi := ⟨some 58, _, _, _, _, _⟩) (v := ?vv13) rfl (by kernel_rfl) (by kernel_rfl) (by kernel_rfl) (fun _ _ _ h => h) (Or.inl ⟨by rfl, ?yy13⟩) (by assumption) ?rr13
      case yy13 => (intro wq hSw; (try dsimp only at hSw); go_simp; try with_reducible rfl)
      try simp only [Act.put, List.setIfInBounds_toArray, List.set_cons_zero, List.set_cons_succ]
      refine wpAnyH_ready (rs := [1]) (by kernel_rfl) (by simp) ?_
      refine AllReadyH.cons (o := ⟨some 56, _, _, _, _, _⟩) rfl (fun K hK => ?_) AllReadyH.nil
      go_simp
      ((refine (H1.out _).mono ?_); rintro e w4 ⟨rfl, rfl⟩)
      refine hK.out _ _ ?ss14 (fun hHeld2 => ?rr14)
      case ss14 => (try dsimp only); exact hHeld
      clear hK K
      clear hHeld2
      try simp only [Act.put, List.setIfInBounds_toArray, List.set_cons_zero, List.set_cons_succ]
      refine wpAnyH_take (i := 4) (oi := ⟨some 59, _, _, _, _, _⟩) (v := ?vv15) rfl (by kernel_rfl) (by kernel_rfl) (by kernel_rfl) (fun _ _ _ h => h) (Or.inl ⟨by rfl, ?yy15⟩) (by assumption) ?rr15
      case yy15 => (intro wq hSw; (try dsimp only at hSw); go_simp; try with_reducible rfl)
      try simp only [Act.put, List.setIfInBounds_toArray, List.set_cons_zero, List.set_cons_succ]
      refine wpAnyH_take (i := 5) (oi := ⟨some 6, _, _, _, _, _⟩) (v := ?vv16) rfl (by kernel_rfl) (by kernel_rfl) (by kernel_rfl) (fun _ _ _ h => h) (Or.inl ⟨by rfl, ?yy16⟩) (by assumption) ?rr16
      case yy16 => (intro wq hSw; (try dsimp only at hSw); go_simp; try with_reducible rfl)
      try simp only [Act.put, List.setIfInBounds_toArray, List.set_cons_zero, List.set_cons_succ]
      refine wpAnyH_done (by kernel_rfl) ?_ _
      go_wp2_with fail
      go_ret
      exact ⟨by first | rfl | (rw [e1]; rfl), hHeld.1⟩
    · have e1 : (x == f) = false := by simpa using hxf
      have e2 : (x != f) = true := by simpa using hxf
      clear hxf
      go_enter Tryd.func102, Tryd.ntmps102
      go_wp2_with fail
      rw [HW2.out]
      refine wp_region_held_drew (S := (fun W' => Below w.heap.size w W' ∧ W'.cell? ⟨w.heap.size + 1, 2, none⟩ = some (.int .u8 f))) (by kernel_rfl) ?ss17 (fun hHeld => ?rr17)
      case ss17 => (try dsimp only); exact HK.out _ (Below.refl _ _).drew
      refine wpAnyH_take (i := 0) (oi := ⟨some 47, _, _, _, _, _⟩) (v := ?vv18) rfl (by kernel_rfl) (by kernel_rfl) (by kernel_rfl) (fun _ _ _ h => h) (Or.inl ⟨by rfl, ?yy18⟩) (by assumption) ?rr18
      case yy18 => (intro wq hSw; (try dsimp only at hSw); go_simp; try with_reducible rfl)
      try simp only [Act.put, List.setIfInBounds_toArray, List.set_cons_zero, List.set_cons_succ]
      refine wpAnyH_take (i := 2) (oi := ⟨some 49, _, _, _, _, _⟩) (v := ?vv19) rfl (by kernel_rfl) (by kernel_rfl) (by kernel_rfl) (fun _ _ _ h => h) (Or.inl ⟨by rfl, ?yy19⟩) (by assumption) ?rr19
      case yy19 => (intro wq hSw; (try dsimp only at hSw); go_simp; try with_reducible rfl)
      try simp only [Act.put, List.setIfInBounds_toArray, List.set_cons_zero, List.set_cons_succ]
      refine wpAnyH_take (i := 3) (oi := ⟨some 50, _, _, _, _, _⟩) (v := ?vv20) rfl (by kernel_rfl) (by kernel_rfl) (by kernel_rfl) (fun _ _ _ h => h) (Or.inl ⟨by rfl, ?yy20⟩) (by assumption) ?rr20
      case yy20 => (intro wq hSw; (try dsimp only at hSw); go_simp; try with_reducible rfl)
      try simp only [Act.put, List.setIfInBounds_toArray, List.set_cons_zero, List.set_cons_succ]
      refine wpAnyH_ready (rs := [1]) (by kernel_rfl) (by simp) ?_
      refine AllReadyH.cons (o := ⟨some 48, _, _, _, _, _⟩) rfl (fun K hK => ?_) AllReadyH.nil
      go_simp
      ((refine (H1.out _).mono ?_); rintro e w4 ⟨rfl, rfl⟩)
      refine hK.out _ _ ?ss21 (fun hHeld2 => ?rr21)
      case ss21 => (try dsimp only); exact hHeld
      clear hK K
      clear hHeld2
      try simp only [Act.put, List.setIfInBounds_toArray, List.set_cons_zero, List.set_cons_succ]
      refine wpAnyH_take (i := 4) (oi := ⟨some 51, _, _, _, _, _⟩) (v := ?vv22) rfl (by kernel_rfl) (by kernel_rfl) (by kernel_rfl) (fun _ _ _ h => h) (Or.inl ⟨by rfl, ?yy22⟩) (by assumption) ?rr22
      case yy22 => (intro wq hSw; (try dsimp only at hSw); go_simp; try with_reducible rfl)
      try simp only [Act.put, List.setIfInBounds_toArray, List.set_cons_zero, List.set_cons_succ]
      refine wpAnyH_take (i := 5) (oi := ⟨some 52, _, _, _, _, _⟩) (v := ?vv23) rfl (by kernel_rfl) (by kernel_rfl) (by kernel_rfl) (fun _ _ _ h => h) (Or.inl ⟨by rfl, ?yy23⟩) (by assumption) ?rr23
      case yy23 => (intro wq hSw; (try dsimp only at hSw); go_simp; try with_reducible rfl)
      try simp only [Act.put, List.setIfInBounds_toArray, List.set_cons_zero, List.set_cons_succ]
      refine wpAnyH_take (i := 6) (oi := ⟨some 53, _, _, _, _, _⟩) (v := undef) rfl (by kernel_rfl) (by kernel_rfl) (by kernel_rfl) (fun _ _ _ h => h) (Or.inr ⟨by rfl, rfl⟩) (by assumption) ?rr24
      try simp only [Act.put, List.setIfInBounds_toArray, List.set_cons_zero, List.set_cons_succ]
      refine wpAnyH_take (i := 7) (oi := ⟨some 54, _, _, _, _, _⟩) (v := ?vv25) rfl (by kernel_rfl) (by kernel_rfl) (by kernel_rfl) (fun _ _ _ h => h) (Or.inl ⟨by rfl, ?yy25⟩) (by assumption) ?rr25
      case yy25 => (intro wq hSw; (try dsimp only at hSw); go_simp; try with_reducible rfl)
      try simp only [Act.put, List.setIfInBounds_toArray, List.set_cons_zero, List.set_cons_succ]
      refine wpAnyH_done (by kernel_rfl) ?_ _
      obtain ⟨hbq, k2⟩ := hHeld
      go_wp2_with fail
      refine wp_region_held_drew (S := (fun W' => Below w.heap.size w W' ∧ W'.cell? ⟨w.heap.size + 1, 2, none⟩ = some (.int .u8 f))) (by kernel_rfl) ?ss26 (fun hHeld => ?rr26)
      case ss26 => (try dsimp only); exact ⟨hbq.drew, k2⟩
      refine wpAnyH_take (i := 0) (oi := ⟨some 55, _, _, _, _, _⟩) (v := ?vv27) rfl (by kernel_rfl) (by kernel_rfl) (by kernel_rfl) (fun _ _ _ h => h) (Or.inl ⟨by rfl, ?yy27⟩) (by assumption) ?rr27
      case yy27 => (intro wq hSw; (try dsimp only at hSw); go_simp; try with_reducible rfl)
      try simp only [Act.put, List.setIfInBounds_toArray, List.set_cons_zero, List.set_cons_succ]
      refine wpAnyH_take (i := 2) (oi := ⟨some 57, _, _, _, _, _⟩) (v := ?vv28) rfl (by kernel_rfl) (by kernel_rfl) (by kernel_rfl) (fun _ _ _ h => h) (Or.inl ⟨by rfl, ?yy28⟩) (by assumption) ?rr28
      case yy28 => (intro wq hSw; (try dsimp only at hSw); go_simp; try with_reducible rfl)
      try simp only [Act.put, List.setIfInBounds_toArray, List.set_cons_zero, List.set_cons_succ]
      refine wpAnyH_take (i := 3) (oi := ⟨some 58, _, _, _, _, _⟩) (v := ?vv29) rfl (by kernel_rfl) (by kernel_rfl) (by kernel_rfl) (fun _ _ _ h => h) (Or.inl ⟨by rfl, ?yy29⟩) (by assumption) ?rr29
      case yy29 => (intro wq hSw; (try dsimp only at hSw); go_simp; try with_reducible rfl)
      try simp only [Act.put, List.setIfInBounds_toArray, List.set_cons_zero, List.set_cons_succ]
      refine wpAnyH_ready (rs := [1]) (by kernel_rfl) (by simp) ?_
      refine AllReadyH.cons (o := ⟨some 56, _, _, _, _, _⟩) rfl (fun K hK => ?_) AllReadyH.nil
      go_simp
      ((refine (H1.out _).mono ?_); rintro e w4 ⟨rfl, rfl⟩)
      refine hK.out _ _ ?ss30 (fun hHeld2 => ?rr30)
      case ss30 => (try dsimp only); exact hHeld
      clear hK K
      clear hHeld2
      try simp only [Act.put, List.setIfInBounds_toArray, List.set_cons_zero, List.set_cons_succ]
      refine wpAnyH_take (i := 4) (oi := ⟨some 59, _, _, _, _, _⟩) (v := ?vv31) rfl (by kernel_rfl) (by kernel_rfl) (by kernel_rfl) (fun _ _ _ h => h) (Or.inl ⟨by rfl, ?yy31⟩) (by assumption) ?rr31
      case yy31 => (intro wq hSw; (try dsimp only at hSw); go_simp; try with_reducible rfl)
      try simp only [Act.put, List.setIfInBounds_toArray, List.set_cons_zero, List.set_cons_succ]
      refine wpAnyH_take (i := 5) (oi := ⟨some 6, _, _, _, _, _⟩) (v := ?vv32) rfl (by kernel_rfl) (by kernel_rfl) (by kernel_rfl) (fun _ _ _ h => h) (Or.inl ⟨by rfl, ?yy32⟩) (by assumption) ?rr32
      case yy32 => (intro wq hSw; (try dsimp only at hSw); go_simp; try with_reducible rfl)
      try simp only [Act.put, List.setIfInBounds_toArray, List.set_cons_zero, List.set_cons_succ]
      refine wpAnyH_done (by kernel_rfl) ?_ _
      go_wp2_with fail
      go_ret
      exact ⟨by first | rfl | (rw [e1]; rfl), hHeld.1⟩
  · have hp1 : (p != 0) = true := by simpa using hp
    rw [if_neg hp]
    clear hp
    cases b1
    · go_enter Tryd.func102, Tryd.ntmps102
      go_wp2_with fail
      go_ret
      exact ⟨rfl, bal (bal b0 _) _⟩
    · go_enter Tryd.func102, Tryd.ntmps102
      go_wp2_with fail
      (refine (HG.out _).mono ?_); rintro ev w3 ⟨rfl, hb3⟩
      rw [HW2.out] at hb3
      go_wp2_with fail
      refine wp_region_held_drew (S := (fun W' => Below w.heap.size w W' ∧ W'.cell? ⟨w.heap.size + 1, 2, none⟩ = some (.int .u8 f))) (by kernel_rfl) ?ss33 (fun hHeld => ?rr33)
      case ss33 => (try dsimp only); exact HK.out _ hb3.drew
      refine wpAnyH_take (i := 0) (oi := ⟨some 47, _, _, _, _, _⟩) (v := ?vv34) rfl (by kernel_rfl) (by kernel_rfl) (by kernel_rfl) (fun _ _ _ h => h) (Or.inl ⟨by rfl, ?yy34⟩) (by assumption) ?rr34
      case yy34 => (intro wq hSw; (try dsimp only at hSw); go_simp; try with_reducible rfl)
      try simp only [Act.put, List.setIfInBounds_toArray, List.set_cons_zero, List.set_cons_succ]
      refine wpAnyH_take (i := 2) (oi := ⟨some 49, _, _, _, _, _⟩) (v := ?vv35) rfl (by kernel_rfl) (by kernel_rfl) (by kernel_rfl) (fun _ _ _ h => h) (Or.inl ⟨by rfl, ?yy35⟩) (by assumption) ?rr35
      case yy35 => (intro wq hSw; (try dsimp only at hSw); go_simp; try with_reducible rfl)
      try simp only [Act.put, List.setIfInBounds_toArray, List.set_cons_zero, List.set_cons_succ]
      refine wpAnyH_take (i := 3) (oi := ⟨some 50, _, _, _, _, _⟩) (v := ?vv36) rfl (by kernel_rfl) (by kernel_rfl) (by kernel_rfl) (fun _ _ _ h => h) (Or.inl ⟨by rfl, ?yy36⟩) (by assumption) ?rr36
      case yy36 => (intro wq hSw; (try dsimp only at hSw); go_simp; try with_reducible rfl)
      try simp only [Act.put, List.setIfInBounds_toArray, List.set_cons_zero, List.set_cons_succ]
      refine wpAnyH_ready (rs := [1]) (by kernel_rfl) (by simp) ?_
      refine AllReadyH.cons (o := ⟨some 48, _, _, _, _, _⟩) rfl (fun K hK => ?_) AllReadyH.nil
      go_simp
      ((refine (H2.out _).mono ?_); rintro e w4 ⟨rfl, rfl⟩)
      refine hK.out _ _ ?ss37 (fun hHeld2 => ?rr37)
      case ss37 => (try dsimp only); exact hHeld
      clear hK K
      clear hHeld2
      try simp only [Act.put, List.setIfInBounds_toArray, List.set_cons_zero, List.set_cons_succ]
      refine wpAnyH_take (i := 4) (oi := ⟨some 51, _, _, _, _, _⟩) (v := ?vv38) rfl (by kernel_rfl) (by kernel_rfl) (by kernel_rfl) (fun _ _ _ h => h) (Or.inl ⟨by rfl, ?yy38⟩) (by assumption) ?rr38
      case yy38 => (intro wq hSw; (try dsimp only at hSw); go_simp; try with_reducible rfl)
      try simp only [Act.put, List.setIfInBounds_toArray, List.set_cons_zero, List.set_cons_succ]
      refine wpAnyH_take (i := 5) (oi := ⟨some 52, _, _, _, _, _⟩) (v := ?vv39) rfl (by kernel_rfl) (by kernel_rfl) (by kernel_rfl) (fun _ _ _ h => h) (Or.inl ⟨by rfl, ?yy39⟩) (by assumption) ?rr39
      case yy39 => (intro wq hSw; (try dsimp only at hSw); go_simp; try with_reducible rfl)
      try simp only [Act.put, List.setIfInBounds_toArray, List.set_cons_zero, List.set_cons_succ]
      refine wpAnyH_take (i := 6) (oi := ⟨some 53, _, _, _, _, _⟩) (v := ?vv40) rfl (by kernel_rfl) (by kernel_rfl) (by kernel_rfl) (fun _ _ _ h => h) (Or.inl ⟨by rfl, ?yy40⟩) (by assumption) ?rr40
      case yy40 => (intro wq hSw; (try dsimp only at hSw); go_simp; try with_reducible rfl)
      try simp only [Act.put, List.setIfInBounds_toArray, List.set_cons_zero, List.set_cons_succ]
      refine wpAnyH_take (i := 7) (oi := ⟨some 54, _, _, _, _, _⟩) (v := ?vv41) rfl (by kernel_rfl) (by kernel_rfl) (by kernel_rfl) (fun _ _ _ h => h) (Or.inl ⟨by rfl, ?yy41⟩) (by assumption) ?rr41
      case yy41 => (intro wq hSw; (try dsimp only at hSw); go_simp; try with_reducible rfl)
      try simp only [Act.put, List.setIfInBounds_toArray, List.set_cons_zero, List.set_cons_succ]
      refine wpAnyH_done (by kernel_rfl) ?_ _
      obtain ⟨hbq, k2⟩ := hHeld
      go_wp2_with fail
      refine wp_region_held_drew (S := (fun W' => Below w.heap.size w W' ∧ W'.cell? ⟨w.heap.size + 1, 2, none⟩ = some (.int .u8 f))) (by kernel_rfl) ?ss42 (fun hHeld => ?rr42)
      case ss42 => (try dsimp only); exact ⟨hbq.drew, k2⟩
      refine wpAnyH_take (i := 0) (oi := ⟨some 55, _, _, _, _, _⟩) (v := ?vv43) rfl (by kernel_rfl) (by kernel_rfl) (by kernel_rfl) (fun _ _ _ h => h) (Or.inl ⟨by rfl, ?yy43⟩) (by assumption) ?rr43
      case yy43 => (intro wq hSw; (try dsimp only at hSw); go_simp; try with_reducible rfl)
      try simp only [Act.put, List.setIfInBounds_toArray, List.set_cons_zero, List.set_cons_succ]
      refine wpAnyH_take (i := 2) (oi := ⟨some 57, _, _, _, _, _⟩) (v := ?vv44) rfl (by kernel_rfl) (by kernel_rfl) (by kernel_rfl) (fun _ _ _ h => h) (Or.inl ⟨by rfl, ?yy44⟩) (by assumption) ?rr44
      case yy44 => (intro wq hSw; (try dsimp only at hSw); go_simp; try with_reducible rfl)
      try simp only [Act.put, List.setIfInBounds_toArray, List.set_cons_zero, List.set_cons_succ]
      refine wpAnyH_take (i := 3) (oi := ⟨some 58, _, _, _, _, _⟩) (v := ?vv45) rfl (by kernel_rfl) (by kernel_rfl) (by kernel_rfl) (fun _ _ _ h => h) (Or.inl ⟨by rfl, ?yy45⟩) (by assumption) ?rr45
      case yy45 => (intro wq hSw; (try dsimp only at hSw); go_simp; try with_reducible rfl)
      try simp only [Act.put, List.setIfInBounds_toArray, List.set_cons_zero, List.set_cons_succ]
      refine wpAnyH_ready (rs := [1]) (by kernel_rfl) (by simp) ?_
      refine AllReadyH.cons (o := ⟨some 56, _, _, _, _, _⟩) rfl (fun K hK => ?_) AllReadyH.nil
      go_simp
      ((refine (H2.out _).mono ?_); rintro e w4 ⟨rfl, rfl⟩)
      refine hK.out _ _ ?ss46 (fun hHeld2 => ?rr46)
      case ss46 => (try dsimp only); exact hHeld
      clear hK K
      clear hHeld2
      try simp only [Act.put, List.setIfInBounds_toArray, List.set_cons_zero, List.set_cons_succ]
      refine wpAnyH_take (i := 4) (oi := ⟨some 59, _, _, _, _, _⟩) (v := ?vv47) rfl (by kernel_rfl) (by kernel_rfl) (by kernel_rfl) (fun _ _ _ h => h) (Or.inl ⟨by rfl, ?yy47⟩) (by assumption) ?rr47
      case yy47 => (intro wq hSw; (try dsimp only at hSw); go_simp; try with_reducible rfl)
      try simp only [Act.put, List.setIfInBounds_toArray, List.set_cons_zero, List.set_cons_succ]
      refine wpAnyH_take (i := 5) (oi := ⟨some 6, _, _, _, _, _⟩) (v := ?vv48) rfl (by kernel_rfl) (by kernel_rfl) (by kernel_rfl) (fun _ _ _ h => h) (Or.inl ⟨by rfl, ?yy48⟩) (by assumption) ?rr48
      case yy48 => (intro wq hSw; (try dsimp only at hSw); go_simp; try with_reducible rfl)
      try simp only [Act.put, List.setIfInBounds_toArray, List.set_cons_zero, List.set_cons_succ]
      refine wpAnyH_done (by kernel_rfl) ?_ _
      go_wp2_with fail
      go_ret
      exact ⟨by first | rfl | (rw [hf2]), hHeld.1⟩

set_option maxRecDepth 100000 in
set_option maxHeartbeats 8000000 in
theorem fits_partW (p : Int) (j : Bool) (h : Int) (a b : Co) (A : Option Addr) (n c : Nat) (va vb : Value) (C : Nat → Prop) (S T : Ty) (w : World) (hh : headB h = true) (hn : opsN h = n) (hc1 : n ≤ c) (hc2 : c ≤ maxLen)
    (hk : Kd w C A ([va, vb].take n)) (hva : VCo w C a va) (hvb : VCo w C b vb) (hS : S.ok) (hT : T.ok) (hS64 : S.code.length ≤ 64) (hT64 : T.code.length ≤ 64)
    (ih : ∀ m v S T W, VCo W C (kidT a b m) v → S.ok → T.ok → S.code.length ≤ 64 → T.code.length ≤ 64 → Calls Tryd.prog 102 #[v, .string (str S), .string (str T)] W fun e w' => e = .returned (.bool (goesC (kidT a b m) S T)) ∧ Below W.heap.size W w') :
    Calls Tryd.prog 102 #[.iface 227 (.agg #[.int .i64 p, .bool j, .int .u8 h, .slice A n c]), .string (str S), .string (str T)] w fun e w' => e = .returned (.bool (goesC (.part p j h a b) S T)) ∧ Below w.heap.size w w' := by
  have a1 := tPF (.agg #[.int .i64 p, .bool j, .int .u8 h, .slice A n c])
  have a2 := tPP (.agg #[.int .i64 p, .bool j, .int .u8 h, .slice A n c])
  unfold zFail at a1
  obtain ⟨R, hR⟩ : ∃ R, goesC (.part p j h a b) S T = R := ⟨_, rfl⟩
  have hiff := goes_part (p := p) (j := j) (h := h) (a := a) (b := b) (S := S) (T := T)
  rw [hR, hn] at hiff
  rw [hR]
  have q1 := str_q hS
  have q2 := str_q hT
  have hg := fun W => groundC_any h W hh
  obtain ⟨g1, g2, g3, g4, _⟩ := gT_ok hh
  obtain ⟨W2, hW2⟩ : ∃ W2, (w.alloc (.cells #[.int .i64 0, .int .i64 0, .int .u8 0, .int .u8 0] 224)).alloc (.cells #[.int .i64 p, .bool j, .int .u8 h, .slice A n c] 227) = W2 := ⟨_, rfl⟩
  have hblk : Blk W2 (w.heap.size + 1) 227 #[.int .i64 p, .bool j, .int .u8 h, .slice A n c] := by
    rw [← hW2]
    have := Blk.new (w.alloc (.cells #[.int .i64 0, .int .i64 0, .int .u8 0, .int .u8 0] 224)) 227 #[.int .i64 p, .bool j, .int .u8 h, .slice A n c]
    rwa [World.size_alloc] at this
  have hb2 : Below w.heap.size w W2 := by rw [← hW2]; exact bal (bal b0 _) _
  have hs2 : W2.heap.size = w.heap.size + 2 := by rw [← hW2]; simp only [World.size_alloc]
  have HK := Lib.hid (show ∀ W', Below W2.heap.size W2 W' → Below w.heap.size w W' ∧ W'.cell? ⟨w.heap.size + 1, 0, none⟩ = some (.int .i64 p) ∧ W'.cell? ⟨w.heap.size + 1, 1, none⟩ = some (.bool j) ∧ W'.cell? ⟨w.heap.size + 1, 2, none⟩ = some (.int .u8 h) ∧ W'.cell? ⟨w.heap.size + 1, 3, none⟩ = some (.slice A n c) from fun W' hb' =>
    ⟨bl hb2 hb', ((hblk.below hb' hblk.lt).cell 0).trans rfl, ((hblk.below hb' hblk.lt).cell 1).trans rfl, ((hblk.below hb' hblk.lt).cell 2).trans rfl, ((hblk.below hb' hblk.lt).cell 3).trans rfl⟩)
  have HB2 := Lib.hid (And.intro hb2 hs2)
  have HW2 := Lib.hid hW2
  have HIFF := Lib.hid hiff
  have HG := Lib.hid hg
  have HIH := Lib.hid ih
  have HKV := Lib.hid (And.intro hk (And.intro hva hvb))
  have HN := Lib.hid hn
  obtain ⟨_, k0, k1, k2, k3⟩ := HK.out W2 b0
  clear hblk hb2 hs2 hW2 hiff hg ih hk hva hvb hR hn
  have hnb : n ≤ 2 := by have := HN.out; have := opsN_le h; omega
  by_cases hA : p = 0 ∨ S.head = 63
  · -- the type that it begins at
    obtain ⟨S', hS'⟩ : ∃ S', srcT p h S = S' := ⟨_, rfl⟩
    have hS'ok : S'.ok ∧ S'.code.length ≤ 64 := by
      rw [← hS']; unfold srcT
      split
      · exact ⟨hS, hS64⟩
      · exact ⟨g1, g3⟩
    have hpath : (p = 0 ∧ S' = S) ∨ ((p != 0) = true ∧ S.head = 63 ∧ S' = gT h) := by
      unfold srcT at hS'
      by_cases hp : p = 0
      · rw [if_pos hp] at hS'; exact .inl ⟨hp, hS'.symm⟩
      · rw [if_neg hp] at hS'; exact .inr ⟨by simpa using hp, hA.resolve_left hp, hS'.symm⟩
    rw [hS'] at HIFF
    have HS'OK := Lib.hid hS'ok
    obtain ⟨s', hs'⟩ : ∃ x, str S' = x := ⟨_, rfl⟩
    obtain ⟨sg, hsg⟩ : ∃ x, str (gT h) = x := ⟨_, rfl⟩
    rw [hsg] at HG
    have HSG := Lib.hid hsg
    have hpath2 : (p = 0 ∧ s' = str S) ∨ ((p != 0) = true ∧ (S.head == 63) = true ∧ s' = sg) := by
      rcases hpath with ⟨e1, e2⟩ | ⟨e1, e2, e3⟩
      · exact .inl ⟨e1, by rw [← hs', e2]⟩
      · exact .inr ⟨e1, by simpa using e2, by rw [← hs', e3, hsg]⟩
    have HHD := Lib.hid (fun W => head_yesI S' W hS'ok.1 hS'ok.2)
    have HPS := Lib.hid (fun W => Parts_yes S' W hS'ok.1 hS'ok.2)
    unfold PartsR at HPS
    rw [hs'] at HHD HPS
    have HPA := Lib.hid hpath2
    obtain ⟨hS1, hhS1⟩ : ∃ x, hI S'.head = x := ⟨_, rfl⟩
    rw [hhS1] at HHD HIFF
    have HHS1 := Lib.hid hhS1
    generalize (S.head == 63) = bS at *
    generalize hsS : str S = s at *
    generalize hsT : str T = t at *
    have HST := Lib.hid hsT
    clear hS'ok hpath hpath2 hhS1 hsg hs' hsT hsS
    go_enter Tryd.func102, Tryd.ntmps102
    go_upto_if 41 with fail
    rw [HW2.out]
    go_cut [1] from 41 to 47 (fun x wx => x = .string s' ∧ Below W2.heap.size W2 wx)
    case first =>
      have hp2 := HPA.out
      rcases hp2 with ⟨e1, e2⟩ | ⟨e1, e2, e3⟩
      · subst e1 e2
        go_wp2_with fail
        go_meet
        case rel => exact ⟨rfl, b0⟩
      · subst e2 e3
        go_wp2_with fail
        (refine (HG.out _).mono ?_); rintro ev w3 ⟨rfl, hb3⟩
        go_wp2_with fail
        go_meet
        case rel => exact ⟨rfl, hb3⟩
    case rest =>
      obtain ⟨rfl, hbw⟩ := hcut
      have HBW := Lib.hid hbw
      clear hbw k0 k1 k2 k3 q1 HPA HW2
      by_cases hSe : hS1 = h
      · subst hSe
        obtain ⟨_, k0, k1, k2, k3⟩ := HK.out wc HBW.out
        have hne : (hS1 != hS1) = false := by simp
        go_wp2_with fail
        refine wp_region_held_drew (S := (fun W' => Below W2.heap.size W2 W' ∧ W'.cell? ⟨w.heap.size + 1, 2, none⟩ = some (.int .u8 hS1))) (by kernel_rfl) ?ss49 (fun hHeld => ?rr49)
        case ss49 => (try dsimp only); exact ⟨HBW.out.drew, k2⟩
        refine wpAnyH_take (i := 0) (oi := ⟨some 47, _, _, _, _, _⟩) (v := ?vv50) rfl (by kernel_rfl) (by kernel_rfl) (by kernel_rfl) (fun _ _ _ h => h) (Or.inl ⟨by rfl, ?yy50⟩) (by assumption) ?rr50
        case yy50 => (intro wq hSw; (try dsimp only at hSw); go_simp; try with_reducible rfl)
        try simp only [Act.put, List.setIfInBounds_toArray, List.set_cons_zero, List.set_cons_succ]
        refine wpAnyH_take (i := 2) (oi := ⟨some 49, _, _, _, _, _⟩) (v := ?vv51) rfl (by kernel_rfl) (by kernel_rfl) (by kernel_rfl) (fun _ _ _ h => h) (Or.inl ⟨by rfl, ?yy51⟩) (by assumption) ?rr51
        case yy51 => (intro wq hSw; (try dsimp only at hSw); go_simp; try with_reducible rfl)
        try simp only [Act.put, List.setIfInBounds_toArray, List.set_cons_zero, List.set_cons_succ]
        refine wpAnyH_take (i := 3) (oi := ⟨some 50, _, _, _, _, _⟩) (v := ?vv52) rfl (by kernel_rfl) (by kernel_rfl) (by kernel_rfl) (fun _ _ _ h => h) (Or.inl ⟨by rfl, ?yy52⟩) (by assumption) ?rr52
        case yy52 => (intro wq hSw; (try dsimp only at hSw); go_simp; try with_reducible rfl)
        try simp only [Act.put, List.setIfInBounds_toArray, List.set_cons_zero, List.set_cons_succ]
        refine wpAnyH_ready (rs := [1]) (by kernel_rfl) (by simp) ?_
        refine AllReadyH.cons (o := ⟨some 48, _, _, _, _, _⟩) rfl (fun K hK => ?_) AllReadyH.nil
        go_simp
        ((refine (HHD.out _).mono ?_); rintro e w4 ⟨rfl, rfl⟩)
        refine hK.out _ _ ?ss53 (fun hHeld2 => ?rr53)
        case ss53 => (try dsimp only); exact hHeld
        clear hK K
        clear hHeld2
        try simp only [Act.put, List.setIfInBounds_toArray, List.set_cons_zero, List.set_cons_succ]
        refine wpAnyH_take (i := 4) (oi := ⟨some 51, _, _, _, _, _⟩) (v := ?vv54) rfl (by kernel_rfl) (by kernel_rfl) (by kernel_rfl) (fun _ _ _ h => h) (Or.inl ⟨by rfl, ?yy54⟩) (by assumption) ?rr54
        case yy54 => (intro wq hSw; (try dsimp only at hSw); go_simp; try with_reducible rfl)
        try simp only [Act.put, List.setIfInBounds_toArray, List.set_cons_zero, List.set_cons_succ]
        refine wpAnyH_take (i := 5) (oi := ⟨some 52, _, _, _, _, _⟩) (v := ?vv55) rfl (by kernel_rfl) (by kernel_rfl) (by kernel_rfl) (fun _ _ _ h => h) (Or.inl ⟨by rfl, ?yy55⟩) (by assumption) ?rr55
        case yy55 => (intro wq hSw; (try dsimp only at hSw); go_simp; try with_reducible rfl)
        try simp only [Act.put, List.setIfInBounds_toArray, List.set_cons_zero, List.set_cons_succ]
        refine wpAnyH_take (i := 6) (oi := ⟨some 53, _, _, _, _, _⟩) (v := ?vv56) rfl (by kernel_rfl) (by kernel_rfl) (by kernel_rfl) (fun _ _ _ h => h) (Or.inl ⟨by rfl, ?yy56⟩) (by assumption) ?rr56
        case yy56 => (intro wq hSw; (try dsimp only at hSw); go_simp; try with_reducible rfl)
        try simp only [Act.put, List.setIfInBounds_toArray, List.set_cons_zero, List.set_cons_succ]
        refine wpAnyH_take (i := 7) (oi := ⟨some 54, _, _, _, _, _⟩) (v := ?vv57) rfl (by kernel_rfl) (by kernel_rfl) (by kernel_rfl) (fun _ _ _ h => h) (Or.inl ⟨by rfl, ?yy57⟩) (by assumption) ?rr57
        case yy57 => (intro wq hSw; (try dsimp only at hSw); go_simp; try with_reducible rfl)
        try simp only [Act.put, List.setIfInBounds_toArray, List.set_cons_zero, List.set_cons_succ]
        refine wpAnyH_done (by kernel_rfl) ?_ _
        have HB3 := Lib.hid hHeld.1
        clear hHeld k0 k1 k2 k3
        obtain ⟨W3, hW3⟩ : ∃ W3, wc.drew = W3 := ⟨_, rfl⟩
        rw [hW3] at HB3 ⊢
        clear hW3
        obtain ⟨_, k0, k1, k2, k3⟩ := HK.out W3 HB3.out
        by_cases hJ : j = false ∨ T.head = 63
        · obtain ⟨T', hT'⟩ : ∃ T', dstT j hS1 T = T' := ⟨_, rfl⟩
          have hT'ok : T'.ok ∧ T'.code.length ≤ 64 := by
            rw [← hT']; unfold dstT
            split
            · exact ⟨g1, g3⟩
            · exact ⟨hT, hT64⟩
          have hpathT : (j = false ∧ T' = T) ∨ (j = true ∧ T.head = 63 ∧ T' = gT hS1) := by
            unfold dstT at hT'
            cases j
            · exact .inl ⟨rfl, by rw [if_neg (by simp)] at hT'; exact hT'.symm⟩
            · exact .inr ⟨rfl, hJ.resolve_left (by simp), by rw [if_pos rfl] at hT'; exact hT'.symm⟩
          have hiff2 := HIFF.out
          rw [hT'] at hiff2
          have HT'OK := Lib.hid hT'ok
          obtain ⟨t', ht'⟩ : ∃ x, str T' = x := ⟨_, rfl⟩
          have hst := HST.out
          have hpathT2 : (j = false ∧ t' = t) ∨ (j = true ∧ (T.head == 63) = true ∧ t' = sg) := by
            rcases hpathT with ⟨e1, e2⟩ | ⟨e1, e2, e3⟩
            · exact .inl ⟨e1, by rw [← ht', e2]; exact hst⟩
            · exact .inr ⟨e1, by simpa using e2, by rw [← ht', e3]; exact HSG.out⟩
          have HHT := Lib.hid (fun W => head_yesI T' W hT'ok.1 hT'ok.2)
          have HPT := Lib.hid (fun W => Parts_yes T' W hT'ok.1 hT'ok.2)
          unfold PartsR at HPT
          rw [ht'] at HHT HPT
          have HPA := Lib.hid hpathT2
          obtain ⟨hT1, hhT1⟩ : ∃ x, hI T'.head = x := ⟨_, rfl⟩
          rw [hhT1] at HHT hiff2
          have HIFF2 := Lib.hid hiff2
          have HHT1 := Lib.hid hhT1
          generalize (T.head == 63) = bT at *
          clear hT'ok hpathT hpathT2 hhT1 ht' hiff2 hst
          go_upto_if 61 with fail
          go_cut [2] from 61 to 67 (fun x wx => x = .string t' ∧ Below W2.heap.size W2 wx)
          case first =>
            have hp2 := HPA.out
            rcases hp2 with ⟨e1, e2⟩ | ⟨e1, e2, e3⟩
            · subst e1 e2
              go_wp2_with fail
              go_meet
              case rel => exact ⟨rfl, HB3.out⟩
            · subst e1 e2 e3
              go_wp2_with fail
              (refine (HG.out _).mono ?_); rintro ev w3 ⟨rfl, hb3⟩
              go_wp2_with fail
              go_meet
              case rel => exact ⟨rfl, bl HB3.out hb3⟩
          case rest =>
            obtain ⟨rfl, hbw2⟩ := hcut
            have HBW2 := Lib.hid hbw2
            clear hbw2 k0 k1 k2 k3 HPA
            obtain ⟨_, k0, k1, k2, k3⟩ := HK.out wc HBW2.out
            by_cases hTe : hT1 = hS1
            · subst hTe
              go_wp2_with fail
              refine wp_region_held_drew (S := (fun W' => Below W2.heap.size W2 W' ∧ W'.cell? ⟨w.heap.size + 1, 2, none⟩ = some (.int .u8 hT1))) (by kernel_rfl) ?ss58 (fun hHeld => ?rr58)
              case ss58 => (try dsimp only); exact ⟨HBW2.out.drew, k2⟩
              refine wpAnyH_take (i := 0) (oi := ⟨some 67, _, _, _, _, _⟩) (v := ?vv59) rfl (by kernel_rfl) (by kernel_rfl) (by kernel_rfl) (fun _ _ _ h => h) (Or.inl ⟨by rfl, ?yy59⟩) (by assumption) ?rr59
              case yy59 => (intro wq hSw; (try dsimp only at hSw); go_simp; try with_reducible rfl)
              try simp only [Act.put, List.setIfInBounds_toArray, List.set_cons_zero, List.set_cons_succ]
              refine wpAnyH_take (i := 2) (oi := ⟨some 69, _, _, _, _, _⟩) (v := ?vv60) rfl (by kernel_rfl) (by kernel_rfl) (by kernel_rfl) (fun _ _ _ h => h) (Or.inl ⟨by rfl, ?yy60⟩) (by assumption) ?rr60
              case yy60 => (intro wq hSw; (try dsimp only at hSw); go_simp; try with_reducible rfl)
              try simp only [Act.put, List.setIfInBounds_toArray, List.set_cons_zero, List.set_cons_succ]
              refine wpAnyH_take (i := 3) (oi := ⟨some 70, _, _, _, _, _⟩) (v := ?vv61) rfl (by kernel_rfl) (by kernel_rfl) (by kernel_rfl) (fun _ _ _ h => h) (Or.inl ⟨by rfl, ?yy61⟩) (by assumption) ?rr61
              case yy61 => (intro wq hSw; (try dsimp only at hSw); go_simp; try with_reducible rfl)
              try simp only [Act.put, List.setIfInBounds_toArray, List.set_cons_zero, List.set_cons_succ]
              refine wpAnyH_ready (rs := [1]) (by kernel_rfl) (by simp) ?_
              refine AllReadyH.cons (o := ⟨some 68, _, _, _, _, _⟩) rfl (fun K hK => ?_) AllReadyH.nil
              go_simp
              ((refine (HHT.out _).mono ?_); rintro e w4 ⟨rfl, rfl⟩)
              refine hK.out _ _ ?ss62 (fun hHeld2 => ?rr62)
              case ss62 => (try dsimp only); exact hHeld
              clear hK K
              clear hHeld2
              try simp only [Act.put, List.setIfInBounds_toArray, List.set_cons_zero, List.set_cons_succ]
              refine wpAnyH_take (i := 4) (oi := ⟨some 71, _, _, _, _, _⟩) (v := ?vv63) rfl (by kernel_rfl) (by kernel_rfl) (by kernel_rfl) (fun _ _ _ h => h) (Or.inl ⟨by rfl, ?yy63⟩) (by assumption) ?rr63
              case yy63 => (intro wq hSw; (try dsimp only at hSw); go_simp; try with_reducible rfl)
              try simp only [Act.put, List.setIfInBounds_toArray, List.set_cons_zero, List.set_cons_succ]
              refine wpAnyH_done (by kernel_rfl) ?_ _
              have HBX := Lib.hid hHeld.1
              clear hHeld k0 k1 k2 k3
              obtain ⟨W4, hW4⟩ : ∃ W4, wc.drew = W4 := ⟨_, rfl⟩
              rw [hW4] at HBX ⊢
              clear hW4
              obtain ⟨h, hh0⟩ : ∃ h, h = hT1 := ⟨_, rfl⟩
              subst hh0
              have hhS := HHS1.out
              have hhT := HHT1.out
              have hsev := head_seven hh
              have h63 : hI 63 = 63 := rfl
              have hqS : S'.head ≠ 63 := by intro e; rw [e] at hhS; omega
              have hqT : T'.head ≠ 63 := by intro e; rw [e] at hhT; omega
              have hlen1 := kk_len HS'OK.out.1 hqS
              have hlen2 := kk_len HT'OK.out.1 hqT
              rw [hhS, HN.out] at hlen1
              rw [hhT, HN.out] at hlen2
              have hkcG : ∀ (X : Ty), hI X.head = h → ∀ b : Bool, ((h : Int) == 120) = b → kk X = (if b = true then X.kids ++ X.kids else X.kids) := by
                intro X hX b hb
                have e : (X.head = 120) ↔ b = true := by
                  subst hb
                  have : ((hI X.head : Int) == 120) = (X.head == 120) := byte_eq X.head 120
                  rw [← hX, this]; simp
                unfold kk
                cases b
                · have : ¬ X.head = 120 := fun h => by simpa using e.1 h
                  rw [if_neg this]; rfl
                · rw [if_pos (e.2 rfl)]; rfl
              have HKC := Lib.hid (fun b hb => And.intro (hkcG S' hhS b hb) (hkcG T' hhT b hb))
              have hel : ∀ i, i < n → ((kk S').map strV)[i]? = some (.string (str (kkD S' i))) ∧ ((kk T').map strV)[i]? = some (.string (str (kkD T' i))) := by
                intro i hi
                have e : ∀ X : Ty, i < (kk X).length → ((kk X).map strV)[i]? = some (.string (str (kkD X i))) := by
                  intro X hX
                  rw [List.getElem?_map, List.getElem?_eq_getElem hX]
                  unfold kkD
                  rw [List.getD_eq_getElem?_getD, List.getElem?_eq_getElem hX]
                  rfl
                exact ⟨e S' (by omega), e T' (by omega)⟩
              have HEL := Lib.hid hel
              have HRF := Lib.hid (show ∀ m, m < n → goK h a b S' T' m = false → R = false from by
                intro m hm hg
                cases R
                · rfl
                · have := (HIFF2.out.1 rfl).2.2.2.2 m hm
                  rw [hg] at this; cases this)
              have HRT := Lib.hid (show (∀ m, m < n → goK h a b S' T' m = true) → R = true from fun hal => by
                refine HIFF2.out.2 ⟨hA, ?_, hJ, ?_, hal⟩ <;> first | trivial | rfl)
              have HL := Lib.hid (And.intro hlen1 hlen2)
              have honeS : ∀ K : List Ty, ∀ u ∈ K.map strV, u.oneCell' = true := by
                intro K u hu
                obtain ⟨k, _, rfl⟩ := List.mem_map.1 hu
                rfl
              have HONES := Lib.hid honeS
              have hkl : S'.kids.length ≤ 2 ∧ T'.kids.length ≤ 2 := ⟨S'.kids_le, T'.kids_le⟩
              obtain ⟨j0, hj0, hy0, hy1, hy2⟩ := info_three info9
              obtain ⟨KS, hKS⟩ : ∃ K, S'.kids = K := ⟨_, rfl⟩
              obtain ⟨KT, hKT⟩ : ∃ K, T'.kids = K := ⟨_, rfl⟩
              obtain ⟨sn, hsn⟩ : ∃ x, KS.length = x := ⟨_, rfl⟩
              obtain ⟨tn, htn⟩ : ∃ x, KT.length = x := ⟨_, rfl⟩
              rw [hKS, hKT] at HKC hkl
              rw [hKS] at HPS
              rw [hKT] at HPT
              rw [hsn] at HPS hkl
              rw [htn] at HPT hkl
              have HSN := Lib.hid (And.intro hsn htn)
              clear hhS hhT hsev h63 hqS hqT hlen1 hlen2 hkcG hel honeS hKS hKT hsn htn HHS1 HHT1 HIFF2 HIFF hA hJ HHD HHT HG HSG g1 g2 g3 g4 hne hS' hT' HST HBW HBW2 HB3

              go_wp2_with fail
              (refine (HPS.out _).mono ?_); rintro ev w4 ⟨vS, rfl, hoS, hbS⟩
              have HOS := Lib.hid hoS
              have HBS := Lib.hid hbS
              clear hoS hbS
              go_wp2_with fail
              (refine (HPT.out _).mono ?_); rintro ev w5 ⟨vT, rfl, hoT, hbT⟩
              have hbQ : Below W2.heap.size W2 w5 := bl (bl HBX.out HBS.out) hbT
              have hoS3 := own_below HOS.out hbT
              have hap : Apart vT vS := Apart.later HOS.out hoT (Nat.le_refl _)
              have hxs := HBX.out.size
              have hss := HBS.out.size
              have hts := hbT.size
              have hoS4 := own_less (base' := W2.heap.size) hoS3 (by omega)
              have hoT4 := own_less (base' := W2.heap.size) hoT (by omega)
              obtain ⟨AS, cS, rfl, hcS1, hcS2⟩ := own_shape hoS4
              obtain ⟨AT, cT, rfl, hcT1, hcT2⟩ := own_shape hoT4
              have HW3 := Lib.hid (And.intro hbQ (And.intro hap (And.intro hoS4 hoT4)))
              obtain ⟨_, k0, k1, k2, k3⟩ := HK.out w5 hbQ
              have hw5 : W2.heap.size ≤ w5.heap.size := hbQ.size
              clear hoS3 hoT hbT hbQ hap hoS4 hoT4 k0 k1 hxs hss hts
              go_upto_if 78 with fail
              go_cut [11, 12] from 78 to 85 (fun x y wx => (∃ A1 c1, x = .slice A1 n c1 ∧ wx.ownsRow W2.heap.size 9 1 (.slice A1 n c1) n ((kk S').map strV)) ∧ (∃ A2 c2, y = .slice A2 n c2 ∧ wx.ownsRow W2.heap.size 9 1 (.slice A2 n c2) n ((kk T').map strV)) ∧ Below W2.heap.size W2 wx)
              case first =>
                obtain ⟨hbQ, hap, hoS4, hoT4⟩ := HW3.out
                cases hb : ((h : Int) == 120)
                · obtain ⟨e1, e2⟩ := HKC.out false hb
                  rw [if_neg (by simp)] at e1 e2
                  have hn1 : sn = n := by rw [← HSN.out.1, ← e1]; exact HL.out.1
                  have hn2 : tn = n := by rw [← HSN.out.2, ← e2]; exact HL.out.2
                  have HE := Lib.hid (And.intro e1 e2)
                  have HO := Lib.hid (And.intro hoS4 hoT4)
                  subst hn1 hn2
                  clear e1 e2 hap hoS4 hoT4
                  go_wp2_with fail
                  go_meet
                  case rel =>
                    rw [HE.out.1, HE.out.2]
                    exact ⟨⟨_, _, rfl, HO.out.1⟩, ⟨_, _, rfl, HO.out.2⟩, hbQ⟩
                · obtain ⟨e1, e2⟩ := HKC.out true hb
                  rw [if_pos rfl] at e1 e2
                  have hn1 : sn + sn = n := by have := HL.out.1; rw [e1, List.length_append] at this; rw [← HSN.out.1]; exact this
                  have hn2 : tn + tn = n := by have := HL.out.2; rw [e2, List.length_append] at this; rw [← HSN.out.2]; exact this
                  have HE := Lib.hid (And.intro e1 e2)
                  have HO := Lib.hid (And.intro hoS4 (And.intro hoT4 hap))
                  have HS1 := Lib.hid (own_sl hoS4)
                  have HN12 := Lib.hid (And.intro hn1 hn2)
                  have hsn2 : sn ≤ 2 := by omega
                  have htn2 : tn ≤ 2 := by omega
                  have HBQ := Lib.hid hbQ
                  clear e1 e2 hap hoS4 hoT4 hn1 hn2 hbQ
                  go_wp2_with (first
                    | (at_builtin; refine wpList_append_sl _ rfl (.tmp 79) (.tmp 80) _ rfl W2.heap.size 9 j0 _ 1 16 Tryd.underlying45 hj0 hy0 hy1 hy2 rfl (by omega) (.slice AS sn cS) sn (KS.map strV) rfl HO.out.1 w5.heap.size AS sn cS (KS.map strV) rfl HS1.out (HONES.out _) (by simp only [maxLen]; omega) (by omega) hw5 ?_; intro v4 w6 hown4 hg4 hV4; have HG4 := Lib.hid (And.intro hown4 (And.intro hg4 hV4)); clear hown4 hg4 hV4)
                    | (at_builtin; refine wpList_append_sl _ rfl (.tmp 82) (.tmp 83) _ rfl W2.heap.size 9 j0 _ 1 16 Tryd.underlying45 hj0 hy0 hy1 hy2 rfl (by omega) (.slice AT tn cT) tn (KT.map strV) rfl (own_grown HO.out.2.1 HG4.out.2.1 HO.out.2.2) w6.heap.size AT tn cT (KT.map strV) rfl (own_sl (own_grown HO.out.2.1 HG4.out.2.1 HO.out.2.2)) (HONES.out _) (by simp only [maxLen]; omega) (by omega) (Nat.le_trans hw5 HG4.out.2.1.size) ?_; intro v5 w7 hown5 hg5 hV5; have HG5 := Lib.hid (And.intro hown5 (And.intro hg5 hV5)); clear hown5 hg5 hV5))
                  obtain ⟨h41, h42, h43⟩ := HG4.out
                  obtain ⟨h51, h52, h53⟩ := HG5.out
                  have h45 : Apart v4 (.slice AT tn cT) := by
                    have h0 := HO.out.2.2
                    rcases e : v4.ownBlock with _ | g
                    · exact .inl e
                    · right
                      rw [e]
                      intro he
                      rcases h43 with h6 | h6
                      · rw [h6] at e
                        rcases h0 with h7 | h7
                        · rw [h7] at he; cases he
                        · exact h7 (he.symm.trans e.symm)
                      · rw [h6] at e
                        injection e with e
                        subst e
                        have := (HO.out.2.1.lt _ he.symm).2
                        omega
                  have h46 := own_grown h41 h52 h45
                  obtain ⟨A4, c4, rfl, _, _⟩ := own_shape h46
                  obtain ⟨A5, c5, rfl, _, _⟩ := own_shape h51
                  have hb5 : Below W2.heap.size W2 w7 := (HBQ.out.grown h42 HBQ.out.size (fun x hx => by have := (HO.out.1.lt _ hx).1; omega)).grown h52 (Nat.le_trans HBQ.out.size h42.size) (fun x hx => by have := (HO.out.2.1.lt _ hx).1; omega)
                  rw [HN12.out.1] at h46 ⊢
                  rw [HN12.out.2] at h51 ⊢
                  rw [← List.map_append, ← HE.out.1] at h46
                  rw [← List.map_append, ← HE.out.2] at h51
                  go_meet
                  case rel => exact ⟨⟨_, _, rfl, h46⟩, ⟨_, _, rfl, h51⟩, hb5⟩
              case rest =>
                obtain ⟨⟨A1, c1', rfl, hoA⟩, ⟨A2, c2', rfl, hoB⟩, hbW0⟩ := hcut
                obtain ⟨W0, hW0⟩ : ∃ W0, wc = W0 := ⟨_, rfl⟩
                obtain rfl : W0 = wc := hW0.symm
                have HA2 := Lib.hid (And.intro hoA hoB)
                have HB0 := Lib.hid (bl HB2.out.1 hbW0)
                have HKW := Lib.hid (show ∀ W', Below W0.heap.size W0 W' → W'.cell? ⟨w.heap.size + 1, 2, none⟩ = some (.int .u8 h) ∧ W'.cell? ⟨w.heap.size + 1, 3, none⟩ = some (.slice A n c) from fun W' hb' => ⟨(HK.out W' (bl hbW0 hb')).2.2.2.1, (HK.out W' (bl hbW0 hb')).2.2.2.2⟩)
                obtain ⟨k2, k3⟩ := HKW.out W0 b0
                clear hoA hoB hbW0 hW0
                have htu := fun k W => turned_any h k W
                have HTU := Lib.hid htu
                clear htu
                go_wp2_with fail
                go_loopg [88] n (fun g u wr => ∃ m : Nat, m ≤ n ∧ g = n - m ∧ u = .int .i64 m ∧ Below W0.heap.size W0 wr ∧ ∀ x, x < m → goK h a b S' T' x = true)
                case atStart => exact ⟨0, by omega, rfl, rfl, b0, fun x hx => absurd hx (by omega)⟩
                case round =>
                  obtain ⟨m, hm, rfl, rfl, hbr, hal⟩ := hrel
                  have HBR := Lib.hid hbr
                  have HAL := Lib.hid hal
                  clear hbr hal k2 k3
                  by_cases hlt : m < n
                  · obtain ⟨y1, y2⟩ := HEL.out m hlt
                    obtain ⟨ga, rfl, hga, hgal, hca⟩ := own_elem HA2.out.1 y1
                    obtain ⟨gb, rfl, hgb, hgbl, hcb⟩ := own_elem HA2.out.2 y2
                    obtain ⟨kk1, kk2, kk3⟩ := HKV.out
                    obtain ⟨g, o, v, rfl, hcv, hgl, hv⟩ := kid_at hnb hlt kk1 kk2 kk3
                    have hbw0 : Below w.heap.size w wr := bl HB0.out HBR.out
                    have hcx : wr.cell? ⟨g, o + m, none⟩ = some v := (hbw0.cell (p := ⟨g, o + m, none⟩) hgl).trans hcv
                    have hih := fun W (hb : Below wr.heap.size wr W) => (show Calls Tryd.prog 102 (if turnd h m = true then #[v, .string (str (kkD T' m)), .string (str (kkD S' m))] else #[v, .string (str (kkD S' m)), .string (str (kkD T' m))]) W fun e w' => e = .returned (.bool (goK h a b S' T' m)) ∧ Below W.heap.size W w' from by
                      have o1 := kkD_ok (i := m) HS'OK.out.1 HS'OK.out.2
                      have o2 := kkD_ok (i := m) HT'OK.out.1 HT'OK.out.2
                      unfold goK
                      cases turnd h m
                      · exact HIH.out m v _ _ W (hv.below (bl hbw0 hb)) o1.1 o2.1 o1.2 o2.2
                      · exact HIH.out m v _ _ W (hv.below (bl hbw0 hb)) o2.1 o1.1 o2.2 o1.2)
                    obtain ⟨sa, hsa⟩ : ∃ x, str (kkD S' m) = x := ⟨_, rfl⟩
                    obtain ⟨sb, hsb⟩ : ∃ x, str (kkD T' m) = x := ⟨_, rfl⟩
                    rw [hsa] at hca hih
                    rw [hsb] at hcb hih
                    have hS := fun W' (hb' : Below wr.heap.size wr W') => (⟨hb', (HKW.out W' (bl HBR.out hb')).1, ((bl HBR.out hb').cell (p := ⟨ga, m, none⟩) hgal).trans hca, ((bl HBR.out hb').cell (p := ⟨gb, m, none⟩) hgbl).trans hcb⟩ : Below wr.heap.size wr W' ∧ W'.cell? ⟨w.heap.size + 1, 2, none⟩ = some (.int .u8 h) ∧ W'.cell? ⟨ga, m, none⟩ = some (.string sa) ∧ W'.cell? ⟨gb, m, none⟩ = some (.string sb))
                    have HS := Lib.hid hS
                    obtain ⟨Y, hY⟩ : ∃ Y, goK h a b S' T' m = Y := ⟨_, rfl⟩
                    obtain ⟨tu, htu⟩ : ∃ x, turnd h m = x := ⟨_, rfl⟩
                    have htm := fun W => HTU.out m W
                    rw [htu] at htm hih
                    rw [hY] at hih
                    have HTM := Lib.hid htm
                    have HY := Lib.hid hY
                    obtain ⟨D, z, rfl⟩ := hv.face
                    have HCALL := Lib.hid hih
                    have k2r := (hS wr b0).2.1
                    clear htm hih htu hY hS hsa hsb hca hcb hga hgb hgal hgbl kk1 kk2 kk3 hcv hgl hv hbw0 y1 y2
                    cases tu <;> cases Y
                    · go_wp2_with fail
                      refine wp_region_held_drew (S := (fun W' => Below wr.heap.size wr W' ∧ W'.cell? ⟨w.heap.size + 1, 2, none⟩ = some (.int .u8 h) ∧ W'.cell? ⟨ga, m, none⟩ = some (.string sa) ∧ W'.cell? ⟨gb, m, none⟩ = some (.string sb))) (by kernel_rfl) ?ss64 (fun hHeld => ?rr64)
                      case ss64 => (try dsimp only); exact HS.out _ (Below.refl _ _).drew
                      refine wpAnyH_take (i := 0) (oi := ⟨some 93, _, _, _, _, _⟩) (v := ?vv65) rfl (by kernel_rfl) (by kernel_rfl) (by kernel_rfl) (fun _ _ _ h => h) (Or.inl ⟨by rfl, ?yy65⟩) (by assumption) ?rr65
                      case yy65 => (intro wq hSw; (try dsimp only at hSw); go_simp; try with_reducible rfl)
                      try simp only [Act.put, List.setIfInBounds_toArray, List.set_cons_zero, List.set_cons_succ]
                      refine wpAnyH_take (i := 1) (oi := ⟨some 94, _, _, _, _, _⟩) (v := ?vv66) rfl (by kernel_rfl) (by kernel_rfl) (by kernel_rfl) (fun _ _ _ h => h) (Or.inl ⟨by rfl, ?yy66⟩) (by assumption) ?rr66
                      case yy66 => (intro wq hSw; (try dsimp only at hSw); go_simp; try with_reducible rfl)
                      try simp only [Act.put, List.setIfInBounds_toArray, List.set_cons_zero, List.set_cons_succ]
                      refine wpAnyH_take (i := 2) (oi := ⟨some 95, _, _, _, _, _⟩) (v := ?vv67) rfl (by kernel_rfl) (by kernel_rfl) (by kernel_rfl) (fun _ _ _ h => h) (Or.inl ⟨by rfl, ?yy67⟩) (by assumption) ?rr67
                      case yy67 => (intro wq hSw; (try dsimp only at hSw); go_simp; try with_reducible rfl)
                      try simp only [Act.put, List.setIfInBounds_toArray, List.set_cons_zero, List.set_cons_succ]
                      refine wpAnyH_ready (rs := [3]) (by kernel_rfl) (by simp) ?_
                      refine AllReadyH.cons (o := ⟨some 96, _, _, _, _, _⟩) rfl (fun K hK => ?_) AllReadyH.nil
                      go_simp
                      ((refine (HTM.out _).mono ?_); rintro e w5 ⟨rfl, rfl⟩)
                      refine hK.out _ _ ?ss68 (fun hHeld2 => ?rr68)
                      case ss68 => (try dsimp only); exact hHeld
                      clear hK K
                      clear hHeld2
                      try simp only [Act.put, List.setIfInBounds_toArray, List.set_cons_zero, List.set_cons_succ]
                      refine wpAnyH_take (i := 4) (oi := ⟨some 97, _, _, _, _, _⟩) (v := ?vv69) rfl (by kernel_rfl) (by kernel_rfl) (by kernel_rfl) (fun _ _ _ h => h) (Or.inl ⟨by rfl, ?yy69⟩) (by assumption) ?rr69
                      case yy69 => (intro wq hSw; (try dsimp only at hSw); go_simp; try with_reducible rfl)
                      try simp only [Act.put, List.setIfInBounds_toArray, List.set_cons_zero, List.set_cons_succ]
                      refine wpAnyH_take (i := 5) (oi := ⟨some 98, _, _, _, _, _⟩) (v := undef) rfl (by kernel_rfl) (by kernel_rfl) (by kernel_rfl) (fun _ _ _ h => h) (Or.inr ⟨by rfl, rfl⟩) (by assumption) ?rr70
                      try simp only [Act.put, List.setIfInBounds_toArray, List.set_cons_zero, List.set_cons_succ]
                      refine wpAnyH_take (i := 6) (oi := ⟨some 99, _, _, _, _, _⟩) (v := undef) rfl (by kernel_rfl) (by kernel_rfl) (by kernel_rfl) (fun _ _ _ h => h) (Or.inr ⟨by rfl, rfl⟩) (by assumption) ?rr71
                      try simp only [Act.put, List.setIfInBounds_toArray, List.set_cons_zero, List.set_cons_succ]
                      refine wpAnyH_take (i := 7) (oi := ⟨some 100, _, _, _, _, _⟩) (v := undef) rfl (by kernel_rfl) (by kernel_rfl) (by kernel_rfl) (fun _ _ _ h => h) (Or.inr ⟨by rfl, rfl⟩) (by assumption) ?rr72
                      try simp only [Act.put, List.setIfInBounds_toArray, List.set_cons_zero, List.set_cons_succ]
                      refine wpAnyH_take (i := 8) (oi := ⟨some 101, _, _, _, _, _⟩) (v := undef) rfl (by kernel_rfl) (by kernel_rfl) (by kernel_rfl) (fun _ _ _ h => h) (Or.inr ⟨by rfl, rfl⟩) (by assumption) ?rr73
                      try simp only [Act.put, List.setIfInBounds_toArray, List.set_cons_zero, List.set_cons_succ]
                      refine wpAnyH_take (i := 9) (oi := ⟨some 102, _, _, _, _, _⟩) (v := undef) rfl (by kernel_rfl) (by kernel_rfl) (by kernel_rfl) (fun _ _ _ h => h) (Or.inr ⟨by rfl, rfl⟩) (by assumption) ?rr74
                      try simp only [Act.put, List.setIfInBounds_toArray, List.set_cons_zero, List.set_cons_succ]
                      refine wpAnyH_take (i := 10) (oi := ⟨some 103, _, _, _, _, _⟩) (v := undef) rfl (by kernel_rfl) (by kernel_rfl) (by kernel_rfl) (fun _ _ _ h => h) (Or.inr ⟨by rfl, rfl⟩) (by assumption) ?rr75
                      try simp only [Act.put, List.setIfInBounds_toArray, List.set_cons_zero, List.set_cons_succ]
                      refine wpAnyH_take (i := 11) (oi := ⟨some 104, _, _, _, _, _⟩) (v := undef) rfl (by kernel_rfl) (by kernel_rfl) (by kernel_rfl) (fun _ _ _ h => h) (Or.inr ⟨by rfl, rfl⟩) (by assumption) ?rr76
                      try simp only [Act.put, List.setIfInBounds_toArray, List.set_cons_zero, List.set_cons_succ]
                      refine wpAnyH_take (i := 12) (oi := ⟨some 105, _, _, _, _, _⟩) (v := undef) rfl (by kernel_rfl) (by kernel_rfl) (by kernel_rfl) (fun _ _ _ h => h) (Or.inr ⟨by rfl, rfl⟩) (by assumption) ?rr77
                      try simp only [Act.put, List.setIfInBounds_toArray, List.set_cons_zero, List.set_cons_succ]
                      refine wpAnyH_take (i := 13) (oi := ⟨some 106, _, _, _, _, _⟩) (v := undef) rfl (by kernel_rfl) (by kernel_rfl) (by kernel_rfl) (fun _ _ _ h => h) (Or.inr ⟨by rfl, rfl⟩) (by assumption) ?rr78
                      try simp only [Act.put, List.setIfInBounds_toArray, List.set_cons_zero, List.set_cons_succ]
                      refine wpAnyH_take (i := 14) (oi := ⟨some 107, _, _, _, _, _⟩) (v := undef) rfl (by kernel_rfl) (by kernel_rfl) (by kernel_rfl) (fun _ _ _ h => h) (Or.inr ⟨by rfl, rfl⟩) (by assumption) ?rr79
                      try simp only [Act.put, List.setIfInBounds_toArray, List.set_cons_zero, List.set_cons_succ]
                      refine wpAnyH_take (i := 15) (oi := ⟨some 108, _, _, _, _, _⟩) (v := undef) rfl (by kernel_rfl) (by kernel_rfl) (by kernel_rfl) (fun _ _ _ h => h) (Or.inr ⟨by rfl, rfl⟩) (by assumption) ?rr80
                      try simp only [Act.put, List.setIfInBounds_toArray, List.set_cons_zero, List.set_cons_succ]
                      refine wpAnyH_take (i := 16) (oi := ⟨some 109, _, _, _, _, _⟩) (v := ?vv81) rfl (by kernel_rfl) (by kernel_rfl) (by kernel_rfl) (fun _ _ _ h => h) (Or.inl ⟨by rfl, ?yy81⟩) (by assumption) ?rr81
                      case yy81 => (intro wq hSw; (try dsimp only at hSw); go_simp; try with_reducible rfl)
                      try simp only [Act.put, List.setIfInBounds_toArray, List.set_cons_zero, List.set_cons_succ]
                      refine wpAnyH_take (i := 17) (oi := ⟨some 110, _, _, _, _, _⟩) (v := ?vv82) rfl (by kernel_rfl) (by kernel_rfl) (by kernel_rfl) (fun _ _ _ h => h) (Or.inl ⟨by rfl, ?yy82⟩) (by assumption) ?rr82
                      case yy82 => (intro wq hSw; (try dsimp only at hSw); go_simp; try with_reducible rfl)
                      try simp only [Act.put, List.setIfInBounds_toArray, List.set_cons_zero, List.set_cons_succ]
                      refine wpAnyH_take (i := 18) (oi := ⟨some 111, _, _, _, _, _⟩) (v := ?vv83) rfl (by kernel_rfl) (by kernel_rfl) (by kernel_rfl) (fun _ _ _ h => h) (Or.inl ⟨by rfl, ?yy83⟩) (by assumption) ?rr83
                      case yy83 => (intro wq hSw; (try dsimp only at hSw); go_simp; try with_reducible rfl)
                      try simp only [Act.put, List.setIfInBounds_toArray, List.set_cons_zero, List.set_cons_succ]
                      refine wpAnyH_take (i := 19) (oi := ⟨some 112, _, _, _, _, _⟩) (v := ?vv84) rfl (by kernel_rfl) (by kernel_rfl) (by kernel_rfl) (fun _ _ _ h => h) (Or.inl ⟨by rfl, ?yy84⟩) (by assumption) ?rr84
                      case yy84 => (intro wq hSw; (try dsimp only at hSw); go_simp; try with_reducible rfl)
                      try simp only [Act.put, List.setIfInBounds_toArray, List.set_cons_zero, List.set_cons_succ]
                      refine wpAnyH_take (i := 20) (oi := ⟨some 113, _, _, _, _, _⟩) (v := ?vv85) rfl (by kernel_rfl) (by kernel_rfl) (by kernel_rfl) (fun _ _ _ h => h) (Or.inl ⟨by rfl, ?yy85⟩) (by assumption) ?rr85
                      case yy85 => (intro wq hSw; (try dsimp only at hSw); go_simp; try with_reducible rfl)
                      try simp only [Act.put, List.setIfInBounds_toArray, List.set_cons_zero, List.set_cons_succ]
                      refine wpAnyH_ready (rs := [21]) (by kernel_rfl) (by simp) ?_
                      refine AllReadyH.cons (o := ⟨some 114, _, _, _, _, _⟩) rfl (fun K hK => ?_) AllReadyH.nil
                      go_simp
                      ((refine (HTM.out _).mono ?_); rintro e w6 ⟨rfl, rfl⟩)
                      refine hK.out _ _ ?ss86 (fun hHeld2 => ?rr86)
                      case ss86 => (try dsimp only); exact hHeld
                      clear hK K
                      clear hHeld2
                      try simp only [Act.put, List.setIfInBounds_toArray, List.set_cons_zero, List.set_cons_succ]
                      refine wpAnyH_take (i := 22) (oi := ⟨some 115, _, _, _, _, _⟩) (v := ?vv87) rfl (by kernel_rfl) (by kernel_rfl) (by kernel_rfl) (fun _ _ _ h => h) (Or.inl ⟨by rfl, ?yy87⟩) (by assumption) ?rr87
                      case yy87 => (intro wq hSw; (try dsimp only at hSw); go_simp; try with_reducible rfl)
                      try simp only [Act.put, List.setIfInBounds_toArray, List.set_cons_zero, List.set_cons_succ]
                      refine wpAnyH_take (i := 23) (oi := ⟨some 116, _, _, _, _, _⟩) (v := ?vv88) rfl (by kernel_rfl) (by kernel_rfl) (by kernel_rfl) (fun _ _ _ h => h) (Or.inl ⟨by rfl, ?yy88⟩) (by assumption) ?rr88
                      case yy88 => (intro wq hSw; (try dsimp only at hSw); go_simp; try with_reducible rfl)
                      try simp only [Act.put, List.setIfInBounds_toArray, List.set_cons_zero, List.set_cons_succ]
                      refine wpAnyH_take (i := 24) (oi := ⟨some 117, _, _, _, _, _⟩) (v := ?vv89) rfl (by kernel_rfl) (by kernel_rfl) (by kernel_rfl) (fun _ _ _ h => h) (Or.inl ⟨by rfl, ?yy89⟩) (by assumption) ?rr89
                      case yy89 => (intro wq hSw; (try dsimp only at hSw); go_simp; try with_reducible rfl)
                      try simp only [Act.put, List.setIfInBounds_toArray, List.set_cons_zero, List.set_cons_succ]
                      refine wpAnyH_take (i := 25) (oi := ⟨some 118, _, _, _, _, _⟩) (v := ?vv90) rfl (by kernel_rfl) (by kernel_rfl) (by kernel_rfl) (fun _ _ _ h => h) (Or.inl ⟨by rfl, ?yy90⟩) (by assumption) ?rr90
                      case yy90 => (intro wq hSw; (try dsimp only at hSw); go_simp; try with_reducible rfl)
                      try simp only [Act.put, List.setIfInBounds_toArray, List.set_cons_zero, List.set_cons_succ]
                      refine wpAnyH_take (i := 26) (oi := ⟨some 119, _, _, _, _, _⟩) (v := ?vv91) rfl (by kernel_rfl) (by kernel_rfl) (by kernel_rfl) (fun _ _ _ h => h) (Or.inl ⟨by rfl, ?yy91⟩) (by assumption) ?rr91
                      case yy91 => (intro wq hSw; (try dsimp only at hSw); go_simp; try with_reducible rfl)
                      try simp only [Act.put, List.setIfInBounds_toArray, List.set_cons_zero, List.set_cons_succ]
                      refine wpAnyH_take (i := 27) (oi := ⟨some 120, _, _, _, _, _⟩) (v := ?vv92) rfl (by kernel_rfl) (by kernel_rfl) (by kernel_rfl) (fun _ _ _ h => h) (Or.inl ⟨by rfl, ?yy92⟩) (by assumption) ?rr92
                      case yy92 => (intro wq hSw; (try dsimp only at hSw); go_simp; try with_reducible rfl)
                      try simp only [Act.put, List.setIfInBounds_toArray, List.set_cons_zero, List.set_cons_succ]
                      refine wpAnyH_take (i := 28) (oi := ⟨some 121, _, _, _, _, _⟩) (v := ?vv93) rfl (by kernel_rfl) (by kernel_rfl) (by kernel_rfl) (fun _ _ _ h => h) (Or.inl ⟨by rfl, ?yy93⟩) (by assumption) ?rr93
                      case yy93 => (intro wq hSw; (try dsimp only at hSw); go_simp; try with_reducible rfl)
                      try simp only [Act.put, List.setIfInBounds_toArray, List.set_cons_zero, List.set_cons_succ]
                      refine wpAnyH_take (i := 29) (oi := ⟨some 122, _, _, _, _, _⟩) (v := ?vv94) rfl (by kernel_rfl) (by kernel_rfl) (by kernel_rfl) (fun _ _ _ h => h) (Or.inl ⟨by rfl, ?yy94⟩) (by assumption) ?rr94
                      case yy94 => (intro wq hSw; (try dsimp only at hSw); go_simp; try with_reducible rfl)
                      try simp only [Act.put, List.setIfInBounds_toArray, List.set_cons_zero, List.set_cons_succ]
                      refine wpAnyH_take (i := 30) (oi := ⟨some 123, _, _, _, _, _⟩) (v := ?vv95) rfl (by kernel_rfl) (by kernel_rfl) (by kernel_rfl) (fun _ _ _ h => h) (Or.inl ⟨by rfl, ?yy95⟩) (by assumption) ?rr95
                      case yy95 => (intro wq hSw; (try dsimp only at hSw); go_simp; try with_reducible rfl)
                      try simp only [Act.put, List.setIfInBounds_toArray, List.set_cons_zero, List.set_cons_succ]
                      refine wpAnyH_take (i := 31) (oi := ⟨some 124, _, _, _, _, _⟩) (v := ?vv96) rfl (by kernel_rfl) (by kernel_rfl) (by kernel_rfl) (fun _ _ _ h => h) (Or.inl ⟨by rfl, ?yy96⟩) (by assumption) ?rr96
                      case yy96 => (intro wq hSw; (try dsimp only at hSw); go_simp; try with_reducible rfl)
                      try simp only [Act.put, List.setIfInBounds_toArray, List.set_cons_zero, List.set_cons_succ]
                      refine wpAnyH_take (i := 32) (oi := ⟨some 125, _, _, _, _, _⟩) (v := ?vv97) rfl (by kernel_rfl) (by kernel_rfl) (by kernel_rfl) (fun _ _ _ h => h) (Or.inl ⟨by rfl, ?yy97⟩) (by assumption) ?rr97
                      case yy97 => (intro wq hSw; (try dsimp only at hSw); go_simp; try with_reducible rfl)
                      try simp only [Act.put, List.setIfInBounds_toArray, List.set_cons_zero, List.set_cons_succ]
                      refine wpAnyH_ready (rs := [33]) (by kernel_rfl) (by simp) ?_
                      refine AllReadyH.cons (o := ⟨some 126, _, _, _, _, _⟩) rfl (fun K hK => ?_) AllReadyH.nil
                      go_simp
                      ((refine (HCALL.out _ (Below.refl _ _).drew).mono ?_); rintro e w4 ⟨rfl, hb4'⟩; have hb4 : Below wr.heap.size wr w4 := bl (Below.refl _ _).drew hb4'; clear hb4')
                      refine hK.out _ _ ?ss98 (fun hHeld2 => ?rr98)
                      case ss98 => (try dsimp only); exact HS.out _ hb4
                      clear hK K
                      clear hHeld
                      have hHeld := hHeld2
                      clear hHeld2
                      try simp only [Act.put, List.setIfInBounds_toArray, List.set_cons_zero, List.set_cons_succ]
                      refine wpAnyH_take (i := 34) (oi := ⟨some 127, _, _, _, _, _⟩) (v := ?vv99) rfl (by kernel_rfl) (by kernel_rfl) (by kernel_rfl) (fun _ _ _ h => h) (Or.inl ⟨by rfl, ?yy99⟩) (by assumption) ?rr99
                      case yy99 => (intro wq hSw; (try dsimp only at hSw); go_simp; try with_reducible rfl)
                      try simp only [Act.put, List.setIfInBounds_toArray, List.set_cons_zero, List.set_cons_succ]
                      refine wpAnyH_take (i := 35) (oi := ⟨some 128, _, _, _, _, _⟩) (v := ?vv100) rfl (by kernel_rfl) (by kernel_rfl) (by kernel_rfl) (fun _ _ _ h => h) (Or.inl ⟨by rfl, ?yy100⟩) (by assumption) ?rr100
                      case yy100 => (intro wq hSw; (try dsimp only at hSw); go_simp; try with_reducible rfl)
                      try simp only [Act.put, List.setIfInBounds_toArray, List.set_cons_zero, List.set_cons_succ]
                      refine wpAnyH_take (i := 36) (oi := ⟨some 129, _, _, _, _, _⟩) (v := ?vv101) rfl (by kernel_rfl) (by kernel_rfl) (by kernel_rfl) (fun _ _ _ h => h) (Or.inl ⟨by rfl, ?yy101⟩) (by assumption) ?rr101
                      case yy101 => (intro wq hSw; (try dsimp only at hSw); go_simp; try with_reducible rfl)
                      try simp only [Act.put, List.setIfInBounds_toArray, List.set_cons_zero, List.set_cons_succ]
                      refine wpAnyH_done (by kernel_rfl) ?_ _
                      have hbx := hHeld.1
                      clear hHeld
                      go_wp2_with fail
                      go_ret
                      exact ⟨by rw [HRF.out m hlt HY.out]; rfl, bl HB0.out (bl HBR.out hbx)⟩
                    · go_wp2_with fail
                      refine wp_region_held_drew (S := (fun W' => Below wr.heap.size wr W' ∧ W'.cell? ⟨w.heap.size + 1, 2, none⟩ = some (.int .u8 h) ∧ W'.cell? ⟨ga, m, none⟩ = some (.string sa) ∧ W'.cell? ⟨gb, m, none⟩ = some (.string sb))) (by kernel_rfl) ?ss102 (fun hHeld => ?rr102)
                      case ss102 => (try dsimp only); exact HS.out _ (Below.refl _ _).drew
                      refine wpAnyH_take (i := 0) (oi := ⟨some 93, _, _, _, _, _⟩) (v := ?vv103) rfl (by kernel_rfl) (by kernel_rfl) (by kernel_rfl) (fun _ _ _ h => h) (Or.inl ⟨by rfl, ?yy103⟩) (by assumption) ?rr103
                      case yy103 => (intro wq hSw; (try dsimp only at hSw); go_simp; try with_reducible rfl)
                      try simp only [Act.put, List.setIfInBounds_toArray, List.set_cons_zero, List.set_cons_succ]
                      refine wpAnyH_take (i := 1) (oi := ⟨some 94, _, _, _, _, _⟩) (v := ?vv104) rfl (by kernel_rfl) (by kernel_rfl) (by kernel_rfl) (fun _ _ _ h => h) (Or.inl ⟨by rfl, ?yy104⟩) (by assumption) ?rr104
                      case yy104 => (intro wq hSw; (try dsimp only at hSw); go_simp; try with_reducible rfl)
                      try simp only [Act.put, List.setIfInBounds_toArray, List.set_cons_zero, List.set_cons_succ]
                      refine wpAnyH_take (i := 2) (oi := ⟨some 95, _, _, _, _, _⟩) (v := ?vv105) rfl (by kernel_rfl) (by kernel_rfl) (by kernel_rfl) (fun _ _ _ h => h) (Or.inl ⟨by rfl, ?yy105⟩) (by assumption) ?rr105
                      case yy105 => (intro wq hSw; (try dsimp only at hSw); go_simp; try with_reducible rfl)
                      try simp only [Act.put, List.setIfInBounds_toArray, List.set_cons_zero, List.set_cons_succ]
                      refine wpAnyH_ready (rs := [3]) (by kernel_rfl) (by simp) ?_
                      refine AllReadyH.cons (o := ⟨some 96, _, _, _, _, _⟩) rfl (fun K hK => ?_) AllReadyH.nil
                      go_simp
                      ((refine (HTM.out _).mono ?_); rintro e w5 ⟨rfl, rfl⟩)
                      refine hK.out _ _ ?ss106 (fun hHeld2 => ?rr106)
                      case ss106 => (try dsimp only); exact hHeld
                      clear hK K
                      clear hHeld2
                      try simp only [Act.put, List.setIfInBounds_toArray, List.set_cons_zero, List.set_cons_succ]
                      refine wpAnyH_take (i := 4) (oi := ⟨some 97, _, _, _, _, _⟩) (v := ?vv107) rfl (by kernel_rfl) (by kernel_rfl) (by kernel_rfl) (fun _ _ _ h => h) (Or.inl ⟨by rfl, ?yy107⟩) (by assumption) ?rr107
                      case yy107 => (intro wq hSw; (try dsimp only at hSw); go_simp; try with_reducible rfl)
                      try simp only [Act.put, List.setIfInBounds_toArray, List.set_cons_zero, List.set_cons_succ]
                      refine wpAnyH_take (i := 5) (oi := ⟨some 98, _, _, _, _, _⟩) (v := undef) rfl (by kernel_rfl) (by kernel_rfl) (by kernel_rfl) (fun _ _ _ h => h) (Or.inr ⟨by rfl, rfl⟩) (by assumption) ?rr108
                      try simp only [Act.put, List.setIfInBounds_toArray, List.set_cons_zero, List.set_cons_succ]
                      refine wpAnyH_take (i := 6) (oi := ⟨some 99, _, _, _, _, _⟩) (v := undef) rfl (by kernel_rfl) (by kernel_rfl) (by kernel_rfl) (fun _ _ _ h => h) (Or.inr ⟨by rfl, rfl⟩) (by assumption) ?rr109
                      try simp only [Act.put, List.setIfInBounds_toArray, List.set_cons_zero, List.set_cons_succ]
                      refine wpAnyH_take (i := 7) (oi := ⟨some 100, _, _, _, _, _⟩) (v := undef) rfl (by kernel_rfl) (by kernel_rfl) (by kernel_rfl) (fun _ _ _ h => h) (Or.inr ⟨by rfl, rfl⟩) (by assumption) ?rr110
                      try simp only [Act.put, List.setIfInBounds_toArray, List.set_cons_zero, List.set_cons_succ]
                      refine wpAnyH_take (i := 8) (oi := ⟨some 101, _, _, _, _, _⟩) (v := undef) rfl (by kernel_rfl) (by kernel_rfl) (by kernel_rfl) (fun _ _ _ h => h) (Or.inr ⟨by rfl, rfl⟩) (by assumption) ?rr111
                      try simp only [Act.put, List.setIfInBounds_toArray, List.set_cons_zero, List.set_cons_succ]
                      refine wpAnyH_take (i := 9) (oi := ⟨some 102, _, _, _, _, _⟩) (v := undef) rfl (by kernel_rfl) (by kernel_rfl) (by kernel_rfl) (fun _ _ _ h => h) (Or.inr ⟨by rfl, rfl⟩) (by assumption) ?rr112
                      try simp only [Act.put, List.setIfInBounds_toArray, List.set_cons_zero, List.set_cons_succ]
                      refine wpAnyH_take (i := 10) (oi := ⟨some 103, _, _, _, _, _⟩) (v := undef) rfl (by kernel_rfl) (by kernel_rfl) (by kernel_rfl) (fun _ _ _ h => h) (Or.inr ⟨by rfl, rfl⟩) (by assumption) ?rr113
                      try simp only [Act.put, List.setIfInBounds_toArray, List.set_cons_zero, List.set_cons_succ]
                      refine wpAnyH_take (i := 11) (oi := ⟨some 104, _, _, _, _, _⟩) (v := undef) rfl (by kernel_rfl) (by kernel_rfl) (by kernel_rfl) (fun _ _ _ h => h) (Or.inr ⟨by rfl, rfl⟩) (by assumption) ?rr114
                      try simp only [Act.put, List.setIfInBounds_toArray, List.set_cons_zero, List.set_cons_succ]
                      refine wpAnyH_take (i := 12) (oi := ⟨some 105, _, _, _, _, _⟩) (v := undef) rfl (by kernel_rfl) (by kernel_rfl) (by kernel_rfl) (fun _ _ _ h => h) (Or.inr ⟨by rfl, rfl⟩) (by assumption) ?rr115
                      try simp only [Act.put, List.setIfInBounds_toArray, List.set_cons_zero, List.set_cons_succ]
                      refine wpAnyH_take (i := 13) (oi := ⟨some 106, _, _, _, _, _⟩) (v := undef) rfl (by kernel_rfl) (by kernel_rfl) (by kernel_rfl) (fun _ _ _ h => h) (Or.inr ⟨by rfl, rfl⟩) (by assumption) ?rr116
                      try simp only [Act.put, List.setIfInBounds_toArray, List.set_cons_zero, List.set_cons_succ]
                      refine wpAnyH_take (i := 14) (oi := ⟨some 107, _, _, _, _, _⟩) (v := undef) rfl (by kernel_rfl) (by kernel_rfl) (by kernel_rfl) (fun _ _ _ h => h) (Or.inr ⟨by rfl, rfl⟩) (by assumption) ?rr117
                      try simp only [Act.put, List.setIfInBounds_toArray, List.set_cons_zero, List.set_cons_succ]
                      refine wpAnyH_take (i := 15) (oi := ⟨some 108, _, _, _, _, _⟩) (v := undef) rfl (by kernel_rfl) (by kernel_rfl) (by kernel_rfl) (fun _ _ _ h => h) (Or.inr ⟨by rfl, rfl⟩) (by assumption) ?rr118
                      try simp only [Act.put, List.setIfInBounds_toArray, List.set_cons_zero, List.set_cons_succ]
                      refine wpAnyH_take (i := 16) (oi := ⟨some 109, _, _, _, _, _⟩) (v := ?vv119) rfl (by kernel_rfl) (by kernel_rfl) (by kernel_rfl) (fun _ _ _ h => h) (Or.inl ⟨by rfl, ?yy119⟩) (by assumption) ?rr119
                      case yy119 => (intro wq hSw; (try dsimp only at hSw); go_simp; try with_reducible rfl)
                      try simp only [Act.put, List.setIfInBounds_toArray, List.set_cons_zero, List.set_cons_succ]
                      refine wpAnyH_take (i := 17) (oi := ⟨some 110, _, _, _, _, _⟩) (v := ?vv120) rfl (by kernel_rfl) (by kernel_rfl) (by kernel_rfl) (fun _ _ _ h => h) (Or.inl ⟨by rfl, ?yy120⟩) (by assumption) ?rr120
                      case yy120 => (intro wq hSw; (try dsimp only at hSw); go_simp; try with_reducible rfl)
                      try simp only [Act.put, List.setIfInBounds_toArray, List.set_cons_zero, List.set_cons_succ]
                      refine wpAnyH_take (i := 18) (oi := ⟨some 111, _, _, _, _, _⟩) (v := ?vv121) rfl (by kernel_rfl) (by kernel_rfl) (by kernel_rfl) (fun _ _ _ h => h) (Or.inl ⟨by rfl, ?yy121⟩) (by assumption) ?rr121
                      case yy121 => (intro wq hSw; (try dsimp only at hSw); go_simp; try with_reducible rfl)
                      try simp only [Act.put, List.setIfInBounds_toArray, List.set_cons_zero, List.set_cons_succ]
                      refine wpAnyH_take (i := 19) (oi := ⟨some 112, _, _, _, _, _⟩) (v := ?vv122) rfl (by kernel_rfl) (by kernel_rfl) (by kernel_rfl) (fun _ _ _ h => h) (Or.inl ⟨by rfl, ?yy122⟩) (by assumption) ?rr122
                      case yy122 => (intro wq hSw; (try dsimp only at hSw); go_simp; try with_reducible rfl)
                      try simp only [Act.put, List.setIfInBounds_toArray, List.set_cons_zero, List.set_cons_succ]
                      refine wpAnyH_take (i := 20) (oi := ⟨some 113, _, _, _, _, _⟩) (v := ?vv123) rfl (by kernel_rfl) (by kernel_rfl) (by kernel_rfl) (fun _ _ _ h => h) (Or.inl ⟨by rfl, ?yy123⟩) (by assumption) ?rr123
                      case yy123 => (intro wq hSw; (try dsimp only at hSw); go_simp; try with_reducible rfl)
                      try simp only [Act.put, List.setIfInBounds_toArray, List.set_cons_zero, List.set_cons_succ]
                      refine wpAnyH_ready (rs := [21]) (by kernel_rfl) (by simp) ?_
                      refine AllReadyH.cons (o := ⟨some 114, _, _, _, _, _⟩) rfl (fun K hK => ?_) AllReadyH.nil
                      go_simp
                      ((refine (HTM.out _).mono ?_); rintro e w6 ⟨rfl, rfl⟩)
                      refine hK.out _ _ ?ss124 (fun hHeld2 => ?rr124)
                      case ss124 => (try dsimp only); exact hHeld
                      clear hK K
                      clear hHeld2
                      try simp only [Act.put, List.setIfInBounds_toArray, List.set_cons_zero, List.set_cons_succ]
                      refine wpAnyH_take (i := 22) (oi := ⟨some 115, _, _, _, _, _⟩) (v := ?vv125) rfl (by kernel_rfl) (by kernel_rfl) (by kernel_rfl) (fun _ _ _ h => h) (Or.inl ⟨by rfl, ?yy125⟩) (by assumption) ?rr125
                      case yy125 => (intro wq hSw; (try dsimp only at hSw); go_simp; try with_reducible rfl)
                      try simp only [Act.put, List.setIfInBounds_toArray, List.set_cons_zero, List.set_cons_succ]
                      refine wpAnyH_take (i := 23) (oi := ⟨some 116, _, _, _, _, _⟩) (v := ?vv126) rfl (by kernel_rfl) (by kernel_rfl) (by kernel_rfl) (fun _ _ _ h => h) (Or.inl ⟨by rfl, ?yy126⟩) (by assumption) ?rr126
                      case yy126 => (intro wq hSw; (try dsimp only at hSw); go_simp; try with_reducible rfl)
                      try simp only [Act.put, List.setIfInBounds_toArray, List.set_cons_zero, List.set_cons_succ]
                      refine wpAnyH_take (i := 24) (oi := ⟨some 117, _, _, _, _, _⟩) (v := ?vv127) rfl (by kernel_rfl) (by kernel_rfl) (by kernel_rfl) (fun _ _ _ h => h) (Or.inl ⟨by rfl, ?yy127⟩) (by assumption) ?rr127
                      case yy127 => (intro wq hSw; (try dsimp only at hSw); go_simp; try with_reducible rfl)
                      try simp only [Act.put, List.setIfInBounds_toArray, List.set_cons_zero, List.set_cons_succ]
                      refine wpAnyH_take (i := 25) (oi := ⟨some 118, _, _, _, _, _⟩) (v := ?vv128) rfl (by kernel_rfl) (by kernel_rfl) (by kernel_rfl) (fun _ _ _ h => h) (Or.inl ⟨by rfl, ?yy128⟩) (by assumption) ?rr128
                      case yy128 => (intro wq hSw; (try dsimp only at hSw); go_simp; try with_reducible rfl)
                      try simp only [Act.put, List.setIfInBounds_toArray, List.set_cons_zero, List.set_cons_succ]
                      refine wpAnyH_take (i := 26) (oi := ⟨some 119, _, _, _, _, _⟩) (v := ?vv129) rfl (by kernel_rfl) (by kernel_rfl) (by kernel_rfl) (fun _ _ _ h => h) (Or.inl ⟨by rfl, ?yy129⟩) (by assumption) ?rr129
                      case yy129 => (intro wq hSw; (try dsimp only at hSw); go_simp; try with_reducible rfl)
                      try simp only [Act.put, List.setIfInBounds_toArray, List.set_cons_zero, List.set_cons_succ]
                      refine wpAnyH_take (i := 27) (oi := ⟨some 120, _, _, _, _, _⟩) (v := ?vv130) rfl (by kernel_rfl) (by kernel_rfl) (by kernel_rfl) (fun _ _ _ h => h) (Or.inl ⟨by rfl, ?yy130⟩) (by assumption) ?rr130
                      case yy130 => (intro wq hSw; (try dsimp only at hSw); go_simp; try with_reducible rfl)
                      try simp only [Act.put, List.setIfInBounds_toArray, List.set_cons_zero, List.set_cons_succ]
                      refine wpAnyH_take (i := 28) (oi := ⟨some 121, _, _, _, _, _⟩) (v := ?vv131) rfl (by kernel_rfl) (by kernel_rfl) (by kernel_rfl) (fun _ _ _ h => h) (Or.inl ⟨by rfl, ?yy131⟩) (by assumption) ?rr131
                      case yy131 => (intro wq hSw; (try dsimp only at hSw); go_simp; try with_reducible rfl)
                      try simp only [Act.put, List.setIfInBounds_toArray, List.set_cons_zero, List.set_cons_succ]
                      refine wpAnyH_take (i := 29) (oi := ⟨some 122, _, _, _, _, _⟩) (v := ?vv132) rfl (by kernel_rfl) (by kernel_rfl) (by kernel_rfl) (fun _ _ _ h => h) (Or.inl ⟨by rfl, ?yy132⟩) (by assumption) ?rr132
                      case yy132 => (intro wq hSw; (try dsimp only at hSw); go_simp; try with_reducible rfl)
                      try simp only [Act.put, List.setIfInBounds_toArray, List.set_cons_zero, List.set_cons_succ]
                      refine wpAnyH_take (i := 30) (oi := ⟨some 123, _, _, _, _, _⟩) (v := ?vv133) rfl (by kernel_rfl) (by kernel_rfl) (by kernel_rfl) (fun _ _ _ h => h) (Or.inl ⟨by rfl, ?yy133⟩) (by assumption) ?rr133
                      case yy133 => (intro wq hSw; (try dsimp only at hSw); go_simp; try with_reducible rfl)
                      try simp only [Act.put, List.setIfInBounds_toArray, List.set_cons_zero, List.set_cons_succ]
                      refine wpAnyH_take (i := 31) (oi := ⟨some 124, _, _, _, _, _⟩) (v := ?vv134) rfl (by kernel_rfl) (by kernel_rfl) (by kernel_rfl) (fun _ _ _ h => h) (Or.inl ⟨by rfl, ?yy134⟩) (by assumption) ?rr134
                      case yy134 => (intro wq hSw; (try dsimp only at hSw); go_simp; try with_reducible rfl)
                      try simp only [Act.put, List.setIfInBounds_toArray, List.set_cons_zero, List.set_cons_succ]
                      refine wpAnyH_take (i := 32) (oi := ⟨some 125, _, _, _, _, _⟩) (v := ?vv135) rfl (by kernel_rfl) (by kernel_rfl) (by kernel_rfl) (fun _ _ _ h => h) (Or.inl ⟨by rfl, ?yy135⟩) (by assumption) ?rr135
                      case yy135 => (intro wq hSw; (try dsimp only at hSw); go_simp; try with_reducible rfl)
                      try simp only [Act.put, List.setIfInBounds_toArray, List.set_cons_zero, List.set_cons_succ]
                      refine wpAnyH_ready (rs := [33]) (by kernel_rfl) (by simp) ?_
                      refine AllReadyH.cons (o := ⟨some 126, _, _, _, _, _⟩) rfl (fun K hK => ?_) AllReadyH.nil
                      go_simp
                      ((refine (HCALL.out _ (Below.refl _ _).drew).mono ?_); rintro e w4 ⟨rfl, hb4'⟩; have hb4 : Below wr.heap.size wr w4 := bl (Below.refl _ _).drew hb4'; clear hb4')
                      refine hK.out _ _ ?ss136 (fun hHeld2 => ?rr136)
                      case ss136 => (try dsimp only); exact HS.out _ hb4
                      clear hK K
                      clear hHeld
                      have hHeld := hHeld2
                      clear hHeld2
                      try simp only [Act.put, List.setIfInBounds_toArray, List.set_cons_zero, List.set_cons_succ]
                      refine wpAnyH_take (i := 34) (oi := ⟨some 127, _, _, _, _, _⟩) (v := ?vv137) rfl (by kernel_rfl) (by kernel_rfl) (by kernel_rfl) (fun _ _ _ h => h) (Or.inl ⟨by rfl, ?yy137⟩) (by assumption) ?rr137
                      case yy137 => (intro wq hSw; (try dsimp only at hSw); go_simp; try with_reducible rfl)
                      try simp only [Act.put, List.setIfInBounds_toArray, List.set_cons_zero, List.set_cons_succ]
                      refine wpAnyH_take (i := 35) (oi := ⟨some 128, _, _, _, _, _⟩) (v := ?vv138) rfl (by kernel_rfl) (by kernel_rfl) (by kernel_rfl) (fun _ _ _ h => h) (Or.inl ⟨by rfl, ?yy138⟩) (by assumption) ?rr138
                      case yy138 => (intro wq hSw; (try dsimp only at hSw); go_simp; try with_reducible rfl)
                      try simp only [Act.put, List.setIfInBounds_toArray, List.set_cons_zero, List.set_cons_succ]
                      refine wpAnyH_take (i := 36) (oi := ⟨some 129, _, _, _, _, _⟩) (v := ?vv139) rfl (by kernel_rfl) (by kernel_rfl) (by kernel_rfl) (fun _ _ _ h => h) (Or.inl ⟨by rfl, ?yy139⟩) (by assumption) ?rr139
                      case yy139 => (intro wq hSw; (try dsimp only at hSw); go_simp; try with_reducible rfl)
                      try simp only [Act.put, List.setIfInBounds_toArray, List.set_cons_zero, List.set_cons_succ]
                      refine wpAnyH_done (by kernel_rfl) ?_ _
                      have hbx := hHeld.1
                      clear hHeld
                      go_wp2_with fail
                      go_roundg (n - (m + 1))
                      case measure => omega
                      case rel => exact ⟨m + 1, by omega, rfl, by go_num, bl HBR.out hbx, all_succ HAL.out HY.out⟩
                    · go_wp2_with fail
                      refine wp_region_held_drew (S := (fun W' => Below wr.heap.size wr W' ∧ W'.cell? ⟨w.heap.size + 1, 2, none⟩ = some (.int .u8 h) ∧ W'.cell? ⟨ga, m, none⟩ = some (.string sa) ∧ W'.cell? ⟨gb, m, none⟩ = some (.string sb))) (by kernel_rfl) ?ss140 (fun hHeld => ?rr140)
                      case ss140 => (try dsimp only); exact HS.out _ (Below.refl _ _).drew
                      refine wpAnyH_take (i := 0) (oi := ⟨some 93, _, _, _, _, _⟩) (v := ?vv141) rfl (by kernel_rfl) (by kernel_rfl) (by kernel_rfl) (fun _ _ _ h => h) (Or.inl ⟨by rfl, ?yy141⟩) (by assumption) ?rr141
                      case yy141 => (intro wq hSw; (try dsimp only at hSw); go_simp; try with_reducible rfl)
                      try simp only [Act.put, List.setIfInBounds_toArray, List.set_cons_zero, List.set_cons_succ]
                      refine wpAnyH_take (i := 1) (oi := ⟨some 94, _, _, _, _, _⟩) (v := ?vv142) rfl (by kernel_rfl) (by kernel_rfl) (by kernel_rfl) (fun _ _ _ h => h) (Or.inl ⟨by rfl, ?yy142⟩) (by assumption) ?rr142
                      case yy142 => (intro wq hSw; (try dsimp only at hSw); go_simp; try with_reducible rfl)
                      try simp only [Act.put, List.setIfInBounds_toArray, List.set_cons_zero, List.set_cons_succ]
                      refine wpAnyH_take (i := 2) (oi := ⟨some 95, _, _, _, _, _⟩) (v := ?vv143) rfl (by kernel_rfl) (by kernel_rfl) (by kernel_rfl) (fun _ _ _ h => h) (Or.inl ⟨by rfl, ?yy143⟩) (by assumption) ?rr143
                      case yy143 => (intro wq hSw; (try dsimp only at hSw); go_simp; try with_reducible rfl)
                      try simp only [Act.put, List.setIfInBounds_toArray, List.set_cons_zero, List.set_cons_succ]
                      refine wpAnyH_ready (rs := [3]) (by kernel_rfl) (by simp) ?_
                      refine AllReadyH.cons (o := ⟨some 96, _, _, _, _, _⟩) rfl (fun K hK => ?_) AllReadyH.nil
                      go_simp
                      ((refine (HTM.out _).mono ?_); rintro e w5 ⟨rfl, rfl⟩)
                      refine hK.out _ _ ?ss144 (fun hHeld2 => ?rr144)
                      case ss144 => (try dsimp only); exact hHeld
                      clear hK K
                      clear hHeld2
                      try simp only [Act.put, List.setIfInBounds_toArray, List.set_cons_zero, List.set_cons_succ]
                      refine wpAnyH_take (i := 4) (oi := ⟨some 97, _, _, _, _, _⟩) (v := ?vv145) rfl (by kernel_rfl) (by kernel_rfl) (by kernel_rfl) (fun _ _ _ h => h) (Or.inl ⟨by rfl, ?yy145⟩) (by assumption) ?rr145
                      case yy145 => (intro wq hSw; (try dsimp only at hSw); go_simp; try with_reducible rfl)
                      try simp only [Act.put, List.setIfInBounds_toArray, List.set_cons_zero, List.set_cons_succ]
                      refine wpAnyH_take (i := 5) (oi := ⟨some 98, _, _, _, _, _⟩) (v := ?vv146) rfl (by kernel_rfl) (by kernel_rfl) (by kernel_rfl) (fun _ _ _ h => h) (Or.inl ⟨by rfl, ?yy146⟩) (by assumption) ?rr146
                      case yy146 => (intro wq hSw; (try dsimp only at hSw); go_simp; try with_reducible rfl)
                      try simp only [Act.put, List.setIfInBounds_toArray, List.set_cons_zero, List.set_cons_succ]
                      refine wpAnyH_take (i := 6) (oi := ⟨some 99, _, _, _, _, _⟩) (v := ?vv147) rfl (by kernel_rfl) (by kernel_rfl) (by kernel_rfl) (fun _ _ _ h => h) (Or.inl ⟨by rfl, ?yy147⟩) (by assumption) ?rr147
                      case yy147 => (intro wq hSw; (try dsimp only at hSw); go_simp; try with_reducible rfl)
                      try simp only [Act.put, List.setIfInBounds_toArray, List.set_cons_zero, List.set_cons_succ]
                      refine wpAnyH_take (i := 7) (oi := ⟨some 100, _, _, _, _, _⟩) (v := ?vv148) rfl (by kernel_rfl) (by kernel_rfl) (by kernel_rfl) (fun _ _ _ h => h) (Or.inl ⟨by rfl, ?yy148⟩) (by assumption) ?rr148
                      case yy148 => (intro wq hSw; (try dsimp only at hSw); go_simp; try with_reducible rfl)
                      try simp only [Act.put, List.setIfInBounds_toArray, List.set_cons_zero, List.set_cons_succ]
                      refine wpAnyH_take (i := 8) (oi := ⟨some 101, _, _, _, _, _⟩) (v := ?vv149) rfl (by kernel_rfl) (by kernel_rfl) (by kernel_rfl) (fun _ _ _ h => h) (Or.inl ⟨by rfl, ?yy149⟩) (by assumption) ?rr149
                      case yy149 => (intro wq hSw; (try dsimp only at hSw); go_simp; try with_reducible rfl)
                      try simp only [Act.put, List.setIfInBounds_toArray, List.set_cons_zero, List.set_cons_succ]
                      refine wpAnyH_take (i := 9) (oi := ⟨some 102, _, _, _, _, _⟩) (v := ?vv150) rfl (by kernel_rfl) (by kernel_rfl) (by kernel_rfl) (fun _ _ _ h => h) (Or.inl ⟨by rfl, ?yy150⟩) (by assumption) ?rr150
                      case yy150 => (intro wq hSw; (try dsimp only at hSw); go_simp; try with_reducible rfl)
                      try simp only [Act.put, List.setIfInBounds_toArray, List.set_cons_zero, List.set_cons_succ]
                      refine wpAnyH_take (i := 10) (oi := ⟨some 103, _, _, _, _, _⟩) (v := ?vv151) rfl (by kernel_rfl) (by kernel_rfl) (by kernel_rfl) (fun _ _ _ h => h) (Or.inl ⟨by rfl, ?yy151⟩) (by assumption) ?rr151
                      case yy151 => (intro wq hSw; (try dsimp only at hSw); go_simp; try with_reducible rfl)
                      try simp only [Act.put, List.setIfInBounds_toArray, List.set_cons_zero, List.set_cons_succ]
                      refine wpAnyH_take (i := 11) (oi := ⟨some 104, _, _, _, _, _⟩) (v := ?vv152) rfl (by kernel_rfl) (by kernel_rfl) (by kernel_rfl) (fun _ _ _ h => h) (Or.inl ⟨by rfl, ?yy152⟩) (by assumption) ?rr152
                      case yy152 => (intro wq hSw; (try dsimp only at hSw); go_simp; try with_reducible rfl)
                      try simp only [Act.put, List.setIfInBounds_toArray, List.set_cons_zero, List.set_cons_succ]
                      refine wpAnyH_take (i := 12) (oi := ⟨some 105, _, _, _, _, _⟩) (v := ?vv153) rfl (by kernel_rfl) (by kernel_rfl) (by kernel_rfl) (fun _ _ _ h => h) (Or.inl ⟨by rfl, ?yy153⟩) (by assumption) ?rr153
                      case yy153 => (intro wq hSw; (try dsimp only at hSw); go_simp; try with_reducible rfl)
                      try simp only [Act.put, List.setIfInBounds_toArray, List.set_cons_zero, List.set_cons_succ]
                      refine wpAnyH_take (i := 13) (oi := ⟨some 106, _, _, _, _, _⟩) (v := ?vv154) rfl (by kernel_rfl) (by kernel_rfl) (by kernel_rfl) (fun _ _ _ h => h) (Or.inl ⟨by rfl, ?yy154⟩) (by assumption) ?rr154
                      case yy154 => (intro wq hSw; (try dsimp only at hSw); go_simp; try with_reducible rfl)
                      try simp only [Act.put, List.setIfInBounds_toArray, List.set_cons_zero, List.set_cons_succ]
                      refine wpAnyH_ready (rs := [14]) (by kernel_rfl) (by simp) ?_
                      refine AllReadyH.cons (o := ⟨some 107, _, _, _, _, _⟩) rfl (fun K hK => ?_) AllReadyH.nil
                      go_simp
                      ((refine (HCALL.out _ (Below.refl _ _).drew).mono ?_); rintro e w4 ⟨rfl, hb4'⟩; have hb4 : Below wr.heap.size wr w4 := bl (Below.refl _ _).drew hb4'; clear hb4')
                      refine hK.out _ _ ?ss155 (fun hHeld2 => ?rr155)
                      case ss155 => (try dsimp only); exact HS.out _ hb4
                      clear hK K
                      clear hHeld
                      have hHeld := hHeld2
                      clear hHeld2
                      try simp only [Act.put, List.setIfInBounds_toArray, List.set_cons_zero, List.set_cons_succ]
                      refine wpAnyH_take (i := 15) (oi := ⟨some 108, _, _, _, _, _⟩) (v := ?vv156) rfl (by kernel_rfl) (by kernel_rfl) (by kernel_rfl) (fun _ _ _ h => h) (Or.inl ⟨by rfl, ?yy156⟩) (by assumption) ?rr156
                      case yy156 => (intro wq hSw; (try dsimp only at hSw); go_simp; try with_reducible rfl)
                      try simp only [Act.put, List.setIfInBounds_toArray, List.set_cons_zero, List.set_cons_succ]
                      refine wpAnyH_take (i := 16) (oi := ⟨some 109, _, _, _, _, _⟩) (v := ?vv157) rfl (by kernel_rfl) (by kernel_rfl) (by kernel_rfl) (fun _ _ _ h => h) (Or.inl ⟨by rfl, ?yy157⟩) (by assumption) ?rr157
                      case yy157 => (intro wq hSw; (try dsimp only at hSw); go_simp; try with_reducible rfl)
                      try simp only [Act.put, List.setIfInBounds_toArray, List.set_cons_zero, List.set_cons_succ]
                      refine wpAnyH_take (i := 17) (oi := ⟨some 110, _, _, _, _, _⟩) (v := ?vv158) rfl (by kernel_rfl) (by kernel_rfl) (by kernel_rfl) (fun _ _ _ h => h) (Or.inl ⟨by rfl, ?yy158⟩) (by assumption) ?rr158
                      case yy158 => (intro wq hSw; (try dsimp only at hSw); go_simp; try with_reducible rfl)
                      try simp only [Act.put, List.setIfInBounds_toArray, List.set_cons_zero, List.set_cons_succ]
                      refine wpAnyH_take (i := 18) (oi := ⟨some 111, _, _, _, _, _⟩) (v := undef) rfl (by kernel_rfl) (by kernel_rfl) (by kernel_rfl) (fun _ _ _ h => h) (Or.inr ⟨by rfl, rfl⟩) (by assumption) ?rr159
                      try simp only [Act.put, List.setIfInBounds_toArray, List.set_cons_zero, List.set_cons_succ]
                      refine wpAnyH_take (i := 19) (oi := ⟨some 112, _, _, _, _, _⟩) (v := undef) rfl (by kernel_rfl) (by kernel_rfl) (by kernel_rfl) (fun _ _ _ h => h) (Or.inr ⟨by rfl, rfl⟩) (by assumption) ?rr160
                      try simp only [Act.put, List.setIfInBounds_toArray, List.set_cons_zero, List.set_cons_succ]
                      refine wpAnyH_take (i := 20) (oi := ⟨some 113, _, _, _, _, _⟩) (v := undef) rfl (by kernel_rfl) (by kernel_rfl) (by kernel_rfl) (fun _ _ _ h => h) (Or.inr ⟨by rfl, rfl⟩) (by assumption) ?rr161
                      try simp only [Act.put, List.setIfInBounds_toArray, List.set_cons_zero, List.set_cons_succ]
                      refine wpAnyH_take (i := 21) (oi := ⟨some 114, _, _, _, _, _⟩) (v := undef) rfl (by kernel_rfl) (by kernel_rfl) (by kernel_rfl) (fun _ _ _ h => h) (Or.inr ⟨by rfl, rfl⟩) (by assumption) ?rr162
                      try simp only [Act.put, List.setIfInBounds_toArray, List.set_cons_zero, List.set_cons_succ]
                      refine wpAnyH_take (i := 22) (oi := ⟨some 115, _, _, _, _, _⟩) (v := undef) rfl (by kernel_rfl) (by kernel_rfl) (by kernel_rfl) (fun _ _ _ h => h) (Or.inr ⟨by rfl, rfl⟩) (by assumption) ?rr163
                      try simp only [Act.put, List.setIfInBounds_toArray, List.set_cons_zero, List.set_cons_succ]
                      refine wpAnyH_take (i := 23) (oi := ⟨some 116, _, _, _, _, _⟩) (v := undef) rfl (by kernel_rfl) (by kernel_rfl) (by kernel_rfl) (fun _ _ _ h => h) (Or.inr ⟨by rfl, rfl⟩) (by assumption) ?rr164
                      try simp only [Act.put, List.setIfInBounds_toArray, List.set_cons_zero, List.set_cons_succ]
                      refine wpAnyH_take (i := 24) (oi := ⟨some 117, _, _, _, _, _⟩) (v := undef) rfl (by kernel_rfl) (by kernel_rfl) (by kernel_rfl) (fun _ _ _ h => h) (Or.inr ⟨by rfl, rfl⟩) (by assumption) ?rr165
                      try simp only [Act.put, List.setIfInBounds_toArray, List.set_cons_zero, List.set_cons_succ]
                      refine wpAnyH_take (i := 25) (oi := ⟨some 118, _, _, _, _, _⟩) (v := undef) rfl (by kernel_rfl) (by kernel_rfl) (by kernel_rfl) (fun _ _ _ h => h) (Or.inr ⟨by rfl, rfl⟩) (by assumption) ?rr166
                      try simp only [Act.put, List.setIfInBounds_toArray, List.set_cons_zero, List.set_cons_succ]
                      refine wpAnyH_take (i := 26) (oi := ⟨some 119, _, _, _, _, _⟩) (v := undef) rfl (by kernel_rfl) (by kernel_rfl) (by kernel_rfl) (fun _ _ _ h => h) (Or.inr ⟨by rfl, rfl⟩) (by assumption) ?rr167
                      try simp only [Act.put, List.setIfInBounds_toArray, List.set_cons_zero, List.set_cons_succ]
                      refine wpAnyH_take (i := 27) (oi := ⟨some 120, _, _, _, _, _⟩) (v := undef) rfl (by kernel_rfl) (by kernel_rfl) (by kernel_rfl) (fun _ _ _ h => h) (Or.inr ⟨by rfl, rfl⟩) (by assumption) ?rr168
                      try simp only [Act.put, List.setIfInBounds_toArray, List.set_cons_zero, List.set_cons_succ]
                      refine wpAnyH_take (i := 28) (oi := ⟨some 121, _, _, _, _, _⟩) (v := undef) rfl (by kernel_rfl) (by kernel_rfl) (by kernel_rfl) (fun _ _ _ h => h) (Or.inr ⟨by rfl, rfl⟩) (by assumption) ?rr169
                      try simp only [Act.put, List.setIfInBounds_toArray, List.set_cons_zero, List.set_cons_succ]
                      refine wpAnyH_take (i := 29) (oi := ⟨some 122, _, _, _, _, _⟩) (v := undef) rfl (by kernel_rfl) (by kernel_rfl) (by kernel_rfl) (fun _ _ _ h => h) (Or.inr ⟨by rfl, rfl⟩) (by assumption) ?rr170
                      try simp only [Act.put, List.setIfInBounds_toArray, List.set_cons_zero, List.set_cons_succ]
                      refine wpAnyH_take (i := 30) (oi := ⟨some 123, _, _, _, _, _⟩) (v := undef) rfl (by kernel_rfl) (by kernel_rfl) (by kernel_rfl) (fun _ _ _ h => h) (Or.inr ⟨by rfl, rfl⟩) (by assumption) ?rr171
                      try simp only [Act.put, List.setIfInBounds_toArray, List.set_cons_zero, List.set_cons_succ]
                      refine wpAnyH_take (i := 31) (oi := ⟨some 124, _, _, _, _, _⟩) (v := undef) rfl (by kernel_rfl) (by kernel_rfl) (by kernel_rfl) (fun _ _ _ h => h) (Or.inr ⟨by rfl, rfl⟩) (by assumption) ?rr172
                      try simp only [Act.put, List.setIfInBounds_toArray, List.set_cons_zero, List.set_cons_succ]
                      refine wpAnyH_take (i := 32) (oi := ⟨some 125, _, _, _, _, _⟩) (v := undef) rfl (by kernel_rfl) (by kernel_rfl) (by kernel_rfl) (fun _ _ _ h => h) (Or.inr ⟨by rfl, rfl⟩) (by assumption) ?rr173
                      try simp only [Act.put, List.setIfInBounds_toArray, List.set_cons_zero, List.set_cons_succ]
                      refine wpAnyH_take (i := 33) (oi := ⟨some 126, _, _, _, _, _⟩) (v := undef) rfl (by kernel_rfl) (by kernel_rfl) (by kernel_rfl) (fun _ _ _ h => h) (Or.inr ⟨by rfl, rfl⟩) (by assumption) ?rr174
                      try simp only [Act.put, List.setIfInBounds_toArray, List.set_cons_zero, List.set_cons_succ]
                      refine wpAnyH_take (i := 34) (oi := ⟨some 127, _, _, _, _, _⟩) (v := undef) rfl (by kernel_rfl) (by kernel_rfl) (by kernel_rfl) (fun _ _ _ h => h) (Or.inr ⟨by rfl, rfl⟩) (by assumption) ?rr175
                      try simp only [Act.put, List.setIfInBounds_toArray, List.set_cons_zero, List.set_cons_succ]
                      refine wpAnyH_take (i := 35) (oi := ⟨some 128, _, _, _, _, _⟩) (v := undef) rfl (by kernel_rfl) (by kernel_rfl) (by kernel_rfl) (fun _ _ _ h => h) (Or.inr ⟨by rfl, rfl⟩) (by assumption) ?rr176
                      try simp only [Act.put, List.setIfInBounds_toArray, List.set_cons_zero, List.set_cons_succ]
                      refine wpAnyH_take (i := 36) (oi := ⟨some 129, _, _, _, _, _⟩) (v := ?vv177) rfl (by kernel_rfl) (by kernel_rfl) (by kernel_rfl) (fun _ _ _ h => h) (Or.inl ⟨by rfl, ?yy177⟩) (by assumption) ?rr177
                      case yy177 => (intro wq hSw; (try dsimp only at hSw); go_simp; try with_reducible rfl)
                      try simp only [Act.put, List.setIfInBounds_toArray, List.set_cons_zero, List.set_cons_succ]
                      refine wpAnyH_done (by kernel_rfl) ?_ _
                      have hbx := hHeld.1
                      clear hHeld
                      go_wp2_with fail
                      go_ret
                      exact ⟨by rw [HRF.out m hlt HY.out]; rfl, bl HB0.out (bl HBR.out hbx)⟩
                    · go_wp2_with fail
                      refine wp_region_held_drew (S := (fun W' => Below wr.heap.size wr W' ∧ W'.cell? ⟨w.heap.size + 1, 2, none⟩ = some (.int .u8 h) ∧ W'.cell? ⟨ga, m, none⟩ = some (.string sa) ∧ W'.cell? ⟨gb, m, none⟩ = some (.string sb))) (by kernel_rfl) ?ss178 (fun hHeld => ?rr178)
                      case ss178 => (try dsimp only); exact HS.out _ (Below.refl _ _).drew
                      refine wpAnyH_take (i := 0) (oi := ⟨some 93, _, _, _, _, _⟩) (v := ?vv179) rfl (by kernel_rfl) (by kernel_rfl) (by kernel_rfl) (fun _ _ _ h => h) (Or.inl ⟨by rfl, ?yy179⟩) (by assumption) ?rr179
                      case yy179 => (intro wq hSw; (try dsimp only at hSw); go_simp; try with_reducible rfl)
                      try simp only [Act.put, List.setIfInBounds_toArray, List.set_cons_zero, List.set_cons_succ]
                      refine wpAnyH_take (i := 1) (oi := ⟨some 94, _, _, _, _, _⟩) (v := ?vv180) rfl (by kernel_rfl) (by kernel_rfl) (by kernel_rfl) (fun _ _ _ h => h) (Or.inl ⟨by rfl, ?yy180⟩) (by assumption) ?rr180
                      case yy180 => (intro wq hSw; (try dsimp only at hSw); go_simp; try with_reducible rfl)
                      try simp only [Act.put, List.setIfInBounds_toArray, List.set_cons_zero, List.set_cons_succ]
                      refine wpAnyH_take (i := 2) (oi := ⟨some 95, _, _, _, _, _⟩) (v := ?vv181) rfl (by kernel_rfl) (by kernel_rfl) (by kernel_rfl) (fun _ _ _ h => h) (Or.inl ⟨by rfl, ?yy181⟩) (by assumption) ?rr181
                      case yy181 => (intro wq hSw; (try dsimp only at hSw); go_simp; try with_reducible rfl)
                      try simp only [Act.put, List.setIfInBounds_toArray, List.set_cons_zero, List.set_cons_succ]
                      refine wpAnyH_ready (rs := [3]) (by kernel_rfl) (by simp) ?_
                      refine AllReadyH.cons (o := ⟨some 96, _, _, _, _, _⟩) rfl (fun K hK => ?_) AllReadyH.nil
                      go_simp
                      ((refine (HTM.out _).mono ?_); rintro e w5 ⟨rfl, rfl⟩)
                      refine hK.out _ _ ?ss182 (fun hHeld2 => ?rr182)
                      case ss182 => (try dsimp only); exact hHeld
                      clear hK K
                      clear hHeld2
                      try simp only [Act.put, List.setIfInBounds_toArray, List.set_cons_zero, List.set_cons_succ]
                      refine wpAnyH_take (i := 4) (oi := ⟨some 97, _, _, _, _, _⟩) (v := ?vv183) rfl (by kernel_rfl) (by kernel_rfl) (by kernel_rfl) (fun _ _ _ h => h) (Or.inl ⟨by rfl, ?yy183⟩) (by assumption) ?rr183
                      case yy183 => (intro wq hSw; (try dsimp only at hSw); go_simp; try with_reducible rfl)
                      try simp only [Act.put, List.setIfInBounds_toArray, List.set_cons_zero, List.set_cons_succ]
                      refine wpAnyH_take (i := 5) (oi := ⟨some 98, _, _, _, _, _⟩) (v := ?vv184) rfl (by kernel_rfl) (by kernel_rfl) (by kernel_rfl) (fun _ _ _ h => h) (Or.inl ⟨by rfl, ?yy184⟩) (by assumption) ?rr184
                      case yy184 => (intro wq hSw; (try dsimp only at hSw); go_simp; try with_reducible rfl)
                      try simp only [Act.put, List.setIfInBounds_toArray, List.set_cons_zero, List.set_cons_succ]
                      refine wpAnyH_take (i := 6) (oi := ⟨some 99, _, _, _, _, _⟩) (v := ?vv185) rfl (by kernel_rfl) (by kernel_rfl) (by kernel_rfl) (fun _ _ _ h => h) (Or.inl ⟨by rfl, ?yy185⟩) (by assumption) ?rr185
                      case yy185 => (intro wq hSw; (try dsimp only at hSw); go_simp; try with_reducible rfl)
                      try simp only [Act.put, List.setIfInBounds_toArray, List.set_cons_zero, List.set_cons_succ]
                      refine wpAnyH_take (i := 7) (oi := ⟨some 100, _, _, _, _, _⟩) (v := ?vv186) rfl (by kernel_rfl) (by kernel_rfl) (by kernel_rfl) (fun _ _ _ h => h) (Or.inl ⟨by rfl, ?yy186⟩) (by assumption) ?rr186
                      case yy186 => (intro wq hSw; (try dsimp only at hSw); go_simp; try with_reducible rfl)
                      try simp only [Act.put, List.setIfInBounds_toArray, List.set_cons_zero, List.set_cons_succ]
                      refine wpAnyH_take (i := 8) (oi := ⟨some 101, _, _, _, _, _⟩) (v := ?vv187) rfl (by kernel_rfl) (by kernel_rfl) (by kernel_rfl) (fun _ _ _ h => h) (Or.inl ⟨by rfl, ?yy187⟩) (by assumption) ?rr187
                      case yy187 => (intro wq hSw; (try dsimp only at hSw); go_simp; try with_reducible rfl)
                      try simp only [Act.put, List.setIfInBounds_toArray, List.set_cons_zero, List.set_cons_succ]
                      refine wpAnyH_take (i := 9) (oi := ⟨some 102, _, _, _, _, _⟩) (v := ?vv188) rfl (by kernel_rfl) (by kernel_rfl) (by kernel_rfl) (fun _ _ _ h => h) (Or.inl ⟨by rfl, ?yy188⟩) (by assumption) ?rr188
                      case yy188 => (intro wq hSw; (try dsimp only at hSw); go_simp; try with_reducible rfl)
                      try simp only [Act.put, List.setIfInBounds_toArray, List.set_cons_zero, List.set_cons_succ]
                      refine wpAnyH_take (i := 10) (oi := ⟨some 103, _, _, _, _, _⟩) (v := ?vv189) rfl (by kernel_rfl) (by kernel_rfl) (by kernel_rfl) (fun _ _ _ h => h) (Or.inl ⟨by rfl, ?yy189⟩) (by assumption) ?rr189
                      case yy189 => (intro wq hSw; (try dsimp only at hSw); go_simp; try with_reducible rfl)
                      try simp only [Act.put, List.setIfInBounds_toArray, List.set_cons_zero, List.set_cons_succ]
                      refine wpAnyH_take (i := 11) (oi := ⟨some 104, _, _, _, _, _⟩) (v := ?vv190) rfl (by kernel_rfl) (by kernel_rfl) (by kernel_rfl) (fun _ _ _ h => h) (Or.inl ⟨by rfl, ?yy190⟩) (by assumption) ?rr190
                      case yy190 => (intro wq hSw; (try dsimp only at hSw); go_simp; try with_reducible rfl)
                      try simp only [Act.put, List.setIfInBounds_toArray, List.set_cons_zero, List.set_cons_succ]
                      refine wpAnyH_take (i := 12) (oi := ⟨some 105, _, _, _, _, _⟩) (v := ?vv191) rfl (by kernel_rfl) (by kernel_rfl) (by kernel_rfl) (fun _ _ _ h => h) (Or.inl ⟨by rfl, ?yy191⟩) (by assumption) ?rr191
                      case yy191 => (intro wq hSw; (try dsimp only at hSw); go_simp; try with_reducible rfl)
                      try simp only [Act.put, List.setIfInBounds_toArray, List.set_cons_zero, List.set_cons_succ]
                      refine wpAnyH_take (i := 13) (oi := ⟨some 106, _, _, _, _, _⟩) (v := ?vv192) rfl (by kernel_rfl) (by kernel_rfl) (by kernel_rfl) (fun _ _ _ h => h) (Or.inl ⟨by rfl, ?yy192⟩) (by assumption) ?rr192
                      case yy192 => (intro wq hSw; (try dsimp only at hSw); go_simp; try with_reducible rfl)
                      try simp only [Act.put, List.setIfInBounds_toArray, List.set_cons_zero, List.set_cons_succ]
                      refine wpAnyH_ready (rs := [14]) (by kernel_rfl) (by simp) ?_
                      refine AllReadyH.cons (o := ⟨some 107, _, _, _, _, _⟩) rfl (fun K hK => ?_) AllReadyH.nil
                      go_simp
                      ((refine (HCALL.out _ (Below.refl _ _).drew).mono ?_); rintro e w4 ⟨rfl, hb4'⟩; have hb4 : Below wr.heap.size wr w4 := bl (Below.refl _ _).drew hb4'; clear hb4')
                      refine hK.out _ _ ?ss193 (fun hHeld2 => ?rr193)
                      case ss193 => (try dsimp only); exact HS.out _ hb4
                      clear hK K
                      clear hHeld
                      have hHeld := hHeld2
                      clear hHeld2
                      try simp only [Act.put, List.setIfInBounds_toArray, List.set_cons_zero, List.set_cons_succ]
                      refine wpAnyH_take (i := 15) (oi := ⟨some 108, _, _, _, _, _⟩) (v := ?vv194) rfl (by kernel_rfl) (by kernel_rfl) (by kernel_rfl) (fun _ _ _ h => h) (Or.inl ⟨by rfl, ?yy194⟩) (by assumption) ?rr194
                      case yy194 => (intro wq hSw; (try dsimp only at hSw); go_simp; try with_reducible rfl)
                      try simp only [Act.put, List.setIfInBounds_toArray, List.set_cons_zero, List.set_cons_succ]
                      refine wpAnyH_take (i := 16) (oi := ⟨some 109, _, _, _, _, _⟩) (v := ?vv195) rfl (by kernel_rfl) (by kernel_rfl) (by kernel_rfl) (fun _ _ _ h => h) (Or.inl ⟨by rfl, ?yy195⟩) (by assumption) ?rr195
                      case yy195 => (intro wq hSw; (try dsimp only at hSw); go_simp; try with_reducible rfl)
                      try simp only [Act.put, List.setIfInBounds_toArray, List.set_cons_zero, List.set_cons_succ]
                      refine wpAnyH_take (i := 17) (oi := ⟨some 110, _, _, _, _, _⟩) (v := ?vv196) rfl (by kernel_rfl) (by kernel_rfl) (by kernel_rfl) (fun _ _ _ h => h) (Or.inl ⟨by rfl, ?yy196⟩) (by assumption) ?rr196
                      case yy196 => (intro wq hSw; (try dsimp only at hSw); go_simp; try with_reducible rfl)
                      try simp only [Act.put, List.setIfInBounds_toArray, List.set_cons_zero, List.set_cons_succ]
                      refine wpAnyH_take (i := 18) (oi := ⟨some 111, _, _, _, _, _⟩) (v := ?vv197) rfl (by kernel_rfl) (by kernel_rfl) (by kernel_rfl) (fun _ _ _ h => h) (Or.inl ⟨by rfl, ?yy197⟩) (by assumption) ?rr197
                      case yy197 => (intro wq hSw; (try dsimp only at hSw); go_simp; try with_reducible rfl)
                      try simp only [Act.put, List.setIfInBounds_toArray, List.set_cons_zero, List.set_cons_succ]
                      refine wpAnyH_take (i := 19) (oi := ⟨some 112, _, _, _, _, _⟩) (v := ?vv198) rfl (by kernel_rfl) (by kernel_rfl) (by kernel_rfl) (fun _ _ _ h => h) (Or.inl ⟨by rfl, ?yy198⟩) (by assumption) ?rr198
                      case yy198 => (intro wq hSw; (try dsimp only at hSw); go_simp; try with_reducible rfl)
                      try simp only [Act.put, List.setIfInBounds_toArray, List.set_cons_zero, List.set_cons_succ]
                      refine wpAnyH_take (i := 20) (oi := ⟨some 113, _, _, _, _, _⟩) (v := ?vv199) rfl (by kernel_rfl) (by kernel_rfl) (by kernel_rfl) (fun _ _ _ h => h) (Or.inl ⟨by rfl, ?yy199⟩) (by assumption) ?rr199
                      case yy199 => (intro wq hSw; (try dsimp only at hSw); go_simp; try with_reducible rfl)
                      try simp only [Act.put, List.setIfInBounds_toArray, List.set_cons_zero, List.set_cons_succ]
                      refine wpAnyH_ready (rs := [21]) (by kernel_rfl) (by simp) ?_
                      refine AllReadyH.cons (o := ⟨some 114, _, _, _, _, _⟩) rfl (fun K hK => ?_) AllReadyH.nil
                      go_simp
                      ((refine (HTM.out _).mono ?_); rintro e w6 ⟨rfl, rfl⟩)
                      refine hK.out _ _ ?ss200 (fun hHeld2 => ?rr200)
                      case ss200 => (try dsimp only); exact hHeld
                      clear hK K
                      clear hHeld2
                      try simp only [Act.put, List.setIfInBounds_toArray, List.set_cons_zero, List.set_cons_succ]
                      refine wpAnyH_take (i := 22) (oi := ⟨some 115, _, _, _, _, _⟩) (v := ?vv201) rfl (by kernel_rfl) (by kernel_rfl) (by kernel_rfl) (fun _ _ _ h => h) (Or.inl ⟨by rfl, ?yy201⟩) (by assumption) ?rr201
                      case yy201 => (intro wq hSw; (try dsimp only at hSw); go_simp; try with_reducible rfl)
                      try simp only [Act.put, List.setIfInBounds_toArray, List.set_cons_zero, List.set_cons_succ]
                      refine wpAnyH_take (i := 23) (oi := ⟨some 116, _, _, _, _, _⟩) (v := ?vv202) rfl (by kernel_rfl) (by kernel_rfl) (by kernel_rfl) (fun _ _ _ h => h) (Or.inl ⟨by rfl, ?yy202⟩) (by assumption) ?rr202
                      case yy202 => (intro wq hSw; (try dsimp only at hSw); go_simp; try with_reducible rfl)
                      try simp only [Act.put, List.setIfInBounds_toArray, List.set_cons_zero, List.set_cons_succ]
                      refine wpAnyH_take (i := 24) (oi := ⟨some 117, _, _, _, _, _⟩) (v := undef) rfl (by kernel_rfl) (by kernel_rfl) (by kernel_rfl) (fun _ _ _ h => h) (Or.inr ⟨by rfl, rfl⟩) (by assumption) ?rr203
                      try simp only [Act.put, List.setIfInBounds_toArray, List.set_cons_zero, List.set_cons_succ]
                      refine wpAnyH_take (i := 25) (oi := ⟨some 118, _, _, _, _, _⟩) (v := undef) rfl (by kernel_rfl) (by kernel_rfl) (by kernel_rfl) (fun _ _ _ h => h) (Or.inr ⟨by rfl, rfl⟩) (by assumption) ?rr204
                      try simp only [Act.put, List.setIfInBounds_toArray, List.set_cons_zero, List.set_cons_succ]
                      refine wpAnyH_take (i := 26) (oi := ⟨some 119, _, _, _, _, _⟩) (v := undef) rfl (by kernel_rfl) (by kernel_rfl) (by kernel_rfl) (fun _ _ _ h => h) (Or.inr ⟨by rfl, rfl⟩) (by assumption) ?rr205
                      try simp only [Act.put, List.setIfInBounds_toArray, List.set_cons_zero, List.set_cons_succ]
                      refine wpAnyH_take (i := 27) (oi := ⟨some 120, _, _, _, _, _⟩) (v := undef) rfl (by kernel_rfl) (by kernel_rfl) (by kernel_rfl) (fun _ _ _ h => h) (Or.inr ⟨by rfl, rfl⟩) (by assumption) ?rr206
                      try simp only [Act.put, List.setIfInBounds_toArray, List.set_cons_zero, List.set_cons_succ]
                      refine wpAnyH_take (i := 28) (oi := ⟨some 121, _, _, _, _, _⟩) (v := undef) rfl (by kernel_rfl) (by kernel_rfl) (by kernel_rfl) (fun _ _ _ h => h) (Or.inr ⟨by rfl, rfl⟩) (by assumption) ?rr207
                      try simp only [Act.put, List.setIfInBounds_toArray, List.set_cons_zero, List.set_cons_succ]
                      refine wpAnyH_take (i := 29) (oi := ⟨some 122, _, _, _, _, _⟩) (v := undef) rfl (by kernel_rfl) (by kernel_rfl) (by kernel_rfl) (fun _ _ _ h => h) (Or.inr ⟨by rfl, rfl⟩) (by assumption) ?rr208
                      try simp only [Act.put, List.setIfInBounds_toArray, List.set_cons_zero, List.set_cons_succ]
                      refine wpAnyH_take (i := 30) (oi := ⟨some 123, _, _, _, _, _⟩) (v := undef) rfl (by kernel_rfl) (by kernel_rfl) (by kernel_rfl) (fun _ _ _ h => h) (Or.inr ⟨by rfl, rfl⟩) (by assumption) ?rr209
                      try simp only [Act.put, List.setIfInBounds_toArray, List.set_cons_zero, List.set_cons_succ]
                      refine wpAnyH_take (i := 31) (oi := ⟨some 124, _, _, _, _, _⟩) (v := undef) rfl (by kernel_rfl) (by kernel_rfl) (by kernel_rfl) (fun _ _ _ h => h) (Or.inr ⟨by rfl, rfl⟩) (by assumption) ?rr210
                      try simp only [Act.put, List.setIfInBounds_toArray, List.set_cons_zero, List.set_cons_succ]
                      refine wpAnyH_take (i := 32) (oi := ⟨some 125, _, _, _, _, _⟩) (v := undef) rfl (by kernel_rfl) (by kernel_rfl) (by kernel_rfl) (fun _ _ _ h => h) (Or.inr ⟨by rfl, rfl⟩) (by assumption) ?rr211
                      try simp only [Act.put, List.setIfInBounds_toArray, List.set_cons_zero, List.set_cons_succ]
                      refine wpAnyH_take (i := 33) (oi := ⟨some 126, _, _, _, _, _⟩) (v := undef) rfl (by kernel_rfl) (by kernel_rfl) (by kernel_rfl) (fun _ _ _ h => h) (Or.inr ⟨by rfl, rfl⟩) (by assumption) ?rr212
                      try simp only [Act.put, List.setIfInBounds_toArray, List.set_cons_zero, List.set_cons_succ]
                      refine wpAnyH_take (i := 34) (oi := ⟨some 127, _, _, _, _, _⟩) (v := undef) rfl (by kernel_rfl) (by kernel_rfl) (by kernel_rfl) (fun _ _ _ h => h) (Or.inr ⟨by rfl, rfl⟩) (by assumption) ?rr213
                      try simp only [Act.put, List.setIfInBounds_toArray, List.set_cons_zero, List.set_cons_succ]
                      refine wpAnyH_take (i := 35) (oi := ⟨some 128, _, _, _, _, _⟩) (v := ?vv214) rfl (by kernel_rfl) (by kernel_rfl) (by kernel_rfl) (fun _ _ _ h => h) (Or.inl ⟨by rfl, ?yy214⟩) (by assumption) ?rr214
                      case yy214 => (intro wq hSw; (try dsimp only at hSw); go_simp; try with_reducible rfl)
                      try simp only [Act.put, List.setIfInBounds_toArray, List.set_cons_zero, List.set_cons_succ]
                      refine wpAnyH_take (i := 36) (oi := ⟨some 129, _, _, _, _, _⟩) (v := ?vv215) rfl (by kernel_rfl) (by kernel_rfl) (by kernel_rfl) (fun _ _ _ h => h) (Or.inl ⟨by rfl, ?yy215⟩) (by assumption) ?rr215
                      case yy215 => (intro wq hSw; (try dsimp only at hSw); go_simp; try with_reducible rfl)
                      try simp only [Act.put, List.setIfInBounds_toArray, List.set_cons_zero, List.set_cons_succ]
                      refine wpAnyH_done (by kernel_rfl) ?_ _
                      have hbx := hHeld.1
                      clear hHeld
                      go_wp2_with fail
                      go_roundg (n - (m + 1))
                      case measure => omega
                      case rel => exact ⟨m + 1, by omega, rfl, by go_num, bl HBR.out hbx, all_succ HAL.out HY.out⟩
                  · obtain rfl : m = n := by omega
                    go_wp2_with fail
                    go_ret
                    exact ⟨by rw [HRT.out HAL.out]; rfl, bl HB0.out HBR.out⟩
            · have e1 : (hT1 != hS1) = true := by simpa using hTe
              have hr : R = false := by
                cases R
                · rfl
                · exact absurd ((HIFF2.out.1 rfl).2.2.2.1) hTe
              subst hr
              clear hTe
              go_wp2_with fail
              refine wp_region_held_drew (S := (fun W' => Below W2.heap.size W2 W' ∧ W'.cell? ⟨w.heap.size + 1, 2, none⟩ = some (.int .u8 hS1))) (by kernel_rfl) ?ss216 (fun hHeld => ?rr216)
              case ss216 => (try dsimp only); exact ⟨HBW2.out.drew, k2⟩
              refine wpAnyH_take (i := 0) (oi := ⟨some 67, _, _, _, _, _⟩) (v := ?vv217) rfl (by kernel_rfl) (by kernel_rfl) (by kernel_rfl) (fun _ _ _ h => h) (Or.inl ⟨by rfl, ?yy217⟩) (by assumption) ?rr217
              case yy217 => (intro wq hSw; (try dsimp only at hSw); go_simp; try with_reducible rfl)
              try simp only [Act.put, List.setIfInBounds_toArray, List.set_cons_zero, List.set_cons_succ]
              refine wpAnyH_take (i := 2) (oi := ⟨some 69, _, _, _, _, _⟩) (v := ?vv218) rfl (by kernel_rfl) (by kernel_rfl) (by kernel_rfl) (fun _ _ _ h => h) (Or.inl ⟨by rfl, ?yy218⟩) (by assumption) ?rr218
              case yy218 => (intro wq hSw; (try dsimp only at hSw); go_simp; try with_reducible rfl)
              try simp only [Act.put, List.setIfInBounds_toArray, List.set_cons_zero, List.set_cons_succ]
              refine wpAnyH_take (i := 3) (oi := ⟨some 70, _, _, _, _, _⟩) (v := ?vv219) rfl (by kernel_rfl) (by kernel_rfl) (by kernel_rfl) (fun _ _ _ h => h) (Or.inl ⟨by rfl, ?yy219⟩) (by assumption) ?rr219
              case yy219 => (intro wq hSw; (try dsimp only at hSw); go_simp; try with_reducible rfl)
              try simp only [Act.put, List.setIfInBounds_toArray, List.set_cons_zero, List.set_cons_succ]
              refine wpAnyH_ready (rs := [1]) (by kernel_rfl) (by simp) ?_
              refine AllReadyH.cons (o := ⟨some 68, _, _, _, _, _⟩) rfl (fun K hK => ?_) AllReadyH.nil
              go_simp
              ((refine (HHT.out _).mono ?_); rintro e w4 ⟨rfl, rfl⟩)
              refine hK.out _ _ ?ss220 (fun hHeld2 => ?rr220)
              case ss220 => (try dsimp only); exact hHeld
              clear hK K
              clear hHeld2
              try simp only [Act.put, List.setIfInBounds_toArray, List.set_cons_zero, List.set_cons_succ]
              refine wpAnyH_take (i := 4) (oi := ⟨some 71, _, _, _, _, _⟩) (v := ?vv221) rfl (by kernel_rfl) (by kernel_rfl) (by kernel_rfl) (fun _ _ _ h => h) (Or.inl ⟨by rfl, ?yy221⟩) (by assumption) ?rr221
              case yy221 => (intro wq hSw; (try dsimp only at hSw); go_simp; try with_reducible rfl)
              try simp only [Act.put, List.setIfInBounds_toArray, List.set_cons_zero, List.set_cons_succ]
              refine wpAnyH_done (by kernel_rfl) ?_ _
              have hbx := hHeld.1
              clear hHeld
              go_wp2_with fail
              go_ret
              exact ⟨rfl, bl HB2.out.1 hbx⟩
        · have hj : j = true := by cases j; exact absurd (.inl rfl) hJ; rfl
          have hq : (T.head == 63) = false := by simp at hJ ⊢; exact hJ.2
          have hr : R = false := by
            cases R
            · rfl
            · exact absurd ((HIFF.out.1 rfl).2.2.1) hJ
          subst hr hj
          rw [hq] at q2
          clear hJ hq
          go_wp2_with fail
          go_ret
          exact ⟨rfl, bl HB2.out.1 HB3.out⟩
      · have e1 : (hS1 == h) = false := by simpa using hSe
        have e2 : (hS1 != h) = true := by simpa using hSe
        have hr : R = false := by
          cases R
          · rfl
          · exact absurd ((HIFF.out.1 rfl).2.1) hSe
        subst hr
        obtain ⟨_, k0, k1, k2, k3⟩ := HK.out wc HBW.out
        clear hSe
        go_wp2_with fail
        refine wp_region_held_drew (S := (fun W' => Below W2.heap.size W2 W' ∧ W'.cell? ⟨w.heap.size + 1, 2, none⟩ = some (.int .u8 h))) (by kernel_rfl) ?ss222 (fun hHeld => ?rr222)
        case ss222 => (try dsimp only); exact ⟨HBW.out.drew, k2⟩
        refine wpAnyH_take (i := 0) (oi := ⟨some 47, _, _, _, _, _⟩) (v := ?vv223) rfl (by kernel_rfl) (by kernel_rfl) (by kernel_rfl) (fun _ _ _ h => h) (Or.inl ⟨by rfl, ?yy223⟩) (by assumption) ?rr223
        case yy223 => (intro wq hSw; (try dsimp only at hSw); go_simp; try with_reducible rfl)
        try simp only [Act.put, List.setIfInBounds_toArray, List.set_cons_zero, List.set_cons_succ]
        refine wpAnyH_take (i := 2) (oi := ⟨some 49, _, _, _, _, _⟩) (v := ?vv224) rfl (by kernel_rfl) (by kernel_rfl) (by kernel_rfl) (fun _ _ _ h => h) (Or.inl ⟨by rfl, ?yy224⟩) (by assumption) ?rr224
        case yy224 => (intro wq hSw; (try dsimp only at hSw); go_simp; try with_reducible rfl)
        try simp only [Act.put, List.setIfInBounds_toArray, List.set_cons_zero, List.set_cons_succ]
        refine wpAnyH_take (i := 3) (oi := ⟨some 50, _, _, _, _, _⟩) (v := ?vv225) rfl (by kernel_rfl) (by kernel_rfl) (by kernel_rfl) (fun _ _ _ h => h) (Or.inl ⟨by rfl, ?yy225⟩) (by assumption) ?rr225
        case yy225 => (intro wq hSw; (try dsimp only at hSw); go_simp; try with_reducible rfl)
        try simp only [Act.put, List.setIfInBounds_toArray, List.set_cons_zero, List.set_cons_succ]
        refine wpAnyH_ready (rs := [1]) (by kernel_rfl) (by simp) ?_
        refine AllReadyH.cons (o := ⟨some 48, _, _, _, _, _⟩) rfl (fun K hK => ?_) AllReadyH.nil
        go_simp
        ((refine (HHD.out _).mono ?_); rintro e w4 ⟨rfl, rfl⟩)
        refine hK.out _ _ ?ss226 (fun hHeld2 => ?rr226)
        case ss226 => (try dsimp only); exact hHeld
        clear hK K
        clear hHeld2
        try simp only [Act.put, List.setIfInBounds_toArray, List.set_cons_zero, List.set_cons_succ]
        refine wpAnyH_take (i := 4) (oi := ⟨some 51, _, _, _, _, _⟩) (v := ?vv227) rfl (by kernel_rfl) (by kernel_rfl) (by kernel_rfl) (fun _ _ _ h => h) (Or.inl ⟨by rfl, ?yy227⟩) (by assumption) ?rr227
        case yy227 => (intro wq hSw; (try dsimp only at hSw); go_simp; try with_reducible rfl)
        try simp only [Act.put, List.setIfInBounds_toArray, List.set_cons_zero, List.set_cons_succ]
        refine wpAnyH_take (i := 5) (oi := ⟨some 52, _, _, _, _, _⟩) (v := ?vv228) rfl (by kernel_rfl) (by kernel_rfl) (by kernel_rfl) (fun _ _ _ h => h) (Or.inl ⟨by rfl, ?yy228⟩) (by assumption) ?rr228
        case yy228 => (intro wq hSw; (try dsimp only at hSw); go_simp; try with_reducible rfl)
        try simp only [Act.put, List.setIfInBounds_toArray, List.set_cons_zero, List.set_cons_succ]
        refine wpAnyH_take (i := 6) (oi := ⟨some 53, _, _, _, _, _⟩) (v := undef) rfl (by kernel_rfl) (by kernel_rfl) (by kernel_rfl) (fun _ _ _ h => h) (Or.inr ⟨by rfl, rfl⟩) (by assumption) ?rr229
        try simp only [Act.put, List.setIfInBounds_toArray, List.set_cons_zero, List.set_cons_succ]
        refine wpAnyH_take (i := 7) (oi := ⟨some 54, _, _, _, _, _⟩) (v := ?vv230) rfl (by kernel_rfl) (by kernel_rfl) (by kernel_rfl) (fun _ _ _ h => h) (Or.inl ⟨by rfl, ?yy230⟩) (by assumption) ?rr230
        case yy230 => (intro wq hSw; (try dsimp only at hSw); go_simp; try with_reducible rfl)
        try simp only [Act.put, List.setIfInBounds_toArray, List.set_cons_zero, List.set_cons_succ]
        refine wpAnyH_done (by kernel_rfl) ?_ _
        obtain ⟨hbq, k2'⟩ := hHeld
        go_wp2_with fail
        refine wp_region_held_drew (S := (fun W' => Below W2.heap.size W2 W' ∧ W'.cell? ⟨w.heap.size + 1, 2, none⟩ = some (.int .u8 h))) (by kernel_rfl) ?ss231 (fun hHeld => ?rr231)
        case ss231 => (try dsimp only); exact ⟨hbq.drew, k2'⟩
        refine wpAnyH_take (i := 0) (oi := ⟨some 55, _, _, _, _, _⟩) (v := ?vv232) rfl (by kernel_rfl) (by kernel_rfl) (by kernel_rfl) (fun _ _ _ h => h) (Or.inl ⟨by rfl, ?yy232⟩) (by assumption) ?rr232
        case yy232 => (intro wq hSw; (try dsimp only at hSw); go_simp; try with_reducible rfl)
        try simp only [Act.put, List.setIfInBounds_toArray, List.set_cons_zero, List.set_cons_succ]
        refine wpAnyH_take (i := 2) (oi := ⟨some 57, _, _, _, _, _⟩) (v := ?vv233) rfl (by kernel_rfl) (by kernel_rfl) (by kernel_rfl) (fun _ _ _ h => h) (Or.inl ⟨by rfl, ?yy233⟩) (by assumption) ?rr233
        case yy233 => (intro wq hSw; (try dsimp only at hSw); go_simp; try with_reducible rfl)
        try simp only [Act.put, List.setIfInBounds_toArray, List.set_cons_zero, List.set_cons_succ]
        refine wpAnyH_take (i := 3) (oi := ⟨some 58, _, _, _, _, _⟩) (v := ?vv234) rfl (by kernel_rfl) (by kernel_rfl) (by kernel_rfl) (fun _ _ _ h => h) (Or.inl ⟨by rfl, ?yy234⟩) (by assumption) ?rr234
        case yy234 => (intro wq hSw; (try dsimp only at hSw); go_simp; try with_reducible rfl)
        try simp only [Act.put, List.setIfInBounds_toArray, List.set_cons_zero, List.set_cons_succ]
        refine wpAnyH_ready (rs := [1]) (by kernel_rfl) (by simp) ?_
        refine AllReadyH.cons (o := ⟨some 56, _, _, _, _, _⟩) rfl (fun K hK => ?_) AllReadyH.nil
        go_simp
        ((refine (HHD.out _).mono ?_); rintro e w4 ⟨rfl, rfl⟩)
        refine hK.out _ _ ?ss235 (fun hHeld2 => ?rr235)
        case ss235 => (try dsimp only); exact hHeld
        clear hK K
        clear hHeld2
        try simp only [Act.put, List.setIfInBounds_toArray, List.set_cons_zero, List.set_cons_succ]
        refine wpAnyH_take (i := 4) (oi := ⟨some 59, _, _, _, _, _⟩) (v := ?vv236) rfl (by kernel_rfl) (by kernel_rfl) (by kernel_rfl) (fun _ _ _ h => h) (Or.inl ⟨by rfl, ?yy236⟩) (by assumption) ?rr236
        case yy236 => (intro wq hSw; (try dsimp only at hSw); go_simp; try with_reducible rfl)
        try simp only [Act.put, List.setIfInBounds_toArray, List.set_cons_zero, List.set_cons_succ]
        refine wpAnyH_take (i := 5) (oi := ⟨some 6, _, _, _, _, _⟩) (v := ?vv237) rfl (by kernel_rfl) (by kernel_rfl) (by kernel_rfl) (fun _ _ _ h => h) (Or.inl ⟨by rfl, ?yy237⟩) (by assumption) ?rr237
        case yy237 => (intro wq hSw; (try dsimp only at hSw); go_simp; try with_reducible rfl)
        try simp only [Act.put, List.setIfInBounds_toArray, List.set_cons_zero, List.set_cons_succ]
        refine wpAnyH_done (by kernel_rfl) ?_ _
        go_wp2_with fail
        go_ret
        exact ⟨by first | rfl | (rw [e1]; rfl), bl HB2.out.1 hHeld.1⟩
  · have hp1 : (p != 0) = true := by simp at hA ⊢; exact hA.1
    have hs1 : (S.head == 63) = false := by simp at hA ⊢; exact hA.2
    have hr : R = false := by
      cases R
      · rfl
      · exact absurd ((HIFF.out.1 rfl).1) hA
    subst hr
    rw [hs1] at q1
    generalize str S = s at *
    generalize str T = t at *
    clear hA hs1
    go_enter Tryd.func102, Tryd.ntmps102
    go_wp2_with fail
    go_ret
    exact ⟨rfl, bal (bal b0 _) _⟩
end Go.Proofs.YtkebplifkkhhlaaDoor.C
