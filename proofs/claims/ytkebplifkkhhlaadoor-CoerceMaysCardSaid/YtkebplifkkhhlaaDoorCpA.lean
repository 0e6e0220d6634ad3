/- Contract: Goes of the answer. -/
import Derived.Test.YtkebplifkkhhlaaDoorCoZ
namespace Go.Proofs.YtkebplifkkhhlaaDoor.C
open Go.RowKit Go.Proofs.YtkebplifkkhhlaaDoor.B
open Go.Proofs.YtkebplifkkhhlaaDoor.T (Ty str strV arB ar bs str_q byte_eq str_head part04_any)
set_option linter.unusedVariables false
set_option linter.unusedSimpArgs false

set_option maxRecDepth 100000 in
theorem goesR_anyW (A : Option Addr) (c : Nat) (S T : Ty) (w : World) (hS : S.ok) (hT : T.ok) : Calls Tryd.prog 50 #[NV Co.any.nd A 0 c, .string (str S), .string (str T)] w fun e w' => e = .returned (.bool (goesC .any S T)) ∧ Below w.heap.size w w' := by
  have q1 := str_q hS
  have q2 := str_q hT
  unfold goesC
  unfold NV
  simp only [Co.nd]
  generalize (S.head == 63) = b1 at *
  generalize (T.head == 63) = b2 at *
  generalize str S = s at *
  generalize str T = t at *
  cases b1 <;> cases b2
  all_goals
    go_enter Tryd.func50, Tryd.ntmps50
    go_wp2_with fail
    go_ret
    exact ⟨rfl, bal b0 _⟩

/-- The first byte of a type's text. -/
theorem first_byte (S : Ty) : ∃ (s : ByteArray) (x : UInt8) (h : 0 < s.size), str S = s ∧ s[0]'h = x ∧ hI S.head = (x.toNat : Int) := by
  obtain ⟨h, e⟩ := str_head S
  exact ⟨_, _, h, rfl, e, rfl⟩

set_option maxRecDepth 100000 in
set_option maxHeartbeats 1000000 in
theorem goesR_failW (p l f q : Int) (A : Option Addr) (c : Nat) (S T : Ty) (w : World) (ho : okC (.fail p l f q)) (hS : S.ok) (hT : T.ok) : Calls Tryd.prog 50 #[NV (Co.fail p l f q).nd A 0 c, .string (str S), .string (str T)] w fun e w' => e = .returned (.bool (goesC (.fail p l f q) S T)) ∧ Below w.heap.size w w' := by
  have hh : headB f = true := by obtain ⟨_, _, h1, _⟩ := ho; unfold headB; simpa using h1
  obtain ⟨g1, g2, g3, _⟩ := gT_ok hh
  have q1 := str_q hS
  have hg := fun W => groundR_any f W hh
  unfold goesC
  unfold NV
  simp only [Co.nd]
  obtain ⟨s, x, hp0, e1, hb0, e2⟩ := first_byte S
  obtain ⟨sg, y, hp1, e3, hb1, e4⟩ := first_byte (gT f)
  rw [g2] at e4
  have e5 : ((y.toNat : Int) != f) = false := by rw [← e4]; simp
  rw [e1] at q1 ⊢
  rw [e2]
  rw [e3] at hg
  have HG := Lib.hid hg
  generalize (S.head == 63) = b1 at *
  generalize str T = t at *
  have hblk := Blk.new w 105 #[.int .i8 7, .int .i64 p, .bool false, .int .u8 f, .int .i64 l, .int .u8 f, .int .u8 q, .slice A 0 c]
  obtain ⟨W0, hW0⟩ : ∃ W0, w.alloc (.cells #[.int .i8 7, .int .i64 p, .bool false, .int .u8 f, .int .i64 l, .int .u8 f, .int .u8 q, .slice A 0 c] 105) = W0 := ⟨_, rfl⟩
  rw [hW0] at hblk
  have HW0 := Lib.hid hW0
  have hb2 : Below w.heap.size w W0 := by rw [← hW0]; exact bal b0 _
  have hs0 : W0.heap.size = w.heap.size + 1 := by rw [← hW0]; simp only [World.size_alloc]
  have HK := Lib.hid (show ∀ W', Below W0.heap.size W0 W' → Below w.heap.size w W' ∧ W'.cell? ⟨w.heap.size, 0, none⟩ = some (.int .i8 7) ∧ W'.cell? ⟨w.heap.size, 3, none⟩ = some (.int .u8 f) from fun W' hb' => ⟨bl hb2 hb', ((hblk.below hb' hblk.lt).cell 0).trans rfl, ((hblk.below hb' hblk.lt).cell 3).trans rfl⟩)
  clear hblk hb2 hW0 hs0 hg hh ho g1 g2 g3 e1 e2 e3 e4 hS hT
  have hf1 : ((f : Int) != f) = false := by simp
  have hf2 : ((f : Int) == f) = true := by simp
  by_cases hp : p = 0
  · subst hp
    rw [if_pos rfl]
    by_cases hxf : (x.toNat : Int) = f
    · have e1 : ((x.toNat : Int) == f) = true := by simpa using hxf
      have e2 : ((x.toNat : Int) != f) = false := by simpa using hxf
      clear hxf
      go_enter Tryd.func50, Tryd.ntmps50
      go_wp2_with fail
      rw [HW0.out]
      refine wp_region_held_drew (S := (fun W' => Below w.heap.size w W' ∧ W'.cell? ⟨w.heap.size, 0, none⟩ = some (.int .i8 7) ∧ W'.cell? ⟨w.heap.size, 3, none⟩ = some (.int .u8 f))) (by kernel_rfl) ?ss1 (fun hHeld => ?rr1)
      case ss1 => (try dsimp only); exact HK.out _ (Below.refl _ _).drew
      refine wpAnyH_take (i := 0) (oi := ⟨some 28, _, _, _, _, _⟩) (v := ?vv2) rfl (by kernel_rfl) (by kernel_rfl) (by kernel_rfl) (fun _ _ _ h => h) (Or.inl ⟨by rfl, ?yy2⟩) (by assumption) ?rr2
      case yy2 => (intro wq hSw; (try dsimp only at hSw); go_simp; try with_reducible rfl)
      try simp only [Act.put, List.setIfInBounds_toArray, List.set_cons_zero, List.set_cons_succ]
      refine wpAnyH_take (i := 1) (oi := ⟨some 29, _, _, _, _, _⟩) (v := ?vv3) rfl (by kernel_rfl) (by kernel_rfl) (by kernel_rfl) (fun _ _ _ h => h) (Or.inl ⟨by rfl, ?yy3⟩) (by assumption) ?rr3
      case yy3 => (intro wq hSw; (try dsimp only at hSw); go_simp; try with_reducible rfl)
      try simp only [Act.put, List.setIfInBounds_toArray, List.set_cons_zero, List.set_cons_succ]
      refine wpAnyH_take (i := 2) (oi := ⟨some 30, _, _, _, _, _⟩) (v := ?vv4) rfl (by kernel_rfl) (by kernel_rfl) (by kernel_rfl) (fun _ _ _ h => h) (Or.inl ⟨by rfl, ?yy4⟩) (by assumption) ?rr4
      case yy4 => (intro wq hSw; (try dsimp only at hSw); go_simp; try with_reducible rfl)
      try simp only [Act.put, List.setIfInBounds_toArray, List.set_cons_zero, List.set_cons_succ]
      refine wpAnyH_take (i := 3) (oi := ⟨some 31, _, _, _, _, _⟩) (v := ?vv5) rfl (by kernel_rfl) (by kernel_rfl) (by kernel_rfl) (fun _ _ _ h => h) (Or.inl ⟨by rfl, ?yy5⟩) (by assumption) ?rr5
      case yy5 => (intro wq hSw; (try dsimp only at hSw); go_simp; try with_reducible rfl)
      try simp only [Act.put, List.setIfInBounds_toArray, List.set_cons_zero, List.set_cons_succ]
      refine wpAnyH_take (i := 4) (oi := ⟨some 32, _, _, _, _, _⟩) (v := ?vv6) rfl (by kernel_rfl) (by kernel_rfl) (by kernel_rfl) (fun _ _ _ h => h) (Or.inl ⟨by rfl, ?yy6⟩) (by assumption) ?rr6
      case yy6 => (intro wq hSw; (try dsimp only at hSw); go_simp; try with_reducible rfl)
      try simp only [Act.put, List.setIfInBounds_toArray, List.set_cons_zero, List.set_cons_succ]
      refine wpAnyH_take (i := 5) (oi := ⟨some 33, _, _, _, _, _⟩) (v := ?vv7) rfl (by kernel_rfl) (by kernel_rfl) (by kernel_rfl) (fun _ _ _ h => h) (Or.inl ⟨by rfl, ?yy7⟩) (by assumption) ?rr7
      case yy7 => (intro wq hSw; (try dsimp only at hSw); go_simp; try with_reducible rfl)
      try simp only [Act.put, List.setIfInBounds_toArray, List.set_cons_zero, List.set_cons_succ]
      refine wpAnyH_done (by kernel_rfl) ?_ _
      obtain ⟨hbq, k0, k2⟩ := hHeld
      go_wp2_with fail
      go_ret
      exact ⟨by first | rfl | (rw [e1]; rfl), hbq⟩
    · have e1 : ((x.toNat : Int) == f) = false := by simpa using hxf
      have e2 : ((x.toNat : Int) != f) = true := by simpa using hxf
      clear hxf
      go_enter Tryd.func50, Tryd.ntmps50
      go_wp2_with fail
      rw [HW0.out]
      refine wp_region_held_drew (S := (fun W' => Below w.heap.size w W' ∧ W'.cell? ⟨w.heap.size, 0, none⟩ = some (.int .i8 7) ∧ W'.cell? ⟨w.heap.size, 3, none⟩ = some (.int .u8 f))) (by kernel_rfl) ?ss8 (fun hHeld => ?rr8)
      case ss8 => (try dsimp only); exact HK.out _ (Below.refl _ _).drew
      refine wpAnyH_take (i := 0) (oi := ⟨some 28, _, _, _, _, _⟩) (v := ?vv9) rfl (by kernel_rfl) (by kernel_rfl) (by kernel_rfl) (fun _ _ _ h => h) (Or.inl ⟨by rfl, ?yy9⟩) (by assumption) ?rr9
      case yy9 => (intro wq hSw; (try dsimp only at hSw); go_simp; try with_reducible rfl)
      try simp only [Act.put, List.setIfInBounds_toArray, List.set_cons_zero, List.set_cons_succ]
      refine wpAnyH_take (i := 1) (oi := ⟨some 29, _, _, _, _, _⟩) (v := ?vv10) rfl (by kernel_rfl) (by kernel_rfl) (by kernel_rfl) (fun _ _ _ h => h) (Or.inl ⟨by rfl, ?yy10⟩) (by assumption) ?rr10
      case yy10 => (intro wq hSw; (try dsimp only at hSw); go_simp; try with_reducible rfl)
      try simp only [Act.put, List.setIfInBounds_toArray, List.set_cons_zero, List.set_cons_succ]
      refine wpAnyH_take (i := 2) (oi := ⟨some 30, _, _, _, _, _⟩) (v := ?vv11) rfl (by kernel_rfl) (by kernel_rfl) (by kernel_rfl) (fun _ _ _ h => h) (Or.inl ⟨by rfl, ?yy11⟩) (by assumption) ?rr11
      case yy11 => (intro wq hSw; (try dsimp only at hSw); go_simp; try with_reducible rfl)
      try simp only [Act.put, List.setIfInBounds_toArray, List.set_cons_zero, List.set_cons_succ]
      refine wpAnyH_take (i := 3) (oi := ⟨some 31, _, _, _, _, _⟩) (v := ?vv12) rfl (by kernel_rfl) (by kernel_rfl) (by kernel_rfl) (fun _ _ _ h => h) (Or.inl ⟨by rfl, ?yy12⟩) (by assumption) ?rr12
      case yy12 => (intro wq hSw; (try dsimp only at hSw); go_simp; try with_reducible rfl)
      try simp only [Act.put, List.setIfInBounds_toArray, List.set_cons_zero, List.set_cons_succ]
      refine wpAnyH_take (i := 4) (oi := ⟨some 32, _, _, _, _, _⟩) (v := ?vv13) rfl (by kernel_rfl) (by kernel_rfl) (by kernel_rfl) (fun _ _ _ h => h) (Or.inl ⟨by rfl, ?yy13⟩) (by assumption) ?rr13
      case yy13 => (intro wq hSw; (try dsimp only at hSw); go_simp; try with_reducible rfl)
      try simp only [Act.put, List.setIfInBounds_toArray, List.set_cons_zero, List.set_cons_succ]
      refine wpAnyH_take (i := 5) (oi := ⟨some 33, _, _, _, _, _⟩) (v := ?vv14) rfl (by kernel_rfl) (by kernel_rfl) (by kernel_rfl) (fun _ _ _ h => h) (Or.inl ⟨by rfl, ?yy14⟩) (by assumption) ?rr14
      case yy14 => (intro wq hSw; (try dsimp only at hSw); go_simp; try with_reducible rfl)
      try simp only [Act.put, List.setIfInBounds_toArray, List.set_cons_zero, List.set_cons_succ]
      refine wpAnyH_done (by kernel_rfl) ?_ _
      obtain ⟨hbq, k0, k2⟩ := hHeld
      go_wp2_with fail
      go_ret
      exact ⟨by first | rfl | (rw [e1]; rfl), hbq⟩
  · have hpz : (p != 0) = true := by simpa using hp
    rw [if_neg hp]
    clear hp
    cases b1
    · go_enter Tryd.func50, Tryd.ntmps50
      go_wp2_with fail
      go_ret
      exact ⟨rfl, bal b0 _⟩
    · go_enter Tryd.func50, Tryd.ntmps50
      go_wp2_with fail
      (refine (HG.out _).mono ?_); rintro ev w3 ⟨rfl, hb3⟩
      rw [HW0.out] at hb3
      have k3 := (HK.out w3 hb3).2.2
      go_wp2_with fail
      refine wp_region_held_drew (S := (fun W' => Below w.heap.size w W' ∧ W'.cell? ⟨w.heap.size, 0, none⟩ = some (.int .i8 7) ∧ W'.cell? ⟨w.heap.size, 3, none⟩ = some (.int .u8 f))) (by kernel_rfl) ?ss15 (fun hHeld => ?rr15)
      case ss15 => (try dsimp only); exact HK.out _ hb3.drew
      refine wpAnyH_take (i := 0) (oi := ⟨some 28, _, _, _, _, _⟩) (v := ?vv16) rfl (by kernel_rfl) (by kernel_rfl) (by kernel_rfl) (fun _ _ _ h => h) (Or.inl ⟨by rfl, ?yy16⟩) (by assumption) ?rr16
      case yy16 => (intro wq hSw; (try dsimp only at hSw); go_simp; try with_reducible rfl)
      try simp only [Act.put, List.setIfInBounds_toArray, List.set_cons_zero, List.set_cons_succ]
      refine wpAnyH_take (i := 1) (oi := ⟨some 29, _, _, _, _, _⟩) (v := ?vv17) rfl (by kernel_rfl) (by kernel_rfl) (by kernel_rfl) (fun _ _ _ h => h) (Or.inl ⟨by rfl, ?yy17⟩) (by assumption) ?rr17
      case yy17 => (intro wq hSw; (try dsimp only at hSw); go_simp; try with_reducible rfl)
      try simp only [Act.put, List.setIfInBounds_toArray, List.set_cons_zero, List.set_cons_succ]
      refine wpAnyH_take (i := 2) (oi := ⟨some 30, _, _, _, _, _⟩) (v := ?vv18) rfl (by kernel_rfl) (by kernel_rfl) (by kernel_rfl) (fun _ _ _ h => h) (Or.inl ⟨by rfl, ?yy18⟩) (by assumption) ?rr18
      case yy18 => (intro wq hSw; (try dsimp only at hSw); go_simp; try with_reducible rfl)
      try simp only [Act.put, List.setIfInBounds_toArray, List.set_cons_zero, List.set_cons_succ]
      refine wpAnyH_take (i := 3) (oi := ⟨some 31, _, _, _, _, _⟩) (v := ?vv19) rfl (by kernel_rfl) (by kernel_rfl) (by kernel_rfl) (fun _ _ _ h => h) (Or.inl ⟨by rfl, ?yy19⟩) (by assumption) ?rr19
      case yy19 => (intro wq hSw; (try dsimp only at hSw); go_simp; try with_reducible rfl)
      try simp only [Act.put, List.setIfInBounds_toArray, List.set_cons_zero, List.set_cons_succ]
      refine wpAnyH_take (i := 4) (oi := ⟨some 32, _, _, _, _, _⟩) (v := ?vv20) rfl (by kernel_rfl) (by kernel_rfl) (by kernel_rfl) (fun _ _ _ h => h) (Or.inl ⟨by rfl, ?yy20⟩) (by assumption) ?rr20
      case yy20 => (intro wq hSw; (try dsimp only at hSw); go_simp; try with_reducible rfl)
      try simp only [Act.put, List.setIfInBounds_toArray, List.set_cons_zero, List.set_cons_succ]
      refine wpAnyH_take (i := 5) (oi := ⟨some 33, _, _, _, _, _⟩) (v := ?vv21) rfl (by kernel_rfl) (by kernel_rfl) (by kernel_rfl) (fun _ _ _ h => h) (Or.inl ⟨by rfl, ?yy21⟩) (by assumption) ?rr21
      case yy21 => (intro wq hSw; (try dsimp only at hSw); go_simp; try with_reducible rfl)
      try simp only [Act.put, List.setIfInBounds_toArray, List.set_cons_zero, List.set_cons_succ]
      refine wpAnyH_done (by kernel_rfl) ?_ _
      obtain ⟨hbq, k0, k2⟩ := hHeld
      go_wp2_with fail
      go_ret
      exact ⟨rfl, hbq⟩
end Go.Proofs.YtkebplifkkhhlaaDoor.C
