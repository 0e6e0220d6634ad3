/- Contract: the answer's Meets. Printed by gen_cqa.py. -/
import Derived.Test.YtjklecncdinabaaGreatDoorCoV
namespace Go.Proofs.YtjklecncdinabaaGreatDoor.C
open Go.RowKit Go.Proofs.YtjklecncdinabaaGreatDoor.B
set_option linter.unusedVariables false
set_option linter.unusedSimpArgs false

theorem opsO_3 (h : Int) : (opsO h == 3) = (h == 62) := by
  rw [Bool.eq_iff_iff]; simp only [beq_iff_eq]; unfold opsO
  by_cases h1 : h = 105 ∨ h = 98 ∨ h = 116
  · rw [if_pos h1]; omega
  · rw [if_neg h1]; repeat' split
    all_goals omega
theorem opsO_6 (h : Int) : (opsO h == 6) = (h == 120) := by
  rw [Bool.eq_iff_iff]; simp only [beq_iff_eq]; unfold opsO
  by_cases h1 : h = 105 ∨ h = 98 ∨ h = 116
  · rw [if_pos h1]; omega
  · rw [if_neg h1]; repeat' split
    all_goals omega
theorem TV_eq (t : Co) (s : Value) : TV t s = .agg #[.int .i8 t.nd.op, .int .i64 t.nd.pj, .bool t.nd.ij, .int .u8 t.nd.hd, .int .i64 t.nd.lb, .int .u8 t.nd.fr, .int .u8 t.nd.to, s] := rfl
/-- A tree's value in a block of one's own. -/
def trA (t : Co) (s : Value) : Array Value := #[.int .i8 t.nd.op, .int .i64 t.nd.pj, .bool t.nd.ij, .int .u8 t.nd.hd, .int .i64 t.nd.lb, .int .u8 t.nd.fr, .int .u8 t.nd.to, s]
theorem nd_any : Co.any.nd = ⟨1, 0, false, 0, 0, 0, 0⟩ := rfl
theorem nd_fail (p l f q : Int) : (Co.fail p l f q).nd = ⟨7, p, false, f, l, f, q⟩ := rfl
theorem nd_part (p : Int) (j : Bool) (h : Int) (a b : Co) : (Co.part p j h a b).nd = ⟨opsO h, p, j, h, 0, 0, 0⟩ := rfl

def MeetRQ (s t : Co) (w : World) (e : Ending) (w' : World) : Prop := e = .returned (.bool (meetC s t)) ∧ Below w.heap.size w w'

section
variable (w : World)
set_option maxRecDepth 100000 in
theorem meetsR_fail (p l f q : Int) (A : Value) (t : Co) (B : Value) : Calls Tryz.prog 8 #[TV (.fail p l f q) A, TV t B] w fun e w' => MeetRQ (.fail p l f q) t w e w' := by
  unfold MeetRQ
  rw [meet_fail, TV_eq, TV_eq]
  simp only [nd_fail]
  generalize t.nd = n
  obtain ⟨o, p', i, h, l', f', t'⟩ := n
  go_enter Tryz.func8, Tryz.ntmps8
  go_wp2_with fail
  go_ret
  exact ⟨rfl, bal (bal b0 _) _⟩
set_option maxRecDepth 100000 in
/-- One of them is 'anything'. -/
theorem meetsR_anyL (t : Co) (A B : Value) : Calls Tryz.prog 8 #[TV .any A, TV t B] w fun e w' => MeetRQ .any t w e w' := by
  unfold MeetRQ
  rw [meet_any]
  have h1 := fun W => endsR_any W .any A
  have h2 := fun W => beginsR_any W t B
  obtain ⟨r, hr⟩ : ∃ r, t.begins = r := ⟨_, rfl⟩
  rw [hr] at h2 ⊢
  rw [TV_eq, TV_eq] at *
  simp only [nd_any, Co.endsR] at *
  generalize t.nd = n at *
  obtain ⟨o, p', i, h, l', f', t'⟩ := n
  clear hr
  have H1 := Lib.hid h1
  have H2 := Lib.hid h2
  clear h1 h2
  go_enter Tryz.func8, Tryz.ntmps8
  go_wp2_with fail
  (refine (H1.out _).mono ?_); rintro e w1 ⟨rfl, hb1⟩
  have hy : Blk (((w.alloc (.cells #[.int .i8 1, .int .i64 0, .bool false, .int .u8 0, .int .i64 0, .int .u8 0, .int .u8 0, A] 31)).alloc (.cells #[.int .i8 o, .int .i64 p', .bool i, .int .u8 h, .int .i64 l', .int .u8 f', .int .u8 t', B] 31))) (w.heap.size + 1) 31 #[.int .i8 o, .int .i64 p', .bool i, .int .u8 h, .int .i64 l', .int .u8 f', .int .u8 t', B] := by
    have := Blk.new (w.alloc (.cells #[.int .i8 1, .int .i64 0, .bool false, .int .u8 0, .int .i64 0, .int .u8 0, .int .u8 0, A] 31)) 31 #[.int .i8 o, .int .i64 p', .bool i, .int .u8 h, .int .i64 l', .int .u8 f', .int .u8 t', B]
    rwa [World.size_alloc] at this
  obtain ⟨z0, z1, z2, z3, z4, z5, z6, z7⟩ := blk_cells8 (hy.below hb1 hy.lt)
  have HB := Lib.hid (bl (bal (bal b0 _) _) hb1)
  clear hy hb1
  go_wp2_with fail
  (refine (H2.out _).mono ?_); rintro e w2 ⟨rfl, hb2⟩
  go_wp2_with fail
  go_ret
  exact ⟨by simp, bl HB.out hb2⟩
set_option maxRecDepth 100000 in
theorem meetsR_anyR (p : Int) (j : Bool) (h : Int) (a b : Co) (A B : Value) : Calls Tryz.prog 8 #[TV (.part p j h a b) A, TV .any B] w fun e w' => MeetRQ (.part p j h a b) .any w e w' := by
  unfold MeetRQ
  rw [meet_pa]
  have h1 := fun W => endsR_any W (.part p j h a b) A
  have h2 := fun W => beginsR_any W .any B
  rw [TV_eq, TV_eq] at *
  simp only [nd_any, nd_part, Co.endsR, Co.begins] at *
  have e1 : (opsO h == 1) = false := by simpa using (opsO_ne h).1
  have e7 : (opsO h == 7) = false := by simpa using (opsO_ne h).2
  generalize opsO h = o at *
  have H1 := Lib.hid h1
  have H2 := Lib.hid h2
  clear h1 h2
  go_enter Tryz.func8, Tryz.ntmps8
  go_wp2_with fail
  (refine (H1.out _).mono ?_); rintro e w1 ⟨rfl, hb1⟩
  have hy : Blk (((w.alloc (.cells #[.int .i8 o, .int .i64 p, .bool j, .int .u8 h, .int .i64 0, .int .u8 0, .int .u8 0, A] 31)).alloc (.cells #[.int .i8 1, .int .i64 0, .bool false, .int .u8 0, .int .i64 0, .int .u8 0, .int .u8 0, B] 31))) (w.heap.size + 1) 31 #[.int .i8 1, .int .i64 0, .bool false, .int .u8 0, .int .i64 0, .int .u8 0, .int .u8 0, B] := by
    have := Blk.new (w.alloc (.cells #[.int .i8 o, .int .i64 p, .bool j, .int .u8 h, .int .i64 0, .int .u8 0, .int .u8 0, A] 31)) 31 #[.int .i8 1, .int .i64 0, .bool false, .int .u8 0, .int .i64 0, .int .u8 0, .int .u8 0, B]
    rwa [World.size_alloc] at this
  obtain ⟨z0, z1, z2, z3, z4, z5, z6, z7⟩ := blk_cells8 (hy.below hb1 hy.lt)
  have HB := Lib.hid (bl (bal (bal b0 _) _) hb1)
  clear hy hb1
  cases j
  · go_wp2_with fail
    go_ret
    exact ⟨by simp, HB.out⟩
  · go_wp2_with fail
    (refine (H2.out _).mono ?_); rintro e w2 ⟨rfl, hb2⟩
    go_wp2_with fail
    go_ret
    exact ⟨by simp, bl HB.out hb2⟩
end


def KidRM (h : Int) (a b c d : Co) (m : Nat) (w : World) (e : Ending) (w' : World) : Prop := e = .returned (.bool (meetK h m (kidT a b m) (kidT c d m))) ∧ Below w.heap.size w w'


set_option maxRecDepth 100000 in
set_option maxHeartbeats 4000000 in
theorem meetsR_pf (p : Int) (j : Bool) (h : Int) (a b : Co) (A : Option Addr) (n c : Nat) (q l f t : Int) (A2 : Option Addr) (n2 c2 : Nat) (w : World) :
    Calls Tryz.prog 8 #[TV (.part p j h a b) (.slice A n c), TV (.fail q l f t) (.slice A2 n2 c2)] w fun e w' => MeetRQ (.part p j h a b) (.fail q l f t) w e w' := by
  unfold MeetRQ
  rw [meet_pf_eq]
  have hen := fun W => endsR_any W (.part p j h a b) (.slice A n c)
  have hbe := fun W => beginsR_any W (.fail q l f t) (.slice A2 n2 c2)
  rw [TV_eq, TV_eq] at *
  simp only [nd_fail, nd_part, Co.endsR, Co.begins] at *
  have e1 : (opsO h == 1) = false := by simpa using (opsO_ne h).1
  have e7 : (opsO h == 7) = false := by simpa using (opsO_ne h).2
  generalize opsO h = so at *
  obtain ⟨yb, hyb⟩ : ∃ x, (q != 0) = x := ⟨_, rfl⟩
  rw [hyb] at hbe ⊢
  have HEN := Lib.hid hen
  have HBE := Lib.hid hbe
  clear hen hbe hyb
  go_enter Tryz.func8, Tryz.ntmps8
  go_upto_region 5 with fail
  obtain ⟨W, hW⟩ : ∃ W, ((w.alloc (.cells #[.int .i8 so, .int .i64 p, .bool j, .int .u8 h, .int .i64 0, .int .u8 0, .int .u8 0, .slice A n c] 31)).alloc (.cells #[.int .i8 7, .int .i64 q, .bool false, .int .u8 f, .int .i64 l, .int .u8 f, .int .u8 t, .slice A2 n2 c2] 31)) = W := ⟨_, rfl⟩
  rw [hW]
  have hb : Below w.heap.size w W := by rw [← hW]; exact bal (bal b0 _) _
  have hx : Blk W w.heap.size 31 #[.int .i8 so, .int .i64 p, .bool j, .int .u8 h, .int .i64 0, .int .u8 0, .int .u8 0, .slice A n c] := by rw [← hW]; exact (Blk.new w _ _).alloc _
  have hy : Blk W (w.heap.size + 1) 31 #[.int .i8 7, .int .i64 q, .bool false, .int .u8 f, .int .i64 l, .int .u8 f, .int .u8 t, .slice A2 n2 c2] := by
    rw [← hW]
    have := Blk.new (w.alloc (.cells #[.int .i8 so, .int .i64 p, .bool j, .int .u8 h, .int .i64 0, .int .u8 0, .int .u8 0, .slice A n c] 31)) 31 #[.int .i8 7, .int .i64 q, .bool false, .int .u8 f, .int .i64 l, .int .u8 f, .int .u8 t, .slice A2 n2 c2]
    rwa [World.size_alloc] at this
  clear hW
  have HK := Lib.hid (show ∀ W', Below W.heap.size W W' → (Below W.heap.size W W' ∧ W'.cell? ⟨w.heap.size, 0, none⟩ = some (.int .i8 so) ∧ W'.cell? ⟨w.heap.size, 1, none⟩ = some (.int .i64 p) ∧ W'.cell? ⟨w.heap.size, 2, none⟩ = some (.bool j) ∧ W'.cell? ⟨w.heap.size, 3, none⟩ = some (.int .u8 h) ∧ W'.cell? ⟨w.heap.size, 4, none⟩ = some (.int .i64 0) ∧ W'.cell? ⟨w.heap.size, 5, none⟩ = some (.int .u8 0) ∧ W'.cell? ⟨w.heap.size, 6, none⟩ = some (.int .u8 0) ∧ W'.cell? ⟨w.heap.size, 7, none⟩ = some (.slice A n c) ∧ W'.cell? ⟨w.heap.size + 1, 0, none⟩ = some (.int .i8 7) ∧ W'.cell? ⟨w.heap.size + 1, 1, none⟩ = some (.int .i64 q) ∧ W'.cell? ⟨w.heap.size + 1, 2, none⟩ = some (.bool false) ∧ W'.cell? ⟨w.heap.size + 1, 3, none⟩ = some (.int .u8 f) ∧ W'.cell? ⟨w.heap.size + 1, 4, none⟩ = some (.int .i64 l) ∧ W'.cell? ⟨w.heap.size + 1, 5, none⟩ = some (.int .u8 f) ∧ W'.cell? ⟨w.heap.size + 1, 6, none⟩ = some (.int .u8 t) ∧ W'.cell? ⟨w.heap.size + 1, 7, none⟩ = some (.slice A2 n2 c2)) from fun W' hb' => ⟨hb', ((hx.below hb' hx.lt).cell 0).trans rfl, ((hx.below hb' hx.lt).cell 1).trans rfl, ((hx.below hb' hx.lt).cell 2).trans rfl, ((hx.below hb' hx.lt).cell 3).trans rfl, ((hx.below hb' hx.lt).cell 4).trans rfl, ((hx.below hb' hx.lt).cell 5).trans rfl, ((hx.below hb' hx.lt).cell 6).trans rfl, ((hx.below hb' hx.lt).cell 7).trans rfl, ((hy.below hb' hy.lt).cell 0).trans rfl, ((hy.below hb' hy.lt).cell 1).trans rfl, ((hy.below hb' hy.lt).cell 2).trans rfl, ((hy.below hb' hy.lt).cell 3).trans rfl, ((hy.below hb' hy.lt).cell 4).trans rfl, ((hy.below hb' hy.lt).cell 5).trans rfl, ((hy.below hb' hy.lt).cell 6).trans rfl, ((hy.below hb' hy.lt).cell 7).trans rfl⟩)
  have HB := Lib.hid hb
  clear hx hy hb
  go_cut [30] from 26 to 31 (fun r wx => r = .bool (j != yb) ∧ Below W.heap.size W wx)
  case first =>
    refine wp_region_held_drew (S := (fun W' => Below W.heap.size W W' ∧ W'.cell? ⟨w.heap.size, 0, none⟩ = some (.int .i8 so) ∧ W'.cell? ⟨w.heap.size, 1, none⟩ = some (.int .i64 p) ∧ W'.cell? ⟨w.heap.size, 2, none⟩ = some (.bool j) ∧ W'.cell? ⟨w.heap.size, 3, none⟩ = some (.int .u8 h) ∧ W'.cell? ⟨w.heap.size, 4, none⟩ = some (.int .i64 0) ∧ W'.cell? ⟨w.heap.size, 5, none⟩ = some (.int .u8 0) ∧ W'.cell? ⟨w.heap.size, 6, none⟩ = some (.int .u8 0) ∧ W'.cell? ⟨w.heap.size, 7, none⟩ = some (.slice A n c) ∧ W'.cell? ⟨w.heap.size + 1, 0, none⟩ = some (.int .i8 7) ∧ W'.cell? ⟨w.heap.size + 1, 1, none⟩ = some (.int .i64 q) ∧ W'.cell? ⟨w.heap.size + 1, 2, none⟩ = some (.bool false) ∧ W'.cell? ⟨w.heap.size + 1, 3, none⟩ = some (.int .u8 f) ∧ W'.cell? ⟨w.heap.size + 1, 4, none⟩ = some (.int .i64 l) ∧ W'.cell? ⟨w.heap.size + 1, 5, none⟩ = some (.int .u8 f) ∧ W'.cell? ⟨w.heap.size + 1, 6, none⟩ = some (.int .u8 t) ∧ W'.cell? ⟨w.heap.size + 1, 7, none⟩ = some (.slice A2 n2 c2))) (by kernel_rfl) ?ss1 (fun hHeld => ?rr1)
    case ss1 => (try dsimp only); exact HK.out _ (Below.refl _ _).drew
    refine wpAnyH_take (i := 0) (oi := ⟨some 26, _, _, _, _, _⟩) (v := ?vv2) rfl (by kernel_rfl) (by kernel_rfl) (by kernel_rfl) (fun _ _ _ h => h) (Or.inl ⟨by rfl, ?yy2⟩) (by assumption) ?rr2
    case yy2 => (intro wq hSw; (try dsimp only at hSw); go_simp; try with_reducible rfl)
    try simp only [Act.put, List.setIfInBounds_toArray, List.set_cons_zero, List.set_cons_succ]
    refine wpAnyH_take (i := 2) (oi := ⟨some 28, _, _, _, _, _⟩) (v := ?vv3) rfl (by kernel_rfl) (by kernel_rfl) (by kernel_rfl) (fun _ _ _ h => h) (Or.inl ⟨by rfl, ?yy3⟩) (by assumption) ?rr3
    case yy3 => (intro wq hSw; (try dsimp only at hSw); go_simp; try with_reducible rfl)
    try simp only [Act.put, List.setIfInBounds_toArray, List.set_cons_zero, List.set_cons_succ]
    refine wpAnyH_ready (rs := [1]) (by kernel_rfl) (by simp) ?_
    refine AllReadyH.cons (o := ⟨some 27, _, _, _, _, _⟩) rfl (fun K hK => ?_) AllReadyH.nil
    go_simp
    ((refine (HEN.out _).mono ?_); rintro e w4 ⟨rfl, hb4⟩)
    refine hK.out _ _ ?ss4 (fun hHeld2 => ?rr4)
    case ss4 => (try dsimp only); exact HK.out _ (bl hHeld.1 hb4)
    clear hK K
    clear hHeld
    have hHeld := hHeld2
    clear hHeld2
    try simp only [Act.put, List.setIfInBounds_toArray, List.set_cons_zero, List.set_cons_succ]
    refine wpAnyH_ready (rs := [3]) (by kernel_rfl) (by simp) ?_
    refine AllReadyH.cons (o := ⟨some 29, _, _, _, _, _⟩) rfl (fun K hK => ?_) AllReadyH.nil
    go_simp
    ((refine (HBE.out _).mono ?_); rintro e w5 ⟨rfl, hb5⟩)
    refine hK.out _ _ ?ss5 (fun hHeld2 => ?rr5)
    case ss5 => (try dsimp only); exact HK.out _ (bl hHeld.1 hb5)
    clear hK K
    clear hHeld
    have hHeld := hHeld2
    clear hHeld2
    try simp only [Act.put, List.setIfInBounds_toArray, List.set_cons_zero, List.set_cons_succ]
    refine wpAnyH_take (i := 4) (oi := ⟨some 30, _, _, _, _, _⟩) (v := ?vv6) rfl (by kernel_rfl) (by kernel_rfl) (by kernel_rfl) (fun _ _ _ h => h) (Or.inl ⟨by rfl, ?yy6⟩) (by assumption) ?rr6
    case yy6 => (intro wq hSw; (try dsimp only at hSw); go_simp; try with_reducible rfl)
    try simp only [Act.put, List.setIfInBounds_toArray, List.set_cons_zero, List.set_cons_succ]
    refine wpAnyH_done (by kernel_rfl) ?_ _
    go_wp2_with fail
    go_meet
    case rel => exact ⟨by first | rfl | simp, hHeld.1⟩
  case rest =>
    obtain ⟨rfl, hbw⟩ := hcut
    have HBW := Lib.hid hbw
    obtain ⟨_, x0, x1, x2, x3, x4, x5, x6, x7, y0, y1', y2, y3, y4, y5, y6, y7⟩ := HK.out wc hbw
    clear hbw
    obtain ⟨hj, hjb⟩ : ∃ x, (j != yb) = x := ⟨_, rfl⟩
    rw [hjb]
    cases hj
    · obtain rfl : j = yb := by cases j <;> cases yb <;> simp_all
      clear hjb
      by_cases hf : h = f
      · subst hf
        have e2 : (h != h) = false := by simp
        go_wp2_with fail
        go_ret
        exact ⟨by simp, bl HB.out HBW.out⟩
      · have e2 : (h != f) = true := by simpa using hf
        have e3 : (h == f) = false := by simpa using hf
        clear hf
        go_wp2_with fail
        ((refine (HEN.out _).mono ?_); rintro e w4 ⟨rfl, hb4⟩)
        go_wp2_with fail
        go_ret
        exact ⟨by rw [e3]; simp, bl (bl HB.out HBW.out) hb4⟩
    · go_wp2_with fail
      go_ret
      exact ⟨by cases j <;> cases yb <;> simp_all, bl HB.out HBW.out⟩


set_option maxRecDepth 100000 in
set_option maxHeartbeats 8000000 in
/-- Two parts of head 62 whose kids are asked. -/
theorem meetsR_fun (p : Int) (j : Bool) (g o c : Nat) (q : Int) (i : Bool) (g2 o2 c2 : Nat) (kao kap : Int) (kai : Bool) (kah kal kaf kat : Int) (kaA : Option Addr) (kan kac : Nat) (kbo kbp : Int) (kbi : Bool) (kbh kbl kbf kbt : Int) (kbA : Option Addr) (kbn kbc : Nat) (kco kcp : Int) (kci : Bool) (kch kcl kcf kct : Int) (kcA : Option Addr) (kcn kcc : Nat) (kdo kdp : Int) (kdi : Bool) (kdh kdl kdf kdt : Int) (kdA : Option Addr) (kdn kdc : Nat) (w : World) (r0 r1 R : Bool) (hR : R = (r0 && r1))
    (hkk : ∀ W', Below w.heap.size w W' → W'.cell? ⟨g, o, none⟩ = some (.int .i8 kao) ∧ W'.cell? ⟨g, o + 1, none⟩ = some (.int .i64 kap) ∧ W'.cell? ⟨g, o + 2, none⟩ = some (.bool kai) ∧ W'.cell? ⟨g, o + 3, none⟩ = some (.int .u8 kah) ∧ W'.cell? ⟨g, o + 4, none⟩ = some (.int .i64 kal) ∧ W'.cell? ⟨g, o + 5, none⟩ = some (.int .u8 kaf) ∧ W'.cell? ⟨g, o + 6, none⟩ = some (.int .u8 kat) ∧ W'.cell? ⟨g, o + 7, none⟩ = some (.slice kaA kan kac) ∧ W'.cell? ⟨g, o + 8, none⟩ = some (.int .i8 kbo) ∧ W'.cell? ⟨g, o + 8 + 1, none⟩ = some (.int .i64 kbp) ∧ W'.cell? ⟨g, o + 8 + 2, none⟩ = some (.bool kbi) ∧ W'.cell? ⟨g, o + 8 + 3, none⟩ = some (.int .u8 kbh) ∧ W'.cell? ⟨g, o + 8 + 4, none⟩ = some (.int .i64 kbl) ∧ W'.cell? ⟨g, o + 8 + 5, none⟩ = some (.int .u8 kbf) ∧ W'.cell? ⟨g, o + 8 + 6, none⟩ = some (.int .u8 kbt) ∧ W'.cell? ⟨g, o + 8 + 7, none⟩ = some (.slice kbA kbn kbc) ∧ W'.cell? ⟨g2, o2, none⟩ = some (.int .i8 kco) ∧ W'.cell? ⟨g2, o2 + 1, none⟩ = some (.int .i64 kcp) ∧ W'.cell? ⟨g2, o2 + 2, none⟩ = some (.bool kci) ∧ W'.cell? ⟨g2, o2 + 3, none⟩ = some (.int .u8 kch) ∧ W'.cell? ⟨g2, o2 + 4, none⟩ = some (.int .i64 kcl) ∧ W'.cell? ⟨g2, o2 + 5, none⟩ = some (.int .u8 kcf) ∧ W'.cell? ⟨g2, o2 + 6, none⟩ = some (.int .u8 kct) ∧ W'.cell? ⟨g2, o2 + 7, none⟩ = some (.slice kcA kcn kcc) ∧ W'.cell? ⟨g2, o2 + 8, none⟩ = some (.int .i8 kdo) ∧ W'.cell? ⟨g2, o2 + 8 + 1, none⟩ = some (.int .i64 kdp) ∧ W'.cell? ⟨g2, o2 + 8 + 2, none⟩ = some (.bool kdi) ∧ W'.cell? ⟨g2, o2 + 8 + 3, none⟩ = some (.int .u8 kdh) ∧ W'.cell? ⟨g2, o2 + 8 + 4, none⟩ = some (.int .i64 kdl) ∧ W'.cell? ⟨g2, o2 + 8 + 5, none⟩ = some (.int .u8 kdf) ∧ W'.cell? ⟨g2, o2 + 8 + 6, none⟩ = some (.int .u8 kdt) ∧ W'.cell? ⟨g2, o2 + 8 + 7, none⟩ = some (.slice kdA kdn kdc))
    (hen : ∀ W, Calls Tryz.prog 20 #[.agg #[.int .i8 3, .int .i64 p, .bool j, .int .u8 62, .int .i64 0, .int .u8 0, .int .u8 0, .slice (some ⟨g, o, none⟩) 2 c]] W fun e w' => e = .returned (.bool j) ∧ Below W.heap.size W w')
    (hbe : ∀ W, Calls Tryz.prog 21 #[.agg #[.int .i8 3, .int .i64 q, .bool i, .int .u8 62, .int .i64 0, .int .u8 0, .int .u8 0, .slice (some ⟨g2, o2, none⟩) 2 c2]] W fun e w' => e = .returned (.bool j) ∧ Below W.heap.size W w')
    (hc0 : ∀ W, Below w.heap.size w W → Calls Tryz.prog 8 #[.agg #[.int .i8 kco, .int .i64 kcp, .bool kci, .int .u8 kch, .int .i64 kcl, .int .u8 kcf, .int .u8 kct, .slice kcA kcn kcc], .agg #[.int .i8 kao, .int .i64 kap, .bool kai, .int .u8 kah, .int .i64 kal, .int .u8 kaf, .int .u8 kat, .slice kaA kan kac]] W fun e w' => e = .returned (.bool r0) ∧ Below W.heap.size W w')
    (hc1 : ∀ W, Below w.heap.size w W → Calls Tryz.prog 8 #[.agg #[.int .i8 kbo, .int .i64 kbp, .bool kbi, .int .u8 kbh, .int .i64 kbl, .int .u8 kbf, .int .u8 kbt, .slice kbA kbn kbc], .agg #[.int .i8 kdo, .int .i64 kdp, .bool kdi, .int .u8 kdh, .int .i64 kdl, .int .u8 kdf, .int .u8 kdt, .slice kdA kdn kdc]] W fun e w' => e = .returned (.bool r1) ∧ Below W.heap.size W w') :
    Calls Tryz.prog 8 #[.agg #[.int .i8 3, .int .i64 p, .bool j, .int .u8 62, .int .i64 0, .int .u8 0, .int .u8 0, .slice (some ⟨g, o, none⟩) 2 c], .agg #[.int .i8 3, .int .i64 q, .bool i, .int .u8 62, .int .i64 0, .int .u8 0, .int .u8 0, .slice (some ⟨g2, o2, none⟩) 2 c2]] w fun e w' => e = .returned (.bool R) ∧ Below w.heap.size w w' := by
  have HEN := Lib.hid hen
  have HBE := Lib.hid hbe
  have HC0' := Lib.hid hc0
  have HC1' := Lib.hid hc1
  have HKK' := Lib.hid hkk
  obtain ⟨yb, hyb⟩ : ∃ x, j = x := ⟨_, rfl⟩
  clear hen hbe hc0 hc1 hkk
  clear hyb yb
  go_enter Tryz.func8, Tryz.ntmps8
  go_upto_region 5 with fail
  obtain ⟨W, hW⟩ : ∃ W, ((w.alloc (.cells #[.int .i8 3, .int .i64 p, .bool j, .int .u8 62, .int .i64 0, .int .u8 0, .int .u8 0, .slice (some ⟨g, o, none⟩) 2 c] 31)).alloc (.cells #[.int .i8 3, .int .i64 q, .bool i, .int .u8 62, .int .i64 0, .int .u8 0, .int .u8 0, .slice (some ⟨g2, o2, none⟩) 2 c2] 31)) = W := ⟨_, rfl⟩
  rw [hW]
  have hb : Below w.heap.size w W := by rw [← hW]; exact bal (bal b0 _) _
  have hx : Blk W w.heap.size 31 #[.int .i8 3, .int .i64 p, .bool j, .int .u8 62, .int .i64 0, .int .u8 0, .int .u8 0, .slice (some ⟨g, o, none⟩) 2 c] := by rw [← hW]; exact (Blk.new w _ _).alloc _
  have hy : Blk W (w.heap.size + 1) 31 #[.int .i8 3, .int .i64 q, .bool i, .int .u8 62, .int .i64 0, .int .u8 0, .int .u8 0, .slice (some ⟨g2, o2, none⟩) 2 c2] := by
    rw [← hW]
    have := Blk.new (w.alloc (.cells #[.int .i8 3, .int .i64 p, .bool j, .int .u8 62, .int .i64 0, .int .u8 0, .int .u8 0, .slice (some ⟨g, o, none⟩) 2 c] 31)) 31 #[.int .i8 3, .int .i64 q, .bool i, .int .u8 62, .int .i64 0, .int .u8 0, .int .u8 0, .slice (some ⟨g2, o2, none⟩) 2 c2]
    rwa [World.size_alloc] at this
  clear hW
  have HK := Lib.hid (show ∀ W', Below W.heap.size W W' → (Below W.heap.size W W' ∧ W'.cell? ⟨w.heap.size, 0, none⟩ = some (.int .i8 3) ∧ W'.cell? ⟨w.heap.size, 1, none⟩ = some (.int .i64 p) ∧ W'.cell? ⟨w.heap.size, 2, none⟩ = some (.bool j) ∧ W'.cell? ⟨w.heap.size, 3, none⟩ = some (.int .u8 62) ∧ W'.cell? ⟨w.heap.size, 4, none⟩ = some (.int .i64 0) ∧ W'.cell? ⟨w.heap.size, 5, none⟩ = some (.int .u8 0) ∧ W'.cell? ⟨w.heap.size, 6, none⟩ = some (.int .u8 0) ∧ W'.cell? ⟨w.heap.size, 7, none⟩ = some (.slice (some ⟨g, o, none⟩) 2 c) ∧ W'.cell? ⟨w.heap.size + 1, 0, none⟩ = some (.int .i8 3) ∧ W'.cell? ⟨w.heap.size + 1, 1, none⟩ = some (.int .i64 q) ∧ W'.cell? ⟨w.heap.size + 1, 2, none⟩ = some (.bool i) ∧ W'.cell? ⟨w.heap.size + 1, 3, none⟩ = some (.int .u8 62) ∧ W'.cell? ⟨w.heap.size + 1, 4, none⟩ = some (.int .i64 0) ∧ W'.cell? ⟨w.heap.size + 1, 5, none⟩ = some (.int .u8 0) ∧ W'.cell? ⟨w.heap.size + 1, 6, none⟩ = some (.int .u8 0) ∧ W'.cell? ⟨w.heap.size + 1, 7, none⟩ = some (.slice (some ⟨g2, o2, none⟩) 2 c2)) from fun W' hb' => ⟨hb', ((hx.below hb' hx.lt).cell 0).trans rfl, ((hx.below hb' hx.lt).cell 1).trans rfl, ((hx.below hb' hx.lt).cell 2).trans rfl, ((hx.below hb' hx.lt).cell 3).trans rfl, ((hx.below hb' hx.lt).cell 4).trans rfl, ((hx.below hb' hx.lt).cell 5).trans rfl, ((hx.below hb' hx.lt).cell 6).trans rfl, ((hx.below hb' hx.lt).cell 7).trans rfl, ((hy.below hb' hy.lt).cell 0).trans rfl, ((hy.below hb' hy.lt).cell 1).trans rfl, ((hy.below hb' hy.lt).cell 2).trans rfl, ((hy.below hb' hy.lt).cell 3).trans rfl, ((hy.below hb' hy.lt).cell 4).trans rfl, ((hy.below hb' hy.lt).cell 5).trans rfl, ((hy.below hb' hy.lt).cell 6).trans rfl, ((hy.below hb' hy.lt).cell 7).trans rfl⟩)
  have HB := Lib.hid hb
  clear hx hy hb
  go_cut [30] from 26 to 31 (fun r wx => r = .bool (j != j) ∧ Below W.heap.size W wx)
  case first =>
    refine wp_region_held_drew (S := (fun W' => Below W.heap.size W W' ∧ W'.cell? ⟨w.heap.size, 0, none⟩ = some (.int .i8 3) ∧ W'.cell? ⟨w.heap.size, 1, none⟩ = some (.int .i64 p) ∧ W'.cell? ⟨w.heap.size, 2, none⟩ = some (.bool j) ∧ W'.cell? ⟨w.heap.size, 3, none⟩ = some (.int .u8 62) ∧ W'.cell? ⟨w.heap.size, 4, none⟩ = some (.int .i64 0) ∧ W'.cell? ⟨w.heap.size, 5, none⟩ = some (.int .u8 0) ∧ W'.cell? ⟨w.heap.size, 6, none⟩ = some (.int .u8 0) ∧ W'.cell? ⟨w.heap.size, 7, none⟩ = some (.slice (some ⟨g, o, none⟩) 2 c) ∧ W'.cell? ⟨w.heap.size + 1, 0, none⟩ = some (.int .i8 3) ∧ W'.cell? ⟨w.heap.size + 1, 1, none⟩ = some (.int .i64 q) ∧ W'.cell? ⟨w.heap.size + 1, 2, none⟩ = some (.bool i) ∧ W'.cell? ⟨w.heap.size + 1, 3, none⟩ = some (.int .u8 62) ∧ W'.cell? ⟨w.heap.size + 1, 4, none⟩ = some (.int .i64 0) ∧ W'.cell? ⟨w.heap.size + 1, 5, none⟩ = some (.int .u8 0) ∧ W'.cell? ⟨w.heap.size + 1, 6, none⟩ = some (.int .u8 0) ∧ W'.cell? ⟨w.heap.size + 1, 7, none⟩ = some (.slice (some ⟨g2, o2, none⟩) 2 c2))) (by kernel_rfl) ?ss7 (fun hHeld => ?rr7)
    case ss7 => (try dsimp only); exact HK.out _ (Below.refl _ _).drew
    refine wpAnyH_take (i := 0) (oi := ⟨some 26, _, _, _, _, _⟩) (v := ?vv8) rfl (by kernel_rfl) (by kernel_rfl) (by kernel_rfl) (fun _ _ _ h => h) (Or.inl ⟨by rfl, ?yy8⟩) (by assumption) ?rr8
    case yy8 => (intro wq hSw; (try dsimp only at hSw); go_simp; try with_reducible rfl)
    try simp only [Act.put, List.setIfInBounds_toArray, List.set_cons_zero, List.set_cons_succ]
    refine wpAnyH_take (i := 2) (oi := ⟨some 28, _, _, _, _, _⟩) (v := ?vv9) rfl (by kernel_rfl) (by kernel_rfl) (by kernel_rfl) (fun _ _ _ h => h) (Or.inl ⟨by rfl, ?yy9⟩) (by assumption) ?rr9
    case yy9 => (intro wq hSw; (try dsimp only at hSw); go_simp; try with_reducible rfl)
    try simp only [Act.put, List.setIfInBounds_toArray, List.set_cons_zero, List.set_cons_succ]
    refine wpAnyH_ready (rs := [1]) (by kernel_rfl) (by simp) ?_
    refine AllReadyH.cons (o := ⟨some 27, _, _, _, _, _⟩) rfl (fun K hK => ?_) AllReadyH.nil
    go_simp
    ((refine (HEN.out _).mono ?_); rintro e w4 ⟨rfl, hb4⟩)
    refine hK.out _ _ ?ss10 (fun hHeld2 => ?rr10)
    case ss10 => (try dsimp only); exact HK.out _ (bl hHeld.1 hb4)
    clear hK K
    clear hHeld
    have hHeld := hHeld2
    clear hHeld2
    try simp only [Act.put, List.setIfInBounds_toArray, List.set_cons_zero, List.set_cons_succ]
    refine wpAnyH_ready (rs := [3]) (by kernel_rfl) (by simp) ?_
    refine AllReadyH.cons (o := ⟨some 29, _, _, _, _, _⟩) rfl (fun K hK => ?_) AllReadyH.nil
    go_simp
    ((refine (HBE.out _).mono ?_); rintro e w5 ⟨rfl, hb5⟩)
    refine hK.out _ _ ?ss11 (fun hHeld2 => ?rr11)
    case ss11 => (try dsimp only); exact HK.out _ (bl hHeld.1 hb5)
    clear hK K
    clear hHeld
    have hHeld := hHeld2
    clear hHeld2
    try simp only [Act.put, List.setIfInBounds_toArray, List.set_cons_zero, List.set_cons_succ]
    refine wpAnyH_take (i := 4) (oi := ⟨some 30, _, _, _, _, _⟩) (v := ?vv12) rfl (by kernel_rfl) (by kernel_rfl) (by kernel_rfl) (fun _ _ _ h => h) (Or.inl ⟨by rfl, ?yy12⟩) (by assumption) ?rr12
    case yy12 => (intro wq hSw; (try dsimp only at hSw); go_simp; try with_reducible rfl)
    try simp only [Act.put, List.setIfInBounds_toArray, List.set_cons_zero, List.set_cons_succ]
    refine wpAnyH_done (by kernel_rfl) ?_ _
    go_wp2_with fail
    go_meet
    case rel => exact ⟨by first | rfl | simp, hHeld.1⟩
  case rest =>
    obtain ⟨rfl, hbw⟩ := hcut
    have HBW := Lib.hid hbw
    obtain ⟨_, x0, x1, x2, x3, x4, x5, x6, x7, y0, y1', y2, y3, y4, y5, y6, y7⟩ := HK.out wc hbw
    clear hbw
    have e0 : (j != j) = false := by simp
    rw [e0]
    have HC0 := Lib.hid (fun W' (hb' : Below W.heap.size W W') => HC0'.out W' (bl HB.out hb'))
    have HC1 := Lib.hid (fun W' (hb' : Below W.heap.size W W') => HC1'.out W' (bl HB.out hb'))
    have HKK := Lib.hid (show ∀ W', Below W.heap.size W W' → (Below W.heap.size W W' ∧ W'.cell? ⟨w.heap.size, 7, none⟩ = some (.slice (some ⟨g, o, none⟩) 2 c) ∧ W'.cell? ⟨w.heap.size + 1, 7, none⟩ = some (.slice (some ⟨g2, o2, none⟩) 2 c2) ∧ W'.cell? ⟨g, o, none⟩ = some (.int .i8 kao) ∧ W'.cell? ⟨g, o + 1, none⟩ = some (.int .i64 kap) ∧ W'.cell? ⟨g, o + 2, none⟩ = some (.bool kai) ∧ W'.cell? ⟨g, o + 3, none⟩ = some (.int .u8 kah) ∧ W'.cell? ⟨g, o + 4, none⟩ = some (.int .i64 kal) ∧ W'.cell? ⟨g, o + 5, none⟩ = some (.int .u8 kaf) ∧ W'.cell? ⟨g, o + 6, none⟩ = some (.int .u8 kat) ∧ W'.cell? ⟨g, o + 7, none⟩ = some (.slice kaA kan kac) ∧ W'.cell? ⟨g, o + 8, none⟩ = some (.int .i8 kbo) ∧ W'.cell? ⟨g, o + 8 + 1, none⟩ = some (.int .i64 kbp) ∧ W'.cell? ⟨g, o + 8 + 2, none⟩ = some (.bool kbi) ∧ W'.cell? ⟨g, o + 8 + 3, none⟩ = some (.int .u8 kbh) ∧ W'.cell? ⟨g, o + 8 + 4, none⟩ = some (.int .i64 kbl) ∧ W'.cell? ⟨g, o + 8 + 5, none⟩ = some (.int .u8 kbf) ∧ W'.cell? ⟨g, o + 8 + 6, none⟩ = some (.int .u8 kbt) ∧ W'.cell? ⟨g, o + 8 + 7, none⟩ = some (.slice kbA kbn kbc) ∧ W'.cell? ⟨g2, o2, none⟩ = some (.int .i8 kco) ∧ W'.cell? ⟨g2, o2 + 1, none⟩ = some (.int .i64 kcp) ∧ W'.cell? ⟨g2, o2 + 2, none⟩ = some (.bool kci) ∧ W'.cell? ⟨g2, o2 + 3, none⟩ = some (.int .u8 kch) ∧ W'.cell? ⟨g2, o2 + 4, none⟩ = some (.int .i64 kcl) ∧ W'.cell? ⟨g2, o2 + 5, none⟩ = some (.int .u8 kcf) ∧ W'.cell? ⟨g2, o2 + 6, none⟩ = some (.int .u8 kct) ∧ W'.cell? ⟨g2, o2 + 7, none⟩ = some (.slice kcA kcn kcc) ∧ W'.cell? ⟨g2, o2 + 8, none⟩ = some (.int .i8 kdo) ∧ W'.cell? ⟨g2, o2 + 8 + 1, none⟩ = some (.int .i64 kdp) ∧ W'.cell? ⟨g2, o2 + 8 + 2, none⟩ = some (.bool kdi) ∧ W'.cell? ⟨g2, o2 + 8 + 3, none⟩ = some (.int .u8 kdh) ∧ W'.cell? ⟨g2, o2 + 8 + 4, none⟩ = some (.int .i64 kdl) ∧ W'.cell? ⟨g2, o2 + 8 + 5, none⟩ = some (.int .u8 kdf) ∧ W'.cell? ⟨g2, o2 + 8 + 6, none⟩ = some (.int .u8 kdt) ∧ W'.cell? ⟨g2, o2 + 8 + 7, none⟩ = some (.slice kdA kdn kdc)) from fun W' hb' => ⟨hb', ((HK.out W' hb').2.2.2.2.2.2.2.2.1), ((HK.out W' hb').2.2.2.2.2.2.2.2.2.2.2.2.2.2.2.2), HKK'.out W' (bl HB.out hb')⟩)
    clear HKK' HC0' HC1' HEN HBE
    have e2 : ((62 : Int) != 62) = false := by decide
    go_upto_region 13 with fail
    subst hR
    clear x0 x1 x2 x3 x4 x5 x6 x7 y0 y1' y2 y3 y4 y5 y6 y7
    cases r0
    · skip
      refine wp_region_held_drew (S := (fun W' => Below W.heap.size W W' ∧ W'.cell? ⟨w.heap.size, 7, none⟩ = some (.slice (some ⟨g, o, none⟩) 2 c) ∧ W'.cell? ⟨w.heap.size + 1, 7, none⟩ = some (.slice (some ⟨g2, o2, none⟩) 2 c2) ∧ W'.cell? ⟨g, o, none⟩ = some (.int .i8 kao) ∧ W'.cell? ⟨g, o + 1, none⟩ = some (.int .i64 kap) ∧ W'.cell? ⟨g, o + 2, none⟩ = some (.bool kai) ∧ W'.cell? ⟨g, o + 3, none⟩ = some (.int .u8 kah) ∧ W'.cell? ⟨g, o + 4, none⟩ = some (.int .i64 kal) ∧ W'.cell? ⟨g, o + 5, none⟩ = some (.int .u8 kaf) ∧ W'.cell? ⟨g, o + 6, none⟩ = some (.int .u8 kat) ∧ W'.cell? ⟨g, o + 7, none⟩ = some (.slice kaA kan kac) ∧ W'.cell? ⟨g, o + 8, none⟩ = some (.int .i8 kbo) ∧ W'.cell? ⟨g, o + 8 + 1, none⟩ = some (.int .i64 kbp) ∧ W'.cell? ⟨g, o + 8 + 2, none⟩ = some (.bool kbi) ∧ W'.cell? ⟨g, o + 8 + 3, none⟩ = some (.int .u8 kbh) ∧ W'.cell? ⟨g, o + 8 + 4, none⟩ = some (.int .i64 kbl) ∧ W'.cell? ⟨g, o + 8 + 5, none⟩ = some (.int .u8 kbf) ∧ W'.cell? ⟨g, o + 8 + 6, none⟩ = some (.int .u8 kbt) ∧ W'.cell? ⟨g, o + 8 + 7, none⟩ = some (.slice kbA kbn kbc) ∧ W'.cell? ⟨g2, o2, none⟩ = some (.int .i8 kco) ∧ W'.cell? ⟨g2, o2 + 1, none⟩ = some (.int .i64 kcp) ∧ W'.cell? ⟨g2, o2 + 2, none⟩ = some (.bool kci) ∧ W'.cell? ⟨g2, o2 + 3, none⟩ = some (.int .u8 kch) ∧ W'.cell? ⟨g2, o2 + 4, none⟩ = some (.int .i64 kcl) ∧ W'.cell? ⟨g2, o2 + 5, none⟩ = some (.int .u8 kcf) ∧ W'.cell? ⟨g2, o2 + 6, none⟩ = some (.int .u8 kct) ∧ W'.cell? ⟨g2, o2 + 7, none⟩ = some (.slice kcA kcn kcc) ∧ W'.cell? ⟨g2, o2 + 8, none⟩ = some (.int .i8 kdo) ∧ W'.cell? ⟨g2, o2 + 8 + 1, none⟩ = some (.int .i64 kdp) ∧ W'.cell? ⟨g2, o2 + 8 + 2, none⟩ = some (.bool kdi) ∧ W'.cell? ⟨g2, o2 + 8 + 3, none⟩ = some (.int .u8 kdh) ∧ W'.cell? ⟨g2, o2 + 8 + 4, none⟩ = some (.int .i64 kdl) ∧ W'.cell? ⟨g2, o2 + 8 + 5, none⟩ = some (.int .u8 kdf) ∧ W'.cell? ⟨g2, o2 + 8 + 6, none⟩ = some (.int .u8 kdt) ∧ W'.cell? ⟨g2, o2 + 8 + 7, none⟩ = some (.slice kdA kdn kdc))) (by kernel_rfl) ?ss13 (fun hHeld => ?rr13)
      case ss13 => (try dsimp only); exact HKK.out _ (bdr HBW.out _)
      refine wpAnyH_take (i := 0) (oi := ⟨some 49, _, _, _, _, _⟩) (v := ?vv14) rfl (by kernel_rfl) (by kernel_rfl) (by kernel_rfl) (fun _ _ _ h => h) (Or.inl ⟨by rfl, ?yy14⟩) (by assumption) ?rr14
      case yy14 => (intro wq hSw; (try dsimp only at hSw); go_simp; try with_reducible rfl)
      try simp only [Act.put, List.setIfInBounds_toArray, List.set_cons_zero, List.set_cons_succ]
      refine wpAnyH_take (i := 1) (oi := ⟨some 50, _, _, _, _, _⟩) (v := ?vv15) rfl (by kernel_rfl) (by kernel_rfl) (by kernel_rfl) (fun _ _ _ h => h) (Or.inl ⟨by rfl, ?yy15⟩) (by assumption) ?rr15
      case yy15 => (intro wq hSw; (try dsimp only at hSw); go_simp; try with_reducible rfl)
      try simp only [Act.put, List.setIfInBounds_toArray, List.set_cons_zero, List.set_cons_succ]
      refine wpAnyH_take (i := 2) (oi := ⟨some 51, _, _, _, _, _⟩) (v := ?vv16) rfl (by kernel_rfl) (by kernel_rfl) (by kernel_rfl) (fun _ _ _ h => h) (Or.inl ⟨by rfl, ?yy16⟩) (by assumption) ?rr16
      case yy16 => (intro wq hSw; (try dsimp only at hSw); go_simp; try with_reducible rfl)
      try simp only [Act.put, List.setIfInBounds_toArray, List.set_cons_zero, List.set_cons_succ]
      refine wpAnyH_take (i := 3) (oi := ⟨some 52, _, _, _, _, _⟩) (v := ?vv17) rfl (by kernel_rfl) (by kernel_rfl) (by kernel_rfl) (fun _ _ _ h => h) (Or.inl ⟨by rfl, ?yy17⟩) (by assumption) ?rr17
      case yy17 => (intro wq hSw; (try dsimp only at hSw); go_simp; try with_reducible rfl)
      try simp only [Act.put, List.setIfInBounds_toArray, List.set_cons_zero, List.set_cons_succ]
      refine wpAnyH_take (i := 4) (oi := ⟨some 53, _, _, _, _, _⟩) (v := ?vv18) rfl (by kernel_rfl) (by kernel_rfl) (by kernel_rfl) (fun _ _ _ h => h) (Or.inl ⟨by rfl, ?yy18⟩) (by assumption) ?rr18
      case yy18 => (intro wq hSw; (try dsimp only at hSw); go_simp; try with_reducible rfl)
      try simp only [Act.put, List.setIfInBounds_toArray, List.set_cons_zero, List.set_cons_succ]
      refine wpAnyH_take (i := 5) (oi := ⟨some 54, _, _, _, _, _⟩) (v := ?vv19) rfl (by kernel_rfl) (by kernel_rfl) (by kernel_rfl) (fun _ _ _ h => h) (Or.inl ⟨by rfl, ?yy19⟩) (by assumption) ?rr19
      case yy19 => (intro wq hSw; (try dsimp only at hSw); go_simp; try with_reducible rfl)
      try simp only [Act.put, List.setIfInBounds_toArray, List.set_cons_zero, List.set_cons_succ]
      refine wpAnyH_take (i := 6) (oi := ⟨some 55, _, _, _, _, _⟩) (v := ?vv20) rfl (by kernel_rfl) (by kernel_rfl) (by kernel_rfl) (fun _ _ _ h => h) (Or.inl ⟨by rfl, ?yy20⟩) (by assumption) ?rr20
      case yy20 => (intro wq hSw; (try dsimp only at hSw); go_simp; try with_reducible rfl)
      try simp only [Act.put, List.setIfInBounds_toArray, List.set_cons_zero, List.set_cons_succ]
      refine wpAnyH_take (i := 7) (oi := ⟨some 56, _, _, _, _, _⟩) (v := ?vv21) rfl (by kernel_rfl) (by kernel_rfl) (by kernel_rfl) (fun _ _ _ h => h) (Or.inl ⟨by rfl, ?yy21⟩) (by assumption) ?rr21
      case yy21 => (intro wq hSw; (try dsimp only at hSw); go_simp; try with_reducible rfl)
      try simp only [Act.put, List.setIfInBounds_toArray, List.set_cons_zero, List.set_cons_succ]
      refine wpAnyH_ready (rs := [8]) (by kernel_rfl) (by simp) ?_
      refine AllReadyH.cons (o := ⟨some 57, _, _, _, _, _⟩) rfl (fun K hK => ?_) AllReadyH.nil
      go_simp
      ((refine (HC0.out _ hHeld.1).mono ?_); rintro e w4 ⟨rfl, hb4⟩)
      refine hK.out _ _ ?ss22 (fun hHeld2 => ?rr22)
      case ss22 => (try dsimp only); exact HKK.out _ (bl hHeld.1 hb4)
      clear hK K
      clear hHeld
      have hHeld := hHeld2
      clear hHeld2
      try simp only [Act.put, List.setIfInBounds_toArray, List.set_cons_zero, List.set_cons_succ]
      refine wpAnyH_take (i := 9) (oi := ⟨some 58, _, _, _, _, _⟩) (v := ?vv23) rfl (by kernel_rfl) (by kernel_rfl) (by kernel_rfl) (fun _ _ _ h => h) (Or.inl ⟨by rfl, ?yy23⟩) (by assumption) ?rr23
      case yy23 => (intro wq hSw; (try dsimp only at hSw); go_simp; try with_reducible rfl)
      try simp only [Act.put, List.setIfInBounds_toArray, List.set_cons_zero, List.set_cons_succ]
      refine wpAnyH_take (i := 10) (oi := ⟨some 59, _, _, _, _, _⟩) (v := undef) rfl (by kernel_rfl) (by kernel_rfl) (by kernel_rfl) (fun _ _ _ h => h) (Or.inr ⟨by rfl, rfl⟩) (by assumption) ?rr24
      try simp only [Act.put, List.setIfInBounds_toArray, List.set_cons_zero, List.set_cons_succ]
      refine wpAnyH_take (i := 11) (oi := ⟨some 60, _, _, _, _, _⟩) (v := undef) rfl (by kernel_rfl) (by kernel_rfl) (by kernel_rfl) (fun _ _ _ h => h) (Or.inr ⟨by rfl, rfl⟩) (by assumption) ?rr25
      try simp only [Act.put, List.setIfInBounds_toArray, List.set_cons_zero, List.set_cons_succ]
      refine wpAnyH_take (i := 12) (oi := ⟨some 61, _, _, _, _, _⟩) (v := undef) rfl (by kernel_rfl) (by kernel_rfl) (by kernel_rfl) (fun _ _ _ h => h) (Or.inr ⟨by rfl, rfl⟩) (by assumption) ?rr26
      try simp only [Act.put, List.setIfInBounds_toArray, List.set_cons_zero, List.set_cons_succ]
      refine wpAnyH_take (i := 13) (oi := ⟨some 62, _, _, _, _, _⟩) (v := undef) rfl (by kernel_rfl) (by kernel_rfl) (by kernel_rfl) (fun _ _ _ h => h) (Or.inr ⟨by rfl, rfl⟩) (by assumption) ?rr27
      try simp only [Act.put, List.setIfInBounds_toArray, List.set_cons_zero, List.set_cons_succ]
      refine wpAnyH_take (i := 14) (oi := ⟨some 63, _, _, _, _, _⟩) (v := undef) rfl (by kernel_rfl) (by kernel_rfl) (by kernel_rfl) (fun _ _ _ h => h) (Or.inr ⟨by rfl, rfl⟩) (by assumption) ?rr28
      try simp only [Act.put, List.setIfInBounds_toArray, List.set_cons_zero, List.set_cons_succ]
      refine wpAnyH_take (i := 15) (oi := ⟨some 64, _, _, _, _, _⟩) (v := undef) rfl (by kernel_rfl) (by kernel_rfl) (by kernel_rfl) (fun _ _ _ h => h) (Or.inr ⟨by rfl, rfl⟩) (by assumption) ?rr29
      try simp only [Act.put, List.setIfInBounds_toArray, List.set_cons_zero, List.set_cons_succ]
      refine wpAnyH_take (i := 16) (oi := ⟨some 65, _, _, _, _, _⟩) (v := undef) rfl (by kernel_rfl) (by kernel_rfl) (by kernel_rfl) (fun _ _ _ h => h) (Or.inr ⟨by rfl, rfl⟩) (by assumption) ?rr30
      try simp only [Act.put, List.setIfInBounds_toArray, List.set_cons_zero, List.set_cons_succ]
      refine wpAnyH_take (i := 17) (oi := ⟨some 66, _, _, _, _, _⟩) (v := undef) rfl (by kernel_rfl) (by kernel_rfl) (by kernel_rfl) (fun _ _ _ h => h) (Or.inr ⟨by rfl, rfl⟩) (by assumption) ?rr31
      try simp only [Act.put, List.setIfInBounds_toArray, List.set_cons_zero, List.set_cons_succ]
      refine wpAnyH_take (i := 18) (oi := ⟨some 67, _, _, _, _, _⟩) (v := undef) rfl (by kernel_rfl) (by kernel_rfl) (by kernel_rfl) (fun _ _ _ h => h) (Or.inr ⟨by rfl, rfl⟩) (by assumption) ?rr32
      try simp only [Act.put, List.setIfInBounds_toArray, List.set_cons_zero, List.set_cons_succ]
      refine wpAnyH_take (i := 19) (oi := ⟨some 68, _, _, _, _, _⟩) (v := ?vv33) rfl (by kernel_rfl) (by kernel_rfl) (by kernel_rfl) (fun _ _ _ h => h) (Or.inl ⟨by rfl, ?yy33⟩) (by assumption) ?rr33
      case yy33 => (intro wq hSw; (try dsimp only at hSw); go_simp; try with_reducible rfl)
      try simp only [Act.put, List.setIfInBounds_toArray, List.set_cons_zero, List.set_cons_succ]
      refine wpAnyH_take (i := 20) (oi := ⟨some 4, _, _, _, _, _⟩) (v := ?vv34) rfl (by kernel_rfl) (by kernel_rfl) (by kernel_rfl) (fun _ _ _ h => h) (Or.inl ⟨by rfl, ?yy34⟩) (by assumption) ?rr34
      case yy34 => (intro wq hSw; (try dsimp only at hSw); go_simp; try with_reducible rfl)
      try simp only [Act.put, List.setIfInBounds_toArray, List.set_cons_zero, List.set_cons_succ]
      refine wpAnyH_done (by kernel_rfl) ?_ _
      go_wp2_with fail
      go_ret
      exact ⟨rfl, bl HB.out hHeld.1⟩
    · skip
      refine wp_region_held_drew (S := (fun W' => Below W.heap.size W W' ∧ W'.cell? ⟨w.heap.size, 7, none⟩ = some (.slice (some ⟨g, o, none⟩) 2 c) ∧ W'.cell? ⟨w.heap.size + 1, 7, none⟩ = some (.slice (some ⟨g2, o2, none⟩) 2 c2) ∧ W'.cell? ⟨g, o, none⟩ = some (.int .i8 kao) ∧ W'.cell? ⟨g, o + 1, none⟩ = some (.int .i64 kap) ∧ W'.cell? ⟨g, o + 2, none⟩ = some (.bool kai) ∧ W'.cell? ⟨g, o + 3, none⟩ = some (.int .u8 kah) ∧ W'.cell? ⟨g, o + 4, none⟩ = some (.int .i64 kal) ∧ W'.cell? ⟨g, o + 5, none⟩ = some (.int .u8 kaf) ∧ W'.cell? ⟨g, o + 6, none⟩ = some (.int .u8 kat) ∧ W'.cell? ⟨g, o + 7, none⟩ = some (.slice kaA kan kac) ∧ W'.cell? ⟨g, o + 8, none⟩ = some (.int .i8 kbo) ∧ W'.cell? ⟨g, o + 8 + 1, none⟩ = some (.int .i64 kbp) ∧ W'.cell? ⟨g, o + 8 + 2, none⟩ = some (.bool kbi) ∧ W'.cell? ⟨g, o + 8 + 3, none⟩ = some (.int .u8 kbh) ∧ W'.cell? ⟨g, o + 8 + 4, none⟩ = some (.int .i64 kbl) ∧ W'.cell? ⟨g, o + 8 + 5, none⟩ = some (.int .u8 kbf) ∧ W'.cell? ⟨g, o + 8 + 6, none⟩ = some (.int .u8 kbt) ∧ W'.cell? ⟨g, o + 8 + 7, none⟩ = some (.slice kbA kbn kbc) ∧ W'.cell? ⟨g2, o2, none⟩ = some (.int .i8 kco) ∧ W'.cell? ⟨g2, o2 + 1, none⟩ = some (.int .i64 kcp) ∧ W'.cell? ⟨g2, o2 + 2, none⟩ = some (.bool kci) ∧ W'.cell? ⟨g2, o2 + 3, none⟩ = some (.int .u8 kch) ∧ W'.cell? ⟨g2, o2 + 4, none⟩ = some (.int .i64 kcl) ∧ W'.cell? ⟨g2, o2 + 5, none⟩ = some (.int .u8 kcf) ∧ W'.cell? ⟨g2, o2 + 6, none⟩ = some (.int .u8 kct) ∧ W'.cell? ⟨g2, o2 + 7, none⟩ = some (.slice kcA kcn kcc) ∧ W'.cell? ⟨g2, o2 + 8, none⟩ = some (.int .i8 kdo) ∧ W'.cell? ⟨g2, o2 + 8 + 1, none⟩ = some (.int .i64 kdp) ∧ W'.cell? ⟨g2, o2 + 8 + 2, none⟩ = some (.bool kdi) ∧ W'.cell? ⟨g2, o2 + 8 + 3, none⟩ = some (.int .u8 kdh) ∧ W'.cell? ⟨g2, o2 + 8 + 4, none⟩ = some (.int .i64 kdl) ∧ W'.cell? ⟨g2, o2 + 8 + 5, none⟩ = some (.int .u8 kdf) ∧ W'.cell? ⟨g2, o2 + 8 + 6, none⟩ = some (.int .u8 kdt) ∧ W'.cell? ⟨g2, o2 + 8 + 7, none⟩ = some (.slice kdA kdn kdc))) (by kernel_rfl) ?ss35 (fun hHeld => ?rr35)
      case ss35 => (try dsimp only); exact HKK.out _ (bdr HBW.out _)
      refine wpAnyH_take (i := 0) (oi := ⟨some 49, _, _, _, _, _⟩) (v := ?vv36) rfl (by kernel_rfl) (by kernel_rfl) (by kernel_rfl) (fun _ _ _ h => h) (Or.inl ⟨by rfl, ?yy36⟩) (by assumption) ?rr36
      case yy36 => (intro wq hSw; (try dsimp only at hSw); go_simp; try with_reducible rfl)
      try simp only [Act.put, List.setIfInBounds_toArray, List.set_cons_zero, List.set_cons_succ]
      refine wpAnyH_take (i := 1) (oi := ⟨some 50, _, _, _, _, _⟩) (v := ?vv37) rfl (by kernel_rfl) (by kernel_rfl) (by kernel_rfl) (fun _ _ _ h => h) (Or.inl ⟨by rfl, ?yy37⟩) (by assumption) ?rr37
      case yy37 => (intro wq hSw; (try dsimp only at hSw); go_simp; try with_reducible rfl)
      try simp only [Act.put, List.setIfInBounds_toArray, List.set_cons_zero, List.set_cons_succ]
      refine wpAnyH_take (i := 2) (oi := ⟨some 51, _, _, _, _, _⟩) (v := ?vv38) rfl (by kernel_rfl) (by kernel_rfl) (by kernel_rfl) (fun _ _ _ h => h) (Or.inl ⟨by rfl, ?yy38⟩) (by assumption) ?rr38
      case yy38 => (intro wq hSw; (try dsimp only at hSw); go_simp; try with_reducible rfl)
      try simp only [Act.put, List.setIfInBounds_toArray, List.set_cons_zero, List.set_cons_succ]
      refine wpAnyH_take (i := 3) (oi := ⟨some 52, _, _, _, _, _⟩) (v := ?vv39) rfl (by kernel_rfl) (by kernel_rfl) (by kernel_rfl) (fun _ _ _ h => h) (Or.inl ⟨by rfl, ?yy39⟩) (by assumption) ?rr39
      case yy39 => (intro wq hSw; (try dsimp only at hSw); go_simp; try with_reducible rfl)
      try simp only [Act.put, List.setIfInBounds_toArray, List.set_cons_zero, List.set_cons_succ]
      refine wpAnyH_take (i := 4) (oi := ⟨some 53, _, _, _, _, _⟩) (v := ?vv40) rfl (by kernel_rfl) (by kernel_rfl) (by kernel_rfl) (fun _ _ _ h => h) (Or.inl ⟨by rfl, ?yy40⟩) (by assumption) ?rr40
      case yy40 => (intro wq hSw; (try dsimp only at hSw); go_simp; try with_reducible rfl)
      try simp only [Act.put, List.setIfInBounds_toArray, List.set_cons_zero, List.set_cons_succ]
      refine wpAnyH_take (i := 5) (oi := ⟨some 54, _, _, _, _, _⟩) (v := ?vv41) rfl (by kernel_rfl) (by kernel_rfl) (by kernel_rfl) (fun _ _ _ h => h) (Or.inl ⟨by rfl, ?yy41⟩) (by assumption) ?rr41
      case yy41 => (intro wq hSw; (try dsimp only at hSw); go_simp; try with_reducible rfl)
      try simp only [Act.put, List.setIfInBounds_toArray, List.set_cons_zero, List.set_cons_succ]
      refine wpAnyH_take (i := 6) (oi := ⟨some 55, _, _, _, _, _⟩) (v := ?vv42) rfl (by kernel_rfl) (by kernel_rfl) (by kernel_rfl) (fun _ _ _ h => h) (Or.inl ⟨by rfl, ?yy42⟩) (by assumption) ?rr42
      case yy42 => (intro wq hSw; (try dsimp only at hSw); go_simp; try with_reducible rfl)
      try simp only [Act.put, List.setIfInBounds_toArray, List.set_cons_zero, List.set_cons_succ]
      refine wpAnyH_take (i := 7) (oi := ⟨some 56, _, _, _, _, _⟩) (v := ?vv43) rfl (by kernel_rfl) (by kernel_rfl) (by kernel_rfl) (fun _ _ _ h => h) (Or.inl ⟨by rfl, ?yy43⟩) (by assumption) ?rr43
      case yy43 => (intro wq hSw; (try dsimp only at hSw); go_simp; try with_reducible rfl)
      try simp only [Act.put, List.setIfInBounds_toArray, List.set_cons_zero, List.set_cons_succ]
      refine wpAnyH_ready (rs := [8]) (by kernel_rfl) (by simp) ?_
      refine AllReadyH.cons (o := ⟨some 57, _, _, _, _, _⟩) rfl (fun K hK => ?_) AllReadyH.nil
      go_simp
      ((refine (HC0.out _ hHeld.1).mono ?_); rintro e w4 ⟨rfl, hb4⟩)
      refine hK.out _ _ ?ss44 (fun hHeld2 => ?rr44)
      case ss44 => (try dsimp only); exact HKK.out _ (bl hHeld.1 hb4)
      clear hK K
      clear hHeld
      have hHeld := hHeld2
      clear hHeld2
      try simp only [Act.put, List.setIfInBounds_toArray, List.set_cons_zero, List.set_cons_succ]
      refine wpAnyH_take (i := 9) (oi := ⟨some 58, _, _, _, _, _⟩) (v := ?vv45) rfl (by kernel_rfl) (by kernel_rfl) (by kernel_rfl) (fun _ _ _ h => h) (Or.inl ⟨by rfl, ?yy45⟩) (by assumption) ?rr45
      case yy45 => (intro wq hSw; (try dsimp only at hSw); go_simp; try with_reducible rfl)
      try simp only [Act.put, List.setIfInBounds_toArray, List.set_cons_zero, List.set_cons_succ]
      refine wpAnyH_take (i := 10) (oi := ⟨some 59, _, _, _, _, _⟩) (v := ?vv46) rfl (by kernel_rfl) (by kernel_rfl) (by kernel_rfl) (fun _ _ _ h => h) (Or.inl ⟨by rfl, ?yy46⟩) (by assumption) ?rr46
      case yy46 => (intro wq hSw; (try dsimp only at hSw); go_simp; try with_reducible rfl)
      try simp only [Act.put, List.setIfInBounds_toArray, List.set_cons_zero, List.set_cons_succ]
      refine wpAnyH_take (i := 11) (oi := ⟨some 60, _, _, _, _, _⟩) (v := ?vv47) rfl (by kernel_rfl) (by kernel_rfl) (by kernel_rfl) (fun _ _ _ h => h) (Or.inl ⟨by rfl, ?yy47⟩) (by assumption) ?rr47
      case yy47 => (intro wq hSw; (try dsimp only at hSw); go_simp; try with_reducible rfl)
      try simp only [Act.put, List.setIfInBounds_toArray, List.set_cons_zero, List.set_cons_succ]
      refine wpAnyH_take (i := 12) (oi := ⟨some 61, _, _, _, _, _⟩) (v := ?vv48) rfl (by kernel_rfl) (by kernel_rfl) (by kernel_rfl) (fun _ _ _ h => h) (Or.inl ⟨by rfl, ?yy48⟩) (by assumption) ?rr48
      case yy48 => (intro wq hSw; (try dsimp only at hSw); go_simp; try with_reducible rfl)
      try simp only [Act.put, List.setIfInBounds_toArray, List.set_cons_zero, List.set_cons_succ]
      refine wpAnyH_take (i := 13) (oi := ⟨some 62, _, _, _, _, _⟩) (v := ?vv49) rfl (by kernel_rfl) (by kernel_rfl) (by kernel_rfl) (fun _ _ _ h => h) (Or.inl ⟨by rfl, ?yy49⟩) (by assumption) ?rr49
      case yy49 => (intro wq hSw; (try dsimp only at hSw); go_simp; try with_reducible rfl)
      try simp only [Act.put, List.setIfInBounds_toArray, List.set_cons_zero, List.set_cons_succ]
      refine wpAnyH_take (i := 14) (oi := ⟨some 63, _, _, _, _, _⟩) (v := ?vv50) rfl (by kernel_rfl) (by kernel_rfl) (by kernel_rfl) (fun _ _ _ h => h) (Or.inl ⟨by rfl, ?yy50⟩) (by assumption) ?rr50
      case yy50 => (intro wq hSw; (try dsimp only at hSw); go_simp; try with_reducible rfl)
      try simp only [Act.put, List.setIfInBounds_toArray, List.set_cons_zero, List.set_cons_succ]
      refine wpAnyH_take (i := 15) (oi := ⟨some 64, _, _, _, _, _⟩) (v := ?vv51) rfl (by kernel_rfl) (by kernel_rfl) (by kernel_rfl) (fun _ _ _ h => h) (Or.inl ⟨by rfl, ?yy51⟩) (by assumption) ?rr51
      case yy51 => (intro wq hSw; (try dsimp only at hSw); go_simp; try with_reducible rfl)
      try simp only [Act.put, List.setIfInBounds_toArray, List.set_cons_zero, List.set_cons_succ]
      refine wpAnyH_take (i := 16) (oi := ⟨some 65, _, _, _, _, _⟩) (v := ?vv52) rfl (by kernel_rfl) (by kernel_rfl) (by kernel_rfl) (fun _ _ _ h => h) (Or.inl ⟨by rfl, ?yy52⟩) (by assumption) ?rr52
      case yy52 => (intro wq hSw; (try dsimp only at hSw); go_simp; try with_reducible rfl)
      try simp only [Act.put, List.setIfInBounds_toArray, List.set_cons_zero, List.set_cons_succ]
      refine wpAnyH_take (i := 17) (oi := ⟨some 66, _, _, _, _, _⟩) (v := ?vv53) rfl (by kernel_rfl) (by kernel_rfl) (by kernel_rfl) (fun _ _ _ h => h) (Or.inl ⟨by rfl, ?yy53⟩) (by assumption) ?rr53
      case yy53 => (intro wq hSw; (try dsimp only at hSw); go_simp; try with_reducible rfl)
      try simp only [Act.put, List.setIfInBounds_toArray, List.set_cons_zero, List.set_cons_succ]
      refine wpAnyH_ready (rs := [18]) (by kernel_rfl) (by simp) ?_
      refine AllReadyH.cons (o := ⟨some 67, _, _, _, _, _⟩) rfl (fun K hK => ?_) AllReadyH.nil
      go_simp
      ((refine (HC1.out _ hHeld.1).mono ?_); rintro e w5 ⟨rfl, hb5⟩)
      refine hK.out _ _ ?ss54 (fun hHeld2 => ?rr54)
      case ss54 => (try dsimp only); exact HKK.out _ (bl hHeld.1 hb5)
      clear hK K
      clear hHeld
      have hHeld := hHeld2
      clear hHeld2
      try simp only [Act.put, List.setIfInBounds_toArray, List.set_cons_zero, List.set_cons_succ]
      refine wpAnyH_take (i := 19) (oi := ⟨some 68, _, _, _, _, _⟩) (v := ?vv55) rfl (by kernel_rfl) (by kernel_rfl) (by kernel_rfl) (fun _ _ _ h => h) (Or.inl ⟨by rfl, ?yy55⟩) (by assumption) ?rr55
      case yy55 => (intro wq hSw; (try dsimp only at hSw); go_simp; try with_reducible rfl)
      try simp only [Act.put, List.setIfInBounds_toArray, List.set_cons_zero, List.set_cons_succ]
      refine wpAnyH_take (i := 20) (oi := ⟨some 4, _, _, _, _, _⟩) (v := ?vv56) rfl (by kernel_rfl) (by kernel_rfl) (by kernel_rfl) (fun _ _ _ h => h) (Or.inl ⟨by rfl, ?yy56⟩) (by assumption) ?rr56
      case yy56 => (intro wq hSw; (try dsimp only at hSw); go_simp; try with_reducible rfl)
      try simp only [Act.put, List.setIfInBounds_toArray, List.set_cons_zero, List.set_cons_succ]
      refine wpAnyH_done (by kernel_rfl) ?_ _
      go_wp2_with fail
      go_ret
      exact ⟨rfl, bl HB.out hHeld.1⟩


set_option maxRecDepth 100000 in
set_option maxHeartbeats 8000000 in
/-- Two parts of head 120 whose kids are asked. -/
theorem meetsR_box (p : Int) (j : Bool) (g o c : Nat) (q : Int) (i : Bool) (g2 o2 c2 : Nat) (kao kap : Int) (kai : Bool) (kah kal kaf kat : Int) (kaA : Option Addr) (kan kac : Nat) (kbo kbp : Int) (kbi : Bool) (kbh kbl kbf kbt : Int) (kbA : Option Addr) (kbn kbc : Nat) (kco kcp : Int) (kci : Bool) (kch kcl kcf kct : Int) (kcA : Option Addr) (kcn kcc : Nat) (kdo kdp : Int) (kdi : Bool) (kdh kdl kdf kdt : Int) (kdA : Option Addr) (kdn kdc : Nat) (w : World) (r0 r1 R : Bool) (hR : R = (r0 && r1))
    (hkk : ∀ W', Below w.heap.size w W' → W'.cell? ⟨g, o, none⟩ = some (.int .i8 kao) ∧ W'.cell? ⟨g, o + 1, none⟩ = some (.int .i64 kap) ∧ W'.cell? ⟨g, o + 2, none⟩ = some (.bool kai) ∧ W'.cell? ⟨g, o + 3, none⟩ = some (.int .u8 kah) ∧ W'.cell? ⟨g, o + 4, none⟩ = some (.int .i64 kal) ∧ W'.cell? ⟨g, o + 5, none⟩ = some (.int .u8 kaf) ∧ W'.cell? ⟨g, o + 6, none⟩ = some (.int .u8 kat) ∧ W'.cell? ⟨g, o + 7, none⟩ = some (.slice kaA kan kac) ∧ W'.cell? ⟨g, o + 8, none⟩ = some (.int .i8 kbo) ∧ W'.cell? ⟨g, o + 8 + 1, none⟩ = some (.int .i64 kbp) ∧ W'.cell? ⟨g, o + 8 + 2, none⟩ = some (.bool kbi) ∧ W'.cell? ⟨g, o + 8 + 3, none⟩ = some (.int .u8 kbh) ∧ W'.cell? ⟨g, o + 8 + 4, none⟩ = some (.int .i64 kbl) ∧ W'.cell? ⟨g, o + 8 + 5, none⟩ = some (.int .u8 kbf) ∧ W'.cell? ⟨g, o + 8 + 6, none⟩ = some (.int .u8 kbt) ∧ W'.cell? ⟨g, o + 8 + 7, none⟩ = some (.slice kbA kbn kbc) ∧ W'.cell? ⟨g2, o2, none⟩ = some (.int .i8 kco) ∧ W'.cell? ⟨g2, o2 + 1, none⟩ = some (.int .i64 kcp) ∧ W'.cell? ⟨g2, o2 + 2, none⟩ = some (.bool kci) ∧ W'.cell? ⟨g2, o2 + 3, none⟩ = some (.int .u8 kch) ∧ W'.cell? ⟨g2, o2 + 4, none⟩ = some (.int .i64 kcl) ∧ W'.cell? ⟨g2, o2 + 5, none⟩ = some (.int .u8 kcf) ∧ W'.cell? ⟨g2, o2 + 6, none⟩ = some (.int .u8 kct) ∧ W'.cell? ⟨g2, o2 + 7, none⟩ = some (.slice kcA kcn kcc) ∧ W'.cell? ⟨g2, o2 + 8, none⟩ = some (.int .i8 kdo) ∧ W'.cell? ⟨g2, o2 + 8 + 1, none⟩ = some (.int .i64 kdp) ∧ W'.cell? ⟨g2, o2 + 8 + 2, none⟩ = some (.bool kdi) ∧ W'.cell? ⟨g2, o2 + 8 + 3, none⟩ = some (.int .u8 kdh) ∧ W'.cell? ⟨g2, o2 + 8 + 4, none⟩ = some (.int .i64 kdl) ∧ W'.cell? ⟨g2, o2 + 8 + 5, none⟩ = some (.int .u8 kdf) ∧ W'.cell? ⟨g2, o2 + 8 + 6, none⟩ = some (.int .u8 kdt) ∧ W'.cell? ⟨g2, o2 + 8 + 7, none⟩ = some (.slice kdA kdn kdc))
    (hen : ∀ W, Calls Tryz.prog 20 #[.agg #[.int .i8 6, .int .i64 p, .bool j, .int .u8 120, .int .i64 0, .int .u8 0, .int .u8 0, .slice (some ⟨g, o, none⟩) 2 c]] W fun e w' => e = .returned (.bool j) ∧ Below W.heap.size W w')
    (hbe : ∀ W, Calls Tryz.prog 21 #[.agg #[.int .i8 6, .int .i64 q, .bool i, .int .u8 120, .int .i64 0, .int .u8 0, .int .u8 0, .slice (some ⟨g2, o2, none⟩) 2 c2]] W fun e w' => e = .returned (.bool j) ∧ Below W.heap.size W w')
    (hc0 : ∀ W, Below w.heap.size w W → Calls Tryz.prog 8 #[.agg #[.int .i8 kao, .int .i64 kap, .bool kai, .int .u8 kah, .int .i64 kal, .int .u8 kaf, .int .u8 kat, .slice kaA kan kac], .agg #[.int .i8 kco, .int .i64 kcp, .bool kci, .int .u8 kch, .int .i64 kcl, .int .u8 kcf, .int .u8 kct, .slice kcA kcn kcc]] W fun e w' => e = .returned (.bool r0) ∧ Below W.heap.size W w')
    (hc1 : ∀ W, Below w.heap.size w W → Calls Tryz.prog 8 #[.agg #[.int .i8 kdo, .int .i64 kdp, .bool kdi, .int .u8 kdh, .int .i64 kdl, .int .u8 kdf, .int .u8 kdt, .slice kdA kdn kdc], .agg #[.int .i8 kbo, .int .i64 kbp, .bool kbi, .int .u8 kbh, .int .i64 kbl, .int .u8 kbf, .int .u8 kbt, .slice kbA kbn kbc]] W fun e w' => e = .returned (.bool r1) ∧ Below W.heap.size W w') :
    Calls Tryz.prog 8 #[.agg #[.int .i8 6, .int .i64 p, .bool j, .int .u8 120, .int .i64 0, .int .u8 0, .int .u8 0, .slice (some ⟨g, o, none⟩) 2 c], .agg #[.int .i8 6, .int .i64 q, .bool i, .int .u8 120, .int .i64 0, .int .u8 0, .int .u8 0, .slice (some ⟨g2, o2, none⟩) 2 c2]] w fun e w' => e = .returned (.bool R) ∧ Below w.heap.size w w' := by
  have HEN := Lib.hid hen
  have HBE := Lib.hid hbe
  have HC0' := Lib.hid hc0
  have HC1' := Lib.hid hc1
  have HKK' := Lib.hid hkk
  obtain ⟨yb, hyb⟩ : ∃ x, j = x := ⟨_, rfl⟩
  clear hen hbe hc0 hc1 hkk
  clear hyb yb
  go_enter Tryz.func8, Tryz.ntmps8
  go_upto_region 5 with fail
  obtain ⟨W, hW⟩ : ∃ W, ((w.alloc (.cells #[.int .i8 6, .int .i64 p, .bool j, .int .u8 120, .int .i64 0, .int .u8 0, .int .u8 0, .slice (some ⟨g, o, none⟩) 2 c] 31)).alloc (.cells #[.int .i8 6, .int .i64 q, .bool i, .int .u8 120, .int .i64 0, .int .u8 0, .int .u8 0, .slice (some ⟨g2, o2, none⟩) 2 c2] 31)) = W := ⟨_, rfl⟩
  rw [hW]
  have hb : Below w.heap.size w W := by rw [← hW]; exact bal (bal b0 _) _
  have hx : Blk W w.heap.size 31 #[.int .i8 6, .int .i64 p, .bool j, .int .u8 120, .int .i64 0, .int .u8 0, .int .u8 0, .slice (some ⟨g, o, none⟩) 2 c] := by rw [← hW]; exact (Blk.new w _ _).alloc _
  have hy : Blk W (w.heap.size + 1) 31 #[.int .i8 6, .int .i64 q, .bool i, .int .u8 120, .int .i64 0, .int .u8 0, .int .u8 0, .slice (some ⟨g2, o2, none⟩) 2 c2] := by
    rw [← hW]
    have := Blk.new (w.alloc (.cells #[.int .i8 6, .int .i64 p, .bool j, .int .u8 120, .int .i64 0, .int .u8 0, .int .u8 0, .slice (some ⟨g, o, none⟩) 2 c] 31)) 31 #[.int .i8 6, .int .i64 q, .bool i, .int .u8 120, .int .i64 0, .int .u8 0, .int .u8 0, .slice (some ⟨g2, o2, none⟩) 2 c2]
    rwa [World.size_alloc] at this
  clear hW
  have HK := Lib.hid (show ∀ W', Below W.heap.size W W' → (Below W.heap.size W W' ∧ W'.cell? ⟨w.heap.size, 0, none⟩ = some (.int .i8 6) ∧ W'.cell? ⟨w.heap.size, 1, none⟩ = some (.int .i64 p) ∧ W'.cell? ⟨w.heap.size, 2, none⟩ = some (.bool j) ∧ W'.cell? ⟨w.heap.size, 3, none⟩ = some (.int .u8 120) ∧ W'.cell? ⟨w.heap.size, 4, none⟩ = some (.int .i64 0) ∧ W'.cell? ⟨w.heap.size, 5, none⟩ = some (.int .u8 0) ∧ W'.cell? ⟨w.heap.size, 6, none⟩ = some (.int .u8 0) ∧ W'.cell? ⟨w.heap.size, 7, none⟩ = some (.slice (some ⟨g, o, none⟩) 2 c) ∧ W'.cell? ⟨w.heap.size + 1, 0, none⟩ = some (.int .i8 6) ∧ W'.cell? ⟨w.heap.size + 1, 1, none⟩ = some (.int .i64 q) ∧ W'.cell? ⟨w.heap.size + 1, 2, none⟩ = some (.bool i) ∧ W'.cell? ⟨w.heap.size + 1, 3, none⟩ = some (.int .u8 120) ∧ W'.cell? ⟨w.heap.size + 1, 4, none⟩ = some (.int .i64 0) ∧ W'.cell? ⟨w.heap.size + 1, 5, none⟩ = some (.int .u8 0) ∧ W'.cell? ⟨w.heap.size + 1, 6, none⟩ = some (.int .u8 0) ∧ W'.cell? ⟨w.heap.size + 1, 7, none⟩ = some (.slice (some ⟨g2, o2, none⟩) 2 c2)) from fun W' hb' => ⟨hb', ((hx.below hb' hx.lt).cell 0).trans rfl, ((hx.below hb' hx.lt).cell 1).trans rfl, ((hx.below hb' hx.lt).cell 2).trans rfl, ((hx.below hb' hx.lt).cell 3).trans rfl, ((hx.below hb' hx.lt).cell 4).trans rfl, ((hx.below hb' hx.lt).cell 5).trans rfl, ((hx.below hb' hx.lt).cell 6).trans rfl, ((hx.below hb' hx.lt).cell 7).trans rfl, ((hy.below hb' hy.lt).cell 0).trans rfl, ((hy.below hb' hy.lt).cell 1).trans rfl, ((hy.below hb' hy.lt).cell 2).trans rfl, ((hy.below hb' hy.lt).cell 3).trans rfl, ((hy.below hb' hy.lt).cell 4).trans rfl, ((hy.below hb' hy.lt).cell 5).trans rfl, ((hy.below hb' hy.lt).cell 6).trans rfl, ((hy.below hb' hy.lt).cell 7).trans rfl⟩)
  have HB := Lib.hid hb
  clear hx hy hb
  go_cut [30] from 26 to 31 (fun r wx => r = .bool (j != j) ∧ Below W.heap.size W wx)
  case first =>
    refine wp_region_held_drew (S := (fun W' => Below W.heap.size W W' ∧ W'.cell? ⟨w.heap.size, 0, none⟩ = some (.int .i8 6) ∧ W'.cell? ⟨w.heap.size, 1, none⟩ = some (.int .i64 p) ∧ W'.cell? ⟨w.heap.size, 2, none⟩ = some (.bool j) ∧ W'.cell? ⟨w.heap.size, 3, none⟩ = some (.int .u8 120) ∧ W'.cell? ⟨w.heap.size, 4, none⟩ = some (.int .i64 0) ∧ W'.cell? ⟨w.heap.size, 5, none⟩ = some (.int .u8 0) ∧ W'.cell? ⟨w.heap.size, 6, none⟩ = some (.int .u8 0) ∧ W'.cell? ⟨w.heap.size, 7, none⟩ = some (.slice (some ⟨g, o, none⟩) 2 c) ∧ W'.cell? ⟨w.heap.size + 1, 0, none⟩ = some (.int .i8 6) ∧ W'.cell? ⟨w.heap.size + 1, 1, none⟩ = some (.int .i64 q) ∧ W'.cell? ⟨w.heap.size + 1, 2, none⟩ = some (.bool i) ∧ W'.cell? ⟨w.heap.size + 1, 3, none⟩ = some (.int .u8 120) ∧ W'.cell? ⟨w.heap.size + 1, 4, none⟩ = some (.int .i64 0) ∧ W'.cell? ⟨w.heap.size + 1, 5, none⟩ = some (.int .u8 0) ∧ W'.cell? ⟨w.heap.size + 1, 6, none⟩ = some (.int .u8 0) ∧ W'.cell? ⟨w.heap.size + 1, 7, none⟩ = some (.slice (some ⟨g2, o2, none⟩) 2 c2))) (by kernel_rfl) ?ss57 (fun hHeld => ?rr57)
    case ss57 => (try dsimp only); exact HK.out _ (Below.refl _ _).drew
    refine wpAnyH_take (i := 0) (oi := ⟨some 26, _, _, _, _, _⟩) (v := ?vv58) rfl (by kernel_rfl) (by kernel_rfl) (by kernel_rfl) (fun _ _ _ h => h) (Or.inl ⟨by rfl, ?yy58⟩) (by assumption) ?rr58
    case yy58 => (intro wq hSw; (try dsimp only at hSw); go_simp; try with_reducible rfl)
    try simp only [Act.put, List.setIfInBounds_toArray, List.set_cons_zero, List.set_cons_succ]
    refine wpAnyH_take (i := 2) (oi := ⟨some 28, _, _, _, _, _⟩) (v := ?vv59) rfl (by kernel_rfl) (by kernel_rfl) (by kernel_rfl) (fun _ _ _ h => h) (Or.inl ⟨by rfl, ?yy59⟩) (by assumption) ?rr59
    case yy59 => (intro wq hSw; (try dsimp only at hSw); go_simp; try with_reducible rfl)
    try simp only [Act.put, List.setIfInBounds_toArray, List.set_cons_zero, List.set_cons_succ]
    refine wpAnyH_ready (rs := [1]) (by kernel_rfl) (by simp) ?_
    refine AllReadyH.cons (o := ⟨some 27, _, _, _, _, _⟩) rfl (fun K hK => ?_) AllReadyH.nil
    go_simp
    ((refine (HEN.out _).mono ?_); rintro e w4 ⟨rfl, hb4⟩)
    refine hK.out _ _ ?ss60 (fun hHeld2 => ?rr60)
    case ss60 => (try dsimp only); exact HK.out _ (bl hHeld.1 hb4)
    clear hK K
    clear hHeld
    have hHeld := hHeld2
    clear hHeld2
    try simp only [Act.put, List.setIfInBounds_toArray, List.set_cons_zero, List.set_cons_succ]
    refine wpAnyH_ready (rs := [3]) (by kernel_rfl) (by simp) ?_
    refine AllReadyH.cons (o := ⟨some 29, _, _, _, _, _⟩) rfl (fun K hK => ?_) AllReadyH.nil
    go_simp
    ((refine (HBE.out _).mono ?_); rintro e w5 ⟨rfl, hb5⟩)
    refine hK.out _ _ ?ss61 (fun hHeld2 => ?rr61)
    case ss61 => (try dsimp only); exact HK.out _ (bl hHeld.1 hb5)
    clear hK K
    clear hHeld
    have hHeld := hHeld2
    clear hHeld2
    try simp only [Act.put, List.setIfInBounds_toArray, List.set_cons_zero, List.set_cons_succ]
    refine wpAnyH_take (i := 4) (oi := ⟨some 30, _, _, _, _, _⟩) (v := ?vv62) rfl (by kernel_rfl) (by kernel_rfl) (by kernel_rfl) (fun _ _ _ h => h) (Or.inl ⟨by rfl, ?yy62⟩) (by assumption) ?rr62
    case yy62 => (intro wq hSw; (try dsimp only at hSw); go_simp; try with_reducible rfl)
    try simp only [Act.put, List.setIfInBounds_toArray, List.set_cons_zero, List.set_cons_succ]
    refine wpAnyH_done (by kernel_rfl) ?_ _
    go_wp2_with fail
    go_meet
    case rel => exact ⟨by first | rfl | simp, hHeld.1⟩
  case rest =>
    obtain ⟨rfl, hbw⟩ := hcut
    have HBW := Lib.hid hbw
    obtain ⟨_, x0, x1, x2, x3, x4, x5, x6, x7, y0, y1', y2, y3, y4, y5, y6, y7⟩ := HK.out wc hbw
    clear hbw
    have e0 : (j != j) = false := by simp
    rw [e0]
    have HC0 := Lib.hid (fun W' (hb' : Below W.heap.size W W') => HC0'.out W' (bl HB.out hb'))
    have HC1 := Lib.hid (fun W' (hb' : Below W.heap.size W W') => HC1'.out W' (bl HB.out hb'))
    have HKK := Lib.hid (show ∀ W', Below W.heap.size W W' → (Below W.heap.size W W' ∧ W'.cell? ⟨w.heap.size, 7, none⟩ = some (.slice (some ⟨g, o, none⟩) 2 c) ∧ W'.cell? ⟨w.heap.size + 1, 7, none⟩ = some (.slice (some ⟨g2, o2, none⟩) 2 c2) ∧ W'.cell? ⟨g, o, none⟩ = some (.int .i8 kao) ∧ W'.cell? ⟨g, o + 1, none⟩ = some (.int .i64 kap) ∧ W'.cell? ⟨g, o + 2, none⟩ = some (.bool kai) ∧ W'.cell? ⟨g, o + 3, none⟩ = some (.int .u8 kah) ∧ W'.cell? ⟨g, o + 4, none⟩ = some (.int .i64 kal) ∧ W'.cell? ⟨g, o + 5, none⟩ = some (.int .u8 kaf) ∧ W'.cell? ⟨g, o + 6, none⟩ = some (.int .u8 kat) ∧ W'.cell? ⟨g, o + 7, none⟩ = some (.slice kaA kan kac) ∧ W'.cell? ⟨g, o + 8, none⟩ = some (.int .i8 kbo) ∧ W'.cell? ⟨g, o + 8 + 1, none⟩ = some (.int .i64 kbp) ∧ W'.cell? ⟨g, o + 8 + 2, none⟩ = some (.bool kbi) ∧ W'.cell? ⟨g, o + 8 + 3, none⟩ = some (.int .u8 kbh) ∧ W'.cell? ⟨g, o + 8 + 4, none⟩ = some (.int .i64 kbl) ∧ W'.cell? ⟨g, o + 8 + 5, none⟩ = some (.int .u8 kbf) ∧ W'.cell? ⟨g, o + 8 + 6, none⟩ = some (.int .u8 kbt) ∧ W'.cell? ⟨g, o + 8 + 7, none⟩ = some (.slice kbA kbn kbc) ∧ W'.cell? ⟨g2, o2, none⟩ = some (.int .i8 kco) ∧ W'.cell? ⟨g2, o2 + 1, none⟩ = some (.int .i64 kcp) ∧ W'.cell? ⟨g2, o2 + 2, none⟩ = some (.bool kci) ∧ W'.cell? ⟨g2, o2 + 3, none⟩ = some (.int .u8 kch) ∧ W'.cell? ⟨g2, o2 + 4, none⟩ = some (.int .i64 kcl) ∧ W'.cell? ⟨g2, o2 + 5, none⟩ = some (.int .u8 kcf) ∧ W'.cell? ⟨g2, o2 + 6, none⟩ = some (.int .u8 kct) ∧ W'.cell? ⟨g2, o2 + 7, none⟩ = some (.slice kcA kcn kcc) ∧ W'.cell? ⟨g2, o2 + 8, none⟩ = some (.int .i8 kdo) ∧ W'.cell? ⟨g2, o2 + 8 + 1, none⟩ = some (.int .i64 kdp) ∧ W'.cell? ⟨g2, o2 + 8 + 2, none⟩ = some (.bool kdi) ∧ W'.cell? ⟨g2, o2 + 8 + 3, none⟩ = some (.int .u8 kdh) ∧ W'.cell? ⟨g2, o2 + 8 + 4, none⟩ = some (.int .i64 kdl) ∧ W'.cell? ⟨g2, o2 + 8 + 5, none⟩ = some (.int .u8 kdf) ∧ W'.cell? ⟨g2, o2 + 8 + 6, none⟩ = some (.int .u8 kdt) ∧ W'.cell? ⟨g2, o2 + 8 + 7, none⟩ = some (.slice kdA kdn kdc)) from fun W' hb' => ⟨hb', ((HK.out W' hb').2.2.2.2.2.2.2.2.1), ((HK.out W' hb').2.2.2.2.2.2.2.2.2.2.2.2.2.2.2.2), HKK'.out W' (bl HB.out hb')⟩)
    clear HKK' HC0' HC1' HEN HBE
    have e2 : ((120 : Int) != 120) = false := by decide
    go_upto_region 15 with fail
    subst hR
    clear x0 x1 x2 x3 x4 x5 x6 x7 y0 y1' y2 y3 y4 y5 y6 y7
    cases r0
    · skip
      refine wp_region_held_drew (S := (fun W' => Below W.heap.size W W' ∧ W'.cell? ⟨w.heap.size, 7, none⟩ = some (.slice (some ⟨g, o, none⟩) 2 c) ∧ W'.cell? ⟨w.heap.size + 1, 7, none⟩ = some (.slice (some ⟨g2, o2, none⟩) 2 c2) ∧ W'.cell? ⟨g, o, none⟩ = some (.int .i8 kao) ∧ W'.cell? ⟨g, o + 1, none⟩ = some (.int .i64 kap) ∧ W'.cell? ⟨g, o + 2, none⟩ = some (.bool kai) ∧ W'.cell? ⟨g, o + 3, none⟩ = some (.int .u8 kah) ∧ W'.cell? ⟨g, o + 4, none⟩ = some (.int .i64 kal) ∧ W'.cell? ⟨g, o + 5, none⟩ = some (.int .u8 kaf) ∧ W'.cell? ⟨g, o + 6, none⟩ = some (.int .u8 kat) ∧ W'.cell? ⟨g, o + 7, none⟩ = some (.slice kaA kan kac) ∧ W'.cell? ⟨g, o + 8, none⟩ = some (.int .i8 kbo) ∧ W'.cell? ⟨g, o + 8 + 1, none⟩ = some (.int .i64 kbp) ∧ W'.cell? ⟨g, o + 8 + 2, none⟩ = some (.bool kbi) ∧ W'.cell? ⟨g, o + 8 + 3, none⟩ = some (.int .u8 kbh) ∧ W'.cell? ⟨g, o + 8 + 4, none⟩ = some (.int .i64 kbl) ∧ W'.cell? ⟨g, o + 8 + 5, none⟩ = some (.int .u8 kbf) ∧ W'.cell? ⟨g, o + 8 + 6, none⟩ = some (.int .u8 kbt) ∧ W'.cell? ⟨g, o + 8 + 7, none⟩ = some (.slice kbA kbn kbc) ∧ W'.cell? ⟨g2, o2, none⟩ = some (.int .i8 kco) ∧ W'.cell? ⟨g2, o2 + 1, none⟩ = some (.int .i64 kcp) ∧ W'.cell? ⟨g2, o2 + 2, none⟩ = some (.bool kci) ∧ W'.cell? ⟨g2, o2 + 3, none⟩ = some (.int .u8 kch) ∧ W'.cell? ⟨g2, o2 + 4, none⟩ = some (.int .i64 kcl) ∧ W'.cell? ⟨g2, o2 + 5, none⟩ = some (.int .u8 kcf) ∧ W'.cell? ⟨g2, o2 + 6, none⟩ = some (.int .u8 kct) ∧ W'.cell? ⟨g2, o2 + 7, none⟩ = some (.slice kcA kcn kcc) ∧ W'.cell? ⟨g2, o2 + 8, none⟩ = some (.int .i8 kdo) ∧ W'.cell? ⟨g2, o2 + 8 + 1, none⟩ = some (.int .i64 kdp) ∧ W'.cell? ⟨g2, o2 + 8 + 2, none⟩ = some (.bool kdi) ∧ W'.cell? ⟨g2, o2 + 8 + 3, none⟩ = some (.int .u8 kdh) ∧ W'.cell? ⟨g2, o2 + 8 + 4, none⟩ = some (.int .i64 kdl) ∧ W'.cell? ⟨g2, o2 + 8 + 5, none⟩ = some (.int .u8 kdf) ∧ W'.cell? ⟨g2, o2 + 8 + 6, none⟩ = some (.int .u8 kdt) ∧ W'.cell? ⟨g2, o2 + 8 + 7, none⟩ = some (.slice kdA kdn kdc))) (by kernel_rfl) ?ss63 (fun hHeld => ?rr63)
      case ss63 => (try dsimp only); exact HKK.out _ (bdr HBW.out _)
      refine wpAnyH_take (i := 0) (oi := ⟨some 71, _, _, _, _, _⟩) (v := ?vv64) rfl (by kernel_rfl) (by kernel_rfl) (by kernel_rfl) (fun _ _ _ h => h) (Or.inl ⟨by rfl, ?yy64⟩) (by assumption) ?rr64
      case yy64 => (intro wq hSw; (try dsimp only at hSw); go_simp; try with_reducible rfl)
      try simp only [Act.put, List.setIfInBounds_toArray, List.set_cons_zero, List.set_cons_succ]
      refine wpAnyH_take (i := 1) (oi := ⟨some 72, _, _, _, _, _⟩) (v := ?vv65) rfl (by kernel_rfl) (by kernel_rfl) (by kernel_rfl) (fun _ _ _ h => h) (Or.inl ⟨by rfl, ?yy65⟩) (by assumption) ?rr65
      case yy65 => (intro wq hSw; (try dsimp only at hSw); go_simp; try with_reducible rfl)
      try simp only [Act.put, List.setIfInBounds_toArray, List.set_cons_zero, List.set_cons_succ]
      refine wpAnyH_take (i := 2) (oi := ⟨some 73, _, _, _, _, _⟩) (v := ?vv66) rfl (by kernel_rfl) (by kernel_rfl) (by kernel_rfl) (fun _ _ _ h => h) (Or.inl ⟨by rfl, ?yy66⟩) (by assumption) ?rr66
      case yy66 => (intro wq hSw; (try dsimp only at hSw); go_simp; try with_reducible rfl)
      try simp only [Act.put, List.setIfInBounds_toArray, List.set_cons_zero, List.set_cons_succ]
      refine wpAnyH_take (i := 3) (oi := ⟨some 74, _, _, _, _, _⟩) (v := ?vv67) rfl (by kernel_rfl) (by kernel_rfl) (by kernel_rfl) (fun _ _ _ h => h) (Or.inl ⟨by rfl, ?yy67⟩) (by assumption) ?rr67
      case yy67 => (intro wq hSw; (try dsimp only at hSw); go_simp; try with_reducible rfl)
      try simp only [Act.put, List.setIfInBounds_toArray, List.set_cons_zero, List.set_cons_succ]
      refine wpAnyH_take (i := 4) (oi := ⟨some 75, _, _, _, _, _⟩) (v := ?vv68) rfl (by kernel_rfl) (by kernel_rfl) (by kernel_rfl) (fun _ _ _ h => h) (Or.inl ⟨by rfl, ?yy68⟩) (by assumption) ?rr68
      case yy68 => (intro wq hSw; (try dsimp only at hSw); go_simp; try with_reducible rfl)
      try simp only [Act.put, List.setIfInBounds_toArray, List.set_cons_zero, List.set_cons_succ]
      refine wpAnyH_take (i := 5) (oi := ⟨some 76, _, _, _, _, _⟩) (v := ?vv69) rfl (by kernel_rfl) (by kernel_rfl) (by kernel_rfl) (fun _ _ _ h => h) (Or.inl ⟨by rfl, ?yy69⟩) (by assumption) ?rr69
      case yy69 => (intro wq hSw; (try dsimp only at hSw); go_simp; try with_reducible rfl)
      try simp only [Act.put, List.setIfInBounds_toArray, List.set_cons_zero, List.set_cons_succ]
      refine wpAnyH_take (i := 6) (oi := ⟨some 77, _, _, _, _, _⟩) (v := ?vv70) rfl (by kernel_rfl) (by kernel_rfl) (by kernel_rfl) (fun _ _ _ h => h) (Or.inl ⟨by rfl, ?yy70⟩) (by assumption) ?rr70
      case yy70 => (intro wq hSw; (try dsimp only at hSw); go_simp; try with_reducible rfl)
      try simp only [Act.put, List.setIfInBounds_toArray, List.set_cons_zero, List.set_cons_succ]
      refine wpAnyH_take (i := 7) (oi := ⟨some 78, _, _, _, _, _⟩) (v := ?vv71) rfl (by kernel_rfl) (by kernel_rfl) (by kernel_rfl) (fun _ _ _ h => h) (Or.inl ⟨by rfl, ?yy71⟩) (by assumption) ?rr71
      case yy71 => (intro wq hSw; (try dsimp only at hSw); go_simp; try with_reducible rfl)
      try simp only [Act.put, List.setIfInBounds_toArray, List.set_cons_zero, List.set_cons_succ]
      refine wpAnyH_ready (rs := [8]) (by kernel_rfl) (by simp) ?_
      refine AllReadyH.cons (o := ⟨some 79, _, _, _, _, _⟩) rfl (fun K hK => ?_) AllReadyH.nil
      go_simp
      ((refine (HC0.out _ hHeld.1).mono ?_); rintro e w4 ⟨rfl, hb4⟩)
      refine hK.out _ _ ?ss72 (fun hHeld2 => ?rr72)
      case ss72 => (try dsimp only); exact HKK.out _ (bl hHeld.1 hb4)
      clear hK K
      clear hHeld
      have hHeld := hHeld2
      clear hHeld2
      try simp only [Act.put, List.setIfInBounds_toArray, List.set_cons_zero, List.set_cons_succ]
      refine wpAnyH_take (i := 9) (oi := ⟨some 80, _, _, _, _, _⟩) (v := ?vv73) rfl (by kernel_rfl) (by kernel_rfl) (by kernel_rfl) (fun _ _ _ h => h) (Or.inl ⟨by rfl, ?yy73⟩) (by assumption) ?rr73
      case yy73 => (intro wq hSw; (try dsimp only at hSw); go_simp; try with_reducible rfl)
      try simp only [Act.put, List.setIfInBounds_toArray, List.set_cons_zero, List.set_cons_succ]
      refine wpAnyH_take (i := 10) (oi := ⟨some 81, _, _, _, _, _⟩) (v := undef) rfl (by kernel_rfl) (by kernel_rfl) (by kernel_rfl) (fun _ _ _ h => h) (Or.inr ⟨by rfl, rfl⟩) (by assumption) ?rr74
      try simp only [Act.put, List.setIfInBounds_toArray, List.set_cons_zero, List.set_cons_succ]
      refine wpAnyH_take (i := 11) (oi := ⟨some 82, _, _, _, _, _⟩) (v := undef) rfl (by kernel_rfl) (by kernel_rfl) (by kernel_rfl) (fun _ _ _ h => h) (Or.inr ⟨by rfl, rfl⟩) (by assumption) ?rr75
      try simp only [Act.put, List.setIfInBounds_toArray, List.set_cons_zero, List.set_cons_succ]
      refine wpAnyH_take (i := 12) (oi := ⟨some 83, _, _, _, _, _⟩) (v := undef) rfl (by kernel_rfl) (by kernel_rfl) (by kernel_rfl) (fun _ _ _ h => h) (Or.inr ⟨by rfl, rfl⟩) (by assumption) ?rr76
      try simp only [Act.put, List.setIfInBounds_toArray, List.set_cons_zero, List.set_cons_succ]
      refine wpAnyH_take (i := 13) (oi := ⟨some 84, _, _, _, _, _⟩) (v := undef) rfl (by kernel_rfl) (by kernel_rfl) (by kernel_rfl) (fun _ _ _ h => h) (Or.inr ⟨by rfl, rfl⟩) (by assumption) ?rr77
      try simp only [Act.put, List.setIfInBounds_toArray, List.set_cons_zero, List.set_cons_succ]
      refine wpAnyH_take (i := 14) (oi := ⟨some 85, _, _, _, _, _⟩) (v := undef) rfl (by kernel_rfl) (by kernel_rfl) (by kernel_rfl) (fun _ _ _ h => h) (Or.inr ⟨by rfl, rfl⟩) (by assumption) ?rr78
      try simp only [Act.put, List.setIfInBounds_toArray, List.set_cons_zero, List.set_cons_succ]
      refine wpAnyH_take (i := 15) (oi := ⟨some 86, _, _, _, _, _⟩) (v := undef) rfl (by kernel_rfl) (by kernel_rfl) (by kernel_rfl) (fun _ _ _ h => h) (Or.inr ⟨by rfl, rfl⟩) (by assumption) ?rr79
      try simp only [Act.put, List.setIfInBounds_toArray, List.set_cons_zero, List.set_cons_succ]
      refine wpAnyH_take (i := 16) (oi := ⟨some 87, _, _, _, _, _⟩) (v := undef) rfl (by kernel_rfl) (by kernel_rfl) (by kernel_rfl) (fun _ _ _ h => h) (Or.inr ⟨by rfl, rfl⟩) (by assumption) ?rr80
      try simp only [Act.put, List.setIfInBounds_toArray, List.set_cons_zero, List.set_cons_succ]
      refine wpAnyH_take (i := 17) (oi := ⟨some 88, _, _, _, _, _⟩) (v := undef) rfl (by kernel_rfl) (by kernel_rfl) (by kernel_rfl) (fun _ _ _ h => h) (Or.inr ⟨by rfl, rfl⟩) (by assumption) ?rr81
      try simp only [Act.put, List.setIfInBounds_toArray, List.set_cons_zero, List.set_cons_succ]
      refine wpAnyH_take (i := 18) (oi := ⟨some 89, _, _, _, _, _⟩) (v := undef) rfl (by kernel_rfl) (by kernel_rfl) (by kernel_rfl) (fun _ _ _ h => h) (Or.inr ⟨by rfl, rfl⟩) (by assumption) ?rr82
      try simp only [Act.put, List.setIfInBounds_toArray, List.set_cons_zero, List.set_cons_succ]
      refine wpAnyH_take (i := 19) (oi := ⟨some 90, _, _, _, _, _⟩) (v := ?vv83) rfl (by kernel_rfl) (by kernel_rfl) (by kernel_rfl) (fun _ _ _ h => h) (Or.inl ⟨by rfl, ?yy83⟩) (by assumption) ?rr83
      case yy83 => (intro wq hSw; (try dsimp only at hSw); go_simp; try with_reducible rfl)
      try simp only [Act.put, List.setIfInBounds_toArray, List.set_cons_zero, List.set_cons_succ]
      refine wpAnyH_take (i := 20) (oi := ⟨some 4, _, _, _, _, _⟩) (v := ?vv84) rfl (by kernel_rfl) (by kernel_rfl) (by kernel_rfl) (fun _ _ _ h => h) (Or.inl ⟨by rfl, ?yy84⟩) (by assumption) ?rr84
      case yy84 => (intro wq hSw; (try dsimp only at hSw); go_simp; try with_reducible rfl)
      try simp only [Act.put, List.setIfInBounds_toArray, List.set_cons_zero, List.set_cons_succ]
      refine wpAnyH_done (by kernel_rfl) ?_ _
      go_wp2_with fail
      go_ret
      exact ⟨rfl, bl HB.out hHeld.1⟩
    · skip
      refine wp_region_held_drew (S := (fun W' => Below W.heap.size W W' ∧ W'.cell? ⟨w.heap.size, 7, none⟩ = some (.slice (some ⟨g, o, none⟩) 2 c) ∧ W'.cell? ⟨w.heap.size + 1, 7, none⟩ = some (.slice (some ⟨g2, o2, none⟩) 2 c2) ∧ W'.cell? ⟨g, o, none⟩ = some (.int .i8 kao) ∧ W'.cell? ⟨g, o + 1, none⟩ = some (.int .i64 kap) ∧ W'.cell? ⟨g, o + 2, none⟩ = some (.bool kai) ∧ W'.cell? ⟨g, o + 3, none⟩ = some (.int .u8 kah) ∧ W'.cell? ⟨g, o + 4, none⟩ = some (.int .i64 kal) ∧ W'.cell? ⟨g, o + 5, none⟩ = some (.int .u8 kaf) ∧ W'.cell? ⟨g, o + 6, none⟩ = some (.int .u8 kat) ∧ W'.cell? ⟨g, o + 7, none⟩ = some (.slice kaA kan kac) ∧ W'.cell? ⟨g, o + 8, none⟩ = some (.int .i8 kbo) ∧ W'.cell? ⟨g, o + 8 + 1, none⟩ = some (.int .i64 kbp) ∧ W'.cell? ⟨g, o + 8 + 2, none⟩ = some (.bool kbi) ∧ W'.cell? ⟨g, o + 8 + 3, none⟩ = some (.int .u8 kbh) ∧ W'.cell? ⟨g, o + 8 + 4, none⟩ = some (.int .i64 kbl) ∧ W'.cell? ⟨g, o + 8 + 5, none⟩ = some (.int .u8 kbf) ∧ W'.cell? ⟨g, o + 8 + 6, none⟩ = some (.int .u8 kbt) ∧ W'.cell? ⟨g, o + 8 + 7, none⟩ = some (.slice kbA kbn kbc) ∧ W'.cell? ⟨g2, o2, none⟩ = some (.int .i8 kco) ∧ W'.cell? ⟨g2, o2 + 1, none⟩ = some (.int .i64 kcp) ∧ W'.cell? ⟨g2, o2 + 2, none⟩ = some (.bool kci) ∧ W'.cell? ⟨g2, o2 + 3, none⟩ = some (.int .u8 kch) ∧ W'.cell? ⟨g2, o2 + 4, none⟩ = some (.int .i64 kcl) ∧ W'.cell? ⟨g2, o2 + 5, none⟩ = some (.int .u8 kcf) ∧ W'.cell? ⟨g2, o2 + 6, none⟩ = some (.int .u8 kct) ∧ W'.cell? ⟨g2, o2 + 7, none⟩ = some (.slice kcA kcn kcc) ∧ W'.cell? ⟨g2, o2 + 8, none⟩ = some (.int .i8 kdo) ∧ W'.cell? ⟨g2, o2 + 8 + 1, none⟩ = some (.int .i64 kdp) ∧ W'.cell? ⟨g2, o2 + 8 + 2, none⟩ = some (.bool kdi) ∧ W'.cell? ⟨g2, o2 + 8 + 3, none⟩ = some (.int .u8 kdh) ∧ W'.cell? ⟨g2, o2 + 8 + 4, none⟩ = some (.int .i64 kdl) ∧ W'.cell? ⟨g2, o2 + 8 + 5, none⟩ = some (.int .u8 kdf) ∧ W'.cell? ⟨g2, o2 + 8 + 6, none⟩ = some (.int .u8 kdt) ∧ W'.cell? ⟨g2, o2 + 8 + 7, none⟩ = some (.slice kdA kdn kdc))) (by kernel_rfl) ?ss85 (fun hHeld => ?rr85)
      case ss85 => (try dsimp only); exact HKK.out _ (bdr HBW.out _)
      refine wpAnyH_take (i := 0) (oi := ⟨some 71, _, _, _, _, _⟩) (v := ?vv86) rfl (by kernel_rfl) (by kernel_rfl) (by kernel_rfl) (fun _ _ _ h => h) (Or.inl ⟨by rfl, ?yy86⟩) (by assumption) ?rr86
      case yy86 => (intro wq hSw; (try dsimp only at hSw); go_simp; try with_reducible rfl)
      try simp only [Act.put, List.setIfInBounds_toArray, List.set_cons_zero, List.set_cons_succ]
      refine wpAnyH_take (i := 1) (oi := ⟨some 72, _, _, _, _, _⟩) (v := ?vv87) rfl (by kernel_rfl) (by kernel_rfl) (by kernel_rfl) (fun _ _ _ h => h) (Or.inl ⟨by rfl, ?yy87⟩) (by assumption) ?rr87
      case yy87 => (intro wq hSw; (try dsimp only at hSw); go_simp; try with_reducible rfl)
      try simp only [Act.put, List.setIfInBounds_toArray, List.set_cons_zero, List.set_cons_succ]
      refine wpAnyH_take (i := 2) (oi := ⟨some 73, _, _, _, _, _⟩) (v := ?vv88) rfl (by kernel_rfl) (by kernel_rfl) (by kernel_rfl) (fun _ _ _ h => h) (Or.inl ⟨by rfl, ?yy88⟩) (by assumption) ?rr88
      case yy88 => (intro wq hSw; (try dsimp only at hSw); go_simp; try with_reducible rfl)
      try simp only [Act.put, List.setIfInBounds_toArray, List.set_cons_zero, List.set_cons_succ]
      refine wpAnyH_take (i := 3) (oi := ⟨some 74, _, _, _, _, _⟩) (v := ?vv89) rfl (by kernel_rfl) (by kernel_rfl) (by kernel_rfl) (fun _ _ _ h => h) (Or.inl ⟨by rfl, ?yy89⟩) (by assumption) ?rr89
      case yy89 => (intro wq hSw; (try dsimp only at hSw); go_simp; try with_reducible rfl)
      try simp only [Act.put, List.setIfInBounds_toArray, List.set_cons_zero, List.set_cons_succ]
      refine wpAnyH_take (i := 4) (oi := ⟨some 75, _, _, _, _, _⟩) (v := ?vv90) rfl (by kernel_rfl) (by kernel_rfl) (by kernel_rfl) (fun _ _ _ h => h) (Or.inl ⟨by rfl, ?yy90⟩) (by assumption) ?rr90
      case yy90 => (intro wq hSw; (try dsimp only at hSw); go_simp; try with_reducible rfl)
      try simp only [Act.put, List.setIfInBounds_toArray, List.set_cons_zero, List.set_cons_succ]
      refine wpAnyH_take (i := 5) (oi := ⟨some 76, _, _, _, _, _⟩) (v := ?vv91) rfl (by kernel_rfl) (by kernel_rfl) (by kernel_rfl) (fun _ _ _ h => h) (Or.inl ⟨by rfl, ?yy91⟩) (by assumption) ?rr91
      case yy91 => (intro wq hSw; (try dsimp only at hSw); go_simp; try with_reducible rfl)
      try simp only [Act.put, List.setIfInBounds_toArray, List.set_cons_zero, List.set_cons_succ]
      refine wpAnyH_take (i := 6) (oi := ⟨some 77, _, _, _, _, _⟩) (v := ?vv92) rfl (by kernel_rfl) (by kernel_rfl) (by kernel_rfl) (fun _ _ _ h => h) (Or.inl ⟨by rfl, ?yy92⟩) (by assumption) ?rr92
      case yy92 => (intro wq hSw; (try dsimp only at hSw); go_simp; try with_reducible rfl)
      try simp only [Act.put, List.setIfInBounds_toArray, List.set_cons_zero, List.set_cons_succ]
      refine wpAnyH_take (i := 7) (oi := ⟨some 78, _, _, _, _, _⟩) (v := ?vv93) rfl (by kernel_rfl) (by kernel_rfl) (by kernel_rfl) (fun _ _ _ h => h) (Or.inl ⟨by rfl, ?yy93⟩) (by assumption) ?rr93
      case yy93 => (intro wq hSw; (try dsimp only at hSw); go_simp; try with_reducible rfl)
      try simp only [Act.put, List.setIfInBounds_toArray, List.set_cons_zero, List.set_cons_succ]
      refine wpAnyH_ready (rs := [8]) (by kernel_rfl) (by simp) ?_
      refine AllReadyH.cons (o := ⟨some 79, _, _, _, _, _⟩) rfl (fun K hK => ?_) AllReadyH.nil
      go_simp
      ((refine (HC0.out _ hHeld.1).mono ?_); rintro e w4 ⟨rfl, hb4⟩)
      refine hK.out _ _ ?ss94 (fun hHeld2 => ?rr94)
      case ss94 => (try dsimp only); exact HKK.out _ (bl hHeld.1 hb4)
      clear hK K
      clear hHeld
      have hHeld := hHeld2
      clear hHeld2
      try simp only [Act.put, List.setIfInBounds_toArray, List.set_cons_zero, List.set_cons_succ]
      refine wpAnyH_take (i := 9) (oi := ⟨some 80, _, _, _, _, _⟩) (v := ?vv95) rfl (by kernel_rfl) (by kernel_rfl) (by kernel_rfl) (fun _ _ _ h => h) (Or.inl ⟨by rfl, ?yy95⟩) (by assumption) ?rr95
      case yy95 => (intro wq hSw; (try dsimp only at hSw); go_simp; try with_reducible rfl)
      try simp only [Act.put, List.setIfInBounds_toArray, List.set_cons_zero, List.set_cons_succ]
      refine wpAnyH_take (i := 10) (oi := ⟨some 81, _, _, _, _, _⟩) (v := ?vv96) rfl (by kernel_rfl) (by kernel_rfl) (by kernel_rfl) (fun _ _ _ h => h) (Or.inl ⟨by rfl, ?yy96⟩) (by assumption) ?rr96
      case yy96 => (intro wq hSw; (try dsimp only at hSw); go_simp; try with_reducible rfl)
      try simp only [Act.put, List.setIfInBounds_toArray, List.set_cons_zero, List.set_cons_succ]
      refine wpAnyH_take (i := 11) (oi := ⟨some 82, _, _, _, _, _⟩) (v := ?vv97) rfl (by kernel_rfl) (by kernel_rfl) (by kernel_rfl) (fun _ _ _ h => h) (Or.inl ⟨by rfl, ?yy97⟩) (by assumption) ?rr97
      case yy97 => (intro wq hSw; (try dsimp only at hSw); go_simp; try with_reducible rfl)
      try simp only [Act.put, List.setIfInBounds_toArray, List.set_cons_zero, List.set_cons_succ]
      refine wpAnyH_take (i := 12) (oi := ⟨some 83, _, _, _, _, _⟩) (v := ?vv98) rfl (by kernel_rfl) (by kernel_rfl) (by kernel_rfl) (fun _ _ _ h => h) (Or.inl ⟨by rfl, ?yy98⟩) (by assumption) ?rr98
      case yy98 => (intro wq hSw; (try dsimp only at hSw); go_simp; try with_reducible rfl)
      try simp only [Act.put, List.setIfInBounds_toArray, List.set_cons_zero, List.set_cons_succ]
      refine wpAnyH_take (i := 13) (oi := ⟨some 84, _, _, _, _, _⟩) (v := ?vv99) rfl (by kernel_rfl) (by kernel_rfl) (by kernel_rfl) (fun _ _ _ h => h) (Or.inl ⟨by rfl, ?yy99⟩) (by assumption) ?rr99
      case yy99 => (intro wq hSw; (try dsimp only at hSw); go_simp; try with_reducible rfl)
      try simp only [Act.put, List.setIfInBounds_toArray, List.set_cons_zero, List.set_cons_succ]
      refine wpAnyH_take (i := 14) (oi := ⟨some 85, _, _, _, _, _⟩) (v := ?vv100) rfl (by kernel_rfl) (by kernel_rfl) (by kernel_rfl) (fun _ _ _ h => h) (Or.inl ⟨by rfl, ?yy100⟩) (by assumption) ?rr100
      case yy100 => (intro wq hSw; (try dsimp only at hSw); go_simp; try with_reducible rfl)
      try simp only [Act.put, List.setIfInBounds_toArray, List.set_cons_zero, List.set_cons_succ]
      refine wpAnyH_take (i := 15) (oi := ⟨some 86, _, _, _, _, _⟩) (v := ?vv101) rfl (by kernel_rfl) (by kernel_rfl) (by kernel_rfl) (fun _ _ _ h => h) (Or.inl ⟨by rfl, ?yy101⟩) (by assumption) ?rr101
      case yy101 => (intro wq hSw; (try dsimp only at hSw); go_simp; try with_reducible rfl)
      try simp only [Act.put, List.setIfInBounds_toArray, List.set_cons_zero, List.set_cons_succ]
      refine wpAnyH_take (i := 16) (oi := ⟨some 87, _, _, _, _, _⟩) (v := ?vv102) rfl (by kernel_rfl) (by kernel_rfl) (by kernel_rfl) (fun _ _ _ h => h) (Or.inl ⟨by rfl, ?yy102⟩) (by assumption) ?rr102
      case yy102 => (intro wq hSw; (try dsimp only at hSw); go_simp; try with_reducible rfl)
      try simp only [Act.put, List.setIfInBounds_toArray, List.set_cons_zero, List.set_cons_succ]
      refine wpAnyH_take (i := 17) (oi := ⟨some 88, _, _, _, _, _⟩) (v := ?vv103) rfl (by kernel_rfl) (by kernel_rfl) (by kernel_rfl) (fun _ _ _ h => h) (Or.inl ⟨by rfl, ?yy103⟩) (by assumption) ?rr103
      case yy103 => (intro wq hSw; (try dsimp only at hSw); go_simp; try with_reducible rfl)
      try simp only [Act.put, List.setIfInBounds_toArray, List.set_cons_zero, List.set_cons_succ]
      refine wpAnyH_ready (rs := [18]) (by kernel_rfl) (by simp) ?_
      refine AllReadyH.cons (o := ⟨some 89, _, _, _, _, _⟩) rfl (fun K hK => ?_) AllReadyH.nil
      go_simp
      ((refine (HC1.out _ hHeld.1).mono ?_); rintro e w5 ⟨rfl, hb5⟩)
      refine hK.out _ _ ?ss104 (fun hHeld2 => ?rr104)
      case ss104 => (try dsimp only); exact HKK.out _ (bl hHeld.1 hb5)
      clear hK K
      clear hHeld
      have hHeld := hHeld2
      clear hHeld2
      try simp only [Act.put, List.setIfInBounds_toArray, List.set_cons_zero, List.set_cons_succ]
      refine wpAnyH_take (i := 19) (oi := ⟨some 90, _, _, _, _, _⟩) (v := ?vv105) rfl (by kernel_rfl) (by kernel_rfl) (by kernel_rfl) (fun _ _ _ h => h) (Or.inl ⟨by rfl, ?yy105⟩) (by assumption) ?rr105
      case yy105 => (intro wq hSw; (try dsimp only at hSw); go_simp; try with_reducible rfl)
      try simp only [Act.put, List.setIfInBounds_toArray, List.set_cons_zero, List.set_cons_succ]
      refine wpAnyH_take (i := 20) (oi := ⟨some 4, _, _, _, _, _⟩) (v := ?vv106) rfl (by kernel_rfl) (by kernel_rfl) (by kernel_rfl) (fun _ _ _ h => h) (Or.inl ⟨by rfl, ?yy106⟩) (by assumption) ?rr106
      case yy106 => (intro wq hSw; (try dsimp only at hSw); go_simp; try with_reducible rfl)
      try simp only [Act.put, List.setIfInBounds_toArray, List.set_cons_zero, List.set_cons_succ]
      refine wpAnyH_done (by kernel_rfl) ?_ _
      go_wp2_with fail
      go_ret
      exact ⟨rfl, bl HB.out hHeld.1⟩


set_option maxRecDepth 100000 in
set_option maxHeartbeats 8000000 in
/-- Two parts of one head, in general: other heads, or kid by kid. -/
theorem meetsR_pp (p : Int) (j : Bool) (h : Int) (a b : Co) (A : Option Addr) (n c : Nat) (q : Int) (i : Bool) (k : Int) (x2 y2 : Co) (A2 : Option Addr) (n2 c2 : Nat) (C C2 : Nat → Prop) (w : World)
    (hs : okC (.part p j h a b)) (ht : okC (.part q i k x2 y2)) (hn : opsN h = n) (hn2 : opsN k = n2) (ht1 : TrS w C (.part p j h a b) (.slice A n c)) (ht2 : TrS w C2 (.part q i k x2 y2) (.slice A2 n2 c2))
    (hxx : h = k → j = (q != 0) → h ≠ 62 ∧ h ≠ 120)
    (ih : ∀ m, h = k → m < n → turnd h m = false → ∀ v v2 W, TrS W C (kidT a b m) v → TrS W C2 (kidT x2 y2 m) v2 → Calls Tryz.prog 8 #[TV (kidT a b m) v, TV (kidT x2 y2 m) v2] W fun e w' => KidRM h a b x2 y2 m W e w') :
    Calls Tryz.prog 8 #[TV (.part p j h a b) (.slice A n c), TV (.part q i k x2 y2) (.slice A2 n2 c2)] w fun e w' => MeetRQ (.part p j h a b) (.part q i k x2 y2) w e w' := by
  unfold MeetRQ
  have hen := fun W => endsR_any W (.part p j h a b) (.slice A n c)
  have hbe := fun W => beginsR_any W (.part q i k x2 y2) (.slice A2 n2 c2)
  have hkd1 := fun (m : Nat) (hm : m < n) => ht1.kid (j := m) (by simp only [Co.nk]; omega)
  have hkd2 := fun (m : Nat) (hm : m < n2) => ht2.kid (j := m) (by simp only [Co.nk]; omega)
  simp only [Co.kid] at hkd1 hkd2
  have hcap1 := ht1.slice
  have hcap2 := ht2.slice
  have hmn := fun (hx : (j != (q != 0) || h != k) = true) => meet_pp_no (a := a) (b := b) (p := p) (i := i) (c := x2) (d := y2) hx
  have hmk : h = k → j = (q != 0) → (meetC (.part p j h a b) (.part q i k x2 y2) = true ↔ ∀ m, m < opsN h → meetK h m (kidT a b m) (kidT x2 y2 m) = true) := by rintro rfl hj; exact meet_kids hs ht hj
  obtain ⟨R, hR⟩ : ∃ R, meetC (.part p j h a b) (.part q i k x2 y2) = R := ⟨_, rfl⟩
  rw [hR] at hmn hmk ⊢
  rw [TV_eq, TV_eq] at *
  simp only [nd_part, Co.endsR, Co.begins] at *
  obtain ⟨yb, hyb⟩ : ∃ x, (q != 0) = x := ⟨_, rfl⟩
  rw [hyb] at hbe hmn hmk hxx
  have hnb : n ≤ 2 := by have := opsN_le h; omega
  have e1 : (opsO h == 1) = false := by simpa using (opsO_ne h).1
  have e7 : (opsO h == 7) = false := by simpa using (opsO_ne h).2
  have f1 : (opsO k == 1) = false := by simpa using (opsO_ne k).1
  have f7 : (opsO k == 7) = false := by simpa using (opsO_ne k).2
  have h3 : h = k → j = yb → (opsO h == 3) = false := fun e ej => by rw [opsO_3]; simpa using (hxx e ej).1
  have h6 : h = k → j = yb → (opsO h == 6) = false := fun e ej => by rw [opsO_6]; simpa using (hxx e ej).2
  have htn : h = k → j = yb → ∀ m, turnd h m = false := fun e ej m => by unfold turnd; have a1 := (hxx e ej).1; have a2 := (hxx e ej).2; simp [a1, a2]
  generalize opsO h = so at *
  generalize opsO k = yo at *
  have HEN := Lib.hid hen
  have HBE := Lib.hid hbe
  have HMN := Lib.hid hmn
  have HMK := Lib.hid hmk
  have HIH := Lib.hid ih
  have HN := Lib.hid (And.intro hn hn2)
  have HKD := Lib.hid (And.intro hkd1 hkd2)
  have H36 := Lib.hid (And.intro h3 (And.intro h6 htn))
  clear hen hbe hyb hmn hmk hR hs ht ht1 ht2 ih hn hn2 hkd1 hkd2 h3 h6 hxx htn hcap1 hcap2
  go_enter Tryz.func8, Tryz.ntmps8
  go_upto_region 5 with fail
  obtain ⟨W, hW⟩ : ∃ W, ((w.alloc (.cells #[.int .i8 so, .int .i64 p, .bool j, .int .u8 h, .int .i64 0, .int .u8 0, .int .u8 0, .slice A n c] 31)).alloc (.cells #[.int .i8 yo, .int .i64 q, .bool i, .int .u8 k, .int .i64 0, .int .u8 0, .int .u8 0, .slice A2 n2 c2] 31)) = W := ⟨_, rfl⟩
  rw [hW]
  have hb : Below w.heap.size w W := by rw [← hW]; exact bal (bal b0 _) _
  have hx : Blk W w.heap.size 31 #[.int .i8 so, .int .i64 p, .bool j, .int .u8 h, .int .i64 0, .int .u8 0, .int .u8 0, .slice A n c] := by rw [← hW]; exact (Blk.new w _ _).alloc _
  have hy : Blk W (w.heap.size + 1) 31 #[.int .i8 yo, .int .i64 q, .bool i, .int .u8 k, .int .i64 0, .int .u8 0, .int .u8 0, .slice A2 n2 c2] := by
    rw [← hW]
    have := Blk.new (w.alloc (.cells #[.int .i8 so, .int .i64 p, .bool j, .int .u8 h, .int .i64 0, .int .u8 0, .int .u8 0, .slice A n c] 31)) 31 #[.int .i8 yo, .int .i64 q, .bool i, .int .u8 k, .int .i64 0, .int .u8 0, .int .u8 0, .slice A2 n2 c2]
    rwa [World.size_alloc] at this
  clear hW
  have HK := Lib.hid (show ∀ W', Below W.heap.size W W' → (Below W.heap.size W W' ∧ W'.cell? ⟨w.heap.size, 0, none⟩ = some (.int .i8 so) ∧ W'.cell? ⟨w.heap.size, 1, none⟩ = some (.int .i64 p) ∧ W'.cell? ⟨w.heap.size, 2, none⟩ = some (.bool j) ∧ W'.cell? ⟨w.heap.size, 3, none⟩ = some (.int .u8 h) ∧ W'.cell? ⟨w.heap.size, 4, none⟩ = some (.int .i64 0) ∧ W'.cell? ⟨w.heap.size, 5, none⟩ = some (.int .u8 0) ∧ W'.cell? ⟨w.heap.size, 6, none⟩ = some (.int .u8 0) ∧ W'.cell? ⟨w.heap.size, 7, none⟩ = some (.slice A n c) ∧ W'.cell? ⟨w.heap.size + 1, 0, none⟩ = some (.int .i8 yo) ∧ W'.cell? ⟨w.heap.size + 1, 1, none⟩ = some (.int .i64 q) ∧ W'.cell? ⟨w.heap.size + 1, 2, none⟩ = some (.bool i) ∧ W'.cell? ⟨w.heap.size + 1, 3, none⟩ = some (.int .u8 k) ∧ W'.cell? ⟨w.heap.size + 1, 4, none⟩ = some (.int .i64 0) ∧ W'.cell? ⟨w.heap.size + 1, 5, none⟩ = some (.int .u8 0) ∧ W'.cell? ⟨w.heap.size + 1, 6, none⟩ = some (.int .u8 0) ∧ W'.cell? ⟨w.heap.size + 1, 7, none⟩ = some (.slice A2 n2 c2)) from fun W' hb' => ⟨hb', ((hx.below hb' hx.lt).cell 0).trans rfl, ((hx.below hb' hx.lt).cell 1).trans rfl, ((hx.below hb' hx.lt).cell 2).trans rfl, ((hx.below hb' hx.lt).cell 3).trans rfl, ((hx.below hb' hx.lt).cell 4).trans rfl, ((hx.below hb' hx.lt).cell 5).trans rfl, ((hx.below hb' hx.lt).cell 6).trans rfl, ((hx.below hb' hx.lt).cell 7).trans rfl, ((hy.below hb' hy.lt).cell 0).trans rfl, ((hy.below hb' hy.lt).cell 1).trans rfl, ((hy.below hb' hy.lt).cell 2).trans rfl, ((hy.below hb' hy.lt).cell 3).trans rfl, ((hy.below hb' hy.lt).cell 4).trans rfl, ((hy.below hb' hy.lt).cell 5).trans rfl, ((hy.below hb' hy.lt).cell 6).trans rfl, ((hy.below hb' hy.lt).cell 7).trans rfl⟩)
  have HB := Lib.hid hb
  clear hx hy hb
  go_cut [30] from 26 to 31 (fun r wx => r = .bool (j != yb) ∧ Below W.heap.size W wx)
  case first =>
    refine wp_region_held_drew (S := (fun W' => Below W.heap.size W W' ∧ W'.cell? ⟨w.heap.size, 0, none⟩ = some (.int .i8 so) ∧ W'.cell? ⟨w.heap.size, 1, none⟩ = some (.int .i64 p) ∧ W'.cell? ⟨w.heap.size, 2, none⟩ = some (.bool j) ∧ W'.cell? ⟨w.heap.size, 3, none⟩ = some (.int .u8 h) ∧ W'.cell? ⟨w.heap.size, 4, none⟩ = some (.int .i64 0) ∧ W'.cell? ⟨w.heap.size, 5, none⟩ = some (.int .u8 0) ∧ W'.cell? ⟨w.heap.size, 6, none⟩ = some (.int .u8 0) ∧ W'.cell? ⟨w.heap.size, 7, none⟩ = some (.slice A n c) ∧ W'.cell? ⟨w.heap.size + 1, 0, none⟩ = some (.int .i8 yo) ∧ W'.cell? ⟨w.heap.size + 1, 1, none⟩ = some (.int .i64 q) ∧ W'.cell? ⟨w.heap.size + 1, 2, none⟩ = some (.bool i) ∧ W'.cell? ⟨w.heap.size + 1, 3, none⟩ = some (.int .u8 k) ∧ W'.cell? ⟨w.heap.size + 1, 4, none⟩ = some (.int .i64 0) ∧ W'.cell? ⟨w.heap.size + 1, 5, none⟩ = some (.int .u8 0) ∧ W'.cell? ⟨w.heap.size + 1, 6, none⟩ = some (.int .u8 0) ∧ W'.cell? ⟨w.heap.size + 1, 7, none⟩ = some (.slice A2 n2 c2))) (by kernel_rfl) ?ss107 (fun hHeld => ?rr107)
    case ss107 => (try dsimp only); exact HK.out _ (Below.refl _ _).drew
    refine wpAnyH_take (i := 0) (oi := ⟨some 26, _, _, _, _, _⟩) (v := ?vv108) rfl (by kernel_rfl) (by kernel_rfl) (by kernel_rfl) (fun _ _ _ h => h) (Or.inl ⟨by rfl, ?yy108⟩) (by assumption) ?rr108
    case yy108 => (intro wq hSw; (try dsimp only at hSw); go_simp; try with_reducible rfl)
    try simp only [Act.put, List.setIfInBounds_toArray, List.set_cons_zero, List.set_cons_succ]
    refine wpAnyH_take (i := 2) (oi := ⟨some 28, _, _, _, _, _⟩) (v := ?vv109) rfl (by kernel_rfl) (by kernel_rfl) (by kernel_rfl) (fun _ _ _ h => h) (Or.inl ⟨by rfl, ?yy109⟩) (by assumption) ?rr109
    case yy109 => (intro wq hSw; (try dsimp only at hSw); go_simp; try with_reducible rfl)
    try simp only [Act.put, List.setIfInBounds_toArray, List.set_cons_zero, List.set_cons_succ]
    refine wpAnyH_ready (rs := [1]) (by kernel_rfl) (by simp) ?_
    refine AllReadyH.cons (o := ⟨some 27, _, _, _, _, _⟩) rfl (fun K hK => ?_) AllReadyH.nil
    go_simp
    ((refine (HEN.out _).mono ?_); rintro e w4 ⟨rfl, hb4⟩)
    refine hK.out _ _ ?ss110 (fun hHeld2 => ?rr110)
    case ss110 => (try dsimp only); exact HK.out _ (bl hHeld.1 hb4)
    clear hK K
    clear hHeld
    have hHeld := hHeld2
    clear hHeld2
    try simp only [Act.put, List.setIfInBounds_toArray, List.set_cons_zero, List.set_cons_succ]
    refine wpAnyH_ready (rs := [3]) (by kernel_rfl) (by simp) ?_
    refine AllReadyH.cons (o := ⟨some 29, _, _, _, _, _⟩) rfl (fun K hK => ?_) AllReadyH.nil
    go_simp
    ((refine (HBE.out _).mono ?_); rintro e w5 ⟨rfl, hb5⟩)
    refine hK.out _ _ ?ss111 (fun hHeld2 => ?rr111)
    case ss111 => (try dsimp only); exact HK.out _ (bl hHeld.1 hb5)
    clear hK K
    clear hHeld
    have hHeld := hHeld2
    clear hHeld2
    try simp only [Act.put, List.setIfInBounds_toArray, List.set_cons_zero, List.set_cons_succ]
    refine wpAnyH_take (i := 4) (oi := ⟨some 30, _, _, _, _, _⟩) (v := ?vv112) rfl (by kernel_rfl) (by kernel_rfl) (by kernel_rfl) (fun _ _ _ h => h) (Or.inl ⟨by rfl, ?yy112⟩) (by assumption) ?rr112
    case yy112 => (intro wq hSw; (try dsimp only at hSw); go_simp; try with_reducible rfl)
    try simp only [Act.put, List.setIfInBounds_toArray, List.set_cons_zero, List.set_cons_succ]
    refine wpAnyH_done (by kernel_rfl) ?_ _
    go_wp2_with fail
    go_meet
    case rel => exact ⟨by first | rfl | simp, hHeld.1⟩
  case rest =>
    obtain ⟨rfl, hbw⟩ := hcut
    have HBW := Lib.hid hbw
    obtain ⟨_, x0, x1, x2, x3, x4, x5, x6, x7, y0, y1', y2, y3, y4, y5, y6, y7⟩ := HK.out wc hbw
    clear hbw
    obtain ⟨hj, hjb⟩ : ∃ x, (j != yb) = x := ⟨_, rfl⟩
    rw [hjb]
    cases hj
    · obtain rfl : j = yb := by cases j <;> cases yb <;> simp_all
      clear hjb
      by_cases hf : h = k
      · subst hf
        have e2 : (h != h) = false := by simp
        obtain rfl : n = n2 := HN.out.1.symm.trans HN.out.2
        obtain ⟨h3, h6, htn⟩ := H36.out
        have h3 := h3 rfl (by trivial)
        have h6 := h6 rfl (by trivial)
        have htn := htn rfl (by trivial)
        have HTN := Lib.hid htn
        have HMK2 := Lib.hid (HMK.out rfl rfl)
        clear htn HMK HMN HEN HBE
        go_wp2_with fail
        clear x0 x1 x2 x3 x4 x5 x6 y0 y1' y2 y3 y4 y5 y6
        go_loopg [5] n (fun gg u wr => ∃ m : Nat, m ≤ n ∧ gg = n - m ∧ u = .int .i64 m ∧ Below W.heap.size W wr ∧ ∀ x, x < m → meetK h x (kidT a b x) (kidT x2 y2 x) = true)
        case atStart => exact ⟨0, by omega, rfl, rfl, HBW.out, fun x hx => absurd hx (by omega)⟩
        case round =>
          obtain ⟨m, hm, rfl, rfl, hbr, hall⟩ := hrel
          have HBR := Lib.hid hbr
          have HA := Lib.hid hall
          clear hbr hall x7 y7
          obtain ⟨_, _, _, _, _, _, _, _, x7, _, _, _, _, _, _, _, y7⟩ := HK.out wr HBR.out
          by_cases hlt : m < n
          · obtain ⟨hk1, hk2⟩ := HKD.out
            obtain ⟨g, o, s1, rfl, hCg, hgl, ht1, q0, q1, q2, q3, q4, q5, q6, q7⟩ := hk1 m hlt
            obtain ⟨g2, o2, s2, rfl, hCg2, hgl2, ht2, r0, r1, r2, r3, r4, r5, r6, r7⟩ := hk2 m hlt
            obtain ⟨kaA, kac, rfl, _, _⟩ := ht1.slice
            obtain ⟨kcA, kcc, rfl, _, _⟩ := ht2.slice
            have hcall := fun W' (hb' : Below w.heap.size w W') => HIH.out m (by first | rfl | trivial) hlt (HTN.out m) _ _ W' (ht1.below hb') (ht2.below hb')
            rw [TV_eq, TV_eq] at hcall
            unfold KidRM at hcall
            obtain ⟨mk, hmk⟩ : ∃ x, meetK h m (kidT a b m) (kidT x2 y2 m) = x := ⟨_, rfl⟩
            rw [hmk] at hcall
            have HM := Lib.hid hmk
            generalize (kidT a b m).nk = kan at *
            generalize (kidT x2 y2 m).nk = kcn at *
            generalize (kidT a b m).nd = nd1 at *
            generalize (kidT x2 y2 m).nd = nd2 at *
            obtain ⟨kao, kap, kai, kah, kal, kaf, kat⟩ := nd1
            obtain ⟨kco, kcp, kci, kch, kcl, kcf, kct⟩ := nd2
            simp only at q0 q1 q2 q3 q4 q5 q6 q7 r0 r1 r2 r3 r4 r5 r6 r7 hcall
            have HCALL := Lib.hid hcall
            have HS := Lib.hid (show ∀ W', Below W.heap.size W W' → (Below W.heap.size W W' ∧ W'.cell? ⟨w.heap.size, 7, none⟩ = some (.slice (some ⟨g, o, none⟩) n c) ∧ W'.cell? ⟨w.heap.size + 1, 7, none⟩ = some (.slice (some ⟨g2, o2, none⟩) n c2) ∧ W'.cell? ⟨g, o + m * 8, none⟩ = some (.int .i8 kao) ∧ W'.cell? ⟨g, o + m * 8 + 1, none⟩ = some (.int .i64 kap) ∧ W'.cell? ⟨g, o + m * 8 + 2, none⟩ = some (.bool kai) ∧ W'.cell? ⟨g, o + m * 8 + 3, none⟩ = some (.int .u8 kah) ∧ W'.cell? ⟨g, o + m * 8 + 4, none⟩ = some (.int .i64 kal) ∧ W'.cell? ⟨g, o + m * 8 + 5, none⟩ = some (.int .u8 kaf) ∧ W'.cell? ⟨g, o + m * 8 + 6, none⟩ = some (.int .u8 kat) ∧ W'.cell? ⟨g, o + m * 8 + 7, none⟩ = some (.slice kaA kan kac) ∧ W'.cell? ⟨g2, o2 + m * 8, none⟩ = some (.int .i8 kco) ∧ W'.cell? ⟨g2, o2 + m * 8 + 1, none⟩ = some (.int .i64 kcp) ∧ W'.cell? ⟨g2, o2 + m * 8 + 2, none⟩ = some (.bool kci) ∧ W'.cell? ⟨g2, o2 + m * 8 + 3, none⟩ = some (.int .u8 kch) ∧ W'.cell? ⟨g2, o2 + m * 8 + 4, none⟩ = some (.int .i64 kcl) ∧ W'.cell? ⟨g2, o2 + m * 8 + 5, none⟩ = some (.int .u8 kcf) ∧ W'.cell? ⟨g2, o2 + m * 8 + 6, none⟩ = some (.int .u8 kct) ∧ W'.cell? ⟨g2, o2 + m * 8 + 7, none⟩ = some (.slice kcA kcn kcc)) from fun W' hb' => by
              obtain ⟨_, _, _, _, _, _, _, _, x7', _, _, _, _, _, _, _, y7'⟩ := HK.out W' hb'
              have hbw := bl HB.out hb'
              have kc : ∀ i u, w.cell? ⟨g, i, none⟩ = some u → W'.cell? ⟨g, i, none⟩ = some u := fun i u hu => (hbw.cell (p := ⟨g, i, none⟩) hgl).trans hu
              have kc2 : ∀ i u, w.cell? ⟨g2, i, none⟩ = some u → W'.cell? ⟨g2, i, none⟩ = some u := fun i u hu => (hbw.cell (p := ⟨g2, i, none⟩) hgl2).trans hu
              exact ⟨hb', x7', y7', kc _ _ q0, kc _ _ q1, kc _ _ q2, kc _ _ q3, kc _ _ q4, kc _ _ q5, kc _ _ q6, kc _ _ q7, kc2 _ _ r0, kc2 _ _ r1, kc2 _ _ r2, kc2 _ _ r3, kc2 _ _ r4, kc2 _ _ r5, kc2 _ _ r6, kc2 _ _ r7⟩)
            clear hk1 hk2 ht1 ht2 q0 q1 q2 q3 q4 q5 q6 q7 r0 r1 r2 r3 r4 r5 r6 r7 hcall hmk hCg hCg2 hgl hgl2
            go_upto_region 19 with fail
            refine wp_region_held_drew (S := (fun W' => Below W.heap.size W W' ∧ W'.cell? ⟨w.heap.size, 7, none⟩ = some (.slice (some ⟨g, o, none⟩) n c) ∧ W'.cell? ⟨w.heap.size + 1, 7, none⟩ = some (.slice (some ⟨g2, o2, none⟩) n c2) ∧ W'.cell? ⟨g, o + m * 8, none⟩ = some (.int .i8 kao) ∧ W'.cell? ⟨g, o + m * 8 + 1, none⟩ = some (.int .i64 kap) ∧ W'.cell? ⟨g, o + m * 8 + 2, none⟩ = some (.bool kai) ∧ W'.cell? ⟨g, o + m * 8 + 3, none⟩ = some (.int .u8 kah) ∧ W'.cell? ⟨g, o + m * 8 + 4, none⟩ = some (.int .i64 kal) ∧ W'.cell? ⟨g, o + m * 8 + 5, none⟩ = some (.int .u8 kaf) ∧ W'.cell? ⟨g, o + m * 8 + 6, none⟩ = some (.int .u8 kat) ∧ W'.cell? ⟨g, o + m * 8 + 7, none⟩ = some (.slice kaA kan kac) ∧ W'.cell? ⟨g2, o2 + m * 8, none⟩ = some (.int .i8 kco) ∧ W'.cell? ⟨g2, o2 + m * 8 + 1, none⟩ = some (.int .i64 kcp) ∧ W'.cell? ⟨g2, o2 + m * 8 + 2, none⟩ = some (.bool kci) ∧ W'.cell? ⟨g2, o2 + m * 8 + 3, none⟩ = some (.int .u8 kch) ∧ W'.cell? ⟨g2, o2 + m * 8 + 4, none⟩ = some (.int .i64 kcl) ∧ W'.cell? ⟨g2, o2 + m * 8 + 5, none⟩ = some (.int .u8 kcf) ∧ W'.cell? ⟨g2, o2 + m * 8 + 6, none⟩ = some (.int .u8 kct) ∧ W'.cell? ⟨g2, o2 + m * 8 + 7, none⟩ = some (.slice kcA kcn kcc))) (by kernel_rfl) ?ss113 (fun hHeld => ?rr113)
            case ss113 => (try dsimp only); exact HS.out _ (bdr HBR.out _)
            refine wpAnyH_take (i := 0) (oi := ⟨some 98, _, _, _, _, _⟩) (v := ?vv114) rfl (by kernel_rfl) (by kernel_rfl) (by kernel_rfl) (fun _ _ _ h => h) (Or.inl ⟨by rfl, ?yy114⟩) (by assumption) ?rr114
            case yy114 => (intro wq hSw; (try dsimp only at hSw); go_simp; try with_reducible rfl)
            try simp only [Act.put, List.setIfInBounds_toArray, List.set_cons_zero, List.set_cons_succ]
            refine wpAnyH_take (i := 1) (oi := ⟨some 99, _, _, _, _, _⟩) (v := ?vv115) rfl (by kernel_rfl) (by kernel_rfl) (by kernel_rfl) (fun _ _ _ h => h) (Or.inl ⟨by rfl, ?yy115⟩) (by assumption) ?rr115
            case yy115 => (intro wq hSw; (try dsimp only at hSw); go_simp; try with_reducible rfl)
            try simp only [Act.put, List.setIfInBounds_toArray, List.set_cons_zero, List.set_cons_succ]
            refine wpAnyH_take (i := 2) (oi := ⟨some 100, _, _, _, _, _⟩) (v := ?vv116) rfl (by kernel_rfl) (by kernel_rfl) (by kernel_rfl) (fun _ _ _ h => h) (Or.inl ⟨by rfl, ?yy116⟩) (by assumption) ?rr116
            case yy116 => (intro wq hSw; (try dsimp only at hSw); go_simp; try with_reducible rfl)
            try simp only [Act.put, List.setIfInBounds_toArray, List.set_cons_zero, List.set_cons_succ]
            refine wpAnyH_take (i := 3) (oi := ⟨some 101, _, _, _, _, _⟩) (v := ?vv117) rfl (by kernel_rfl) (by kernel_rfl) (by kernel_rfl) (fun _ _ _ h => h) (Or.inl ⟨by rfl, ?yy117⟩) (by assumption) ?rr117
            case yy117 => (intro wq hSw; (try dsimp only at hSw); go_simp; try with_reducible rfl)
            try simp only [Act.put, List.setIfInBounds_toArray, List.set_cons_zero, List.set_cons_succ]
            refine wpAnyH_take (i := 4) (oi := ⟨some 102, _, _, _, _, _⟩) (v := ?vv118) rfl (by kernel_rfl) (by kernel_rfl) (by kernel_rfl) (fun _ _ _ h => h) (Or.inl ⟨by rfl, ?yy118⟩) (by assumption) ?rr118
            case yy118 => (intro wq hSw; (try dsimp only at hSw); go_simp; try with_reducible rfl)
            try simp only [Act.put, List.setIfInBounds_toArray, List.set_cons_zero, List.set_cons_succ]
            refine wpAnyH_take (i := 5) (oi := ⟨some 103, _, _, _, _, _⟩) (v := ?vv119) rfl (by kernel_rfl) (by kernel_rfl) (by kernel_rfl) (fun _ _ _ h => h) (Or.inl ⟨by rfl, ?yy119⟩) (by assumption) ?rr119
            case yy119 => (intro wq hSw; (try dsimp only at hSw); go_simp; try with_reducible rfl)
            try simp only [Act.put, List.setIfInBounds_toArray, List.set_cons_zero, List.set_cons_succ]
            refine wpAnyH_take (i := 6) (oi := ⟨some 104, _, _, _, _, _⟩) (v := ?vv120) rfl (by kernel_rfl) (by kernel_rfl) (by kernel_rfl) (fun _ _ _ h => h) (Or.inl ⟨by rfl, ?yy120⟩) (by assumption) ?rr120
            case yy120 => (intro wq hSw; (try dsimp only at hSw); go_simp; try with_reducible rfl)
            try simp only [Act.put, List.setIfInBounds_toArray, List.set_cons_zero, List.set_cons_succ]
            refine wpAnyH_take (i := 7) (oi := ⟨some 105, _, _, _, _, _⟩) (v := ?vv121) rfl (by kernel_rfl) (by kernel_rfl) (by kernel_rfl) (fun _ _ _ h => h) (Or.inl ⟨by rfl, ?yy121⟩) (by assumption) ?rr121
            case yy121 => (intro wq hSw; (try dsimp only at hSw); go_simp; try with_reducible rfl)
            try simp only [Act.put, List.setIfInBounds_toArray, List.set_cons_zero, List.set_cons_succ]
            refine wpAnyH_take (i := 8) (oi := ⟨some 106, _, _, _, _, _⟩) (v := ?vv122) rfl (by kernel_rfl) (by kernel_rfl) (by kernel_rfl) (fun _ _ _ h => h) (Or.inl ⟨by rfl, ?yy122⟩) (by assumption) ?rr122
            case yy122 => (intro wq hSw; (try dsimp only at hSw); go_simp; try with_reducible rfl)
            try simp only [Act.put, List.setIfInBounds_toArray, List.set_cons_zero, List.set_cons_succ]
            refine wpAnyH_take (i := 9) (oi := ⟨some 107, _, _, _, _, _⟩) (v := ?vv123) rfl (by kernel_rfl) (by kernel_rfl) (by kernel_rfl) (fun _ _ _ h => h) (Or.inl ⟨by rfl, ?yy123⟩) (by assumption) ?rr123
            case yy123 => (intro wq hSw; (try dsimp only at hSw); go_simp; try with_reducible rfl)
            try simp only [Act.put, List.setIfInBounds_toArray, List.set_cons_zero, List.set_cons_succ]
            refine wpAnyH_ready (rs := [10]) (by kernel_rfl) (by simp) ?_
            refine AllReadyH.cons (o := ⟨some 108, _, _, _, _, _⟩) rfl (fun K hK => ?_) AllReadyH.nil
            go_simp
            ((refine (HCALL.out _ (bl HB.out hHeld.1)).mono ?_); rintro e w4 ⟨rfl, hb4⟩)
            refine hK.out _ _ ?ss124 (fun hHeld2 => ?rr124)
            case ss124 => (try dsimp only); exact HS.out _ (bl hHeld.1 hb4)
            clear hK K
            clear hHeld
            have hHeld := hHeld2
            clear hHeld2
            try simp only [Act.put, List.setIfInBounds_toArray, List.set_cons_zero, List.set_cons_succ]
            refine wpAnyH_take (i := 11) (oi := ⟨some 109, _, _, _, _, _⟩) (v := ?vv125) rfl (by kernel_rfl) (by kernel_rfl) (by kernel_rfl) (fun _ _ _ h => h) (Or.inl ⟨by rfl, ?yy125⟩) (by assumption) ?rr125
            case yy125 => (intro wq hSw; (try dsimp only at hSw); go_simp; try with_reducible rfl)
            try simp only [Act.put, List.setIfInBounds_toArray, List.set_cons_zero, List.set_cons_succ]
            refine wpAnyH_done (by kernel_rfl) ?_ _
            have HH := Lib.hid hHeld.1
            clear hHeld
            cases mk
            · go_wp2_with fail
              go_ret
              refine ⟨?_, bl HB.out HH.out⟩
              cases R
              · rfl
              · exact absurd (HMK2.out.1 rfl m (by rw [HN.out.1]; exact hlt)) (by rw [HM.out]; decide)
            · go_wp2_with fail
              go_roundg (n - (m + 1))
              case measure => omega
              case rel => exact ⟨m + 1, by omega, rfl, by go_num, HH.out, all_succ HA.out HM.out⟩
          · obtain rfl : m = n := by omega
            go_wp2_with fail
            go_ret
            exact ⟨by rw [HMK2.out.2 (fun x hx => HA.out x (by rw [HN.out.1] at hx; exact hx))]; rfl, bl HB.out HBR.out⟩
      · have e2 : (h != k) = true := by simpa using hf
        have HRV := Lib.hid (HMN.out (by rw [e2]; simp))
        clear hf HMN HMK HIH H36
        go_wp2_with fail
        ((refine (HEN.out _).mono ?_); rintro e w4 ⟨rfl, hb4⟩)
        go_wp2_with fail
        go_ret
        exact ⟨by rw [HRV.out]; cases j <;> simp, bl (bl HB.out HBW.out) hb4⟩
    · have HRV := Lib.hid (HMN.out (by rw [hjb]; rfl))
      have HJ := Lib.hid hjb
      clear hjb HMN HMK HIH H36
      go_wp2_with fail
      go_ret
      exact ⟨by rw [HRV.out]; have := HJ.out; cases j <;> cases yb <;> simp_all, bl HB.out HBW.out⟩


theorem meet_two {p : Int} {j : Bool} {h : Int} {a b : Co} {q : Int} {i : Bool} {c d : Co} (hj : j = (q != 0)) : meetC (.part p j h a b) (.part q i h c d) = (meetK h 0 a c && meetK h 1 b d) := by
  rw [Bool.eq_iff_iff, meet_pp, Bool.and_eq_true]
  constructor
  · rintro (⟨_, _, hx⟩ | ⟨_, _, h0, h1⟩)
    · exact absurd rfl hx
    · exact ⟨h0, h1⟩
  · rintro ⟨h0, h1⟩
    exact .inr ⟨hj, rfl, h0, h1⟩

theorem meetsR_fun_any (p : Int) (j : Bool) (a b : Co) (q : Int) (i : Bool) (x y : Co) (sS tS : Value) (C C2 : Nat → Prop) (w : World) (hj : j = (q != 0)) (hs : TrS w C (.part p j 62 a b) sS) (ht : TrS w C2 (.part q i 62 x y) tS)
    (ih : ∀ m, m < 2 → ∀ v v2 W, TrS W C (kidT a b m) v → TrS W C2 (kidT x y m) v2 → Calls Tryz.prog 8 (if turnd 62 m = true then #[TV (kidT x y m) v2, TV (kidT a b m) v] else #[TV (kidT a b m) v, TV (kidT x y m) v2]) W fun e w' => KidRM 62 a b x y m W e w') :
    Calls Tryz.prog 8 #[TV (.part p j 62 a b) sS, TV (.part q i 62 x y) tS] w fun e w' => MeetRQ (.part p j 62 a b) (.part q i 62 x y) w e w' := by
  have hn : opsN 62 = 2 := by decide
  obtain ⟨A, c, rfl, _, _⟩ := hs.slice
  obtain ⟨A2, c2, rfl, _, _⟩ := ht.slice
  have n1 : (Co.part p j 62 a b).nk = 2 := hn
  have n2 : (Co.part q i 62 x y).nk = 2 := hn
  rw [n1] at hs ⊢
  rw [n2] at ht ⊢
  obtain ⟨g, o, s0, rfl, _, hg, a0, k0, k1, k2, k3, k4, k5, k6, k7⟩ := hs.kid (j := 0) (by rw [n1]; omega)
  obtain ⟨g', o', s1, e1, _, _, a1, m0, m1, m2, m3, m4, m5, m6, m7⟩ := hs.kid (j := 1) (by rw [n1]; omega)
  obtain ⟨g2, o2, t0, rfl, _, hg2, b0', l0, l1, l2, l3, l4, l5, l6, l7⟩ := ht.kid (j := 0) (by rw [n2]; omega)
  obtain ⟨g2', o2', t1, e2, _, _, b1, r0, r1, r2, r3, r4, r5, r6, r7⟩ := ht.kid (j := 1) (by rw [n2]; omega)
  injection e1 with e1
  injection e1 with e1 e1' _
  subst e1 e1'
  injection e2 with e2
  injection e2 with e2 e2' _
  subst e2 e2'
  simp only [Co.kid] at *
  obtain ⟨A0, c0, rfl, _, _⟩ := a0.slice
  obtain ⟨A1, c1, rfl, _, _⟩ := a1.slice
  obtain ⟨B0, d0, rfl, _, _⟩ := b0'.slice
  obtain ⟨B1, d1, rfl, _, _⟩ := b1.slice
  unfold MeetRQ
  rw [meet_two hj]
  have hen := fun W => endsR_any W (.part p j 62 a b) (.slice (some ⟨g, o, none⟩) 2 c)
  have hbe := fun W => beginsR_any W (.part q i 62 x y) (.slice (some ⟨g2, o2, none⟩) 2 c2)
  rw [TV_eq] at hen hbe
  simp only [nd_part, Co.endsR, Co.begins] at hen hbe
  rw [← hj] at hbe
  have hc0 := fun W (hb : Below w.heap.size w W) => ih 0 (by omega) _ _ W (a0.below hb) (b0'.below hb)
  have hc1 := fun W (hb : Below w.heap.size w W) => ih 1 (by omega) _ _ W (a1.below hb) (b1.below hb)
  simp only [show turnd 62 0 = true from by decide, show turnd 62 1 = false from by decide, if_true, if_false, Bool.false_eq_true] at hc0 hc1
  refine meetsR_fun p j g o c q i g2 o2 c2 _ _ _ _ _ _ _ A0 (kidT a b 0).nk c0 _ _ _ _ _ _ _ A1 (kidT a b 1).nk c1 _ _ _ _ _ _ _ B0 (kidT x y 0).nk d0 _ _ _ _ _ _ _ B1 (kidT x y 1).nk d1 w (meetK 62 0 a x) (meetK 62 1 b y) _ rfl (fun W hb => ?_) hen hbe hc0 hc1
  have kc : ∀ i u, w.cell? ⟨g, i, none⟩ = some u → W.cell? ⟨g, i, none⟩ = some u := fun i u hu => (hb.cell (p := ⟨g, i, none⟩) hg).trans hu
  have kc2 : ∀ i u, w.cell? ⟨g2, i, none⟩ = some u → W.cell? ⟨g2, i, none⟩ = some u := fun i u hu => (hb.cell (p := ⟨g2, i, none⟩) hg2).trans hu
  exact ⟨kc _ _ k0, kc _ _ k1, kc _ _ k2, kc _ _ k3, kc _ _ k4, kc _ _ k5, kc _ _ k6, kc _ _ k7, kc _ _ m0, kc _ _ m1, kc _ _ m2, kc _ _ m3, kc _ _ m4, kc _ _ m5, kc _ _ m6, kc _ _ m7,
    kc2 _ _ l0, kc2 _ _ l1, kc2 _ _ l2, kc2 _ _ l3, kc2 _ _ l4, kc2 _ _ l5, kc2 _ _ l6, kc2 _ _ l7, kc2 _ _ r0, kc2 _ _ r1, kc2 _ _ r2, kc2 _ _ r3, kc2 _ _ r4, kc2 _ _ r5, kc2 _ _ r6, kc2 _ _ r7⟩

theorem meetsR_box_any (p : Int) (j : Bool) (a b : Co) (q : Int) (i : Bool) (x y : Co) (sS tS : Value) (C C2 : Nat → Prop) (w : World) (hj : j = (q != 0)) (hs : TrS w C (.part p j 120 a b) sS) (ht : TrS w C2 (.part q i 120 x y) tS)
    (ih : ∀ m, m < 2 → ∀ v v2 W, TrS W C (kidT a b m) v → TrS W C2 (kidT x y m) v2 → Calls Tryz.prog 8 (if turnd 120 m = true then #[TV (kidT x y m) v2, TV (kidT a b m) v] else #[TV (kidT a b m) v, TV (kidT x y m) v2]) W fun e w' => KidRM 120 a b x y m W e w') :
    Calls Tryz.prog 8 #[TV (.part p j 120 a b) sS, TV (.part q i 120 x y) tS] w fun e w' => MeetRQ (.part p j 120 a b) (.part q i 120 x y) w e w' := by
  have hn : opsN 120 = 2 := by decide
  obtain ⟨A, c, rfl, _, _⟩ := hs.slice
  obtain ⟨A2, c2, rfl, _, _⟩ := ht.slice
  have n1 : (Co.part p j 120 a b).nk = 2 := hn
  have n2 : (Co.part q i 120 x y).nk = 2 := hn
  rw [n1] at hs ⊢
  rw [n2] at ht ⊢
  obtain ⟨g, o, s0, rfl, _, hg, a0, k0, k1, k2, k3, k4, k5, k6, k7⟩ := hs.kid (j := 0) (by rw [n1]; omega)
  obtain ⟨g', o', s1, e1, _, _, a1, m0, m1, m2, m3, m4, m5, m6, m7⟩ := hs.kid (j := 1) (by rw [n1]; omega)
  obtain ⟨g2, o2, t0, rfl, _, hg2, b0', l0, l1, l2, l3, l4, l5, l6, l7⟩ := ht.kid (j := 0) (by rw [n2]; omega)
  obtain ⟨g2', o2', t1, e2, _, _, b1, r0, r1, r2, r3, r4, r5, r6, r7⟩ := ht.kid (j := 1) (by rw [n2]; omega)
  injection e1 with e1
  injection e1 with e1 e1' _
  subst e1 e1'
  injection e2 with e2
  injection e2 with e2 e2' _
  subst e2 e2'
  simp only [Co.kid] at *
  obtain ⟨A0, c0, rfl, _, _⟩ := a0.slice
  obtain ⟨A1, c1, rfl, _, _⟩ := a1.slice
  obtain ⟨B0, d0, rfl, _, _⟩ := b0'.slice
  obtain ⟨B1, d1, rfl, _, _⟩ := b1.slice
  unfold MeetRQ
  rw [meet_two hj]
  have hen := fun W => endsR_any W (.part p j 120 a b) (.slice (some ⟨g, o, none⟩) 2 c)
  have hbe := fun W => beginsR_any W (.part q i 120 x y) (.slice (some ⟨g2, o2, none⟩) 2 c2)
  rw [TV_eq] at hen hbe
  simp only [nd_part, Co.endsR, Co.begins] at hen hbe
  rw [← hj] at hbe
  have hc0 := fun W (hb : Below w.heap.size w W) => ih 0 (by omega) _ _ W (a0.below hb) (b0'.below hb)
  have hc1 := fun W (hb : Below w.heap.size w W) => ih 1 (by omega) _ _ W (a1.below hb) (b1.below hb)
  simp only [show turnd 120 0 = false from by decide, show turnd 120 1 = true from by decide, if_true, if_false, Bool.false_eq_true] at hc0 hc1
  refine meetsR_box p j g o c q i g2 o2 c2 _ _ _ _ _ _ _ A0 (kidT a b 0).nk c0 _ _ _ _ _ _ _ A1 (kidT a b 1).nk c1 _ _ _ _ _ _ _ B0 (kidT x y 0).nk d0 _ _ _ _ _ _ _ B1 (kidT x y 1).nk d1 w (meetK 120 0 a x) (meetK 120 1 b y) _ rfl (fun W hb => ?_) hen hbe hc0 hc1
  have kc : ∀ i u, w.cell? ⟨g, i, none⟩ = some u → W.cell? ⟨g, i, none⟩ = some u := fun i u hu => (hb.cell (p := ⟨g, i, none⟩) hg).trans hu
  have kc2 : ∀ i u, w.cell? ⟨g2, i, none⟩ = some u → W.cell? ⟨g2, i, none⟩ = some u := fun i u hu => (hb.cell (p := ⟨g2, i, none⟩) hg2).trans hu
  exact ⟨kc _ _ k0, kc _ _ k1, kc _ _ k2, kc _ _ k3, kc _ _ k4, kc _ _ k5, kc _ _ k6, kc _ _ k7, kc _ _ m0, kc _ _ m1, kc _ _ m2, kc _ _ m3, kc _ _ m4, kc _ _ m5, kc _ _ m6, kc _ _ m7,
    kc2 _ _ l0, kc2 _ _ l1, kc2 _ _ l2, kc2 _ _ l3, kc2 _ _ l4, kc2 _ _ l5, kc2 _ _ l6, kc2 _ _ l7, kc2 _ _ r0, kc2 _ _ r1, kc2 _ _ r2, kc2 _ _ r3, kc2 _ _ r4, kc2 _ _ r5, kc2 _ _ r6, kc2 _ _ r7⟩

theorem meetsR_callW (n : Nat) : ∀ (s t : Co) (vs vt : Value) (C C2 : Nat → Prop) (w : World), s.sz + t.sz ≤ n → okC s → okC t → TrS w C s vs → TrS w C2 t vt →
    Calls Tryz.prog 8 #[TV s vs, TV t vt] w fun e w' => MeetRQ s t w e w' := by
  induction n with
  | zero =>
    intro s t vs vt C C2 w hn hs ht hv hv2
    cases s with
    | any => exact meetsR_anyL w t vs vt
    | fail p l f q => exact meetsR_fail w p l f q vs t vt
    | part p j h a b => simp [Co.sz] at hn
  | succ n ih =>
    intro s t vs vt C C2 w hn hs ht hv hv2
    cases s with
    | any => exact meetsR_anyL w t vs vt
    | fail p l f q => exact meetsR_fail w p l f q vs t vt
    | part p j h a b =>
      cases t with
      | any => exact meetsR_anyR w p j h a b vs vt
      | fail q l f t =>
        obtain ⟨A, c, rfl, _, _⟩ := hv.slice
        obtain ⟨A2, c2, rfl, _, _⟩ := hv2.slice
        exact meetsR_pf p j h a b A _ c q l f t A2 _ c2 w
      | part q i k x y =>
        have hkid : ∀ m, h = k → ∀ v v2 W, TrS W C (kidT a b m) v → TrS W C2 (kidT x y m) v2 → Calls Tryz.prog 8 (if turnd h m = true then #[TV (kidT x y m) v2, TV (kidT a b m) v] else #[TV (kidT a b m) v, TV (kidT x y m) v2]) W fun e w' => KidRM h a b x y m W e w' := by
          intro m hk v v2 W hv hv2
          obtain ⟨o1, z1⟩ := kid_ok hs m
          obtain ⟨o2, z2⟩ := kid_ok ht m
          unfold KidRM meetK
          cases turnd h m
          · exact ih _ _ v v2 C C2 W (by omega) o1 o2 hv hv2
          · exact ih _ _ v2 v C2 C W (by omega) o2 o1 hv2 hv
        by_cases hjk : j = (q != 0) ∧ h = k ∧ (h = 62 ∨ h = 120)
        · obtain ⟨hj, rfl, hh⟩ := hjk
          rcases hh with rfl | rfl
          · exact meetsR_fun_any p j a b q i x y vs vt C C2 w hj hv hv2 (fun m _ => hkid m rfl)
          · exact meetsR_box_any p j a b q i x y vs vt C C2 w hj hv hv2 (fun m _ => hkid m rfl)
        · obtain ⟨A, c, rfl, _, _⟩ := hv.slice
          obtain ⟨A2, c2, rfl, _, _⟩ := hv2.slice
          refine meetsR_pp p j h a b A _ c q i k x y A2 _ c2 C C2 w hs ht rfl rfl hv hv2 (fun e ej => ⟨fun e2 => hjk ⟨ej, e, .inl e2⟩, fun e2 => hjk ⟨ej, e, .inr e2⟩⟩) ?_
          intro m hk hm htu v v2 W g1 g2
          have := hkid m hk v v2 W g1 g2
          rw [htu] at this
          simpa using this

end Go.Proofs.YtjklecncdinabaaGreatDoor.C
