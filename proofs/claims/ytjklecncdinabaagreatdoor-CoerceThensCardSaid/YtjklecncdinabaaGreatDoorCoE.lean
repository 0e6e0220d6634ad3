/- Contracts: coerce.meet, Meet. -/
import Derived.Test.YtjklecncdinabaaGreatDoorCoD
import Derived.Deep.RegionHeld3
namespace Go.Proofs.YtjklecncdinabaaGreatDoor.C
open Go.RowKit Go.Proofs.YtjklecncdinabaaGreatDoor.B
set_option linter.unusedVariables false
set_option linter.unusedSimpArgs false

/-! ### Kid by kid, plain -/
theorem meet_kids {p : Int} {j : Bool} {h : Int} {a b : Co} {q : Int} {i : Bool} {c d : Co} (hs : okC (.part p j h a b)) (ht : okC (.part q i h c d)) (hj : j = (q != 0)) :
    meetC (.part p j h a b) (.part q i h c d) = true ↔ ∀ m, m < opsN h → meetK h m (kidT a b m) (kidT c d m) = true := by
  obtain ⟨_, _, a0, a1, _⟩ := hs
  obtain ⟨_, _, c0, c1, _⟩ := ht
  have e : ∀ m, meetK h m .any .any = true := fun m => by unfold meetK; split <;> (rw [meet_any]; rfl)
  rw [meet_pp]
  constructor
  · rintro (⟨_, _, hx⟩ | ⟨_, _, h0, h1⟩)
    · exact absurd rfl hx
    · intro m hm
      have := opsN_le h
      rcases m with _ | _ | m
      · exact h0
      · exact h1
      · omega
  · intro hall
    refine .inr ⟨hj, rfl, ?_, ?_⟩
    · rcases Nat.eq_zero_or_pos (opsN h) with h0 | h0
      · rw [a0 h0, c0 h0]; exact e 0
      · exact hall 0 h0
    · by_cases h1 : opsN h ≤ 1
      · rw [a1 h1, c1 h1]; exact e 1
      · exact hall 1 (by omega)
theorem kid_ok {p : Int} {j : Bool} {h : Int} {a b : Co} (hs : okC (.part p j h a b)) (m : Nat) : okC (kidT a b m) ∧ (kidT a b m).sz < (Co.part p j h a b).sz := by
  obtain ⟨_, _, _, _, _, h1, _, h2⟩ := hs
  unfold kidT
  split
  · exact ⟨h1, by simp only [Co.sz]; omega⟩
  · exact ⟨h2, by simp only [Co.sz]; omega⟩
theorem meet_pp_no {p : Int} {j : Bool} {h : Int} {a b : Co} {q : Int} {i : Bool} {k : Int} {c d : Co} (hx : (j != (q != 0) || h != k) = true) :
    meetC (.part p j h a b) (.part q i k c d) = (j && (q != 0)) := by
  rw [meetC, if_pos hx]
theorem meet_pf_eq (p : Int) (j : Bool) (h : Int) (a b : Co) (q l f t : Int) : meetC (.part p j h a b) (.fail q l f t) = ((j == (q != 0)) && (j || h == f)) := by
  unfold meetC; rfl

/-- The contract's shape. -/
def MeetQ (s t : Co) (w : World) (e : Ending) (w' : World) : Prop := e = .returned (.bool (meetC s t)) ∧ Below w.heap.size w w'

set_option maxRecDepth 100000 in
/-- t.begins(), asked through the interface. -/
theorem meet_begins (t : Co) (vt : Value) (C : Nat → Prop) (w : World) (hv : VCo w C t vt) : Calls Tryz.prog 23 #[.iface 106 (.agg #[]), vt] w fun e w' => MeetQ .any t w e w' := by
  unfold MeetQ
  rw [meet_any]
  have a1 := tAF (.agg #[])
  have a2 := tAP (.agg #[])
  unfold zFail at a1
  unfold zPart at a2
  cases t with
  | any =>
    simp only [VCo] at hv
    subst hv
    have m1 := fun W => mBgA W
    go_enter Tryz.func23, Tryz.ntmps23
    go_wp2_with fail
    (refine (cBgA _).mono ?_); rintro ev w3 ⟨rfl, hb3⟩
    go_wp2_with fail
    go_ret
    exact ⟨rfl, hb3⟩
  | fail p l f q =>
    simp only [VCo] at hv
    subst hv
    have m1 := fun W => mBgF W p l f q
    go_enter Tryz.func23, Tryz.ntmps23
    go_wp2_with fail
    (refine (cBgF _ p l f q).mono ?_); rintro ev w3 ⟨rfl, hb3⟩
    go_wp2_with fail
    go_ret
    exact ⟨rfl, hb3⟩
  | part p j hh ta tb =>
    simp only [VCo] at hv
    obtain ⟨Ap, cp, va, vb, rfl, _⟩ := hv
    have m1 := fun W => mBgP W p j hh Ap (opsN hh) cp
    go_enter Tryz.func23, Tryz.ntmps23
    go_wp2_with fail
    (refine (cBgP _ p j hh Ap (opsN hh) cp).mono ?_); rintro ev w3 ⟨rfl, hb3⟩
    go_wp2_with fail
    go_ret
    exact ⟨rfl, hb3⟩

set_option maxRecDepth 100000 in
theorem meet_failW (p l f q : Int) (t : Co) (vt : Value) (w : World) : Calls Tryz.prog 23 #[.iface 97 (.agg #[.int .i64 p, .int .i64 l, .int .u8 f, .int .u8 q]), vt] w fun e w' => MeetQ (.fail p l f q) t w e w' := by
  unfold MeetQ
  rw [meet_fail]
  have a1 := tFF (.agg #[.int .i64 p, .int .i64 l, .int .u8 f, .int .u8 q])
  go_enter Tryz.func23, Tryz.ntmps23
  go_wp2_with fail
  go_ret
  exact ⟨rfl, bal b0 _⟩

section
variable (p : Int) (j : Bool) (h : Int) (a b : Co) (A : Option Addr) (n c : Nat) (w : World)
set_option maxRecDepth 100000 in
theorem meet_part_any : Calls Tryz.prog 23 #[.iface 100 (.agg #[.int .i64 p, .bool j, .int .u8 h, .slice A n c]), .iface 106 (.agg #[])] w fun e w' => MeetQ (.part p j h a b) .any w e w' := by
  unfold MeetQ
  rw [meet_pa]
  have a1 := tPF (.agg #[.int .i64 p, .bool j, .int .u8 h, .slice A n c])
  have a2 := tPP (.agg #[.int .i64 p, .bool j, .int .u8 h, .slice A n c])
  have a3 := tAF (.agg #[])
  have a4 := tAP (.agg #[])
  unfold zFail at a1 a3
  unfold zPart at a4
  go_enter Tryz.func23, Tryz.ntmps23
  go_wp2_with fail
  go_ret
  exact ⟨rfl, bal b0 _⟩

set_option maxRecDepth 100000 in
set_option maxHeartbeats 2000000 in
theorem meet_part_fail (q l f t : Int) : Calls Tryz.prog 23 #[.iface 100 (.agg #[.int .i64 p, .bool j, .int .u8 h, .slice A n c]), .iface 97 (.agg #[.int .i64 q, .int .i64 l, .int .u8 f, .int .u8 t])] w fun e w' => MeetQ (.part p j h a b) (.fail q l f t) w e w' := by
  unfold MeetQ
  rw [meet_pf_eq]
  have a1 := tPF (.agg #[.int .i64 p, .bool j, .int .u8 h, .slice A n c])
  have a2 := tPP (.agg #[.int .i64 p, .bool j, .int .u8 h, .slice A n c])
  have a3 := tFF (.agg #[.int .i64 q, .int .i64 l, .int .u8 f, .int .u8 t])
  unfold zFail at a1
  have hcb := fun W => cBgF W q l f t
  obtain ⟨qb, hqb⟩ : ∃ x, (q != 0) = x := ⟨_, rfl⟩
  rw [hqb] at hcb ⊢
  have HCB := Lib.hid hcb
  clear hcb hqb
  go_enter Tryz.func23, Tryz.ntmps23
  go_upto_region 10 with fail
  obtain ⟨W, hW⟩ : ∃ W, ((w.alloc (.cells #[.int .i64 p, .bool j, .int .u8 h, .slice A n c] 100)).alloc (.cells #[.int .i64 q, .int .i64 l, .int .u8 f, .int .u8 t] 97)) = W := ⟨_, rfl⟩
  rw [hW]
  have hb : Below w.heap.size w W := by rw [← hW]; exact bal (bal b0 _) _
  have hx : Blk W w.heap.size 100 #[.int .i64 p, .bool j, .int .u8 h, .slice A n c] := by rw [← hW]; exact (Blk.new w _ _).alloc _
  have hy : Blk W (w.heap.size + 1) 97 #[.int .i64 q, .int .i64 l, .int .u8 f, .int .u8 t] := by
    rw [← hW]
    have := Blk.new (w.alloc (.cells #[.int .i64 p, .bool j, .int .u8 h, .slice A n c] 100)) 97 #[.int .i64 q, .int .i64 l, .int .u8 f, .int .u8 t]
    rwa [World.size_alloc] at this
  clear hW a1 a2 a3
  have HK := Lib.hid (show ∀ W', Below W.heap.size W W' → (Below W.heap.size W W' ∧ W'.cell? ⟨w.heap.size, 1, none⟩ = some (.bool j) ∧ W'.cell? ⟨w.heap.size, 2, none⟩ = some (.int .u8 h) ∧
    W'.cell? ⟨w.heap.size + 1, 0, none⟩ = some (.int .i64 q) ∧ W'.cell? ⟨w.heap.size + 1, 1, none⟩ = some (.int .i64 l) ∧ W'.cell? ⟨w.heap.size + 1, 2, none⟩ = some (.int .u8 f) ∧ W'.cell? ⟨w.heap.size + 1, 3, none⟩ = some (.int .u8 t)) from fun W' hb' =>
      ⟨hb', ((hx.below hb' hx.lt).cell 1).trans rfl, ((hx.below hb' hx.lt).cell 2).trans rfl, ((hy.below hb' hy.lt).cell 0).trans rfl, ((hy.below hb' hy.lt).cell 1).trans rfl, ((hy.below hb' hy.lt).cell 2).trans rfl, ((hy.below hb' hy.lt).cell 3).trans rfl⟩)
  have HB := Lib.hid hb
  clear hx hy hb
  obtain ⟨_, c1, c2, d0, d1, d2, d3⟩ := HK.out W b0
  go_cut [4] from 24 to 40 (fun r wx => r = .bool ((j == qb) && (j || h == f)) ∧ Below W.heap.size W wx)
  case first =>
    cases j <;> cases qb
    · skip
      refine wp_region_held_drew (S := (fun W' => Below W.heap.size W W' ∧ W'.cell? ⟨w.heap.size, 1, none⟩ = some (.bool false) ∧ W'.cell? ⟨w.heap.size, 2, none⟩ = some (.int .u8 h) ∧ W'.cell? ⟨w.heap.size + 1, 0, none⟩ = some (.int .i64 q) ∧ W'.cell? ⟨w.heap.size + 1, 1, none⟩ = some (.int .i64 l) ∧ W'.cell? ⟨w.heap.size + 1, 2, none⟩ = some (.int .u8 f) ∧ W'.cell? ⟨w.heap.size + 1, 3, none⟩ = some (.int .u8 t))) (by kernel_rfl) ?ss1 (fun hHeld => ?rr1)
      case ss1 => (try dsimp only); exact HK.out _ (Below.refl _ _).drew
      refine wpAnyH_take (i := 0) (oi := ⟨some 24, _, _, _, _, _⟩) (v := ?vv2) rfl (by kernel_rfl) (by kernel_rfl) (by kernel_rfl) (fun _ _ _ h => h) (Or.inl ⟨by rfl, ?yy2⟩) (by assumption) ?rr2
      case yy2 => (intro wq hSw; (try dsimp only at hSw); go_simp; try with_reducible rfl)
      try simp only [Act.put, List.setIfInBounds_toArray, List.set_cons_zero, List.set_cons_succ]
      refine wpAnyH_take (i := 1) (oi := ⟨some 25, _, _, _, _, _⟩) (v := ?vv3) rfl (by kernel_rfl) (by kernel_rfl) (by kernel_rfl) (fun _ _ _ h => h) (Or.inl ⟨by rfl, ?yy3⟩) (by assumption) ?rr3
      case yy3 => (intro wq hSw; (try dsimp only at hSw); go_simp; try with_reducible rfl)
      try simp only [Act.put, List.setIfInBounds_toArray, List.set_cons_zero, List.set_cons_succ]
      refine wpAnyH_take (i := 2) (oi := ⟨some 26, _, _, _, _, _⟩) (v := ?vv4) rfl (by kernel_rfl) (by kernel_rfl) (by kernel_rfl) (fun _ _ _ h => h) (Or.inl ⟨by rfl, ?yy4⟩) (by assumption) ?rr4
      case yy4 => (intro wq hSw; (try dsimp only at hSw); go_simp; try with_reducible rfl)
      try simp only [Act.put, List.setIfInBounds_toArray, List.set_cons_zero, List.set_cons_succ]
      refine wpAnyH_ready (rs := [3]) (by kernel_rfl) (by simp) ?_
      refine AllReadyH.cons (o := ⟨some 27, _, _, _, _, _⟩) rfl (fun K hK => ?_) AllReadyH.nil
      go_simp
      ((refine (HCB.out _).mono ?_); rintro e w1 ⟨rfl, hb1⟩)
      refine hK.out _ _ ?ss5 (fun hHeld2 => ?rr5)
      case ss5 => (try dsimp only); exact HK.out _ (bl (Below.refl _ _).drew hb1)
      clear hK K
      clear hHeld
      have hHeld := hHeld2
      clear hHeld2
      try simp only [Act.put, List.setIfInBounds_toArray, List.set_cons_zero, List.set_cons_succ]
      refine wpAnyH_take (i := 4) (oi := ⟨some 28, _, _, _, _, _⟩) (v := ?vv6) rfl (by kernel_rfl) (by kernel_rfl) (by kernel_rfl) (fun _ _ _ h => h) (Or.inl ⟨by rfl, ?yy6⟩) (by assumption) ?rr6
      case yy6 => (intro wq hSw; (try dsimp only at hSw); go_simp; try with_reducible rfl)
      try simp only [Act.put, List.setIfInBounds_toArray, List.set_cons_zero, List.set_cons_succ]
      refine wpAnyH_take (i := 5) (oi := ⟨some 29, _, _, _, _, _⟩) (v := ?vv7) rfl (by kernel_rfl) (by kernel_rfl) (by kernel_rfl) (fun _ _ _ h => h) (Or.inl ⟨by rfl, ?yy7⟩) (by assumption) ?rr7
      case yy7 => (intro wq hSw; (try dsimp only at hSw); go_simp; try with_reducible rfl)
      try simp only [Act.put, List.setIfInBounds_toArray, List.set_cons_zero, List.set_cons_succ]
      refine wpAnyH_take (i := 6) (oi := ⟨some 30, _, _, _, _, _⟩) (v := ?vv8) rfl (by kernel_rfl) (by kernel_rfl) (by kernel_rfl) (fun _ _ _ h => h) (Or.inl ⟨by rfl, ?yy8⟩) (by assumption) ?rr8
      case yy8 => (intro wq hSw; (try dsimp only at hSw); go_simp; try with_reducible rfl)
      try simp only [Act.put, List.setIfInBounds_toArray, List.set_cons_zero, List.set_cons_succ]
      refine wpAnyH_take (i := 7) (oi := ⟨some 31, _, _, _, _, _⟩) (v := ?vv9) rfl (by kernel_rfl) (by kernel_rfl) (by kernel_rfl) (fun _ _ _ h => h) (Or.inl ⟨by rfl, ?yy9⟩) (by assumption) ?rr9
      case yy9 => (intro wq hSw; (try dsimp only at hSw); go_simp; try with_reducible rfl)
      try simp only [Act.put, List.setIfInBounds_toArray, List.set_cons_zero, List.set_cons_succ]
      refine wpAnyH_take (i := 8) (oi := ⟨some 32, _, _, _, _, _⟩) (v := ?vv10) rfl (by kernel_rfl) (by kernel_rfl) (by kernel_rfl) (fun _ _ _ h => h) (Or.inl ⟨by rfl, ?yy10⟩) (by assumption) ?rr10
      case yy10 => (intro wq hSw; (try dsimp only at hSw); go_simp; try with_reducible rfl)
      try simp only [Act.put, List.setIfInBounds_toArray, List.set_cons_zero, List.set_cons_succ]
      refine wpAnyH_take (i := 9) (oi := ⟨some 33, _, _, _, _, _⟩) (v := ?vv11) rfl (by kernel_rfl) (by kernel_rfl) (by kernel_rfl) (fun _ _ _ h => h) (Or.inl ⟨by rfl, ?yy11⟩) (by assumption) ?rr11
      case yy11 => (intro wq hSw; (try dsimp only at hSw); go_simp; try with_reducible rfl)
      try simp only [Act.put, List.setIfInBounds_toArray, List.set_cons_zero, List.set_cons_succ]
      refine wpAnyH_take (i := 10) (oi := ⟨some 34, _, _, _, _, _⟩) (v := ?vv12) rfl (by kernel_rfl) (by kernel_rfl) (by kernel_rfl) (fun _ _ _ h => h) (Or.inl ⟨by rfl, ?yy12⟩) (by assumption) ?rr12
      case yy12 => (intro wq hSw; (try dsimp only at hSw); go_simp; try with_reducible rfl)
      try simp only [Act.put, List.setIfInBounds_toArray, List.set_cons_zero, List.set_cons_succ]
      refine wpAnyH_take (i := 11) (oi := ⟨some 35, _, _, _, _, _⟩) (v := ?vv13) rfl (by kernel_rfl) (by kernel_rfl) (by kernel_rfl) (fun _ _ _ h => h) (Or.inl ⟨by rfl, ?yy13⟩) (by assumption) ?rr13
      case yy13 => (intro wq hSw; (try dsimp only at hSw); go_simp; try with_reducible rfl)
      try simp only [Act.put, List.setIfInBounds_toArray, List.set_cons_zero, List.set_cons_succ]
      refine wpAnyH_take (i := 12) (oi := ⟨some 36, _, _, _, _, _⟩) (v := ?vv14) rfl (by kernel_rfl) (by kernel_rfl) (by kernel_rfl) (fun _ _ _ h => h) (Or.inl ⟨by rfl, ?yy14⟩) (by assumption) ?rr14
      case yy14 => (intro wq hSw; (try dsimp only at hSw); go_simp; try with_reducible rfl)
      try simp only [Act.put, List.setIfInBounds_toArray, List.set_cons_zero, List.set_cons_succ]
      refine wpAnyH_take (i := 13) (oi := ⟨some 37, _, _, _, _, _⟩) (v := ?vv15) rfl (by kernel_rfl) (by kernel_rfl) (by kernel_rfl) (fun _ _ _ h => h) (Or.inl ⟨by rfl, ?yy15⟩) (by assumption) ?rr15
      case yy15 => (intro wq hSw; (try dsimp only at hSw); go_simp; try with_reducible rfl)
      try simp only [Act.put, List.setIfInBounds_toArray, List.set_cons_zero, List.set_cons_succ]
      refine wpAnyH_take (i := 14) (oi := ⟨some 38, _, _, _, _, _⟩) (v := ?vv16) rfl (by kernel_rfl) (by kernel_rfl) (by kernel_rfl) (fun _ _ _ h => h) (Or.inl ⟨by rfl, ?yy16⟩) (by assumption) ?rr16
      case yy16 => (intro wq hSw; (try dsimp only at hSw); go_simp; try with_reducible rfl)
      try simp only [Act.put, List.setIfInBounds_toArray, List.set_cons_zero, List.set_cons_succ]
      refine wpAnyH_take (i := 15) (oi := ⟨some 39, _, _, _, _, _⟩) (v := ?vv17) rfl (by kernel_rfl) (by kernel_rfl) (by kernel_rfl) (fun _ _ _ h => h) (Or.inl ⟨by rfl, ?yy17⟩) (by assumption) ?rr17
      case yy17 => (intro wq hSw; (try dsimp only at hSw); go_simp; try with_reducible rfl)
      try simp only [Act.put, List.setIfInBounds_toArray, List.set_cons_zero, List.set_cons_succ]
      refine wpAnyH_take (i := 16) (oi := ⟨some 4, _, _, _, _, _⟩) (v := ?vv18) rfl (by kernel_rfl) (by kernel_rfl) (by kernel_rfl) (fun _ _ _ h => h) (Or.inl ⟨by rfl, ?yy18⟩) (by assumption) ?rr18
      case yy18 => (intro wq hSw; (try dsimp only at hSw); go_simp; try with_reducible rfl)
      try simp only [Act.put, List.setIfInBounds_toArray, List.set_cons_zero, List.set_cons_succ]
      refine wpAnyH_done (by kernel_rfl) ?_ _
      go_wp2_with fail
      go_meet
      case rel => exact ⟨rfl, hHeld.1⟩
    · skip
      refine wp_region_held_drew (S := (fun W' => Below W.heap.size W W' ∧ W'.cell? ⟨w.heap.size, 1, none⟩ = some (.bool false) ∧ W'.cell? ⟨w.heap.size, 2, none⟩ = some (.int .u8 h) ∧ W'.cell? ⟨w.heap.size + 1, 0, none⟩ = some (.int .i64 q) ∧ W'.cell? ⟨w.heap.size + 1, 1, none⟩ = some (.int .i64 l) ∧ W'.cell? ⟨w.heap.size + 1, 2, none⟩ = some (.int .u8 f) ∧ W'.cell? ⟨w.heap.size + 1, 3, none⟩ = some (.int .u8 t))) (by kernel_rfl) ?ss19 (fun hHeld => ?rr19)
      case ss19 => (try dsimp only); exact HK.out _ (Below.refl _ _).drew
      refine wpAnyH_take (i := 0) (oi := ⟨some 24, _, _, _, _, _⟩) (v := ?vv20) rfl (by kernel_rfl) (by kernel_rfl) (by kernel_rfl) (fun _ _ _ h => h) (Or.inl ⟨by rfl, ?yy20⟩) (by assumption) ?rr20
      case yy20 => (intro wq hSw; (try dsimp only at hSw); go_simp; try with_reducible rfl)
      try simp only [Act.put, List.setIfInBounds_toArray, List.set_cons_zero, List.set_cons_succ]
      refine wpAnyH_take (i := 1) (oi := ⟨some 25, _, _, _, _, _⟩) (v := ?vv21) rfl (by kernel_rfl) (by kernel_rfl) (by kernel_rfl) (fun _ _ _ h => h) (Or.inl ⟨by rfl, ?yy21⟩) (by assumption) ?rr21
      case yy21 => (intro wq hSw; (try dsimp only at hSw); go_simp; try with_reducible rfl)
      try simp only [Act.put, List.setIfInBounds_toArray, List.set_cons_zero, List.set_cons_succ]
      refine wpAnyH_take (i := 2) (oi := ⟨some 26, _, _, _, _, _⟩) (v := ?vv22) rfl (by kernel_rfl) (by kernel_rfl) (by kernel_rfl) (fun _ _ _ h => h) (Or.inl ⟨by rfl, ?yy22⟩) (by assumption) ?rr22
      case yy22 => (intro wq hSw; (try dsimp only at hSw); go_simp; try with_reducible rfl)
      try simp only [Act.put, List.setIfInBounds_toArray, List.set_cons_zero, List.set_cons_succ]
      refine wpAnyH_ready (rs := [3]) (by kernel_rfl) (by simp) ?_
      refine AllReadyH.cons (o := ⟨some 27, _, _, _, _, _⟩) rfl (fun K hK => ?_) AllReadyH.nil
      go_simp
      ((refine (HCB.out _).mono ?_); rintro e w1 ⟨rfl, hb1⟩)
      refine hK.out _ _ ?ss23 (fun hHeld2 => ?rr23)
      case ss23 => (try dsimp only); exact HK.out _ (bl (Below.refl _ _).drew hb1)
      clear hK K
      clear hHeld
      have hHeld := hHeld2
      clear hHeld2
      try simp only [Act.put, List.setIfInBounds_toArray, List.set_cons_zero, List.set_cons_succ]
      refine wpAnyH_take (i := 4) (oi := ⟨some 28, _, _, _, _, _⟩) (v := ?vv24) rfl (by kernel_rfl) (by kernel_rfl) (by kernel_rfl) (fun _ _ _ h => h) (Or.inl ⟨by rfl, ?yy24⟩) (by assumption) ?rr24
      case yy24 => (intro wq hSw; (try dsimp only at hSw); go_simp; try with_reducible rfl)
      try simp only [Act.put, List.setIfInBounds_toArray, List.set_cons_zero, List.set_cons_succ]
      refine wpAnyH_take (i := 5) (oi := ⟨some 29, _, _, _, _, _⟩) (v := ?vv25) rfl (by kernel_rfl) (by kernel_rfl) (by kernel_rfl) (fun _ _ _ h => h) (Or.inl ⟨by rfl, ?yy25⟩) (by assumption) ?rr25
      case yy25 => (intro wq hSw; (try dsimp only at hSw); go_simp; try with_reducible rfl)
      try simp only [Act.put, List.setIfInBounds_toArray, List.set_cons_zero, List.set_cons_succ]
      refine wpAnyH_take (i := 6) (oi := ⟨some 30, _, _, _, _, _⟩) (v := undef) rfl (by kernel_rfl) (by kernel_rfl) (by kernel_rfl) (fun _ _ _ h => h) (Or.inr ⟨by rfl, rfl⟩) (by assumption) ?rr26
      try simp only [Act.put, List.setIfInBounds_toArray, List.set_cons_zero, List.set_cons_succ]
      refine wpAnyH_take (i := 7) (oi := ⟨some 31, _, _, _, _, _⟩) (v := undef) rfl (by kernel_rfl) (by kernel_rfl) (by kernel_rfl) (fun _ _ _ h => h) (Or.inr ⟨by rfl, rfl⟩) (by assumption) ?rr27
      try simp only [Act.put, List.setIfInBounds_toArray, List.set_cons_zero, List.set_cons_succ]
      refine wpAnyH_take (i := 8) (oi := ⟨some 32, _, _, _, _, _⟩) (v := undef) rfl (by kernel_rfl) (by kernel_rfl) (by kernel_rfl) (fun _ _ _ h => h) (Or.inr ⟨by rfl, rfl⟩) (by assumption) ?rr28
      try simp only [Act.put, List.setIfInBounds_toArray, List.set_cons_zero, List.set_cons_succ]
      refine wpAnyH_take (i := 9) (oi := ⟨some 33, _, _, _, _, _⟩) (v := undef) rfl (by kernel_rfl) (by kernel_rfl) (by kernel_rfl) (fun _ _ _ h => h) (Or.inr ⟨by rfl, rfl⟩) (by assumption) ?rr29
      try simp only [Act.put, List.setIfInBounds_toArray, List.set_cons_zero, List.set_cons_succ]
      refine wpAnyH_take (i := 10) (oi := ⟨some 34, _, _, _, _, _⟩) (v := undef) rfl (by kernel_rfl) (by kernel_rfl) (by kernel_rfl) (fun _ _ _ h => h) (Or.inr ⟨by rfl, rfl⟩) (by assumption) ?rr30
      try simp only [Act.put, List.setIfInBounds_toArray, List.set_cons_zero, List.set_cons_succ]
      refine wpAnyH_take (i := 11) (oi := ⟨some 35, _, _, _, _, _⟩) (v := undef) rfl (by kernel_rfl) (by kernel_rfl) (by kernel_rfl) (fun _ _ _ h => h) (Or.inr ⟨by rfl, rfl⟩) (by assumption) ?rr31
      try simp only [Act.put, List.setIfInBounds_toArray, List.set_cons_zero, List.set_cons_succ]
      refine wpAnyH_take (i := 12) (oi := ⟨some 36, _, _, _, _, _⟩) (v := undef) rfl (by kernel_rfl) (by kernel_rfl) (by kernel_rfl) (fun _ _ _ h => h) (Or.inr ⟨by rfl, rfl⟩) (by assumption) ?rr32
      try simp only [Act.put, List.setIfInBounds_toArray, List.set_cons_zero, List.set_cons_succ]
      refine wpAnyH_take (i := 13) (oi := ⟨some 37, _, _, _, _, _⟩) (v := undef) rfl (by kernel_rfl) (by kernel_rfl) (by kernel_rfl) (fun _ _ _ h => h) (Or.inr ⟨by rfl, rfl⟩) (by assumption) ?rr33
      try simp only [Act.put, List.setIfInBounds_toArray, List.set_cons_zero, List.set_cons_succ]
      refine wpAnyH_take (i := 14) (oi := ⟨some 38, _, _, _, _, _⟩) (v := undef) rfl (by kernel_rfl) (by kernel_rfl) (by kernel_rfl) (fun _ _ _ h => h) (Or.inr ⟨by rfl, rfl⟩) (by assumption) ?rr34
      try simp only [Act.put, List.setIfInBounds_toArray, List.set_cons_zero, List.set_cons_succ]
      refine wpAnyH_take (i := 15) (oi := ⟨some 39, _, _, _, _, _⟩) (v := ?vv35) rfl (by kernel_rfl) (by kernel_rfl) (by kernel_rfl) (fun _ _ _ h => h) (Or.inl ⟨by rfl, ?yy35⟩) (by assumption) ?rr35
      case yy35 => (intro wq hSw; (try dsimp only at hSw); go_simp; try with_reducible rfl)
      try simp only [Act.put, List.setIfInBounds_toArray, List.set_cons_zero, List.set_cons_succ]
      refine wpAnyH_take (i := 16) (oi := ⟨some 4, _, _, _, _, _⟩) (v := ?vv36) rfl (by kernel_rfl) (by kernel_rfl) (by kernel_rfl) (fun _ _ _ h => h) (Or.inl ⟨by rfl, ?yy36⟩) (by assumption) ?rr36
      case yy36 => (intro wq hSw; (try dsimp only at hSw); go_simp; try with_reducible rfl)
      try simp only [Act.put, List.setIfInBounds_toArray, List.set_cons_zero, List.set_cons_succ]
      refine wpAnyH_done (by kernel_rfl) ?_ _
      go_wp2_with fail
      go_meet
      case rel => exact ⟨rfl, hHeld.1⟩
    · skip
      refine wp_region_held_drew (S := (fun W' => Below W.heap.size W W' ∧ W'.cell? ⟨w.heap.size, 1, none⟩ = some (.bool true) ∧ W'.cell? ⟨w.heap.size, 2, none⟩ = some (.int .u8 h) ∧ W'.cell? ⟨w.heap.size + 1, 0, none⟩ = some (.int .i64 q) ∧ W'.cell? ⟨w.heap.size + 1, 1, none⟩ = some (.int .i64 l) ∧ W'.cell? ⟨w.heap.size + 1, 2, none⟩ = some (.int .u8 f) ∧ W'.cell? ⟨w.heap.size + 1, 3, none⟩ = some (.int .u8 t))) (by kernel_rfl) ?ss37 (fun hHeld => ?rr37)
      case ss37 => (try dsimp only); exact HK.out _ (Below.refl _ _).drew
      refine wpAnyH_take (i := 0) (oi := ⟨some 24, _, _, _, _, _⟩) (v := ?vv38) rfl (by kernel_rfl) (by kernel_rfl) (by kernel_rfl) (fun _ _ _ h => h) (Or.inl ⟨by rfl, ?yy38⟩) (by assumption) ?rr38
      case yy38 => (intro wq hSw; (try dsimp only at hSw); go_simp; try with_reducible rfl)
      try simp only [Act.put, List.setIfInBounds_toArray, List.set_cons_zero, List.set_cons_succ]
      refine wpAnyH_take (i := 1) (oi := ⟨some 25, _, _, _, _, _⟩) (v := ?vv39) rfl (by kernel_rfl) (by kernel_rfl) (by kernel_rfl) (fun _ _ _ h => h) (Or.inl ⟨by rfl, ?yy39⟩) (by assumption) ?rr39
      case yy39 => (intro wq hSw; (try dsimp only at hSw); go_simp; try with_reducible rfl)
      try simp only [Act.put, List.setIfInBounds_toArray, List.set_cons_zero, List.set_cons_succ]
      refine wpAnyH_take (i := 2) (oi := ⟨some 26, _, _, _, _, _⟩) (v := ?vv40) rfl (by kernel_rfl) (by kernel_rfl) (by kernel_rfl) (fun _ _ _ h => h) (Or.inl ⟨by rfl, ?yy40⟩) (by assumption) ?rr40
      case yy40 => (intro wq hSw; (try dsimp only at hSw); go_simp; try with_reducible rfl)
      try simp only [Act.put, List.setIfInBounds_toArray, List.set_cons_zero, List.set_cons_succ]
      refine wpAnyH_ready (rs := [3]) (by kernel_rfl) (by simp) ?_
      refine AllReadyH.cons (o := ⟨some 27, _, _, _, _, _⟩) rfl (fun K hK => ?_) AllReadyH.nil
      go_simp
      ((refine (HCB.out _).mono ?_); rintro e w1 ⟨rfl, hb1⟩)
      refine hK.out _ _ ?ss41 (fun hHeld2 => ?rr41)
      case ss41 => (try dsimp only); exact HK.out _ (bl (Below.refl _ _).drew hb1)
      clear hK K
      clear hHeld
      have hHeld := hHeld2
      clear hHeld2
      try simp only [Act.put, List.setIfInBounds_toArray, List.set_cons_zero, List.set_cons_succ]
      refine wpAnyH_take (i := 4) (oi := ⟨some 28, _, _, _, _, _⟩) (v := ?vv42) rfl (by kernel_rfl) (by kernel_rfl) (by kernel_rfl) (fun _ _ _ h => h) (Or.inl ⟨by rfl, ?yy42⟩) (by assumption) ?rr42
      case yy42 => (intro wq hSw; (try dsimp only at hSw); go_simp; try with_reducible rfl)
      try simp only [Act.put, List.setIfInBounds_toArray, List.set_cons_zero, List.set_cons_succ]
      refine wpAnyH_take (i := 5) (oi := ⟨some 29, _, _, _, _, _⟩) (v := ?vv43) rfl (by kernel_rfl) (by kernel_rfl) (by kernel_rfl) (fun _ _ _ h => h) (Or.inl ⟨by rfl, ?yy43⟩) (by assumption) ?rr43
      case yy43 => (intro wq hSw; (try dsimp only at hSw); go_simp; try with_reducible rfl)
      try simp only [Act.put, List.setIfInBounds_toArray, List.set_cons_zero, List.set_cons_succ]
      refine wpAnyH_take (i := 6) (oi := ⟨some 30, _, _, _, _, _⟩) (v := undef) rfl (by kernel_rfl) (by kernel_rfl) (by kernel_rfl) (fun _ _ _ h => h) (Or.inr ⟨by rfl, rfl⟩) (by assumption) ?rr44
      try simp only [Act.put, List.setIfInBounds_toArray, List.set_cons_zero, List.set_cons_succ]
      refine wpAnyH_take (i := 7) (oi := ⟨some 31, _, _, _, _, _⟩) (v := undef) rfl (by kernel_rfl) (by kernel_rfl) (by kernel_rfl) (fun _ _ _ h => h) (Or.inr ⟨by rfl, rfl⟩) (by assumption) ?rr45
      try simp only [Act.put, List.setIfInBounds_toArray, List.set_cons_zero, List.set_cons_succ]
      refine wpAnyH_take (i := 8) (oi := ⟨some 32, _, _, _, _, _⟩) (v := undef) rfl (by kernel_rfl) (by kernel_rfl) (by kernel_rfl) (fun _ _ _ h => h) (Or.inr ⟨by rfl, rfl⟩) (by assumption) ?rr46
      try simp only [Act.put, List.setIfInBounds_toArray, List.set_cons_zero, List.set_cons_succ]
      refine wpAnyH_take (i := 9) (oi := ⟨some 33, _, _, _, _, _⟩) (v := undef) rfl (by kernel_rfl) (by kernel_rfl) (by kernel_rfl) (fun _ _ _ h => h) (Or.inr ⟨by rfl, rfl⟩) (by assumption) ?rr47
      try simp only [Act.put, List.setIfInBounds_toArray, List.set_cons_zero, List.set_cons_succ]
      refine wpAnyH_take (i := 10) (oi := ⟨some 34, _, _, _, _, _⟩) (v := undef) rfl (by kernel_rfl) (by kernel_rfl) (by kernel_rfl) (fun _ _ _ h => h) (Or.inr ⟨by rfl, rfl⟩) (by assumption) ?rr48
      try simp only [Act.put, List.setIfInBounds_toArray, List.set_cons_zero, List.set_cons_succ]
      refine wpAnyH_take (i := 11) (oi := ⟨some 35, _, _, _, _, _⟩) (v := undef) rfl (by kernel_rfl) (by kernel_rfl) (by kernel_rfl) (fun _ _ _ h => h) (Or.inr ⟨by rfl, rfl⟩) (by assumption) ?rr49
      try simp only [Act.put, List.setIfInBounds_toArray, List.set_cons_zero, List.set_cons_succ]
      refine wpAnyH_take (i := 12) (oi := ⟨some 36, _, _, _, _, _⟩) (v := undef) rfl (by kernel_rfl) (by kernel_rfl) (by kernel_rfl) (fun _ _ _ h => h) (Or.inr ⟨by rfl, rfl⟩) (by assumption) ?rr50
      try simp only [Act.put, List.setIfInBounds_toArray, List.set_cons_zero, List.set_cons_succ]
      refine wpAnyH_take (i := 13) (oi := ⟨some 37, _, _, _, _, _⟩) (v := undef) rfl (by kernel_rfl) (by kernel_rfl) (by kernel_rfl) (fun _ _ _ h => h) (Or.inr ⟨by rfl, rfl⟩) (by assumption) ?rr51
      try simp only [Act.put, List.setIfInBounds_toArray, List.set_cons_zero, List.set_cons_succ]
      refine wpAnyH_take (i := 14) (oi := ⟨some 38, _, _, _, _, _⟩) (v := undef) rfl (by kernel_rfl) (by kernel_rfl) (by kernel_rfl) (fun _ _ _ h => h) (Or.inr ⟨by rfl, rfl⟩) (by assumption) ?rr52
      try simp only [Act.put, List.setIfInBounds_toArray, List.set_cons_zero, List.set_cons_succ]
      refine wpAnyH_take (i := 15) (oi := ⟨some 39, _, _, _, _, _⟩) (v := ?vv53) rfl (by kernel_rfl) (by kernel_rfl) (by kernel_rfl) (fun _ _ _ h => h) (Or.inl ⟨by rfl, ?yy53⟩) (by assumption) ?rr53
      case yy53 => (intro wq hSw; (try dsimp only at hSw); go_simp; try with_reducible rfl)
      try simp only [Act.put, List.setIfInBounds_toArray, List.set_cons_zero, List.set_cons_succ]
      refine wpAnyH_take (i := 16) (oi := ⟨some 4, _, _, _, _, _⟩) (v := ?vv54) rfl (by kernel_rfl) (by kernel_rfl) (by kernel_rfl) (fun _ _ _ h => h) (Or.inl ⟨by rfl, ?yy54⟩) (by assumption) ?rr54
      case yy54 => (intro wq hSw; (try dsimp only at hSw); go_simp; try with_reducible rfl)
      try simp only [Act.put, List.setIfInBounds_toArray, List.set_cons_zero, List.set_cons_succ]
      refine wpAnyH_done (by kernel_rfl) ?_ _
      go_wp2_with fail
      go_meet
      case rel => exact ⟨rfl, hHeld.1⟩
    · skip
      refine wp_region_held_drew (S := (fun W' => Below W.heap.size W W' ∧ W'.cell? ⟨w.heap.size, 1, none⟩ = some (.bool true) ∧ W'.cell? ⟨w.heap.size, 2, none⟩ = some (.int .u8 h) ∧ W'.cell? ⟨w.heap.size + 1, 0, none⟩ = some (.int .i64 q) ∧ W'.cell? ⟨w.heap.size + 1, 1, none⟩ = some (.int .i64 l) ∧ W'.cell? ⟨w.heap.size + 1, 2, none⟩ = some (.int .u8 f) ∧ W'.cell? ⟨w.heap.size + 1, 3, none⟩ = some (.int .u8 t))) (by kernel_rfl) ?ss55 (fun hHeld => ?rr55)
      case ss55 => (try dsimp only); exact HK.out _ (Below.refl _ _).drew
      refine wpAnyH_take (i := 0) (oi := ⟨some 24, _, _, _, _, _⟩) (v := ?vv56) rfl (by kernel_rfl) (by kernel_rfl) (by kernel_rfl) (fun _ _ _ h => h) (Or.inl ⟨by rfl, ?yy56⟩) (by assumption) ?rr56
      case yy56 => (intro wq hSw; (try dsimp only at hSw); go_simp; try with_reducible rfl)
      try simp only [Act.put, List.setIfInBounds_toArray, List.set_cons_zero, List.set_cons_succ]
      refine wpAnyH_take (i := 1) (oi := ⟨some 25, _, _, _, _, _⟩) (v := ?vv57) rfl (by kernel_rfl) (by kernel_rfl) (by kernel_rfl) (fun _ _ _ h => h) (Or.inl ⟨by rfl, ?yy57⟩) (by assumption) ?rr57
      case yy57 => (intro wq hSw; (try dsimp only at hSw); go_simp; try with_reducible rfl)
      try simp only [Act.put, List.setIfInBounds_toArray, List.set_cons_zero, List.set_cons_succ]
      refine wpAnyH_take (i := 2) (oi := ⟨some 26, _, _, _, _, _⟩) (v := ?vv58) rfl (by kernel_rfl) (by kernel_rfl) (by kernel_rfl) (fun _ _ _ h => h) (Or.inl ⟨by rfl, ?yy58⟩) (by assumption) ?rr58
      case yy58 => (intro wq hSw; (try dsimp only at hSw); go_simp; try with_reducible rfl)
      try simp only [Act.put, List.setIfInBounds_toArray, List.set_cons_zero, List.set_cons_succ]
      refine wpAnyH_ready (rs := [3]) (by kernel_rfl) (by simp) ?_
      refine AllReadyH.cons (o := ⟨some 27, _, _, _, _, _⟩) rfl (fun K hK => ?_) AllReadyH.nil
      go_simp
      ((refine (HCB.out _).mono ?_); rintro e w1 ⟨rfl, hb1⟩)
      refine hK.out _ _ ?ss59 (fun hHeld2 => ?rr59)
      case ss59 => (try dsimp only); exact HK.out _ (bl (Below.refl _ _).drew hb1)
      clear hK K
      clear hHeld
      have hHeld := hHeld2
      clear hHeld2
      try simp only [Act.put, List.setIfInBounds_toArray, List.set_cons_zero, List.set_cons_succ]
      refine wpAnyH_take (i := 4) (oi := ⟨some 28, _, _, _, _, _⟩) (v := ?vv60) rfl (by kernel_rfl) (by kernel_rfl) (by kernel_rfl) (fun _ _ _ h => h) (Or.inl ⟨by rfl, ?yy60⟩) (by assumption) ?rr60
      case yy60 => (intro wq hSw; (try dsimp only at hSw); go_simp; try with_reducible rfl)
      try simp only [Act.put, List.setIfInBounds_toArray, List.set_cons_zero, List.set_cons_succ]
      refine wpAnyH_take (i := 5) (oi := ⟨some 29, _, _, _, _, _⟩) (v := ?vv61) rfl (by kernel_rfl) (by kernel_rfl) (by kernel_rfl) (fun _ _ _ h => h) (Or.inl ⟨by rfl, ?yy61⟩) (by assumption) ?rr61
      case yy61 => (intro wq hSw; (try dsimp only at hSw); go_simp; try with_reducible rfl)
      try simp only [Act.put, List.setIfInBounds_toArray, List.set_cons_zero, List.set_cons_succ]
      refine wpAnyH_take (i := 6) (oi := ⟨some 30, _, _, _, _, _⟩) (v := ?vv62) rfl (by kernel_rfl) (by kernel_rfl) (by kernel_rfl) (fun _ _ _ h => h) (Or.inl ⟨by rfl, ?yy62⟩) (by assumption) ?rr62
      case yy62 => (intro wq hSw; (try dsimp only at hSw); go_simp; try with_reducible rfl)
      try simp only [Act.put, List.setIfInBounds_toArray, List.set_cons_zero, List.set_cons_succ]
      refine wpAnyH_take (i := 7) (oi := ⟨some 31, _, _, _, _, _⟩) (v := ?vv63) rfl (by kernel_rfl) (by kernel_rfl) (by kernel_rfl) (fun _ _ _ h => h) (Or.inl ⟨by rfl, ?yy63⟩) (by assumption) ?rr63
      case yy63 => (intro wq hSw; (try dsimp only at hSw); go_simp; try with_reducible rfl)
      try simp only [Act.put, List.setIfInBounds_toArray, List.set_cons_zero, List.set_cons_succ]
      refine wpAnyH_take (i := 8) (oi := ⟨some 32, _, _, _, _, _⟩) (v := ?vv64) rfl (by kernel_rfl) (by kernel_rfl) (by kernel_rfl) (fun _ _ _ h => h) (Or.inl ⟨by rfl, ?yy64⟩) (by assumption) ?rr64
      case yy64 => (intro wq hSw; (try dsimp only at hSw); go_simp; try with_reducible rfl)
      try simp only [Act.put, List.setIfInBounds_toArray, List.set_cons_zero, List.set_cons_succ]
      refine wpAnyH_take (i := 9) (oi := ⟨some 33, _, _, _, _, _⟩) (v := undef) rfl (by kernel_rfl) (by kernel_rfl) (by kernel_rfl) (fun _ _ _ h => h) (Or.inr ⟨by rfl, rfl⟩) (by assumption) ?rr65
      try simp only [Act.put, List.setIfInBounds_toArray, List.set_cons_zero, List.set_cons_succ]
      refine wpAnyH_take (i := 10) (oi := ⟨some 34, _, _, _, _, _⟩) (v := undef) rfl (by kernel_rfl) (by kernel_rfl) (by kernel_rfl) (fun _ _ _ h => h) (Or.inr ⟨by rfl, rfl⟩) (by assumption) ?rr66
      try simp only [Act.put, List.setIfInBounds_toArray, List.set_cons_zero, List.set_cons_succ]
      refine wpAnyH_take (i := 11) (oi := ⟨some 35, _, _, _, _, _⟩) (v := undef) rfl (by kernel_rfl) (by kernel_rfl) (by kernel_rfl) (fun _ _ _ h => h) (Or.inr ⟨by rfl, rfl⟩) (by assumption) ?rr67
      try simp only [Act.put, List.setIfInBounds_toArray, List.set_cons_zero, List.set_cons_succ]
      refine wpAnyH_take (i := 12) (oi := ⟨some 36, _, _, _, _, _⟩) (v := undef) rfl (by kernel_rfl) (by kernel_rfl) (by kernel_rfl) (fun _ _ _ h => h) (Or.inr ⟨by rfl, rfl⟩) (by assumption) ?rr68
      try simp only [Act.put, List.setIfInBounds_toArray, List.set_cons_zero, List.set_cons_succ]
      refine wpAnyH_take (i := 13) (oi := ⟨some 37, _, _, _, _, _⟩) (v := undef) rfl (by kernel_rfl) (by kernel_rfl) (by kernel_rfl) (fun _ _ _ h => h) (Or.inr ⟨by rfl, rfl⟩) (by assumption) ?rr69
      try simp only [Act.put, List.setIfInBounds_toArray, List.set_cons_zero, List.set_cons_succ]
      refine wpAnyH_take (i := 14) (oi := ⟨some 38, _, _, _, _, _⟩) (v := ?vv70) rfl (by kernel_rfl) (by kernel_rfl) (by kernel_rfl) (fun _ _ _ h => h) (Or.inl ⟨by rfl, ?yy70⟩) (by assumption) ?rr70
      case yy70 => (intro wq hSw; (try dsimp only at hSw); go_simp; try with_reducible rfl)
      try simp only [Act.put, List.setIfInBounds_toArray, List.set_cons_zero, List.set_cons_succ]
      refine wpAnyH_take (i := 15) (oi := ⟨some 39, _, _, _, _, _⟩) (v := ?vv71) rfl (by kernel_rfl) (by kernel_rfl) (by kernel_rfl) (fun _ _ _ h => h) (Or.inl ⟨by rfl, ?yy71⟩) (by assumption) ?rr71
      case yy71 => (intro wq hSw; (try dsimp only at hSw); go_simp; try with_reducible rfl)
      try simp only [Act.put, List.setIfInBounds_toArray, List.set_cons_zero, List.set_cons_succ]
      refine wpAnyH_take (i := 16) (oi := ⟨some 4, _, _, _, _, _⟩) (v := ?vv72) rfl (by kernel_rfl) (by kernel_rfl) (by kernel_rfl) (fun _ _ _ h => h) (Or.inl ⟨by rfl, ?yy72⟩) (by assumption) ?rr72
      case yy72 => (intro wq hSw; (try dsimp only at hSw); go_simp; try with_reducible rfl)
      try simp only [Act.put, List.setIfInBounds_toArray, List.set_cons_zero, List.set_cons_succ]
      refine wpAnyH_done (by kernel_rfl) ?_ _
      go_wp2_with fail
      go_meet
      case rel => exact ⟨rfl, hHeld.1⟩
  case rest =>
    obtain ⟨rfl, hbw⟩ := hcut
    go_wp2_with fail
    go_ret
    exact ⟨rfl, bl HB.out hbw⟩
end

theorem all_succ {P : Nat → Prop} {m : Nat} (h : ∀ x, x < m → P x) (hm : P m) : ∀ x, x < m + 1 → P x := fun x hx => by
  rcases Nat.lt_or_ge x m with h1 | h1
  · exact h x h1
  · obtain rfl : x = m := by omega
    exact hm

/-- What the loop over the kids wants to know of kid m: the values, and the contract of the call behind the turn. -/
def KidM (h : Int) (a b c d : Co) (m : Nat) (w : World) (e : Ending) (w' : World) : Prop := e = .returned (.bool (meetK h m (kidT a b m) (kidT c d m))) ∧ Below w.heap.size w w'

set_option maxRecDepth 100000 in
set_option maxHeartbeats 8000000 in
theorem meet_ppW (p : Int) (j : Bool) (h : Int) (a b : Co) (A : Option Addr) (n c : Nat) (q : Int) (i : Bool) (k : Int) (x2 y2 : Co) (A2 : Option Addr) (n2 c2 : Nat) (va vb va2 vb2 : Value) (C C2 : Nat → Prop) (w : World)
    (hs : okC (.part p j h a b)) (ht : okC (.part q i k x2 y2)) (hn : opsN h = n) (hn2 : opsN k = n2) (hc1 : n ≤ c) (hc2 : c ≤ maxLen) (hc3 : n2 ≤ c2) (hc4 : c2 ≤ maxLen)
    (hk : Kd w C A ([va, vb].take n)) (hva : VCo w C a va) (hvb : VCo w C b vb) (hk2 : Kd w C2 A2 ([va2, vb2].take n2)) (hva2 : VCo w C2 x2 va2) (hvb2 : VCo w C2 y2 vb2)
    (ih : ∀ m, h = k → ∀ v v2 W, VCo W C (kidT a b m) v → VCo W C2 (kidT x2 y2 m) v2 → Calls Tryz.prog 23 (if turnd h m = true then #[v2, v] else #[v, v2]) W fun e w' => KidM h a b x2 y2 m W e w') :
    Calls Tryz.prog 23 #[.iface 100 (.agg #[.int .i64 p, .bool j, .int .u8 h, .slice A n c]), .iface 100 (.agg #[.int .i64 q, .bool i, .int .u8 k, .slice A2 n2 c2])] w fun e w' => MeetQ (.part p j h a b) (.part q i k x2 y2) w e w' := by
  unfold MeetQ
  have a1 := tPF (.agg #[.int .i64 p, .bool j, .int .u8 h, .slice A n c])
  have a2 := tPP (.agg #[.int .i64 p, .bool j, .int .u8 h, .slice A n c])
  have a3 := tPF (.agg #[.int .i64 q, .bool i, .int .u8 k, .slice A2 n2 c2])
  have a4 := tPP (.agg #[.int .i64 q, .bool i, .int .u8 k, .slice A2 n2 c2])
  unfold zFail at a1 a3
  have hcb := fun W => cBgP W q i k A2 n2 c2
  have hmn := fun (hx : (j != (q != 0) || h != k) = true) => meet_pp_no (a := a) (b := b) (p := p) (i := i) (c := x2) (d := y2) hx
  have hmk : h = k → j = (q != 0) → (meetC (.part p j h a b) (.part q i k x2 y2) = true ↔ ∀ m, m < opsN h → meetK h m (kidT a b m) (kidT x2 y2 m) = true) := by rintro rfl hj; exact meet_kids hs ht hj
  obtain ⟨R, hR⟩ : ∃ R, meetC (.part p j h a b) (.part q i k x2 y2) = R := ⟨_, rfl⟩
  rw [hR] at hmn hmk ⊢
  obtain ⟨qb, hqb⟩ : ∃ x, (q != 0) = x := ⟨_, rfl⟩
  rw [hqb] at hcb hmn hmk
  have hnb : n ≤ 2 := by have := opsN_le h; omega
  have HCB := Lib.hid hcb
  have HMN := Lib.hid hmn
  have HMK := Lib.hid hmk
  have HIH := Lib.hid ih
  have HN := Lib.hid (And.intro hn hn2)
  have HV := Lib.hid (And.intro hk (And.intro hva (And.intro hvb (And.intro hk2 (And.intro hva2 hvb2)))))
  clear hcb hqb hmn hmk ih hR hs ht hk hva hvb hk2 hva2 hvb2 hn hn2
  go_enter Tryz.func23, Tryz.ntmps23
  go_upto_region 13 with fail
  obtain ⟨W, hW⟩ : ∃ W, ((w.alloc (.cells #[.int .i64 p, .bool j, .int .u8 h, .slice A n c] 100)).alloc (.cells #[.int .i64 q, .bool i, .int .u8 k, .slice A2 n2 c2] 100)) = W := ⟨_, rfl⟩
  rw [hW]
  have hb : Below w.heap.size w W := by rw [← hW]; exact bal (bal b0 _) _
  have hx : Blk W w.heap.size 100 #[.int .i64 p, .bool j, .int .u8 h, .slice A n c] := by rw [← hW]; exact (Blk.new w _ _).alloc _
  have hy : Blk W (w.heap.size + 1) 100 #[.int .i64 q, .bool i, .int .u8 k, .slice A2 n2 c2] := by
    rw [← hW]
    have := Blk.new (w.alloc (.cells #[.int .i64 p, .bool j, .int .u8 h, .slice A n c] 100)) 100 #[.int .i64 q, .bool i, .int .u8 k, .slice A2 n2 c2]
    rwa [World.size_alloc] at this
  clear hW a1 a2 a3 a4
  have HK3 := Lib.hid (show ∀ W', Below W.heap.size W W' → W'.cell? ⟨w.heap.size, 3, none⟩ = some (.slice A n c) from fun W' hb' => ((hx.below hb' hx.lt).cell 3).trans rfl)
  have HK := Lib.hid (show ∀ W', Below W.heap.size W W' → (Below W.heap.size W W' ∧ W'.cell? ⟨w.heap.size, 1, none⟩ = some (.bool j) ∧ W'.cell? ⟨w.heap.size, 2, none⟩ = some (.int .u8 h) ∧ W'.cell? ⟨w.heap.size + 1, 0, none⟩ = some (.int .i64 q) ∧ W'.cell? ⟨w.heap.size + 1, 1, none⟩ = some (.bool i) ∧ W'.cell? ⟨w.heap.size + 1, 2, none⟩ = some (.int .u8 k) ∧ W'.cell? ⟨w.heap.size + 1, 3, none⟩ = some (.slice A2 n2 c2)) from fun W' hb' =>
      ⟨hb', ((hx.below hb' hx.lt).cell 1).trans rfl, ((hx.below hb' hx.lt).cell 2).trans rfl, ((hy.below hb' hy.lt).cell 0).trans rfl, ((hy.below hb' hy.lt).cell 1).trans rfl, ((hy.below hb' hy.lt).cell 2).trans rfl, ((hy.below hb' hy.lt).cell 3).trans rfl⟩)
  have HB := Lib.hid hb
  clear hx hy hb
  obtain ⟨_, c1, c2', d0, d1, d2, d3⟩ := HK.out W b0
  go_cut [54] from 43 to 54 (fun r wx => r = .bool (j != qb || h != k) ∧ Below W.heap.size W wx)
  case first =>
    cases j <;> cases qb
    · skip
      refine wp_region_held_drew (S := (fun W' => Below W.heap.size W W' ∧ W'.cell? ⟨w.heap.size, 1, none⟩ = some (.bool false) ∧ W'.cell? ⟨w.heap.size, 2, none⟩ = some (.int .u8 h) ∧ W'.cell? ⟨w.heap.size + 1, 0, none⟩ = some (.int .i64 q) ∧ W'.cell? ⟨w.heap.size + 1, 1, none⟩ = some (.bool i) ∧ W'.cell? ⟨w.heap.size + 1, 2, none⟩ = some (.int .u8 k) ∧ W'.cell? ⟨w.heap.size + 1, 3, none⟩ = some (.slice A2 n2 c2))) (by kernel_rfl) ?ss73 (fun hHeld => ?rr73)
      case ss73 => (try dsimp only); exact HK.out _ (Below.refl _ _).drew
      refine wpAnyH_take (i := 0) (oi := ⟨some 43, _, _, _, _, _⟩) (v := ?vv74) rfl (by kernel_rfl) (by kernel_rfl) (by kernel_rfl) (fun _ _ _ h => h) (Or.inl ⟨by rfl, ?yy74⟩) (by assumption) ?rr74
      case yy74 => (intro wq hSw; (try dsimp only at hSw); go_simp; try with_reducible rfl)
      try simp only [Act.put, List.setIfInBounds_toArray, List.set_cons_zero, List.set_cons_succ]
      refine wpAnyH_take (i := 1) (oi := ⟨some 44, _, _, _, _, _⟩) (v := ?vv75) rfl (by kernel_rfl) (by kernel_rfl) (by kernel_rfl) (fun _ _ _ h => h) (Or.inl ⟨by rfl, ?yy75⟩) (by assumption) ?rr75
      case yy75 => (intro wq hSw; (try dsimp only at hSw); go_simp; try with_reducible rfl)
      try simp only [Act.put, List.setIfInBounds_toArray, List.set_cons_zero, List.set_cons_succ]
      refine wpAnyH_take (i := 2) (oi := ⟨some 45, _, _, _, _, _⟩) (v := ?vv76) rfl (by kernel_rfl) (by kernel_rfl) (by kernel_rfl) (fun _ _ _ h => h) (Or.inl ⟨by rfl, ?yy76⟩) (by assumption) ?rr76
      case yy76 => (intro wq hSw; (try dsimp only at hSw); go_simp; try with_reducible rfl)
      try simp only [Act.put, List.setIfInBounds_toArray, List.set_cons_zero, List.set_cons_succ]
      refine wpAnyH_ready (rs := [3]) (by kernel_rfl) (by simp) ?_
      refine AllReadyH.cons (o := ⟨some 46, _, _, _, _, _⟩) rfl (fun K hK => ?_) AllReadyH.nil
      go_simp
      ((refine (HCB.out _).mono ?_); rintro e w1 ⟨rfl, hb1⟩)
      refine hK.out _ _ ?ss77 (fun hHeld2 => ?rr77)
      case ss77 => (try dsimp only); exact HK.out _ (bl (Below.refl _ _).drew hb1)
      clear hK K
      clear hHeld
      have hHeld := hHeld2
      clear hHeld2
      try simp only [Act.put, List.setIfInBounds_toArray, List.set_cons_zero, List.set_cons_succ]
      refine wpAnyH_take (i := 4) (oi := ⟨some 47, _, _, _, _, _⟩) (v := ?vv78) rfl (by kernel_rfl) (by kernel_rfl) (by kernel_rfl) (fun _ _ _ h => h) (Or.inl ⟨by rfl, ?yy78⟩) (by assumption) ?rr78
      case yy78 => (intro wq hSw; (try dsimp only at hSw); go_simp; try with_reducible rfl)
      try simp only [Act.put, List.setIfInBounds_toArray, List.set_cons_zero, List.set_cons_succ]
      refine wpAnyH_take (i := 5) (oi := ⟨some 48, _, _, _, _, _⟩) (v := ?vv79) rfl (by kernel_rfl) (by kernel_rfl) (by kernel_rfl) (fun _ _ _ h => h) (Or.inl ⟨by rfl, ?yy79⟩) (by assumption) ?rr79
      case yy79 => (intro wq hSw; (try dsimp only at hSw); go_simp; try with_reducible rfl)
      try simp only [Act.put, List.setIfInBounds_toArray, List.set_cons_zero, List.set_cons_succ]
      refine wpAnyH_take (i := 6) (oi := ⟨some 49, _, _, _, _, _⟩) (v := ?vv80) rfl (by kernel_rfl) (by kernel_rfl) (by kernel_rfl) (fun _ _ _ h => h) (Or.inl ⟨by rfl, ?yy80⟩) (by assumption) ?rr80
      case yy80 => (intro wq hSw; (try dsimp only at hSw); go_simp; try with_reducible rfl)
      try simp only [Act.put, List.setIfInBounds_toArray, List.set_cons_zero, List.set_cons_succ]
      refine wpAnyH_take (i := 7) (oi := ⟨some 50, _, _, _, _, _⟩) (v := ?vv81) rfl (by kernel_rfl) (by kernel_rfl) (by kernel_rfl) (fun _ _ _ h => h) (Or.inl ⟨by rfl, ?yy81⟩) (by assumption) ?rr81
      case yy81 => (intro wq hSw; (try dsimp only at hSw); go_simp; try with_reducible rfl)
      try simp only [Act.put, List.setIfInBounds_toArray, List.set_cons_zero, List.set_cons_succ]
      refine wpAnyH_take (i := 8) (oi := ⟨some 51, _, _, _, _, _⟩) (v := ?vv82) rfl (by kernel_rfl) (by kernel_rfl) (by kernel_rfl) (fun _ _ _ h => h) (Or.inl ⟨by rfl, ?yy82⟩) (by assumption) ?rr82
      case yy82 => (intro wq hSw; (try dsimp only at hSw); go_simp; try with_reducible rfl)
      try simp only [Act.put, List.setIfInBounds_toArray, List.set_cons_zero, List.set_cons_succ]
      refine wpAnyH_take (i := 9) (oi := ⟨some 52, _, _, _, _, _⟩) (v := ?vv83) rfl (by kernel_rfl) (by kernel_rfl) (by kernel_rfl) (fun _ _ _ h => h) (Or.inl ⟨by rfl, ?yy83⟩) (by assumption) ?rr83
      case yy83 => (intro wq hSw; (try dsimp only at hSw); go_simp; try with_reducible rfl)
      try simp only [Act.put, List.setIfInBounds_toArray, List.set_cons_zero, List.set_cons_succ]
      refine wpAnyH_take (i := 10) (oi := ⟨some 53, _, _, _, _, _⟩) (v := ?vv84) rfl (by kernel_rfl) (by kernel_rfl) (by kernel_rfl) (fun _ _ _ h => h) (Or.inl ⟨by rfl, ?yy84⟩) (by assumption) ?rr84
      case yy84 => (intro wq hSw; (try dsimp only at hSw); go_simp; try with_reducible rfl)
      try simp only [Act.put, List.setIfInBounds_toArray, List.set_cons_zero, List.set_cons_succ]
      refine wpAnyH_take (i := 11) (oi := ⟨some 54, _, _, _, _, _⟩) (v := ?vv85) rfl (by kernel_rfl) (by kernel_rfl) (by kernel_rfl) (fun _ _ _ h => h) (Or.inl ⟨by rfl, ?yy85⟩) (by assumption) ?rr85
      case yy85 => (intro wq hSw; (try dsimp only at hSw); go_simp; try with_reducible rfl)
      try simp only [Act.put, List.setIfInBounds_toArray, List.set_cons_zero, List.set_cons_succ]
      refine wpAnyH_done (by kernel_rfl) ?_ _
      go_wp2_with fail
      go_meet
      case rel => exact ⟨rfl, hHeld.1⟩
    · skip
      refine wp_region_held_drew (S := (fun W' => Below W.heap.size W W' ∧ W'.cell? ⟨w.heap.size, 1, none⟩ = some (.bool false) ∧ W'.cell? ⟨w.heap.size, 2, none⟩ = some (.int .u8 h) ∧ W'.cell? ⟨w.heap.size + 1, 0, none⟩ = some (.int .i64 q) ∧ W'.cell? ⟨w.heap.size + 1, 1, none⟩ = some (.bool i) ∧ W'.cell? ⟨w.heap.size + 1, 2, none⟩ = some (.int .u8 k) ∧ W'.cell? ⟨w.heap.size + 1, 3, none⟩ = some (.slice A2 n2 c2))) (by kernel_rfl) ?ss86 (fun hHeld => ?rr86)
      case ss86 => (try dsimp only); exact HK.out _ (Below.refl _ _).drew
      refine wpAnyH_take (i := 0) (oi := ⟨some 43, _, _, _, _, _⟩) (v := ?vv87) rfl (by kernel_rfl) (by kernel_rfl) (by kernel_rfl) (fun _ _ _ h => h) (Or.inl ⟨by rfl, ?yy87⟩) (by assumption) ?rr87
      case yy87 => (intro wq hSw; (try dsimp only at hSw); go_simp; try with_reducible rfl)
      try simp only [Act.put, List.setIfInBounds_toArray, List.set_cons_zero, List.set_cons_succ]
      refine wpAnyH_take (i := 1) (oi := ⟨some 44, _, _, _, _, _⟩) (v := ?vv88) rfl (by kernel_rfl) (by kernel_rfl) (by kernel_rfl) (fun _ _ _ h => h) (Or.inl ⟨by rfl, ?yy88⟩) (by assumption) ?rr88
      case yy88 => (intro wq hSw; (try dsimp only at hSw); go_simp; try with_reducible rfl)
      try simp only [Act.put, List.setIfInBounds_toArray, List.set_cons_zero, List.set_cons_succ]
      refine wpAnyH_take (i := 2) (oi := ⟨some 45, _, _, _, _, _⟩) (v := ?vv89) rfl (by kernel_rfl) (by kernel_rfl) (by kernel_rfl) (fun _ _ _ h => h) (Or.inl ⟨by rfl, ?yy89⟩) (by assumption) ?rr89
      case yy89 => (intro wq hSw; (try dsimp only at hSw); go_simp; try with_reducible rfl)
      try simp only [Act.put, List.setIfInBounds_toArray, List.set_cons_zero, List.set_cons_succ]
      refine wpAnyH_ready (rs := [3]) (by kernel_rfl) (by simp) ?_
      refine AllReadyH.cons (o := ⟨some 46, _, _, _, _, _⟩) rfl (fun K hK => ?_) AllReadyH.nil
      go_simp
      ((refine (HCB.out _).mono ?_); rintro e w1 ⟨rfl, hb1⟩)
      refine hK.out _ _ ?ss90 (fun hHeld2 => ?rr90)
      case ss90 => (try dsimp only); exact HK.out _ (bl (Below.refl _ _).drew hb1)
      clear hK K
      clear hHeld
      have hHeld := hHeld2
      clear hHeld2
      try simp only [Act.put, List.setIfInBounds_toArray, List.set_cons_zero, List.set_cons_succ]
      refine wpAnyH_take (i := 4) (oi := ⟨some 47, _, _, _, _, _⟩) (v := ?vv91) rfl (by kernel_rfl) (by kernel_rfl) (by kernel_rfl) (fun _ _ _ h => h) (Or.inl ⟨by rfl, ?yy91⟩) (by assumption) ?rr91
      case yy91 => (intro wq hSw; (try dsimp only at hSw); go_simp; try with_reducible rfl)
      try simp only [Act.put, List.setIfInBounds_toArray, List.set_cons_zero, List.set_cons_succ]
      refine wpAnyH_take (i := 5) (oi := ⟨some 48, _, _, _, _, _⟩) (v := ?vv92) rfl (by kernel_rfl) (by kernel_rfl) (by kernel_rfl) (fun _ _ _ h => h) (Or.inl ⟨by rfl, ?yy92⟩) (by assumption) ?rr92
      case yy92 => (intro wq hSw; (try dsimp only at hSw); go_simp; try with_reducible rfl)
      try simp only [Act.put, List.setIfInBounds_toArray, List.set_cons_zero, List.set_cons_succ]
      refine wpAnyH_take (i := 6) (oi := ⟨some 49, _, _, _, _, _⟩) (v := undef) rfl (by kernel_rfl) (by kernel_rfl) (by kernel_rfl) (fun _ _ _ h => h) (Or.inr ⟨by rfl, rfl⟩) (by assumption) ?rr93
      try simp only [Act.put, List.setIfInBounds_toArray, List.set_cons_zero, List.set_cons_succ]
      refine wpAnyH_take (i := 7) (oi := ⟨some 50, _, _, _, _, _⟩) (v := undef) rfl (by kernel_rfl) (by kernel_rfl) (by kernel_rfl) (fun _ _ _ h => h) (Or.inr ⟨by rfl, rfl⟩) (by assumption) ?rr94
      try simp only [Act.put, List.setIfInBounds_toArray, List.set_cons_zero, List.set_cons_succ]
      refine wpAnyH_take (i := 8) (oi := ⟨some 51, _, _, _, _, _⟩) (v := undef) rfl (by kernel_rfl) (by kernel_rfl) (by kernel_rfl) (fun _ _ _ h => h) (Or.inr ⟨by rfl, rfl⟩) (by assumption) ?rr95
      try simp only [Act.put, List.setIfInBounds_toArray, List.set_cons_zero, List.set_cons_succ]
      refine wpAnyH_take (i := 9) (oi := ⟨some 52, _, _, _, _, _⟩) (v := undef) rfl (by kernel_rfl) (by kernel_rfl) (by kernel_rfl) (fun _ _ _ h => h) (Or.inr ⟨by rfl, rfl⟩) (by assumption) ?rr96
      try simp only [Act.put, List.setIfInBounds_toArray, List.set_cons_zero, List.set_cons_succ]
      refine wpAnyH_take (i := 10) (oi := ⟨some 53, _, _, _, _, _⟩) (v := undef) rfl (by kernel_rfl) (by kernel_rfl) (by kernel_rfl) (fun _ _ _ h => h) (Or.inr ⟨by rfl, rfl⟩) (by assumption) ?rr97
      try simp only [Act.put, List.setIfInBounds_toArray, List.set_cons_zero, List.set_cons_succ]
      refine wpAnyH_take (i := 11) (oi := ⟨some 54, _, _, _, _, _⟩) (v := ?vv98) rfl (by kernel_rfl) (by kernel_rfl) (by kernel_rfl) (fun _ _ _ h => h) (Or.inl ⟨by rfl, ?yy98⟩) (by assumption) ?rr98
      case yy98 => (intro wq hSw; (try dsimp only at hSw); go_simp; try with_reducible rfl)
      try simp only [Act.put, List.setIfInBounds_toArray, List.set_cons_zero, List.set_cons_succ]
      refine wpAnyH_done (by kernel_rfl) ?_ _
      go_wp2_with fail
      go_meet
      case rel => exact ⟨rfl, hHeld.1⟩
    · skip
      refine wp_region_held_drew (S := (fun W' => Below W.heap.size W W' ∧ W'.cell? ⟨w.heap.size, 1, none⟩ = some (.bool true) ∧ W'.cell? ⟨w.heap.size, 2, none⟩ = some (.int .u8 h) ∧ W'.cell? ⟨w.heap.size + 1, 0, none⟩ = some (.int .i64 q) ∧ W'.cell? ⟨w.heap.size + 1, 1, none⟩ = some (.bool i) ∧ W'.cell? ⟨w.heap.size + 1, 2, none⟩ = some (.int .u8 k) ∧ W'.cell? ⟨w.heap.size + 1, 3, none⟩ = some (.slice A2 n2 c2))) (by kernel_rfl) ?ss99 (fun hHeld => ?rr99)
      case ss99 => (try dsimp only); exact HK.out _ (Below.refl _ _).drew
      refine wpAnyH_take (i := 0) (oi := ⟨some 43, _, _, _, _, _⟩) (v := ?vv100) rfl (by kernel_rfl) (by kernel_rfl) (by kernel_rfl) (fun _ _ _ h => h) (Or.inl ⟨by rfl, ?yy100⟩) (by assumption) ?rr100
      case yy100 => (intro wq hSw; (try dsimp only at hSw); go_simp; try with_reducible rfl)
      try simp only [Act.put, List.setIfInBounds_toArray, List.set_cons_zero, List.set_cons_succ]
      refine wpAnyH_take (i := 1) (oi := ⟨some 44, _, _, _, _, _⟩) (v := ?vv101) rfl (by kernel_rfl) (by kernel_rfl) (by kernel_rfl) (fun _ _ _ h => h) (Or.inl ⟨by rfl, ?yy101⟩) (by assumption) ?rr101
      case yy101 => (intro wq hSw; (try dsimp only at hSw); go_simp; try with_reducible rfl)
      try simp only [Act.put, List.setIfInBounds_toArray, List.set_cons_zero, List.set_cons_succ]
      refine wpAnyH_take (i := 2) (oi := ⟨some 45, _, _, _, _, _⟩) (v := ?vv102) rfl (by kernel_rfl) (by kernel_rfl) (by kernel_rfl) (fun _ _ _ h => h) (Or.inl ⟨by rfl, ?yy102⟩) (by assumption) ?rr102
      case yy102 => (intro wq hSw; (try dsimp only at hSw); go_simp; try with_reducible rfl)
      try simp only [Act.put, List.setIfInBounds_toArray, List.set_cons_zero, List.set_cons_succ]
      refine wpAnyH_ready (rs := [3]) (by kernel_rfl) (by simp) ?_
      refine AllReadyH.cons (o := ⟨some 46, _, _, _, _, _⟩) rfl (fun K hK => ?_) AllReadyH.nil
      go_simp
      ((refine (HCB.out _).mono ?_); rintro e w1 ⟨rfl, hb1⟩)
      refine hK.out _ _ ?ss103 (fun hHeld2 => ?rr103)
      case ss103 => (try dsimp only); exact HK.out _ (bl (Below.refl _ _).drew hb1)
      clear hK K
      clear hHeld
      have hHeld := hHeld2
      clear hHeld2
      try simp only [Act.put, List.setIfInBounds_toArray, List.set_cons_zero, List.set_cons_succ]
      refine wpAnyH_take (i := 4) (oi := ⟨some 47, _, _, _, _, _⟩) (v := ?vv104) rfl (by kernel_rfl) (by kernel_rfl) (by kernel_rfl) (fun _ _ _ h => h) (Or.inl ⟨by rfl, ?yy104⟩) (by assumption) ?rr104
      case yy104 => (intro wq hSw; (try dsimp only at hSw); go_simp; try with_reducible rfl)
      try simp only [Act.put, List.setIfInBounds_toArray, List.set_cons_zero, List.set_cons_succ]
      refine wpAnyH_take (i := 5) (oi := ⟨some 48, _, _, _, _, _⟩) (v := ?vv105) rfl (by kernel_rfl) (by kernel_rfl) (by kernel_rfl) (fun _ _ _ h => h) (Or.inl ⟨by rfl, ?yy105⟩) (by assumption) ?rr105
      case yy105 => (intro wq hSw; (try dsimp only at hSw); go_simp; try with_reducible rfl)
      try simp only [Act.put, List.setIfInBounds_toArray, List.set_cons_zero, List.set_cons_succ]
      refine wpAnyH_take (i := 6) (oi := ⟨some 49, _, _, _, _, _⟩) (v := undef) rfl (by kernel_rfl) (by kernel_rfl) (by kernel_rfl) (fun _ _ _ h => h) (Or.inr ⟨by rfl, rfl⟩) (by assumption) ?rr106
      try simp only [Act.put, List.setIfInBounds_toArray, List.set_cons_zero, List.set_cons_succ]
      refine wpAnyH_take (i := 7) (oi := ⟨some 50, _, _, _, _, _⟩) (v := undef) rfl (by kernel_rfl) (by kernel_rfl) (by kernel_rfl) (fun _ _ _ h => h) (Or.inr ⟨by rfl, rfl⟩) (by assumption) ?rr107
      try simp only [Act.put, List.setIfInBounds_toArray, List.set_cons_zero, List.set_cons_succ]
      refine wpAnyH_take (i := 8) (oi := ⟨some 51, _, _, _, _, _⟩) (v := undef) rfl (by kernel_rfl) (by kernel_rfl) (by kernel_rfl) (fun _ _ _ h => h) (Or.inr ⟨by rfl, rfl⟩) (by assumption) ?rr108
      try simp only [Act.put, List.setIfInBounds_toArray, List.set_cons_zero, List.set_cons_succ]
      refine wpAnyH_take (i := 9) (oi := ⟨some 52, _, _, _, _, _⟩) (v := undef) rfl (by kernel_rfl) (by kernel_rfl) (by kernel_rfl) (fun _ _ _ h => h) (Or.inr ⟨by rfl, rfl⟩) (by assumption) ?rr109
      try simp only [Act.put, List.setIfInBounds_toArray, List.set_cons_zero, List.set_cons_succ]
      refine wpAnyH_take (i := 10) (oi := ⟨some 53, _, _, _, _, _⟩) (v := undef) rfl (by kernel_rfl) (by kernel_rfl) (by kernel_rfl) (fun _ _ _ h => h) (Or.inr ⟨by rfl, rfl⟩) (by assumption) ?rr110
      try simp only [Act.put, List.setIfInBounds_toArray, List.set_cons_zero, List.set_cons_succ]
      refine wpAnyH_take (i := 11) (oi := ⟨some 54, _, _, _, _, _⟩) (v := ?vv111) rfl (by kernel_rfl) (by kernel_rfl) (by kernel_rfl) (fun _ _ _ h => h) (Or.inl ⟨by rfl, ?yy111⟩) (by assumption) ?rr111
      case yy111 => (intro wq hSw; (try dsimp only at hSw); go_simp; try with_reducible rfl)
      try simp only [Act.put, List.setIfInBounds_toArray, List.set_cons_zero, List.set_cons_succ]
      refine wpAnyH_done (by kernel_rfl) ?_ _
      go_wp2_with fail
      go_meet
      case rel => exact ⟨rfl, hHeld.1⟩
    · skip
      refine wp_region_held_drew (S := (fun W' => Below W.heap.size W W' ∧ W'.cell? ⟨w.heap.size, 1, none⟩ = some (.bool true) ∧ W'.cell? ⟨w.heap.size, 2, none⟩ = some (.int .u8 h) ∧ W'.cell? ⟨w.heap.size + 1, 0, none⟩ = some (.int .i64 q) ∧ W'.cell? ⟨w.heap.size + 1, 1, none⟩ = some (.bool i) ∧ W'.cell? ⟨w.heap.size + 1, 2, none⟩ = some (.int .u8 k) ∧ W'.cell? ⟨w.heap.size + 1, 3, none⟩ = some (.slice A2 n2 c2))) (by kernel_rfl) ?ss112 (fun hHeld => ?rr112)
      case ss112 => (try dsimp only); exact HK.out _ (Below.refl _ _).drew
      refine wpAnyH_take (i := 0) (oi := ⟨some 43, _, _, _, _, _⟩) (v := ?vv113) rfl (by kernel_rfl) (by kernel_rfl) (by kernel_rfl) (fun _ _ _ h => h) (Or.inl ⟨by rfl, ?yy113⟩) (by assumption) ?rr113
      case yy113 => (intro wq hSw; (try dsimp only at hSw); go_simp; try with_reducible rfl)
      try simp only [Act.put, List.setIfInBounds_toArray, List.set_cons_zero, List.set_cons_succ]
      refine wpAnyH_take (i := 1) (oi := ⟨some 44, _, _, _, _, _⟩) (v := ?vv114) rfl (by kernel_rfl) (by kernel_rfl) (by kernel_rfl) (fun _ _ _ h => h) (Or.inl ⟨by rfl, ?yy114⟩) (by assumption) ?rr114
      case yy114 => (intro wq hSw; (try dsimp only at hSw); go_simp; try with_reducible rfl)
      try simp only [Act.put, List.setIfInBounds_toArray, List.set_cons_zero, List.set_cons_succ]
      refine wpAnyH_take (i := 2) (oi := ⟨some 45, _, _, _, _, _⟩) (v := ?vv115) rfl (by kernel_rfl) (by kernel_rfl) (by kernel_rfl) (fun _ _ _ h => h) (Or.inl ⟨by rfl, ?yy115⟩) (by assumption) ?rr115
      case yy115 => (intro wq hSw; (try dsimp only at hSw); go_simp; try with_reducible rfl)
      try simp only [Act.put, List.setIfInBounds_toArray, List.set_cons_zero, List.set_cons_succ]
      refine wpAnyH_ready (rs := [3]) (by kernel_rfl) (by simp) ?_
      refine AllReadyH.cons (o := ⟨some 46, _, _, _, _, _⟩) rfl (fun K hK => ?_) AllReadyH.nil
      go_simp
      ((refine (HCB.out _).mono ?_); rintro e w1 ⟨rfl, hb1⟩)
      refine hK.out _ _ ?ss116 (fun hHeld2 => ?rr116)
      case ss116 => (try dsimp only); exact HK.out _ (bl (Below.refl _ _).drew hb1)
      clear hK K
      clear hHeld
      have hHeld := hHeld2
      clear hHeld2
      try simp only [Act.put, List.setIfInBounds_toArray, List.set_cons_zero, List.set_cons_succ]
      refine wpAnyH_take (i := 4) (oi := ⟨some 47, _, _, _, _, _⟩) (v := ?vv117) rfl (by kernel_rfl) (by kernel_rfl) (by kernel_rfl) (fun _ _ _ h => h) (Or.inl ⟨by rfl, ?yy117⟩) (by assumption) ?rr117
      case yy117 => (intro wq hSw; (try dsimp only at hSw); go_simp; try with_reducible rfl)
      try simp only [Act.put, List.setIfInBounds_toArray, List.set_cons_zero, List.set_cons_succ]
      refine wpAnyH_take (i := 5) (oi := ⟨some 48, _, _, _, _, _⟩) (v := ?vv118) rfl (by kernel_rfl) (by kernel_rfl) (by kernel_rfl) (fun _ _ _ h => h) (Or.inl ⟨by rfl, ?yy118⟩) (by assumption) ?rr118
      case yy118 => (intro wq hSw; (try dsimp only at hSw); go_simp; try with_reducible rfl)
      try simp only [Act.put, List.setIfInBounds_toArray, List.set_cons_zero, List.set_cons_succ]
      refine wpAnyH_take (i := 6) (oi := ⟨some 49, _, _, _, _, _⟩) (v := ?vv119) rfl (by kernel_rfl) (by kernel_rfl) (by kernel_rfl) (fun _ _ _ h => h) (Or.inl ⟨by rfl, ?yy119⟩) (by assumption) ?rr119
      case yy119 => (intro wq hSw; (try dsimp only at hSw); go_simp; try with_reducible rfl)
      try simp only [Act.put, List.setIfInBounds_toArray, List.set_cons_zero, List.set_cons_succ]
      refine wpAnyH_take (i := 7) (oi := ⟨some 50, _, _, _, _, _⟩) (v := ?vv120) rfl (by kernel_rfl) (by kernel_rfl) (by kernel_rfl) (fun _ _ _ h => h) (Or.inl ⟨by rfl, ?yy120⟩) (by assumption) ?rr120
      case yy120 => (intro wq hSw; (try dsimp only at hSw); go_simp; try with_reducible rfl)
      try simp only [Act.put, List.setIfInBounds_toArray, List.set_cons_zero, List.set_cons_succ]
      refine wpAnyH_take (i := 8) (oi := ⟨some 51, _, _, _, _, _⟩) (v := ?vv121) rfl (by kernel_rfl) (by kernel_rfl) (by kernel_rfl) (fun _ _ _ h => h) (Or.inl ⟨by rfl, ?yy121⟩) (by assumption) ?rr121
      case yy121 => (intro wq hSw; (try dsimp only at hSw); go_simp; try with_reducible rfl)
      try simp only [Act.put, List.setIfInBounds_toArray, List.set_cons_zero, List.set_cons_succ]
      refine wpAnyH_take (i := 9) (oi := ⟨some 52, _, _, _, _, _⟩) (v := ?vv122) rfl (by kernel_rfl) (by kernel_rfl) (by kernel_rfl) (fun _ _ _ h => h) (Or.inl ⟨by rfl, ?yy122⟩) (by assumption) ?rr122
      case yy122 => (intro wq hSw; (try dsimp only at hSw); go_simp; try with_reducible rfl)
      try simp only [Act.put, List.setIfInBounds_toArray, List.set_cons_zero, List.set_cons_succ]
      refine wpAnyH_take (i := 10) (oi := ⟨some 53, _, _, _, _, _⟩) (v := ?vv123) rfl (by kernel_rfl) (by kernel_rfl) (by kernel_rfl) (fun _ _ _ h => h) (Or.inl ⟨by rfl, ?yy123⟩) (by assumption) ?rr123
      case yy123 => (intro wq hSw; (try dsimp only at hSw); go_simp; try with_reducible rfl)
      try simp only [Act.put, List.setIfInBounds_toArray, List.set_cons_zero, List.set_cons_succ]
      refine wpAnyH_take (i := 11) (oi := ⟨some 54, _, _, _, _, _⟩) (v := ?vv124) rfl (by kernel_rfl) (by kernel_rfl) (by kernel_rfl) (fun _ _ _ h => h) (Or.inl ⟨by rfl, ?yy124⟩) (by assumption) ?rr124
      case yy124 => (intro wq hSw; (try dsimp only at hSw); go_simp; try with_reducible rfl)
      try simp only [Act.put, List.setIfInBounds_toArray, List.set_cons_zero, List.set_cons_succ]
      refine wpAnyH_done (by kernel_rfl) ?_ _
      go_wp2_with fail
      go_meet
      case rel => exact ⟨rfl, hHeld.1⟩
  case rest =>
    obtain ⟨rfl, hbw⟩ := hcut
    clear c1 c2' d0 d1 d2 d3
    obtain ⟨_, c1, c2', d0, d1, d2, d3⟩ := HK.out wc hbw
    cases hx : (j != qb || h != k)
    · have hjq : j = qb := by cases j <;> cases qb <;> simp_all
      have hhk : h = k := by simpa using (show h = k by cases j <;> cases qb <;> simp_all)
      subst hhk hjq
      have hnn : n = n2 := HN.out.1.symm.trans HN.out.2
      subst hnn
      have c3 := HK3.out wc hbw
      have HBW := Lib.hid hbw
      have hm := HMK.out rfl rfl
      have HM := Lib.hid hm
      clear hbw hm hx HMK HMN HCB
      have htu := fun k W => turned_any h k W
      have HTU := Lib.hid htu
      clear htu
      go_wp2_with fail
      go_loopg [64] n (fun g u wr => ∃ m : Nat, m ≤ n ∧ g = n - m ∧ u = .int .i64 m ∧ Below W.heap.size W wr ∧ ∀ x, x < m → meetK h x (kidT a b x) (kidT x2 y2 x) = true)
      case atStart => exact ⟨0, by omega, rfl, rfl, HBW.out, fun x hx => absurd hx (by omega)⟩
      case round =>
        obtain ⟨m, hm, rfl, rfl, hbr, hall⟩ := hrel
        have HBR := Lib.hid hbr
        have HA := Lib.hid hall
        clear hbr hall c1 c2' d0 d1 d2 d3 c3
        by_cases hlt : m < n
        · obtain ⟨_, c1, c2', d0, d1, d2, d3⟩ := HK.out wr HBR.out
          obtain ⟨k1, k2, k3, k4, k5, k6⟩ := HV.out
          obtain ⟨g, o, v, rfl, hcv, hg, hv⟩ := kid_at hnb hlt k1 k2 k3
          obtain ⟨g2, o2, v2, rfl, hcv2, hg2, hv2⟩ := kid_at hnb hlt k4 k5 k6
          have hbw0 := bl HB.out HBR.out
          have hcx : wr.cell? ⟨g, o + m, none⟩ = some v := (hbw0.cell (p := ⟨g, o + m, none⟩) hg).trans hcv
          have hcx2 : wr.cell? ⟨g2, o2 + m, none⟩ = some v2 := (hbw0.cell (p := ⟨g2, o2 + m, none⟩) hg2).trans hcv2
          have hcall : ∀ W', Below wr.heap.size wr W' → Calls Tryz.prog 23 (if turnd h m = true then #[v2, v] else #[v, v2]) W' fun e w' => KidM h a b x2 y2 m W' e w' := fun W' hb' => HIH.out m trivial v v2 W' (hv.below (bl hbw0 hb')) (hv2.below (bl hbw0 hb'))
          obtain ⟨tu, htu⟩ : ∃ x, turnd h m = x := ⟨_, rfl⟩
          have htm := fun W => HTU.out m W
          rw [htu] at htm hcall
          have HTM := Lib.hid htm
          have HCALL := Lib.hid hcall
          obtain ⟨D, z, rfl⟩ := hv.face
          obtain ⟨D2, z2, rfl⟩ := hv2.face
          unfold KidM at HCALL
          obtain ⟨mk, hmk⟩ : ∃ x, meetK h m (kidT a b m) (kidT x2 y2 m) = x := ⟨_, rfl⟩
          rw [hmk] at HCALL
          have HMKK := Lib.hid hmk
          clear hmk htm hcall htu k1 k2 k3 k4 k5 k6 hcv hcv2 hv hv2 hbw0 hg hg2
          go_wp2_with fail
          go_quiet (fail)
          go_wp2_with fail
          ((refine (HTM.out _).mono ?_); rintro e w2 ⟨rfl, rfl⟩)
          cases tu
          all_goals
            go_wp2_with fail
            ((refine (HCALL.out _ (bdr b0 _)).mono ?_); rintro e w2 ⟨rfl, hb2⟩)
            cases mk
            · go_wp2_with fail
              go_ret
              refine ⟨?_, bl HB.out (bl (bdr HBR.out _) hb2)⟩
              cases R
              · rfl
              · exact absurd (HM.out.1 rfl m (by rw [HN.out.1]; exact hlt)) (by rw [HMKK.out]; decide)
            · go_wp2_with fail
              go_roundg (n - (m + 1))
              case measure => omega
              case rel => exact ⟨m + 1, by omega, rfl, by go_num, bl (bdr HBR.out _) hb2, all_succ HA.out HMKK.out⟩
        · obtain rfl : m = n := by omega
          go_wp2_with fail
          go_ret
          exact ⟨by rw [HM.out.2 (fun x hx => HA.out x (by rw [HN.out.1] at hx; exact hx))]; rfl, bl HB.out HBR.out⟩
    · have HRV := Lib.hid (HMN.out hx)
      clear hx HMN HMK HIH HV
      cases j
      · go_wp2_with fail
        go_ret
        exact ⟨by rw [HRV.out]; rfl, bl HB.out hbw⟩
      · go_wp2_with fail
        ((refine (HCB.out _).mono ?_); rintro e w1 ⟨rfl, hb1⟩)
        go_wp2_with fail
        go_ret
        exact ⟨by rw [HRV.out]; rfl, bl HB.out (bl hbw hb1)⟩

theorem meet_callW (n : Nat) : ∀ (s t : Co) (vs vt : Value) (C C2 : Nat → Prop) (w : World), s.sz + t.sz ≤ n → okC s → okC t → VCo w C s vs → VCo w C2 t vt →
    Calls Tryz.prog 23 #[vs, vt] w fun e w' => MeetQ s t w e w' := by
  induction n with
  | zero =>
    intro s t vs vt C C2 w hn hs ht hv hv2
    cases s with
    | any => simp only [VCo] at hv; subst hv; exact meet_begins t vt C2 w hv2
    | fail p l f q => simp only [VCo] at hv; subst hv; exact meet_failW p l f q t vt w
    | part p j h a b => simp [Co.sz] at hn
  | succ n ih =>
    intro s t vs vt C C2 w hn hs ht hv hv2
    cases s with
    | any => simp only [VCo] at hv; subst hv; exact meet_begins t vt C2 w hv2
    | fail p l f q => simp only [VCo] at hv; subst hv; exact meet_failW p l f q t vt w
    | part p j h a b =>
      simp only [VCo] at hv
      obtain ⟨A, c, va, vb, rfl, h1, h2, h3, h4, h5⟩ := hv
      cases t with
      | any => simp only [VCo] at hv2; subst hv2; exact meet_part_any p j h a b A _ c w
      | fail q l f t => simp only [VCo] at hv2; subst hv2; exact meet_part_fail p j h a b A _ c w q l f t
      | part q i k x y =>
        simp only [VCo] at hv2
        obtain ⟨A2, c2, va2, vb2, rfl, g1, g2, g3, g4, g5⟩ := hv2
        refine meet_ppW p j h a b A _ c q i k x y A2 _ c2 va vb va2 vb2 C C2 w hs ht rfl rfl h1 h2 g1 g2 h3 h4 h5 g3 g4 g5 ?_
        intro m hk v v2 W hv hv2
        obtain ⟨o1, z1⟩ := kid_ok hs m
        obtain ⟨o2, z2⟩ := kid_ok ht m
        unfold KidM meetK
        cases turnd h m
        · exact ih _ _ v v2 C C2 W (by omega) o1 o2 hv hv2
        · exact ih _ _ v2 v C2 C W (by omega) o2 o1 hv2 hv

/-- Meet, of lists. -/
def meetL (s t : List Nd) : Bool := match treeC s, treeC t with
  | some a, some b => meetC a b
  | _, _ => false
theorem Meet_any (l l2 : List Nd) (A A2 : Option Addr) (c c2 : Nat) (w : World) (hl : l.length ≤ c) (hc : c ≤ maxLen) (hA : LN w A l) (hl2 : l2.length ≤ c2) (hc2 : c2 ≤ maxLen) (hA2 : LN w A2 l2) :
    Calls Tryz.prog 11 #[.slice A l.length c, .slice A2 l2.length c2] w fun e w' => e = .returned (.bool (meetL l l2)) ∧ Below w.heap.size w w' := by
  have h := tree_any l A c w hl hc hA
  have g : ∀ W, Below w.heap.size w W → Calls Tryz.prog 22 #[.slice A2 l2.length c2] W fun e w' => TreeQ (treeC l2) W e w' := fun W hb => tree_any l2 A2 c2 W hl2 hc2 (hA2.below hb)
  have ho : ∀ a b, treeC l = some a → treeC l2 = some b → okC a ∧ okC b := fun a b h1 h2 => ⟨(treeC_some h1).2.1, (treeC_some h2).2.1⟩
  unfold meetL
  generalize treeC l = R at *
  generalize treeC l2 = R2 at *
  have HG := Lib.hid g
  have HO := Lib.hid ho
  clear hA hA2 hl hl2 hc hc2 g ho
  go_enter Tryz.func11, Tryz.ntmps11
  go_wp2_with fail
  (refine h.mono ?_); rintro ev w1 ⟨hb, hq⟩
  clear h
  cases R with
  | none =>
    obtain ⟨v, rfl⟩ := hq
    go_wp2_with fail
    (refine (HG.out _ hb).mono ?_); rintro ev w2 ⟨hb2, hq2⟩
    cases R2 with
    | none =>
      obtain ⟨v2, rfl⟩ := hq2
      go_wp2_with fail
      go_ret
      exact ⟨rfl, bl hb hb2⟩
    | some t =>
      obtain ⟨v2, rfl, _⟩ := hq2
      go_wp2_with fail
      go_ret
      exact ⟨rfl, bl hb hb2⟩
  | some s =>
    obtain ⟨v, rfl, hv⟩ := hq
    have HV := Lib.hid hv
    clear hv
    go_wp2_with fail
    (refine (HG.out _ hb).mono ?_); rintro ev w2 ⟨hb2, hq2⟩
    cases R2 with
    | none =>
      obtain ⟨v2, rfl⟩ := hq2
      go_wp2_with fail
      go_ret
      exact ⟨rfl, bl hb hb2⟩
    | some t =>
      obtain ⟨v2, rfl, hv2⟩ := hq2
      have hcall := fun W (hb3 : Below w2.heap.size w2 W) => meet_callW _ s t v v2 _ _ W (Nat.le_refl _) (HO.out s t rfl rfl).1 (HO.out s t rfl rfl).2 ((HV.out.below hb2).below hb3) (hv2.below hb3)
      have HC := Lib.hid hcall
      clear hv2 hcall HO HV
      obtain ⟨m, hm⟩ : ∃ m, meetC s t = m := ⟨_, rfl⟩
      unfold MeetQ at HC
      rw [hm] at HC
      have HM := Lib.hid hm
      clear hm
      go_wp2_with fail
      (refine (HC.out _ b0).mono ?_); rintro ev w3 ⟨rfl, hb3⟩
      go_wp2_with fail
      go_ret
      exact ⟨by rw [← HM.out]; rfl, bl (bl hb hb2) hb3⟩
end Go.Proofs.YtjklecncdinabaaGreatDoor.C
