/- coerce.Text of the coercion of the law's 'works'; 'works'. -/
import Derived.Test.YtjklecncdinabaaGreatDoorCoI
import Derived.Test.YtjklecncdinabaaGreatDoorCoG
import Derived.Test.YtjklecncdinabaaGreatDoorBld
import Derived.Deep.RegionHeld3
namespace Go.Proofs.YtjklecncdinabaaGreatDoor.C
open Go.RowKit Go.Proofs.YtjklecncdinabaaGreatDoor.B
open Go.Proofs.YtjklecncdinabaaGreatDoor.T (Ty str strV arB co)
open Go.Proofs.YtjklecncdinabaaGreatDoor.Bd (PenAt PenT U8 pen_write pen_byte pen_string)
set_option linter.unusedVariables false
set_option linter.unusedSimpArgs false

theorem pen_later {B b : Nat} {bs : List Value} {w w' : World} (h : PenAt B b bs w) (hb : Below w.heap.size w w') : PenAt B b bs w' := by
  have key : ∀ p, Lib.BuilderAt PenT U8 B b p bs w → Lib.BuilderAt PenT U8 B b p bs w' := by
    rintro p ⟨h1, v, h2, h3, h4⟩
    exact ⟨h1, v, (hb.block b (Array.getElem?_eq_some_iff.1 h2).1).trans h2, own_below h3 hb, h4⟩
  exact h.imp (key _) (key _)
def cW : List Nd := [⟨3, 0, false, 62, 0, 0, 0⟩, ⟨2, 0, false, 105, 0, 0, 0⟩, ⟨7, 0, false, 105, 7, 105, 98⟩]
def preW (k : Nat) : List UInt8 := match k with
  | 0 => []
  | 1 => [62]
  | 2 => [62, 105]
  | _ => [62, 105, 35, 55, 105, 98]

theorem format7 (w : World) : Calls Tryz.prog 52 #[.int .i64 7, .int .i64 10] w fun e w' => e = .returned (.string ⟨#[55]⟩) ∧ w = w' := by
  have hs : ∀ W, Calls Tryz.prog 86 #[.int .i64 7] W fun e w' => e = .returned (.string ⟨#[55]⟩) ∧ w' = W := by
    intro W
    have h := Tryz.internal_strconv_small 7 (by decide) W
    rw [show Lib.decDigits 7 = [55] from by unfold Lib.decDigits; simp] at h
    exact h
  have hin : ∀ W, Calls Tryz.prog 72 #[.int .i64 7, .int .i64 10] W fun e w' => e = .returned (.string ⟨#[55]⟩) ∧ W = w' := by
    intro W
    go_enter Tryz.func72, Tryz.ntmps72
    go_wp2_with fail
    (refine (hs _).mono ?_); rintro ev w1 ⟨rfl, rfl⟩
    go_wp2_with fail
    go_ret
    exact ⟨rfl, rfl⟩
  clear hs
  go_enter Tryz.func52, Tryz.ntmps52
  go_wp2_with fail
  (refine (hin _).mono ?_); rintro ev w1 ⟨rfl, rfl⟩
  go_wp2_with fail
  go_ret
  exact ⟨rfl, rfl⟩

set_option maxRecDepth 100000 in
set_option maxHeartbeats 2000000 in
theorem text_works (A : Option Addr) (c : Nat) (w : World) (hc : 3 ≤ c) (hc2 : c ≤ maxLen) (hA : LN w A cW) :
    Calls Tryz.prog 17 #[.slice A 3 c] w fun e w' => e = .returned (.tuple #[.string ⟨#[62, 105, 35, 55, 105, 98]⟩, .int .i64 0]) ∧ Below w.heap.size w w' := by
  have hm := may_any cW A c w hc hc2 hA
  rw [show (treeC cW).isSome = true by rfl] at hm
  change Calls Tryz.prog 50 #[.slice A 3 c] w _ at hm
  have h7 := fun W => format7 W
  have HF := Lib.hid h7
  have HA := Lib.hid hA
  clear hA h7
  go_enter Tryz.func17, Tryz.ntmps17
  go_wp2_with fail
  (refine hm.mono ?_); rintro ev w1 ⟨rfl, hb1⟩
  clear hm
  go_wp2_with fail
  obtain ⟨b, hb⟩ : ∃ b, w1.heap.size = b := ⟨_, rfl⟩
  obtain ⟨W, hW⟩ : ∃ W, w1.alloc (.cells #[.pointer none, .slice none 0 0] 84) = W := ⟨_, rfl⟩
  rw [hb, hW]
  have hbW : Below w.heap.size w W := by rw [← hW]; exact bal hb1 _
  have hpen : PenAt b b (Lib.byteCells (preW 0)) W := by
    rw [← hW, ← hb]
    exact .inl ⟨Nat.le_refl _, _, heap_alloc_new _ _, World.ownsRow_nil _ _ _ _, by simp [Value.ownBlock]⟩
  have hbb : w.heap.size ≤ b ∧ b < W.heap.size := by rw [← hW, ← hb]; have := hb1.size; simp only [World.size_alloc]; omega
  have HW := Lib.hid (And.intro hbW hpen)
  clear hb hW hbW hpen
  go_loopg [12] 3 (fun g u wr => ∃ k : Nat, k ≤ 3 ∧ g = 3 - k ∧ u = .int .i64 k ∧ PenAt b b (Lib.byteCells (preW k)) wr ∧ Below w.heap.size w wr ∧ b < wr.heap.size)
  case atStart => exact ⟨0, by omega, rfl, rfl, HW.out.2, HW.out.1, hbb.2⟩
  case round =>
    obtain ⟨k, hk, rfl, rfl, hp, hbr, hbl⟩ := hrel
    have HP := Lib.hid hp
    have HB := Lib.hid hbr
    clear hp hbr HW
    by_cases hlt : k < 3
    · obtain ⟨s, hs⟩ : ∃ s, cW[k]? = some s := ⟨_, List.getElem?_eq_getElem hlt⟩
      obtain ⟨bb, o, rfl, hbb', c0, c1, c2, c3, c4, c5, c6⟩ := (HA.out.below HB.out).node hs
      have hpl := pen_later HP.out (bal b0 (.cells #[.int .i8 s.op, .int .i64 s.pj, .bool s.ij, .int .u8 s.hd, .int .i64 s.lb, .int .u8 s.fr, .int .u8 s.to] 28))
      have HPL := Lib.hid hpl
      clear hpl
      go_upto_region 7 with fail
      obtain ⟨w3, hw3⟩ : ∃ w3, wr.alloc (.cells #[.int .i8 s.op, .int .i64 s.pj, .bool s.ij, .int .u8 s.hd, .int .i64 s.lb, .int .u8 s.fr, .int .u8 s.to] 28) = w3 := ⟨_, rfl⟩
      have hbk : Blk w3 wr.heap.size 28 #[.int .i8 s.op, .int .i64 s.pj, .bool s.ij, .int .u8 s.hd, .int .i64 s.lb, .int .u8 s.fr, .int .u8 s.to] := by rw [← hw3]; exact Blk.new _ _ _
      have hb3 : Below w.heap.size w w3 := by rw [← hw3]; exact bal HB.out _
      have hbl3 : b < w3.heap.size := by rw [← hw3]; simp only [World.size_alloc]; omega
      rw [hw3] at HPL ⊢
      have HW3 := Lib.hid (And.intro hbk hb3)
      clear c0 c1 c2 c3 c4 c5 c6 hb3 hw3
      have n0 := (hbk.cell 0).trans rfl
      have n1 := (hbk.cell 1).trans rfl
      have n2 := (hbk.cell 2).trans rfl
      have n3 := (hbk.cell 3).trans rfl
      have n4 := (hbk.cell 4).trans rfl
      have n5 := (hbk.cell 5).trans rfl
      have n6 := (hbk.cell 6).trans rfl
      clear hbk
      obtain rfl | rfl | rfl : k = 0 ∨ k = 1 ∨ k = 2 := by omega
      · injection hs with hs
        subst hs
        have HWB := Lib.hid (pen_byte b b _ 62 w3 HPL.out (by decide) (by omega))
        go_wp2_with fail
        (refine HWB.out.mono ?_); rintro ev w4 ⟨rfl, hp4, hb4⟩
        clear n0 n1 n2 n3 n4 n5 n6
        have hl4 := hp4.lt
        have HP4 := Lib.hid (And.intro hp4 hb4)
        clear hp4 hb4
        go_wp2_with fail
        go_roundg 2
        case measure => omega
        case rel => exact ⟨1, by omega, rfl, by go_num, .inr HP4.out.1, HW3.out.2.trans (HP4.out.2.mono hbb.1), hl4⟩
      · injection hs with hs
        subst hs
        have HWB := Lib.hid (pen_byte b b _ 105 w3 HPL.out (by decide) (by omega))
        go_wp2_with fail
        (refine HWB.out.mono ?_); rintro ev w4 ⟨rfl, hp4, hb4⟩
        clear n0 n1 n2 n3 n4 n5 n6
        have hl4 := hp4.lt
        have HP4 := Lib.hid (And.intro hp4 hb4)
        clear hp4 hb4
        go_wp2_with fail
        go_roundg 1
        case measure => omega
        case rel => exact ⟨2, by omega, rfl, by go_num, .inr HP4.out.1, HW3.out.2.trans (HP4.out.2.mono hbb.1), hl4⟩
      · injection hs with hs
        subst hs
        have hws := fun (s : ByteArray) (h : s.size ≤ 1000) => pen_write b b _ s w3.drew HPL.out (by rw [Lib.byteCells_length]; show 2 + _ ≤ _; omega) (by show b ≤ w3.heap.size; omega)
        have hkeep : ∀ W', Lib.OthersKept U8 (some b) w3.drew W' → W'.cell? ⟨wr.heap.size, 4, none⟩ = some (.int .i64 7) ∧ W'.cell? ⟨wr.heap.size, 5, none⟩ = some (.int .u8 105) ∧ W'.cell? ⟨wr.heap.size, 6, none⟩ = some (.int .u8 98) := fun W' hk => by
          have h1 : Blk W' wr.heap.size 28 _ := hk wr.heap.size _ HW3.out.1 (fun e => by injection e with e; omega) (fun c fz e => by injection e with _ e2 _; exact absurd e2 (by decide))
          exact ⟨(h1.cell 4).trans rfl, (h1.cell 5).trans rfl, (h1.cell 6).trans rfl⟩
        have HKEEP := Lib.hid hkeep
        have HWS := Lib.hid hws
        clear hkeep hws
        simp only [List.getElem?_toArray, List.getElem?_cons_zero, List.getElem?_cons_succ] at n0 n1 n2 n3 n4 n5 n6
        go_wp2_with fail
        have u1 : Utf8.encode 105 = ⟨#[105]⟩ := by rfl
        have u2 : Utf8.encode 98 = ⟨#[98]⟩ := by rfl
        have u3 : (⟨#[35]⟩ : ByteArray) ++ ⟨#[55]⟩ = ⟨#[35, 55]⟩ := by rfl
        have u4 : (⟨#[35, 55]⟩ : ByteArray) ++ ⟨#[105]⟩ = ⟨#[35, 55, 105]⟩ := by rfl
        have u5 : (⟨#[35, 55, 105]⟩ : ByteArray) ++ ⟨#[98]⟩ = ⟨#[35, 55, 105, 98]⟩ := by rfl
        have z1 : (⟨#[105]⟩ : ByteArray).size = 1 := rfl
        have z2 : (⟨#[98]⟩ : ByteArray).size = 1 := rfl
        have z3 : (⟨#[35, 55]⟩ : ByteArray).size = 2 := rfl
        have z4 : (⟨#[35, 55, 105]⟩ : ByteArray).size = 3 := rfl
        have z5 : (⟨#[35, 55, 105, 98]⟩ : ByteArray).size = 4 := rfl
        refine wp_region_held_drew (S := (fun W' => W'.cell? ⟨wr.heap.size, 4, none⟩ = some (.int .i64 7) ∧ W'.cell? ⟨wr.heap.size, 5, none⟩ = some (.int .u8 105) ∧ W'.cell? ⟨wr.heap.size, 6, none⟩ = some (.int .u8 98))) (by kernel_rfl) ?ss1 (fun hHeld => ?rr1)
        case ss1 => (try dsimp only); exact HKEEP.out _ (Lib.OthersKept.refl _ _ _)
        refine wpAnyH_take (i := 0) (oi := ⟨some 37, _, _, _, _, _⟩) (v := ?vv2) rfl (by kernel_rfl) (by kernel_rfl) (by kernel_rfl) (fun _ _ _ h => h) (Or.inl ⟨by rfl, ?yy2⟩) (by assumption) ?rr2
        case yy2 => (intro wq hSw; (try dsimp only at hSw); go_simp; try with_reducible rfl)
        try simp only [Act.put, List.setIfInBounds_toArray, List.set_cons_zero, List.set_cons_succ]
        refine wpAnyH_take (i := 1) (oi := ⟨some 38, _, _, _, _, _⟩) (v := ?vv3) rfl (by kernel_rfl) (by kernel_rfl) (by kernel_rfl) (fun _ _ _ h => h) (Or.inl ⟨by rfl, ?yy3⟩) (by assumption) ?rr3
        case yy3 => (intro wq hSw; (try dsimp only at hSw); go_simp; try with_reducible rfl)
        try simp only [Act.put, List.setIfInBounds_toArray, List.set_cons_zero, List.set_cons_succ]
        refine wpAnyH_take (i := 4) (oi := ⟨some 41, _, _, _, _, _⟩) (v := ?vv4) rfl (by kernel_rfl) (by kernel_rfl) (by kernel_rfl) (fun _ _ _ h => h) (Or.inl ⟨by rfl, ?yy4⟩) (by assumption) ?rr4
        case yy4 => (intro wq hSw; (try dsimp only at hSw); go_simp; try with_reducible rfl)
        try simp only [Act.put, List.setIfInBounds_toArray, List.set_cons_zero, List.set_cons_succ]
        refine wpAnyH_take (i := 5) (oi := ⟨some 42, _, _, _, _, _⟩) (v := ?vv5) rfl (by kernel_rfl) (by kernel_rfl) (by kernel_rfl) (fun _ _ _ h => h) (Or.inl ⟨by rfl, ?yy5⟩) (by assumption) ?rr5
        case yy5 => (intro wq hSw; (try dsimp only at hSw); go_simp; try with_reducible rfl)
        try simp only [Act.put, List.setIfInBounds_toArray, List.set_cons_zero, List.set_cons_succ]
        refine wpAnyH_take (i := 6) (oi := ⟨some 43, _, _, _, _, _⟩) (v := ?vv6) rfl (by kernel_rfl) (by kernel_rfl) (by kernel_rfl) (fun _ _ _ h => h) (Or.inl ⟨by rfl, ?yy6⟩) (by assumption) ?rr6
        case yy6 => (intro wq hSw; (try dsimp only at hSw); go_simp; try with_reducible rfl)
        try simp only [Act.put, List.setIfInBounds_toArray, List.set_cons_zero, List.set_cons_succ]
        refine wpAnyH_take (i := 8) (oi := ⟨some 45, _, _, _, _, _⟩) (v := ?vv7) rfl (by kernel_rfl) (by kernel_rfl) (by kernel_rfl) (fun _ _ _ h => h) (Or.inl ⟨by rfl, ?yy7⟩) (by assumption) ?rr7
        case yy7 => (intro wq hSw; (try dsimp only at hSw); go_simp; try with_reducible rfl)
        try simp only [Act.put, List.setIfInBounds_toArray, List.set_cons_zero, List.set_cons_succ]
        refine wpAnyH_take (i := 9) (oi := ⟨some 46, _, _, _, _, _⟩) (v := ?vv8) rfl (by kernel_rfl) (by kernel_rfl) (by kernel_rfl) (fun _ _ _ h => h) (Or.inl ⟨by rfl, ?yy8⟩) (by assumption) ?rr8
        case yy8 => (intro wq hSw; (try dsimp only at hSw); go_simp; try with_reducible rfl)
        try simp only [Act.put, List.setIfInBounds_toArray, List.set_cons_zero, List.set_cons_succ]
        refine wpAnyH_take (i := 10) (oi := ⟨some 47, _, _, _, _, _⟩) (v := ?vv9) rfl (by kernel_rfl) (by kernel_rfl) (by kernel_rfl) (fun _ _ _ h => h) (Or.inl ⟨by rfl, ?yy9⟩) (by assumption) ?rr9
        case yy9 => (intro wq hSw; (try dsimp only at hSw); go_simp; try with_reducible rfl)
        try simp only [Act.put, List.setIfInBounds_toArray, List.set_cons_zero, List.set_cons_succ]
        refine wpAnyH_ready (rs := [2]) (by kernel_rfl) (by simp) ?_
        refine AllReadyH.cons (o := ⟨some 39, _, _, _, _, _⟩) rfl (fun K hK => ?_) AllReadyH.nil
        go_simp
        ((refine (HF.out _).mono ?_); rintro e w4 ⟨rfl, rfl⟩)
        refine hK.out _ _ ?ss10 (fun hHeld2 => ?rr10)
        case ss10 => (try dsimp only); exact HKEEP.out _ (Lib.OthersKept.refl _ _ _)
        clear hK K
        clear hHeld
        have hHeld := hHeld2
        clear hHeld2
        try simp only [Act.put, List.setIfInBounds_toArray, List.set_cons_zero, List.set_cons_succ]
        refine wpAnyH_take (i := 3) (oi := ⟨some 40, _, _, _, _, _⟩) (v := ?vv11) rfl (by kernel_rfl) (by kernel_rfl) (by kernel_rfl) (fun _ _ _ h => h) (Or.inl ⟨by rfl, ?yy11⟩) (by assumption) ?rr11
        case yy11 => (intro wq hSw; (try dsimp only at hSw); go_simp; try with_reducible rfl)
        try simp only [Act.put, List.setIfInBounds_toArray, List.set_cons_zero, List.set_cons_succ]
        refine wpAnyH_take (i := 7) (oi := ⟨some 44, _, _, _, _, _⟩) (v := ?vv12) rfl (by kernel_rfl) (by kernel_rfl) (by kernel_rfl) (fun _ _ _ h => h) (Or.inl ⟨by rfl, ?yy12⟩) (by assumption) ?rr12
        case yy12 => (intro wq hSw; (try dsimp only at hSw); go_simp; try with_reducible rfl)
        try simp only [Act.put, List.setIfInBounds_toArray, List.set_cons_zero, List.set_cons_succ]
        refine wpAnyH_take (i := 11) (oi := ⟨some 48, _, _, _, _, _⟩) (v := ?vv13) rfl (by kernel_rfl) (by kernel_rfl) (by kernel_rfl) (fun _ _ _ h => h) (Or.inl ⟨by rfl, ?yy13⟩) (by assumption) ?rr13
        case yy13 => (intro wq hSw; (try dsimp only at hSw); go_simp; try with_reducible rfl)
        try simp only [Act.put, List.setIfInBounds_toArray, List.set_cons_zero, List.set_cons_succ]
        refine wpAnyH_ready (rs := [12]) (by kernel_rfl) (by simp) ?_
        refine AllReadyH.cons (o := ⟨some 49, _, _, _, _, _⟩) rfl (fun K hK => ?_) AllReadyH.nil
        go_simp
        ((refine (HWS.out _ (by decide)).mono ?_); rintro e w5 ⟨rfl, hp5, hb5, hk5⟩)
        refine hK.out _ _ ?ss14 (fun hHeld2 => ?rr14)
        case ss14 => (try dsimp only); exact HKEEP.out _ hk5
        clear hK K
        clear hHeld
        have hHeld := hHeld2
        clear hHeld2
        try simp only [Act.put, List.setIfInBounds_toArray, List.set_cons_zero, List.set_cons_succ]
        refine wpAnyH_done (by kernel_rfl) ?_ _
        have hl4 := hp5.lt
        have HP4 := Lib.hid (And.intro hp5 hb5)
        clear hp5 hb5 hk5 hHeld n0 n1 n2 n3 n4 n5 n6
        go_wp2_with fail
        go_roundg 0
        case measure => omega
        case rel => exact ⟨3, by omega, rfl, by go_num, .inr HP4.out.1, HW3.out.2.drew.trans (HP4.out.2.mono hbb.1), hl4⟩
    · obtain rfl : k = 3 := by omega
      have hstr := pen_string b b (preW 3) wr HP.out (by decide)
      go_wp2_with fail
      (refine hstr.mono ?_); rintro ev w4 ⟨rfl, hb4⟩
      go_wp2_with fail
      go_ret2
      exact ⟨rfl, HB.out.trans (hb4.mono hbb.1)⟩
end Go.Proofs.YtjklecncdinabaaGreatDoor.C
