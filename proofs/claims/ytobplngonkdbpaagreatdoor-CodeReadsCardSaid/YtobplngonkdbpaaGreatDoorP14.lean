/- Parts of this claim: AnE, AnP, AnF. -/
import Derived.Laws.CopyOwn
import Derived.Test.YtobplngonkdbpaaGreatDoorP11
import Derived.Test.YtobplngonkdbpaaGreatDoorP13
import Derived.Test.YtobplngonkdbpaaGreatDoorP01
set_option linter.unusedVariables false
set_option linter.unusedSimpArgs false
/- AnE -/
namespace Go.Proofs.YtobplngonkdbpaaGreatDoor.D
open Go.RowKit
open Go.Proofs.YtobplngonkdbpaaGreatDoor.B
set_option linter.unusedVariables false
set_option linter.unusedSimpArgs false

theorem results_cell_tmp1 {fn : Func} {p u : Tmp} {ty : TypeId} (h : fn.results = #[.cell p ty, .tmp u]) (tmps : Array Value) (P : Program) (w : World) (g : Nat) (cs : Array Value)
    (hp : tmps.getD p undef = .pointer (some ⟨g, 0, none⟩)) (hload : (loadVar ty ⟨g, 0, none⟩).run P w = .ok (.agg cs) w) :
    (results fn tmps).run P w = .ok (.tuple #[.agg cs, tmps.getD u undef]) w := by
  have hp' : tmps[p]?.getD undef = .pointer (some ⟨g, 0, none⟩) := by simpa using hp
  simp [results, h, hp', asAddr, hload]
/-- What a look at a node returns. -/
def NodeA (v : Option Nd) (w : World) (e : Ending) (w' : World) : Prop :=
  ∃ (c : Nd) (g : Bool), e = .returned (.tuple #[.agg (ndC c).toArray, .bool g]) ∧ g = v.isSome ∧ (∀ t, v = some t → c = t) ∧ Below w.heap.size w w'
theorem nodeA_none {v : Option Nd} {c : Nd} {w w' : World} (h : v = none) (hb : Below w.heap.size w w') : NodeA v w (.returned (.tuple #[.agg (ndC c).toArray, .bool false])) w' :=
  ⟨c, false, rfl, (by rw [h]; rfl), (fun t ht => by rw [h] at ht; cases ht), hb⟩
theorem nodeA_some {v : Option Nd} {c : Nd} {w w' : World} (h : v = some c) (hb : Below w.heap.size w w') : NodeA v w (.returned (.tuple #[.agg (ndC c).toArray, .bool true])) w' :=
  ⟨c, true, rfl, (by rw [h]; rfl), (fun t ht => by rw [h] at ht; injection ht), hb⟩
theorem isNone {α : Type} {v : Option α} (h : false = v.isSome) : v = none := by cases v <;> simp_all
theorem isSome {α : Type} {v : Option α} {z : α} (h : true = v.isSome) (hv : ∀ t, v = some t → z = t) : v = some z := by
  cases v with
  | none => cases h
  | some t => rw [hv t rfl]
theorem i8_same {a : Int} (h : -128 ≤ a) (k : a ≤ 127) : IntKind.i8.wrap a = a := by simp [IntKind.wrap, IntKind.bits, IntKind.signed]; omega
theorem ndV_len {s : Bs} (h : (splitC 46 s).length ≠ 7) : ndV s = none := by
  unfold ndV
  split
  · rename_i heq; rw [heq] at h; simp at h
  · rfl
/-- A node of seven looks. -/
def ndK (a b c d e f g : Option Int) : Option Nd := match a, b, c, d, e, f, g with
  | some a, some b, some c, some d, some e, some f, some g => some ⟨a, b, c == 1, d, e, f, g⟩
  | _, _, _, _, _, _, _ => none
theorem ndV_seven {s a b c d e f g : Bs} (h : splitC 46 s = [a, b, c, d, e, f, g]) :
    ndV s = ndK (numB (-128) 127 a) (numB (-9223372036854775808) 9223372036854775807 b) (numB 0 1 c) (numB 0 255 d) (numB (-9223372036854775808) 9223372036854775807 e) (numB 0 255 f) (numB 0 255 g) := by
  unfold ndV ndK
  rw [h, numV_all, numV_all]
  rfl
theorem seven_of {l : List Bs} (h : l.length = 7) : ∃ a b c d e f g, l = [a, b, c, d, e, f, g] := by
  match l, h with
  | [a, b, c, d, e, f, g], _ => exact ⟨_, _, _, _, _, _, _, rfl⟩

theorem ndK_0 {b c d e f g : Option Int} : ndK none b c d e f g = none := by unfold ndK; rfl
theorem ndK_1 {a c d e f g : Option Int} : ndK a none c d e f g = none := by unfold ndK; cases a <;> rfl
theorem ndK_2 {a b d e f g : Option Int} : ndK a b none d e f g = none := by unfold ndK; cases a <;> cases b <;> rfl
theorem ndK_3 {a b c e f g : Option Int} : ndK a b c none e f g = none := by unfold ndK; cases a <;> cases b <;> cases c <;> rfl
theorem ndK_4 {a b c d f g : Option Int} : ndK a b c d none f g = none := by unfold ndK; cases a <;> cases b <;> cases c <;> cases d <;> rfl
theorem ndK_5 {a b c d e g : Option Int} : ndK a b c d e none g = none := by unfold ndK; cases a <;> cases b <;> cases c <;> cases d <;> cases e <;> rfl
theorem ndK_6 {a b c d e f : Option Int} : ndK a b c d e f none = none := by unfold ndK; cases a <;> cases b <;> cases c <;> cases d <;> cases e <;> cases f <;> rfl
set_option maxRecDepth 100000 in
set_option maxHeartbeats 4000000 in
theorem coA_any (s : Bs) (w : World) (hl : s.length ≤ 1073741824) :
    Calls Tryz.prog 148 #[strV s] w fun e w' => NodeA (ndV s) w e w' := by
  have hwl := splitC_len 46 s
  have hcount := splitC_count 46 s
  obtain ⟨b2, hb2⟩ : ∃ b, w.heap.size = b := ⟨_, rfl⟩
  obtain ⟨W1, hW1⟩ : ∃ W1, w.alloc (.cells #[.int .i8 0, .int .i64 0, .bool false, .int .u8 0, .int .i64 0, .int .u8 0, .int .u8 0] 86) = W1 := ⟨_, rfl⟩
  have k2 : Blk W1 b2 86 #[.int .i8 0, .int .i64 0, .bool false, .int .u8 0, .int .i64 0, .int .u8 0, .int .u8 0] := by rw [← hW1, ← hb2]; exact Blk.new _ _ _
  have hb1 : Below w.heap.size w W1 := by rw [← hW1]; exact bal b0 _
  have hS := Lib.hid (splitA_any s W1 hl)
  have H1 := Lib.hid (And.intro hb1 (And.intro k2 hb2))
  clear k2 hb1
  unfold strV at hS ⊢
  go_enter Tryz.func148, Tryz.ntmps148
  go_upto_region 1 with fail
  clear hb2 hW1
  go_wp2_with fail
  (refine hS.out.mono ?_); rintro ev w2 ⟨v, rfl, hos⟩
  have k3 := H1.out.2.1.below hos.2 H1.out.2.1.lt
  have c3 := fun i => k3.cell i
  have z3 := k3.frozen
  obtain ⟨AV, cV, rfl, hc1, hc2⟩ := own_shape hos.1
  by_cases h7 : (splitC 46 s).length = 7
  rotate_left
  · have g1 : (((splitC 46 s).length : Int) != 7) = true := by simp; omega
    have HN := Lib.hid (ndV_len h7)
    have HB := Lib.hid (bl H1.out.1 hos.2)
    have HK := Lib.hid k3
    clear h7 hwl hcount hos hc1 hc2 k3 c3 z3
    go_wp2_with (refine wpList_store_row rfl 86 (.tmp 2) (.tmp 25) rfl b2 #[.int .i8 0, .int .i64 0, .bool false, .int .u8 0, .int .i64 0, .int .u8 0, .int .u8 0] rfl rfl 86 #[.int .i8 0, .int .i64 0, .bool false, .int .u8 0, .int .i64 0, .int .u8 0, .int .u8 0] HK.out (by kernel_rfl) rfl (by kernel_rfl) ?_)
    (try simp only [Exit.inBlock, Exit.then])
    refine bodyPost_ret (results_cell_tmp1 rfl _ _ _ b2 #[.int .i8 0, .int .i64 0, .bool false, .int .u8 0, .int .i64 0, .int .u8 0, .int .u8 0] rfl (run_loadVar_row _ b2 86 _ _ (0, 0) _ (setRow_heap _ _ _ _ _ _ HK.out) Tryz.underlying86 rfl (by kernel_rfl))) rfl ?_
    exact nodeA_none (c := ⟨0, 0, false, 0, 0, 0, 0⟩) HN.out (below_setRow HB.out (Nat.le_of_eq H1.out.2.2) _)
  obtain ⟨xa, xb, xc, xd, xe, xf, xg, hx⟩ := seven_of h7
  have HV := Lib.hid (ndV_seven hx)
  rw [hx] at hos hwl
  obtain ⟨_, bw, cw, hbw0, hbw, hbw2, hcw, hq⟩ := wordsK hos.1 (show 0 < 7 by decide)
  injection hbw0 with eA _ eC
  subst eA
  subst eC
  have q0 := hq 0 xa rfl
  have ha := Lib.hid (numberA_any xa (-128) (127) w2 (Nat.le_trans (hwl xa (by simp)) hl))
  have q1 := hq 1 xb rfl
  have hb := Lib.hid (numberA_any xb (-9223372036854775808) (9223372036854775807) w2 (Nat.le_trans (hwl xb (by simp)) hl))
  have q2 := hq 2 xc rfl
  have hc := Lib.hid (numberA_any xc (0) (1) w2 (Nat.le_trans (hwl xc (by simp)) hl))
  have q3 := hq 3 xd rfl
  have hd := Lib.hid (numberA_any xd (0) (255) w2 (Nat.le_trans (hwl xd (by simp)) hl))
  have q4 := hq 4 xe rfl
  have he := Lib.hid (numberA_any xe (-9223372036854775808) (9223372036854775807) w2 (Nat.le_trans (hwl xe (by simp)) hl))
  have q5 := hq 5 xf rfl
  have hf := Lib.hid (numberA_any xf (0) (255) w2 (Nat.le_trans (hwl xf (by simp)) hl))
  have q6 := hq 6 xg rfl
  have hg := Lib.hid (numberA_any xg (0) (255) w2 (Nat.le_trans (hwl xg (by simp)) hl))
  unfold strV at q0 q1 q2 q3 q4 q5 q6 ha hb hc hd he hf hg
  rw [h7]
  have HB := Lib.hid (And.intro (bl H1.out.1 hos.2) k3)
  have e7 : ((7 : Nat) : Int) = 7 := rfl
  clear hq hos hwl hx h7 hcount hbw2 hcw hc1 hc2 k3 c3 z3
  go_wp2_with fail
  (refine ha.out.mono ?_); rintro ev wx ⟨a, ga, rfl, ra, sa, va, rfl⟩
  have Fa := Lib.hid (And.intro ra (And.intro sa va))
  clear ra sa va ha
  go_wp2_with fail
  (refine hb.out.mono ?_); rintro ev wx ⟨b, gb, rfl, rb, sb, vb, rfl⟩
  have Fb := Lib.hid (And.intro rb (And.intro sb vb))
  clear rb sb vb hb
  go_wp2_with fail
  (refine hc.out.mono ?_); rintro ev wx ⟨c, gc, rfl, rc, sc, vc, rfl⟩
  have Fc := Lib.hid (And.intro rc (And.intro sc vc))
  clear rc sc vc hc
  go_wp2_with fail
  (refine hd.out.mono ?_); rintro ev wx ⟨d, gd, rfl, rd, sd, vd, rfl⟩
  have Fd := Lib.hid (And.intro rd (And.intro sd vd))
  clear rd sd vd hd
  go_wp2_with fail
  (refine he.out.mono ?_); rintro ev wx ⟨e, ge, rfl, re, se, ve, rfl⟩
  have Fe := Lib.hid (And.intro re (And.intro se ve))
  clear re se ve he
  go_wp2_with fail
  (refine hf.out.mono ?_); rintro ev wx ⟨f, gf, rfl, rf, sf, vf, rfl⟩
  have Ff := Lib.hid (And.intro rf (And.intro sf vf))
  clear rf sf vf hf
  go_wp2_with fail
  (refine hg.out.mono ?_); rintro ev wx ⟨g, gg, rfl, rg, sg, vg, rfl⟩
  have Fg := Lib.hid (And.intro rg (And.intro sg vg))
  clear rg sg vg hg
  go_upto_region 11 with fail
  go_upto_region 12 with fail
  obtain ⟨b9, hb9⟩ : ∃ b, w2.heap.size = b := ⟨_, rfl⟩
  obtain ⟨W3, hW3⟩ : ∃ W3, w2.alloc (.cells #[.int .i8 (IntKind.i8.wrap a), .int .i64 b, .bool (c == 1), .int .u8 (d % 256), .int .i64 e, .int .u8 (f % 256), .int .u8 (g % 256)] 86) = W3 := ⟨_, rfl⟩
  have HZ := Lib.hid (show Blk W3 b9 86 #[.int .i8 (IntKind.i8.wrap a), .int .i64 b, .bool (c == 1), .int .u8 (d % 256), .int .i64 e, .int .u8 (f % 256), .int .u8 (g % 256)] ∧ Blk W3 b2 86 #[.int .i8 0, .int .i64 0, .bool false, .int .u8 0, .int .i64 0, .int .u8 0, .int .u8 0] ∧ Below w.heap.size w W3 from ⟨by rw [← hW3, ← hb9]; exact Blk.new _ _ _, by rw [← hW3]; exact HB.out.2.alloc _, by rw [← hW3]; exact bal HB.out.1 _⟩)
  rw [hW3, hb9]
  clear hW3 hb9 q0 q1 q2 q3 q4 q5 q6
  cases ga with
  | false =>
    have HN := Lib.hid (show ndV s = none from by rw [HV.out, isNone Fa.out.2.1]; exact ndK_0)
    go_wp2_with (first | (refine wpList_load_row rfl 86 (.tmp 19) rfl b9 rfl 86 #[.int .i8 (IntKind.i8.wrap a), .int .i64 b, .bool (c == 1), .int .u8 (d % 256), .int .i64 e, .int .u8 (f % 256), .int .u8 (g % 256)] (0, 0) _ HZ.out.1 Tryz.underlying86 rfl (by kernel_rfl) ?_) | (refine wpList_store_row rfl 86 (.tmp 2) (.tmp 88) rfl b2 #[.int .i8 (IntKind.i8.wrap a), .int .i64 b, .bool (c == 1), .int .u8 (d % 256), .int .i64 e, .int .u8 (f % 256), .int .u8 (g % 256)] rfl rfl 86 #[.int .i8 0, .int .i64 0, .bool false, .int .u8 0, .int .i64 0, .int .u8 0, .int .u8 0] HZ.out.2.1 (by kernel_rfl) rfl (by kernel_rfl) ?_))
    (try simp only [Exit.inBlock, Exit.then])
    refine bodyPost_ret (results_cell_tmp1 rfl _ _ _ b2 #[.int .i8 (IntKind.i8.wrap a), .int .i64 b, .bool (c == 1), .int .u8 (d % 256), .int .i64 e, .int .u8 (f % 256), .int .u8 (g % 256)] rfl (run_loadVar_row _ b2 86 _ _ (0, 0) _ (setRow_heap _ _ _ _ _ _ HZ.out.2.1) Tryz.underlying86 rfl (by kernel_rfl))) rfl ?_
    exact nodeA_none (c := ⟨IntKind.i8.wrap a, b, c == 1, d % 256, e, f % 256, g % 256⟩) HN.out (below_setRow HZ.out.2.2 (Nat.le_of_eq H1.out.2.2) _)
  | true =>
    cases gb with
    | false =>
      have HN := Lib.hid (show ndV s = none from by rw [HV.out, isNone Fb.out.2.1]; exact ndK_1)
      go_wp2_with (first | (refine wpList_load_row rfl 86 (.tmp 19) rfl b9 rfl 86 #[.int .i8 (IntKind.i8.wrap a), .int .i64 b, .bool (c == 1), .int .u8 (d % 256), .int .i64 e, .int .u8 (f % 256), .int .u8 (g % 256)] (0, 0) _ HZ.out.1 Tryz.underlying86 rfl (by kernel_rfl) ?_) | (refine wpList_store_row rfl 86 (.tmp 2) (.tmp 88) rfl b2 #[.int .i8 (IntKind.i8.wrap a), .int .i64 b, .bool (c == 1), .int .u8 (d % 256), .int .i64 e, .int .u8 (f % 256), .int .u8 (g % 256)] rfl rfl 86 #[.int .i8 0, .int .i64 0, .bool false, .int .u8 0, .int .i64 0, .int .u8 0, .int .u8 0] HZ.out.2.1 (by kernel_rfl) rfl (by kernel_rfl) ?_))
      (try simp only [Exit.inBlock, Exit.then])
      refine bodyPost_ret (results_cell_tmp1 rfl _ _ _ b2 #[.int .i8 (IntKind.i8.wrap a), .int .i64 b, .bool (c == 1), .int .u8 (d % 256), .int .i64 e, .int .u8 (f % 256), .int .u8 (g % 256)] rfl (run_loadVar_row _ b2 86 _ _ (0, 0) _ (setRow_heap _ _ _ _ _ _ HZ.out.2.1) Tryz.underlying86 rfl (by kernel_rfl))) rfl ?_
      exact nodeA_none (c := ⟨IntKind.i8.wrap a, b, c == 1, d % 256, e, f % 256, g % 256⟩) HN.out (below_setRow HZ.out.2.2 (Nat.le_of_eq H1.out.2.2) _)
    | true =>
      cases gc with
      | false =>
        have HN := Lib.hid (show ndV s = none from by rw [HV.out, isNone Fc.out.2.1]; exact ndK_2)
        go_wp2_with (first | (refine wpList_load_row rfl 86 (.tmp 19) rfl b9 rfl 86 #[.int .i8 (IntKind.i8.wrap a), .int .i64 b, .bool (c == 1), .int .u8 (d % 256), .int .i64 e, .int .u8 (f % 256), .int .u8 (g % 256)] (0, 0) _ HZ.out.1 Tryz.underlying86 rfl (by kernel_rfl) ?_) | (refine wpList_store_row rfl 86 (.tmp 2) (.tmp 88) rfl b2 #[.int .i8 (IntKind.i8.wrap a), .int .i64 b, .bool (c == 1), .int .u8 (d % 256), .int .i64 e, .int .u8 (f % 256), .int .u8 (g % 256)] rfl rfl 86 #[.int .i8 0, .int .i64 0, .bool false, .int .u8 0, .int .i64 0, .int .u8 0, .int .u8 0] HZ.out.2.1 (by kernel_rfl) rfl (by kernel_rfl) ?_))
        (try simp only [Exit.inBlock, Exit.then])
        refine bodyPost_ret (results_cell_tmp1 rfl _ _ _ b2 #[.int .i8 (IntKind.i8.wrap a), .int .i64 b, .bool (c == 1), .int .u8 (d % 256), .int .i64 e, .int .u8 (f % 256), .int .u8 (g % 256)] rfl (run_loadVar_row _ b2 86 _ _ (0, 0) _ (setRow_heap _ _ _ _ _ _ HZ.out.2.1) Tryz.underlying86 rfl (by kernel_rfl))) rfl ?_
        exact nodeA_none (c := ⟨IntKind.i8.wrap a, b, c == 1, d % 256, e, f % 256, g % 256⟩) HN.out (below_setRow HZ.out.2.2 (Nat.le_of_eq H1.out.2.2) _)
      | true =>
        cases gd with
        | false =>
          have HN := Lib.hid (show ndV s = none from by rw [HV.out, isNone Fd.out.2.1]; exact ndK_3)
          go_wp2_with (first | (refine wpList_load_row rfl 86 (.tmp 19) rfl b9 rfl 86 #[.int .i8 (IntKind.i8.wrap a), .int .i64 b, .bool (c == 1), .int .u8 (d % 256), .int .i64 e, .int .u8 (f % 256), .int .u8 (g % 256)] (0, 0) _ HZ.out.1 Tryz.underlying86 rfl (by kernel_rfl) ?_) | (refine wpList_store_row rfl 86 (.tmp 2) (.tmp 88) rfl b2 #[.int .i8 (IntKind.i8.wrap a), .int .i64 b, .bool (c == 1), .int .u8 (d % 256), .int .i64 e, .int .u8 (f % 256), .int .u8 (g % 256)] rfl rfl 86 #[.int .i8 0, .int .i64 0, .bool false, .int .u8 0, .int .i64 0, .int .u8 0, .int .u8 0] HZ.out.2.1 (by kernel_rfl) rfl (by kernel_rfl) ?_))
          (try simp only [Exit.inBlock, Exit.then])
          refine bodyPost_ret (results_cell_tmp1 rfl _ _ _ b2 #[.int .i8 (IntKind.i8.wrap a), .int .i64 b, .bool (c == 1), .int .u8 (d % 256), .int .i64 e, .int .u8 (f % 256), .int .u8 (g % 256)] rfl (run_loadVar_row _ b2 86 _ _ (0, 0) _ (setRow_heap _ _ _ _ _ _ HZ.out.2.1) Tryz.underlying86 rfl (by kernel_rfl))) rfl ?_
          exact nodeA_none (c := ⟨IntKind.i8.wrap a, b, c == 1, d % 256, e, f % 256, g % 256⟩) HN.out (below_setRow HZ.out.2.2 (Nat.le_of_eq H1.out.2.2) _)
        | true =>
          cases ge with
          | false =>
            have HN := Lib.hid (show ndV s = none from by rw [HV.out, isNone Fe.out.2.1]; exact ndK_4)
            go_wp2_with (first | (refine wpList_load_row rfl 86 (.tmp 19) rfl b9 rfl 86 #[.int .i8 (IntKind.i8.wrap a), .int .i64 b, .bool (c == 1), .int .u8 (d % 256), .int .i64 e, .int .u8 (f % 256), .int .u8 (g % 256)] (0, 0) _ HZ.out.1 Tryz.underlying86 rfl (by kernel_rfl) ?_) | (refine wpList_store_row rfl 86 (.tmp 2) (.tmp 88) rfl b2 #[.int .i8 (IntKind.i8.wrap a), .int .i64 b, .bool (c == 1), .int .u8 (d % 256), .int .i64 e, .int .u8 (f % 256), .int .u8 (g % 256)] rfl rfl 86 #[.int .i8 0, .int .i64 0, .bool false, .int .u8 0, .int .i64 0, .int .u8 0, .int .u8 0] HZ.out.2.1 (by kernel_rfl) rfl (by kernel_rfl) ?_))
            (try simp only [Exit.inBlock, Exit.then])
            refine bodyPost_ret (results_cell_tmp1 rfl _ _ _ b2 #[.int .i8 (IntKind.i8.wrap a), .int .i64 b, .bool (c == 1), .int .u8 (d % 256), .int .i64 e, .int .u8 (f % 256), .int .u8 (g % 256)] rfl (run_loadVar_row _ b2 86 _ _ (0, 0) _ (setRow_heap _ _ _ _ _ _ HZ.out.2.1) Tryz.underlying86 rfl (by kernel_rfl))) rfl ?_
            exact nodeA_none (c := ⟨IntKind.i8.wrap a, b, c == 1, d % 256, e, f % 256, g % 256⟩) HN.out (below_setRow HZ.out.2.2 (Nat.le_of_eq H1.out.2.2) _)
          | true =>
            cases gf with
            | false =>
              have HN := Lib.hid (show ndV s = none from by rw [HV.out, isNone Ff.out.2.1]; exact ndK_5)
              go_wp2_with (first | (refine wpList_load_row rfl 86 (.tmp 19) rfl b9 rfl 86 #[.int .i8 (IntKind.i8.wrap a), .int .i64 b, .bool (c == 1), .int .u8 (d % 256), .int .i64 e, .int .u8 (f % 256), .int .u8 (g % 256)] (0, 0) _ HZ.out.1 Tryz.underlying86 rfl (by kernel_rfl) ?_) | (refine wpList_store_row rfl 86 (.tmp 2) (.tmp 88) rfl b2 #[.int .i8 (IntKind.i8.wrap a), .int .i64 b, .bool (c == 1), .int .u8 (d % 256), .int .i64 e, .int .u8 (f % 256), .int .u8 (g % 256)] rfl rfl 86 #[.int .i8 0, .int .i64 0, .bool false, .int .u8 0, .int .i64 0, .int .u8 0, .int .u8 0] HZ.out.2.1 (by kernel_rfl) rfl (by kernel_rfl) ?_))
              (try simp only [Exit.inBlock, Exit.then])
              refine bodyPost_ret (results_cell_tmp1 rfl _ _ _ b2 #[.int .i8 (IntKind.i8.wrap a), .int .i64 b, .bool (c == 1), .int .u8 (d % 256), .int .i64 e, .int .u8 (f % 256), .int .u8 (g % 256)] rfl (run_loadVar_row _ b2 86 _ _ (0, 0) _ (setRow_heap _ _ _ _ _ _ HZ.out.2.1) Tryz.underlying86 rfl (by kernel_rfl))) rfl ?_
              exact nodeA_none (c := ⟨IntKind.i8.wrap a, b, c == 1, d % 256, e, f % 256, g % 256⟩) HN.out (below_setRow HZ.out.2.2 (Nat.le_of_eq H1.out.2.2) _)
            | true =>
              cases gg with
              | false =>
                have HN := Lib.hid (show ndV s = none from by rw [HV.out, isNone Fg.out.2.1]; exact ndK_6)
                go_wp2_with (first | (refine wpList_load_row rfl 86 (.tmp 19) rfl b9 rfl 86 #[.int .i8 (IntKind.i8.wrap a), .int .i64 b, .bool (c == 1), .int .u8 (d % 256), .int .i64 e, .int .u8 (f % 256), .int .u8 (g % 256)] (0, 0) _ HZ.out.1 Tryz.underlying86 rfl (by kernel_rfl) ?_) | (refine wpList_store_row rfl 86 (.tmp 2) (.tmp 88) rfl b2 #[.int .i8 (IntKind.i8.wrap a), .int .i64 b, .bool (c == 1), .int .u8 (d % 256), .int .i64 e, .int .u8 (f % 256), .int .u8 (g % 256)] rfl rfl 86 #[.int .i8 0, .int .i64 0, .bool false, .int .u8 0, .int .i64 0, .int .u8 0, .int .u8 0] HZ.out.2.1 (by kernel_rfl) rfl (by kernel_rfl) ?_))
                (try simp only [Exit.inBlock, Exit.then])
                refine bodyPost_ret (results_cell_tmp1 rfl _ _ _ b2 #[.int .i8 (IntKind.i8.wrap a), .int .i64 b, .bool (c == 1), .int .u8 (d % 256), .int .i64 e, .int .u8 (f % 256), .int .u8 (g % 256)] rfl (run_loadVar_row _ b2 86 _ _ (0, 0) _ (setRow_heap _ _ _ _ _ _ HZ.out.2.1) Tryz.underlying86 rfl (by kernel_rfl))) rfl ?_
                exact nodeA_none (c := ⟨IntKind.i8.wrap a, b, c == 1, d % 256, e, f % 256, g % 256⟩) HN.out (below_setRow HZ.out.2.2 (Nat.le_of_eq H1.out.2.2) _)
              | true =>
                have ta := isSome Fa.out.2.1 Fa.out.2.2
                have tb := isSome Fb.out.2.1 Fb.out.2.2
                have tc := isSome Fc.out.2.1 Fc.out.2.2
                have td := isSome Fd.out.2.1 Fd.out.2.2
                have te := isSome Fe.out.2.1 Fe.out.2.2
                have tf := isSome Ff.out.2.1 Ff.out.2.2
                have tg := isSome Fg.out.2.1 Fg.out.2.2
                have HN := Lib.hid (show ndV s = some ⟨IntKind.i8.wrap a, b, c == 1, d % 256, e, f % 256, g % 256⟩ from by
                  have n1 := (numB_some ta).2.2
                  have n2 := (numB_some td).2.2
                  have n3 := (numB_some tf).2.2
                  have n4 := (numB_some tg).2.2
                  rw [HV.out, ta, tb, tc, td, te, tf, tg, i8_same n1.1 n1.2, Int.emod_eq_of_lt n2.1 (by omega), Int.emod_eq_of_lt n3.1 (by omega), Int.emod_eq_of_lt n4.1 (by omega)]; rfl)
                clear ta tb tc td te tf tg
                go_wp2_with (first | (refine wpList_load_row rfl 86 (.tmp 19) rfl b9 rfl 86 #[.int .i8 (IntKind.i8.wrap a), .int .i64 b, .bool (c == 1), .int .u8 (d % 256), .int .i64 e, .int .u8 (f % 256), .int .u8 (g % 256)] (0, 0) _ HZ.out.1 Tryz.underlying86 rfl (by kernel_rfl) ?_) | (refine wpList_store_row rfl 86 (.tmp 2) (.tmp 88) rfl b2 #[.int .i8 (IntKind.i8.wrap a), .int .i64 b, .bool (c == 1), .int .u8 (d % 256), .int .i64 e, .int .u8 (f % 256), .int .u8 (g % 256)] rfl rfl 86 #[.int .i8 0, .int .i64 0, .bool false, .int .u8 0, .int .i64 0, .int .u8 0, .int .u8 0] HZ.out.2.1 (by kernel_rfl) rfl (by kernel_rfl) ?_))
                (try simp only [Exit.inBlock, Exit.then])
                refine bodyPost_ret (results_cell_tmp1 rfl _ _ _ b2 #[.int .i8 (IntKind.i8.wrap a), .int .i64 b, .bool (c == 1), .int .u8 (d % 256), .int .i64 e, .int .u8 (f % 256), .int .u8 (g % 256)] rfl (run_loadVar_row _ b2 86 _ _ (0, 0) _ (setRow_heap _ _ _ _ _ _ HZ.out.2.1) Tryz.underlying86 rfl (by kernel_rfl))) rfl ?_
                exact nodeA_some HN.out (below_setRow HZ.out.2.2 (Nat.le_of_eq H1.out.2.2) _)
end Go.Proofs.YtobplngonkdbpaaGreatDoor.D

/- AnP -/
namespace Go.Proofs.YtobplngonkdbpaaGreatDoor.D
open Go Go.Lib
set_option linter.unusedVariables false
set_option linter.unusedSimpArgs false

/-- What holds of all bytes from one place up to another. -/
def clean (P : UInt8 → Prop) (s : Bs) (a e : Nat) : Prop := ∀ x ∈ (s.drop a).take (e - a), P x
theorem clean_self {P : UInt8 → Prop} (s : Bs) (a : Nat) : clean P s a a := by intro x hx; simp at hx
theorem clean_next {P : UInt8 → Prop} {s : Bs} {a e : Nat} {c : UInt8} (h : clean P s a e) (hf : a ≤ e) (hc : s[e]? = some c) (hp : P c) : clean P s a (e + 1) := by
  intro x hx
  rw [show e + 1 - a = (e - a) + 1 by omega, List.take_add_one, List.getElem?_drop, show a + (e - a) = e by omega, hc] at hx
  rcases List.mem_append.1 hx with hx | hx
  · exact h x hx
  · simp at hx; rw [hx]; exact hp
theorem drop_at {s : Bs} {e : Nat} {c : UInt8} (h : s[e]? = some c) : s.drop e = c :: s.drop (e + 1) := by
  have hl : e < s.length := (List.getElem?_eq_some_iff.1 h).1
  rw [List.drop_eq_getElem_cons hl, (List.getElem?_eq_some_iff.1 h).2]
theorem drop_parts {s : Bs} {a e : Nat} (h : a ≤ e) : s.drop a = (s.drop a).take (e - a) ++ s.drop e := by
  conv => lhs; rw [← List.take_append_drop (e - a) (s.drop a)]
  rw [List.drop_drop, show a + (e - a) = e by omega]
theorem quoW_no : ∀ b : Bs, (∀ x ∈ b, x.toNat ≠ 34) → quoW b = none
  | [], _ => rfl
  | x :: b, h => by rw [quoW, if_neg (h x (by simp)), quoW_no b fun y hy => h y (by simp [hy])]
theorem bareW_to : ∀ (b r : Bs), (∀ x ∈ b, x.toNat ≠ 32 ∧ x.toNat ≠ 34) → (r = [] ∨ ∃ c t, r = c :: t ∧ (c.toNat = 32 ∨ c.toNat = 34)) → bareW (b ++ r) = (b, r)
  | [], r, _, h => by
    rcases h with rfl | ⟨c, t, rfl, h⟩
    · rfl
    · rw [List.nil_append, bareW, if_pos h]
  | x :: b, r, h, hr => by
    rw [List.cons_append, bareW, if_neg (by have := h x (by simp); omega), bareW_to b r (fun y hy => h y (by simp [hy])) hr]
theorem quo_found {s : Bs} {a e : Nat} (h : clean (fun x => x.toNat ≠ 34) s a e) (hf : a ≤ e) (hc : s[e]? = some 34) : quoW (s.drop a) = some ((s.drop a).take (e - a) ++ [34], s.drop (e + 1)) := by
  conv => lhs; rw [drop_parts hf, drop_at hc]
  exact quoW_good _ _ h
theorem quo_none {s : Bs} {a e : Nat} (h : clean (fun x => x.toNat ≠ 34) s a e) (he : e = s.length) : quoW (s.drop a) = none := by
  subst he
  refine quoW_no _ fun x hx => h x ?_
  rwa [List.take_of_length_le (by simp)]
theorem bare_found {s : Bs} {a e : Nat} (h : clean (fun x => x.toNat ≠ 32 ∧ x.toNat ≠ 34) s a e) (hf : a ≤ e) (hc : e = s.length ∨ ∃ c, s[e]? = some c ∧ (c.toNat = 32 ∨ c.toNat = 34)) : bareW (s.drop a) = ((s.drop a).take (e - a), s.drop e) := by
  conv => lhs; rw [drop_parts hf]
  refine bareW_to _ _ h ?_
  rcases hc with rfl | ⟨c, hc, h2⟩
  · left; simp
  · right; exact ⟨c, _, drop_at hc, h2⟩
/-- The word at a place ends at e. -/
def wordAt (s : Bs) (a e : Nat) : Prop := wordW (s.drop a) = some ((s.drop a).take (e - a), s.drop e)
theorem word_quo {s : Bs} {a e : Nat} (h0 : s[a]? = some 34) (h : clean (fun x => x.toNat ≠ 34) s (a + 1) e) (hf : a + 1 ≤ e) (hc : s[e]? = some 34) : wordAt s a (e + 1) := by
  unfold wordAt
  rw [drop_at h0, wordW, if_pos (by decide), quo_found h hf hc]
  simp only
  rw [show e + 1 - a = (e - (a + 1)) + 1 + 1 by omega, List.take_succ_cons, List.take_add_one, List.getElem?_drop, show a + 1 + (e - (a + 1)) = e by omega, hc]
  rfl
theorem word_quo_none {s : Bs} {a e : Nat} (h0 : s[a]? = some 34) (h : clean (fun x => x.toNat ≠ 34) s (a + 1) e) (he : e = s.length) : wordW (s.drop a) = none := by
  rw [drop_at h0, wordW, if_pos (by decide), quo_none h he]
theorem word_bare {s : Bs} {a e : Nat} (h0 : a = s.length ∨ ∃ c, s[a]? = some c ∧ c.toNat ≠ 34) (h : clean (fun x => x.toNat ≠ 32 ∧ x.toNat ≠ 34) s a e) (hf : a ≤ e) (hc : e = s.length ∨ ∃ c, s[e]? = some c ∧ (c.toNat = 32 ∨ c.toNat = 34)) : wordAt s a e := by
  unfold wordAt
  have hb := bare_found h hf hc
  rcases h0 with rfl | ⟨c, h0, h1⟩
  · rw [List.drop_length] at hb ⊢
    rcases hc with rfl | ⟨c, hc, _⟩
    · simp [wordW]
    · have := (List.getElem?_eq_some_iff.1 hc).1; omega
  · rw [drop_at h0] at hb ⊢
    rw [wordW, if_neg h1, hb]
theorem cut_none {s : Bs} {a : Nat} (h : wordW (s.drop a) = none) : cutW (s.drop a) = none := by
  rw [cutW]
  split
  · rfl
  · rename_i h2; rw [h] at h2; cases h2
  · rename_i h2; rw [h] at h2; cases h2
theorem cut_last {s : Bs} {a e : Nat} (h : wordAt s a e) (he : e = s.length) : cutW (s.drop a) = some [(s.drop a).take (e - a)] := by
  unfold wordAt at h
  subst he
  rw [List.drop_length] at h
  rw [cutW]
  split
  · rename_i h2; rw [h] at h2; cases h2
  · rename_i w h2; rw [h] at h2; injection h2 with h2; injection h2 with h2 _; rw [h2]
  · rename_i h2; rw [h] at h2; injection h2 with h2; injection h2 with _ h2; cases h2
theorem cut_more {s : Bs} {a e : Nat} (h : wordAt s a e) (hc : s[e]? = some 32) : cutW (s.drop a) = (cutW (s.drop (e + 1))).map ((s.drop a).take (e - a) :: ·) := by
  unfold wordAt at h
  rw [drop_at hc] at h
  rw [cutW]
  split
  · rename_i h2; rw [h] at h2; cases h2
  · rename_i h2; rw [h] at h2; injection h2 with h2; injection h2 with _ h2; cases h2
  · rename_i h2; rw [h] at h2; injection h2 with h2; injection h2 with h2 h3; injection h3 with h3 h4; subst h2 h3 h4; rw [if_pos (by decide)]
theorem cut_bad {s : Bs} {a e : Nat} {c : UInt8} (h : wordAt s a e) (hc : s[e]? = some c) (hn : c.toNat ≠ 32) : cutW (s.drop a) = none := by
  unfold wordAt at h
  rw [drop_at hc] at h
  rw [cutW]
  split
  · rfl
  · rename_i h2; rw [h] at h2; injection h2 with h2; injection h2 with _ h2; cases h2
  · rename_i h2; rw [h] at h2; injection h2 with h2; injection h2 with h2 h3; injection h3 with h3 h4; subst h3; rw [if_neg hn]
end Go.Proofs.YtobplngonkdbpaaGreatDoor.D

/- AnF -/
namespace Go.Proofs.YtobplngonkdbpaaGreatDoor.D
open Go.RowKit
open Go.Proofs.YtobplngonkdbpaaGreatDoor.B
set_option linter.unusedVariables false
set_option linter.unusedSimpArgs false

/-- What the answer's parting of a line returns. -/
def CutQ (s : Bs) (w : World) (e : Ending) (w' : World) : Prop :=
  (∃ v ws, cutW s = some ws ∧ e = .returned (.tuple #[v, .bool true]) ∧ OS w w' v ws) ∨ (cutW s = none ∧ e = .returned (.tuple #[.slice none 0 0, .bool false]) ∧ Below w.heap.size w w')
theorem cutQ_some {s : Bs} {ws : List Bs} {v : Value} {w w' : World} (h : cutW s = some ws) (ho : OS w w' v ws) : CutQ s w (.returned (.tuple #[v, .bool true])) w' := .inl ⟨v, ws, h, rfl, ho⟩
theorem cutQ_none {s : Bs} {w w' : World} (h : cutW s = none) (hb : Below w.heap.size w w') : CutQ s w (.returned (.tuple #[.slice none 0 0, .bool false])) w' := .inr ⟨h, rfl, hb⟩

set_option maxRecDepth 100000 in
set_option maxHeartbeats 4000000 in
theorem cutA_any (s : Bs) (w : World) (hl : s.length ≤ 1073741824) :
    Calls Tryz.prog 112 #[strV s] w fun e w' => CutQ s w e w' := by
  obtain ⟨i0, hi0, hz0, hz1, hz2⟩ := info_parts info9
  have hsz := str_size s
  unfold strV
  go_enter Tryz.func112, Tryz.ntmps112
  go_wp2_with fail
  go_loopg [4, 5] s.length (fun g u b wr => ∃ (ws : List Bs) (a : Nat), a ≤ s.length ∧ g = s.length - a ∧ b = .int .i64 a ∧ ws.length ≤ a ∧ Hid (OS w wr u ws ∧ cutW s = (cutW (s.drop a)).map (ws ++ ·)))
  case atStart => exact ⟨[], 0, by omega, rfl, rfl, Nat.le_refl 0, Lib.hid ⟨OS.nil w, by simp⟩⟩
  case round =>
    obtain ⟨ws, a, hal, rfl, rfl, hwl, HP⟩ := hrel
    obtain ⟨AV, cV, rfl, hc1, hc2⟩ := own_shape HP.out.1.1
    by_cases hlt : a < s.length
    rotate_left
    · have g1 : ¬ ((a : Int) < (s.length : Int)) := by omega
      have HF := Lib.hid (show a = s.length ∨ ∃ c, s[a]? = some c ∧ c.toNat ≠ 34 from .inl (by omega))
      have HLT := Lib.hid (show a = s.length by omega)
      clear hlt
      go_wp2_with fail
      go_loopg [6] (s.length - a) (fun g v wi => ∃ e : Nat, g = s.length - e ∧ v = .int .i64 e ∧ a ≤ e ∧ e ≤ s.length ∧ Hid (clean (fun x => x.toNat ≠ 32 ∧ x.toNat ≠ 34) s a e) ∧ wi = wr)
      case atStart => exact ⟨a, rfl, rfl, Nat.le_refl _, by omega, Lib.hid (clean_self _ _), rfl⟩
      case round =>
        obtain ⟨E, rfl, rfl, haE, hE, HCl, rfl⟩ := hrel
        by_cases hend : E = s.length
        · have HW := Lib.hid (word_bare HF.out HCl.out haE (.inl hend))
          have g5 : ¬ ((E : Int) < (s.length : Int)) := by omega
          have hEe := hend
          clear hend
          go_upto_region 13 with fail
          clear g5 HCl
          have hext := ext_at s a E
          obtain ⟨p, hp⟩ : ∃ p, (s.drop a).take (E - a) = p := ⟨_, rfl⟩
          rw [hp] at hext
          have gaE : (a : Int) ≤ (E : Int) := by omega
          have gEl : (E : Int) ≤ (s.length : Int) := by omega

          have HN := Lib.hid (show cutW s = some (ws ++ [p]) by rw [HP.out.2, cut_last HW.out hEe, hp]; rfl)
          have ge : ((E : Int) == (s.length : Int)) = true := by simp; omega
          clear hEe hp
          go_wp2_with (at_builtin; refine wpList_append_sl _ rfl (.tmp 56) (.tmp 61) _ rfl w.heap.size 9 i0 _ 1 16 Tryz.underlying25 hi0 hz0 hz1 hz2 rfl (by omega) _ _ _ rfl (HP.out.1.on (bal b0 _)).1 (wr.heap.size + 1) (some ⟨wr.heap.size, 0, none⟩) 1 1 [.string ⟨p.toArray⟩] rfl (Sl.one wr _ _) (fun u hu => by rw [List.mem_singleton.1 hu]; rfl) (by unfold maxLen; omega) (by omega) (by have := HP.out.1.2.size; simp only [World.size_alloc]; omega) ?_; intro v' w2 hown2 hgrow _; have HO2 := Lib.hid (HP.out.1.app (c := p) (bal b0 _) hown2 hgrow); clear hown2 hgrow)
          go_ret2
          exact cutQ_some HN.out HO2.out
        exfalso; have := HLT.out; omega
    have g1 : ((a : Int) < (s.length : Int)) := by omega
    obtain ⟨c, hc⟩ : ∃ c, s[a]? = some c := ⟨_, List.getElem?_eq_getElem hlt⟩
    have hak : a < (⟨s.toArray⟩ : ByteArray).size := by rw [hsz]; exact hlt
    have hata := str_at hc hak
    have hc255 := c.toNat_lt
    by_cases hq : c = 34
    rotate_left
    · have eq34 : ((c.toNat : Int) == 34) = false := by
        have : c.toNat ≠ 34 := fun e => hq (UInt8.toNat_inj.1 e)
        simp; omega
      have HF := Lib.hid (show a = s.length ∨ ∃ c, s[a]? = some c ∧ c.toNat ≠ 34 from .inr ⟨c, hc, fun e => hq (UInt8.toNat_inj.1 e)⟩)
      clear hq hc
      go_wp2_with fail
      go_loopg [6] (s.length - a) (fun g v wi => ∃ e : Nat, g = s.length - e ∧ v = .int .i64 e ∧ a ≤ e ∧ e ≤ s.length ∧ Hid (clean (fun x => x.toNat ≠ 32 ∧ x.toNat ≠ 34) s a e) ∧ wi = wr)
      case atStart => exact ⟨a, rfl, rfl, Nat.le_refl _, by omega, Lib.hid (clean_self _ _), rfl⟩
      case round =>
        obtain ⟨E, rfl, rfl, haE, hE, HCl, rfl⟩ := hrel
        by_cases hend : E = s.length
        · have HW := Lib.hid (word_bare HF.out HCl.out haE (.inl hend))
          have g5 : ¬ ((E : Int) < (s.length : Int)) := by omega
          have hEe := hend
          clear hend
          go_upto_region 13 with fail
          clear g5 HCl
          have hext := ext_at s a E
          obtain ⟨p, hp⟩ : ∃ p, (s.drop a).take (E - a) = p := ⟨_, rfl⟩
          rw [hp] at hext
          have gaE : (a : Int) ≤ (E : Int) := by omega
          have gEl : (E : Int) ≤ (s.length : Int) := by omega

          have HN := Lib.hid (show cutW s = some (ws ++ [p]) by rw [HP.out.2, cut_last HW.out hEe, hp]; rfl)
          have ge : ((E : Int) == (s.length : Int)) = true := by simp; omega
          clear hEe hp
          go_wp2_with (at_builtin; refine wpList_append_sl _ rfl (.tmp 56) (.tmp 61) _ rfl w.heap.size 9 i0 _ 1 16 Tryz.underlying25 hi0 hz0 hz1 hz2 rfl (by omega) _ _ _ rfl (HP.out.1.on (bal b0 _)).1 (wr.heap.size + 1) (some ⟨wr.heap.size, 0, none⟩) 1 1 [.string ⟨p.toArray⟩] rfl (Sl.one wr _ _) (fun u hu => by rw [List.mem_singleton.1 hu]; rfl) (by unfold maxLen; omega) (by omega) (by have := HP.out.1.2.size; simp only [World.size_alloc]; omega) ?_; intro v' w2 hown2 hgrow _; have HO2 := Lib.hid (HP.out.1.app (c := p) (bal b0 _) hown2 hgrow); clear hown2 hgrow)
          go_ret2
          exact cutQ_some HN.out HO2.out
        have helt : E < s.length := by omega
        have g5 : ((E : Int) < (s.length : Int)) := by omega
        obtain ⟨x, hx⟩ : ∃ x, s[E]? = some x := ⟨_, List.getElem?_eq_getElem helt⟩
        have hek : E < (⟨s.toArray⟩ : ByteArray).size := by rw [hsz]; exact helt
        have hate := str_at hx hek
        have hx255 := x.toNat_lt
        by_cases h3 : x = 32
        · subst h3
          have e32 : (((32 : UInt8).toNat : Int) != 32) = false := by decide
          have HW := Lib.hid (word_bare HF.out HCl.out haE (.inr ⟨_, hx, .inl (by decide)⟩))
          have hElt := helt
          have hd := hx
          clear hx hend
          go_upto_region 13 with fail
          clear g5 hek hate e32 helt HCl
          have hext := ext_at s a E
          obtain ⟨p, hp⟩ : ∃ p, (s.drop a).take (E - a) = p := ⟨_, rfl⟩
          rw [hp] at hext
          have gaE : (a : Int) ≤ (E : Int) := by omega
          have gEl : (E : Int) ≤ (s.length : Int) := by omega

          have ge : ((E : Int) == (s.length : Int)) = false := by simp; omega
          have gl : (E : Int) < (s.length : Int) := by omega
          have hEk : E < (⟨s.toArray⟩ : ByteArray).size := by rw [hsz]; exact hElt
          have hatE := str_at hd hEk

          have e3 : (((32 : UInt8).toNat : Int) != 32) = false := by decide
          have HN := Lib.hid (show cutW s = (cutW (s.drop (E + 1))).map ((ws ++ [p]) ++ ·) by
            rw [HP.out.2, cut_more HW.out hd, hp, Option.map_map]; congr 1; funext t; simp)
          clear hp hd
          go_wp2_with (at_builtin; refine wpList_append_sl _ rfl (.tmp 56) (.tmp 61) _ rfl w.heap.size 9 i0 _ 1 16 Tryz.underlying25 hi0 hz0 hz1 hz2 rfl (by omega) _ _ _ rfl (HP.out.1.on (bal b0 _)).1 (wr.heap.size + 1) (some ⟨wr.heap.size, 0, none⟩) 1 1 [.string ⟨p.toArray⟩] rfl (Sl.one wr _ _) (fun u hu => by rw [List.mem_singleton.1 hu]; rfl) (by unfold maxLen; omega) (by omega) (by have := HP.out.1.2.size; simp only [World.size_alloc]; omega) ?_; intro v' w2 hown2 hgrow _; have HO2 := Lib.hid (HP.out.1.app (c := p) (bal b0 _) hown2 hgrow); clear hown2 hgrow)
          go_roundg (s.length - (E + 1))
          case measure => omega
          case rel => exact ⟨ws ++ [p], E + 1, by omega, rfl, by go_num, by rw [List.length_append, List.length_singleton]; omega, Lib.hid ⟨HO2.out, HN.out⟩⟩
        have e32 : ((x.toNat : Int) != 32) = true := by
          have : x.toNat ≠ 32 := fun e => h3 (UInt8.toNat_inj.1 e)
          simp; omega
        by_cases h34 : x = 34
        · subst h34
          have e34 : (((34 : UInt8).toNat : Int) != 34) = false := by decide
          have HW := Lib.hid (word_bare HF.out HCl.out haE (.inr ⟨_, hx, .inr (by decide)⟩))
          have hElt := helt
          have hd := hx
          clear hx hend
          go_upto_region 13 with fail
          clear g5 hek hate e32 e34 helt HCl
          have hext := ext_at s a E
          obtain ⟨p, hp⟩ : ∃ p, (s.drop a).take (E - a) = p := ⟨_, rfl⟩
          rw [hp] at hext
          have gaE : (a : Int) ≤ (E : Int) := by omega
          have gEl : (E : Int) ≤ (s.length : Int) := by omega

          have ge : ((E : Int) == (s.length : Int)) = false := by simp; omega
          have gl : (E : Int) < (s.length : Int) := by omega
          have hEk : E < (⟨s.toArray⟩ : ByteArray).size := by rw [hsz]; exact hElt
          have hatE := str_at hd hEk

          have e3 : (((34 : UInt8).toNat : Int) != 32) = true := by decide
          have HN := Lib.hid (show cutW s = none by
            rw [HP.out.2, cut_bad HW.out hd (by decide)]; rfl)
          clear hp hd
          go_wp2_with (at_builtin; refine wpList_append_sl _ rfl (.tmp 56) (.tmp 61) _ rfl w.heap.size 9 i0 _ 1 16 Tryz.underlying25 hi0 hz0 hz1 hz2 rfl (by omega) _ _ _ rfl (HP.out.1.on (bal b0 _)).1 (wr.heap.size + 1) (some ⟨wr.heap.size, 0, none⟩) 1 1 [.string ⟨p.toArray⟩] rfl (Sl.one wr _ _) (fun u hu => by rw [List.mem_singleton.1 hu]; rfl) (by unfold maxLen; omega) (by omega) (by have := HP.out.1.2.size; simp only [World.size_alloc]; omega) ?_; intro v' w2 hown2 hgrow _; have HO2 := Lib.hid (HP.out.1.app (c := p) (bal b0 _) hown2 hgrow); clear hown2 hgrow)
          go_ret2
          exact cutQ_none HN.out HO2.out.2
        · have e34 : ((x.toNat : Int) != 34) = true := by
            have : x.toNat ≠ 34 := fun e => h34 (UInt8.toNat_inj.1 e)
            simp; omega
          have HC2 := Lib.hid (clean_next HCl.out haE hx ⟨fun e => h3 (UInt8.toNat_inj.1 e), fun e => h34 (UInt8.toNat_inj.1 e)⟩)
          clear hx h34 h3 hend
          go_wp2_with fail
          go_roundg (s.length - (E + 1))
          case measure => omega
          case rel => exact ⟨E + 1, rfl, by go_num, by omega, by omega, HC2, rfl⟩
    subst hq
    have eq34 : (((34 : UInt8).toNat : Int) == 34) = true := by decide
    have HC0 := Lib.hid hc
    clear hc
    go_wp2_with fail
    go_loopg [6] (s.length - (a + 1)) (fun g v wi => ∃ e : Nat, g = s.length - e ∧ v = .int .i64 e ∧ a + 1 ≤ e ∧ e ≤ s.length ∧ Hid (clean (fun x => x.toNat ≠ 34) s (a + 1) e) ∧ wi = wr)
    case atStart => exact ⟨a + 1, rfl, by go_num, Nat.le_refl _, by omega, Lib.hid (clean_self _ _), rfl⟩
    case round =>
      obtain ⟨e, rfl, rfl, hae, hel, HCl, rfl⟩ := hrel
      by_cases hend : e = s.length
      · have HN := Lib.hid (show cutW s = none by
          rw [HP.out.2, cut_none (word_quo_none HC0.out HCl.out hend)]; rfl)
        have g5 : ¬ ((e : Int) < (s.length : Int)) := by omega
        have g6 : ((e : Int) == (s.length : Int)) = true := by simp; omega
        clear hend
        go_wp2_with fail
        go_ret2
        exact cutQ_none HN.out HP.out.1.2
      have helt : e < s.length := by omega
      have g5 : ((e : Int) < (s.length : Int)) := by omega
      have g6 : ((e : Int) == (s.length : Int)) = false := by simp; omega
      obtain ⟨x, hx⟩ : ∃ x, s[e]? = some x := ⟨_, List.getElem?_eq_getElem helt⟩
      have hek : e < (⟨s.toArray⟩ : ByteArray).size := by rw [hsz]; exact helt
      have hate := str_at hx hek
      have hx255 := x.toNat_lt
      by_cases h34 : x = 34
      · subst h34
        have e34 : (((34 : UInt8).toNat : Int) != 34) = false := by decide
        obtain ⟨E, hEe1⟩ : ∃ E, e + 1 = E := ⟨_, rfl⟩
        have HW := Lib.hid (show wordAt s a E by rw [← hEe1]; exact word_quo HC0.out HCl.out hae hx)
        have w6 : IntKind.i64.wrap ((e : Int) + 1) = (E : Int) := by rw [IntWalk.i64_in _ ⟨by omega, by omega⟩]; omega
        have haE : a ≤ E := by omega
        have hE : E ≤ s.length := by omega
        clear hx hEe1 hend
        go_upto_region 13 with fail
        clear g5 g6 hek hate e34 w6 helt hae hel HCl
        have hext := ext_at s a E
        obtain ⟨p, hp⟩ : ∃ p, (s.drop a).take (E - a) = p := ⟨_, rfl⟩
        rw [hp] at hext
        have gaE : (a : Int) ≤ (E : Int) := by omega
        have gEl : (E : Int) ≤ (s.length : Int) := by omega
        by_cases hEe : E = s.length
        · have HN := Lib.hid (show cutW s = some (ws ++ [p]) by rw [HP.out.2, cut_last HW.out hEe, hp]; rfl)
          have ge : ((E : Int) == (s.length : Int)) = true := by simp; omega
          clear hEe hp
          go_wp2_with (at_builtin; refine wpList_append_sl _ rfl (.tmp 56) (.tmp 61) _ rfl w.heap.size 9 i0 _ 1 16 Tryz.underlying25 hi0 hz0 hz1 hz2 rfl (by omega) _ _ _ rfl (HP.out.1.on (bal b0 _)).1 (wr.heap.size + 1) (some ⟨wr.heap.size, 0, none⟩) 1 1 [.string ⟨p.toArray⟩] rfl (Sl.one wr _ _) (fun u hu => by rw [List.mem_singleton.1 hu]; rfl) (by unfold maxLen; omega) (by omega) (by have := HP.out.1.2.size; simp only [World.size_alloc]; omega) ?_; intro v' w2 hown2 hgrow _; have HO2 := Lib.hid (HP.out.1.app (c := p) (bal b0 _) hown2 hgrow); clear hown2 hgrow)
          go_ret2
          exact cutQ_some HN.out HO2.out
        have hElt : E < s.length := by omega
        obtain ⟨d, hd⟩ : ∃ d, s[E]? = some d := ⟨_, List.getElem?_eq_getElem hElt⟩
        have hd255 := d.toNat_lt
        have ge : ((E : Int) == (s.length : Int)) = false := by simp; omega
        have gl : (E : Int) < (s.length : Int) := by omega
        have hEk : E < (⟨s.toArray⟩ : ByteArray).size := by rw [hsz]; exact hElt
        have hatE := str_at hd hEk
        clear hEe
        by_cases h32 : d = 32
        · subst h32
          have e3 : (((32 : UInt8).toNat : Int) != 32) = false := by decide
          have HN := Lib.hid (show cutW s = (cutW (s.drop (E + 1))).map ((ws ++ [p]) ++ ·) by
            rw [HP.out.2, cut_more HW.out hd, hp, Option.map_map]; congr 1; funext t; simp)
          clear hp hd
          go_wp2_with (at_builtin; refine wpList_append_sl _ rfl (.tmp 56) (.tmp 61) _ rfl w.heap.size 9 i0 _ 1 16 Tryz.underlying25 hi0 hz0 hz1 hz2 rfl (by omega) _ _ _ rfl (HP.out.1.on (bal b0 _)).1 (wr.heap.size + 1) (some ⟨wr.heap.size, 0, none⟩) 1 1 [.string ⟨p.toArray⟩] rfl (Sl.one wr _ _) (fun u hu => by rw [List.mem_singleton.1 hu]; rfl) (by unfold maxLen; omega) (by omega) (by have := HP.out.1.2.size; simp only [World.size_alloc]; omega) ?_; intro v' w2 hown2 hgrow _; have HO2 := Lib.hid (HP.out.1.app (c := p) (bal b0 _) hown2 hgrow); clear hown2 hgrow)
          go_roundg (s.length - (E + 1))
          case measure => omega
          case rel => exact ⟨ws ++ [p], E + 1, by omega, rfl, by go_num, by rw [List.length_append, List.length_singleton]; omega, Lib.hid ⟨HO2.out, HN.out⟩⟩
        · have e3 : ((d.toNat : Int) != 32) = true := by
            have : d.toNat ≠ 32 := fun e => h32 (UInt8.toNat_inj.1 e)
            simp; omega
          have HN := Lib.hid (show cutW s = none by
            rw [HP.out.2, cut_bad HW.out hd (fun e => h32 (UInt8.toNat_inj.1 e))]; rfl)
          clear hp hd h32
          go_wp2_with (at_builtin; refine wpList_append_sl _ rfl (.tmp 56) (.tmp 61) _ rfl w.heap.size 9 i0 _ 1 16 Tryz.underlying25 hi0 hz0 hz1 hz2 rfl (by omega) _ _ _ rfl (HP.out.1.on (bal b0 _)).1 (wr.heap.size + 1) (some ⟨wr.heap.size, 0, none⟩) 1 1 [.string ⟨p.toArray⟩] rfl (Sl.one wr _ _) (fun u hu => by rw [List.mem_singleton.1 hu]; rfl) (by unfold maxLen; omega) (by omega) (by have := HP.out.1.2.size; simp only [World.size_alloc]; omega) ?_; intro v' w2 hown2 hgrow _; have HO2 := Lib.hid (HP.out.1.app (c := p) (bal b0 _) hown2 hgrow); clear hown2 hgrow)
          go_ret2
          exact cutQ_none HN.out HO2.out.2
      · have e34 : ((x.toNat : Int) != 34) = true := by
          have : x.toNat ≠ 34 := fun e => h34 (UInt8.toNat_inj.1 e)
          simp; omega
        have HC2 := Lib.hid (clean_next HCl.out hae hx (fun e => h34 (UInt8.toNat_inj.1 e)))
        clear hx h34 hend
        go_wp2_with fail
        go_roundg (s.length - (e + 1))
        case measure => omega
        case rel => exact ⟨e + 1, rfl, by go_num, by omega, by omega, HC2, rfl⟩
end Go.Proofs.YtobplngonkdbpaaGreatDoor.D
