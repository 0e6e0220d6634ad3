/- Contract: the answer's Both, its small cases. Printed by gen_cqb.py. -/
import Derived.Test.YtjklecncdinabaaGreatDoorCqA
namespace Go.Proofs.YtjklecncdinabaaGreatDoor.C
open Go.RowKit Go.Proofs.YtjklecncdinabaaGreatDoor.B
set_option linter.unusedVariables false
set_option linter.unusedSimpArgs false

def BothQ (C : Nat → Prop) (r : Co) (w : World) (e : Ending) (w' : World) : Prop := ∃ s, e = .returned (TV r s) ∧ TrS w' (fun b => C b ∨ w.heap.size ≤ b) r s ∧ Below w.heap.size w w'
theorem TrS.nilF (w : World) (C : Nat → Prop) (p l f t : Int) : TrS w C (.fail p l f t) (.slice none 0 0) := ⟨none, 0, rfl, by unfold maxLen; omega⟩

set_option maxRecDepth 100000 in
set_option maxHeartbeats 2000000 in
theorem bothR_left (s t : Co) (sS tS : Value) (C : Nat → Prop) (w : World) (h : s.nd.op = 7 ∨ t.nd.op = 1) (hs : TrS w C s sS) :
    Calls Tryz.prog 27 #[TV s sS, TV t tS] w fun e w' => BothQ C s w e w' := by
  unfold BothQ
  have hts : ∀ W, Below w.heap.size w W → TrS W (fun b => C b ∨ w.heap.size ≤ b) s sS := fun W hb => (hs.below hb).mono fun _ h => .inl h
  have HTS := Lib.hid hts
  have HTV := Lib.hid (show ∀ s0, TV s s0 = TV s s0 from fun _ => rfl)
  obtain ⟨sA, sc, rfl, _, _⟩ := hs.slice
  clear hs hts
  generalize s.nk = sn at *
  have hsv := TV_eq s (.slice sA sn sc)
  have htv := TV_eq t tS
  obtain ⟨n, hn⟩ : ∃ n, s.nd = n := ⟨_, rfl⟩
  obtain ⟨m, hm⟩ : ∃ m, t.nd = m := ⟨_, rfl⟩
  rw [hn] at h hsv
  rw [hm] at h htv
  obtain ⟨ao, ap, ai, ah, al, af, at'⟩ := n
  obtain ⟨bo, bp, bi, bh, bl', bf, bt⟩ := m
  simp only at h hsv htv
  rw [hsv, htv]
  have HSV := Lib.hid hsv
  clear hsv htv hn hm
  by_cases h7 : ao = 7
  · subst h7
    clear h

    go_enter Tryz.func27, Tryz.ntmps27
    go_upto_region 1 with fail
    obtain ⟨W, hW⟩ : ∃ W, (((w.alloc (.cells #[.int .i8 7, .int .i64 ap, .bool ai, .int .u8 ah, .int .i64 al, .int .u8 af, .int .u8 at', .slice sA sn sc] 31)).alloc (.cells #[.int .i8 bo, .int .i64 bp, .bool bi, .int .u8 bh, .int .i64 bl', .int .u8 bf, .int .u8 bt, tS] 31)).alloc (.cells #[.int .i8 0, .int .i64 0, .bool false, .int .u8 0, .int .i64 0, .int .u8 0, .int .u8 0, .slice none 0 0] 31)) = W := ⟨_, rfl⟩
    rw [hW]
    have hb : Below w.heap.size w W := by rw [← hW]; exact bal (bal (bal b0 _) _) _
    have hx : Blk W w.heap.size 31 #[.int .i8 7, .int .i64 ap, .bool ai, .int .u8 ah, .int .i64 al, .int .u8 af, .int .u8 at', .slice sA sn sc] := by rw [← hW]; exact ((Blk.new w _ _).alloc _).alloc _
    have hy : Blk W (w.heap.size + 1) 31 #[.int .i8 bo, .int .i64 bp, .bool bi, .int .u8 bh, .int .i64 bl', .int .u8 bf, .int .u8 bt, tS] := by
      rw [← hW]
      have := (Blk.new (w.alloc (.cells #[.int .i8 7, .int .i64 ap, .bool ai, .int .u8 ah, .int .i64 al, .int .u8 af, .int .u8 at', .slice sA sn sc] 31)) 31 #[.int .i8 bo, .int .i64 bp, .bool bi, .int .u8 bh, .int .i64 bl', .int .u8 bf, .int .u8 bt, tS]).alloc (.cells #[.int .i8 0, .int .i64 0, .bool false, .int .u8 0, .int .i64 0, .int .u8 0, .int .u8 0, .slice none 0 0] 31)
      rwa [World.size_alloc] at this
    have hz : Blk W (w.heap.size + 2) 31 #[.int .i8 0, .int .i64 0, .bool false, .int .u8 0, .int .i64 0, .int .u8 0, .int .u8 0, .slice none 0 0] := by
      rw [← hW]
      have := (Blk.new ((w.alloc (.cells #[.int .i8 7, .int .i64 ap, .bool ai, .int .u8 ah, .int .i64 al, .int .u8 af, .int .u8 at', .slice sA sn sc] 31)).alloc (.cells #[.int .i8 bo, .int .i64 bp, .bool bi, .int .u8 bh, .int .i64 bl', .int .u8 bf, .int .u8 bt, tS] 31)) 31 #[.int .i8 0, .int .i64 0, .bool false, .int .u8 0, .int .i64 0, .int .u8 0, .int .u8 0, .slice none 0 0])
      simpa only [World.size_alloc] using this
    have hsz : W.heap.size = w.heap.size + 3 := by rw [← hW]; simp only [World.size_alloc]
    clear hW
    obtain ⟨x0, x1, x2, x3, x4, x5, x6, x7⟩ := blk_cells8 hx
    obtain ⟨y0, y1, y2, y3, y4, y5, y6, y7⟩ := blk_cells8 hy
    obtain ⟨z0, z1, z2, z3, z4, z5, z6, z7⟩ := blk_cells8 hz
    have f0 := fun i => hz.frozen i
    have HW := Lib.hid (And.intro hb (And.intro hx (And.intro hy (And.intro hz hsz))))
    clear hb hx hy hz hsz
    go_wp2_with fail
    obtain ⟨Wz, hWz⟩ : ∃ Wz, set8 W (w.heap.size + 2) (.int .i8 7) (.int .i64 ap) (.bool ai) (.int .u8 ah) (.int .i64 al) (.int .u8 af) (.int .u8 at') (.slice sA sn sc) = Wz := ⟨_, rfl⟩
    change bodyPost _ _ _ _ _ (set8 W (w.heap.size + 2) (.int .i8 7) (.int .i64 ap) (.bool ai) (.int .u8 ah) (.int .i64 al) (.int .u8 af) (.int .u8 at') (.slice sA sn sc))
    have hbz : Blk Wz (w.heap.size + 2) 31 _ := hWz ▸ blk_set8 (HW.out.2.2.2.1) _ _ _ _ _ _ _ _
    have hbb : Below w.heap.size w Wz := hWz ▸ below_set8 (HW.out.1) (by omega) _ _ _ _ _ _ _ _
    rw [hWz]
    clear z0 z1 z2 z3 z4 z5 z6 z7
    obtain ⟨z0, z1, z2, z3, z4, z5, z6, z7⟩ := blk_cells8 hbz
    refine bodyPost_ret (v := .agg #[.int .i8 7, .int .i64 ap, .bool ai, .int .u8 ah, .int .i64 al, .int .u8 af, .int .u8 at', .slice sA sn sc]) (by simp [results, Tryz.results27, go_sem, z0, z1, z2, z3, z4, z5, z6, z7]) rfl ?_
    exact ⟨_, by rw [HSV.out], HTS.out _ hbb, hbb⟩

  · obtain rfl : bo = 1 := h.resolve_left h7
    have e7 : (ao == 7) = false := by simpa using h7
    clear h h7

    go_enter Tryz.func27, Tryz.ntmps27
    go_upto_region 1 with fail
    obtain ⟨W, hW⟩ : ∃ W, (((w.alloc (.cells #[.int .i8 ao, .int .i64 ap, .bool ai, .int .u8 ah, .int .i64 al, .int .u8 af, .int .u8 at', .slice sA sn sc] 31)).alloc (.cells #[.int .i8 1, .int .i64 bp, .bool bi, .int .u8 bh, .int .i64 bl', .int .u8 bf, .int .u8 bt, tS] 31)).alloc (.cells #[.int .i8 0, .int .i64 0, .bool false, .int .u8 0, .int .i64 0, .int .u8 0, .int .u8 0, .slice none 0 0] 31)) = W := ⟨_, rfl⟩
    rw [hW]
    have hb : Below w.heap.size w W := by rw [← hW]; exact bal (bal (bal b0 _) _) _
    have hx : Blk W w.heap.size 31 #[.int .i8 ao, .int .i64 ap, .bool ai, .int .u8 ah, .int .i64 al, .int .u8 af, .int .u8 at', .slice sA sn sc] := by rw [← hW]; exact ((Blk.new w _ _).alloc _).alloc _
    have hy : Blk W (w.heap.size + 1) 31 #[.int .i8 1, .int .i64 bp, .bool bi, .int .u8 bh, .int .i64 bl', .int .u8 bf, .int .u8 bt, tS] := by
      rw [← hW]
      have := (Blk.new (w.alloc (.cells #[.int .i8 ao, .int .i64 ap, .bool ai, .int .u8 ah, .int .i64 al, .int .u8 af, .int .u8 at', .slice sA sn sc] 31)) 31 #[.int .i8 1, .int .i64 bp, .bool bi, .int .u8 bh, .int .i64 bl', .int .u8 bf, .int .u8 bt, tS]).alloc (.cells #[.int .i8 0, .int .i64 0, .bool false, .int .u8 0, .int .i64 0, .int .u8 0, .int .u8 0, .slice none 0 0] 31)
      rwa [World.size_alloc] at this
    have hz : Blk W (w.heap.size + 2) 31 #[.int .i8 0, .int .i64 0, .bool false, .int .u8 0, .int .i64 0, .int .u8 0, .int .u8 0, .slice none 0 0] := by
      rw [← hW]
      have := (Blk.new ((w.alloc (.cells #[.int .i8 ao, .int .i64 ap, .bool ai, .int .u8 ah, .int .i64 al, .int .u8 af, .int .u8 at', .slice sA sn sc] 31)).alloc (.cells #[.int .i8 1, .int .i64 bp, .bool bi, .int .u8 bh, .int .i64 bl', .int .u8 bf, .int .u8 bt, tS] 31)) 31 #[.int .i8 0, .int .i64 0, .bool false, .int .u8 0, .int .i64 0, .int .u8 0, .int .u8 0, .slice none 0 0])
      simpa only [World.size_alloc] using this
    have hsz : W.heap.size = w.heap.size + 3 := by rw [← hW]; simp only [World.size_alloc]
    clear hW
    obtain ⟨x0, x1, x2, x3, x4, x5, x6, x7⟩ := blk_cells8 hx
    obtain ⟨y0, y1, y2, y3, y4, y5, y6, y7⟩ := blk_cells8 hy
    obtain ⟨z0, z1, z2, z3, z4, z5, z6, z7⟩ := blk_cells8 hz
    have f0 := fun i => hz.frozen i
    have HW := Lib.hid (And.intro hb (And.intro hx (And.intro hy (And.intro hz hsz))))
    clear hb hx hy hz hsz
    go_wp2_with fail
    obtain ⟨Wz, hWz⟩ : ∃ Wz, set8 W (w.heap.size + 2) (.int .i8 ao) (.int .i64 ap) (.bool ai) (.int .u8 ah) (.int .i64 al) (.int .u8 af) (.int .u8 at') (.slice sA sn sc) = Wz := ⟨_, rfl⟩
    change bodyPost _ _ _ _ _ (set8 W (w.heap.size + 2) (.int .i8 ao) (.int .i64 ap) (.bool ai) (.int .u8 ah) (.int .i64 al) (.int .u8 af) (.int .u8 at') (.slice sA sn sc))
    have hbz : Blk Wz (w.heap.size + 2) 31 _ := hWz ▸ blk_set8 (HW.out.2.2.2.1) _ _ _ _ _ _ _ _
    have hbb : Below w.heap.size w Wz := hWz ▸ below_set8 (HW.out.1) (by omega) _ _ _ _ _ _ _ _
    rw [hWz]
    clear z0 z1 z2 z3 z4 z5 z6 z7
    obtain ⟨z0, z1, z2, z3, z4, z5, z6, z7⟩ := blk_cells8 hbz
    refine bodyPost_ret (v := .agg #[.int .i8 ao, .int .i64 ap, .bool ai, .int .u8 ah, .int .i64 al, .int .u8 af, .int .u8 at', .slice sA sn sc]) (by simp [results, Tryz.results27, go_sem, z0, z1, z2, z3, z4, z5, z6, z7]) rfl ?_
    exact ⟨_, by rw [HSV.out], HTS.out _ hbb, hbb⟩


set_option maxRecDepth 100000 in
set_option maxHeartbeats 2000000 in
theorem bothR_right (t : Co) (sS tS : Value) (C : Nat → Prop) (w : World) (h : t.nd.op ≠ 1) (hs : TrS w C t tS) :
    Calls Tryz.prog 27 #[TV .any sS, TV t tS] w fun e w' => BothQ C t w e w' := by
  unfold BothQ
  have hts : ∀ W, Below w.heap.size w W → TrS W (fun b => C b ∨ w.heap.size ≤ b) t tS := fun W hb => (hs.below hb).mono fun _ h => .inl h
  have HTS := Lib.hid hts
  obtain ⟨sA, sc, rfl, _, _⟩ := hs.slice
  clear hs hts
  generalize t.nk = sn at *
  have hsv := TV_eq .any sS
  rw [nd_any] at hsv
  have htv := TV_eq t (.slice sA sn sc)
  obtain ⟨m, hm⟩ : ∃ m, t.nd = m := ⟨_, rfl⟩
  rw [hm] at h htv
  obtain ⟨bo, bp, bi, bh, bl', bf, bt⟩ := m
  simp only at h hsv htv
  rw [hsv, htv]
  have HSV := Lib.hid htv
  have e1 : (bo == 1) = false := by simpa using h
  clear hsv htv hm h

  go_enter Tryz.func27, Tryz.ntmps27
  go_upto_region 1 with fail
  obtain ⟨W, hW⟩ : ∃ W, (((w.alloc (.cells #[.int .i8 1, .int .i64 0, .bool false, .int .u8 0, .int .i64 0, .int .u8 0, .int .u8 0, sS] 31)).alloc (.cells #[.int .i8 bo, .int .i64 bp, .bool bi, .int .u8 bh, .int .i64 bl', .int .u8 bf, .int .u8 bt, .slice sA sn sc] 31)).alloc (.cells #[.int .i8 0, .int .i64 0, .bool false, .int .u8 0, .int .i64 0, .int .u8 0, .int .u8 0, .slice none 0 0] 31)) = W := ⟨_, rfl⟩
  rw [hW]
  have hb : Below w.heap.size w W := by rw [← hW]; exact bal (bal (bal b0 _) _) _
  have hx : Blk W w.heap.size 31 #[.int .i8 1, .int .i64 0, .bool false, .int .u8 0, .int .i64 0, .int .u8 0, .int .u8 0, sS] := by rw [← hW]; exact ((Blk.new w _ _).alloc _).alloc _
  have hy : Blk W (w.heap.size + 1) 31 #[.int .i8 bo, .int .i64 bp, .bool bi, .int .u8 bh, .int .i64 bl', .int .u8 bf, .int .u8 bt, .slice sA sn sc] := by
    rw [← hW]
    have := (Blk.new (w.alloc (.cells #[.int .i8 1, .int .i64 0, .bool false, .int .u8 0, .int .i64 0, .int .u8 0, .int .u8 0, sS] 31)) 31 #[.int .i8 bo, .int .i64 bp, .bool bi, .int .u8 bh, .int .i64 bl', .int .u8 bf, .int .u8 bt, .slice sA sn sc]).alloc (.cells #[.int .i8 0, .int .i64 0, .bool false, .int .u8 0, .int .i64 0, .int .u8 0, .int .u8 0, .slice none 0 0] 31)
    rwa [World.size_alloc] at this
  have hz : Blk W (w.heap.size + 2) 31 #[.int .i8 0, .int .i64 0, .bool false, .int .u8 0, .int .i64 0, .int .u8 0, .int .u8 0, .slice none 0 0] := by
    rw [← hW]
    have := (Blk.new ((w.alloc (.cells #[.int .i8 1, .int .i64 0, .bool false, .int .u8 0, .int .i64 0, .int .u8 0, .int .u8 0, sS] 31)).alloc (.cells #[.int .i8 bo, .int .i64 bp, .bool bi, .int .u8 bh, .int .i64 bl', .int .u8 bf, .int .u8 bt, .slice sA sn sc] 31)) 31 #[.int .i8 0, .int .i64 0, .bool false, .int .u8 0, .int .i64 0, .int .u8 0, .int .u8 0, .slice none 0 0])
    simpa only [World.size_alloc] using this
  have hsz : W.heap.size = w.heap.size + 3 := by rw [← hW]; simp only [World.size_alloc]
  clear hW
  obtain ⟨x0, x1, x2, x3, x4, x5, x6, x7⟩ := blk_cells8 hx
  obtain ⟨y0, y1, y2, y3, y4, y5, y6, y7⟩ := blk_cells8 hy
  obtain ⟨z0, z1, z2, z3, z4, z5, z6, z7⟩ := blk_cells8 hz
  have f0 := fun i => hz.frozen i
  have HW := Lib.hid (And.intro hb (And.intro hx (And.intro hy (And.intro hz hsz))))
  clear hb hx hy hz hsz
  go_wp2_with fail
  obtain ⟨Wz, hWz⟩ : ∃ Wz, set8 W (w.heap.size + 2) (.int .i8 bo) (.int .i64 bp) (.bool bi) (.int .u8 bh) (.int .i64 bl') (.int .u8 bf) (.int .u8 bt) (.slice sA sn sc) = Wz := ⟨_, rfl⟩
  change bodyPost _ _ _ _ _ (set8 W (w.heap.size + 2) (.int .i8 bo) (.int .i64 bp) (.bool bi) (.int .u8 bh) (.int .i64 bl') (.int .u8 bf) (.int .u8 bt) (.slice sA sn sc))
  have hbz : Blk Wz (w.heap.size + 2) 31 _ := hWz ▸ blk_set8 (HW.out.2.2.2.1) _ _ _ _ _ _ _ _
  have hbb : Below w.heap.size w Wz := hWz ▸ below_set8 (HW.out.1) (by omega) _ _ _ _ _ _ _ _
  rw [hWz]
  clear z0 z1 z2 z3 z4 z5 z6 z7
  obtain ⟨z0, z1, z2, z3, z4, z5, z6, z7⟩ := blk_cells8 hbz
  refine bodyPost_ret (v := .agg #[.int .i8 bo, .int .i64 bp, .bool bi, .int .u8 bh, .int .i64 bl', .int .u8 bf, .int .u8 bt, .slice sA sn sc]) (by simp [results, Tryz.results27, go_sem, z0, z1, z2, z3, z4, z5, z6, z7]) rfl ?_
  exact ⟨_, by rw [HSV.out], HTS.out _ hbb, hbb⟩


set_option maxRecDepth 100000 in
set_option maxHeartbeats 4000000 in
theorem bothR_pf (p : Int) (j : Bool) (h : Int) (a b : Co) (A : Option Addr) (n c : Nat) (q l f t : Int) (A2 : Option Addr) (n2 c2 : Nat) (C : Nat → Prop) (w : World) (hv : TrS w C (.fail q l f t) (.slice A2 n2 c2)) :
    Calls Tryz.prog 27 #[TV (.part p j h a b) (.slice A n c), TV (.fail q l f t) (.slice A2 n2 c2)] w fun e w' => BothQ C (thenC (.part p j h a b) (.fail q l f t)) w e w' := by
  unfold BothQ
  rw [then_pf]
  obtain ⟨A2', c2', e2, hc2⟩ := hv
  injection e2 with e2a e2b e2c
  subst e2a e2b e2c
  have hen := fun W => endsR_any W (.part p j h a b) (.slice A n c)
  have hr1 := TV_eq (.fail p q h f) (.slice none 0 0)
  have hr2 := TV_eq (.fail p l f t) (.slice A2 0 c2)
  rw [TV_eq, TV_eq (.fail q l f t)]
  rw [TV_eq] at hen
  simp only [nd_fail, nd_part, Co.endsR] at *
  have e1 : (opsO h == 1) = false := by simpa using (opsO_ne h).1
  have e7 : (opsO h == 7) = false := by simpa using (opsO_ne h).2
  generalize opsO h = so at *
  obtain ⟨R, hR⟩ : ∃ R, (if j = true ∧ h ≠ f then Co.fail p q h f else Co.fail p l f t) = R := ⟨_, rfl⟩
  rw [hR]
  have HRR := Lib.hid hR
  clear hR
  have HEN := Lib.hid hen
  have HR1 := Lib.hid hr1
  have HR2 := Lib.hid hr2
  have HC2 := Lib.hid hc2
  clear hen hr1 hr2 hc2

  go_enter Tryz.func27, Tryz.ntmps27
  go_upto_region 1 with fail
  obtain ⟨W, hW⟩ : ∃ W, (((w.alloc (.cells #[.int .i8 so, .int .i64 p, .bool j, .int .u8 h, .int .i64 0, .int .u8 0, .int .u8 0, .slice A n c] 31)).alloc (.cells #[.int .i8 7, .int .i64 q, .bool false, .int .u8 f, .int .i64 l, .int .u8 f, .int .u8 t, .slice A2 0 c2] 31)).alloc (.cells #[.int .i8 0, .int .i64 0, .bool false, .int .u8 0, .int .i64 0, .int .u8 0, .int .u8 0, .slice none 0 0] 31)) = W := ⟨_, rfl⟩
  rw [hW]
  have hb : Below w.heap.size w W := by rw [← hW]; exact bal (bal (bal b0 _) _) _
  have hx : Blk W w.heap.size 31 #[.int .i8 so, .int .i64 p, .bool j, .int .u8 h, .int .i64 0, .int .u8 0, .int .u8 0, .slice A n c] := by rw [← hW]; exact ((Blk.new w _ _).alloc _).alloc _
  have hy : Blk W (w.heap.size + 1) 31 #[.int .i8 7, .int .i64 q, .bool false, .int .u8 f, .int .i64 l, .int .u8 f, .int .u8 t, .slice A2 0 c2] := by
    rw [← hW]
    have := (Blk.new (w.alloc (.cells #[.int .i8 so, .int .i64 p, .bool j, .int .u8 h, .int .i64 0, .int .u8 0, .int .u8 0, .slice A n c] 31)) 31 #[.int .i8 7, .int .i64 q, .bool false, .int .u8 f, .int .i64 l, .int .u8 f, .int .u8 t, .slice A2 0 c2]).alloc (.cells #[.int .i8 0, .int .i64 0, .bool false, .int .u8 0, .int .i64 0, .int .u8 0, .int .u8 0, .slice none 0 0] 31)
    rwa [World.size_alloc] at this
  have hz : Blk W (w.heap.size + 2) 31 #[.int .i8 0, .int .i64 0, .bool false, .int .u8 0, .int .i64 0, .int .u8 0, .int .u8 0, .slice none 0 0] := by
    rw [← hW]
    have := (Blk.new ((w.alloc (.cells #[.int .i8 so, .int .i64 p, .bool j, .int .u8 h, .int .i64 0, .int .u8 0, .int .u8 0, .slice A n c] 31)).alloc (.cells #[.int .i8 7, .int .i64 q, .bool false, .int .u8 f, .int .i64 l, .int .u8 f, .int .u8 t, .slice A2 0 c2] 31)) 31 #[.int .i8 0, .int .i64 0, .bool false, .int .u8 0, .int .i64 0, .int .u8 0, .int .u8 0, .slice none 0 0])
    simpa only [World.size_alloc] using this
  have hsz : W.heap.size = w.heap.size + 3 := by rw [← hW]; simp only [World.size_alloc]
  clear hW
  obtain ⟨x0, x1, x2, x3, x4, x5, x6, x7⟩ := blk_cells8 hx
  obtain ⟨y0, y1, y2, y3, y4, y5, y6, y7⟩ := blk_cells8 hy
  obtain ⟨z0, z1, z2, z3, z4, z5, z6, z7⟩ := blk_cells8 hz
  have f0 := fun i => hz.frozen i
  have HW := Lib.hid (And.intro hb (And.intro hx (And.intro hy (And.intro hz hsz))))
  clear hb hx hy hz hsz
  go_wp2_with fail
  ((refine (HEN.out _).mono ?_); rintro e w4 ⟨rfl, hb4⟩)
  clear x0 x1 x2 x3 x4 x5 x6 x7 y0 y1 y2 y3 y4 y5 y6 y7 z0 z1 z2 z3 z4 z5 z6 z7 f0
  obtain ⟨hb, hx, hy, hz, hsz⟩ := HW.out
  have hx := hx.below hb4 hx.lt
  have hy := hy.below hb4 hy.lt
  have hz := hz.below hb4 hz.lt
  have hb := bl hb hb4
  have hy2 := hy.set_ 1 (.int .i64 p)
  have hz2 := hz.far (p := ⟨w.heap.size + 1, 1, none⟩) (show w.heap.size + 2 ≠ w.heap.size + 1 by omega) (.int .i64 p)
  have HW2 := Lib.hid (And.intro hb (And.intro hz hz2))
  obtain ⟨x0, x1, x2, x3, x4, x5, x6, x7⟩ := blk_cells8 hx
  obtain ⟨y0, y1, y2, y3, y4, y5, y6, y7⟩ := blk_cells8 hy
  obtain ⟨z0, z1, z2, z3, z4, z5, z6, z7⟩ := blk_cells8 hz
  have f0 := fun i => hz.frozen i
  have f1 := fun i => hy.frozen i
  clear hb hx hy hz hy2 hz2 hb4
  by_cases hjf : j = true ∧ h ≠ f
  · have hRR := HRR.out
    rw [if_pos hjf] at hRR
    subst hRR
    clear HRR
    obtain ⟨rfl, hf⟩ := hjf
    have e2 : (h != f) = true := by simpa using hf
    clear hf
    go_wp2_with fail
    obtain ⟨Wz, hWz⟩ : ∃ Wz, set8 w4 (w.heap.size + 2) (.int .i8 7) (.int .i64 p) (.bool false) (.int .u8 h) (.int .i64 q) (.int .u8 h) (.int .u8 f) (.slice none 0 0) = Wz := ⟨_, rfl⟩
    change bodyPost _ _ _ _ _ (set8 w4 (w.heap.size + 2) (.int .i8 7) (.int .i64 p) (.bool false) (.int .u8 h) (.int .i64 q) (.int .u8 h) (.int .u8 f) (.slice none 0 0))
    have hbz : Blk Wz (w.heap.size + 2) 31 _ := hWz ▸ blk_set8 (HW2.out.2.1) _ _ _ _ _ _ _ _
    have hbb : Below w.heap.size w Wz := hWz ▸ below_set8 (HW2.out.1) (by omega) _ _ _ _ _ _ _ _
    rw [hWz]
    clear z0 z1 z2 z3 z4 z5 z6 z7
    obtain ⟨z0, z1, z2, z3, z4, z5, z6, z7⟩ := blk_cells8 hbz
    refine bodyPost_ret (v := .agg #[.int .i8 7, .int .i64 p, .bool false, .int .u8 h, .int .i64 q, .int .u8 h, .int .u8 f, .slice none 0 0]) (by simp [results, Tryz.results27, go_sem, z0, z1, z2, z3, z4, z5, z6, z7]) rfl ?_
    exact ⟨.slice none 0 0, by rw [HR1.out], TrS.nilF _ _ _ _ _ _, hbb⟩
  · have hRR := HRR.out
    rw [if_neg hjf] at hRR
    subst hRR
    clear HRR
    have HJF := Lib.hid hjf
    clear hjf
    have fin : ∀ (Q : Exit → Act → World → Prop) (a : Act), True := fun _ _ => trivial
    clear fin
    cases j
    · go_wp2_with fail
      obtain ⟨Wz, hWz⟩ : ∃ Wz, set8 (w4.setCell ⟨w.heap.size + 1, 1, none⟩ (.int .i64 p)) (w.heap.size + 2) (.int .i8 7) (.int .i64 p) (.bool false) (.int .u8 f) (.int .i64 l) (.int .u8 f) (.int .u8 t) (.slice A2 0 c2) = Wz := ⟨_, rfl⟩
      change bodyPost _ _ _ _ _ (set8 (w4.setCell ⟨w.heap.size + 1, 1, none⟩ (.int .i64 p)) (w.heap.size + 2) (.int .i8 7) (.int .i64 p) (.bool false) (.int .u8 f) (.int .i64 l) (.int .u8 f) (.int .u8 t) (.slice A2 0 c2))
      have hbz : Blk Wz (w.heap.size + 2) 31 _ := hWz ▸ blk_set8 (HW2.out.2.2) _ _ _ _ _ _ _ _
      have hbb : Below w.heap.size w Wz := hWz ▸ below_set8 (below_set HW2.out.1 (by omega) _) (by omega) _ _ _ _ _ _ _ _
      rw [hWz]
      clear z0 z1 z2 z3 z4 z5 z6 z7
      obtain ⟨z0, z1, z2, z3, z4, z5, z6, z7⟩ := blk_cells8 hbz
      refine bodyPost_ret (v := .agg #[.int .i8 7, .int .i64 p, .bool false, .int .u8 f, .int .i64 l, .int .u8 f, .int .u8 t, .slice A2 0 c2]) (by simp [results, Tryz.results27, go_sem, z0, z1, z2, z3, z4, z5, z6, z7]) rfl ?_
      exact ⟨.slice A2 0 c2, by rw [HR2.out], ⟨A2, c2, rfl, HC2.out⟩, hbb⟩
    · have e2 : (h != f) = false := by
        by_cases hf : h = f
        · subst hf; simp
        · exact absurd ⟨rfl, hf⟩ HJF.out
      go_wp2_with fail
      obtain ⟨Wz, hWz⟩ : ∃ Wz, set8 (w4.setCell ⟨w.heap.size + 1, 1, none⟩ (.int .i64 p)) (w.heap.size + 2) (.int .i8 7) (.int .i64 p) (.bool false) (.int .u8 f) (.int .i64 l) (.int .u8 f) (.int .u8 t) (.slice A2 0 c2) = Wz := ⟨_, rfl⟩
      change bodyPost _ _ _ _ _ (set8 (w4.setCell ⟨w.heap.size + 1, 1, none⟩ (.int .i64 p)) (w.heap.size + 2) (.int .i8 7) (.int .i64 p) (.bool false) (.int .u8 f) (.int .i64 l) (.int .u8 f) (.int .u8 t) (.slice A2 0 c2))
      have hbz : Blk Wz (w.heap.size + 2) 31 _ := hWz ▸ blk_set8 (HW2.out.2.2) _ _ _ _ _ _ _ _
      have hbb : Below w.heap.size w Wz := hWz ▸ below_set8 (below_set HW2.out.1 (by omega) _) (by omega) _ _ _ _ _ _ _ _
      rw [hWz]
      clear z0 z1 z2 z3 z4 z5 z6 z7
      obtain ⟨z0, z1, z2, z3, z4, z5, z6, z7⟩ := blk_cells8 hbz
      refine bodyPost_ret (v := .agg #[.int .i8 7, .int .i64 p, .bool false, .int .u8 f, .int .i64 l, .int .u8 f, .int .u8 t, .slice A2 0 c2]) (by simp [results, Tryz.results27, go_sem, z0, z1, z2, z3, z4, z5, z6, z7]) rfl ?_
      exact ⟨.slice A2 0 c2, by rw [HR2.out], ⟨A2, c2, rfl, HC2.out⟩, hbb⟩

end Go.Proofs.YtjklecncdinabaaGreatDoor.C
