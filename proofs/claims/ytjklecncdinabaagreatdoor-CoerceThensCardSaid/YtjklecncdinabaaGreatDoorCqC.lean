/- Contract: the answer's Both. Printed by gen_cqc.py. -/
import Derived.Test.YtjklecncdinabaaGreatDoorCqB
import Derived.Test.YtjklecncdinabaaGreatDoorCoG
namespace Go.Proofs.YtjklecncdinabaaGreatDoor.C
open Go.RowKit Go.Proofs.YtjklecncdinabaaGreatDoor.B
set_option linter.unusedVariables false
set_option linter.unusedSimpArgs false

set_option maxRecDepth 100000 in
set_option maxHeartbeats 8000000 in
theorem bothR_pp (p : Int) (j : Bool) (h : Int) (a b : Co) (A : Option Addr) (n c : Nat) (q : Int) (i : Bool) (k : Int) (x2 y2 : Co) (A2 : Option Addr) (n2 c2 : Nat) (C C2 : Nat → Prop) (w : World)
    (hs : okC (.part p j h a b)) (ht : okC (.part q i k x2 y2)) (hm : meetC (.part p j h a b) (.part q i k x2 y2) = true) (hn : opsN h = n) (hn2 : opsN k = n2)
    (ht1 : TrS w C (.part p j h a b) (.slice A n c)) (ht2 : TrS w C2 (.part q i k x2 y2) (.slice A2 n2 c2)) (hC : ∀ b, C b → b < w.heap.size) (hC2 : ∀ b, C2 b → b < w.heap.size)
    (ih : ∀ m, h = k → m < n → meetK h m (kidT a b m) (kidT x2 y2 m) = true → ∀ v v2 W, w.heap.size ≤ W.heap.size → TrS W C (kidT a b m) v → TrS W C2 (kidT x2 y2 m) v2 →
      Calls Tryz.prog 27 (if turnd h m = true then #[TV (kidT x2 y2 m) v2, TV (kidT a b m) v] else #[TV (kidT a b m) v, TV (kidT x2 y2 m) v2]) W fun e w' => BothQ (fun b => C b ∨ C2 b) (thenK h m (kidT a b m) (kidT x2 y2 m)) W e w') :
    Calls Tryz.prog 27 #[TV (.part p j h a b) (.slice A n c), TV (.part q i k x2 y2) (.slice A2 n2 c2)] w fun e w' => BothQ (fun b => C b ∨ C2 b) (thenC (.part p j h a b) (.part q i k x2 y2)) w e w' := by
  unfold BothQ
  have hmm := hm
  have hen := fun W => endsR_any W (.part p j h a b) (.slice A n c)
  rw [TV_eq] at hen
  simp only [nd_part, Co.endsR] at hen
  rw [meet_pp] at hm
  have e1 : (opsO h == 1) = false := by simpa using (opsO_ne h).1
  have e7 : (opsO h == 7) = false := by simpa using (opsO_ne h).2
  have f1 : (opsO k == 1) = false := by simpa using (opsO_ne k).1
  have f7 : (opsO k == 7) = false := by simpa using (opsO_ne k).2
  rcases hm with ⟨rfl, hq, hk0⟩ | ⟨hj, rfl, _, _⟩
  · rw [then_pp, if_pos ⟨rfl, hk0⟩]
    have e2 : (h != k) = true := by simpa using hk0
    have hr1 := TV_eq (.fail p q h k) (.slice none 0 0)
    rw [TV_eq, TV_eq (.part q i k x2 y2)]
    simp only [nd_fail, nd_part] at *
    generalize opsO h = so at *
    generalize opsO k = yo at *
    have HEN := Lib.hid hen
    have HR1 := Lib.hid hr1
    clear hen hr1 hk0 hq hn hn2 ht1 ht2 ih hs ht hC hC2 hmm

    go_enter Tryz.func27, Tryz.ntmps27
    go_upto_region 1 with fail
    obtain ⟨W, hW⟩ : ∃ W, (((w.alloc (.cells #[.int .i8 so, .int .i64 p, .bool true, .int .u8 h, .int .i64 0, .int .u8 0, .int .u8 0, .slice A n c] 31)).alloc (.cells #[.int .i8 yo, .int .i64 q, .bool i, .int .u8 k, .int .i64 0, .int .u8 0, .int .u8 0, .slice A2 n2 c2] 31)).alloc (.cells #[.int .i8 0, .int .i64 0, .bool false, .int .u8 0, .int .i64 0, .int .u8 0, .int .u8 0, .slice none 0 0] 31)) = W := ⟨_, rfl⟩
    rw [hW]
    have hb : Below w.heap.size w W := by rw [← hW]; exact bal (bal (bal b0 _) _) _
    have hx : Blk W w.heap.size 31 #[.int .i8 so, .int .i64 p, .bool true, .int .u8 h, .int .i64 0, .int .u8 0, .int .u8 0, .slice A n c] := by rw [← hW]; exact ((Blk.new w _ _).alloc _).alloc _
    have hy : Blk W (w.heap.size + 1) 31 #[.int .i8 yo, .int .i64 q, .bool i, .int .u8 k, .int .i64 0, .int .u8 0, .int .u8 0, .slice A2 n2 c2] := by
      rw [← hW]
      have := (Blk.new (w.alloc (.cells #[.int .i8 so, .int .i64 p, .bool true, .int .u8 h, .int .i64 0, .int .u8 0, .int .u8 0, .slice A n c] 31)) 31 #[.int .i8 yo, .int .i64 q, .bool i, .int .u8 k, .int .i64 0, .int .u8 0, .int .u8 0, .slice A2 n2 c2]).alloc (.cells #[.int .i8 0, .int .i64 0, .bool false, .int .u8 0, .int .i64 0, .int .u8 0, .int .u8 0, .slice none 0 0] 31)
      rwa [World.size_alloc] at this
    have hz : Blk W (w.heap.size + 2) 31 #[.int .i8 0, .int .i64 0, .bool false, .int .u8 0, .int .i64 0, .int .u8 0, .int .u8 0, .slice none 0 0] := by
      rw [← hW]
      have := (Blk.new ((w.alloc (.cells #[.int .i8 so, .int .i64 p, .bool true, .int .u8 h, .int .i64 0, .int .u8 0, .int .u8 0, .slice A n c] 31)).alloc (.cells #[.int .i8 yo, .int .i64 q, .bool i, .int .u8 k, .int .i64 0, .int .u8 0, .int .u8 0, .slice A2 n2 c2] 31)) 31 #[.int .i8 0, .int .i64 0, .bool false, .int .u8 0, .int .i64 0, .int .u8 0, .int .u8 0, .slice none 0 0])
      simpa only [World.size_alloc] using this
    have hsz : W.heap.size = w.heap.size + 3 := by rw [← hW]; simp only [World.size_alloc]
    clear hW
    obtain ⟨x0, x1, x2', x3, x4, x5, x6, x7⟩ := blk_cells8 hx
    obtain ⟨y0, y1, y2', y3, y4, y5, y6, y7⟩ := blk_cells8 hy
    obtain ⟨z0, z1, z2, z3, z4, z5, z6, z7⟩ := blk_cells8 hz
    have f0 := fun i => hz.frozen i
    have HW := Lib.hid (And.intro hb (And.intro hx (And.intro hy (And.intro hz hsz))))
    clear hb hx hy hz hsz
    go_wp2_with fail
    ((refine (HEN.out _).mono ?_); rintro e w4 ⟨rfl, hb4⟩)
    clear x0 x1 x2' x3 x4 x5 x6 x7 y0 y1 y2' y3 y4 y5 y6 y7 z0 z1 z2 z3 z4 z5 z6 z7 f0
    obtain ⟨hb, hx, hy, hz, hsz⟩ := HW.out
    have hx := hx.below hb4 hx.lt
    have hy := hy.below hb4 hy.lt
    have hz := hz.below hb4 hz.lt
    have hs4 := hb4.size
    have hb := bl hb hb4
    have HW2 := Lib.hid (And.intro hb (And.intro hx (And.intro hy (And.intro hz (show w.heap.size + 3 ≤ w4.heap.size by omega)))))
    obtain ⟨x0, x1, x2', x3, x4, x5, x6, x7⟩ := blk_cells8 hx
    obtain ⟨y0, y1, y2', y3, y4, y5, y6, y7⟩ := blk_cells8 hy
    obtain ⟨z0, z1, z2, z3, z4, z5, z6, z7⟩ := blk_cells8 hz
    have f0 := fun i => hz.frozen i
    clear hb hx hy hz hb4 hs4 hsz
    go_wp2_with fail
    obtain ⟨Wz, hWz⟩ : ∃ Wz, set8 w4 (w.heap.size + 2) (.int .i8 7) (.int .i64 p) (.bool false) (.int .u8 h) (.int .i64 q) (.int .u8 h) (.int .u8 k) (.slice none 0 0) = Wz := ⟨_, rfl⟩
    change bodyPost _ _ _ _ _ (set8 w4 (w.heap.size + 2) (.int .i8 7) (.int .i64 p) (.bool false) (.int .u8 h) (.int .i64 q) (.int .u8 h) (.int .u8 k) (.slice none 0 0))
    have hbz : Blk Wz (w.heap.size + 2) 31 _ := hWz ▸ blk_set8 (HW2.out.2.2.2.1) _ _ _ _ _ _ _ _
    have hbb : Below w.heap.size w Wz := hWz ▸ below_set8 (HW2.out.1) (by omega) _ _ _ _ _ _ _ _
    rw [hWz]
    clear z0 z1 z2 z3 z4 z5 z6 z7
    obtain ⟨z0, z1, z2, z3, z4, z5, z6, z7⟩ := blk_cells8 hbz
    refine bodyPost_ret (v := .agg #[.int .i8 7, .int .i64 p, .bool false, .int .u8 h, .int .i64 q, .int .u8 h, .int .u8 k, .slice none 0 0]) (by simp [results, Tryz.results27, go_sem, z0, z1, z2, z3, z4, z5, z6, z7]) rfl ?_
    exact ⟨.slice none 0 0, by rw [HR1.out], TrS.nilF _ _ _ _ _ _, hbb⟩

  · have hR := thR_part (p := p) (j := j) (i := i) hs ht
    obtain ⟨R, hR0⟩ : ∃ R, thenC (.part p j h a b) (.part q i h x2 y2) = R := ⟨_, rfl⟩
    rw [hR0] at hR ⊢
    rw [hn] at hR
    obtain rfl : n = n2 := hn.symm.trans hn2
    have hme := fun m (hm : m < n) => (meet_kids hs ht hj).1 hmm m (by rw [hn]; exact hm)
    have hnb : n ≤ 2 := by have := opsN_le h; omega
    have hkd1 := fun (m : Nat) (hm : m < n) => ht1.kid (j := m) (by simp only [Co.nk]; omega)
    have hkd2 := fun (m : Nat) (hm : m < n) => ht2.kid (j := m) (by simp only [Co.nk]; omega)
    simp only [Co.kid] at hkd1 hkd2
    obtain ⟨i0, hi0, hz0, hz1', hz2'⟩ := info_three infoTr
    have htn : ∀ (m : Nat) (W : World), m < n → Calls Tryz.prog 63 #[.int .i8 (opsO h), .int .i64 (m : Nat)] W fun e w' => e = .returned (.bool (turnd h m)) ∧ W = w' := fun m W hm => by
      have h1 := turnedR_any W (opsO h) m
      rwa [turned_op] at h1
    have hrv := fun s => TV_eq (.part p i h ((thR h a b x2 y2 n).getD 0 .any) ((thR h a b x2 y2 n).getD 1 .any)) s
    have hhne : (h != h) = false := by simp
    rw [TV_eq, TV_eq (.part q i h x2 y2)]
    simp only [nd_part] at *
    generalize opsO h = so at *
    have HEN := Lib.hid hen
    have HR := Lib.hid hR
    have HRV := Lib.hid hrv
    have HME := Lib.hid hme
    have HIH := Lib.hid ih
    have HN := Lib.hid hn
    have HKD := Lib.hid (And.intro hkd1 hkd2)
    have HC := Lib.hid (And.intro hC hC2)
    have HTU := Lib.hid htn
    clear hen hR hR0 hrv hme ih hn hn2 hkd1 hkd2 hs ht ht1 ht2 hC hC2 hmm htn hj

    go_enter Tryz.func27, Tryz.ntmps27
    go_upto_region 1 with fail
    obtain ⟨W, hW⟩ : ∃ W, (((w.alloc (.cells #[.int .i8 so, .int .i64 p, .bool j, .int .u8 h, .int .i64 0, .int .u8 0, .int .u8 0, .slice A n c] 31)).alloc (.cells #[.int .i8 so, .int .i64 q, .bool i, .int .u8 h, .int .i64 0, .int .u8 0, .int .u8 0, .slice A2 n c2] 31)).alloc (.cells #[.int .i8 0, .int .i64 0, .bool false, .int .u8 0, .int .i64 0, .int .u8 0, .int .u8 0, .slice none 0 0] 31)) = W := ⟨_, rfl⟩
    rw [hW]
    have hb : Below w.heap.size w W := by rw [← hW]; exact bal (bal (bal b0 _) _) _
    have hx : Blk W w.heap.size 31 #[.int .i8 so, .int .i64 p, .bool j, .int .u8 h, .int .i64 0, .int .u8 0, .int .u8 0, .slice A n c] := by rw [← hW]; exact ((Blk.new w _ _).alloc _).alloc _
    have hy : Blk W (w.heap.size + 1) 31 #[.int .i8 so, .int .i64 q, .bool i, .int .u8 h, .int .i64 0, .int .u8 0, .int .u8 0, .slice A2 n c2] := by
      rw [← hW]
      have := (Blk.new (w.alloc (.cells #[.int .i8 so, .int .i64 p, .bool j, .int .u8 h, .int .i64 0, .int .u8 0, .int .u8 0, .slice A n c] 31)) 31 #[.int .i8 so, .int .i64 q, .bool i, .int .u8 h, .int .i64 0, .int .u8 0, .int .u8 0, .slice A2 n c2]).alloc (.cells #[.int .i8 0, .int .i64 0, .bool false, .int .u8 0, .int .i64 0, .int .u8 0, .int .u8 0, .slice none 0 0] 31)
      rwa [World.size_alloc] at this
    have hz : Blk W (w.heap.size + 2) 31 #[.int .i8 0, .int .i64 0, .bool false, .int .u8 0, .int .i64 0, .int .u8 0, .int .u8 0, .slice none 0 0] := by
      rw [← hW]
      have := (Blk.new ((w.alloc (.cells #[.int .i8 so, .int .i64 p, .bool j, .int .u8 h, .int .i64 0, .int .u8 0, .int .u8 0, .slice A n c] 31)).alloc (.cells #[.int .i8 so, .int .i64 q, .bool i, .int .u8 h, .int .i64 0, .int .u8 0, .int .u8 0, .slice A2 n c2] 31)) 31 #[.int .i8 0, .int .i64 0, .bool false, .int .u8 0, .int .i64 0, .int .u8 0, .int .u8 0, .slice none 0 0])
      simpa only [World.size_alloc] using this
    have hsz : W.heap.size = w.heap.size + 3 := by rw [← hW]; simp only [World.size_alloc]
    clear hW
    obtain ⟨x0, x1, x2', x3, x4, x5, x6, x7⟩ := blk_cells8 hx
    obtain ⟨y0, y1, y2', y3, y4, y5, y6, y7⟩ := blk_cells8 hy
    obtain ⟨z0, z1, z2, z3, z4, z5, z6, z7⟩ := blk_cells8 hz
    have f0 := fun i => hz.frozen i
    have HW := Lib.hid (And.intro hb (And.intro hx (And.intro hy (And.intro hz hsz))))
    clear hb hx hy hz hsz
    go_upto_region 5 with fail
    go_cut [33] from 22 to 33 (fun r wx => r = .bool false ∧ Below W.heap.size W wx)
    case first =>
      go_wp2_with fail
      ((refine (HEN.out _).mono ?_); rintro e w4 ⟨rfl, hb4⟩)
      clear x0 x1 x2' x3 x4 x5 x6 x7 y0 y1 y2' y3 y4 y5 y6 y7 z0 z1 z2 z3 z4 z5 z6 z7 f0
      obtain ⟨x0, x1, x2', x3, x4, x5, x6, x7⟩ := blk_cells8 (HW.out.2.1.below hb4 HW.out.2.1.lt)
      obtain ⟨y0, y1, y2', y3, y4, y5, y6, y7⟩ := blk_cells8 (HW.out.2.2.1.below hb4 HW.out.2.2.1.lt)
      have HB4 := Lib.hid hb4
      clear hb4
      cases j
      all_goals
        go_wp2_with fail
        go_meet
        case rel => exact ⟨by first | rfl | simp, HB4.out⟩
    case rest =>
      obtain ⟨rfl, hb4⟩ := hcut
      clear x0 x1 x2' x3 x4 x5 x6 x7 y0 y1 y2' y3 y4 y5 y6 y7 z0 z1 z2 z3 z4 z5 z6 z7 f0
      obtain ⟨hb, hx, hy, hz, hsz⟩ := HW.out
      have hx := hx.below hb4 hx.lt
      have hy := hy.below hb4 hy.lt
      have hz := hz.below hb4 hz.lt
      have hs4 := hb4.size
      have hb := bl hb hb4
      have HW2 := Lib.hid (And.intro hb (And.intro hx (And.intro hy (And.intro hz (show w.heap.size + 3 ≤ wc.heap.size by omega)))))
      obtain ⟨x0, x1, x2', x3, x4, x5, x6, x7⟩ := blk_cells8 hx
      obtain ⟨y0, y1, y2', y3, y4, y5, y6, y7⟩ := blk_cells8 hy
      clear hb hx hy hz hb4 hs4 hsz HW
      have hq := Blk.new wc 31 #[.int .i8 0, .int .i64 0, .bool false, .int .u8 0, .int .i64 0, .int .u8 0, .int .u8 0, .slice none 0 0]
      obtain ⟨q0, q1, q2, q3, q4, q5, q6, q7⟩ := blk_cells8 hq
      have g0 := fun i => hq.frozen i
      clear hq
      go_upto_region 12 with fail
      obtain ⟨hb, hx, hy, hz, hsz⟩ := HW2.out
      obtain ⟨W0, hW0⟩ : ∃ W0, (wc.alloc (.cells #[.int .i8 so, .int .i64 p, .bool i, .int .u8 h, .int .i64 0, .int .u8 0, .int .u8 0, .slice none 0 0] 31)) = W0 := ⟨_, rfl⟩
      rw [hW0]
      have hbW : Below wc.heap.size wc W0 := by rw [← hW0]; exact bal b0 _
      have hG : Blk W0 wc.heap.size 31 #[.int .i8 so, .int .i64 p, .bool i, .int .u8 h, .int .i64 0, .int .u8 0, .int .u8 0, .slice none 0 0] := by rw [← hW0]; exact Blk.new _ _ _
      have hsW : W0.heap.size = wc.heap.size + 1 := by rw [← hW0]; simp only [World.size_alloc]
      clear hW0 q0 q1 q2 q3 q4 q5 q6 q7 g0 x0 x1 x2' x3 x4 x5 x6 x7 y0 y1 y2' y3 y4 y5 y6 y7
      have hbl := bl hb hbW
      obtain ⟨G, hGe⟩ : ∃ G, wc.heap.size = G := ⟨_, rfl⟩
      rw [hGe] at hsW hG hbW hsz ⊢
      have HB0 := Lib.hid hbl
      have HX := Lib.hid (show ∀ W', Below G W0 W' → W'.cell? ⟨w.heap.size, 0, none⟩ = some (.int .i8 so) ∧ W'.cell? ⟨w.heap.size, 7, none⟩ = some (.slice A n c) ∧ W'.cell? ⟨w.heap.size + 1, 7, none⟩ = some (.slice A2 n c2) from fun W' hb' => by
        have hb1 := hbW.trans hb'
        exact ⟨((hx.below hb1 (by omega)).cell 0).trans rfl, ((hx.below hb1 (by omega)).cell 7).trans rfl, ((hy.below hb1 (by omega)).cell 7).trans rfl⟩)
      have HZ := Lib.hid (show ∀ W', Below G W0 W' → Blk W' (w.heap.size + 2) 31 #[.int .i8 0, .int .i64 0, .bool false, .int .u8 0, .int .i64 0, .int .u8 0, .int .u8 0, .slice none 0 0] from fun W' hb' => hz.below (hbW.trans hb') (by omega))
      have HG := Lib.hid hG
      have HS0 := Lib.hid (And.intro hsW hsz)
      clear hb hx hy hz hbW hG HW2 hbl
      go_loopg [6] n (fun g u wr => ∃ (m : Nat) (V : Value), m ≤ n ∧ g = n - m ∧ u = .int .i64 m ∧ KidsR wr (fun b => C b ∨ C2 b) G V (thR h a b x2 y2 m) ∧ Blk wr G 31 #[.int .i8 so, .int .i64 p, .bool i, .int .u8 h, .int .i64 0, .int .u8 0, .int .u8 0, V] ∧ Below G W0 wr)
      case atStart => exact ⟨0, _, by omega, rfl, rfl, KidsR.nil _ _ _, HG.out, Below.refl _ _⟩
      case round =>
        obtain ⟨m, V, hm, rfl, rfl, hkd, hblk, hbG⟩ := hrel
        have HKD0 := Lib.hid hkd
        have HBK := Lib.hid hblk
        have HBG := Lib.hid hbG
        obtain ⟨x0, x7, y7⟩ := HX.out wr hbG
        clear hkd hblk hbG
        by_cases hlt : m < n
        · obtain ⟨kd1, kd2⟩ := HKD.out
          obtain ⟨g, o, v, rfl, hCg, hgl, hv, k0, k1, k2, k3, k4, k5, k6, k7⟩ := kd1 m hlt
          obtain ⟨g2, o2, v2, rfl, hCg2, hgl2, hv2, l0, l1, l2, l3, l4, l5, l6, l7⟩ := kd2 m hlt
          obtain ⟨A', c', rfl, _, _⟩ := hv.slice
          obtain ⟨B', d', rfl, _, _⟩ := hv2.slice
          have hcall : ∀ W', Below G W0 W' → Calls Tryz.prog 27 (if turnd h m = true then #[TV (kidT x2 y2 m) (.slice B' (kidT x2 y2 m).nk d'), TV (kidT a b m) (.slice A' (kidT a b m).nk c')] else #[TV (kidT a b m) (.slice A' (kidT a b m).nk c'), TV (kidT x2 y2 m) (.slice B' (kidT x2 y2 m).nk d')]) W' fun e w' => BothQ (fun b => C b ∨ C2 b) (thenK h m (kidT a b m) (kidT x2 y2 m)) W' e w' := fun W' hb' => by
            have hbw := HB0.out.trans (hb'.mono (by have := HS0.out; omega))
            exact HIH.out m (by first | rfl | trivial) hlt (HME.out m hlt) _ _ W' hbw.size (hv.below hbw) (hv2.below hbw)
          rw [TV_eq (kidT a b m), TV_eq (kidT x2 y2 m)] at hcall
          unfold BothQ at hcall
          obtain ⟨r, hr⟩ : ∃ r, thenK h m (kidT a b m) (kidT x2 y2 m) = r := ⟨_, rfl⟩
          rw [hr] at hcall
          simp only [TV_eq r] at hcall
          have hnext := thR_next (h := h) (a := a) (b := b) (c := x2) (d := y2) (show m < 2 by omega)
          rw [hr] at hnext
          have htrc : ∀ s, trc r s = [.int .i8 r.nd.op, .int .i64 r.nd.pj, .bool r.nd.ij, .int .u8 r.nd.hd, .int .i64 r.nd.lb, .int .u8 r.nd.fr, .int .u8 r.nd.to, s] := fun s => rfl
          generalize (kidT a b m).nk = kan at *
          generalize (kidT x2 y2 m).nk = kcn at *
          generalize (kidT a b m).nd = nd1 at *
          generalize (kidT x2 y2 m).nd = nd2 at *
          obtain ⟨nd3, hnd3⟩ : ∃ x, r.nd = x := ⟨_, rfl⟩
          rw [hnd3] at hcall
          simp only [hnd3] at htrc
          obtain ⟨kao, kap, kai, kah, kal, kaf, kat⟩ := nd1
          obtain ⟨kco, kcp, kci, kch, kcl, kcf, kct⟩ := nd2
          obtain ⟨ro, rp, ri, rh, rl, rf, rt⟩ := nd3
          simp only at k0 k1 k2 k3 k4 k5 k6 k7 l0 l1 l2 l3 l4 l5 l6 l7 hcall htrc
          have HSS := Lib.hid (show ∀ W', Below G W0 W' → (Below G W0 W' ∧ W'.cell? ⟨w.heap.size, 7, none⟩ = some (.slice (some ⟨g, o, none⟩) n c) ∧ W'.cell? ⟨w.heap.size + 1, 7, none⟩ = some (.slice (some ⟨g2, o2, none⟩) n c2) ∧ W'.cell? ⟨g, o + m * 8, none⟩ = some (.int .i8 kao) ∧ W'.cell? ⟨g, o + m * 8 + 1, none⟩ = some (.int .i64 kap) ∧ W'.cell? ⟨g, o + m * 8 + 2, none⟩ = some (.bool kai) ∧ W'.cell? ⟨g, o + m * 8 + 3, none⟩ = some (.int .u8 kah) ∧ W'.cell? ⟨g, o + m * 8 + 4, none⟩ = some (.int .i64 kal) ∧ W'.cell? ⟨g, o + m * 8 + 5, none⟩ = some (.int .u8 kaf) ∧ W'.cell? ⟨g, o + m * 8 + 6, none⟩ = some (.int .u8 kat) ∧ W'.cell? ⟨g, o + m * 8 + 7, none⟩ = some (Value.slice A' kan c') ∧ W'.cell? ⟨g2, o2 + m * 8, none⟩ = some (.int .i8 kco) ∧ W'.cell? ⟨g2, o2 + m * 8 + 1, none⟩ = some (.int .i64 kcp) ∧ W'.cell? ⟨g2, o2 + m * 8 + 2, none⟩ = some (.bool kci) ∧ W'.cell? ⟨g2, o2 + m * 8 + 3, none⟩ = some (.int .u8 kch) ∧ W'.cell? ⟨g2, o2 + m * 8 + 4, none⟩ = some (.int .i64 kcl) ∧ W'.cell? ⟨g2, o2 + m * 8 + 5, none⟩ = some (.int .u8 kcf) ∧ W'.cell? ⟨g2, o2 + m * 8 + 6, none⟩ = some (.int .u8 kct) ∧ W'.cell? ⟨g2, o2 + m * 8 + 7, none⟩ = some (Value.slice B' kcn d')) from fun W' hb' => by
            obtain ⟨x0', x7', y7'⟩ := HX.out W' hb'
            have hbw := HB0.out.trans (hb'.mono (by have := HS0.out; omega))
            have kc : ∀ i u, w.cell? ⟨g, i, none⟩ = some u → W'.cell? ⟨g, i, none⟩ = some u := fun i u hu => (hbw.cell (p := ⟨g, i, none⟩) hgl).trans hu
            have kc2 : ∀ i u, w.cell? ⟨g2, i, none⟩ = some u → W'.cell? ⟨g2, i, none⟩ = some u := fun i u hu => (hbw.cell (p := ⟨g2, i, none⟩) hgl2).trans hu
            exact ⟨hb', x7', y7', kc _ _ k0, kc _ _ k1, kc _ _ k2, kc _ _ k3, kc _ _ k4, kc _ _ k5, kc _ _ k6, kc _ _ k7, kc2 _ _ l0, kc2 _ _ l1, kc2 _ _ l2, kc2 _ _ l3, kc2 _ _ l4, kc2 _ _ l5, kc2 _ _ l6, kc2 _ _ l7⟩)
          clear k0 k1 k2 k3 k4 k5 k6 k7 l0 l1 l2 l3 l4 l5 l6 l7
          obtain ⟨ss, Ck, hss, hown, hCk, hvs⟩ := HKD0.out
          rw [thR_len (show m ≤ 2 by omega)] at hown
          obtain ⟨AV, cV, rfl, hV1, hV2⟩ := own_shape hown
          have hlst : ∀ x, (Value.slice AV m cV).ownBlock = some x → G + 1 ≤ x ∧ x < wr.heap.size := fun x hx => hown.lt x hx
          have hsG : W0.heap.size ≤ wr.heap.size := HBG.out.size
          have hup : ∀ W', Below wr.heap.size wr W' → Below G W0 W' := fun W' hb' => HBG.out.trans (hb'.mono (by have := HS0.out; omega))
          have hGw : G < wr.heap.size := by have := HS0.out; omega
          have HOWN := Lib.hid (show ∀ W', Below wr.heap.size wr W' → W'.ownsRow (G + 1) 31 8 (.slice AV m cV) m (trf (thR h a b x2 y2 m) ss) from fun W' hb' => own_below hown hb')
          have HGW := Lib.hid (show ∀ W', Below wr.heap.size wr W' → G + 1 ≤ W'.heap.size from fun W' hb' => by have h1 := hb'.size; have h2 := HS0.out; omega)
          have HZ3 := Lib.hid (show ∀ W', Below wr.heap.size wr W' → W'.cell? ⟨G, 7, none⟩ = some (.slice AV m cV) from fun W' hb' => ((HBK.out.below hb' hGw).cell 7).trans rfl)
          have hz3 := HZ3.out wr b0
          have HBK6 := Lib.hid (show ∀ W', Below wr.heap.size wr W' → ∀ W6, W'.grownBy W6 (Value.slice AV m cV).ownBlock → Blk W6 G 31 #[.int .i8 so, .int .i64 p, .bool i, .int .u8 h, .int .i64 0, .int .u8 0, .int .u8 0, .slice AV m cV] from fun W' hb' W6 hg6 =>
            (HBK.out.below hb' hGw).grown hg6 (fun e => by have := hlst G e.symm; omega))
          have HPRE := Lib.hid (show ∀ W', Below wr.heap.size wr W' → ∀ W6, W'.grownBy W6 (Value.slice AV m cV).ownBlock → W6.cell? ⟨G, 7, none⟩ = some (.slice AV m cV) ∧ W6.frozen? ⟨G, 7, none⟩ = false from fun W' hb' W6 hg6 =>
            ⟨((HBK6.out W' hb' W6 hg6).cell 7).trans rfl, (HBK6.out W' hb' W6 hg6).frozen 7⟩)
          have HST := Lib.hid (show ∀ W' W6, Below wr.heap.size wr W' → W'.grownBy W6 (Value.slice AV m cV).ownBlock → Below G W0 W6 from fun W' W6 hb' hg6 =>
            (hup W' hb').grown hg6 (by have h1 := hb'.size; have := HS0.out; omega) (fun x hx => by have := hlst x hx; omega))
          have HS2 := Lib.hid (show ∀ W' W6 u, Below wr.heap.size wr W' → W'.grownBy W6 (Value.slice AV m cV).ownBlock → Below G W0 (W6.setCell ⟨G, 7, none⟩ u) from fun W' W6 u hb' hg6 => (HST.out W' W6 hb' hg6).setCell (Nat.le_refl _) u)
          have hone : ∀ s5 A5 c5, s5 = Value.slice A5 r.nk c5 → ∀ u ∈ ([.int .i8 ro, .int .i64 rp, .bool ri, .int .u8 rh, .int .i64 rl, .int .u8 rf, .int .u8 rt, s5] : List Value), u.oneCell' = true := by
            rintro s5 A5 c5 rfl u hu
            simp only [List.mem_cons, List.not_mem_nil, or_false] at hu
            rcases hu with rfl | rfl | rfl | rfl | rfl | rfl | rfl | rfl <;> rfl
          have HONE := Lib.hid hone
          have hrel := fun (w2 w6 : World) (v5 : Value) (A6 : Option Addr) (c6 : Nat) (hb2 : Below wr.heap.size wr w2) (hv5 : TrS w2 (fun b => (C b ∨ C2 b) ∨ wr.heap.size ≤ b) r v5)
              (ho : w6.ownsRow (G + 1) 31 8 (.slice A6 (m + 1) c6) (m + 1) (trf (thR h a b x2 y2 m) ss ++ [.int .i8 ro, .int .i64 rp, .bool ri, .int .u8 rh, .int .i64 rl, .int .u8 rf, .int .u8 rt, v5])) (hg6 : (w2.alloc (.cells #[.int .i8 ro, .int .i64 rp, .bool ri, .int .u8 rh, .int .i64 rl, .int .u8 rf, .int .u8 rt, v5] 31)).grownBy w6 (Value.slice AV m cV).ownBlock)
              (hV6 : (Value.slice A6 (m + 1) c6).ownBlock = (Value.slice AV m cV).ownBlock ∨ (Value.slice A6 (m + 1) c6).ownBlock = some (w2.alloc (.cells #[.int .i8 ro, .int .i64 rp, .bool ri, .int .u8 rh, .int .i64 rl, .int .u8 rf, .int .u8 rt, v5] 31)).heap.size) =>
            (show KidsR (w6.setCell ⟨G, 7, none⟩ (.slice A6 (m + 1) c6)) (fun b => C b ∨ C2 b) G (.slice A6 (m + 1) c6) (thR h a b x2 y2 (m + 1)) ∧ Blk (w6.setCell ⟨G, 7, none⟩ (.slice A6 (m + 1) c6)) G 31 #[.int .i8 so, .int .i64 p, .bool i, .int .u8 h, .int .i64 0, .int .u8 0, .int .u8 0, .slice A6 (m + 1) c6] ∧ Below G W0 (w6.setCell ⟨G, 7, none⟩ (.slice A6 (m + 1) c6)) from by
              have htl := thR_len (h := h) (a := a) (b := b) (c := x2) (d := y2) (show m ≤ 2 by omega)
              refine ⟨?_, ((HBK6.out _ (bal hb2 _) w6 hg6).set_ 7 _), HS2.out _ _ _ (bal hb2 _) hg6⟩
              rw [hnext]
              refine (KidsR.push (D := fun b => C b ∨ C2 b) (V := .slice AV m cV) hss (by rw [htl]; exact hown) hCk hvs hb2 hv5 (fun x hx => ?_) (bal b0 _) (by rw [htl, htrc]; exact ho) hg6 hV6).set_ 7 _
              rcases hx with hx | hx
              · have hxl : x < w.heap.size := hx.elim (HC.out.1 x) (HC.out.2 x)
                exact ⟨.inl hx, by have := HS0.out; omega, fun e => by have := hlst x e; have := HS0.out; omega⟩
              · exact ⟨.inr (by have : wr.heap.size ≤ x := hx; omega), by have : wr.heap.size ≤ x := hx; omega, fun e => by have := hlst x e; have : wr.heap.size ≤ x := hx; omega⟩)
          have HREL := Lib.hid hrel
          clear hrel
          have HUP := Lib.hid hup
          obtain ⟨tu, htu⟩ : ∃ x, turnd h m = x := ⟨_, rfl⟩
          have htm := fun W => HTU.out m W hlt
          rw [htu] at htm hcall
          have HTM := Lib.hid htm
          have HCALL := Lib.hid hcall
          have HMISC := Lib.hid (And.intro hown (And.intro hCk (And.intro hvs (And.intro hlst (And.intro hv (And.intro hv2 (And.intro hnext htrc)))))))
          clear htm hcall htu kd1 kd2 hv hv2 hown hCk hvs hlst hup hone hr hnext htrc hnd3 hss
          go_wp2_with fail
          ((refine (HTM.out _).mono ?_); rintro e w2 ⟨rfl, rfl⟩)
          cases tu
          · go_wp2_with fail
            refine wp_region_held_drew (S := (fun W' => Below G W0 W' ∧ W'.cell? ⟨w.heap.size, 7, none⟩ = some (.slice (some ⟨g, o, none⟩) n c) ∧ W'.cell? ⟨w.heap.size + 1, 7, none⟩ = some (.slice (some ⟨g2, o2, none⟩) n c2) ∧ W'.cell? ⟨g, o + m * 8, none⟩ = some (.int .i8 kao) ∧ W'.cell? ⟨g, o + m * 8 + 1, none⟩ = some (.int .i64 kap) ∧ W'.cell? ⟨g, o + m * 8 + 2, none⟩ = some (.bool kai) ∧ W'.cell? ⟨g, o + m * 8 + 3, none⟩ = some (.int .u8 kah) ∧ W'.cell? ⟨g, o + m * 8 + 4, none⟩ = some (.int .i64 kal) ∧ W'.cell? ⟨g, o + m * 8 + 5, none⟩ = some (.int .u8 kaf) ∧ W'.cell? ⟨g, o + m * 8 + 6, none⟩ = some (.int .u8 kat) ∧ W'.cell? ⟨g, o + m * 8 + 7, none⟩ = some (Value.slice A' kan c') ∧ W'.cell? ⟨g2, o2 + m * 8, none⟩ = some (.int .i8 kco) ∧ W'.cell? ⟨g2, o2 + m * 8 + 1, none⟩ = some (.int .i64 kcp) ∧ W'.cell? ⟨g2, o2 + m * 8 + 2, none⟩ = some (.bool kci) ∧ W'.cell? ⟨g2, o2 + m * 8 + 3, none⟩ = some (.int .u8 kch) ∧ W'.cell? ⟨g2, o2 + m * 8 + 4, none⟩ = some (.int .i64 kcl) ∧ W'.cell? ⟨g2, o2 + m * 8 + 5, none⟩ = some (.int .u8 kcf) ∧ W'.cell? ⟨g2, o2 + m * 8 + 6, none⟩ = some (.int .u8 kct) ∧ W'.cell? ⟨g2, o2 + m * 8 + 7, none⟩ = some (Value.slice B' kcn d'))) (by kernel_rfl) ?ss1 (fun hHeld => ?rr1)
            case ss1 => (try dsimp only); exact HSS.out _ (HUP.out _ (Below.refl _ _).drew)
            refine wpAnyH_take (i := 0) (oi := ⟨some 103, _, _, _, _, _⟩) (v := ?vv2) rfl (by kernel_rfl) (by kernel_rfl) (by kernel_rfl) (fun _ _ _ h => h) (Or.inl ⟨by rfl, ?yy2⟩) (by assumption) ?rr2
            case yy2 => (intro wq hSw; (try dsimp only at hSw); go_simp; try with_reducible rfl)
            try simp only [Act.put, List.setIfInBounds_toArray, List.set_cons_zero, List.set_cons_succ]
            refine wpAnyH_take (i := 2) (oi := ⟨some 105, _, _, _, _, _⟩) (v := ?vv3) rfl (by kernel_rfl) (by kernel_rfl) (by kernel_rfl) (fun _ _ _ h => h) (Or.inl ⟨by rfl, ?yy3⟩) (by assumption) ?rr3
            case yy3 => (intro wq hSw; (try dsimp only at hSw); go_simp; try with_reducible rfl)
            try simp only [Act.put, List.setIfInBounds_toArray, List.set_cons_zero, List.set_cons_succ]
            refine wpAnyH_take (i := 3) (oi := ⟨some 106, _, _, _, _, _⟩) (v := ?vv4) rfl (by kernel_rfl) (by kernel_rfl) (by kernel_rfl) (fun _ _ _ h => h) (Or.inl ⟨by rfl, ?yy4⟩) (by assumption) ?rr4
            case yy4 => (intro wq hSw; (try dsimp only at hSw); go_simp; try with_reducible rfl)
            try simp only [Act.put, List.setIfInBounds_toArray, List.set_cons_zero, List.set_cons_succ]
            refine wpAnyH_take (i := 4) (oi := ⟨some 107, _, _, _, _, _⟩) (v := ?vv5) rfl (by kernel_rfl) (by kernel_rfl) (by kernel_rfl) (fun _ _ _ h => h) (Or.inl ⟨by rfl, ?yy5⟩) (by assumption) ?rr5
            case yy5 => (intro wq hSw; (try dsimp only at hSw); go_simp; try with_reducible rfl)
            try simp only [Act.put, List.setIfInBounds_toArray, List.set_cons_zero, List.set_cons_succ]
            refine wpAnyH_take (i := 5) (oi := ⟨some 108, _, _, _, _, _⟩) (v := ?vv6) rfl (by kernel_rfl) (by kernel_rfl) (by kernel_rfl) (fun _ _ _ h => h) (Or.inl ⟨by rfl, ?yy6⟩) (by assumption) ?rr6
            case yy6 => (intro wq hSw; (try dsimp only at hSw); go_simp; try with_reducible rfl)
            try simp only [Act.put, List.setIfInBounds_toArray, List.set_cons_zero, List.set_cons_succ]
            refine wpAnyH_take (i := 6) (oi := ⟨some 109, _, _, _, _, _⟩) (v := ?vv7) rfl (by kernel_rfl) (by kernel_rfl) (by kernel_rfl) (fun _ _ _ h => h) (Or.inl ⟨by rfl, ?yy7⟩) (by assumption) ?rr7
            case yy7 => (intro wq hSw; (try dsimp only at hSw); go_simp; try with_reducible rfl)
            try simp only [Act.put, List.setIfInBounds_toArray, List.set_cons_zero, List.set_cons_succ]
            refine wpAnyH_take (i := 7) (oi := ⟨some 110, _, _, _, _, _⟩) (v := ?vv8) rfl (by kernel_rfl) (by kernel_rfl) (by kernel_rfl) (fun _ _ _ h => h) (Or.inl ⟨by rfl, ?yy8⟩) (by assumption) ?rr8
            case yy8 => (intro wq hSw; (try dsimp only at hSw); go_simp; try with_reducible rfl)
            try simp only [Act.put, List.setIfInBounds_toArray, List.set_cons_zero, List.set_cons_succ]
            refine wpAnyH_take (i := 8) (oi := ⟨some 111, _, _, _, _, _⟩) (v := ?vv9) rfl (by kernel_rfl) (by kernel_rfl) (by kernel_rfl) (fun _ _ _ h => h) (Or.inl ⟨by rfl, ?yy9⟩) (by assumption) ?rr9
            case yy9 => (intro wq hSw; (try dsimp only at hSw); go_simp; try with_reducible rfl)
            try simp only [Act.put, List.setIfInBounds_toArray, List.set_cons_zero, List.set_cons_succ]
            refine wpAnyH_take (i := 9) (oi := ⟨some 112, _, _, _, _, _⟩) (v := ?vv10) rfl (by kernel_rfl) (by kernel_rfl) (by kernel_rfl) (fun _ _ _ h => h) (Or.inl ⟨by rfl, ?yy10⟩) (by assumption) ?rr10
            case yy10 => (intro wq hSw; (try dsimp only at hSw); go_simp; try with_reducible rfl)
            try simp only [Act.put, List.setIfInBounds_toArray, List.set_cons_zero, List.set_cons_succ]
            refine wpAnyH_take (i := 10) (oi := ⟨some 113, _, _, _, _, _⟩) (v := ?vv11) rfl (by kernel_rfl) (by kernel_rfl) (by kernel_rfl) (fun _ _ _ h => h) (Or.inl ⟨by rfl, ?yy11⟩) (by assumption) ?rr11
            case yy11 => (intro wq hSw; (try dsimp only at hSw); go_simp; try with_reducible rfl)
            try simp only [Act.put, List.setIfInBounds_toArray, List.set_cons_zero, List.set_cons_succ]
            refine wpAnyH_take (i := 11) (oi := ⟨some 114, _, _, _, _, _⟩) (v := ?vv12) rfl (by kernel_rfl) (by kernel_rfl) (by kernel_rfl) (fun _ _ _ h => h) (Or.inl ⟨by rfl, ?yy12⟩) (by assumption) ?rr12
            case yy12 => (intro wq hSw; (try dsimp only at hSw); go_simp; try with_reducible rfl)
            try simp only [Act.put, List.setIfInBounds_toArray, List.set_cons_zero, List.set_cons_succ]
            refine wpAnyH_ready (rs := [1, 12]) (by kernel_rfl) (by simp) ?_
            refine AllReadyH.cons (o := ⟨some 104, _, _, _, _, _⟩) rfl (fun K hK => ?br13) (AllReadyH.cons (o := ⟨some 115, _, _, _, _, _⟩) rfl (fun K hK => ?br14) AllReadyH.nil)
            case br13 =>
              go_simp
              refine hK.out _ _ ?ss15 (fun hHeld2 => ?rr15)
              case ss15 => (try dsimp only); exact hHeld
              clear hK K
              clear hHeld2
              try simp only [Act.put, List.setIfInBounds_toArray, List.set_cons_zero, List.set_cons_succ]
              refine wpAnyH_ready (rs := [12]) (by kernel_rfl) (by simp) ?_
              refine AllReadyH.cons (o := ⟨some 115, _, _, _, _, _⟩) rfl (fun K hK => ?_) AllReadyH.nil
              go_simp
              ((refine (HCALL.out _ (HUP.out _ (Below.refl _ _).drew)).mono ?_); rintro e w2 ⟨v5, rfl, hv5, hb2'⟩; have hb2 : Below wr.heap.size wr w2 := bl (Below.refl _ _).drew hb2'; clear hb2'; have hz3 := HZ3.out w2 hb2; obtain ⟨A5, c5, rfl, _, _⟩ := hv5.slice; have hz3b := HZ3.out _ (bal hb2 (.cells #[.int .i8 ro, .int .i64 rp, .bool ri, .int .u8 rh, .int .i64 rl, .int .u8 rf, .int .u8 rt, .slice A5 r.nk c5] 31)); have HV5 := Lib.hid hv5; clear hv5)
              refine hK.out _ _ ?ss16 (fun hHeld2 => ?rr16)
              case ss16 => (try dsimp only); exact HSS.out _ (HUP.out _ hb2)
              clear hK K
              clear hHeld
              have hHeld := hHeld2
              clear hHeld2
              try simp only [Act.put, List.setIfInBounds_toArray, List.set_cons_zero, List.set_cons_succ]
              refine wpAnyH_ready (rs := [13]) (by kernel_rfl) (by simp) ?_
              refine AllReadyH.cons (o := ⟨some 116, _, _, _, _, _⟩) rfl (fun K hK => ?_) AllReadyH.nil
              go_simp
              go_simp
              refine hK.out _ _ ?ss17 (fun hHeld2 => ?rr17)
              case ss17 => (try dsimp only); exact HSS.out _ (HUP.out _ (bal hb2 _))
              clear hK K
              clear hHeld
              have hHeld := hHeld2
              clear hHeld2
              try simp only [Act.put, List.setIfInBounds_toArray, List.set_cons_zero, List.set_cons_succ]
              refine wpAnyH_ready (rs := [14]) (by kernel_rfl) (by simp) ?_
              refine AllReadyH.cons (o := ⟨some 117, _, _, _, _, _⟩) rfl (fun K hK => ?_) AllReadyH.nil
              (refine step_append_sl rfl (.tmp 104) (.tmp 116) _ rfl (G + 1) 31 i0 _ 8 64 Tryz.underlying29 hi0 hz0 hz1' hz2' rfl (by omega) (.slice AV m cV) m (trf (thR h a b x2 y2 m) ss) rfl (HOWN.out _ (bal hb2 _)) (w2.heap.size + 1) (some ⟨w2.heap.size, 0, none⟩) 1 1 [.int .i8 ro, .int .i64 rp, .bool ri, .int .u8 rh, .int .i64 rl, .int .u8 rf, .int .u8 rt, .slice A5 r.nk c5] rfl (Sl.eight w2 _ _ _ _ _ _ _ _ _) (HONE.out _ _ _ rfl) (by simp only [maxLen]; omega) (by omega) (HGW.out _ (bal hb2 _)) ?_; intro V' w6 hown6 hg6 hV6; obtain ⟨A6, c6, rfl, hs61, hs62⟩ := own_shape hown6; obtain ⟨hq0, hq1⟩ := HPRE.out _ (bal hb2 _) w6 hg6)
              refine hK.out _ _ ?ss18 (fun hHeld2 => ?rr18)
              case ss18 => (try dsimp only); exact HSS.out _ (HST.out _ _ (bal hb2 _) hg6)
              clear hK K
              clear hHeld
              have hHeld := hHeld2
              clear hHeld2
              try simp only [Act.put, List.setIfInBounds_toArray, List.set_cons_zero, List.set_cons_succ]
              refine wpAnyH_take (i := 15) (oi := ⟨some 118, _, _, _, _, _⟩) (v := ?vv19) rfl (by kernel_rfl) (by kernel_rfl) (by kernel_rfl) (fun _ _ _ h => h) (Or.inl ⟨by rfl, ?yy19⟩) (by assumption) ?rr19
              case yy19 => (intro wq hSw; (try dsimp only at hSw); go_simp; try with_reducible rfl)
              try simp only [Act.put, List.setIfInBounds_toArray, List.set_cons_zero, List.set_cons_succ]
              refine wpAnyH_ready (rs := [16]) (by kernel_rfl) (by simp) ?_
              refine AllReadyH.cons (o := ⟨none, _, _, _, _, _⟩) rfl (fun K hK => ?_) AllReadyH.nil
              go_simp
              go_simp
              refine hK.out _ _ ?ss20 (fun hHeld2 => ?rr20)
              case ss20 => (try dsimp only); exact HSS.out _ (HS2.out _ _ _ (bal hb2 _) hg6)
              clear hK K
              clear hHeld
              have hHeld := hHeld2
              clear hHeld2
              try simp only [Act.put, List.setIfInBounds_toArray, List.set_cons_zero, List.set_cons_succ]
              refine wpAnyH_done (by kernel_rfl) ?_ _
              go_wp2_with fail
              go_roundg (n - (m + 1))
              case measure => omega
              case rel =>
                obtain ⟨r1, r2, r3⟩ := HREL.out w2 w6 _ A6 c6 hb2 HV5.out hown6 hg6 hV6
                exact ⟨m + 1, _, by omega, rfl, by go_num, r1, r2, r3⟩
            case br14 =>
              go_simp
              ((refine (HCALL.out _ (HUP.out _ (Below.refl _ _).drew)).mono ?_); rintro e w2 ⟨v5, rfl, hv5, hb2'⟩; have hb2 : Below wr.heap.size wr w2 := bl (Below.refl _ _).drew hb2'; clear hb2'; have hz3 := HZ3.out w2 hb2; obtain ⟨A5, c5, rfl, _, _⟩ := hv5.slice; have hz3b := HZ3.out _ (bal hb2 (.cells #[.int .i8 ro, .int .i64 rp, .bool ri, .int .u8 rh, .int .i64 rl, .int .u8 rf, .int .u8 rt, .slice A5 r.nk c5] 31)); have HV5 := Lib.hid hv5; clear hv5)
              refine hK.out _ _ ?ss21 (fun hHeld2 => ?rr21)
              case ss21 => (try dsimp only); exact HSS.out _ (HUP.out _ hb2)
              clear hK K
              clear hHeld
              have hHeld := hHeld2
              clear hHeld2
              try simp only [Act.put, List.setIfInBounds_toArray, List.set_cons_zero, List.set_cons_succ]
              refine wpAnyH_ready (rs := [1, 13]) (by kernel_rfl) (by simp) ?_
              refine AllReadyH.cons (o := ⟨some 104, _, _, _, _, _⟩) rfl (fun K hK => ?br22) (AllReadyH.cons (o := ⟨some 116, _, _, _, _, _⟩) rfl (fun K hK => ?br23) AllReadyH.nil)
              case br22 =>
                go_simp
                refine hK.out _ _ ?ss24 (fun hHeld2 => ?rr24)
                case ss24 => (try dsimp only); exact hHeld
                clear hK K
                clear hHeld2
                try simp only [Act.put, List.setIfInBounds_toArray, List.set_cons_zero, List.set_cons_succ]
                refine wpAnyH_ready (rs := [13]) (by kernel_rfl) (by simp) ?_
                refine AllReadyH.cons (o := ⟨some 116, _, _, _, _, _⟩) rfl (fun K hK => ?_) AllReadyH.nil
                go_simp
                go_simp
                refine hK.out _ _ ?ss25 (fun hHeld2 => ?rr25)
                case ss25 => (try dsimp only); exact HSS.out _ (HUP.out _ (bal hb2 _))
                clear hK K
                clear hHeld
                have hHeld := hHeld2
                clear hHeld2
                try simp only [Act.put, List.setIfInBounds_toArray, List.set_cons_zero, List.set_cons_succ]
                refine wpAnyH_ready (rs := [14]) (by kernel_rfl) (by simp) ?_
                refine AllReadyH.cons (o := ⟨some 117, _, _, _, _, _⟩) rfl (fun K hK => ?_) AllReadyH.nil
                (refine step_append_sl rfl (.tmp 104) (.tmp 116) _ rfl (G + 1) 31 i0 _ 8 64 Tryz.underlying29 hi0 hz0 hz1' hz2' rfl (by omega) (.slice AV m cV) m (trf (thR h a b x2 y2 m) ss) rfl (HOWN.out _ (bal hb2 _)) (w2.heap.size + 1) (some ⟨w2.heap.size, 0, none⟩) 1 1 [.int .i8 ro, .int .i64 rp, .bool ri, .int .u8 rh, .int .i64 rl, .int .u8 rf, .int .u8 rt, .slice A5 r.nk c5] rfl (Sl.eight w2 _ _ _ _ _ _ _ _ _) (HONE.out _ _ _ rfl) (by simp only [maxLen]; omega) (by omega) (HGW.out _ (bal hb2 _)) ?_; intro V' w6 hown6 hg6 hV6; obtain ⟨A6, c6, rfl, hs61, hs62⟩ := own_shape hown6; obtain ⟨hq0, hq1⟩ := HPRE.out _ (bal hb2 _) w6 hg6)
                refine hK.out _ _ ?ss26 (fun hHeld2 => ?rr26)
                case ss26 => (try dsimp only); exact HSS.out _ (HST.out _ _ (bal hb2 _) hg6)
                clear hK K
                clear hHeld
                have hHeld := hHeld2
                clear hHeld2
                try simp only [Act.put, List.setIfInBounds_toArray, List.set_cons_zero, List.set_cons_succ]
                refine wpAnyH_take (i := 15) (oi := ⟨some 118, _, _, _, _, _⟩) (v := ?vv27) rfl (by kernel_rfl) (by kernel_rfl) (by kernel_rfl) (fun _ _ _ h => h) (Or.inl ⟨by rfl, ?yy27⟩) (by assumption) ?rr27
                case yy27 => (intro wq hSw; (try dsimp only at hSw); go_simp; try with_reducible rfl)
                try simp only [Act.put, List.setIfInBounds_toArray, List.set_cons_zero, List.set_cons_succ]
                refine wpAnyH_ready (rs := [16]) (by kernel_rfl) (by simp) ?_
                refine AllReadyH.cons (o := ⟨none, _, _, _, _, _⟩) rfl (fun K hK => ?_) AllReadyH.nil
                go_simp
                go_simp
                refine hK.out _ _ ?ss28 (fun hHeld2 => ?rr28)
                case ss28 => (try dsimp only); exact HSS.out _ (HS2.out _ _ _ (bal hb2 _) hg6)
                clear hK K
                clear hHeld
                have hHeld := hHeld2
                clear hHeld2
                try simp only [Act.put, List.setIfInBounds_toArray, List.set_cons_zero, List.set_cons_succ]
                refine wpAnyH_done (by kernel_rfl) ?_ _
                go_wp2_with fail
                go_roundg (n - (m + 1))
                case measure => omega
                case rel =>
                  obtain ⟨r1, r2, r3⟩ := HREL.out w2 w6 _ A6 c6 hb2 HV5.out hown6 hg6 hV6
                  exact ⟨m + 1, _, by omega, rfl, by go_num, r1, r2, r3⟩
              case br23 =>
                go_simp
                go_simp
                refine hK.out _ _ ?ss29 (fun hHeld2 => ?rr29)
                case ss29 => (try dsimp only); exact HSS.out _ (HUP.out _ (bal hb2 _))
                clear hK K
                clear hHeld
                have hHeld := hHeld2
                clear hHeld2
                try simp only [Act.put, List.setIfInBounds_toArray, List.set_cons_zero, List.set_cons_succ]
                refine wpAnyH_ready (rs := [1]) (by kernel_rfl) (by simp) ?_
                refine AllReadyH.cons (o := ⟨some 104, _, _, _, _, _⟩) rfl (fun K hK => ?_) AllReadyH.nil
                go_simp
                refine hK.out _ _ ?ss30 (fun hHeld2 => ?rr30)
                case ss30 => (try dsimp only); exact hHeld
                clear hK K
                clear hHeld2
                try simp only [Act.put, List.setIfInBounds_toArray, List.set_cons_zero, List.set_cons_succ]
                refine wpAnyH_ready (rs := [14]) (by kernel_rfl) (by simp) ?_
                refine AllReadyH.cons (o := ⟨some 117, _, _, _, _, _⟩) rfl (fun K hK => ?_) AllReadyH.nil
                (refine step_append_sl rfl (.tmp 104) (.tmp 116) _ rfl (G + 1) 31 i0 _ 8 64 Tryz.underlying29 hi0 hz0 hz1' hz2' rfl (by omega) (.slice AV m cV) m (trf (thR h a b x2 y2 m) ss) rfl (HOWN.out _ (bal hb2 _)) (w2.heap.size + 1) (some ⟨w2.heap.size, 0, none⟩) 1 1 [.int .i8 ro, .int .i64 rp, .bool ri, .int .u8 rh, .int .i64 rl, .int .u8 rf, .int .u8 rt, .slice A5 r.nk c5] rfl (Sl.eight w2 _ _ _ _ _ _ _ _ _) (HONE.out _ _ _ rfl) (by simp only [maxLen]; omega) (by omega) (HGW.out _ (bal hb2 _)) ?_; intro V' w6 hown6 hg6 hV6; obtain ⟨A6, c6, rfl, hs61, hs62⟩ := own_shape hown6; obtain ⟨hq0, hq1⟩ := HPRE.out _ (bal hb2 _) w6 hg6)
                refine hK.out _ _ ?ss31 (fun hHeld2 => ?rr31)
                case ss31 => (try dsimp only); exact HSS.out _ (HST.out _ _ (bal hb2 _) hg6)
                clear hK K
                clear hHeld
                have hHeld := hHeld2
                clear hHeld2
                try simp only [Act.put, List.setIfInBounds_toArray, List.set_cons_zero, List.set_cons_succ]
                refine wpAnyH_take (i := 15) (oi := ⟨some 118, _, _, _, _, _⟩) (v := ?vv32) rfl (by kernel_rfl) (by kernel_rfl) (by kernel_rfl) (fun _ _ _ h => h) (Or.inl ⟨by rfl, ?yy32⟩) (by assumption) ?rr32
                case yy32 => (intro wq hSw; (try dsimp only at hSw); go_simp; try with_reducible rfl)
                try simp only [Act.put, List.setIfInBounds_toArray, List.set_cons_zero, List.set_cons_succ]
                refine wpAnyH_ready (rs := [16]) (by kernel_rfl) (by simp) ?_
                refine AllReadyH.cons (o := ⟨none, _, _, _, _, _⟩) rfl (fun K hK => ?_) AllReadyH.nil
                go_simp
                go_simp
                refine hK.out _ _ ?ss33 (fun hHeld2 => ?rr33)
                case ss33 => (try dsimp only); exact HSS.out _ (HS2.out _ _ _ (bal hb2 _) hg6)
                clear hK K
                clear hHeld
                have hHeld := hHeld2
                clear hHeld2
                try simp only [Act.put, List.setIfInBounds_toArray, List.set_cons_zero, List.set_cons_succ]
                refine wpAnyH_done (by kernel_rfl) ?_ _
                go_wp2_with fail
                go_roundg (n - (m + 1))
                case measure => omega
                case rel =>
                  obtain ⟨r1, r2, r3⟩ := HREL.out w2 w6 _ A6 c6 hb2 HV5.out hown6 hg6 hV6
                  exact ⟨m + 1, _, by omega, rfl, by go_num, r1, r2, r3⟩
          · go_wp2_with fail
            refine wp_region_held_drew (S := (fun W' => Below G W0 W' ∧ W'.cell? ⟨w.heap.size, 7, none⟩ = some (.slice (some ⟨g, o, none⟩) n c) ∧ W'.cell? ⟨w.heap.size + 1, 7, none⟩ = some (.slice (some ⟨g2, o2, none⟩) n c2) ∧ W'.cell? ⟨g, o + m * 8, none⟩ = some (.int .i8 kao) ∧ W'.cell? ⟨g, o + m * 8 + 1, none⟩ = some (.int .i64 kap) ∧ W'.cell? ⟨g, o + m * 8 + 2, none⟩ = some (.bool kai) ∧ W'.cell? ⟨g, o + m * 8 + 3, none⟩ = some (.int .u8 kah) ∧ W'.cell? ⟨g, o + m * 8 + 4, none⟩ = some (.int .i64 kal) ∧ W'.cell? ⟨g, o + m * 8 + 5, none⟩ = some (.int .u8 kaf) ∧ W'.cell? ⟨g, o + m * 8 + 6, none⟩ = some (.int .u8 kat) ∧ W'.cell? ⟨g, o + m * 8 + 7, none⟩ = some (Value.slice A' kan c') ∧ W'.cell? ⟨g2, o2 + m * 8, none⟩ = some (.int .i8 kco) ∧ W'.cell? ⟨g2, o2 + m * 8 + 1, none⟩ = some (.int .i64 kcp) ∧ W'.cell? ⟨g2, o2 + m * 8 + 2, none⟩ = some (.bool kci) ∧ W'.cell? ⟨g2, o2 + m * 8 + 3, none⟩ = some (.int .u8 kch) ∧ W'.cell? ⟨g2, o2 + m * 8 + 4, none⟩ = some (.int .i64 kcl) ∧ W'.cell? ⟨g2, o2 + m * 8 + 5, none⟩ = some (.int .u8 kcf) ∧ W'.cell? ⟨g2, o2 + m * 8 + 6, none⟩ = some (.int .u8 kct) ∧ W'.cell? ⟨g2, o2 + m * 8 + 7, none⟩ = some (Value.slice B' kcn d'))) (by kernel_rfl) ?ss34 (fun hHeld => ?rr34)
            case ss34 => (try dsimp only); exact HSS.out _ (HUP.out _ (Below.refl _ _).drew)
            refine wpAnyH_take (i := 0) (oi := ⟨some 87, _, _, _, _, _⟩) (v := ?vv35) rfl (by kernel_rfl) (by kernel_rfl) (by kernel_rfl) (fun _ _ _ h => h) (Or.inl ⟨by rfl, ?yy35⟩) (by assumption) ?rr35
            case yy35 => (intro wq hSw; (try dsimp only at hSw); go_simp; try with_reducible rfl)
            try simp only [Act.put, List.setIfInBounds_toArray, List.set_cons_zero, List.set_cons_succ]
            refine wpAnyH_take (i := 2) (oi := ⟨some 89, _, _, _, _, _⟩) (v := ?vv36) rfl (by kernel_rfl) (by kernel_rfl) (by kernel_rfl) (fun _ _ _ h => h) (Or.inl ⟨by rfl, ?yy36⟩) (by assumption) ?rr36
            case yy36 => (intro wq hSw; (try dsimp only at hSw); go_simp; try with_reducible rfl)
            try simp only [Act.put, List.setIfInBounds_toArray, List.set_cons_zero, List.set_cons_succ]
            refine wpAnyH_take (i := 3) (oi := ⟨some 90, _, _, _, _, _⟩) (v := ?vv37) rfl (by kernel_rfl) (by kernel_rfl) (by kernel_rfl) (fun _ _ _ h => h) (Or.inl ⟨by rfl, ?yy37⟩) (by assumption) ?rr37
            case yy37 => (intro wq hSw; (try dsimp only at hSw); go_simp; try with_reducible rfl)
            try simp only [Act.put, List.setIfInBounds_toArray, List.set_cons_zero, List.set_cons_succ]
            refine wpAnyH_take (i := 4) (oi := ⟨some 91, _, _, _, _, _⟩) (v := ?vv38) rfl (by kernel_rfl) (by kernel_rfl) (by kernel_rfl) (fun _ _ _ h => h) (Or.inl ⟨by rfl, ?yy38⟩) (by assumption) ?rr38
            case yy38 => (intro wq hSw; (try dsimp only at hSw); go_simp; try with_reducible rfl)
            try simp only [Act.put, List.setIfInBounds_toArray, List.set_cons_zero, List.set_cons_succ]
            refine wpAnyH_take (i := 5) (oi := ⟨some 92, _, _, _, _, _⟩) (v := ?vv39) rfl (by kernel_rfl) (by kernel_rfl) (by kernel_rfl) (fun _ _ _ h => h) (Or.inl ⟨by rfl, ?yy39⟩) (by assumption) ?rr39
            case yy39 => (intro wq hSw; (try dsimp only at hSw); go_simp; try with_reducible rfl)
            try simp only [Act.put, List.setIfInBounds_toArray, List.set_cons_zero, List.set_cons_succ]
            refine wpAnyH_take (i := 6) (oi := ⟨some 93, _, _, _, _, _⟩) (v := ?vv40) rfl (by kernel_rfl) (by kernel_rfl) (by kernel_rfl) (fun _ _ _ h => h) (Or.inl ⟨by rfl, ?yy40⟩) (by assumption) ?rr40
            case yy40 => (intro wq hSw; (try dsimp only at hSw); go_simp; try with_reducible rfl)
            try simp only [Act.put, List.setIfInBounds_toArray, List.set_cons_zero, List.set_cons_succ]
            refine wpAnyH_take (i := 7) (oi := ⟨some 94, _, _, _, _, _⟩) (v := ?vv41) rfl (by kernel_rfl) (by kernel_rfl) (by kernel_rfl) (fun _ _ _ h => h) (Or.inl ⟨by rfl, ?yy41⟩) (by assumption) ?rr41
            case yy41 => (intro wq hSw; (try dsimp only at hSw); go_simp; try with_reducible rfl)
            try simp only [Act.put, List.setIfInBounds_toArray, List.set_cons_zero, List.set_cons_succ]
            refine wpAnyH_take (i := 8) (oi := ⟨some 95, _, _, _, _, _⟩) (v := ?vv42) rfl (by kernel_rfl) (by kernel_rfl) (by kernel_rfl) (fun _ _ _ h => h) (Or.inl ⟨by rfl, ?yy42⟩) (by assumption) ?rr42
            case yy42 => (intro wq hSw; (try dsimp only at hSw); go_simp; try with_reducible rfl)
            try simp only [Act.put, List.setIfInBounds_toArray, List.set_cons_zero, List.set_cons_succ]
            refine wpAnyH_take (i := 9) (oi := ⟨some 96, _, _, _, _, _⟩) (v := ?vv43) rfl (by kernel_rfl) (by kernel_rfl) (by kernel_rfl) (fun _ _ _ h => h) (Or.inl ⟨by rfl, ?yy43⟩) (by assumption) ?rr43
            case yy43 => (intro wq hSw; (try dsimp only at hSw); go_simp; try with_reducible rfl)
            try simp only [Act.put, List.setIfInBounds_toArray, List.set_cons_zero, List.set_cons_succ]
            refine wpAnyH_take (i := 10) (oi := ⟨some 97, _, _, _, _, _⟩) (v := ?vv44) rfl (by kernel_rfl) (by kernel_rfl) (by kernel_rfl) (fun _ _ _ h => h) (Or.inl ⟨by rfl, ?yy44⟩) (by assumption) ?rr44
            case yy44 => (intro wq hSw; (try dsimp only at hSw); go_simp; try with_reducible rfl)
            try simp only [Act.put, List.setIfInBounds_toArray, List.set_cons_zero, List.set_cons_succ]
            refine wpAnyH_take (i := 11) (oi := ⟨some 98, _, _, _, _, _⟩) (v := ?vv45) rfl (by kernel_rfl) (by kernel_rfl) (by kernel_rfl) (fun _ _ _ h => h) (Or.inl ⟨by rfl, ?yy45⟩) (by assumption) ?rr45
            case yy45 => (intro wq hSw; (try dsimp only at hSw); go_simp; try with_reducible rfl)
            try simp only [Act.put, List.setIfInBounds_toArray, List.set_cons_zero, List.set_cons_succ]
            refine wpAnyH_ready (rs := [1, 12]) (by kernel_rfl) (by simp) ?_
            refine AllReadyH.cons (o := ⟨some 88, _, _, _, _, _⟩) rfl (fun K hK => ?br46) (AllReadyH.cons (o := ⟨some 99, _, _, _, _, _⟩) rfl (fun K hK => ?br47) AllReadyH.nil)
            case br46 =>
              go_simp
              refine hK.out _ _ ?ss48 (fun hHeld2 => ?rr48)
              case ss48 => (try dsimp only); exact hHeld
              clear hK K
              clear hHeld2
              try simp only [Act.put, List.setIfInBounds_toArray, List.set_cons_zero, List.set_cons_succ]
              refine wpAnyH_ready (rs := [12]) (by kernel_rfl) (by simp) ?_
              refine AllReadyH.cons (o := ⟨some 99, _, _, _, _, _⟩) rfl (fun K hK => ?_) AllReadyH.nil
              go_simp
              ((refine (HCALL.out _ (HUP.out _ (Below.refl _ _).drew)).mono ?_); rintro e w2 ⟨v5, rfl, hv5, hb2'⟩; have hb2 : Below wr.heap.size wr w2 := bl (Below.refl _ _).drew hb2'; clear hb2'; have hz3 := HZ3.out w2 hb2; obtain ⟨A5, c5, rfl, _, _⟩ := hv5.slice; have hz3b := HZ3.out _ (bal hb2 (.cells #[.int .i8 ro, .int .i64 rp, .bool ri, .int .u8 rh, .int .i64 rl, .int .u8 rf, .int .u8 rt, .slice A5 r.nk c5] 31)); have HV5 := Lib.hid hv5; clear hv5)
              refine hK.out _ _ ?ss49 (fun hHeld2 => ?rr49)
              case ss49 => (try dsimp only); exact HSS.out _ (HUP.out _ hb2)
              clear hK K
              clear hHeld
              have hHeld := hHeld2
              clear hHeld2
              try simp only [Act.put, List.setIfInBounds_toArray, List.set_cons_zero, List.set_cons_succ]
              refine wpAnyH_ready (rs := [13]) (by kernel_rfl) (by simp) ?_
              refine AllReadyH.cons (o := ⟨some 100, _, _, _, _, _⟩) rfl (fun K hK => ?_) AllReadyH.nil
              go_simp
              go_simp
              refine hK.out _ _ ?ss50 (fun hHeld2 => ?rr50)
              case ss50 => (try dsimp only); exact HSS.out _ (HUP.out _ (bal hb2 _))
              clear hK K
              clear hHeld
              have hHeld := hHeld2
              clear hHeld2
              try simp only [Act.put, List.setIfInBounds_toArray, List.set_cons_zero, List.set_cons_succ]
              refine wpAnyH_ready (rs := [14]) (by kernel_rfl) (by simp) ?_
              refine AllReadyH.cons (o := ⟨some 101, _, _, _, _, _⟩) rfl (fun K hK => ?_) AllReadyH.nil
              (refine step_append_sl rfl (.tmp 88) (.tmp 100) _ rfl (G + 1) 31 i0 _ 8 64 Tryz.underlying29 hi0 hz0 hz1' hz2' rfl (by omega) (.slice AV m cV) m (trf (thR h a b x2 y2 m) ss) rfl (HOWN.out _ (bal hb2 _)) (w2.heap.size + 1) (some ⟨w2.heap.size, 0, none⟩) 1 1 [.int .i8 ro, .int .i64 rp, .bool ri, .int .u8 rh, .int .i64 rl, .int .u8 rf, .int .u8 rt, .slice A5 r.nk c5] rfl (Sl.eight w2 _ _ _ _ _ _ _ _ _) (HONE.out _ _ _ rfl) (by simp only [maxLen]; omega) (by omega) (HGW.out _ (bal hb2 _)) ?_; intro V' w6 hown6 hg6 hV6; obtain ⟨A6, c6, rfl, hs61, hs62⟩ := own_shape hown6; obtain ⟨hq0, hq1⟩ := HPRE.out _ (bal hb2 _) w6 hg6)
              refine hK.out _ _ ?ss51 (fun hHeld2 => ?rr51)
              case ss51 => (try dsimp only); exact HSS.out _ (HST.out _ _ (bal hb2 _) hg6)
              clear hK K
              clear hHeld
              have hHeld := hHeld2
              clear hHeld2
              try simp only [Act.put, List.setIfInBounds_toArray, List.set_cons_zero, List.set_cons_succ]
              refine wpAnyH_take (i := 15) (oi := ⟨some 102, _, _, _, _, _⟩) (v := ?vv52) rfl (by kernel_rfl) (by kernel_rfl) (by kernel_rfl) (fun _ _ _ h => h) (Or.inl ⟨by rfl, ?yy52⟩) (by assumption) ?rr52
              case yy52 => (intro wq hSw; (try dsimp only at hSw); go_simp; try with_reducible rfl)
              try simp only [Act.put, List.setIfInBounds_toArray, List.set_cons_zero, List.set_cons_succ]
              refine wpAnyH_ready (rs := [16]) (by kernel_rfl) (by simp) ?_
              refine AllReadyH.cons (o := ⟨none, _, _, _, _, _⟩) rfl (fun K hK => ?_) AllReadyH.nil
              go_simp
              go_simp
              refine hK.out _ _ ?ss53 (fun hHeld2 => ?rr53)
              case ss53 => (try dsimp only); exact HSS.out _ (HS2.out _ _ _ (bal hb2 _) hg6)
              clear hK K
              clear hHeld
              have hHeld := hHeld2
              clear hHeld2
              try simp only [Act.put, List.setIfInBounds_toArray, List.set_cons_zero, List.set_cons_succ]
              refine wpAnyH_done (by kernel_rfl) ?_ _
              go_wp2_with fail
              go_roundg (n - (m + 1))
              case measure => omega
              case rel =>
                obtain ⟨r1, r2, r3⟩ := HREL.out w2 w6 _ A6 c6 hb2 HV5.out hown6 hg6 hV6
                exact ⟨m + 1, _, by omega, rfl, by go_num, r1, r2, r3⟩
            case br47 =>
              go_simp
              ((refine (HCALL.out _ (HUP.out _ (Below.refl _ _).drew)).mono ?_); rintro e w2 ⟨v5, rfl, hv5, hb2'⟩; have hb2 : Below wr.heap.size wr w2 := bl (Below.refl _ _).drew hb2'; clear hb2'; have hz3 := HZ3.out w2 hb2; obtain ⟨A5, c5, rfl, _, _⟩ := hv5.slice; have hz3b := HZ3.out _ (bal hb2 (.cells #[.int .i8 ro, .int .i64 rp, .bool ri, .int .u8 rh, .int .i64 rl, .int .u8 rf, .int .u8 rt, .slice A5 r.nk c5] 31)); have HV5 := Lib.hid hv5; clear hv5)
              refine hK.out _ _ ?ss54 (fun hHeld2 => ?rr54)
              case ss54 => (try dsimp only); exact HSS.out _ (HUP.out _ hb2)
              clear hK K
              clear hHeld
              have hHeld := hHeld2
              clear hHeld2
              try simp only [Act.put, List.setIfInBounds_toArray, List.set_cons_zero, List.set_cons_succ]
              refine wpAnyH_ready (rs := [1, 13]) (by kernel_rfl) (by simp) ?_
              refine AllReadyH.cons (o := ⟨some 88, _, _, _, _, _⟩) rfl (fun K hK => ?br55) (AllReadyH.cons (o := ⟨some 100, _, _, _, _, _⟩) rfl (fun K hK => ?br56) AllReadyH.nil)
              case br55 =>
                go_simp
                refine hK.out _ _ ?ss57 (fun hHeld2 => ?rr57)
                case ss57 => (try dsimp only); exact hHeld
                clear hK K
                clear hHeld2
                try simp only [Act.put, List.setIfInBounds_toArray, List.set_cons_zero, List.set_cons_succ]
                refine wpAnyH_ready (rs := [13]) (by kernel_rfl) (by simp) ?_
                refine AllReadyH.cons (o := ⟨some 100, _, _, _, _, _⟩) rfl (fun K hK => ?_) AllReadyH.nil
                go_simp
                go_simp
                refine hK.out _ _ ?ss58 (fun hHeld2 => ?rr58)
                case ss58 => (try dsimp only); exact HSS.out _ (HUP.out _ (bal hb2 _))
                clear hK K
                clear hHeld
                have hHeld := hHeld2
                clear hHeld2
                try simp only [Act.put, List.setIfInBounds_toArray, List.set_cons_zero, List.set_cons_succ]
                refine wpAnyH_ready (rs := [14]) (by kernel_rfl) (by simp) ?_
                refine AllReadyH.cons (o := ⟨some 101, _, _, _, _, _⟩) rfl (fun K hK => ?_) AllReadyH.nil
                (refine step_append_sl rfl (.tmp 88) (.tmp 100) _ rfl (G + 1) 31 i0 _ 8 64 Tryz.underlying29 hi0 hz0 hz1' hz2' rfl (by omega) (.slice AV m cV) m (trf (thR h a b x2 y2 m) ss) rfl (HOWN.out _ (bal hb2 _)) (w2.heap.size + 1) (some ⟨w2.heap.size, 0, none⟩) 1 1 [.int .i8 ro, .int .i64 rp, .bool ri, .int .u8 rh, .int .i64 rl, .int .u8 rf, .int .u8 rt, .slice A5 r.nk c5] rfl (Sl.eight w2 _ _ _ _ _ _ _ _ _) (HONE.out _ _ _ rfl) (by simp only [maxLen]; omega) (by omega) (HGW.out _ (bal hb2 _)) ?_; intro V' w6 hown6 hg6 hV6; obtain ⟨A6, c6, rfl, hs61, hs62⟩ := own_shape hown6; obtain ⟨hq0, hq1⟩ := HPRE.out _ (bal hb2 _) w6 hg6)
                refine hK.out _ _ ?ss59 (fun hHeld2 => ?rr59)
                case ss59 => (try dsimp only); exact HSS.out _ (HST.out _ _ (bal hb2 _) hg6)
                clear hK K
                clear hHeld
                have hHeld := hHeld2
                clear hHeld2
                try simp only [Act.put, List.setIfInBounds_toArray, List.set_cons_zero, List.set_cons_succ]
                refine wpAnyH_take (i := 15) (oi := ⟨some 102, _, _, _, _, _⟩) (v := ?vv60) rfl (by kernel_rfl) (by kernel_rfl) (by kernel_rfl) (fun _ _ _ h => h) (Or.inl ⟨by rfl, ?yy60⟩) (by assumption) ?rr60
                case yy60 => (intro wq hSw; (try dsimp only at hSw); go_simp; try with_reducible rfl)
                try simp only [Act.put, List.setIfInBounds_toArray, List.set_cons_zero, List.set_cons_succ]
                refine wpAnyH_ready (rs := [16]) (by kernel_rfl) (by simp) ?_
                refine AllReadyH.cons (o := ⟨none, _, _, _, _, _⟩) rfl (fun K hK => ?_) AllReadyH.nil
                go_simp
                go_simp
                refine hK.out _ _ ?ss61 (fun hHeld2 => ?rr61)
                case ss61 => (try dsimp only); exact HSS.out _ (HS2.out _ _ _ (bal hb2 _) hg6)
                clear hK K
                clear hHeld
                have hHeld := hHeld2
                clear hHeld2
                try simp only [Act.put, List.setIfInBounds_toArray, List.set_cons_zero, List.set_cons_succ]
                refine wpAnyH_done (by kernel_rfl) ?_ _
                go_wp2_with fail
                go_roundg (n - (m + 1))
                case measure => omega
                case rel =>
                  obtain ⟨r1, r2, r3⟩ := HREL.out w2 w6 _ A6 c6 hb2 HV5.out hown6 hg6 hV6
                  exact ⟨m + 1, _, by omega, rfl, by go_num, r1, r2, r3⟩
              case br56 =>
                go_simp
                go_simp
                refine hK.out _ _ ?ss62 (fun hHeld2 => ?rr62)
                case ss62 => (try dsimp only); exact HSS.out _ (HUP.out _ (bal hb2 _))
                clear hK K
                clear hHeld
                have hHeld := hHeld2
                clear hHeld2
                try simp only [Act.put, List.setIfInBounds_toArray, List.set_cons_zero, List.set_cons_succ]
                refine wpAnyH_ready (rs := [1]) (by kernel_rfl) (by simp) ?_
                refine AllReadyH.cons (o := ⟨some 88, _, _, _, _, _⟩) rfl (fun K hK => ?_) AllReadyH.nil
                go_simp
                refine hK.out _ _ ?ss63 (fun hHeld2 => ?rr63)
                case ss63 => (try dsimp only); exact hHeld
                clear hK K
                clear hHeld2
                try simp only [Act.put, List.setIfInBounds_toArray, List.set_cons_zero, List.set_cons_succ]
                refine wpAnyH_ready (rs := [14]) (by kernel_rfl) (by simp) ?_
                refine AllReadyH.cons (o := ⟨some 101, _, _, _, _, _⟩) rfl (fun K hK => ?_) AllReadyH.nil
                (refine step_append_sl rfl (.tmp 88) (.tmp 100) _ rfl (G + 1) 31 i0 _ 8 64 Tryz.underlying29 hi0 hz0 hz1' hz2' rfl (by omega) (.slice AV m cV) m (trf (thR h a b x2 y2 m) ss) rfl (HOWN.out _ (bal hb2 _)) (w2.heap.size + 1) (some ⟨w2.heap.size, 0, none⟩) 1 1 [.int .i8 ro, .int .i64 rp, .bool ri, .int .u8 rh, .int .i64 rl, .int .u8 rf, .int .u8 rt, .slice A5 r.nk c5] rfl (Sl.eight w2 _ _ _ _ _ _ _ _ _) (HONE.out _ _ _ rfl) (by simp only [maxLen]; omega) (by omega) (HGW.out _ (bal hb2 _)) ?_; intro V' w6 hown6 hg6 hV6; obtain ⟨A6, c6, rfl, hs61, hs62⟩ := own_shape hown6; obtain ⟨hq0, hq1⟩ := HPRE.out _ (bal hb2 _) w6 hg6)
                refine hK.out _ _ ?ss64 (fun hHeld2 => ?rr64)
                case ss64 => (try dsimp only); exact HSS.out _ (HST.out _ _ (bal hb2 _) hg6)
                clear hK K
                clear hHeld
                have hHeld := hHeld2
                clear hHeld2
                try simp only [Act.put, List.setIfInBounds_toArray, List.set_cons_zero, List.set_cons_succ]
                refine wpAnyH_take (i := 15) (oi := ⟨some 102, _, _, _, _, _⟩) (v := ?vv65) rfl (by kernel_rfl) (by kernel_rfl) (by kernel_rfl) (fun _ _ _ h => h) (Or.inl ⟨by rfl, ?yy65⟩) (by assumption) ?rr65
                case yy65 => (intro wq hSw; (try dsimp only at hSw); go_simp; try with_reducible rfl)
                try simp only [Act.put, List.setIfInBounds_toArray, List.set_cons_zero, List.set_cons_succ]
                refine wpAnyH_ready (rs := [16]) (by kernel_rfl) (by simp) ?_
                refine AllReadyH.cons (o := ⟨none, _, _, _, _, _⟩) rfl (fun K hK => ?_) AllReadyH.nil
                go_simp
                go_simp
                refine hK.out _ _ ?ss66 (fun hHeld2 => ?rr66)
                case ss66 => (try dsimp only); exact HSS.out _ (HS2.out _ _ _ (bal hb2 _) hg6)
                clear hK K
                clear hHeld
                have hHeld := hHeld2
                clear hHeld2
                try simp only [Act.put, List.setIfInBounds_toArray, List.set_cons_zero, List.set_cons_succ]
                refine wpAnyH_done (by kernel_rfl) ?_ _
                go_wp2_with fail
                go_roundg (n - (m + 1))
                case measure => omega
                case rel =>
                  obtain ⟨r1, r2, r3⟩ := HREL.out w2 w6 _ A6 c6 hb2 HV5.out hown6 hg6 hV6
                  exact ⟨m + 1, _, by omega, rfl, by go_num, r1, r2, r3⟩
        · obtain rfl : m = n := by omega
          have hz := HZ.out wr HBG.out
          obtain ⟨p0, p1, p2, p3, p4, p5, p6, p7⟩ := blk_cells8 HBK.out
          obtain ⟨z0, z1, z2, z3, z4, z5, z6, z7⟩ := blk_cells8 hz
          have f0 := fun i => hz.frozen i
          have HZ2 := Lib.hid hz
          clear hz
          obtain ⟨AV, cV, rfl, hV1, hV2⟩ := HKD0.out.shape
          obtain ⟨ln, hln⟩ : ∃ x, (thR h a b x2 y2 m).length = x := ⟨_, rfl⟩
          rw [hln] at p7
          have HLN := Lib.hid hln
          clear hln hV1
          go_wp2_with fail
          obtain ⟨Wz, hWz⟩ : ∃ Wz, set8 wr (w.heap.size + 2) (.int .i8 so) (.int .i64 p) (.bool i) (.int .u8 h) (.int .i64 0) (.int .u8 0) (.int .u8 0) (.slice AV ln cV) = Wz := ⟨_, rfl⟩
          change bodyPost _ _ _ _ _ (set8 wr (w.heap.size + 2) (.int .i8 so) (.int .i64 p) (.bool i) (.int .u8 h) (.int .i64 0) (.int .u8 0) (.int .u8 0) (.slice AV ln cV))
          have hbz : Blk Wz (w.heap.size + 2) 31 _ := hWz ▸ blk_set8 (HZ2.out) _ _ _ _ _ _ _ _
          have hbb : Below w.heap.size w Wz := hWz ▸ below_set8 (HB0.out.trans (HBG.out.mono (by have := HS0.out; omega))) (by omega) _ _ _ _ _ _ _ _
          rw [hWz]
          clear z0 z1 z2 z3 z4 z5 z6 z7
          obtain ⟨z0, z1, z2, z3, z4, z5, z6, z7⟩ := blk_cells8 hbz
          refine bodyPost_ret (v := .agg #[.int .i8 so, .int .i64 p, .bool i, .int .u8 h, .int .i64 0, .int .u8 0, .int .u8 0, .slice AV ln cV]) (by simp [results, Tryz.results27, go_sem, z0, z1, z2, z3, z4, z5, z6, z7]) rfl ?_
          have hpt := (HKD0.out.part (E := fun b => (C b ∨ C2 b) ∨ G < b) ((thR_len hnb).trans HN.out.symm) (fun b hb => hb) p i).stay (hWz ▸ Stay.set8 wr (g := w.heap.size + 2) (fun x hx => by
            rcases hx with hx | hx
            · have hxl : x < w.heap.size := hx.elim (HC.out.1 x) (HC.out.2 x)
              omega
            · have := HS0.out; omega) _ _ _ _ _ _ _ _) (fun x hx => (show (C x ∨ C2 x) ∨ w.heap.size ≤ x from hx.imp_right fun h => by have := HS0.out; omega))
          rw [HR.out] at hpt
          have hrv := HRV.out (.slice AV ln cV)
          rw [HR.out] at hrv
          rw [HLN.out] at hpt
          exact ⟨_, by rw [hrv], hpt, hbb⟩


theorem bothR_callW (n : Nat) : ∀ (s t : Co) (vs vt : Value) (C C2 : Nat → Prop) (w : World), s.sz + t.sz ≤ n → okC s → okC t → meetC s t = true → (∀ b, C b → b < w.heap.size) → (∀ b, C2 b → b < w.heap.size) → TrS w C s vs → TrS w C2 t vt →
    Calls Tryz.prog 27 #[TV s vs, TV t vt] w fun e w' => BothQ (fun b => C b ∨ C2 b) (thenC s t) w e w' := by
  have lf : ∀ (s t : Co) (vs vt : Value) (C C2 : Nat → Prop) (w : World), (s.nd.op = 7 ∨ t.nd.op = 1) → TrS w C s vs → Calls Tryz.prog 27 #[TV s vs, TV t vt] w fun e w' => BothQ (fun b => C b ∨ C2 b) s w e w' := fun s t vs vt C C2 w h hs => bothR_left s t vs vt _ w h (hs.mono fun _ h => .inl h)
  have rg : ∀ (t : Co) (vs vt : Value) (C C2 : Nat → Prop) (w : World), TrS w C .any vs → TrS w C2 t vt → Calls Tryz.prog 27 #[TV .any vs, TV t vt] w fun e w' => BothQ (fun b => C b ∨ C2 b) t w e w' := fun t vs vt C C2 w hs h => by
    cases t with
    | any => exact lf .any .any vs vt C C2 w (.inr rfl) hs
    | fail p l f q => exact bothR_right _ vs vt _ w (show (7 : Int) ≠ 1 by decide) (h.mono fun _ h => .inr h)
    | part p j hd a b => exact bothR_right _ vs vt _ w (opsO_ne hd).1 (h.mono fun _ h => .inr h)
  induction n with
  | zero =>
    intro s t vs vt C C2 w hn hs ht hm hC hC2 hv hv2
    cases s with
    | any => rw [then_any]; exact rg t vs vt C C2 w hv hv2
    | fail p l f q => rw [then_fail]; exact lf _ t vs vt C C2 w (.inl rfl) hv
    | part p j h a b => simp [Co.sz] at hn
  | succ n ih =>
    intro s t vs vt C C2 w hn hs ht hm hC hC2 hv hv2
    cases s with
    | any => rw [then_any]; exact rg t vs vt C C2 w hv hv2
    | fail p l f q => rw [then_fail]; exact lf _ t vs vt C C2 w (.inl rfl) hv
    | part p j h a b =>
      cases t with
      | any => rw [then_r]; exact lf _ _ vs vt C C2 w (.inr rfl) hv
      | fail q l f t =>
        obtain ⟨A, c, rfl, _, _⟩ := hv.slice
        obtain ⟨A2, c2, rfl, _, _⟩ := hv2.slice
        exact bothR_pf p j h a b A _ c q l f t A2 _ c2 _ w (hv2.mono fun _ h => .inr h)
      | part q i k x y =>
        obtain ⟨A, c, rfl, _, _⟩ := hv.slice
        obtain ⟨A2, c2, rfl, _, _⟩ := hv2.slice
        refine bothR_pp p j h a b A _ c q i k x y A2 _ c2 C C2 w hs ht hm rfl rfl hv hv2 hC hC2 ?_
        intro m hk hlt hmk v v2 W hsz hv hv2
        have hW : ∀ b, C b → b < W.heap.size := fun b hb => by have := hC b hb; omega
        have hW2 : ∀ b, C2 b → b < W.heap.size := fun b hb => by have := hC2 b hb; omega
        obtain ⟨o1, z1⟩ := kid_ok hs m
        obtain ⟨o2, z2⟩ := kid_ok ht m
        unfold thenK
        unfold meetK at hmk
        cases hT : turnd h m
        · rw [hT] at hmk
          exact ih _ _ v v2 C C2 W (by omega) o1 o2 hmk hW hW2 hv hv2
        · rw [hT] at hmk
          refine (ih _ _ v2 v C2 C W (by omega) o2 o1 hmk hW2 hW hv2 hv).mono fun e w' ⟨u, e1, e2, e3⟩ => ⟨u, e1, e2.mono fun b hb => ?_, e3⟩
          rcases hb with (h | h) | h
          · exact .inl (.inr h)
          · exact .inl (.inl h)
          · exact .inr h

end Go.Proofs.YtjklecncdinabaaGreatDoor.C
