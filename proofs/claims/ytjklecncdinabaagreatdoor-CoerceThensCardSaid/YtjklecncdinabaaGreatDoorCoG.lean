/- Contract: coerce.then. -/
import Derived.Test.YtjklecncdinabaaGreatDoorCoE
import Derived.Test.YtjklecncdinabaaGreatDoorCoF
import Derived.Deep.RegionHeld3
import Derived.Deep.Cut
namespace Go.Proofs.YtjklecncdinabaaGreatDoor.C
open Go.RowKit Go.Proofs.YtjklecncdinabaaGreatDoor.B
set_option linter.unusedVariables false
set_option linter.unusedSimpArgs false

/-- The kids of both as one, so many of them. -/
def thR (h : Int) (a b c d : Co) (k : Nat) : List Co := [thenK h 0 a c, thenK h 1 b d].take k
theorem thR_next {h : Int} {a b c d : Co} {k : Nat} (hk : k < 2) : thR h a b c d (k + 1) = thR h a b c d k ++ [thenK h k (kidT a b k) (kidT c d k)] := by
  rcases k with _ | _ | k
  · rfl
  · rfl
  · omega
theorem thR_len {h : Int} {a b c d : Co} {k : Nat} (hk : k ≤ 2) : (thR h a b c d k).length = k := by
  rcases k with _ | _ | _ | k
  · rfl
  · rfl
  · rfl
  · omega
theorem thR_part {p : Int} {j : Bool} {h : Int} {a b : Co} {q : Int} {i : Bool} {c d : Co} (hs : okC (.part p j h a b)) (ht : okC (.part q i h c d)) :
    Co.part p i h ((thR h a b c d (opsN h)).getD 0 .any) ((thR h a b c d (opsN h)).getD 1 .any) = thenC (.part p j h a b) (.part q i h c d) := by
  obtain ⟨_, _, a0, a1, _⟩ := hs
  obtain ⟨_, _, c0, c1, _⟩ := ht
  have e : ∀ m, thenK h m .any .any = .any := fun m => by unfold thenK; rw [then_any]; split <;> rfl
  rw [then_pp, if_neg (by simp)]
  rcases opsN_le h with h0 | h0 | h0
  · rw [h0, a0 h0, c0 h0, a1 (by omega), c1 (by omega), e 0, e 1]; rfl
  · rw [h0, a1 (by omega), c1 (by omega), e 1]; rfl
  · rw [h0]; rfl

/-- The contract's shape. -/
def ThenQ (C : Nat → Prop) (r : Co) (w : World) (e : Ending) (w' : World) : Prop := ∃ v, e = .returned v ∧ VCo w' (fun b => C b ∨ w.heap.size ≤ b) r v ∧ Below w.heap.size w w'
theorem ThenQ.left {C C2 : Nat → Prop} {t : Co} {v : Value} {w w' : World} (h : VCo w C t v) (hb : Below w.heap.size w w') : ThenQ (fun b => C b ∨ C2 b) t w (.returned v) w' := ⟨v, rfl, (h.below hb).mono fun b hb => .inl (.inl hb), hb⟩
theorem ThenQ.right {C C2 : Nat → Prop} {t : Co} {v : Value} {w w' : World} (h : VCo w C2 t v) (hb : Below w.heap.size w w') : ThenQ (fun b => C b ∨ C2 b) t w (.returned v) w' := ⟨v, rfl, (h.below hb).mono fun b hb => .inl (.inr hb), hb⟩

set_option maxRecDepth 100000 in
theorem then_anyW (t : Co) (vt : Value) (C C2 : Nat → Prop) (w : World) (hv : VCo w C2 t vt) : Calls Tryz.prog 25 #[.iface 106 (.agg #[]), vt] w fun e w' => ThenQ (fun b => C b ∨ C2 b) t w e w' := by
  have a1 := tAP (.agg #[])
  have a2 := tAA (.agg #[])
  unfold zPart at a1
  go_enter Tryz.func25, Tryz.ntmps25
  go_wp2_with fail
  go_ret
  exact ThenQ.right hv (bal (bal b0 _) _)

set_option maxRecDepth 100000 in
theorem then_failW (p l f q : Int) (t : Co) (vt : Value) (C C2 : Nat → Prop) (w : World) (hv : VCo w C2 t vt) : Calls Tryz.prog 25 #[.iface 97 (.agg #[.int .i64 p, .int .i64 l, .int .u8 f, .int .u8 q]), vt] w fun e w' => ThenQ (fun b => C b ∨ C2 b) (.fail p l f q) w e w' := by
  have hs : VCo w C (.fail p l f q) (.iface 97 (.agg #[.int .i64 p, .int .i64 l, .int .u8 f, .int .u8 q])) := rfl
  have HS := Lib.hid hs
  clear hs
  have a1 := tFP (.agg #[.int .i64 p, .int .i64 l, .int .u8 f, .int .u8 q])
  have a2 := tFA (.agg #[.int .i64 p, .int .i64 l, .int .u8 f, .int .u8 q])
  unfold zPart at a1
  cases t with
  | any =>
    simp only [VCo] at hv
    subst hv
    have a3 := tAA (.agg #[])
    go_enter Tryz.func25, Tryz.ntmps25
    go_wp2_with fail
    go_ret
    exact ThenQ.left HS.out (bal (bal (bal b0 _) _) _)
  | fail p2 l2 f2 q2 =>
    simp only [VCo] at hv
    subst hv
    have a3 := tFA (.agg #[.int .i64 p2, .int .i64 l2, .int .u8 f2, .int .u8 q2])
    go_enter Tryz.func25, Tryz.ntmps25
    go_wp2_with fail
    go_ret
    exact ThenQ.left HS.out (bal (bal (bal b0 _) _) _)
  | part p2 j hh ta tb =>
    simp only [VCo] at hv
    obtain ⟨Ap, cp, va, vb, rfl, _⟩ := hv
    have a3 := tPA (.agg #[.int .i64 p2, .bool j, .int .u8 hh, .slice Ap (opsN hh) cp])
    go_enter Tryz.func25, Tryz.ntmps25
    go_wp2_with fail
    go_ret
    exact ThenQ.left HS.out (bal (bal (bal b0 _) _) _)

section
variable (p : Int) (j : Bool) (h : Int) (a b : Co) (A : Option Addr) (n c : Nat) (C C2 : Nat → Prop) (w : World)
set_option maxRecDepth 100000 in
theorem then_part_any (hs : VCo w C (.part p j h a b) (.iface 100 (.agg #[.int .i64 p, .bool j, .int .u8 h, .slice A n c]))) : Calls Tryz.prog 25 #[.iface 100 (.agg #[.int .i64 p, .bool j, .int .u8 h, .slice A n c]), .iface 106 (.agg #[])] w fun e w' => ThenQ (fun b => C b ∨ C2 b) (.part p j h a b) w e w' := by
  have HS := Lib.hid hs
  clear hs
  have a1 := tPP (.agg #[.int .i64 p, .bool j, .int .u8 h, .slice A n c])
  have a2 := tPA (.agg #[.int .i64 p, .bool j, .int .u8 h, .slice A n c])
  have a3 := tAA (.agg #[])
  go_enter Tryz.func25, Tryz.ntmps25
  go_wp2_with fail
  go_ret
  exact ThenQ.left HS.out (bal (bal (bal b0 _) _) _)

set_option maxRecDepth 100000 in
set_option maxHeartbeats 2000000 in
theorem then_part_fail (q l f t : Int) : Calls Tryz.prog 25 #[.iface 100 (.agg #[.int .i64 p, .bool j, .int .u8 h, .slice A n c]), .iface 97 (.agg #[.int .i64 q, .int .i64 l, .int .u8 f, .int .u8 t])] w fun e w' => ThenQ (fun b => C b ∨ C2 b) (thenC (.part p j h a b) (.fail q l f t)) w e w' := by
  rw [then_pf]
  have a1 := tPP (.agg #[.int .i64 p, .bool j, .int .u8 h, .slice A n c])
  have a2 := tPA (.agg #[.int .i64 p, .bool j, .int .u8 h, .slice A n c])
  have a3 := tFA (.agg #[.int .i64 q, .int .i64 l, .int .u8 f, .int .u8 t])
  have a4 := tFF (.agg #[.int .i64 q, .int .i64 l, .int .u8 f, .int .u8 t])
  cases j
  · rw [if_neg (by simp)]
    go_enter Tryz.func25, Tryz.ntmps25
    go_wp2_with fail
    go_ret
    exact ⟨_, rfl, rfl, bal (bal (bal (bal b0 _) _) _) _⟩
  · by_cases hf : h = f
    · subst hf
      rw [if_neg (by simp)]
      go_enter Tryz.func25, Tryz.ntmps25
      go_wp2_with fail
      go_ret
      exact ⟨_, rfl, rfl, bal (bal (bal (bal b0 _) _) _) _⟩
    · rw [if_pos ⟨rfl, hf⟩]
      have hf1 : (h != f) = true := by simpa using hf
      clear hf
      go_enter Tryz.func25, Tryz.ntmps25
      go_wp2_with fail
      go_ret
      exact ⟨_, rfl, rfl, bal (bal (bal (bal b0 _) _) _) _⟩
end

set_option maxRecDepth 100000 in
set_option maxHeartbeats 8000000 in
theorem then_ppW (p : Int) (j : Bool) (h : Int) (a b : Co) (A : Option Addr) (n c : Nat) (q : Int) (i : Bool) (k : Int) (x2 y2 : Co) (A2 : Option Addr) (n2 c2 : Nat) (va vb va2 vb2 : Value) (C C2 : Nat → Prop) (w : World)
    (hs : okC (.part p j h a b)) (ht : okC (.part q i k x2 y2)) (hm : meetC (.part p j h a b) (.part q i k x2 y2) = true) (hn : opsN h = n) (hn2 : opsN k = n2) (hc1 : n ≤ c) (hc2 : c ≤ maxLen) (hc3 : n2 ≤ c2) (hc4 : c2 ≤ maxLen)
    (hk : Kd w C A ([va, vb].take n)) (hva : VCo w C a va) (hvb : VCo w C b vb) (hk2 : Kd w C2 A2 ([va2, vb2].take n2)) (hva2 : VCo w C2 x2 va2) (hvb2 : VCo w C2 y2 vb2)
    (hC : ∀ b, C b → b < w.heap.size) (hC2 : ∀ b, C2 b → b < w.heap.size)
    (ih : ∀ m, h = k → meetK h m (kidT a b m) (kidT x2 y2 m) = true → ∀ v v2 W, w.heap.size ≤ W.heap.size → VCo W C (kidT a b m) v → VCo W C2 (kidT x2 y2 m) v2 → Calls Tryz.prog 25 (if turnd h m = true then #[v2, v] else #[v, v2]) W fun e w' => ThenQ (fun b => C b ∨ C2 b) (thenK h m (kidT a b m) (kidT x2 y2 m)) W e w') :
    Calls Tryz.prog 25 #[.iface 100 (.agg #[.int .i64 p, .bool j, .int .u8 h, .slice A n c]), .iface 100 (.agg #[.int .i64 q, .bool i, .int .u8 k, .slice A2 n2 c2])] w fun e w' => ThenQ (fun b => C b ∨ C2 b) (thenC (.part p j h a b) (.part q i k x2 y2)) w e w' := by
  have a1 := tPP (.agg #[.int .i64 p, .bool j, .int .u8 h, .slice A n c])
  have a2 := tPA (.agg #[.int .i64 p, .bool j, .int .u8 h, .slice A n c])
  have a3 := tPA (.agg #[.int .i64 q, .bool i, .int .u8 k, .slice A2 n2 c2])
  have a4 := tPF (.agg #[.int .i64 q, .bool i, .int .u8 k, .slice A2 n2 c2])
  have a5 := tPP (.agg #[.int .i64 q, .bool i, .int .u8 k, .slice A2 n2 c2])
  unfold zFail at a4
  have hmm := hm
  rw [meet_pp] at hm
  rcases hm with ⟨rfl, hq, hk0⟩ | ⟨hj, rfl, m0, m1⟩
  · rw [then_pp, if_pos ⟨rfl, hk0⟩]
    have hf1 : (h != k) = true := by simpa using hk0
    clear hk0 hq hn hn2 hk hva hvb hk2 hva2 hvb2 ih hs ht hC hC2 hmm
    go_enter Tryz.func25, Tryz.ntmps25
    go_wp2_with fail
    go_ret
    exact ⟨_, rfl, rfl, bal (bal (bal (bal b0 _) _) _) _⟩
  · have hR := thR_part (p := p) (j := j) (i := i) hs ht
    obtain ⟨R, hR0⟩ : ∃ R, thenC (.part p j h a b) (.part q i h x2 y2) = R := ⟨_, rfl⟩
    rw [hR0] at hR ⊢
    rw [hn] at hR
    obtain rfl : n = n2 := hn.symm.trans hn2
    have hme := fun m (hm : m < n) => (meet_kids hs ht hj).1 hmm m (by rw [hn]; exact hm)
    have hnb : n ≤ 2 := by have := opsN_le h; omega
    obtain ⟨i0, hi0, hz0, hz1, hz2⟩ := info_three infoCoi
    have hone : ∀ (D : TypeId) (z : Value), ∀ u ∈ [Value.iface D z], u.oneCell' = true := by
      intro D z u hu
      rw [List.mem_singleton.1 hu]; rfl
    have HONE := Lib.hid hone
    have HR := Lib.hid hR
    have HME := Lib.hid hme
    have HIH := Lib.hid ih
    have HN := Lib.hid hn
    have HV := Lib.hid (And.intro hk (And.intro hva (And.intro hvb (And.intro hk2 (And.intro hva2 hvb2)))))
    have HC := Lib.hid (And.intro hC hC2)
    have htu := fun k W => turned_any h k W
    have HTU := Lib.hid htu
    have hhne : (h != h) = false := by simp
    clear hR hR0 hme ih hn hn2 hk hva hvb hk2 hva2 hvb2 hs ht hC hC2 hmm m0 m1 htu hj hone
    go_enter Tryz.func25, Tryz.ntmps25
    go_upto_region 17 with fail
    obtain ⟨wc, hwc⟩ : ∃ wc, ((((w.alloc (.cells #[.int .i64 p, .bool j, .int .u8 h, .slice A n c] 100)).alloc (.cells #[] 106)).alloc (.cells #[] 106)).alloc
        (.cells #[.int .i64 q, .bool i, .int .u8 h, .slice A2 n c2] 100)) = wc := ⟨_, rfl⟩
    rw [hwc]
    have hb1 : Below w.heap.size w wc := by rw [← hwc]; exact bal (bal (bal (bal b0 _) _) _) _
    have hx1 : Blk wc w.heap.size 100 #[.int .i64 p, .bool j, .int .u8 h, .slice A n c] := by rw [← hwc]; exact (((Blk.new w _ _).alloc _).alloc _).alloc _
    have hy1 : Blk wc (w.heap.size + 3) 100 #[.int .i64 q, .bool i, .int .u8 h, .slice A2 n c2] := by
      rw [← hwc]
      have := (Blk.new (((w.alloc (.cells #[.int .i64 p, .bool j, .int .u8 h, .slice A n c] 100)).alloc (.cells #[] 106)).alloc (.cells #[] 106)) 100 #[.int .i64 q, .bool i, .int .u8 h, .slice A2 n c2])
      simpa only [World.size_alloc] using this
    have hs1 : wc.heap.size = w.heap.size + 4 := by rw [← hwc]; simp only [World.size_alloc]
    have HW1 := Lib.hid (And.intro hb1 (And.intro hx1 (And.intro hy1 hs1)))
    have x1 := (hx1.cell 0).trans rfl
    have x2c := (hx1.cell 1).trans rfl
    have x3 := (hx1.cell 2).trans rfl
    have x4 := (hx1.cell 3).trans rfl
    have x5 := ((hx1.alloc (.cells #[.int .i64 p, .bool i, .int .u8 h, .slice none 0 0] 100)).cell 3).trans rfl
    have z1 := (hy1.cell 0).trans rfl
    have z2c := (hy1.cell 1).trans rfl
    have z3 := (hy1.cell 2).trans rfl
    have z4 := (hy1.cell 3).trans rfl
    clear hb1 hx1 hy1 hs1 hwc a1 a2 a3 a4 a5
    go_cut [78] from 70 to 79 (fun r wx => r = .bool false ∧ wx = wc)
    case first =>
      cases j
      all_goals
        go_wp2_with fail
        go_meet
        case rel => exact ⟨rfl, rfl⟩
    case rest =>
      obtain ⟨rfl, rfl⟩ := hcut
      go_wp2_with fail
      obtain ⟨hb1, hx1, hy1, hs1⟩ := HW1.out
      obtain ⟨W0, hW0⟩ : ∃ W0, (wc.alloc (.cells #[.int .i64 p, .bool i, .int .u8 h, .slice none 0 0] 100)) = W0 := ⟨_, rfl⟩
      rw [hW0]
      have hb : Below w.heap.size w W0 := by rw [← hW0]; exact bal hb1 _
      have hx : Blk W0 w.heap.size 100 #[.int .i64 p, .bool j, .int .u8 h, .slice A n c] := by rw [← hW0]; exact hx1.alloc _
      have hy : Blk W0 (w.heap.size + 3) 100 #[.int .i64 q, .bool i, .int .u8 h, .slice A2 n c2] := by rw [← hW0]; exact hy1.alloc _
      have hz : Blk W0 (w.heap.size + 4) 100 #[.int .i64 p, .bool i, .int .u8 h, .slice none 0 0] := by
        rw [← hW0, ← hs1]; exact Blk.new _ _ _
      have hsz : w.heap.size + 5 ≤ W0.heap.size := by rw [← hW0]; simp only [World.size_alloc]; omega
      rw [hs1]
      clear hW0 hb1 hx1 hy1 hs1 x1 x2c x3 x4 x5 z1 z2c z3 z4
      obtain ⟨G, hG⟩ : ∃ G, w.heap.size + 4 = G := ⟨_, rfl⟩
      rw [hG] at hz ⊢
      have HX := Lib.hid (show ∀ W', Below G W0 W' → W'.cell? ⟨w.heap.size, 2, none⟩ = some (.int .u8 h) from fun W' hb' => ((hx.below hb' (by omega)).cell 2).trans rfl)
      have HY := Lib.hid (show ∀ W', Below G W0 W' → W'.cell? ⟨w.heap.size + 3, 3, none⟩ = some (.slice A2 n c2) from fun W' hb' => ((hy.below hb' (by omega)).cell 3).trans rfl)
      have HB := Lib.hid hb
      have HZ := Lib.hid hz
      have hGl : w.heap.size ≤ G ∧ G < W0.heap.size := by omega
      have HG := Lib.hid hG
      clear hx hy hb hz hG
      go_loopg [99] n (fun g u wr => ∃ (m : Nat) (V : Value), m ≤ n ∧ g = n - m ∧ u = .int .i64 m ∧ Kids wr (fun b => C b ∨ C2 b) G V (thR h a b x2 y2 m) ∧ Blk wr G 100 #[.int .i64 p, .bool i, .int .u8 h, V] ∧ Below G W0 wr)
      case atStart => exact ⟨0, _, by omega, rfl, rfl, Kids.nil _ _ _, HZ.out, Below.refl _ _⟩
      case round =>
        obtain ⟨m, V, hm, rfl, rfl, hkd, hblk, hbG⟩ := hrel
        have HKD := Lib.hid hkd
        have HBK := Lib.hid hblk
        have HBG := Lib.hid hbG
        clear hkd hblk hbG
        by_cases hlt : m < n
        · obtain ⟨k1, k2, k3, k4, k5, k6⟩ := HV.out
          obtain ⟨g, o, v, rfl, hcv, hg, hv⟩ := kid_at hnb hlt k1 k2 k3
          obtain ⟨g2, o2, v2, rfl, hcv2, hg2, hv2⟩ := kid_at hnb hlt k4 k5 k6
          have hbw0 : Below w.heap.size w wr := (HB.out.trans (HBG.out.mono hGl.1))
          have hcx : wr.cell? ⟨g, o + m, none⟩ = some v := (hbw0.cell (p := ⟨g, o + m, none⟩) hg).trans hcv
          have hsG : W0.heap.size ≤ wr.heap.size := HBG.out.size
          have hS : ∀ W', Below wr.heap.size wr W' → Below G W0 W' ∧ W'.cell? ⟨w.heap.size + 3, 3, none⟩ = some (.slice (some ⟨g2, o2, none⟩) n c2) ∧ W'.cell? ⟨g2, o2 + m, none⟩ = some v2 := fun W' hb' =>
            ⟨HBG.out.trans (hb'.mono (by omega)), HY.out _ (HBG.out.trans (hb'.mono (by omega))), ((bl hbw0 hb').cell (p := ⟨g2, o2 + m, none⟩) hg2).trans hcv2⟩
          have hcall : ∀ W', Below wr.heap.size wr W' → Calls Tryz.prog 25 (if turnd h m = true then #[v2, v] else #[v, v2]) W' fun e w' => ThenQ (fun b => C b ∨ C2 b) (thenK h m (kidT a b m) (kidT x2 y2 m)) W' e w' := fun W' hb' =>
            HIH.out m trivial (HME.out m hlt) v v2 W' (bl hbw0 hb').size (hv.below (bl hbw0 hb')) (hv2.below (bl hbw0 hb'))
          obtain ⟨vs, Ck, hown, hCk, hvs⟩ := HKD.out
          rw [thR_len (show m ≤ 2 by omega)] at hown
          obtain ⟨AV, cV, rfl, hV1, hV2⟩ := own_shape hown
          have hlst : ∀ x, (Value.slice AV m cV).ownBlock = some x → G + 1 ≤ x ∧ x < wr.heap.size := fun x hx => hown.lt x hx
          have HOWN := Lib.hid (show ∀ W', Below wr.heap.size wr W' → W'.ownsRow (G + 1) 69 1 (.slice AV m cV) m vs from fun W' hb' => own_below hown hb')
          have HGW := Lib.hid (show ∀ W', Below wr.heap.size wr W' → G + 1 ≤ W'.heap.size from fun W' hb' => by have := hb'.size; omega)
          have HZ3 := Lib.hid (show ∀ W', Below wr.heap.size wr W' → W'.cell? ⟨G, 3, none⟩ = some (.slice AV m cV) from fun W' hb' => ((HBK.out.below hb' (by omega)).cell 3).trans rfl)
          have hz3 := HZ3.out wr b0
          have HBK6 := Lib.hid (show ∀ W', Below wr.heap.size wr W' → ∀ W6, W'.grownBy W6 (Value.slice AV m cV).ownBlock → Blk W6 G 100 #[.int .i64 p, .bool i, .int .u8 h, .slice AV m cV] from fun W' hb' W6 hg6 =>
            (HBK.out.below hb' (by omega)).grown hg6 (fun e => by have := hlst G e.symm; omega))
          have HPRE := Lib.hid (show ∀ W', Below wr.heap.size wr W' → ∀ W6, W'.grownBy W6 (Value.slice AV m cV).ownBlock → W6.cell? ⟨G, 3, none⟩ = some (.slice AV m cV) ∧ W6.frozen? ⟨G, 3, none⟩ = false from fun W' hb' W6 hg6 =>
            ⟨((HBK6.out W' hb' W6 hg6).cell 3).trans rfl, (HBK6.out W' hb' W6 hg6).frozen 3⟩)
          have HST := Lib.hid (show ∀ W' W6, Below wr.heap.size wr W' → W'.grownBy W6 (Value.slice AV m cV).ownBlock → Below G W0 W6 ∧ W6.cell? ⟨w.heap.size + 3, 3, none⟩ = some (.slice (some ⟨g2, o2, none⟩) n c2) ∧ W6.cell? ⟨g2, o2 + m, none⟩ = some v2 from fun W' W6 hb' hg6 => by
            have h1 : Below G W0 W6 := (hS W' hb').1.grown hg6 (by have := hb'.size; omega) (fun x hx => by have := hlst x hx; omega)
            exact ⟨h1, HY.out _ h1, ((HB.out.trans (h1.mono hGl.1)).cell (p := ⟨g2, o2 + m, none⟩) hg2).trans hcv2⟩)
          have HS2 := Lib.hid (show ∀ W' W6 u, Below wr.heap.size wr W' → W'.grownBy W6 (Value.slice AV m cV).ownBlock → Below G W0 (W6.setCell ⟨G, 3, none⟩ u) ∧ (W6.setCell ⟨G, 3, none⟩ u).cell? ⟨w.heap.size + 3, 3, none⟩ = some (.slice (some ⟨g2, o2, none⟩) n c2) ∧ (W6.setCell ⟨G, 3, none⟩ u).cell? ⟨g2, o2 + m, none⟩ = some v2 from fun W' W6 u hb' hg6 => by
            have h1 : Below G W0 (W6.setCell ⟨G, 3, none⟩ u) := (HST.out W' W6 hb' hg6).1.setCell (Nat.le_refl _) u
            exact ⟨h1, HY.out _ h1, ((HB.out.trans (h1.mono hGl.1)).cell (p := ⟨g2, o2 + m, none⟩) hg2).trans hcv2⟩)
          have hrel := fun (w2 w6 : World) (v5 : Value) (A6 : Option Addr) (c6 : Nat) (hb2 : Below wr.heap.size wr w2) (hv5 : VCo w2 (fun b => (C b ∨ C2 b) ∨ wr.heap.size ≤ b) (thenK h m (kidT a b m) (kidT x2 y2 m)) v5)
              (ho : w6.ownsRow (G + 1) 69 1 (.slice A6 (m + 1) c6) (m + 1) (vs ++ [v5])) (hg6 : (w2.alloc (.cells #[v5] 69)).grownBy w6 (Value.slice AV m cV).ownBlock)
              (hV6 : (Value.slice A6 (m + 1) c6).ownBlock = (Value.slice AV m cV).ownBlock ∨ (Value.slice A6 (m + 1) c6).ownBlock = some (w2.alloc (.cells #[v5] 69)).heap.size) =>
            (show Kids (w6.setCell ⟨G, 3, none⟩ (.slice A6 (m + 1) c6)) (fun b => C b ∨ C2 b) G (.slice A6 (m + 1) c6) (thR h a b x2 y2 (m + 1)) ∧ Blk (w6.setCell ⟨G, 3, none⟩ (.slice A6 (m + 1) c6)) G 100 #[.int .i64 p, .bool i, .int .u8 h, .slice A6 (m + 1) c6] ∧ Below G W0 (w6.setCell ⟨G, 3, none⟩ (.slice A6 (m + 1) c6)) from by
              have htl := thR_len (h := h) (a := a) (b := b) (c := x2) (d := y2) (show m ≤ 2 by omega)
              refine ⟨?_, ((HBK6.out _ (bal hb2 _) w6 hg6).set_ 3 _), (HST.out _ _ (bal hb2 _) hg6).1.setCell (Nat.le_refl _) _⟩
              rw [thR_next (show m < 2 by omega)]
              refine (Kids.push (D := fun b => C b ∨ C2 b) (V := .slice AV m cV) (by rw [htl]; exact hown) hCk hvs hb2 hv5 (fun x hx => ?_) (bal b0 _) (by rw [htl]; exact ho) hg6 hV6).set_ 3 _
              rcases hx with hx | hx
              · have hxl : x < w.heap.size := hx.elim (HC.out.1 x) (HC.out.2 x)
                exact ⟨.inl hx, by omega, fun e => by have := hlst x e; omega⟩
              · exact ⟨.inr (by omega), by omega, fun e => by have := hlst x e; omega⟩)
          have HREL := Lib.hid hrel
          clear hrel
          have HS := Lib.hid hS
          have hx2 := HX.out wr HBG.out
          obtain ⟨tu, htu⟩ : ∃ x, turnd h m = x := ⟨_, rfl⟩
          have htm := fun W => HTU.out m W
          rw [htu] at htm hcall
          have HTM := Lib.hid htm
          obtain ⟨D, z, rfl⟩ := hv.face
          obtain ⟨D2, z2, rfl⟩ := hv2.face
          have HCALL := Lib.hid hcall
          have HMISC := Lib.hid (And.intro hown (And.intro hCk (And.intro hvs (And.intro hlst hbw0))))
          unfold ThenQ at HCALL
          clear htm hcall htu k1 k2 k3 k4 k5 k6 hcv hcv2 hv hv2 hbw0 hS hown hCk hvs hlst hg hg2
          go_wp2_with fail
          ((refine (HTM.out _).mono ?_); rintro e w2 ⟨rfl, rfl⟩)
          cases tu
          · go_wp2_with fail
            refine wp_region_held_drew (S := (fun W' => Below G W0 W' ∧ W'.cell? ⟨w.heap.size + 3, 3, none⟩ = some (.slice (some ⟨g2, o2, none⟩) n c2) ∧ W'.cell? ⟨g2, o2 + m, none⟩ = some (.iface D2 z2))) (by kernel_rfl) ?ss1 (fun hHeld => ?rr1)
            case ss1 => (try dsimp only); exact HS.out _ (Below.refl _ _).drew
            refine wpAnyH_take (i := 0) (oi := ⟨some 120, _, _, _, _, _⟩) (v := ?vv2) rfl (by kernel_rfl) (by kernel_rfl) (by kernel_rfl) (fun _ _ _ h => h) (Or.inl ⟨by rfl, ?yy2⟩) (by assumption) ?rr2
            case yy2 => (intro wq hSw; (try dsimp only at hSw); go_simp; try with_reducible rfl)
            try simp only [Act.put, List.setIfInBounds_toArray, List.set_cons_zero, List.set_cons_succ]
            refine wpAnyH_take (i := 2) (oi := ⟨some 122, _, _, _, _, _⟩) (v := ?vv3) rfl (by kernel_rfl) (by kernel_rfl) (by kernel_rfl) (fun _ _ _ h => h) (Or.inl ⟨by rfl, ?yy3⟩) (by assumption) ?rr3
            case yy3 => (intro wq hSw; (try dsimp only at hSw); go_simp; try with_reducible rfl)
            try simp only [Act.put, List.setIfInBounds_toArray, List.set_cons_zero, List.set_cons_succ]
            refine wpAnyH_take (i := 3) (oi := ⟨some 123, _, _, _, _, _⟩) (v := ?vv4) rfl (by kernel_rfl) (by kernel_rfl) (by kernel_rfl) (fun _ _ _ h => h) (Or.inl ⟨by rfl, ?yy4⟩) (by assumption) ?rr4
            case yy4 => (intro wq hSw; (try dsimp only at hSw); go_simp; try with_reducible rfl)
            try simp only [Act.put, List.setIfInBounds_toArray, List.set_cons_zero, List.set_cons_succ]
            refine wpAnyH_take (i := 4) (oi := ⟨some 124, _, _, _, _, _⟩) (v := ?vv5) rfl (by kernel_rfl) (by kernel_rfl) (by kernel_rfl) (fun _ _ _ h => h) (Or.inl ⟨by rfl, ?yy5⟩) (by assumption) ?rr5
            case yy5 => (intro wq hSw; (try dsimp only at hSw); go_simp; try with_reducible rfl)
            try simp only [Act.put, List.setIfInBounds_toArray, List.set_cons_zero, List.set_cons_succ]
            refine wpAnyH_take (i := 5) (oi := ⟨some 125, _, _, _, _, _⟩) (v := ?vv6) rfl (by kernel_rfl) (by kernel_rfl) (by kernel_rfl) (fun _ _ _ h => h) (Or.inl ⟨by rfl, ?yy6⟩) (by assumption) ?rr6
            case yy6 => (intro wq hSw; (try dsimp only at hSw); go_simp; try with_reducible rfl)
            try simp only [Act.put, List.setIfInBounds_toArray, List.set_cons_zero, List.set_cons_succ]
            refine wpAnyH_take (i := 6) (oi := ⟨some 126, _, _, _, _, _⟩) (v := ?vv7) rfl (by kernel_rfl) (by kernel_rfl) (by kernel_rfl) (fun _ _ _ h => h) (Or.inl ⟨by rfl, ?yy7⟩) (by assumption) ?rr7
            case yy7 => (intro wq hSw; (try dsimp only at hSw); go_simp; try with_reducible rfl)
            try simp only [Act.put, List.setIfInBounds_toArray, List.set_cons_zero, List.set_cons_succ]
            refine wpAnyH_take (i := 7) (oi := ⟨some 127, _, _, _, _, _⟩) (v := ?vv8) rfl (by kernel_rfl) (by kernel_rfl) (by kernel_rfl) (fun _ _ _ h => h) (Or.inl ⟨by rfl, ?yy8⟩) (by assumption) ?rr8
            case yy8 => (intro wq hSw; (try dsimp only at hSw); go_simp; try with_reducible rfl)
            try simp only [Act.put, List.setIfInBounds_toArray, List.set_cons_zero, List.set_cons_succ]
            refine wpAnyH_ready (rs := [1, 8]) (by kernel_rfl) (by simp) ?_
            refine AllReadyH.cons (o := ⟨some 121, _, _, _, _, _⟩) rfl (fun K hK => ?br9) (AllReadyH.cons (o := ⟨some 128, _, _, _, _, _⟩) rfl (fun K hK => ?br10) AllReadyH.nil)
            case br9 =>
              go_simp
              refine hK.out _ _ ?ss11 (fun hHeld2 => ?rr11)
              case ss11 => (try dsimp only); exact hHeld
              clear hK K
              clear hHeld2
              try simp only [Act.put, List.setIfInBounds_toArray, List.set_cons_zero, List.set_cons_succ]
              refine wpAnyH_ready (rs := [8]) (by kernel_rfl) (by simp) ?_
              refine AllReadyH.cons (o := ⟨some 128, _, _, _, _, _⟩) rfl (fun K hK => ?_) AllReadyH.nil
              go_simp
              ((refine (HCALL.out _ (Below.refl _ _).drew).mono ?_); rintro e w2 ⟨v5, rfl, hv5, hb2'⟩; have hb2 : Below wr.heap.size wr w2 := bl (Below.refl _ _).drew hb2'; clear hb2'; have hz3 := HZ3.out w2 hb2; obtain ⟨D5, z5, rfl⟩ := hv5.face; have hz3b := HZ3.out _ (bal hb2 (.cells #[.iface D5 z5] 69)); have HV5 := Lib.hid hv5; clear hv5)
              refine hK.out _ _ ?ss12 (fun hHeld2 => ?rr12)
              case ss12 => (try dsimp only); exact HS.out _ hb2
              clear hK K
              clear hHeld
              have hHeld := hHeld2
              clear hHeld2
              try simp only [Act.put, List.setIfInBounds_toArray, List.set_cons_zero, List.set_cons_succ]
              refine wpAnyH_ready (rs := [9]) (by kernel_rfl) (by simp) ?_
              refine AllReadyH.cons (o := ⟨some 129, _, _, _, _, _⟩) rfl (fun K hK => ?_) AllReadyH.nil
              go_simp
              go_simp
              refine hK.out _ _ ?ss13 (fun hHeld2 => ?rr13)
              case ss13 => (try dsimp only); exact HS.out _ (bal hb2 _)
              clear hK K
              clear hHeld
              have hHeld := hHeld2
              clear hHeld2
              try simp only [Act.put, List.setIfInBounds_toArray, List.set_cons_zero, List.set_cons_succ]
              refine wpAnyH_ready (rs := [10]) (by kernel_rfl) (by simp) ?_
              refine AllReadyH.cons (o := ⟨some 130, _, _, _, _, _⟩) rfl (fun K hK => ?_) AllReadyH.nil
              (refine step_append_sl rfl (.tmp 121) (.tmp 129) _ rfl (G + 1) 69 i0 _ 1 16 Tryz.underlying98 hi0 hz0 hz1 hz2 rfl (by omega) (.slice AV m cV) m vs rfl (HOWN.out _ (bal hb2 _)) (w2.heap.size + 1) (some ⟨w2.heap.size, 0, none⟩) 1 1 [.iface D5 z5] rfl (Sl.one w2 _ _) (HONE.out _ _) (by simp only [maxLen]; omega) (by omega) (HGW.out _ (bal hb2 _)) ?_; intro V' w6 hown6 hg6 hV6; obtain ⟨A6, c6, rfl, hs61, hs62⟩ := own_shape hown6; obtain ⟨hq0, hq1⟩ := HPRE.out _ (bal hb2 _) w6 hg6)
              refine hK.out _ _ ?ss14 (fun hHeld2 => ?rr14)
              case ss14 => (try dsimp only); exact HST.out _ _ (bal hb2 _) hg6
              clear hK K
              clear hHeld
              have hHeld := hHeld2
              clear hHeld2
              try simp only [Act.put, List.setIfInBounds_toArray, List.set_cons_zero, List.set_cons_succ]
              refine wpAnyH_take (i := 11) (oi := ⟨some 131, _, _, _, _, _⟩) (v := ?vv15) rfl (by kernel_rfl) (by kernel_rfl) (by kernel_rfl) (fun _ _ _ h => h) (Or.inl ⟨by rfl, ?yy15⟩) (by assumption) ?rr15
              case yy15 => (intro wq hSw; (try dsimp only at hSw); go_simp; try with_reducible rfl)
              try simp only [Act.put, List.setIfInBounds_toArray, List.set_cons_zero, List.set_cons_succ]
              refine wpAnyH_ready (rs := [12]) (by kernel_rfl) (by simp) ?_
              refine AllReadyH.cons (o := ⟨none, _, _, _, _, _⟩) rfl (fun K hK => ?_) AllReadyH.nil
              go_simp
              go_simp
              refine hK.out _ _ ?ss16 (fun hHeld2 => ?rr16)
              case ss16 => (try dsimp only); exact HS2.out _ _ _ (bal hb2 _) hg6
              clear hK K
              clear hHeld
              have hHeld := hHeld2
              clear hHeld2
              try simp only [Act.put, List.setIfInBounds_toArray, List.set_cons_zero, List.set_cons_succ]
              refine wpAnyH_done (by kernel_rfl) ?_ _
              go_wp2_with fail
              go_roundg (n - (m + 1))
              case measure => omega
              case rel =>
                obtain ⟨r1, r2, r3⟩ := HREL.out w2 w6 _ A6 c6 hb2 HV5.out hown6 hg6 hV6
                exact ⟨m + 1, _, by omega, rfl, by go_num, r1, r2, r3⟩
            case br10 =>
              go_simp
              ((refine (HCALL.out _ (Below.refl _ _).drew).mono ?_); rintro e w2 ⟨v5, rfl, hv5, hb2'⟩; have hb2 : Below wr.heap.size wr w2 := bl (Below.refl _ _).drew hb2'; clear hb2'; have hz3 := HZ3.out w2 hb2; obtain ⟨D5, z5, rfl⟩ := hv5.face; have hz3b := HZ3.out _ (bal hb2 (.cells #[.iface D5 z5] 69)); have HV5 := Lib.hid hv5; clear hv5)
              refine hK.out _ _ ?ss17 (fun hHeld2 => ?rr17)
              case ss17 => (try dsimp only); exact HS.out _ hb2
              clear hK K
              clear hHeld
              have hHeld := hHeld2
              clear hHeld2
              try simp only [Act.put, List.setIfInBounds_toArray, List.set_cons_zero, List.set_cons_succ]
              refine wpAnyH_ready (rs := [1, 9]) (by kernel_rfl) (by simp) ?_
              refine AllReadyH.cons (o := ⟨some 121, _, _, _, _, _⟩) rfl (fun K hK => ?br18) (AllReadyH.cons (o := ⟨some 129, _, _, _, _, _⟩) rfl (fun K hK => ?br19) AllReadyH.nil)
              case br18 =>
                go_simp
                refine hK.out _ _ ?ss20 (fun hHeld2 => ?rr20)
                case ss20 => (try dsimp only); exact hHeld
                clear hK K
                clear hHeld2
                try simp only [Act.put, List.setIfInBounds_toArray, List.set_cons_zero, List.set_cons_succ]
                refine wpAnyH_ready (rs := [9]) (by kernel_rfl) (by simp) ?_
                refine AllReadyH.cons (o := ⟨some 129, _, _, _, _, _⟩) rfl (fun K hK => ?_) AllReadyH.nil
                go_simp
                go_simp
                refine hK.out _ _ ?ss21 (fun hHeld2 => ?rr21)
                case ss21 => (try dsimp only); exact HS.out _ (bal hb2 _)
                clear hK K
                clear hHeld
                have hHeld := hHeld2
                clear hHeld2
                try simp only [Act.put, List.setIfInBounds_toArray, List.set_cons_zero, List.set_cons_succ]
                refine wpAnyH_ready (rs := [10]) (by kernel_rfl) (by simp) ?_
                refine AllReadyH.cons (o := ⟨some 130, _, _, _, _, _⟩) rfl (fun K hK => ?_) AllReadyH.nil
                (refine step_append_sl rfl (.tmp 121) (.tmp 129) _ rfl (G + 1) 69 i0 _ 1 16 Tryz.underlying98 hi0 hz0 hz1 hz2 rfl (by omega) (.slice AV m cV) m vs rfl (HOWN.out _ (bal hb2 _)) (w2.heap.size + 1) (some ⟨w2.heap.size, 0, none⟩) 1 1 [.iface D5 z5] rfl (Sl.one w2 _ _) (HONE.out _ _) (by simp only [maxLen]; omega) (by omega) (HGW.out _ (bal hb2 _)) ?_; intro V' w6 hown6 hg6 hV6; obtain ⟨A6, c6, rfl, hs61, hs62⟩ := own_shape hown6; obtain ⟨hq0, hq1⟩ := HPRE.out _ (bal hb2 _) w6 hg6)
                refine hK.out _ _ ?ss22 (fun hHeld2 => ?rr22)
                case ss22 => (try dsimp only); exact HST.out _ _ (bal hb2 _) hg6
                clear hK K
                clear hHeld
                have hHeld := hHeld2
                clear hHeld2
                try simp only [Act.put, List.setIfInBounds_toArray, List.set_cons_zero, List.set_cons_succ]
                refine wpAnyH_take (i := 11) (oi := ⟨some 131, _, _, _, _, _⟩) (v := ?vv23) rfl (by kernel_rfl) (by kernel_rfl) (by kernel_rfl) (fun _ _ _ h => h) (Or.inl ⟨by rfl, ?yy23⟩) (by assumption) ?rr23
                case yy23 => (intro wq hSw; (try dsimp only at hSw); go_simp; try with_reducible rfl)
                try simp only [Act.put, List.setIfInBounds_toArray, List.set_cons_zero, List.set_cons_succ]
                refine wpAnyH_ready (rs := [12]) (by kernel_rfl) (by simp) ?_
                refine AllReadyH.cons (o := ⟨none, _, _, _, _, _⟩) rfl (fun K hK => ?_) AllReadyH.nil
                go_simp
                go_simp
                refine hK.out _ _ ?ss24 (fun hHeld2 => ?rr24)
                case ss24 => (try dsimp only); exact HS2.out _ _ _ (bal hb2 _) hg6
                clear hK K
                clear hHeld
                have hHeld := hHeld2
                clear hHeld2
                try simp only [Act.put, List.setIfInBounds_toArray, List.set_cons_zero, List.set_cons_succ]
                refine wpAnyH_done (by kernel_rfl) ?_ _
                go_wp2_with fail
                go_roundg (n - (m + 1))
                case measure => omega
                case rel =>
                  obtain ⟨r1, r2, r3⟩ := HREL.out w2 w6 _ A6 c6 hb2 HV5.out hown6 hg6 hV6
                  exact ⟨m + 1, _, by omega, rfl, by go_num, r1, r2, r3⟩
              case br19 =>
                go_simp
                go_simp
                refine hK.out _ _ ?ss25 (fun hHeld2 => ?rr25)
                case ss25 => (try dsimp only); exact HS.out _ (bal hb2 _)
                clear hK K
                clear hHeld
                have hHeld := hHeld2
                clear hHeld2
                try simp only [Act.put, List.setIfInBounds_toArray, List.set_cons_zero, List.set_cons_succ]
                refine wpAnyH_ready (rs := [1]) (by kernel_rfl) (by simp) ?_
                refine AllReadyH.cons (o := ⟨some 121, _, _, _, _, _⟩) rfl (fun K hK => ?_) AllReadyH.nil
                go_simp
                refine hK.out _ _ ?ss26 (fun hHeld2 => ?rr26)
                case ss26 => (try dsimp only); exact hHeld
                clear hK K
                clear hHeld2
                try simp only [Act.put, List.setIfInBounds_toArray, List.set_cons_zero, List.set_cons_succ]
                refine wpAnyH_ready (rs := [10]) (by kernel_rfl) (by simp) ?_
                refine AllReadyH.cons (o := ⟨some 130, _, _, _, _, _⟩) rfl (fun K hK => ?_) AllReadyH.nil
                (refine step_append_sl rfl (.tmp 121) (.tmp 129) _ rfl (G + 1) 69 i0 _ 1 16 Tryz.underlying98 hi0 hz0 hz1 hz2 rfl (by omega) (.slice AV m cV) m vs rfl (HOWN.out _ (bal hb2 _)) (w2.heap.size + 1) (some ⟨w2.heap.size, 0, none⟩) 1 1 [.iface D5 z5] rfl (Sl.one w2 _ _) (HONE.out _ _) (by simp only [maxLen]; omega) (by omega) (HGW.out _ (bal hb2 _)) ?_; intro V' w6 hown6 hg6 hV6; obtain ⟨A6, c6, rfl, hs61, hs62⟩ := own_shape hown6; obtain ⟨hq0, hq1⟩ := HPRE.out _ (bal hb2 _) w6 hg6)
                refine hK.out _ _ ?ss27 (fun hHeld2 => ?rr27)
                case ss27 => (try dsimp only); exact HST.out _ _ (bal hb2 _) hg6
                clear hK K
                clear hHeld
                have hHeld := hHeld2
                clear hHeld2
                try simp only [Act.put, List.setIfInBounds_toArray, List.set_cons_zero, List.set_cons_succ]
                refine wpAnyH_take (i := 11) (oi := ⟨some 131, _, _, _, _, _⟩) (v := ?vv28) rfl (by kernel_rfl) (by kernel_rfl) (by kernel_rfl) (fun _ _ _ h => h) (Or.inl ⟨by rfl, ?yy28⟩) (by assumption) ?rr28
                case yy28 => (intro wq hSw; (try dsimp only at hSw); go_simp; try with_reducible rfl)
                try simp only [Act.put, List.setIfInBounds_toArray, List.set_cons_zero, List.set_cons_succ]
                refine wpAnyH_ready (rs := [12]) (by kernel_rfl) (by simp) ?_
                refine AllReadyH.cons (o := ⟨none, _, _, _, _, _⟩) rfl (fun K hK => ?_) AllReadyH.nil
                go_simp
                go_simp
                refine hK.out _ _ ?ss29 (fun hHeld2 => ?rr29)
                case ss29 => (try dsimp only); exact HS2.out _ _ _ (bal hb2 _) hg6
                clear hK K
                clear hHeld
                have hHeld := hHeld2
                clear hHeld2
                try simp only [Act.put, List.setIfInBounds_toArray, List.set_cons_zero, List.set_cons_succ]
                refine wpAnyH_done (by kernel_rfl) ?_ _
                go_wp2_with fail
                go_roundg (n - (m + 1))
                case measure => omega
                case rel =>
                  obtain ⟨r1, r2, r3⟩ := HREL.out w2 w6 _ A6 c6 hb2 HV5.out hown6 hg6 hV6
                  exact ⟨m + 1, _, by omega, rfl, by go_num, r1, r2, r3⟩
          · go_wp2_with fail
            refine wp_region_held_drew (S := (fun W' => Below G W0 W' ∧ W'.cell? ⟨w.heap.size + 3, 3, none⟩ = some (.slice (some ⟨g2, o2, none⟩) n c2) ∧ W'.cell? ⟨g2, o2 + m, none⟩ = some (.iface D2 z2))) (by kernel_rfl) ?ss30 (fun hHeld => ?rr30)
            case ss30 => (try dsimp only); exact HS.out _ (Below.refl _ _).drew
            refine wpAnyH_take (i := 0) (oi := ⟨some 108, _, _, _, _, _⟩) (v := ?vv31) rfl (by kernel_rfl) (by kernel_rfl) (by kernel_rfl) (fun _ _ _ h => h) (Or.inl ⟨by rfl, ?yy31⟩) (by assumption) ?rr31
            case yy31 => (intro wq hSw; (try dsimp only at hSw); go_simp; try with_reducible rfl)
            try simp only [Act.put, List.setIfInBounds_toArray, List.set_cons_zero, List.set_cons_succ]
            refine wpAnyH_take (i := 2) (oi := ⟨some 110, _, _, _, _, _⟩) (v := ?vv32) rfl (by kernel_rfl) (by kernel_rfl) (by kernel_rfl) (fun _ _ _ h => h) (Or.inl ⟨by rfl, ?yy32⟩) (by assumption) ?rr32
            case yy32 => (intro wq hSw; (try dsimp only at hSw); go_simp; try with_reducible rfl)
            try simp only [Act.put, List.setIfInBounds_toArray, List.set_cons_zero, List.set_cons_succ]
            refine wpAnyH_take (i := 3) (oi := ⟨some 111, _, _, _, _, _⟩) (v := ?vv33) rfl (by kernel_rfl) (by kernel_rfl) (by kernel_rfl) (fun _ _ _ h => h) (Or.inl ⟨by rfl, ?yy33⟩) (by assumption) ?rr33
            case yy33 => (intro wq hSw; (try dsimp only at hSw); go_simp; try with_reducible rfl)
            try simp only [Act.put, List.setIfInBounds_toArray, List.set_cons_zero, List.set_cons_succ]
            refine wpAnyH_take (i := 4) (oi := ⟨some 112, _, _, _, _, _⟩) (v := ?vv34) rfl (by kernel_rfl) (by kernel_rfl) (by kernel_rfl) (fun _ _ _ h => h) (Or.inl ⟨by rfl, ?yy34⟩) (by assumption) ?rr34
            case yy34 => (intro wq hSw; (try dsimp only at hSw); go_simp; try with_reducible rfl)
            try simp only [Act.put, List.setIfInBounds_toArray, List.set_cons_zero, List.set_cons_succ]
            refine wpAnyH_take (i := 5) (oi := ⟨some 113, _, _, _, _, _⟩) (v := ?vv35) rfl (by kernel_rfl) (by kernel_rfl) (by kernel_rfl) (fun _ _ _ h => h) (Or.inl ⟨by rfl, ?yy35⟩) (by assumption) ?rr35
            case yy35 => (intro wq hSw; (try dsimp only at hSw); go_simp; try with_reducible rfl)
            try simp only [Act.put, List.setIfInBounds_toArray, List.set_cons_zero, List.set_cons_succ]
            refine wpAnyH_take (i := 6) (oi := ⟨some 114, _, _, _, _, _⟩) (v := ?vv36) rfl (by kernel_rfl) (by kernel_rfl) (by kernel_rfl) (fun _ _ _ h => h) (Or.inl ⟨by rfl, ?yy36⟩) (by assumption) ?rr36
            case yy36 => (intro wq hSw; (try dsimp only at hSw); go_simp; try with_reducible rfl)
            try simp only [Act.put, List.setIfInBounds_toArray, List.set_cons_zero, List.set_cons_succ]
            refine wpAnyH_take (i := 7) (oi := ⟨some 115, _, _, _, _, _⟩) (v := ?vv37) rfl (by kernel_rfl) (by kernel_rfl) (by kernel_rfl) (fun _ _ _ h => h) (Or.inl ⟨by rfl, ?yy37⟩) (by assumption) ?rr37
            case yy37 => (intro wq hSw; (try dsimp only at hSw); go_simp; try with_reducible rfl)
            try simp only [Act.put, List.setIfInBounds_toArray, List.set_cons_zero, List.set_cons_succ]
            refine wpAnyH_ready (rs := [1, 8]) (by kernel_rfl) (by simp) ?_
            refine AllReadyH.cons (o := ⟨some 109, _, _, _, _, _⟩) rfl (fun K hK => ?br38) (AllReadyH.cons (o := ⟨some 116, _, _, _, _, _⟩) rfl (fun K hK => ?br39) AllReadyH.nil)
            case br38 =>
              go_simp
              refine hK.out _ _ ?ss40 (fun hHeld2 => ?rr40)
              case ss40 => (try dsimp only); exact hHeld
              clear hK K
              clear hHeld2
              try simp only [Act.put, List.setIfInBounds_toArray, List.set_cons_zero, List.set_cons_succ]
              refine wpAnyH_ready (rs := [8]) (by kernel_rfl) (by simp) ?_
              refine AllReadyH.cons (o := ⟨some 116, _, _, _, _, _⟩) rfl (fun K hK => ?_) AllReadyH.nil
              go_simp
              ((refine (HCALL.out _ (Below.refl _ _).drew).mono ?_); rintro e w2 ⟨v5, rfl, hv5, hb2'⟩; have hb2 : Below wr.heap.size wr w2 := bl (Below.refl _ _).drew hb2'; clear hb2'; have hz3 := HZ3.out w2 hb2; obtain ⟨D5, z5, rfl⟩ := hv5.face; have hz3b := HZ3.out _ (bal hb2 (.cells #[.iface D5 z5] 69)); have HV5 := Lib.hid hv5; clear hv5)
              refine hK.out _ _ ?ss41 (fun hHeld2 => ?rr41)
              case ss41 => (try dsimp only); exact HS.out _ hb2
              clear hK K
              clear hHeld
              have hHeld := hHeld2
              clear hHeld2
              try simp only [Act.put, List.setIfInBounds_toArray, List.set_cons_zero, List.set_cons_succ]
              refine wpAnyH_ready (rs := [9]) (by kernel_rfl) (by simp) ?_
              refine AllReadyH.cons (o := ⟨some 117, _, _, _, _, _⟩) rfl (fun K hK => ?_) AllReadyH.nil
              go_simp
              go_simp
              refine hK.out _ _ ?ss42 (fun hHeld2 => ?rr42)
              case ss42 => (try dsimp only); exact HS.out _ (bal hb2 _)
              clear hK K
              clear hHeld
              have hHeld := hHeld2
              clear hHeld2
              try simp only [Act.put, List.setIfInBounds_toArray, List.set_cons_zero, List.set_cons_succ]
              refine wpAnyH_ready (rs := [10]) (by kernel_rfl) (by simp) ?_
              refine AllReadyH.cons (o := ⟨some 118, _, _, _, _, _⟩) rfl (fun K hK => ?_) AllReadyH.nil
              (refine step_append_sl rfl (.tmp 109) (.tmp 117) _ rfl (G + 1) 69 i0 _ 1 16 Tryz.underlying98 hi0 hz0 hz1 hz2 rfl (by omega) (.slice AV m cV) m vs rfl (HOWN.out _ (bal hb2 _)) (w2.heap.size + 1) (some ⟨w2.heap.size, 0, none⟩) 1 1 [.iface D5 z5] rfl (Sl.one w2 _ _) (HONE.out _ _) (by simp only [maxLen]; omega) (by omega) (HGW.out _ (bal hb2 _)) ?_; intro V' w6 hown6 hg6 hV6; obtain ⟨A6, c6, rfl, hs61, hs62⟩ := own_shape hown6; obtain ⟨hq0, hq1⟩ := HPRE.out _ (bal hb2 _) w6 hg6)
              refine hK.out _ _ ?ss43 (fun hHeld2 => ?rr43)
              case ss43 => (try dsimp only); exact HST.out _ _ (bal hb2 _) hg6
              clear hK K
              clear hHeld
              have hHeld := hHeld2
              clear hHeld2
              try simp only [Act.put, List.setIfInBounds_toArray, List.set_cons_zero, List.set_cons_succ]
              refine wpAnyH_take (i := 11) (oi := ⟨some 119, _, _, _, _, _⟩) (v := ?vv44) rfl (by kernel_rfl) (by kernel_rfl) (by kernel_rfl) (fun _ _ _ h => h) (Or.inl ⟨by rfl, ?yy44⟩) (by assumption) ?rr44
              case yy44 => (intro wq hSw; (try dsimp only at hSw); go_simp; try with_reducible rfl)
              try simp only [Act.put, List.setIfInBounds_toArray, List.set_cons_zero, List.set_cons_succ]
              refine wpAnyH_ready (rs := [12]) (by kernel_rfl) (by simp) ?_
              refine AllReadyH.cons (o := ⟨none, _, _, _, _, _⟩) rfl (fun K hK => ?_) AllReadyH.nil
              go_simp
              go_simp
              refine hK.out _ _ ?ss45 (fun hHeld2 => ?rr45)
              case ss45 => (try dsimp only); exact HS2.out _ _ _ (bal hb2 _) hg6
              clear hK K
              clear hHeld
              have hHeld := hHeld2
              clear hHeld2
              try simp only [Act.put, List.setIfInBounds_toArray, List.set_cons_zero, List.set_cons_succ]
              refine wpAnyH_done (by kernel_rfl) ?_ _
              go_wp2_with fail
              go_roundg (n - (m + 1))
              case measure => omega
              case rel =>
                obtain ⟨r1, r2, r3⟩ := HREL.out w2 w6 _ A6 c6 hb2 HV5.out hown6 hg6 hV6
                exact ⟨m + 1, _, by omega, rfl, by go_num, r1, r2, r3⟩
            case br39 =>
              go_simp
              ((refine (HCALL.out _ (Below.refl _ _).drew).mono ?_); rintro e w2 ⟨v5, rfl, hv5, hb2'⟩; have hb2 : Below wr.heap.size wr w2 := bl (Below.refl _ _).drew hb2'; clear hb2'; have hz3 := HZ3.out w2 hb2; obtain ⟨D5, z5, rfl⟩ := hv5.face; have hz3b := HZ3.out _ (bal hb2 (.cells #[.iface D5 z5] 69)); have HV5 := Lib.hid hv5; clear hv5)
              refine hK.out _ _ ?ss46 (fun hHeld2 => ?rr46)
              case ss46 => (try dsimp only); exact HS.out _ hb2
              clear hK K
              clear hHeld
              have hHeld := hHeld2
              clear hHeld2
              try simp only [Act.put, List.setIfInBounds_toArray, List.set_cons_zero, List.set_cons_succ]
              refine wpAnyH_ready (rs := [1, 9]) (by kernel_rfl) (by simp) ?_
              refine AllReadyH.cons (o := ⟨some 109, _, _, _, _, _⟩) rfl (fun K hK => ?br47) (AllReadyH.cons (o := ⟨some 117, _, _, _, _, _⟩) rfl (fun K hK => ?br48) AllReadyH.nil)
              case br47 =>
                go_simp
                refine hK.out _ _ ?ss49 (fun hHeld2 => ?rr49)
                case ss49 => (try dsimp only); exact hHeld
                clear hK K
                clear hHeld2
                try simp only [Act.put, List.setIfInBounds_toArray, List.set_cons_zero, List.set_cons_succ]
                refine wpAnyH_ready (rs := [9]) (by kernel_rfl) (by simp) ?_
                refine AllReadyH.cons (o := ⟨some 117, _, _, _, _, _⟩) rfl (fun K hK => ?_) AllReadyH.nil
                go_simp
                go_simp
                refine hK.out _ _ ?ss50 (fun hHeld2 => ?rr50)
                case ss50 => (try dsimp only); exact HS.out _ (bal hb2 _)
                clear hK K
                clear hHeld
                have hHeld := hHeld2
                clear hHeld2
                try simp only [Act.put, List.setIfInBounds_toArray, List.set_cons_zero, List.set_cons_succ]
                refine wpAnyH_ready (rs := [10]) (by kernel_rfl) (by simp) ?_
                refine AllReadyH.cons (o := ⟨some 118, _, _, _, _, _⟩) rfl (fun K hK => ?_) AllReadyH.nil
                (refine step_append_sl rfl (.tmp 109) (.tmp 117) _ rfl (G + 1) 69 i0 _ 1 16 Tryz.underlying98 hi0 hz0 hz1 hz2 rfl (by omega) (.slice AV m cV) m vs rfl (HOWN.out _ (bal hb2 _)) (w2.heap.size + 1) (some ⟨w2.heap.size, 0, none⟩) 1 1 [.iface D5 z5] rfl (Sl.one w2 _ _) (HONE.out _ _) (by simp only [maxLen]; omega) (by omega) (HGW.out _ (bal hb2 _)) ?_; intro V' w6 hown6 hg6 hV6; obtain ⟨A6, c6, rfl, hs61, hs62⟩ := own_shape hown6; obtain ⟨hq0, hq1⟩ := HPRE.out _ (bal hb2 _) w6 hg6)
                refine hK.out _ _ ?ss51 (fun hHeld2 => ?rr51)
                case ss51 => (try dsimp only); exact HST.out _ _ (bal hb2 _) hg6
                clear hK K
                clear hHeld
                have hHeld := hHeld2
                clear hHeld2
                try simp only [Act.put, List.setIfInBounds_toArray, List.set_cons_zero, List.set_cons_succ]
                refine wpAnyH_take (i := 11) (oi := ⟨some 119, _, _, _, _, _⟩) (v := ?vv52) rfl (by kernel_rfl) (by kernel_rfl) (by kernel_rfl) (fun _ _ _ h => h) (Or.inl ⟨by rfl, ?yy52⟩) (by assumption) ?rr52
                case yy52 => (intro wq hSw; (try dsimp only at hSw); go_simp; try with_reducible rfl)
                try simp only [Act.put, List.setIfInBounds_toArray, List.set_cons_zero, List.set_cons_succ]
                refine wpAnyH_ready (rs := [12]) (by kernel_rfl) (by simp) ?_
                refine AllReadyH.cons (o := ⟨none, _, _, _, _, _⟩) rfl (fun K hK => ?_) AllReadyH.nil
                go_simp
                go_simp
                refine hK.out _ _ ?ss53 (fun hHeld2 => ?rr53)
                case ss53 => (try dsimp only); exact HS2.out _ _ _ (bal hb2 _) hg6
                clear hK K
                clear hHeld
                have hHeld := hHeld2
                clear hHeld2
                try simp only [Act.put, List.setIfInBounds_toArray, List.set_cons_zero, List.set_cons_succ]
                refine wpAnyH_done (by kernel_rfl) ?_ _
                go_wp2_with fail
                go_roundg (n - (m + 1))
                case measure => omega
                case rel =>
                  obtain ⟨r1, r2, r3⟩ := HREL.out w2 w6 _ A6 c6 hb2 HV5.out hown6 hg6 hV6
                  exact ⟨m + 1, _, by omega, rfl, by go_num, r1, r2, r3⟩
              case br48 =>
                go_simp
                go_simp
                refine hK.out _ _ ?ss54 (fun hHeld2 => ?rr54)
                case ss54 => (try dsimp only); exact HS.out _ (bal hb2 _)
                clear hK K
                clear hHeld
                have hHeld := hHeld2
                clear hHeld2
                try simp only [Act.put, List.setIfInBounds_toArray, List.set_cons_zero, List.set_cons_succ]
                refine wpAnyH_ready (rs := [1]) (by kernel_rfl) (by simp) ?_
                refine AllReadyH.cons (o := ⟨some 109, _, _, _, _, _⟩) rfl (fun K hK => ?_) AllReadyH.nil
                go_simp
                refine hK.out _ _ ?ss55 (fun hHeld2 => ?rr55)
                case ss55 => (try dsimp only); exact hHeld
                clear hK K
                clear hHeld2
                try simp only [Act.put, List.setIfInBounds_toArray, List.set_cons_zero, List.set_cons_succ]
                refine wpAnyH_ready (rs := [10]) (by kernel_rfl) (by simp) ?_
                refine AllReadyH.cons (o := ⟨some 118, _, _, _, _, _⟩) rfl (fun K hK => ?_) AllReadyH.nil
                (refine step_append_sl rfl (.tmp 109) (.tmp 117) _ rfl (G + 1) 69 i0 _ 1 16 Tryz.underlying98 hi0 hz0 hz1 hz2 rfl (by omega) (.slice AV m cV) m vs rfl (HOWN.out _ (bal hb2 _)) (w2.heap.size + 1) (some ⟨w2.heap.size, 0, none⟩) 1 1 [.iface D5 z5] rfl (Sl.one w2 _ _) (HONE.out _ _) (by simp only [maxLen]; omega) (by omega) (HGW.out _ (bal hb2 _)) ?_; intro V' w6 hown6 hg6 hV6; obtain ⟨A6, c6, rfl, hs61, hs62⟩ := own_shape hown6; obtain ⟨hq0, hq1⟩ := HPRE.out _ (bal hb2 _) w6 hg6)
                refine hK.out _ _ ?ss56 (fun hHeld2 => ?rr56)
                case ss56 => (try dsimp only); exact HST.out _ _ (bal hb2 _) hg6
                clear hK K
                clear hHeld
                have hHeld := hHeld2
                clear hHeld2
                try simp only [Act.put, List.setIfInBounds_toArray, List.set_cons_zero, List.set_cons_succ]
                refine wpAnyH_take (i := 11) (oi := ⟨some 119, _, _, _, _, _⟩) (v := ?vv57) rfl (by kernel_rfl) (by kernel_rfl) (by kernel_rfl) (fun _ _ _ h => h) (Or.inl ⟨by rfl, ?yy57⟩) (by assumption) ?rr57
                case yy57 => (intro wq hSw; (try dsimp only at hSw); go_simp; try with_reducible rfl)
                try simp only [Act.put, List.setIfInBounds_toArray, List.set_cons_zero, List.set_cons_succ]
                refine wpAnyH_ready (rs := [12]) (by kernel_rfl) (by simp) ?_
                refine AllReadyH.cons (o := ⟨none, _, _, _, _, _⟩) rfl (fun K hK => ?_) AllReadyH.nil
                go_simp
                go_simp
                refine hK.out _ _ ?ss58 (fun hHeld2 => ?rr58)
                case ss58 => (try dsimp only); exact HS2.out _ _ _ (bal hb2 _) hg6
                clear hK K
                clear hHeld
                have hHeld := hHeld2
                clear hHeld2
                try simp only [Act.put, List.setIfInBounds_toArray, List.set_cons_zero, List.set_cons_succ]
                refine wpAnyH_done (by kernel_rfl) ?_ _
                go_wp2_with fail
                go_roundg (n - (m + 1))
                case measure => omega
                case rel =>
                  obtain ⟨r1, r2, r3⟩ := HREL.out w2 w6 _ A6 c6 hb2 HV5.out hown6 hg6 hV6
                  exact ⟨m + 1, _, by omega, rfl, by go_num, r1, r2, r3⟩
        · obtain rfl : m = n := by omega
          have p0 := HBK.out.cell 0
          have p1 := HBK.out.cell 1
          have p2 := HBK.out.cell 2
          have p3 := HBK.out.cell 3
          simp only [List.getElem?_toArray, List.getElem?_cons_zero, List.getElem?_cons_succ] at p0 p1 p2 p3
          go_wp2_with fail
          go_ret
          refine ⟨_, rfl, ?_, HB.out.trans (HBG.out.mono hGl.1)⟩
          rw [← HR.out]
          exact HKD.out.part ((thR_len hnb).trans HN.out.symm) (fun b hb => by rcases hb with h | h; exact .inl h; right; omega) p i

theorem then_callW (n : Nat) : ∀ (s t : Co) (vs vt : Value) (C C2 : Nat → Prop) (w : World), s.sz + t.sz ≤ n → okC s → okC t → meetC s t = true → (∀ b, C b → b < w.heap.size) → (∀ b, C2 b → b < w.heap.size) → VCo w C s vs → VCo w C2 t vt →
    Calls Tryz.prog 25 #[vs, vt] w fun e w' => ThenQ (fun b => C b ∨ C2 b) (thenC s t) w e w' := by
  induction n with
  | zero =>
    intro s t vs vt C C2 w hn hs ht hm hC hC2 hv hv2
    cases s with
    | any => simp only [VCo] at hv; subst hv; rw [then_any]; exact then_anyW t vt C C2 w hv2
    | fail p l f q => simp only [VCo] at hv; subst hv; rw [then_fail]; exact then_failW p l f q t vt C C2 w hv2
    | part p j h a b => simp [Co.sz] at hn
  | succ n ih =>
    intro s t vs vt C C2 w hn hs ht hm hC hC2 hv hv2
    cases s with
    | any => simp only [VCo] at hv; subst hv; rw [then_any]; exact then_anyW t vt C C2 w hv2
    | fail p l f q => simp only [VCo] at hv; subst hv; rw [then_fail]; exact then_failW p l f q t vt C C2 w hv2
    | part p j h a b =>
      have hv0 := hv
      simp only [VCo] at hv
      obtain ⟨A, c, va, vb, rfl, h1, h2, h3, h4, h5⟩ := hv
      cases t with
      | any => simp only [VCo] at hv2; subst hv2; rw [then_r]; exact then_part_any p j h a b A _ c C C2 w hv0
      | fail q l f t => simp only [VCo] at hv2; subst hv2; exact then_part_fail p j h a b A _ c C C2 w q l f t
      | part q i k x y =>
        simp only [VCo] at hv2
        obtain ⟨A2, c2, va2, vb2, rfl, g1, g2, g3, g4, g5⟩ := hv2
        refine then_ppW p j h a b A _ c q i k x y A2 _ c2 va vb va2 vb2 C C2 w hs ht hm rfl rfl h1 h2 g1 g2 h3 h4 h5 g3 g4 g5 hC hC2 ?_
        intro m hk hmk v v2 W hsz hv hv2
        have hW : ∀ b, C b → b < W.heap.size := fun b hb => by have := hC b hb; omega
        have hW2 : ∀ b, C2 b → b < W.heap.size := fun b hb => by have := hC2 b hb; omega
        obtain ⟨o1, z1⟩ := kid_ok hs m
        obtain ⟨o2, z2⟩ := kid_ok ht m
        unfold thenK
        unfold meetK at hmk
        cases hT : turnd h m
        · rw [hT] at hmk
          exact ih _ _ v v2 C C2 W (by omega) o1 o2 hmk hW hW2 hv hv2
        · rw [hT] at hmk
          refine (ih _ _ v2 v C2 C W (by omega) o2 o1 hmk hW2 hW hv2 hv).mono fun e w' ⟨u, e1, e2, e3⟩ => ⟨u, e1, e2.mono fun b hb => ?_, e3⟩
          rcases hb with (h | h) | h
          · exact .inl (.inr h)
          · exact .inl (.inl h)
          · exact .inr h

/-- What Then answers. -/
def thenL (s t : List Nd) : List Nd × Int := match treeC s, treeC t with
  | some a, some b => if meetC a b = true then ((thenC a b).list, 0) else ([], 30)
  | _, _ => ([], 20)
def ThenR (l : List Nd) (E : Int) (w : World) (e : Ending) (w' : World) : Prop := ∃ V, e = .returned (.tuple #[V, .int .i64 E]) ∧ w'.ownsRow w.heap.size 28 7 V l.length (nds l) ∧ Below w.heap.size w w'
theorem ThenR.none (E : Int) {w w' : World} (hb : Below w.heap.size w w') : ThenR [] E w (.returned (.tuple #[.slice none 0 0, .int .i64 E])) w' := ⟨_, rfl, World.ownsRow_nil _ _ _ _, hb⟩
set_option maxHeartbeats 1000000 in
theorem Then_any (l l2 : List Nd) (A A2 : Option Addr) (c c2 : Nat) (w : World) (hl : l.length ≤ c) (hc : c ≤ maxLen) (hA : LN w A l) (hl2 : l2.length ≤ c2) (hc2 : c2 ≤ maxLen) (hA2 : LN w A2 l2) (hbig : l.length + l2.length ≤ 1000000) :
    Calls Tryz.prog 9 #[.slice A l.length c, .slice A2 l2.length c2] w fun e w' => ThenR (thenL l l2).1 (thenL l l2).2 w e w' := by
  have h := tree_any l A c w hl hc hA
  have g : ∀ W, Below w.heap.size w W → Calls Tryz.prog 22 #[.slice A2 l2.length c2] W fun e w' => TreeQ (treeC l2) W e w' := fun W hb => tree_any l2 A2 c2 W hl2 hc2 (hA2.below hb)
  have ho : ∀ a b, treeC l = some a → treeC l2 = some b → okC a ∧ okC b ∧ (meetC a b = true → (thenC a b).list.length ≤ 1000000) := fun a b h1 h2 => ⟨(treeC_some h1).2.1, (treeC_some h2).2.1, fun hm => by
    have h3 := then_len _ a b (Nat.le_refl _) hm
    rw [(treeC_some h1).1, (treeC_some h2).1] at hbig
    omega⟩
  have hT : thenL l l2 = match treeC l, treeC l2 with
    | some a, some b => if meetC a b = true then ((thenC a b).list, 0) else ([], 30)
    | _, _ => ([], 20) := rfl
  obtain ⟨T, hTT⟩ : ∃ T, thenL l l2 = T := ⟨_, rfl⟩
  rw [hTT] at hT ⊢
  generalize treeC l = R at *
  generalize treeC l2 = R2 at *
  have HG := Lib.hid g
  have HO := Lib.hid ho
  have HT := Lib.hid hT
  clear hA hA2 hl hl2 hc hc2 g ho hTT hT hbig
  go_enter Tryz.func9, Tryz.ntmps9
  go_wp2_with fail
  (refine h.mono ?_); rintro ev w1 ⟨hb, hq⟩
  clear h
  cases R with
  | none =>
    obtain ⟨v, rfl⟩ := hq
    go_wp2_with fail
    (refine (HG.out _ hb).mono ?_); rintro ev w2 ⟨hb2, hq2⟩
    cases R2 with
    | none =>
      obtain ⟨v2, rfl⟩ := hq2
      go_wp2_with fail
      go_ret2
      rw [HT.out]
      exact ThenR.none _ (bl hb hb2)
    | some t =>
      obtain ⟨v2, rfl, _⟩ := hq2
      go_wp2_with fail
      go_ret2
      rw [HT.out]
      exact ThenR.none _ (bl hb hb2)
  | some s =>
    obtain ⟨v, rfl, hv⟩ := hq
    have HV := Lib.hid hv
    clear hv
    go_wp2_with fail
    (refine (HG.out _ hb).mono ?_); rintro ev w2 ⟨hb2, hq2⟩
    cases R2 with
    | none =>
      obtain ⟨v2, rfl⟩ := hq2
      go_wp2_with fail
      go_ret2
      rw [HT.out]
      exact ThenR.none _ (bl hb hb2)
    | some t =>
      obtain ⟨v2, rfl, hv2⟩ := hq2
      have hvs := (HV.out.below hb2).lt
      have hvt := hv2.lt
      have hcall := meet_callW _ s t v v2 _ _ w2 (Nat.le_refl _) (HO.out s t rfl rfl).1 (HO.out s t rfl rfl).2.1 hvs hvt
      have hT := HT.out
      simp only at hT
      obtain ⟨m, hm⟩ : ∃ m, meetC s t = m := ⟨_, rfl⟩
      unfold MeetQ at hcall
      have hth : m = true → ∀ W, Below w2.heap.size w2 W → Calls Tryz.prog 25 #[v, v2] W fun e w' => ThenQ (fun b => (w.heap.size ≤ b ∧ b < w2.heap.size) ∨ (w1.heap.size ≤ b ∧ b < w2.heap.size)) (thenC s t) W e w' := fun e W hb3 => by
        subst e
        have := hb3.size
        refine then_callW _ s t v v2 _ _ W (Nat.le_refl _) (HO.out s t rfl rfl).1 (HO.out s t rfl rfl).2.1 hm (fun b hb => ?_) (fun b hb => ?_) (hvs.below hb3) (hvt.below hb3)
        · have := hb.2; omega
        · have := hb.2; omega
      have hln : m = true → (thenC s t).list.length ≤ 1000000 := fun e => (HO.out s t rfl rfl).2.2 (hm.trans e)
      rw [hm] at hcall hT
      have HTH := Lib.hid hth
      have HLN := Lib.hid hln
      have HT2 := Lib.hid hT
      clear hm hv2 HO HV hvs hvt hth hln hT HT
      go_wp2_with fail
      (refine hcall.mono ?_); rintro ev w3 ⟨rfl, hb3⟩
      clear hcall
      cases m with
      | false =>
        go_wp2_with fail
        go_ret2
        rw [HT2.out]
        exact ThenR.none _ (bl (bl hb hb2) hb3)
      | true =>
        go_wp2_with fail
        (refine (HTH.out trivial _ hb3).mono ?_); rintro ev w4 ⟨v4, rfl, hv4, hb4⟩
        have hw := hb.size
        have hw2 := hb2.size
        have hw3 := hb3.size
        have hlist := list_any (thenC s t) v4 (.slice none 0 0) _ w.heap.size [] w4 hv4 (fun b _ h => by cases h) (World.ownsRow_nil _ _ _ _) (by have := hb4.size; omega) (by simpa using HLN.out trivial)
        have hbb := bl (bl (bl hb hb2) hb3) hb4
        clear hv4
        go_wp2_with fail
        (refine hlist.mono ?_); rintro ev w5 ⟨V5, rfl, ho5, hg5, hx5⟩
        clear hlist
        go_wp2_with fail
        go_ret2
        rw [HT2.out, if_pos trivial]
        exact ⟨_, rfl, by simpa using ho5, hbb.grown hg5 (Nat.le_trans hbb.size (Nat.le_refl _)) (by simp [Value.ownBlock])⟩
end Go.Proofs.YtjklecncdinabaaGreatDoor.C
