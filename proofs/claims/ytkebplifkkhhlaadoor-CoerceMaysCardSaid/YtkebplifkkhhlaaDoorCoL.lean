/- The law's small functions: works, pow, then; CoerceThrice's walk. -/
import Derived.Test.YtkebplifkkhhlaaDoorCoJ
import Derived.Test.YtkebplifkkhhlaaDoorCoQ
namespace Go.Proofs.YtkebplifkkhhlaaDoor.C
open Go.RowKit Go.Proofs.YtkebplifkkhhlaaDoor.B
open Go.Proofs.YtkebplifkkhhlaaDoor.T (Ty str strV arB co)
set_option linter.unusedVariables false
set_option linter.unusedSimpArgs false

def tA : Ty := .bin 62 (.leaf 105) (.leaf 105)
def tB : Ty := .bin 62 (.leaf 63) (.leaf 63)
def tC : Ty := .bin 62 (.leaf 105) (.leaf 98)
theorem tA_ok : tA.ok := ⟨by decide, by show arB 105 = 0; decide, by show arB 105 = 0; decide⟩
theorem tB_ok : tB.ok := ⟨by decide, by show arB 63 = 0; decide, by show arB 63 = 0; decide⟩
theorem tC_ok : tC.ok := ⟨by decide, by show arB 105 = 0; decide, by show arB 98 = 0; decide⟩
def lW1 : List Nd := [⟨3, 0, false, 62, 0, 0, 0⟩, ⟨2, -5, false, 105, 0, 0, 0⟩, ⟨2, 0, true, 105, 0, 0, 0⟩]
def lW2 : List Nd := [⟨3, 0, false, 62, 0, 0, 0⟩, ⟨2, 0, true, 105, 0, 0, 0⟩, ⟨2, 7, false, 98, 0, 0, 0⟩]
theorem lW1_eq : (mk (ofD tA tB) tA tB 5).list = lW1 := by rfl
theorem lW2_eq : (mk (ofD tB tC) tB tC 7).list = lW2 := by rfl
theorem meet_aa (h : Int) (k : Nat) : meetK h k .any .any = true := by unfold meetK; split <;> (rw [meet_any]; rfl)
theorem then_aa (h : Int) (k : Nat) : thenK h k .any .any = .any := by unfold thenK; split <;> rw [then_any]
theorem thenW : thenL lW1 lW2 = (cW, 0) := by
  have m : meetC (.part 0 false 62 (.part (-5) false 105 .any .any) (.part 0 true 105 .any .any)) (.part 0 false 62 (.part 0 true 105 .any .any) (.part 7 false 98 .any .any)) = true := by
    rw [meet_pp]
    refine .inr ⟨rfl, rfl, ?_, ?_⟩
    · show meetC (.part 0 true 105 .any .any) (.part (-5) false 105 .any .any) = true
      rw [meet_pp]; exact .inr ⟨by decide, rfl, meet_aa _ _, meet_aa _ _⟩
    · show meetC (.part 0 true 105 .any .any) (.part 7 false 98 .any .any) = true
      rw [meet_pp]; exact .inl ⟨rfl, by decide, by decide⟩
  have e : thenC (.part 0 false 62 (.part (-5) false 105 .any .any) (.part 0 true 105 .any .any)) (.part 0 false 62 (.part 0 true 105 .any .any) (.part 7 false 98 .any .any)) = .part 0 false 62 (.part 0 false 105 .any .any) (.fail 0 7 105 98) := by
    rw [then_pp, if_neg (by decide)]
    have e0 : thenK 62 0 (.part (-5) false 105 .any .any) (.part 0 true 105 .any .any) = .part 0 false 105 .any .any := by
      show thenC (.part 0 true 105 .any .any) (.part (-5) false 105 .any .any) = _
      rw [then_pp, if_neg (by decide), then_aa, then_aa]
    have e1 : thenK 62 1 (.part 0 true 105 .any .any) (.part 7 false 98 .any .any) = .fail 0 7 105 98 := by
      show thenC (.part 0 true 105 .any .any) (.part 7 false 98 .any .any) = _
      rw [then_pp, if_pos (by decide)]
    rw [e0, e1]
  unfold thenL
  rw [show treeC lW1 = some (.part 0 false 62 (.part (-5) false 105 .any .any) (.part 0 true 105 .any .any)) from rfl, show treeC lW2 = some (.part 0 false 62 (.part 0 true 105 .any .any) (.part 7 false 98 .any .any)) from rfl]
  simp only
  rw [if_pos m, e]; rfl

theorem own_LN {w : World} {base n c : Nat} {l : List Nd} {A : Option Addr} (h : w.ownsRow base 102 7 (.slice A n c) n (nds l)) (hn : n = l.length) : LN w A l := by
  subst hn; exact own_sl h

set_option maxHeartbeats 1000000 in
theorem works_any (w : World) : Calls Tryd.prog 41 #[] w fun e w' => e = .returned (.bool true) ∧ Below w.heap.size w w' := by
  have h1 : ∀ W, Calls Tryd.prog 55 #[.string ⟨#[62, 105, 105]⟩, .string ⟨#[62, 63, 63]⟩, .int .i64 5] W fun e w' => OfR lW1 0 W e w' := fun W =>
    lW1_eq ▸ Of_yes tA tB 5 W tA_ok tB_ok (by decide) (by decide) (by rfl) (by decide) (by rw [lW1_eq]; decide)
  have h2 : ∀ W, Calls Tryd.prog 55 #[.string ⟨#[62, 63, 63]⟩, .string ⟨#[62, 105, 98]⟩, .int .i64 7] W fun e w' => OfR lW2 0 W e w' := fun W =>
    lW2_eq ▸ Of_yes tB tC 7 W tB_ok tC_ok (by decide) (by decide) (by rfl) (by decide) (by rw [lW2_eq]; decide)
  have H1 := Lib.hid h1
  have H2 := Lib.hid h2
  clear h1 h2
  go_enter Tryd.func41, Tryd.ntmps41
  go_wp2_with fail
  (refine (H1.out _).mono ?_); rintro ev w1 ⟨V1, rfl, ho1, hb1⟩
  obtain ⟨A1, c1, rfl, hc1, hc1m⟩ := own_shape ho1
  have HO1 := Lib.hid ho1
  clear ho1
  go_wp2_with fail
  (refine (H2.out _).mono ?_); rintro ev w2 ⟨V2, rfl, ho2, hb2⟩
  obtain ⟨A2, c2, rfl, hc2, hc2m⟩ := own_shape ho2
  have h3 := Then_any lW1 lW2 A1 A2 c1 c2 w2 hc1 hc1m (own_LN (own_below HO1.out hb2) rfl) hc2 hc2m (own_LN ho2 rfl) (by decide)
  rw [thenW] at h3
  have HB := Lib.hid (bl hb1 hb2)
  clear ho2 hb1 hb2
  go_wp2_with fail
  (refine h3.mono ?_); rintro ev w3 ⟨V3, rfl, ho3, hb3⟩
  clear h3
  obtain ⟨A3, c3, rfl, hc3, hc3m⟩ := own_shape ho3
  have h4 := text_works A3 c3 w3 hc3 hc3m (own_LN ho3 rfl)
  have HB3 := Lib.hid (bl HB.out hb3)
  clear ho3 hb3
  go_wp2_with fail
  (refine h4.mono ?_); rintro ev w4 ⟨rfl, hb4⟩
  clear h4
  go_wp2_with fail
  go_ret
  exact ⟨rfl, bl HB3.out hb4⟩

theorem pow2_le {n : Nat} (h : n ≤ 30) : 2 ^ n ≤ 1073741824 := by
  have : 2 ^ n ≤ 2 ^ 30 := Nat.pow_le_pow_right (by omega) h
  omega
set_option maxHeartbeats 1000000 in
theorem pow_any (n : Nat) (w : World) (hn : n ≤ 1000000) : Calls Tryd.prog 93 #[.int .i64 n] w fun e w' => e = .returned (.int .i64 (powN n : Nat)) ∧ w = w' := by
  go_enter Tryd.func93, Tryd.ntmps93
  go_wp2_with fail
  go_loopg [3, 4] 30 (fun g p i wr => ∃ (k q : Nat), k ≤ n ∧ k ≤ 30 ∧ g = 30 - k ∧ p = .int .i64 q ∧ q = 2 ^ k ∧ i = .int .i64 k ∧ wr = w)
  case atStart => exact ⟨0, 1, by omega, by omega, rfl, rfl, rfl, rfl, rfl⟩
  case round =>
    obtain ⟨k, q, hk, hk30, rfl, rfl, hq, rfl, rfl⟩ := hrel
    have hq1 : q ≤ 1073741824 := by rw [hq]; exact pow2_le hk30
    have hq2 : 1 ≤ q := by rw [hq]; exact Nat.one_le_two_pow
    have HQ := Lib.hid hq
    clear hq
    by_cases h1 : k < n
    · by_cases h2 : k < 30
      · go_wp2_with fail
        go_roundg (30 - (k + 1))
        case measure => omega
        case rel => exact ⟨k + 1, 2 * q, by omega, by omega, rfl, by go_num, by rw [HQ.out, Nat.pow_succ]; omega, by go_num, rfl⟩
      · have h2' : decide ((k : Int) < 30) = false := by simp; omega
        obtain rfl : k = 30 := by omega
        go_wp2_with fail
        go_ret
        refine ⟨?_, rfl⟩
        unfold powN
        rw [Nat.min_eq_right (by omega), ← HQ.out]
        go_num
    · have h1' : decide ((k : Int) < (n : Int)) = false := by simp; omega
      obtain rfl : k = n := by omega
      go_wp2_with fail
      go_ret
      refine ⟨?_, rfl⟩
      unfold powN
      rw [Nat.min_eq_left hk30, ← HQ.out]
      go_num

/-- The law's then: both as one, and it is all right. -/
def Then13 (r : Co) (w : World) (e : Ending) (w' : World) : Prop := ∃ V, e = .returned (.tuple #[V, .bool true]) ∧ w'.ownsRow w.heap.size 102 7 V r.list.length (nds r.list) ∧ Below w.heap.size w w'

set_option maxRecDepth 100000 in
set_option maxHeartbeats 4000000 in
theorem then13_any (l l2 : List Nd) (a b : Co) (A A2 : Option Addr) (c c2 : Nat) (w : World) (ht : treeC l = some a) (ht2 : treeC l2 = some b) (hm : meetC a b = true) (hl : l.length ≤ c) (hc : c ≤ maxLen) (hA : LN w A l) (hl2 : l2.length ≤ c2) (hc2 : c2 ≤ maxLen) (hA2 : LN w A2 l2) (hbig : l.length + l2.length ≤ 16384) :
    Calls Tryd.prog 42 #[.slice A l.length c, .slice A2 l2.length c2] w fun e w' => Then13 (thenC a b) w e w' := by
  obtain ⟨p1, p2, p3, p4, p5⟩ := thenM ht ht2 hm
  have hth : thenL l l2 = ((thenC a b).list, 0) := by unfold thenL; rw [ht, ht2]; simp only; rw [if_pos hm]
  have hme : meetL l l2 = true := by unfold meetL; rw [ht, ht2]; exact hm
  have hh1 : highC l = a.high := by unfold highC; rw [ht]
  have hh2 : highC l2 = b.high := by unfold highC; rw [ht2]
  have hh3 : highC (thenC a b).list = (thenC a b).high := by unfold highC; rw [p1]
  have hi1 := (treeC_some ht).2.2
  have hi2 := (treeC_some ht2).2.2
  have k1 := copyCos_any l A c w (by omega) hA
  have k2 : ∀ W, Below w.heap.size w W → _ := fun W hb => copyCos_any l2 A2 c2 W (by omega) (hA2.below hb)
  have k3 : ∀ W A' c' A'' c'', LN W A' l → LN W A'' l2 → l.length ≤ c' → c' ≤ maxLen → l2.length ≤ c'' → c'' ≤ maxLen → _ := fun W A' c' A'' c'' g1 g2 g3 g4 g5 g6 => Then_any l l2 A' A'' c' c'' W g3 g4 g1 g5 g6 g2 (by omega)
  rw [hth] at k3
  have k4 : ∀ W, Below w.heap.size w W → _ := fun W hb => Height_c l A c W hl hc (hA.below hb)
  have k5 : ∀ W, Below w.heap.size w W → _ := fun W hb => Height_c l2 A2 c2 W hl2 hc2 (hA2.below hb)
  rw [hh1] at k4
  rw [hh2] at k5
  have k6 : ∀ W, Below w.heap.size w W → _ := fun W hb => Meet_any l l2 A A2 c c2 W hl hc (hA.below hb) hl2 hc2 (hA2.below hb)
  rw [hme] at k6
  obtain ⟨M, hM⟩ : ∃ M, (thenC a b).list = M := ⟨_, rfl⟩
  have hmay : (treeC M).isSome = true := by rw [← hM, p1]; rfl
  have hpw := len_powN p5 (by omega)
  unfold Then13
  rw [hM] at k3 p4 hh3 hpw ⊢
  obtain ⟨L, hL⟩ : ∃ L, M.length = L := ⟨_, rfl⟩
  obtain ⟨L1, hL1⟩ : ∃ L, l.length = L := ⟨_, rfl⟩
  obtain ⟨L2, hL2⟩ : ∃ L, l2.length = L := ⟨_, rfl⟩
  have k7 : ∀ W A' c', LN W A' M → L ≤ c' → c' ≤ maxLen → Calls Tryd.prog 39 #[.slice A' L c'] W fun e w' => e = .returned (.bool true) ∧ Below W.heap.size W w' := fun W A' c' g1 g2 g3 => by
    have := may_any M A' c' W (by omega) g3 g1
    rw [hmay, hL] at this; exact this
  obtain ⟨H, hH⟩ : ∃ H, (thenC a b).high = H := ⟨_, rfl⟩
  obtain ⟨H1, hH1⟩ : ∃ H, a.high = H := ⟨_, rfl⟩
  obtain ⟨H2, hH2⟩ : ∃ H, b.high = H := ⟨_, rfl⟩
  rw [hH] at p2 p3 hh3 hpw
  rw [hH1] at p2 hi1 k4
  rw [hH2] at p2 hi2 k5
  have k8 : ∀ W A' c', LN W A' M → L ≤ c' → c' ≤ maxLen → Calls Tryd.prog 51 #[.slice A' L c'] W fun e w' => e = .returned (.int .i64 H) ∧ Below W.heap.size W w' := fun W A' c' g1 g2 g3 => by
    have := Height_c M A' c' W (by omega) g3 g1
    rw [hh3, hL] at this; exact this
  have k9 := fun W => pow_any H W (by omega)
  obtain ⟨P, hP⟩ : ∃ P, powN H = P := ⟨_, rfl⟩
  rw [hL] at p4 hpw
  rw [hP] at hpw k9
  rw [hL1] at p4 k1 k4 k6 k3 hbig hl ⊢
  rw [hL2] at p4 k2 k5 k6 k3 hbig hl2 ⊢
  have K1 := Lib.hid k1
  have K2 := Lib.hid k2
  have K3 := Lib.hid k3
  have K4 := Lib.hid k4
  have K5 := Lib.hid k5
  have K6 := Lib.hid k6
  have K7 := Lib.hid k7
  have K8 := Lib.hid k8
  have K9 := Lib.hid k9
  have HL := Lib.hid hL
  clear k1 k2 k3 k4 k5 k6 k7 k8 k9 hth hme hh1 hh2 hh3 ht ht2 hm hM hmay p5 p1 hL hL1 hL2 hH hH1 hH2 hP hA hA2
  have f1 : 1 ≤ (H : Int) := by omega
  have f2 : (L : Int) ≤ (P : Int) := by omega
  have f3 : (L : Int) ≤ (L1 : Int) + (L2 : Int) := by omega
  go_enter Tryd.func42, Tryd.ntmps42
  go_wp2_with fail
  (refine K1.out.mono ?_); rintro ev w1 ⟨A', c', rfl, x1, x2, x3, hb1⟩
  have X1 := Lib.hid x3
  clear x3
  go_wp2_with fail
  (refine (K2.out _ hb1).mono ?_); rintro ev w2 ⟨A'', c'', rfl, y1, y2, y3, hb2⟩
  have hth := K3.out w2 A' c' A'' c'' (X1.out.below hb2) y3 x1 x2 y1 y2
  have HB2 := Lib.hid (bl hb1 hb2)
  clear y3 hb1 hb2
  go_wp2_with fail
  (refine hth.mono ?_); rintro ev w3 ⟨V3, rfl, ho3, hb3⟩
  clear hth
  have hw2 := HB2.out.size
  have HO3 := Lib.hid ho3
  have HB3 := Lib.hid (bl HB2.out hb3)
  clear ho3 hb3
  rw [HL.out] at HO3
  obtain ⟨A3, c3, rfl, hc31, hc32⟩ := own_shape HO3.out
  have HN := Lib.hid (show ∀ W, Below w3.heap.size w3 W → LN W A3 M from fun W hb => own_LN (own_below HO3.out hb) HL.out.symm)
  go_wp2_with fail
  (refine (K4.out _ HB3.out).mono ?_); rintro ev w4 ⟨rfl, hb4⟩
  have HB4 := Lib.hid (bl HB3.out hb4)
  have HT4 := Lib.hid hb4
  clear hb4
  go_wp2_with fail
  (refine (K5.out _ HB4.out).mono ?_); rintro ev w5 ⟨rfl, hb5⟩
  have HB5 := Lib.hid (bl HB4.out hb5)
  have HT5 := Lib.hid (bl HT4.out hb5)
  clear hb5
  go_wp2_with fail
  all_goals
    (refine (K6.out _ HB5.out).mono ?_); rintro ev w6 ⟨rfl, hb6⟩
    have HB6 := Lib.hid (bl HB5.out hb6)
    have HT6 := Lib.hid (bl HT5.out hb6)
    clear hb6
    go_wp2_with fail
    (refine (K7.out _ A3 c3 (HN.out _ HT6.out) hc31 hc32).mono ?_); rintro ev w7 ⟨rfl, hb7⟩
    have HB7 := Lib.hid (bl HB6.out hb7)
    have HT7 := Lib.hid (bl HT6.out hb7)
    clear hb7
    go_wp2_with fail
    (refine (K8.out _ A3 c3 (HN.out _ HT7.out) hc31 hc32).mono ?_); rintro ev w8 ⟨rfl, hb8⟩
    have HB8 := Lib.hid (bl HB7.out hb8)
    have HT8 := Lib.hid (bl HT7.out hb8)
    clear hb8
    have f4 : (H : Int) ≤ (if (H1 : Int) ≤ (H2 : Int) then (H2 : Int) else (H1 : Int)) := by split <;> omega
    go_wp2_with fail
    (refine (K8.out _ A3 c3 (HN.out _ HT8.out) hc31 hc32).mono ?_); rintro ev w9 ⟨rfl, hb9⟩
    have HB9 := Lib.hid (bl HB8.out hb9)
    have HT9 := Lib.hid (bl HT8.out hb9)
    clear hb9
    go_wp2_with fail
    (refine (K8.out _ A3 c3 (HN.out _ HT9.out) hc31 hc32).mono ?_); rintro ev w10 ⟨rfl, hb10⟩
    have HB10 := Lib.hid (bl HB9.out hb10)
    have HT10 := Lib.hid (bl HT9.out hb10)
    clear hb10
    go_wp2_with fail
    (refine (K9.out _).mono ?_); rintro ev w11 ⟨rfl, rfl⟩
    go_wp2_with fail
    go_ret2
    exact ⟨_, rfl, by rw [HL.out]; exact own_less (own_below HO3.out HT10.out) hw2, HB10.out⟩

set_option maxRecDepth 100000 in
set_option maxHeartbeats 4000000 in
theorem coerceThrice_walk (l1 l2 l3 : List Nd) (A1 A2 A3 : Option Addr) (c1 c2 c3 : Nat) (w : World) (h1 : l1.length ≤ c1) (m1 : c1 ≤ maxLen) (hA1 : LN w A1 l1) (h2 : l2.length ≤ c2) (m2 : c2 ≤ maxLen) (hA2 : LN w A2 l2) (h3 : l3.length ≤ c3) (m3 : c3 ≤ maxLen) (hA3 : LN w A3 l3)
    (z1 : l1.length ≤ 140737488355328) (z2 : l2.length ≤ 140737488355328) (z3 : l3.length ≤ 140737488355328) :
    Calls Tryd.prog 6 #[.slice A1 l1.length c1, .slice A2 l2.length c2, .slice A3 l3.length c3] w fun e w' => e = .returned (.bool true) ∧ Below w.heap.size w w' := by
  have hw := fun W => works_any W
  have k1 : ∀ W, Below w.heap.size w W → _ := fun W hb => may_any l1 A1 c1 W h1 m1 (hA1.below hb)
  have k2 : ∀ W, Below w.heap.size w W → _ := fun W hb => may_any l2 A2 c2 W h2 m2 (hA2.below hb)
  have k3 : ∀ W, Below w.heap.size w W → _ := fun W hb => may_any l3 A3 c3 W h3 m3 (hA3.below hb)
  have k4 : ∀ W, Below w.heap.size w W → _ := fun W hb => Meet_any l1 l2 A1 A2 c1 c2 W h1 m1 (hA1.below hb) h2 m2 (hA2.below hb)
  have k5 : ∀ W, Below w.heap.size w W → _ := fun W hb => Meet_any l2 l3 A2 A3 c2 c3 W h2 m2 (hA2.below hb) h3 m3 (hA3.below hb)
  have HWK := Lib.hid hw
  by_cases hz : l1.length + l2.length + l3.length ≤ 3000
  · have y1 : (l1.length : Int) + (l2.length : Int) + (l3.length : Int) ≤ 3000 := by omega
    by_cases hall : ((treeC l1).isSome && (treeC l2).isSome && (treeC l3).isSome && meetL l1 l2 && meetL l2 l3) = true
    · simp only [Bool.and_eq_true] at hall
      obtain ⟨⟨⟨⟨t1, t2⟩, t3⟩, q1⟩, q2⟩ := hall
      rw [t1] at k1
      rw [t2] at k2
      rw [t3] at k3
      rw [q1] at k4
      rw [q2] at k5
      obtain ⟨a, e1⟩ := Option.isSome_iff_exists.1 t1
      obtain ⟨b, e2⟩ := Option.isSome_iff_exists.1 t2
      obtain ⟨c, e3⟩ := Option.isSome_iff_exists.1 t3
      have g1 : meetC a b = true := by unfold meetL at q1; rw [e1, e2] at q1; exact q1
      have g2 : meetC b c = true := by unfold meetL at q2; rw [e2, e3] at q2; exact q2
      obtain ⟨g3, g4, g5⟩ := thrice e1 e2 e3 g1 g2
      obtain ⟨p1, _, _, p4, _⟩ := thenM e1 e2 g1
      obtain ⟨r1, _, _, r4, _⟩ := thenM e2 e3 g2
      obtain ⟨_, _, _, s4, _⟩ := thenM p1 e3 g3
      have x1 : ∀ W, Below w.heap.size w W → _ := fun W hb => then13_any l1 l2 a b A1 A2 c1 c2 W e1 e2 g1 h1 m1 (hA1.below hb) h2 m2 (hA2.below hb) (by omega)
      have x2 : ∀ W, Below w.heap.size w W → _ := fun W hb => then13_any l2 l3 b c A2 A3 c2 c3 W e2 e3 g2 h2 m2 (hA2.below hb) h3 m3 (hA3.below hb) (by omega)
      have x3 : ∀ W A c', Below w.heap.size w W → LN W A (thenC a b).list → (thenC a b).list.length ≤ c' → c' ≤ maxLen → _ := fun W A c' hb o1 o2 o3 => then13_any (thenC a b).list l3 (thenC a b) c A A3 c' c3 W p1 e3 g3 o2 o3 o1 h3 m3 (hA3.below hb) (by omega)
      have x4 : ∀ W A c', Below w.heap.size w W → LN W A (thenC b c).list → (thenC b c).list.length ≤ c' → c' ≤ maxLen → _ := fun W A c' hb o1 o2 o3 => then13_any l1 (thenC b c).list a (thenC b c) A1 A c1 c' W e1 r1 g4 h1 m1 (hA1.below hb) o2 o3 o1 (by omega)
      rw [← g5] at x4
      obtain ⟨U, hU⟩ : ∃ U, (thenC a b).list = U := ⟨_, rfl⟩
      obtain ⟨V, hV⟩ : ∃ V, (thenC b c).list = V := ⟨_, rfl⟩
      obtain ⟨Z, hZ⟩ : ∃ Z, (thenC (thenC a b) c).list = Z := ⟨_, rfl⟩
      unfold Then13 at x1 x2 x3 x4
      rw [hU] at x1 x3 p4 s4
      rw [hV] at x2 x4 r4
      rw [hZ] at x3 x4 s4
      have x5 : ∀ W A A' c c', LN W A Z → LN W A' Z → _ := fun W A A' c c' o1 o2 => eqCos_any Z A A' c c' W (by omega) o1 o2
      obtain ⟨UL, hUL⟩ : ∃ n, U.length = n := ⟨_, rfl⟩
      obtain ⟨VL, hVL⟩ : ∃ n, V.length = n := ⟨_, rfl⟩
      obtain ⟨ZL, hZL⟩ : ∃ n, Z.length = n := ⟨_, rfl⟩
      rw [hUL] at x1 x3
      rw [hVL] at x2 x4
      rw [hZL] at x3 x4 x5
      have K1 := Lib.hid k1
      have K2 := Lib.hid k2
      have K3 := Lib.hid k3
      have K4 := Lib.hid k4
      have K5 := Lib.hid k5
      have X1 := Lib.hid x1
      have X2 := Lib.hid x2
      have X3 := Lib.hid x3
      have X4 := Lib.hid x4
      have X5 := Lib.hid x5
      have HL := Lib.hid (And.intro hUL (And.intro hVL hZL))
      clear k1 k2 k3 k4 k5 hw hA1 hA2 hA3 x1 x2 x3 x4 x5 t1 t2 t3 q1 q2 e1 e2 e3 g1 g2 g3 g4 g5 p1 r1 hU hV hZ hUL hVL hZL p4 r4 s4 z1 z2 z3 hz h1 h2 h3
      generalize l1.length = L1 at *
      generalize l2.length = L2 at *
      generalize l3.length = L3 at *
      go_enter Tryd.func6, Tryd.ntmps6
      go_wp2_with fail
      (refine (K1.out _ b0).mono ?_); rintro ev w1 ⟨rfl, hb1⟩
      have HB1 := Lib.hid (hb1)
      clear hb1
      go_wp2_with fail
      (refine (K2.out _ HB1.out).mono ?_); rintro ev w2 ⟨rfl, hb2⟩
      have HB2 := Lib.hid (bl HB1.out hb2)
      clear hb2
      go_wp2_with fail
      (refine (K3.out _ HB2.out).mono ?_); rintro ev w3 ⟨rfl, hb3⟩
      have HB3 := Lib.hid (bl HB2.out hb3)
      clear hb3
      go_wp2_with fail
      (refine (K4.out _ HB3.out).mono ?_); rintro ev w4 ⟨rfl, hb4⟩
      have HB4 := Lib.hid (bl HB3.out hb4)
      clear hb4
      go_wp2_with fail
      (refine (K5.out _ HB4.out).mono ?_); rintro ev w5 ⟨rfl, hb5⟩
      have HB5 := Lib.hid (bl HB4.out hb5)
      clear hb5
      go_wp2_with fail
      (refine (X1.out _ HB5.out).mono ?_); rintro ev w6 ⟨V6, rfl, ho6, hb6⟩
      obtain ⟨A6, c6, rfl, hc6, hm6⟩ := own_shape ho6
      have HB6 := Lib.hid (bl HB5.out hb6)
      have HO6 := Lib.hid (own_LN ho6 HL.out.1.symm)
      clear hb6 ho6
      go_wp2_with fail
      (refine (X2.out _ HB6.out).mono ?_); rintro ev w7 ⟨V7, rfl, ho7, hb7⟩
      obtain ⟨A7, c7, rfl, hc7, hm7⟩ := own_shape ho7
      have HB7 := Lib.hid (bl HB6.out hb7)
      have HO7 := Lib.hid (own_LN ho7 HL.out.2.1.symm)
      have HO67 := Lib.hid (HO6.out.below hb7)
      clear hb7 ho7
      go_wp2_with fail
      (refine (X3.out _ _ _ HB7.out HO67.out hc6 hm6).mono ?_); rintro ev w8 ⟨V8, rfl, ho8, hb8⟩
      obtain ⟨A8, c8, rfl, hc8, hm8⟩ := own_shape ho8
      have HB8 := Lib.hid (bl HB7.out hb8)
      have HO8 := Lib.hid (own_LN ho8 HL.out.2.2.symm)
      have HO78 := Lib.hid (HO7.out.below hb8)
      clear hb8 ho8
      go_wp2_with fail
      (refine (X4.out _ _ _ HB8.out HO78.out hc7 hm7).mono ?_); rintro ev w9 ⟨V9, rfl, ho9, hb9⟩
      obtain ⟨A9, c9, rfl, hc9, hm9⟩ := own_shape ho9
      have HB9 := Lib.hid (bl HB8.out hb9)
      have HO9 := Lib.hid (own_LN ho9 HL.out.2.2.symm)
      have HO89 := Lib.hid (HO8.out.below hb9)
      clear hb9 ho9
      go_wp2_with fail
      (refine (X5.out _ _ _ _ _ HO89.out HO9.out).mono ?_); rintro ev w10 ⟨rfl, hb10⟩
      have HB10 := Lib.hid (bl HB9.out hb10)
      clear hb10
      go_wp2_with fail
      (refine (HWK.out _).mono ?_); rintro ev wz ⟨rfl, hbz⟩
      go_wp2_with fail
      go_ret
      exact ⟨rfl, bl HB10.out hbz⟩
    · generalize (treeC l1).isSome = B1 at *
      generalize (treeC l2).isSome = B2 at *
      generalize (treeC l3).isSome = B3 at *
      generalize meetL l1 l2 = B4 at *
      generalize meetL l2 l3 = B5 at *
      have K1 := Lib.hid k1
      have K2 := Lib.hid k2
      have K3 := Lib.hid k3
      have K4 := Lib.hid k4
      have K5 := Lib.hid k5
      have HNO := Lib.hid hall
      clear k1 k2 k3 k4 k5 hw hA1 hA2 hA3 hall
      generalize l1.length = L1 at *
      generalize l2.length = L2 at *
      generalize l3.length = L3 at *
      go_enter Tryd.func6, Tryd.ntmps6
      go_wp2_with fail
      (refine (K1.out _ b0).mono ?_); rintro ev w1 ⟨rfl, hb1⟩
      have HB1 := Lib.hid (hb1)
      clear hb1
      cases B1
      · go_wp2_with fail
        (refine (HWK.out _).mono ?_); rintro ev wz ⟨rfl, hbz⟩
        go_wp2_with fail
        go_ret
        exact ⟨rfl, bl HB1.out hbz⟩
      · go_wp2_with fail
        (refine (K2.out _ HB1.out).mono ?_); rintro ev w2 ⟨rfl, hb2⟩
        have HB2 := Lib.hid (bl HB1.out hb2)
        clear hb2
        cases B2
        · go_wp2_with fail
          (refine (HWK.out _).mono ?_); rintro ev wz ⟨rfl, hbz⟩
          go_wp2_with fail
          go_ret
          exact ⟨rfl, bl HB2.out hbz⟩
        · go_wp2_with fail
          (refine (K3.out _ HB2.out).mono ?_); rintro ev w3 ⟨rfl, hb3⟩
          have HB3 := Lib.hid (bl HB2.out hb3)
          clear hb3
          cases B3
          · go_wp2_with fail
            (refine (HWK.out _).mono ?_); rintro ev wz ⟨rfl, hbz⟩
            go_wp2_with fail
            go_ret
            exact ⟨rfl, bl HB3.out hbz⟩
          · go_wp2_with fail
            (refine (K4.out _ HB3.out).mono ?_); rintro ev w4 ⟨rfl, hb4⟩
            have HB4 := Lib.hid (bl HB3.out hb4)
            clear hb4
            cases B4
            · go_wp2_with fail
              (refine (HWK.out _).mono ?_); rintro ev wz ⟨rfl, hbz⟩
              go_wp2_with fail
              go_ret
              exact ⟨rfl, bl HB4.out hbz⟩
            · go_wp2_with fail
              (refine (K5.out _ HB4.out).mono ?_); rintro ev w5 ⟨rfl, hb5⟩
              have HB5 := Lib.hid (bl HB4.out hb5)
              clear hb5
              cases B5
              · go_wp2_with fail
                (refine (HWK.out _).mono ?_); rintro ev wz ⟨rfl, hbz⟩
                go_wp2_with fail
                go_ret
                exact ⟨rfl, bl HB5.out hbz⟩
              · exact absurd rfl HNO.out
  · have hz' : decide ((3000 : Int) < (l1.length : Int) + (l2.length : Int) + (l3.length : Int)) = true := by simp; omega
    clear k1 k2 k3 k4 k5 hw hA1 hA2 hA3
    generalize l1.length = L1 at *
    generalize l2.length = L2 at *
    generalize l3.length = L3 at *
    go_enter Tryd.func6, Tryd.ntmps6
    go_wp2_with fail
    (refine (HWK.out _).mono ?_); rintro ev w2 ⟨rfl, hb2⟩
    go_wp2_with fail
    go_ret
    exact ⟨rfl, hb2⟩
end Go.Proofs.YtkebplifkkhhlaaDoor.C
