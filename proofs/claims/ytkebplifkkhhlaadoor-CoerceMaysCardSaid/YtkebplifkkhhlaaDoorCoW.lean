/- Contracts: High, Id of the answer; isId, IsId of the program. -/
import Derived.Test.YtkebplifkkhhlaaDoorCoV
namespace Go.Proofs.YtkebplifkkhhlaaDoor.C
open Go.RowKit Go.Proofs.YtkebplifkkhhlaaDoor.B
set_option linter.unusedVariables false
set_option linter.unusedSimpArgs false

theorem high_nk (t : Co) : t.high = hiK (t.kid 0) (t.kid 1) t.nk + 1 := by
  cases t with
  | any => rfl
  | fail p l f q => rfl
  | part p j h a b => rw [high_part]; rfl
theorem kid_kidT (t : Co) (j : Nat) (hj : j < 2) : kidT (t.kid 0) (t.kid 1) j = t.kid j := by
  cases t with
  | any => unfold kidT; split <;> rfl
  | fail p l f q => unfold kidT; split <;> rfl
  | part p ij h a b =>
    rcases j with _ | _ | j
    · rfl
    · rfl
    · omega
theorem kid_sz {t : Co} {j : Nat} (hj : j < t.nk) : (t.kid j).sz < t.sz := by
  cases t with
  | any => simp [Co.nk] at hj
  | fail p l f q => simp [Co.nk] at hj
  | part p ij h a b =>
    simp only [Co.kid, kidT, Co.sz]
    split <;> omega

/-- Is it an identity? -/
def idC : Co → Bool
  | .any => true
  | .fail .. => false
  | .part p j h a b => p == 0 && !j && ((if 1 ≤ opsN h then idC a else true) && (if 2 ≤ opsN h then idC b else true))
theorem idC_nk (t : Co) : idC t = true ↔ (t.nd.pj = 0 ∧ t.nd.ij = false ∧ t.nd.op ≠ 7 ∧ ∀ j, j < t.nk → idC (t.kid j) = true) := by
  cases t with
  | any => simp [idC, Co.nd, Co.nk]
  | fail p l f q => simp [idC, Co.nd]
  | part p j h a b =>
    have h7 := (opsO_ne h).2
    simp only [idC, Co.nd, Co.nk, Co.kid, Bool.and_eq_true, beq_iff_eq, Bool.not_eq_true']
    constructor
    · rintro ⟨⟨h1, h2⟩, h3, h4⟩
      refine ⟨h1, h2, h7, fun i hi => ?_⟩
      rcases i with _ | _ | i
      · rw [if_pos (by omega)] at h3; exact h3
      · rw [if_pos (by omega)] at h4; exact h4
      · have := opsN_le h; omega
    · rintro ⟨h1, h2, _, h3⟩
      refine ⟨⟨h1, h2⟩, ?_, ?_⟩
      · split
        · exact h3 0 (by omega)
        · rfl
      · split
        · exact h3 1 (by omega)
        · rfl

section
variable (w : World)
set_option maxRecDepth 100000 in
set_option maxHeartbeats 2000000 in
theorem highR_any (f : Nat) : ∀ (t : Co) (A : Option Addr) (c : Nat) (C : Nat → Prop) (w : World), t.sz < f → TrS w C t (.slice A t.nk c) → t.high ≤ 1000000 →
    Calls Tryd.prog 47 #[NV t.nd A t.nk c] w fun e w' => e = .returned (.int .i64 t.high) ∧ Below w.heap.size w w' := by
  induction f with
  | zero => intro t A c C w h; omega
  | succ f ih =>
    intro t A c C w hf hs hbig
    unfold NV
    have hnb := nk_le t
    have hih : ∀ j A c W, j < t.nk → TrS W C (t.kid j) (.slice A (t.kid j).nk c) → (t.kid j).high ≤ 1000000 → Calls Tryd.prog 47 #[NV (t.kid j).nd A (t.kid j).nk c] W fun e w' => e = .returned (.int .i64 (t.kid j).high) ∧ Below W.heap.size W w' := fun j A c W hj h1 h2 => ih (t.kid j) A c C W (by have := kid_sz hj; omega) h1 h2
    have hnx : ∀ j, j < t.nk → hiK (t.kid 0) (t.kid 1) (j + 1) = max (hiK (t.kid 0) (t.kid 1) j) (t.kid j).high ∧ (t.kid j).high ≤ 1000000 := by
      intro j hj
      have e := hiK_next (a := t.kid 0) (b := t.kid 1) (show j < 2 by omega)
      rw [kid_kidT t j (by omega)] at e
      refine ⟨e, ?_⟩
      rw [high_nk] at hbig
      have : hiK (t.kid 0) (t.kid 1) (j + 1) ≤ hiK (t.kid 0) (t.kid 1) t.nk := by
        have h1 : j + 1 ≤ t.nk := hj
        generalize t.nk = n at *
        rcases j with _ | _ | j
        · rcases n with _ | _ | _ | n
          · omega
          · exact Nat.le_refl _
          · simp only [hiK]; omega
          · omega
        · rcases n with _ | _ | _ | n
          · omega
          · omega
          · exact Nat.le_refl _
          · omega
        · omega
      omega
    rw [high_nk] at hbig ⊢
    have HS := Lib.hid hs
    have HIH := Lib.hid hih
    have HNX := Lib.hid hnx
    obtain ⟨n, hn⟩ : ∃ n, t.nk = n := ⟨_, rfl⟩
    have HN := Lib.hid hn
    rw [hn] at hbig hnb ⊢
    obtain ⟨nd, hnd⟩ : ∃ x, t.nd = x := ⟨_, rfl⟩
    rw [hnd]
    obtain ⟨op, pj, ij, hd, lb, fr, tq⟩ := nd
    simp only
    have hblk := Blk.new w 105 #[.int .i8 op, .int .i64 pj, .bool ij, .int .u8 hd, .int .i64 lb, .int .u8 fr, .int .u8 tq, .slice A n c]
    have HBK := Lib.hid (show ∀ W', Below (w.heap.size + 1) (w.alloc (.cells #[.int .i8 op, .int .i64 pj, .bool ij, .int .u8 hd, .int .i64 lb, .int .u8 fr, .int .u8 tq, .slice A n c] 105)) W' → W'.cell? ⟨w.heap.size, 7, none⟩ = some (.slice A n c) from fun W' hb' => ((hblk.below hb' (by omega)).cell 7).trans rfl)
    clear hs hih hnx hn hnd hblk ih
    go_enter Tryd.func47, Tryd.ntmps47
    go_wp2_with fail
    obtain ⟨W0, hW0⟩ : ∃ W0, w.alloc (.cells #[.int .i8 op, .int .i64 pj, .bool ij, .int .u8 hd, .int .i64 lb, .int .u8 fr, .int .u8 tq, .slice A n c] 105) = W0 := ⟨_, rfl⟩
    rw [hW0] at HBK ⊢
    have HB0 := Lib.hid (show Below w.heap.size w W0 ∧ W0.heap.size = w.heap.size + 1 by rw [← hW0]; exact ⟨bal b0 _, by simp only [World.size_alloc]⟩)
    clear hW0
    go_loopg [3, 4] n (fun g u v wr => ∃ k : Nat, k ≤ n ∧ g = n - k ∧ u = .int .i64 (hiK (t.kid 0) (t.kid 1) k) ∧ v = .int .i64 k ∧ Below W0.heap.size W0 wr)
    case atStart => exact ⟨0, by omega, rfl, rfl, rfl, b0⟩
    case round =>
      obtain ⟨k, hk, rfl, rfl, rfl, hb⟩ := hrel
      have HB := Lib.hid hb
      have k7 := HBK.out wr (hb.mono (by rw [HB0.out.2]; exact Nat.le_refl _))
      clear hb
      by_cases hlt : k < n
      · obtain ⟨g, o, sk, rfl, hCg, hgl, hsk, q0, q1, q2, q3, q4, q5, q6, q7⟩ := (HN.out ▸ HS.out : TrS w C t (.slice A n c)).kid (j := k) (by rw [HN.out]; exact hlt)
        obtain ⟨Ak, ck, rfl, hk1, hk2⟩ := hsk.slice
        have hbw := bl HB0.out.1 HB.out
        obtain ⟨hnx, hsm⟩ := HNX.out k (by rw [HN.out]; exact hlt)
        have hcall := HIH.out k Ak ck wr (by rw [HN.out]; exact hlt) (hsk.below hbw) hsm
        unfold NV at hcall
        have kc : ∀ i u, w.cell? ⟨g, i, none⟩ = some u → wr.cell? ⟨g, i, none⟩ = some u := fun i u hu => (hbw.cell (p := ⟨g, i, none⟩) hgl).trans hu
        have p0 := kc _ _ q0
        have p1 := kc _ _ q1
        have p2 := kc _ _ q2
        have p3 := kc _ _ q3
        have p4 := kc _ _ q4
        have p5 := kc _ _ q5
        have p6 := kc _ _ q6
        have p7 := kc _ _ q7
        obtain ⟨X, hX⟩ : ∃ X, hiK (t.kid 0) (t.kid 1) k = X := ⟨_, rfl⟩
        obtain ⟨Y, hY⟩ : ∃ Y, (t.kid k).high = Y := ⟨_, rfl⟩
        rw [hX] at hnx ⊢
        rw [hY] at hnx hcall
        have HNN := Lib.hid hnx
        have HC := Lib.hid hcall
        clear hnx hX hY hsk q0 q1 q2 q3 q4 q5 q6 q7 kc hbw hcall
        go_wp2_with fail
        (refine HC.out.mono ?_); rintro e w2 ⟨rfl, hb2⟩
        go_wp2_with fail
        all_goals
          go_roundg (n - (k + 1))
          case measure => omega
          case rel => exact ⟨k + 1, by omega, rfl, by rw [HNN.out]; go_num, by go_num, bl HB.out hb2⟩
      · obtain rfl : k = n := by omega
        have hsm : hiK (t.kid 0) (t.kid 1) k ≤ 1000000 := by omega
        go_wp2_with fail
        go_ret
        exact ⟨by go_num, bl HB0.out.1 HB.out⟩

set_option maxRecDepth 100000 in
set_option maxHeartbeats 2000000 in
theorem idR_any (f : Nat) : ∀ (t : Co) (A : Option Addr) (c : Nat) (C : Nat → Prop) (w : World), t.sz < f → TrS w C t (.slice A t.nk c) →
    Calls Tryd.prog 48 #[NV t.nd A t.nk c] w fun e w' => e = .returned (.bool (idC t)) ∧ Below w.heap.size w w' := by
  induction f with
  | zero => intro t A c C w h; omega
  | succ f ih =>
    intro t A c C w hf hs
    unfold NV
    have hnb := nk_le t
    have hih : ∀ j A c W, j < t.nk → TrS W C (t.kid j) (.slice A (t.kid j).nk c) → Calls Tryd.prog 48 #[NV (t.kid j).nd A (t.kid j).nk c] W fun e w' => e = .returned (.bool (idC (t.kid j))) ∧ Below W.heap.size W w' := fun j A c W hj h1 => ih (t.kid j) A c C W (by have := kid_sz hj; omega) h1
    have hid := idC_nk t
    obtain ⟨r, hr⟩ : ∃ r, idC t = r := ⟨_, rfl⟩
    rw [hr] at hid ⊢
    have HS := Lib.hid hs
    have HIH := Lib.hid hih
    obtain ⟨n, hn⟩ : ∃ n, t.nk = n := ⟨_, rfl⟩
    have HN := Lib.hid hn
    rw [hn] at hnb hid ⊢
    obtain ⟨nd, hnd⟩ : ∃ x, t.nd = x := ⟨_, rfl⟩
    rw [hnd] at hid ⊢
    obtain ⟨op, pj, ij, hd, lb, fr, tq⟩ := nd
    simp only at hid ⊢
    have HID := Lib.hid hid
    have hblk := Blk.new w 105 #[.int .i8 op, .int .i64 pj, .bool ij, .int .u8 hd, .int .i64 lb, .int .u8 fr, .int .u8 tq, .slice A n c]
    have HBK := Lib.hid (show ∀ W', Below (w.heap.size + 1) (w.alloc (.cells #[.int .i8 op, .int .i64 pj, .bool ij, .int .u8 hd, .int .i64 lb, .int .u8 fr, .int .u8 tq, .slice A n c] 105)) W' → W'.cell? ⟨w.heap.size, 7, none⟩ = some (.slice A n c) from fun W' hb' => ((hblk.below hb' (by omega)).cell 7).trans rfl)
    clear hs hih hn hnd hblk ih hid hr
    by_cases hz : pj = 0
    · cases ij
      · by_cases h7 : op = 7
        · have : r = false := by cases r; rfl; exact absurd h7 (HID.out.1 rfl).2.2.1
          subst this
          subst hz h7
          clear HS HIH HID HBK
          go_enter Tryd.func48, Tryd.ntmps48
          go_wp2_with fail
          go_ret
          exact ⟨rfl, bal b0 _⟩
        · have h7' : (op == 7) = false := by simpa using h7
          have hall : r = true ↔ ∀ j, j < n → idC (t.kid j) = true := HID.out.trans ⟨fun h => h.2.2.2, fun h => ⟨hz, rfl, h7, h⟩⟩
          have HALL := Lib.hid hall
          subst hz
          clear h7 hall HID
          go_enter Tryd.func48, Tryd.ntmps48
          go_wp2_with fail
          obtain ⟨W0, hW0⟩ : ∃ W0, w.alloc (.cells #[.int .i8 op, .int .i64 0, .bool false, .int .u8 hd, .int .i64 lb, .int .u8 fr, .int .u8 tq, .slice A n c] 105) = W0 := ⟨_, rfl⟩
          rw [hW0] at HBK ⊢
          have HB0 := Lib.hid (show Below w.heap.size w W0 ∧ W0.heap.size = w.heap.size + 1 by rw [← hW0]; exact ⟨bal b0 _, by simp only [World.size_alloc]⟩)
          clear hW0
          go_loopg [3] n (fun g v wr => ∃ k : Nat, k ≤ n ∧ g = n - k ∧ v = .int .i64 k ∧ Below W0.heap.size W0 wr ∧ ∀ j, j < k → idC (t.kid j) = true)
          case atStart => exact ⟨0, by omega, rfl, rfl, b0, fun j hj => absurd hj (by omega)⟩
          case round =>
            obtain ⟨k, hk, rfl, rfl, hb, hal⟩ := hrel
            have HB := Lib.hid hb
            have HAL := Lib.hid hal
            have k7 := HBK.out wr (hb.mono (by rw [HB0.out.2]; exact Nat.le_refl _))
            clear hb hal
            by_cases hlt : k < n
            · obtain ⟨g, o, sk, rfl, hCg, hgl, hsk, q0, q1, q2, q3, q4, q5, q6, q7⟩ := (HN.out ▸ HS.out : TrS w C t (.slice A n c)).kid (j := k) (by rw [HN.out]; exact hlt)
              obtain ⟨Ak, ck, rfl, hk1, hk2⟩ := hsk.slice
              have hbw := bl HB0.out.1 HB.out
              have hcall := HIH.out k Ak ck wr (by rw [HN.out]; exact hlt) (hsk.below hbw)
              unfold NV at hcall
              have kc : ∀ i u, w.cell? ⟨g, i, none⟩ = some u → wr.cell? ⟨g, i, none⟩ = some u := fun i u hu => (hbw.cell (p := ⟨g, i, none⟩) hgl).trans hu
              have p0 := kc _ _ q0
              have p1 := kc _ _ q1
              have p2 := kc _ _ q2
              have p3 := kc _ _ q3
              have p4 := kc _ _ q4
              have p5 := kc _ _ q5
              have p6 := kc _ _ q6
              have p7 := kc _ _ q7
              obtain ⟨Y, hY⟩ : ∃ Y, idC (t.kid k) = Y := ⟨_, rfl⟩
              rw [hY] at hcall
              have HC := Lib.hid hcall
              have HY := Lib.hid hY
              clear hY hsk q0 q1 q2 q3 q4 q5 q6 q7 kc hbw hcall
              go_wp2_with fail
              (refine HC.out.mono ?_); rintro e w2 ⟨rfl, hb2⟩
              cases Y
              · go_wp2_with fail
                go_ret
                refine ⟨?_, bl HB0.out.1 (bl HB.out hb2)⟩
                cases r
                · rfl
                · exact absurd (HALL.out.1 rfl k hlt) (by rw [HY.out]; decide)
              · go_wp2_with fail
                go_roundg (n - (k + 1))
                case measure => omega
                case rel => exact ⟨k + 1, by omega, rfl, by go_num, bl HB.out hb2, all_succ HAL.out HY.out⟩
            · obtain rfl : k = n := by omega
              go_wp2_with fail
              go_ret
              exact ⟨by rw [HALL.out.2 HAL.out]; rfl, bl HB0.out.1 HB.out⟩
      · have : r = false := by cases r; rfl; exact absurd (HID.out.1 rfl).2.1 (by simp)
        subst this
        subst hz
        clear HS HIH HID HBK
        go_enter Tryd.func48, Tryd.ntmps48
        go_wp2_with fail
        go_ret
        exact ⟨rfl, bal b0 _⟩
    · have : r = false := by cases r; rfl; exact absurd (HID.out.1 rfl).1 hz
      subst this
      have hz1 : (pj != 0) = true := by simpa using hz
      clear HS HIH HID HBK hz
      go_enter Tryd.func48, Tryd.ntmps48
      go_wp2_with fail
      go_ret
      exact ⟨rfl, bal b0 _⟩
end

set_option maxRecDepth 100000 in
set_option maxHeartbeats 2000000 in
theorem isId_any (t : Co) : ∀ (v : Value) (C : Nat → Prop) (w : World), VCo w C t v →
    Calls Tryd.prog 100 #[v] w fun e w' => e = .returned (.bool (idC t)) ∧ Below w.heap.size w w' := by
  induction t with
  | any =>
    intro v C w hv
    simp only [VCo] at hv
    subst hv
    have m1 := tAP (.agg #[])
    have m2 := tAF (.agg #[])
    unfold zPart at m1
    unfold zFail at m2
    unfold idC
    go_enter Tryd.func100, Tryd.ntmps100
    go_wp2_with fail
    go_ret
    exact ⟨rfl, b0⟩
  | fail p l f q =>
    intro v C w hv
    simp only [VCo] at hv
    subst hv
    have m1 := tFF (.agg #[.int .i64 p, .int .i64 l, .int .u8 f, .int .u8 q])
    unfold idC
    go_enter Tryd.func100, Tryd.ntmps100
    go_wp2_with fail
    go_ret
    exact ⟨rfl, bal b0 _⟩
  | part p j hh a b iha ihb =>
    intro v C w hv
    simp only [VCo] at hv
    obtain ⟨A, c, va, vb, rfl, hc1, hc2, hk, hva, hvb⟩ := hv
    have hih : ∀ k v C w, VCo w C (kidT a b k) v → Calls Tryd.prog 100 #[v] w fun e w' => e = .returned (.bool (idC (kidT a b k))) ∧ Below w.heap.size w w' := by
      intro k
      unfold kidT
      split
      · exact iha
      · exact ihb
    have hid := idC_nk (.part p j hh a b)
    simp only [Co.nd, Co.nk, Co.kid] at hid
    obtain ⟨r, hr⟩ : ∃ r, idC (.part p j hh a b) = r := ⟨_, rfl⟩
    rw [hr] at hid ⊢
    have h7 := (opsO_ne hh).2
    have hn2 : opsN hh ≤ 2 := by have := opsN_le hh; omega
    obtain ⟨n, hn⟩ : ∃ n, opsN hh = n := ⟨_, rfl⟩
    rw [hn] at hn2 hc1 hk hid ⊢
    have hid2 : r = true ↔ (p = 0 ∧ j = false ∧ ∀ i, i < n → idC (kidT a b i) = true) := hid.trans ⟨fun h => ⟨h.1, h.2.1, h.2.2.2⟩, fun h => ⟨h.1, h.2.1, h7, h.2.2⟩⟩
    have HID := Lib.hid hid2
    have HIH := Lib.hid hih
    have HK := Lib.hid (And.intro hk (And.intro hva hvb))
    have m1 := tPP (.agg #[.int .i64 p, .bool j, .int .u8 hh, .slice A n c])
    have m2 := tPF (.agg #[.int .i64 p, .bool j, .int .u8 hh, .slice A n c])
    unfold zFail at m2
    have hblk := Blk.new w 227 #[.int .i64 p, .bool j, .int .u8 hh, .slice A n c]
    have HBK := Lib.hid (show ∀ W', Below (w.heap.size + 1) (w.alloc (.cells #[.int .i64 p, .bool j, .int .u8 hh, .slice A n c] 227)) W' → W'.cell? ⟨w.heap.size, 0, none⟩ = some (.int .i64 p) ∧ W'.cell? ⟨w.heap.size, 1, none⟩ = some (.bool j) from fun W' hb' => ⟨((hblk.below hb' (by omega)).cell 0).trans rfl, ((hblk.below hb' (by omega)).cell 1).trans rfl⟩)
    clear hih hk hva hvb iha ihb hn h7 hid hid2 hr hblk
    go_enter Tryd.func100, Tryd.ntmps100
    go_wp2_with fail
    obtain ⟨W0, hW0⟩ : ∃ W0, w.alloc (.cells #[.int .i64 p, .bool j, .int .u8 hh, .slice A n c] 227) = W0 := ⟨_, rfl⟩
    rw [hW0] at HBK ⊢
    have HB0 := Lib.hid (show Below w.heap.size w W0 ∧ W0.heap.size = w.heap.size + 1 by rw [← hW0]; exact ⟨bal b0 _, by simp only [World.size_alloc]⟩)
    clear hW0
    go_loopg [17] n (fun g i wr => ∃ k : Nat, k ≤ n ∧ g = n - k ∧ i = .int .i64 k ∧ Below W0.heap.size W0 wr ∧ ∀ i, i < k → idC (kidT a b i) = true)
    case atStart => exact ⟨0, by omega, rfl, rfl, b0, fun i hi => absurd hi (by omega)⟩
    case round =>
      obtain ⟨k, hk, rfl, rfl, hb, hal⟩ := hrel
      have HB := Lib.hid hb
      have HAL := Lib.hid hal
      clear hb hal
      by_cases hlt : k < n
      · obtain ⟨hka, hkva, hkvb⟩ := HK.out
        obtain ⟨g, o, x, rfl, hcx, hgl, hvx⟩ := kid_at hn2 hlt hka hkva hkvb
        have hbw := bl HB0.out.1 HB.out
        have hcx2 : wr.cell? ⟨g, o + k, none⟩ = some x := (hbw.cell (p := ⟨g, o + k, none⟩) hgl).trans hcx
        have hcall := HIH.out k x C wr (hvx.below hbw)
        obtain ⟨D, z, rfl⟩ := hvx.face
        obtain ⟨Y, hY⟩ : ∃ Y, idC (kidT a b k) = Y := ⟨_, rfl⟩
        rw [hY] at hcall
        have HC := Lib.hid hcall
        have HY := Lib.hid hY
        clear hY hka hkva hkvb hvx hcx hgl hbw hcall
        go_wp2_with fail
        (refine HC.out.mono ?_); rintro e w2 ⟨rfl, hb2⟩
        cases Y
        · go_wp2_with fail
          go_ret
          refine ⟨?_, bl HB0.out.1 (bl HB.out hb2)⟩
          cases r
          · rfl
          · exact absurd ((HID.out.1 rfl).2.2 k hlt) (by rw [HY.out]; decide)
        · go_wp2_with fail
          go_roundg (n - (k + 1))
          case measure => omega
          case rel => exact ⟨k + 1, by omega, rfl, by go_num, bl HB.out hb2, all_succ HAL.out HY.out⟩
      · obtain rfl : k = n := by omega
        obtain ⟨y0, y1⟩ := HBK.out wr (HB.out.mono (by rw [HB0.out.2]; exact Nat.le_refl _))
        have hr : r = (p == 0 && !j) := by
          rw [Bool.eq_iff_iff, HID.out]
          simp only [Bool.and_eq_true, beq_iff_eq, Bool.not_eq_true']
          exact ⟨fun h => ⟨h.1, h.2.1⟩, fun h => ⟨h.1, h.2, HAL.out⟩⟩
        have HR := Lib.hid hr
        clear hr
        by_cases hz : p = 0
        · subst hz
          cases j
          all_goals
            go_wp2_with fail
            go_ret
            exact ⟨by rw [HR.out]; rfl, bl HB0.out.1 HB.out⟩
        · have hz1 : (p == 0) = false := by simpa using hz
          go_wp2_with fail
          go_ret
          exact ⟨by rw [HR.out, hz1]; rfl, bl HB0.out.1 HB.out⟩

def idL (l : List Nd) : Bool := match treeC l with
  | none => false
  | some t => idC t
theorem IsId_any (l : List Nd) (A : Option Addr) (c : Nat) (w : World) (hl : l.length ≤ c) (hc : c ≤ maxLen) (hA : LN w A l) :
    Calls Tryd.prog 52 #[.slice A l.length c] w fun e w' => e = .returned (.bool (idL l)) ∧ Below w.heap.size w w' := by
  have h := tree_any l A c w hl hc hA
  unfold idL
  generalize treeC l = R at *
  clear hA hl hc
  rcases R with _ | t
  · go_enter Tryd.func52, Tryd.ntmps52
    go_wp2_with fail
    (refine h.mono ?_); rintro ev w1 ⟨hb, hq⟩
    obtain ⟨v, rfl⟩ := hq
    go_wp2_with fail
    go_ret
    exact ⟨rfl, hb⟩
  · simp only
    obtain ⟨H, hH⟩ : ∃ H, idC t = H := ⟨_, rfl⟩
    rw [hH]
    have HH := Lib.hid hH
    clear hH
    go_enter Tryd.func52, Tryd.ntmps52
    go_wp2_with fail
    (refine h.mono ?_); rintro ev w1 ⟨hb, hq⟩
    clear h
    obtain ⟨v, rfl, hv⟩ := hq
    have hcall := isId_any t v _ w1 hv
    rw [HH.out] at hcall
    clear hv
    go_wp2_with fail
    (refine hcall.mono ?_); rintro ev w2 ⟨rfl, hb2⟩
    go_wp2_with fail
    go_ret
    exact ⟨rfl, bl hb hb2⟩
end Go.Proofs.YtkebplifkkhhlaaDoor.C
