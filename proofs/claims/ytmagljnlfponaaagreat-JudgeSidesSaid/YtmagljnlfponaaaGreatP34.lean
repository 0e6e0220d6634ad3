/- Parts of this claim: RtZ, RuP, RuA. -/
import Derived.Test.YtmagljnlfponaaaGreatP32
import Derived.Test.YtmagljnlfponaaaGreatP31
import Derived.Test.YtmagljnlfponaaaGreatP33
set_option linter.unusedVariables false
set_option linter.unusedSimpArgs false
/- RtZ -/
namespace Go.Proofs.YtmagljnlfponaaaGreat.R
open Go.RowKit Go.Proofs.YtmagljnlfponaaaGreat.B Go.Proofs.YtmagljnlfponaaaGreat.T Go.Proofs.YtmagljnlfponaaaGreat.K Go.Proofs.YtmagljnlfponaaaGreat.J Go.Proofs.YtmagljnlfponaaaGreat.La
set_option linter.unusedVariables false
set_option linter.unusedSimpArgs false

/-- Is a blame possible, and the error. -/
def possR (s : List (Bool × Bool)) (b : Int) : Bool × Int :=
  if 1 ≤ sideL b ∧ sideL b ≤ (s.length : Int) then ((if 0 < b then (s.getD ((sideL b).toNat - 1) (false, false)).1 else (s.getD ((sideL b).toNat - 1) (false, false)).2), 0) else (false, 1)
theorem possR_no {s : List (Bool × Bool)} {b : Int} (h : ¬ (1 ≤ sideL b ∧ sideL b ≤ (s.length : Int))) : possR s b = (false, 1) := by unfold possR; rw [if_neg h]
theorem possR_in {s : List (Bool × Bool)} {b : Int} {k : Nat} {x : Bool × Bool} (hk : sideL b = (k : Int) + 1) (hx : s[k]? = some x) (hb : 0 < b) : possR s b = (x.1, 0) := by
  have := (List.getElem?_eq_some_iff.1 hx).1
  unfold possR
  rw [if_pos ⟨by omega, by omega⟩, if_pos hb, hk, show ((k : Int) + 1).toNat - 1 = k by omega, List.getD_eq_getElem?_getD, hx]; rfl
theorem possR_out {s : List (Bool × Bool)} {b : Int} {k : Nat} {x : Bool × Bool} (hk : sideL b = (k : Int) + 1) (hx : s[k]? = some x) (hb : ¬ 0 < b) : possR s b = (x.2, 0) := by
  have := (List.getElem?_eq_some_iff.1 hx).1
  unfold possR
  rw [if_pos ⟨by omega, by omega⟩, if_neg hb, hk, show ((k : Int) + 1).toNat - 1 = k by omega, List.getD_eq_getElem?_getD, hx]; rfl
def possV (r : Bool × Int) : Value := .tuple #[.bool r.1, .int .i64 r.2]
theorem sd_cells {W : World} {base N n i : Nat} {T : TypeId} {A : Option Addr} {s : List (Bool × Bool)} {x : Bool × Bool} (h : W.ownsRow base T 2 (.slice A N n) N (sdV s)) (hi : i < N) (hx : s[i]? = some x) :
    ∃ g, A = some ⟨g, 0, none⟩ ∧ base ≤ g ∧ g < W.heap.size ∧ W.cell? ⟨g, i * 2, none⟩ = some (.bool x.1) ∧ W.cell? ⟨g, i * 2 + 1, none⟩ = some (.bool x.2) := by
  obtain ⟨g, cap, hv, hb, hlt⟩ := h.form (by omega)
  injection hv with hA _ _
  subst hA
  have q := h.cells (g := g) rfl
  obtain ⟨c1, c2⟩ := sdV_at s i x hx
  have q1 := q (i * 2) _ c1
  have q2 := q (i * 2 + 1) _ c2
  rw [add_flat, Nat.zero_add] at q1 q2
  exact ⟨g, rfl, hb, hlt, q1, q2⟩

set_option maxRecDepth 100000 in
set_option maxHeartbeats 4000000 in
theorem possible_j (P : Value) (base : Nat) (Av : Option Addr) (N cv : Nat) (s : List (Bool × Bool)) (b : Int) (w : World) (hP : ∃ v0 v1 v2, P = .agg #[v0, v1, v2] ∧ v0.oneCell' = true ∧ v1.oneCell' = true ∧ v2.oneCell' = true) (hs : w.ownsRow base 47 2 (.slice Av N cv) N (sdV s)) (hlen : s.length = N) (hN : N ≤ 1000000) (h0 : -9223372036854775808 ≤ b) (h1 : b ≤ 9223372036854775807) :
    Calls Tryz.prog 28 #[P, .slice Av N cv, .int .i64 b] w fun e w' => e = .returned (possV (possR s b)) ∧ Below w.heap.size w w' := by
  obtain ⟨v0, v1, v2, rfl, _, _, _⟩ := hP
  have hsd := fun W => side_any b W h0 h1
  have hcv : N ≤ cv := by obtain ⟨_, _, hv, h, _⟩ := own_shape hs; injection hv with _ _ e3; omega
  have hii : sideI b = decide (0 < b) := rfl
  obtain ⟨n, hn⟩ : ∃ n, sideL b = n := ⟨_, rfl⟩
  obtain ⟨i, hi⟩ : ∃ i, sideI b = i := ⟨_, rfl⟩
  rw [hn, hi] at hsd
  rw [hi] at hii
  have HSD := Lib.hid hsd
  clear hsd
  by_cases hr : 1 ≤ n ∧ n ≤ (N : Int)
  · obtain ⟨k, hk⟩ : ∃ k : Nat, n = (k : Int) + 1 := ⟨(n - 1).toNat, by omega⟩
    subst hk
    have hkN : k < N := by omega
    obtain ⟨x, hx⟩ : ∃ x, s[k]? = some x := ⟨_, List.getElem?_eq_getElem (by omega)⟩
    obtain ⟨g, rfl, hbg, hgl, q1, q2⟩ := sd_cells hs hkN hx
    replace q1 : (w.alloc (.cells #[v0, v1, v2] 25)).cell? ⟨g, k * 2, none⟩ = some (.bool x.1) := ((bal b0 (.cells #[v0, v1, v2] 25)).cell (p := ⟨g, k * 2, none⟩) hgl).trans q1
    replace q2 : (w.alloc (.cells #[v0, v1, v2] 25)).cell? ⟨g, k * 2 + 1, none⟩ = some (.bool x.2) := ((bal b0 (.cells #[v0, v1, v2] 25)).cell (p := ⟨g, k * 2 + 1, none⟩) hgl).trans q2
    by_cases hp : 0 < b
    · have HR := Lib.hid (possR_in hn hx hp)
      rw [decide_eq_true hp] at hii
      subst hii
      clear hn hi hs hx hp hr h0 h1
      go_enter Tryz.func28, Tryz.ntmps28
      go_wp2_with fail
      (refine (HSD.out _).mono ?_); rintro e w1 ⟨rfl, rfl⟩
      go_wp2_with fail
      go_ret2
      exact ⟨by rw [HR.out]; rfl, bal b0 _⟩
    · have HR := Lib.hid (possR_out hn hx hp)
      rw [decide_eq_false hp] at hii
      subst hii
      clear hn hi hs hx hp hr h0 h1
      go_enter Tryz.func28, Tryz.ntmps28
      go_wp2_with fail
      (refine (HSD.out _).mono ?_); rintro e w1 ⟨rfl, rfl⟩
      go_wp2_with fail
      go_ret2
      exact ⟨by rw [HR.out]; rfl, bal b0 _⟩
  · have HR := Lib.hid (possR_no (s := s) (b := b) (by rw [hn, hlen]; exact hr))
    by_cases h1' : n < 1
    · have e1 : decide (n < 1) = true := by simpa using h1'
      clear hn hi hii hs hr h0 h1 h1' hlen
      go_enter Tryz.func28, Tryz.ntmps28
      go_wp2_with fail
      (refine (HSD.out _).mono ?_); rintro e w1 ⟨rfl, rfl⟩
      go_wp2_with fail
      go_ret2
      exact ⟨by rw [HR.out]; rfl, bal b0 _⟩
    · have e1 : decide (n < 1) = false := by simpa using h1'
      have e2 : decide ((N : Int) < n) = true := by simp; omega
      clear hn hi hii hs hr h0 h1 h1' hlen
      go_enter Tryz.func28, Tryz.ntmps28
      go_wp2_with fail
      (refine (HSD.out _).mono ?_); rintro e w1 ⟨rfl, rfl⟩
      go_wp2_with fail
      go_ret2
      exact ⟨by rw [HR.out]; rfl, bal b0 _⟩

set_option maxRecDepth 100000 in
set_option maxHeartbeats 4000000 in
theorem possM_pos (L : List Tn) (A : Option Addr) (c : Nat) (T : ByteArray) (B : Option Addr) (N d : Nat) (b : Int) (w : World) (hN : L.length ≤ 1000000) (hNN : N ≤ 1000000) (hLc : L.length ≤ c) (hL : LT w w.heap.size A L) (hcs : ∀ x ∈ laidL L, Cst x ∧ x.n ≤ (N : Int)) (hp : 0 < b) (h1 : b ≤ 9223372036854775807) :
    Calls Tryz.prog 15 #[.agg #[.slice A L.length c, .string T, .slice B N d], .int .i64 b] w fun e w' => e = .returned (possV (possR (sidesL N (blL (laidL L))) b)) ∧ Below w.heap.size w w' := by
  have hlen : (sidesL N (blL (laidL L))).length = N := sides_len _ _
  obtain ⟨W0, hW0⟩ : ∃ W0, w.alloc (.cells #[.slice A L.length c, .string T, .slice B N d] 25) = W0 := ⟨_, rfl⟩
  have hb0 : Below w.heap.size w W0 := by rw [← hW0]; exact bal b0 _
  have hk0 : Blk W0 w.heap.size 25 #[.slice A L.length c, .string T, .slice B N d] := by rw [← hW0]; exact Blk.new _ _ _
  have HSI := Lib.hid (sidesM_any L A c T B N d W0 hN hNN hLc ((hL.below hb0).fresh (Nat.le_refl _)) hcs)
  obtain ⟨s, hs⟩ : ∃ s, sidesL N (blL (laidL L)) = s := ⟨_, rfl⟩
  rw [hs] at HSI hlen
  rw [hs]
  have k0 : W0.cell? ⟨w.heap.size, 0, none⟩ = some (.slice A L.length c) := (hk0.cell 0).trans rfl
  have k1 : W0.cell? ⟨w.heap.size, 1, none⟩ = some (.string T) := (hk0.cell 1).trans rfl
  have k2 : W0.cell? ⟨w.heap.size, 2, none⟩ = some (.slice B N d) := (hk0.cell 2).trans rfl
  have HW0 := Lib.hid hW0
  have HB := Lib.hid hb0
  clear hs hL hcs hLc hk0 hb0 hW0
  have hn : sideL b = b := by unfold sideL; rw [if_pos hp]
  have e0 : decide (b < 0) = false := by simp; omega
  have e1 : decide (b < 1) = false := by simp; omega
  have e3 : decide (0 < b) = true := by simpa using hp
  by_cases hr : b ≤ (N : Int)
  · obtain ⟨k, hk⟩ : ∃ k : Nat, b = (k : Int) + 1 := ⟨(b - 1).toNat, by omega⟩
    have hkN : k < N := by omega
    obtain ⟨x, hx⟩ : ∃ x, s[k]? = some x := ⟨_, List.getElem?_eq_getElem (by omega)⟩
    have HR := Lib.hid (possR_in (hn.trans hk) hx hp)
    have HX := Lib.hid hx
    have e2 : decide ((N : Int) < b) = false := by simp; omega
    subst hk
    clear hn hp h1 hr hx hlen
    go_enter Tryz.func15, Tryz.ntmps15
    go_upto_region 6 with fail
    rw [HW0.out]
    go_wp2_with fail
    (refine HSI.out.mono ?_); rintro e w1 ⟨hb1, v, rfl, hv⟩
    obtain ⟨Av, cv, rfl, hv1, hv2⟩ := own_shape hv
    obtain ⟨g, rfl, _, hgl, q1, q2⟩ := sd_cells hv hkN HX.out
    have H := Lib.hid (bl HB.out hb1)
    clear hb1 hv
    go_wp2_with fail
    go_ret2
    exact ⟨by rw [HR.out]; rfl, H.out⟩
  · have HR := Lib.hid (possR_no (s := s) (b := b) (by rw [hn, hlen]; omega))
    have e2 : decide ((N : Int) < b) = true := by simp; omega
    clear hn hp h1 hr hlen
    go_enter Tryz.func15, Tryz.ntmps15
    go_wp2_with fail
    rw [HW0.out]
    go_ret2
    exact ⟨by rw [HR.out]; rfl, HB.out⟩

set_option maxRecDepth 100000 in
set_option maxHeartbeats 4000000 in
theorem possM_neg (L : List Tn) (A : Option Addr) (c : Nat) (T : ByteArray) (B : Option Addr) (N d : Nat) (b : Int) (w : World) (hN : L.length ≤ 1000000) (hNN : N ≤ 1000000) (hLc : L.length ≤ c) (hL : LT w w.heap.size A L) (hcs : ∀ x ∈ laidL L, Cst x ∧ x.n ≤ (N : Int)) (hp : b < 0) (h0 : -9223372036854775808 < b) :
    Calls Tryz.prog 15 #[.agg #[.slice A L.length c, .string T, .slice B N d], .int .i64 b] w fun e w' => e = .returned (possV (possR (sidesL N (blL (laidL L))) b)) ∧ Below w.heap.size w w' := by
  have hlen : (sidesL N (blL (laidL L))).length = N := sides_len _ _
  obtain ⟨W0, hW0⟩ : ∃ W0, w.alloc (.cells #[.slice A L.length c, .string T, .slice B N d] 25) = W0 := ⟨_, rfl⟩
  have hb0 : Below w.heap.size w W0 := by rw [← hW0]; exact bal b0 _
  have hk0 : Blk W0 w.heap.size 25 #[.slice A L.length c, .string T, .slice B N d] := by rw [← hW0]; exact Blk.new _ _ _
  have HSI := Lib.hid (sidesM_any L A c T B N d W0 hN hNN hLc ((hL.below hb0).fresh (Nat.le_refl _)) hcs)
  obtain ⟨s, hs⟩ : ∃ s, sidesL N (blL (laidL L)) = s := ⟨_, rfl⟩
  rw [hs] at HSI hlen
  rw [hs]
  have k0 : W0.cell? ⟨w.heap.size, 0, none⟩ = some (.slice A L.length c) := (hk0.cell 0).trans rfl
  have k1 : W0.cell? ⟨w.heap.size, 1, none⟩ = some (.string T) := (hk0.cell 1).trans rfl
  have k2 : W0.cell? ⟨w.heap.size, 2, none⟩ = some (.slice B N d) := (hk0.cell 2).trans rfl
  have HW0 := Lib.hid hW0
  have HB := Lib.hid hb0
  clear hs hL hcs hLc hk0 hb0 hW0
  have hn : sideL b = -b := by unfold sideL; rw [if_neg (by omega), if_neg (by omega)]
  have e0 : decide (b < 0) = true := by simpa using hp
  obtain ⟨m, hm⟩ : ∃ m, -b = m := ⟨_, rfl⟩
  have e1 : decide (m < 1) = false := by simp; omega
  by_cases hr : m ≤ (N : Int)
  · obtain ⟨k, hk⟩ : ∃ k : Nat, m = (k : Int) + 1 := ⟨(m - 1).toNat, by omega⟩
    have hkN : k < N := by omega
    obtain ⟨x, hx⟩ : ∃ x, s[k]? = some x := ⟨_, List.getElem?_eq_getElem (by omega)⟩
    have HR := Lib.hid (possR_out ((hn.trans hm).trans hk) hx (by omega))
    have HX := Lib.hid hx
    have hbk : b = -((k : Int) + 1) := by omega
    have hw1 : wrap64 (-b) = (k : Int) + 1 := by rw [hbk, Int.neg_neg]; exact IntWalk.wrap64_in _ ⟨by omega, by omega⟩
    have e4 : decide (0 < b) = false := by simp; omega
    clear hm hk hbk h0
    clear hn hp hr hx hlen e1
    go_enter Tryz.func15, Tryz.ntmps15
    go_upto_region 6 with fail
    rw [HW0.out]
    go_wp2_with fail
    (refine HSI.out.mono ?_); rintro e w1 ⟨hb1, v, rfl, hv⟩
    obtain ⟨Av, cv, rfl, hv1, hv2⟩ := own_shape hv
    obtain ⟨g, rfl, _, hgl, q1, q2⟩ := sd_cells hv hkN HX.out
    have H := Lib.hid (bl HB.out hb1)
    clear hb1 hv
    go_wp2_with fail
    go_ret2
    exact ⟨by rw [HR.out]; rfl, H.out⟩
  · have HR := Lib.hid (possR_no (s := s) (b := b) (by rw [hn, hlen]; omega))
    have e2 : decide ((N : Int) < -b) = true := by simp; omega
    have e5 : decide (-b < 1) = false := by simp; omega
    have hw1 : wrap64 (-b) = -b := IntWalk.wrap64_in _ ⟨by omega, by omega⟩
    clear hn hp hr hlen e1 hm
    go_enter Tryz.func15, Tryz.ntmps15
    go_wp2_with fail
    rw [HW0.out]
    go_ret2
    exact ⟨by rw [HR.out]; rfl, HB.out⟩

set_option maxRecDepth 100000 in
set_option maxHeartbeats 4000000 in
theorem possM_zero (L : List Tn) (A : Option Addr) (c : Nat) (T : ByteArray) (B : Option Addr) (N d : Nat) (b : Int) (w : World) (hN : L.length ≤ 1000000) (hNN : N ≤ 1000000) (hLc : L.length ≤ c) (hL : LT w w.heap.size A L) (hcs : ∀ x ∈ laidL L, Cst x ∧ x.n ≤ (N : Int)) (hp : b = 0) :
    Calls Tryz.prog 15 #[.agg #[.slice A L.length c, .string T, .slice B N d], .int .i64 b] w fun e w' => e = .returned (possV (possR (sidesL N (blL (laidL L))) b)) ∧ Below w.heap.size w w' := by
  have hlen : (sidesL N (blL (laidL L))).length = N := sides_len _ _
  obtain ⟨W0, hW0⟩ : ∃ W0, w.alloc (.cells #[.slice A L.length c, .string T, .slice B N d] 25) = W0 := ⟨_, rfl⟩
  have hb0 : Below w.heap.size w W0 := by rw [← hW0]; exact bal b0 _
  have hk0 : Blk W0 w.heap.size 25 #[.slice A L.length c, .string T, .slice B N d] := by rw [← hW0]; exact Blk.new _ _ _
  have HSI := Lib.hid (sidesM_any L A c T B N d W0 hN hNN hLc ((hL.below hb0).fresh (Nat.le_refl _)) hcs)
  obtain ⟨s, hs⟩ : ∃ s, sidesL N (blL (laidL L)) = s := ⟨_, rfl⟩
  rw [hs] at HSI hlen
  rw [hs]
  have k0 : W0.cell? ⟨w.heap.size, 0, none⟩ = some (.slice A L.length c) := (hk0.cell 0).trans rfl
  have k1 : W0.cell? ⟨w.heap.size, 1, none⟩ = some (.string T) := (hk0.cell 1).trans rfl
  have k2 : W0.cell? ⟨w.heap.size, 2, none⟩ = some (.slice B N d) := (hk0.cell 2).trans rfl
  have HW0 := Lib.hid hW0
  have HB := Lib.hid hb0
  clear hs hL hcs hLc hk0 hb0 hW0
  have HR := Lib.hid (possR_no (s := s) (b := b) (by subst hp; rw [show sideL 0 = 0 by decide]; omega))
  subst hp
  clear hlen
  go_enter Tryz.func15, Tryz.ntmps15
  go_wp2_with fail
  rw [HW0.out]
  go_ret2
  exact ⟨by rw [HR.out]; rfl, HB.out⟩

set_option maxRecDepth 100000 in
set_option maxHeartbeats 4000000 in
theorem possM_min (L : List Tn) (A : Option Addr) (c : Nat) (T : ByteArray) (B : Option Addr) (N d : Nat) (b : Int) (w : World) (hN : L.length ≤ 1000000) (hNN : N ≤ 1000000) (hLc : L.length ≤ c) (hL : LT w w.heap.size A L) (hcs : ∀ x ∈ laidL L, Cst x ∧ x.n ≤ (N : Int)) (hp : b = -9223372036854775808) :
    Calls Tryz.prog 15 #[.agg #[.slice A L.length c, .string T, .slice B N d], .int .i64 b] w fun e w' => e = .returned (possV (possR (sidesL N (blL (laidL L))) b)) ∧ Below w.heap.size w w' := by
  have hlen : (sidesL N (blL (laidL L))).length = N := sides_len _ _
  obtain ⟨W0, hW0⟩ : ∃ W0, w.alloc (.cells #[.slice A L.length c, .string T, .slice B N d] 25) = W0 := ⟨_, rfl⟩
  have hb0 : Below w.heap.size w W0 := by rw [← hW0]; exact bal b0 _
  have hk0 : Blk W0 w.heap.size 25 #[.slice A L.length c, .string T, .slice B N d] := by rw [← hW0]; exact Blk.new _ _ _
  have HSI := Lib.hid (sidesM_any L A c T B N d W0 hN hNN hLc ((hL.below hb0).fresh (Nat.le_refl _)) hcs)
  obtain ⟨s, hs⟩ : ∃ s, sidesL N (blL (laidL L)) = s := ⟨_, rfl⟩
  rw [hs] at HSI hlen
  rw [hs]
  have k0 : W0.cell? ⟨w.heap.size, 0, none⟩ = some (.slice A L.length c) := (hk0.cell 0).trans rfl
  have k1 : W0.cell? ⟨w.heap.size, 1, none⟩ = some (.string T) := (hk0.cell 1).trans rfl
  have k2 : W0.cell? ⟨w.heap.size, 2, none⟩ = some (.slice B N d) := (hk0.cell 2).trans rfl
  have HW0 := Lib.hid hW0
  have HB := Lib.hid hb0
  clear hs hL hcs hLc hk0 hb0 hW0
  have HR := Lib.hid (possR_no (s := s) (b := b) (by subst hp; rw [show sideL (-9223372036854775808) = 0 by decide]; omega))
  subst hp
  have hw1 : wrap64 9223372036854775808 = -9223372036854775808 := by unfold wrap64; decide
  clear hlen
  go_enter Tryz.func15, Tryz.ntmps15
  go_wp2_with fail
  rw [HW0.out]
  go_ret2
  exact ⟨by rw [HR.out]; rfl, HB.out⟩

theorem possM_any (L : List Tn) (A : Option Addr) (c : Nat) (T : ByteArray) (B : Option Addr) (N d : Nat) (b : Int) (w : World) (hN : L.length ≤ 1000000) (hNN : N ≤ 1000000) (hLc : L.length ≤ c) (hL : LT w w.heap.size A L) (hcs : ∀ x ∈ laidL L, Cst x ∧ x.n ≤ (N : Int)) (h0 : -9223372036854775808 ≤ b) (h1 : b ≤ 9223372036854775807) :
    Calls Tryz.prog 15 #[.agg #[.slice A L.length c, .string T, .slice B N d], .int .i64 b] w fun e w' => e = .returned (possV (possR (sidesL N (blL (laidL L))) b)) ∧ Below w.heap.size w w' := by
  by_cases hp : 0 < b
  · exact possM_pos L A c T B N d b w hN hNN hLc hL hcs hp h1
  by_cases hz : b = 0
  · exact possM_zero L A c T B N d b w hN hNN hLc hL hcs hz
  by_cases hm : b = -9223372036854775808
  · exact possM_min L A c T B N d b w hN hNN hLc hL hcs hm
  · exact possM_neg L A c T B N d b w hN hNN hLc hL hcs (by omega) (by omega)
end Go.Proofs.YtmagljnlfponaaaGreat.R

/- RuP -/
namespace Go.Proofs.YtmagljnlfponaaaGreat.R
open Go.RowKit Go.Proofs.YtmagljnlfponaaaGreat.B Go.Proofs.YtmagljnlfponaaaGreat.T Go.Proofs.YtmagljnlfponaaaGreat.K Go.Proofs.YtmagljnlfponaaaGreat.J Go.Proofs.YtmagljnlfponaaaGreat.La
set_option linter.unusedVariables false
set_option linter.unusedSimpArgs false

/-- The order of texts, as truths of their bytes. -/
abbrev ltB (x y : ByteArray) : Bool := Op.bytesLess x.toList y.toList
theorem ltB_eq (x y : ByteArray) : ltB x y = Op.bytesLess x.data.toList y.data.toList := by unfold ltB; rw [Lib.toList_data, Lib.toList_data]
theorem ltB_irr (x : ByteArray) : ltB x x = false := less_irrefl _
theorem ltB_trans {x y z : ByteArray} (h : ltB x y = true) (k : ltB y z = true) : ltB x z = true := less_trans _ _ _ h k
theorem toList_inj {x y : ByteArray} (h : x.toList = y.toList) : x = y := by
  rw [Lib.toList_data, Lib.toList_data] at h
  exact ByteArray.ext (Array.toList_inj.1 h)
theorem ltB_tri {x y : ByteArray} (h : ltB x y = false) (k : ltB y x = false) : x = y := toList_inj (less_tri _ _ h k)
theorem leB {x y : ByteArray} : (ltB x y || x.toList == y.toList) = !ltB y x := by
  rcases h : ltB y x
  · rcases h2 : ltB x y
    · have := ltB_tri h2 h; subst this; simp
    · rfl
  · have h2 : ltB x y = false := by
      rcases h3 : ltB x y
      · rfl
      · have := ltB_trans h h3; rw [ltB_irr] at this; cases this
    have h4 : (x.toList == y.toList) = false := by
      rw [Bool.eq_false_iff]
      intro e
      have := toList_inj (by simpa using e : x.toList = y.toList)
      subst this
      rw [ltB_irr] at h; cases h
    rw [h2, h4]; rfl
/-- A text among others, rising, once. -/
def putL : List ByteArray → ByteArray → List ByteArray
  | [], s => [s]
  | x :: r, s => if ltB x s = true then x :: putL r s else if (s.toList == x.toList) = true then x :: r else s :: x :: r
theorem mem_putL (l : List ByteArray) (s y : ByteArray) : y ∈ putL l s ↔ y ∈ l ∨ y = s := by
  induction l with
  | nil => simp [putL]
  | cons x r ih =>
    rw [putL]
    split
    · rw [List.mem_cons, ih, List.mem_cons, or_assoc]
    · split
      · rename_i h
        have := toList_inj (by simpa using h : s.toList = x.toList)
        subst this
        constructor
        · exact .inl
        · rintro (h | rfl)
          · exact h
          · exact List.mem_cons_self
      · simp only [List.mem_cons]
        constructor
        · rintro (h | h | h)
          · exact .inr h
          · exact .inl (.inl h)
          · exact .inl (.inr h)
        · rintro ((h | h) | h)
          · exact .inr (.inl h)
          · exact .inr (.inr h)
          · exact .inl h
theorem sorted_putL {l : List ByteArray} (h : l.Pairwise (fun a b => ltB a b = true)) (s : ByteArray) : (putL l s).Pairwise (fun a b => ltB a b = true) := by
  induction l with
  | nil => simp [putL]
  | cons x r ih =>
    have hx := List.pairwise_cons.1 h
    rw [putL]
    split
    · rename_i hl
      refine List.pairwise_cons.2 ⟨fun y hy => ?_, ih hx.2⟩
      rcases (mem_putL r s y).1 hy with hy | rfl
      · exact hx.1 y hy
      · exact hl
    · rename_i hl
      split
      · exact h
      · rename_i he
        have hsx : ltB s x = true := by
          rcases h3 : ltB s x
          · have := ltB_tri h3 (by simpa using hl)
            subst this
            simp at he
          · rfl
        refine List.pairwise_cons.2 ⟨fun y hy => ?_, h⟩
        rcases List.mem_cons.1 hy with rfl | hy
        · exact hsx
        · exact ltB_trans hsx (hx.1 y hy)
theorem putL_len (l : List ByteArray) (s : ByteArray) : (putL l s).length ≤ l.length + 1 := by
  induction l with
  | nil => simp [putL]
  | cons x r ih =>
    rw [putL]
    split
    · simp only [List.length_cons]; omega
    · split <;> simp
/-- Rows that rise and hold the same are the same. -/
theorem sorted_uniq : ∀ {a b : List ByteArray}, a.Pairwise (fun x y => ltB x y = true) → b.Pairwise (fun x y => ltB x y = true) → (∀ x, x ∈ a ↔ x ∈ b) → a = b
  | [], [], _, _, _ => rfl
  | [], y :: b, _, _, h => by have := (h y).2 (by simp); cases this
  | x :: a, [], _, _, h => by have := (h x).1 (by simp); cases this
  | x :: a, y :: b, ha, hb, h => by
    have ha' := List.pairwise_cons.1 ha
    have hb' := List.pairwise_cons.1 hb
    have e : x = y := by
      rcases List.mem_cons.1 ((h x).1 (by simp)) with e | hx
      · exact e
      rcases List.mem_cons.1 ((h y).2 (by simp)) with e | hy
      · exact e.symm
      have h1 := hb'.1 x hx
      have h2 := ha'.1 y hy
      have := ltB_trans h1 h2
      rw [ltB_irr] at this; cases this
    subst e
    rw [sorted_uniq ha'.2 hb'.2 fun z => ?_]
    constructor
    · intro hz
      rcases List.mem_cons.1 ((h z).1 (List.mem_cons_of_mem _ hz)) with rfl | hz'
      · have := ha'.1 _ hz; rw [ltB_irr] at this; cases this
      · exact hz'
    · intro hz
      rcases List.mem_cons.1 ((h z).2 (List.mem_cons_of_mem _ hz)) with rfl | hz'
      · have := hb'.1 _ hz; rw [ltB_irr] at this; cases this
      · exact hz'
theorem modsIn_uniq {l : List Site} {bl : List Int} {a b : List ByteArray} (ha : ModsIn l bl a) (hb : ModsIn l bl b) : a = b := by
  refine sorted_uniq (ha.1.imp fun h => ?_) (hb.1.imp fun h => ?_) fun x => (ha.2 x).trans (hb.2 x).symm
  · rw [ltB_eq]; exact h
  · rw [ltB_eq]; exact h
/-- One site's names more. -/
def modS (l : List Site) (s : List (Bool × Bool)) (k : Nat) (out : List ByteArray) : List ByteArray :=
  let o1 := if (s.getD k (false, false)).1 = true then putL out (nameB l ((k : Int) + 1)) else out
  if (s.getD k (false, false)).2 = true then putL o1 (nameB l (-((k : Int) + 1))) else o1
/-- The answer's names, of the first k sites. -/
def modK (l : List Site) (s : List (Bool × Bool)) : Nat → List ByteArray
  | 0 => []
  | k + 1 => modS l s k (modK l s k)
theorem modK_len (l : List Site) (s : List (Bool × Bool)) : ∀ k, (modK l s k).length ≤ 2 * k
  | 0 => by simp [modK]
  | k + 1 => by
    have ih := modK_len l s k
    rw [modK, modS]
    have h1 := putL_len (modK l s k) (nameB l ((k : Int) + 1))
    have h2 := putL_len (putL (modK l s k) (nameB l ((k : Int) + 1))) (nameB l (-((k : Int) + 1)))
    have h3 := putL_len (modK l s k) (nameB l (-((k : Int) + 1)))
    split <;> split <;> omega
theorem modK_sorted (l : List Site) (s : List (Bool × Bool)) : ∀ k, (modK l s k).Pairwise (fun x y => ltB x y = true)
  | 0 => by simp [modK]
  | k + 1 => by
    have ih := modK_sorted l s k
    rw [modK, modS]
    split <;> split
    · exact sorted_putL (sorted_putL ih _) _
    · exact sorted_putL ih _
    · exact sorted_putL ih _
    · exact ih
theorem mem_modK (l : List Site) (s : List (Bool × Bool)) (x : ByteArray) : ∀ k, x ∈ modK l s k ↔ ∃ j, j < k ∧ (((s.getD j (false, false)).1 = true ∧ x = nameB l ((j : Int) + 1)) ∨ ((s.getD j (false, false)).2 = true ∧ x = nameB l (-((j : Int) + 1))))
  | 0 => by simp [modK]
  | k + 1 => by
    have ih := mem_modK l s x k
    rw [modK, modS]
    have key : x ∈ (if (s.getD k (false, false)).2 = true then putL (if (s.getD k (false, false)).1 = true then putL (modK l s k) (nameB l ((k : Int) + 1)) else modK l s k) (nameB l (-((k : Int) + 1))) else (if (s.getD k (false, false)).1 = true then putL (modK l s k) (nameB l ((k : Int) + 1)) else modK l s k)) ↔
        x ∈ modK l s k ∨ (((s.getD k (false, false)).1 = true ∧ x = nameB l ((k : Int) + 1)) ∨ ((s.getD k (false, false)).2 = true ∧ x = nameB l (-((k : Int) + 1)))) := by
      split <;> split <;> simp_all [mem_putL, or_assoc]
    rw [key, ih]
    constructor
    · rintro (⟨j, hj, h⟩ | h)
      · exact ⟨j, by omega, h⟩
      · exact ⟨k, by omega, h⟩
    · rintro ⟨j, hj, h⟩
      by_cases e : j = k
      · subst e; exact .inr h
      · exact .inl ⟨j, by omega, h⟩
theorem modK_in {l : List Site} {bl : List Int} {N : Nat} (hb : ∀ b ∈ bl, (1 ≤ b ∧ b ≤ (N : Int)) ∨ (1 ≤ -b ∧ -b ≤ (N : Int))) : ModsIn l bl (modK l (sidesL N bl) N) := by
  have hnz : ∀ b ∈ bl, b ≠ 0 := fun b h => by have := hb b h; omega
  refine ⟨(modK_sorted _ _ _).imp fun h => by rw [← ltB_eq]; exact h, fun x => ?_⟩
  rw [mem_modK, List.mem_map]
  constructor
  · rintro ⟨j, hj, h⟩
    have e := sides_at (bl := bl) hnz hj
    have e2 : (sidesL N bl).getD j (false, false) = (decide ((j : Int) + 1 ∈ bl), decide (-((j : Int) + 1) ∈ bl)) := by rw [List.getD_eq_getElem?_getD, e]; rfl
    rw [e2] at h
    rcases h with ⟨h1, rfl⟩ | ⟨h1, rfl⟩
    · exact ⟨_, by simpa using h1, rfl⟩
    · exact ⟨_, by simpa using h1, rfl⟩
  · rintro ⟨b, hbm, rfl⟩
    rcases hb b hbm with ⟨h1, h2⟩ | ⟨h1, h2⟩
    · obtain ⟨j, rfl⟩ : ∃ j : Nat, b = (j : Int) + 1 := ⟨(b - 1).toNat, by omega⟩
      have hj : j < N := by omega
      have e := sides_at (bl := bl) hnz hj
      refine ⟨j, hj, .inl ⟨?_, rfl⟩⟩
      rw [List.getD_eq_getElem?_getD, e]
      simpa using hbm
    · obtain ⟨j, rfl⟩ : ∃ j : Nat, b = -((j : Int) + 1) := ⟨(-b - 1).toNat, by omega⟩
      have hj : j < N := by omega
      have e := sides_at (bl := bl) hnz hj
      refine ⟨j, hj, .inr ⟨?_, rfl⟩⟩
      rw [List.getD_eq_getElem?_getD, e]
      simpa using hbm

/-! ### What is seen -/
structure Ob where
  kd : Int
  n : Int
  tx : ByteArray
def Ob.vs (o : Ob) : List Value := [.int .i8 o.kd, .int .i64 o.n, .string o.tx]
def obs (l : List Ob) : List Value := l.flatMap Ob.vs
theorem obs_len (l : List Ob) : (obs l).length = l.length * 3 := by
  induction l with
  | nil => rfl
  | cons s l ih => simp only [obs, List.flatMap_cons, List.length_append, List.length_cons] at *; rw [ih]; simp [Ob.vs]; omega
theorem obs_at (l : List Ob) : ∀ (k : Nat) (s : Ob) (j : Nat), l[k]? = some s → j < 3 → (obs l)[k * 3 + j]? = s.vs[j]? := by
  induction l with
  | nil => intro k s j h; simp at h
  | cons x l ih =>
    intro k s j h hj
    have hl : x.vs.length = 3 := rfl
    cases k with
    | zero =>
      simp at h; subst h
      simp only [obs, List.flatMap_cons]
      rw [List.getElem?_append_left (by omega)]; simp
    | succ k =>
      simp at h
      have := ih k s j h hj
      simp only [obs, List.flatMap_cons] at *
      rw [List.getElem?_append_right (by omega)]
      rw [hl, show (k + 1) * 3 + j - 3 = k * 3 + j by omega]; exact this
/-- The first blame that is seen and is not possible; -1: none. -/
def badO (s : List (Bool × Bool)) (o : Ob) : Bool := decide (o.kd = 9) && (!(possR s o.n).1 || (possR s o.n).2 != 0)
def seenK (s : List (Bool × Bool)) : List Ob → Nat → Int
  | [], _ => -1
  | o :: r, i => if badO s o = true then i else seenK s r (i + 1)
end Go.Proofs.YtmagljnlfponaaaGreat.R

/- RuA -/
namespace Go.Proofs.YtmagljnlfponaaaGreat.R
open Go.RowKit Go.Proofs.YtmagljnlfponaaaGreat.B Go.Proofs.YtmagljnlfponaaaGreat.T Go.Proofs.YtmagljnlfponaaaGreat.K Go.Proofs.YtmagljnlfponaaaGreat.J Go.Proofs.YtmagljnlfponaaaGreat.La
set_option linter.unusedVariables false
set_option linter.unusedSimpArgs false

noncomputable def possJ (R : Int × List Tn) (N : Nat) (b : Int) : Bool × Int := if R.1 = 0 then possR (sidesL N (blL R.2)) b else (false, R.1)
set_option maxRecDepth 100000 in
set_option maxHeartbeats 4000000 in
theorem Possible_j (L : List Tn) (A : Option Addr) (c : Nat) (T : ByteArray) (B : Option Addr) (N d : Nat) (b : Int) (w : World) (hN : L.length ≤ 1000000) (hNN : N ≤ 1000000) (hLc : L.length ≤ c) (hS : ∀ x ∈ L, x.small) (hL : LT w w.heap.size A L) (h0 : -9223372036854775808 ≤ b) (h1 : b ≤ 9223372036854775807) :
    Calls Tryz.prog 9 #[.agg #[.slice A L.length c, .string T, .slice B N d], .int .i64 b] w fun e w' => e = .returned (possV (possJ (chkP L T N) N b)) ∧ Below w.heap.size w w' := by
  obtain ⟨W0, hW0⟩ : ∃ W0, w.alloc (.cells #[.slice A L.length c, .string T, .slice B N d] 25) = W0 := ⟨_, rfl⟩
  have hb0 : Below w.heap.size w W0 := by rw [← hW0]; exact bal b0 _
  have hk0 : Blk W0 w.heap.size 25 #[.slice A L.length c, .string T, .slice B N d] := by rw [← hW0]; exact Blk.new _ _ _
  have hsi := SidesJ_any L A c T B N d W0 hN hNN hLc hS ((hL.below hb0).fresh (Nat.le_refl _))
  unfold SidesQ at hsi
  obtain ⟨R, hR⟩ : ∃ R, chkP L T N = R := ⟨_, rfl⟩
  rw [hR] at hsi ⊢
  have HW0 := Lib.hid hW0
  have HB := Lib.hid (And.intro hb0 hk0)
  by_cases hz : R.1 = 0
  · simp only [if_pos hz] at hsi
    have HP := Lib.hid (show possJ R N b = possR (sidesL N (blL R.2)) b by unfold possJ; rw [if_pos hz])
    have HSI := Lib.hid hsi
    have HPJ := Lib.hid (fun W Av cv hs => possible_j (.agg #[.slice A L.length c, .string T, .slice B N d]) W0.heap.size Av N cv (sidesL N (blL R.2)) b W ⟨_, _, _, rfl, rfl, rfl, rfl⟩ hs (sides_len _ _) hNN h0 h1)
    have k0 : W0.cell? ⟨w.heap.size, 0, none⟩ = some (.slice A L.length c) := (hk0.cell 0).trans rfl
    have k1 : W0.cell? ⟨w.heap.size, 1, none⟩ = some (.string T) := (hk0.cell 1).trans rfl
    have k2 : W0.cell? ⟨w.heap.size, 2, none⟩ = some (.slice B N d) := (hk0.cell 2).trans rfl
    clear hsi hz hL hLc hS hb0 hk0 hW0 h0 h1 hR
    go_enter Tryz.func9, Tryz.ntmps9
    go_wp2_with fail
    rw [HW0.out]
    (refine HSI.out.mono ?_); rintro e w1 ⟨hb1, v, rfl, hv⟩
    obtain ⟨Av, cv, rfl, hv1, hv2⟩ := own_shape hv
    have hk1 := HB.out.2.below hb1 HB.out.2.lt
    have j0 : w1.cell? ⟨w.heap.size, 0, none⟩ = some (.slice A L.length c) := (hk1.cell 0).trans rfl
    have j1 : w1.cell? ⟨w.heap.size, 1, none⟩ = some (.string T) := (hk1.cell 1).trans rfl
    have j2 : w1.cell? ⟨w.heap.size, 2, none⟩ = some (.slice B N d) := (hk1.cell 2).trans rfl
    have HC := Lib.hid (HPJ.out w1 Av cv hv)
    have H := Lib.hid (bl HB.out.1 hb1)
    clear hb1 hv hk1 k0 k1 k2
    go_wp2_with fail
    (refine HC.out.mono ?_); rintro e w2 ⟨rfl, hb2⟩
    unfold possV
    have H2 := Lib.hid (bl H.out hb2)
    clear hb2
    go_wp2_with fail
    go_ret2
    exact ⟨by rw [HP.out]; rfl, H2.out⟩
  · simp only [if_neg hz] at hsi
    have HP := Lib.hid (show possJ R N b = (false, R.1) by unfold possJ; rw [if_neg hz])
    have HSI := Lib.hid hsi
    have e1 : (R.1 != 0) = true := by simpa using hz
    clear hsi hz hL hLc hS hb0 hk0 hW0 h0 h1 hR
    go_enter Tryz.func9, Tryz.ntmps9
    go_wp2_with fail
    rw [HW0.out]
    (refine HSI.out.mono ?_); rintro e w1 ⟨hb1, rfl⟩
    have H := Lib.hid (bl HB.out.1 hb1)
    clear hb1
    go_wp2_with fail
    go_ret2
    exact ⟨by rw [HP.out]; rfl, H.out⟩

theorem ob_cells {w : World} {C : Option Addr} {M : Nat} {l : List Ob} {k : Nat} {o : Ob} (h : Sl w w.heap.size 3 C M (obs l)) (hk : l[k]? = some o) :
    ∃ b f, C = some ⟨b, f, none⟩ ∧ b < w.heap.size ∧ w.cell? ⟨b, f + k * 3, none⟩ = some (.int .i8 o.kd) ∧ w.cell? ⟨b, f + k * 3 + 1, none⟩ = some (.int .i64 o.n) ∧ w.cell? ⟨b, f + k * 3 + 2, none⟩ = some (.string o.tx) := by
  rcases h.2 with h0 | ⟨b, f, h1, h2, h3⟩
  · have h4 := h.1
    rw [obs_len] at h4
    have := (List.getElem?_eq_some_iff.1 hk).1
    omega
  · have g : ∀ j u, j < 3 → o.vs[j]? = some u → w.cell? ⟨b, f + k * 3 + j, none⟩ = some u := fun j u hj hu => by
      have := h3 (k * 3 + j) u (by rw [obs_at l k o j hk hj]; exact hu)
      rwa [← Nat.add_assoc] at this
    exact ⟨b, f, h1, h2, g 0 _ (by omega) rfl, g 1 _ (by omega) rfl, g 2 _ (by omega) rfl⟩
theorem seenK_step {s : List (Bool × Bool)} {l : List Ob} {k : Nat} {o : Ob} (h : l[k]? = some o) : seenK s (l.drop k) k = if badO s o = true then (k : Int) else seenK s (l.drop (k + 1)) (k + 1) := by
  have hk := (List.getElem?_eq_some_iff.1 h).1
  rw [List.drop_eq_getElem_cons hk, (List.getElem?_eq_some_iff.1 h).2, seenK]

noncomputable def seenV (R : Int × List Tn) (N : Nat) (l : List Ob) : Int × Int := if R.1 = 0 then (seenK (sidesL N (blL R.2)) l 0, 0) else (0, R.1)
set_option maxRecDepth 100000 in
set_option maxHeartbeats 8000000 in
theorem Seen_j (L : List Tn) (A : Option Addr) (c : Nat) (T : ByteArray) (B : Option Addr) (N d : Nat) (l : List Ob) (C : Option Addr) (cd : Nat) (w : World) (hN : L.length ≤ 1000000) (hNN : N ≤ 1000000) (hLc : L.length ≤ c) (hS : ∀ x ∈ L, x.small) (hL : LT w w.heap.size A L) (hl : l.length ≤ 1000000) (hlc : l.length ≤ cd) (hC : Sl w w.heap.size 3 C l.length (obs l)) (hob : ∀ o ∈ l, -9223372036854775808 ≤ o.n ∧ o.n ≤ 9223372036854775807) :
    Calls Tryz.prog 11 #[.agg #[.slice A L.length c, .string T, .slice B N d], .slice C l.length cd] w fun e w' => e = .returned (.tuple #[.int .i64 (seenV (chkP L T N) N l).1, .int .i64 (seenV (chkP L T N) N l).2]) ∧ Below w.heap.size w w' := by
  obtain ⟨W0, hW0⟩ : ∃ W0, w.alloc (.cells #[.slice A L.length c, .string T, .slice B N d] 25) = W0 := ⟨_, rfl⟩
  have hb0 : Below w.heap.size w W0 := by rw [← hW0]; exact bal b0 _
  have hk0 : Blk W0 w.heap.size 25 #[.slice A L.length c, .string T, .slice B N d] := by rw [← hW0]; exact Blk.new _ _ _
  have hsi := SidesJ_any L A c T B N d W0 hN hNN hLc hS ((hL.below hb0).fresh (Nat.le_refl _))
  unfold SidesQ at hsi
  obtain ⟨R, hR⟩ : ∃ R, chkP L T N = R := ⟨_, rfl⟩
  rw [hR] at hsi ⊢
  have HW0 := Lib.hid hW0
  have HB := Lib.hid (And.intro hb0 hk0)
  have k0 : W0.cell? ⟨w.heap.size, 0, none⟩ = some (.slice A L.length c) := (hk0.cell 0).trans rfl
  have k1 : W0.cell? ⟨w.heap.size, 1, none⟩ = some (.string T) := (hk0.cell 1).trans rfl
  have k2 : W0.cell? ⟨w.heap.size, 2, none⟩ = some (.slice B N d) := (hk0.cell 2).trans rfl
  obtain ⟨M, hM⟩ : ∃ M, l.length = M := ⟨_, rfl⟩
  rw [hM] at hl hlc hC ⊢
  by_cases hz : R.1 = 0
  · simp only [if_pos hz] at hsi
    have HP := Lib.hid (show seenV R N l = (seenK (sidesL N (blL R.2)) l 0, 0) by unfold seenV; rw [if_pos hz])
    have HSI := Lib.hid hsi
    have hlen := sides_len N (blL R.2)
    obtain ⟨s, hs⟩ : ∃ s, sidesL N (blL R.2) = s := ⟨_, rfl⟩
    rw [hs] at HP HSI hlen
    have HPJ := Lib.hid (fun W Av cv b hs h0 h1 => possible_j (.agg #[.slice A L.length c, .string T, .slice B N d]) W0.heap.size Av N cv s b W ⟨_, _, _, rfl, rfl, rfl, rfl⟩ hs hlen hNN h0 h1)
    obtain ⟨r, hr⟩ : ∃ r, seenK s l 0 = r := ⟨_, rfl⟩
    have HR := Lib.hid hr
    have HI := Lib.hid (And.intro hC (And.intro hob hM))
    clear hsi hz hL hLc hS hb0 hk0 hW0 hR hs hlen hr hC hob hM
    go_enter Tryz.func11, Tryz.ntmps11
    go_wp2_with fail
    rw [HW0.out]
    (refine HSI.out.mono ?_); rintro e w1 ⟨hb1, v, rfl, hv⟩
    obtain ⟨Av, cv, rfl, hv1, hv2⟩ := own_shape hv
    have hk1 := HB.out.2.below hb1 HB.out.2.lt
    have H1 := Lib.hid (And.intro (bl HB.out.1 hb1) (And.intro hk1 hv))
    clear hb1 hv hk1 k0 k1 k2
    go_wp2_with fail
    go_loopg [22] M (fun q i wr => ∃ k : Nat, k ≤ M ∧ q = M - k ∧ i = .int .i64 k ∧ Below w1.heap.size w1 wr ∧ Hid (seenK s (l.drop k) k = r))
    case atStart => exact ⟨0, by omega, rfl, rfl, Below.refl _ _, Lib.hid (by rw [List.drop_zero]; exact HR.out)⟩
    case round =>
      obtain ⟨k, hk, rfl, rfl, hb, hsk⟩ := hrel
      by_cases hlt : k < M
      · obtain ⟨o, ho⟩ : ∃ o, l[k]? = some o := ⟨_, List.getElem?_eq_getElem (by rw [HI.out.2.2]; exact hlt)⟩
        obtain ⟨b, f, rfl, hbl, q0, q1, q2⟩ := ob_cells HI.out.1 ho
        have hb0r : Below w.heap.size w wr := bl H1.out.1 hb
        replace q0 := (hb0r.cell (p := ⟨b, f + k * 3, none⟩) hbl).trans q0
        replace q1 := (hb0r.cell (p := ⟨b, f + k * 3 + 1, none⟩) hbl).trans q1
        replace q2 := (hb0r.cell (p := ⟨b, f + k * 3 + 2, none⟩) hbl).trans q2
        have hstep := seenK_step (s := s) ho
        rw [hsk.out] at hstep
        have hbo := HI.out.2.1 o (List.mem_of_getElem? ho)
        have hkr := H1.out.2.1.below hb H1.out.2.1.lt
        have hvr := own_below H1.out.2.2 hb
        obtain ⟨W2, hW2⟩ : ∃ W2, wr.alloc (.cells #[.int .i8 o.kd, .int .i64 o.n, .string o.tx] 82) = W2 := ⟨_, rfl⟩
        have hb2 : Below w1.heap.size w1 W2 := by rw [← hW2]; exact hb.alloc hb.size _
        have hk2 : Blk W2 w.heap.size 25 #[.slice A L.length c, .string T, .slice B N d] := by rw [← hW2]; exact hkr.alloc _
        have ho2 : Blk W2 wr.heap.size 82 #[.int .i8 o.kd, .int .i64 o.n, .string o.tx] := by rw [← hW2]; exact Blk.new _ _ _
        have hv2' : W2.ownsRow W0.heap.size 47 2 (.slice Av N cv) N (sdV s) := by rw [← hW2]; exact World.ownsRow.alloc hvr _
        have HC := Lib.hid (HPJ.out W2 Av cv o.n hv2' hbo.1 hbo.2)
        have HB2 := Lib.hid (And.intro hb2 (And.intro hk2 ho2))
        have HST := Lib.hid hstep
        have HW2 := Lib.hid hW2
        clear hstep hbo hkr hvr hW2 hb2 hk2 ho2 hv2' ho hsk hb0r
        by_cases hkd : o.kd = 9
        · have e1 : (o.kd != 9) = false := by simpa using hkd
          have HKD := Lib.hid hkd
          clear hkd hb
          go_upto_region 7 with fail
          rw [HW2.out]
          have n0 : W2.cell? ⟨wr.heap.size, 0, none⟩ = some (.int .i8 o.kd) := (HB2.out.2.2.cell 0).trans rfl
          have n1 : W2.cell? ⟨wr.heap.size, 1, none⟩ = some (.int .i64 o.n) := (HB2.out.2.2.cell 1).trans rfl
          have j0 : W2.cell? ⟨w.heap.size, 0, none⟩ = some (.slice A L.length c) := (HB2.out.2.1.cell 0).trans rfl
          have j1 : W2.cell? ⟨w.heap.size, 1, none⟩ = some (.string T) := (HB2.out.2.1.cell 1).trans rfl
          have j2 : W2.cell? ⟨w.heap.size, 2, none⟩ = some (.slice B N d) := (HB2.out.2.1.cell 2).trans rfl
          clear HW2 q0 q1 q2
          go_wp2_with fail
          (refine HC.out.mono ?_); rintro e w3 ⟨rfl, hb3⟩
          obtain ⟨⟨p, E⟩, hpE⟩ : ∃ p, possR s o.n = p := ⟨_, rfl⟩
          rw [hpE]
          unfold possV
          have hbad : badO s o = (!p || E != 0) := by unfold badO; rw [hpE, decide_eq_true HKD.out, Bool.true_and]
          have HBAD := Lib.hid hbad
          have H3 := Lib.hid (bl HB2.out.1 hb3)
          clear hbad hb3 hpE n0 n1 j0 j1 j2
          cases p
          · go_wp2_with fail
            go_ret2
            have h := HST.out
            rw [HBAD.out] at h
            simp at h
            exact ⟨by rw [HP.out, HR.out, h]; rfl, bl H1.out.1 H3.out⟩
          · by_cases hE : E = 0
            · have e2 : (E != 0) = false := by simpa using hE
              have HE := Lib.hid hE
              clear hE
              go_wp2_with fail
              go_roundg (M - (k + 1))
              case measure => omega
              case rel =>
                have h := HST.out
                rw [HBAD.out, HE.out] at h
                simp at h
                exact ⟨k + 1, by omega, rfl, by go_num, H3.out, Lib.hid h.symm⟩
            · have e2 : (E != 0) = true := by simpa using hE
              have HE := Lib.hid e2
              clear hE
              go_wp2_with fail
              go_ret2
              have h := HST.out
              rw [HBAD.out, HE.out] at h
              simp at h
              exact ⟨by rw [HP.out, HR.out, h]; rfl, bl H1.out.1 H3.out⟩
        · have e1 : (o.kd != 9) = true := by simpa using hkd
          have HKD := Lib.hid hkd
          clear hkd hb
          go_upto_region 7 with fail
          rw [HW2.out]
          have n0 : W2.cell? ⟨wr.heap.size, 0, none⟩ = some (.int .i8 o.kd) := (HB2.out.2.2.cell 0).trans rfl
          clear HW2 q0 q1 q2
          go_wp2_with fail
          go_roundg (M - (k + 1))
          case measure => omega
          case rel =>
            have h := HST.out
            have hbad : badO s o = false := by unfold badO; rw [decide_eq_false HKD.out, Bool.false_and]
            rw [hbad] at h
            simp at h
            exact ⟨k + 1, by omega, rfl, by go_num, HB2.out.1, Lib.hid h.symm⟩
      · obtain rfl : k = M := by omega
        have hm : r = -1 := by
          have h := hsk.out
          rw [List.drop_of_length_le (by rw [HI.out.2.2]; exact Nat.le_refl _)] at h
          rw [← h]; rfl
        have HM := Lib.hid hm
        have H := Lib.hid (bl H1.out.1 hb)
        clear hm hb hsk
        go_wp2_with fail
        go_ret2
        exact ⟨by rw [HP.out, HR.out, HM.out]; rfl, H.out⟩
  · simp only [if_neg hz] at hsi
    have HP := Lib.hid (show seenV R N l = (0, R.1) by unfold seenV; rw [if_neg hz])
    have HSI := Lib.hid hsi
    have e1 : (R.1 != 0) = true := by simpa using hz
    clear hsi hz hL hLc hS hb0 hk0 hW0 hR hC hob hM
    go_enter Tryz.func11, Tryz.ntmps11
    go_wp2_with fail
    rw [HW0.out]
    (refine HSI.out.mono ?_); rintro e w1 ⟨hb1, rfl⟩
    have H := Lib.hid (bl HB.out.1 hb1)
    clear hb1
    go_wp2_with fail
    go_ret2
    exact ⟨by rw [HP.out]; rfl, H.out⟩
end Go.Proofs.YtmagljnlfponaaaGreat.R
