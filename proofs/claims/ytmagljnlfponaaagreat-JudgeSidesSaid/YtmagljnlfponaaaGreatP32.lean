/- Parts of this claim: RtY, SortP. -/
import Derived.WalkKit
import Derived.Lib.Strings
import Derived.Test.YtmagljnlfponaaaGreatP30
import Derived.Test.YtmagljnlfponaaaGreatP05
import Derived.Test.YtmagljnlfponaaaGreatP31
set_option linter.unusedVariables false
set_option linter.unusedSimpArgs false
/- RtY -/
namespace Go.Proofs.YtmagljnlfponaaaGreat.R
open Go.RowKit Go.Proofs.YtmagljnlfponaaaGreat.B Go.Proofs.YtmagljnlfponaaaGreat.T Go.Proofs.YtmagljnlfponaaaGreat.K Go.Proofs.YtmagljnlfponaaaGreat.J
set_option linter.unusedVariables false
set_option linter.unusedSimpArgs false

theorem infoSideR : (Tryz.prog.info? 48).map (fun i => (i.zero, i.size, i.bytes)) = some (some (.agg #[.bool false, .bool false]), 2, 2) := by kernel_rfl
theorem make_sidesR (N : Nat) (w : World) (hN : N ≤ 1000000) : (Instr.makeSlice 44 (.int .i64 (N : Int)) (.int .i64 (N : Int))).run Tryz.prog w = .ok (.slice (some ⟨w.heap.size, 0, none⟩) N N) (w.alloc (.cells (sdV (List.replicate N (false, false))).toArray 48)) := by
  obtain ⟨i0, hi0, hz0, hz1, hz2⟩ := info_parts infoSideR
  have h := run_make (P := Tryz.prog) w 44 48 i0 (.agg #[.bool false, .bool false]) Tryz.underlying44 hi0 hz0 .i64 .i64 (N : Int) (N : Int) (by omega) (Int.le_refl _) (by rw [hz2]; omega) (by omega)
  rw [hz1, show ((N : Int)).toNat = N by omega, made_sides] at h
  exact h
theorem sdV_put (s : List (Bool × Bool)) : ∀ (k j : Nat) (b : Bool) (p : Bool × Bool), k < s.length → j < 2 → s[k]? = some p →
    (sdV s).set (k * 2 + j) (.bool b) = sdV (s.set k (if j = 0 then (b, p.2) else (p.1, b))) := by
  induction s with
  | nil => intro k j b p h; simp at h
  | cons x s ih =>
    intro k j b p hk hj hp
    cases k with
    | zero =>
      simp at hp; subst hp
      match j, hj with
      | 0, _ => simp [sdV]
      | 1, _ => simp [sdV]
    | succ k =>
      have := ih k j b p (by simpa using hk) hj (by simpa using hp)
      simp only [sdV, List.flatMap_cons, List.set_cons_succ] at *
      rw [← this, show (k + 1) * 2 + j = (k * 2 + j) + 2 by omega]
      rfl
theorem sdV_at (s : List (Bool × Bool)) : ∀ (k : Nat) (p : Bool × Bool), s[k]? = some p → (sdV s)[k * 2]? = some (.bool p.1) ∧ (sdV s)[k * 2 + 1]? = some (.bool p.2) := by
  induction s with
  | nil => intro k p h; simp at h
  | cons x s ih =>
    intro k p hp
    cases k with
    | zero => simp at hp; subst hp; exact ⟨rfl, rfl⟩
    | succ k =>
      have := ih k p (by simpa using hp)
      simp only [sdV, List.flatMap_cons] at *
      rw [show (k + 1) * 2 = k * 2 + 2 by omega, show k * 2 + 2 + 1 = (k * 2 + 1) + 2 by omega]
      exact this
theorem markS_in {s : List (Bool × Bool)} {q : Nat} {x : Bool × Bool} (h : s[q]? = some x) : markS s ((q : Int) + 1) = s.set q (true, x.2) := by
  unfold markS
  rw [if_pos (by omega), show ((q : Int) + 1).toNat - 1 = q by omega, List.getD_eq_getElem?_getD, h]; rfl
theorem markS_out {s : List (Bool × Bool)} {q : Nat} {x : Bool × Bool} (h : s[q]? = some x) : markS s (-((q : Int) + 1)) = s.set q (x.1, true) := by
  unfold markS
  rw [if_neg (by omega), show (-(-((q : Int) + 1))).toNat - 1 = q by omega, List.getD_eq_getElem?_getD, h]; rfl
theorem set_id {s : List (Bool × Bool)} {q : Nat} {x : Bool × Bool} (h : s[q]? = some x) : s.set q x = s := by
  apply List.ext_getElem?
  intro i
  rw [List.getElem?_set]
  split
  · rename_i e; subst e
    rw [h, if_pos (List.getElem?_eq_some_iff.1 h).1]
  · rfl
/-- One more cast. -/
theorem sides_cast {N q : Nat} {pre : List Tn} {c : Tn} (hn : c.n = (q : Int) + 1) {x : Bool × Bool} (h : (sidesL N (blL pre))[q]? = some x) :
    sidesL N (blL (pre ++ [c])) = (sidesL N (blL pre)).set q (x.1 || !plusC c, x.2 || !minusC c) := by
  obtain ⟨s, hs⟩ : ∃ s, sidesL N (blL pre) = s := ⟨_, rfl⟩
  have hq : q < s.length := by rw [← hs]; exact (List.getElem?_eq_some_iff.1 h).1
  have e : sidesL N (blL (pre ++ [c])) = (blC c).foldl markS s := by
    unfold blL
    rw [List.flatMap_append, List.flatMap_cons, List.flatMap_nil, List.append_nil]
    unfold sidesL
    rw [List.foldl_append]
    have : (pre.flatMap blC).foldl markS (List.replicate N (false, false)) = s := hs
    rw [this]
  rw [e]
  rw [hs] at h ⊢
  obtain ⟨x1, x2⟩ := x
  unfold blC
  rw [hn]
  cases plusC c <;> cases minusC c
  · have h2 : (s.set q (true, x2))[q]? = some (true, x2) := by rw [List.getElem?_set, if_pos rfl, if_pos hq]
    simp [markS_in h, markS_out h2, List.set_set]
  · simp [markS_in h]
  · simp [markS_out h]
  · simp only [if_true, List.append_nil, List.foldl_nil, Bool.not_true, Bool.or_false]
    exact (set_id h).symm

set_option maxRecDepth 100000 in
set_option maxHeartbeats 8000000 in
theorem sidesM_any (L : List Tn) (A : Option Addr) (c : Nat) (T : ByteArray) (B : Option Addr) (N d : Nat) (w : World) (hN : L.length ≤ 1000000) (hNN : N ≤ 1000000) (hLc : L.length ≤ c) (hL : LT w w.heap.size A L) (hcs : ∀ x ∈ laidL L, Cst x ∧ x.n ≤ (N : Int)) :
    Calls Tryz.prog 14 #[.agg #[.slice A L.length c, .string T, .slice B N d]] w fun e w' => Below w.heap.size w w' ∧ ∃ v, e = .returned v ∧ w'.ownsRow w.heap.size 48 2 v N (sdV (sidesL N (blL (laidL L)))) := by
  have hM : (laidL L).length ≤ L.length := by have := laid_le L L.length; rwa [List.take_of_length_le (Nat.le_refl _)] at this
  obtain ⟨W0, hW0⟩ : ∃ W0, w.alloc (.cells #[.slice A L.length c, .string T, .slice B N d] 25) = W0 := ⟨_, rfl⟩
  have hb0 : Below w.heap.size w W0 := by rw [← hW0]; exact bal b0 _
  have hk0 : Blk W0 w.heap.size 25 #[.slice A L.length c, .string T, .slice B N d] := by rw [← hW0]; exact Blk.new _ _ _
  have hz0 : W0.heap.size = w.heap.size + 1 := by rw [← hW0, World.size_alloc]
  have HLT := Lib.hid (show ∀ W, Below w.heap.size w W → LT W W.heap.size A L from fun W hb => (hL.below hb).fresh (Nat.le_refl _))
  have HCA := Lib.hid (fun W hb => CastsR_any L A c W hN hLc (HLT.out W hb))
  have hmk := fun W => make_sidesR N W hNN
  have k0 : W0.cell? ⟨w.heap.size, 0, none⟩ = some (.slice A L.length c) := (hk0.cell 0).trans rfl
  have k2 : W0.cell? ⟨w.heap.size, 2, none⟩ = some (.slice B N d) := (hk0.cell 2).trans rfl
  have HW0 := Lib.hid hW0
  have HB := Lib.hid (And.intro hb0 (And.intro hk0 (And.intro hz0 hcs)))
  obtain ⟨sv, hsv⟩ : ∃ sv, (sdV (List.replicate N (false, false))).toArray = sv := ⟨_, rfl⟩
  rw [hsv] at hmk
  have HSV := Lib.hid hsv
  clear hL hLc hb0 hk0 hz0 hW0 k0 k2 hcs hsv
  go_enter Tryz.func14, Tryz.ntmps14
  go_upto_region 2 with fail
  rw [HW0.out]
  obtain ⟨W1, hW1⟩ : ∃ W1, W0.alloc (.cells sv 48) = W1 := ⟨_, rfl⟩
  rw [hW1]
  have hk1 : Blk W1 w.heap.size 25 #[.slice A L.length c, .string T, .slice B N d] := by rw [← hW1]; exact Blk.alloc HB.out.2.1 _
  have hbw1 : Below w.heap.size w W1 := by rw [← hW1]; exact HB.out.1.alloc HB.out.1.size _
  have hs1 : Blk W1 (w.heap.size + 1) 48 (sdV (sidesL N (blL ((laidL L).take 0)))).toArray := by
    rw [show sidesL N (blL ((laidL L).take 0)) = List.replicate N (false, false) from rfl, HSV.out, ← HB.out.2.2.1, ← hW1]; exact Blk.new _ _ _
  have k0 : W1.cell? ⟨w.heap.size, 0, none⟩ = some (.slice A L.length c) := (hk1.cell 0).trans rfl
  have H1 := Lib.hid (And.intro hbw1 hs1)
  clear hW1 hk1 hbw1 hs1 hmk HSV HW0
  go_wp2_with fail
  (refine (HCA.out W1 H1.out.1).mono ?_); rintro e w2 ⟨hb2, v, rfl, hv⟩
  obtain ⟨Av, cv, rfl, hv1, hv2⟩ := own_shape hv
  have hcs := HB.out.2.2.2
  obtain ⟨l, hl⟩ : ∃ l, laidL L = l := ⟨_, rfl⟩
  rw [hl] at hv hv1 hM H1 hcs
  rw [hl]
  obtain ⟨M, hMe⟩ : ∃ M, l.length = M := ⟨_, rfl⟩
  rw [hMe] at hv hv1 hM
  rw [hMe]
  have hs2 : Blk w2 (w.heap.size + 1) 48 (sdV (sidesL N (blL (l.take 0)))).toArray := H1.out.2.below hb2 H1.out.2.lt
  have hgw : w.heap.size + 1 < W1.heap.size := H1.out.2.lt
  have HO := Lib.hid (And.intro (bl H1.out.1 hb2) (And.intro hs2 (And.intro hv (And.intro hMe (And.intro hcs (And.intro hgw hb2.size))))))
  have HL2 := Lib.hid hl
  clear hb2 hv hMe hl hs2 hcs k0 HCA HB H1 hgw
  go_wp2_with fail
  go_loopg [5] M (fun q i wr => ∃ k : Nat, k ≤ M ∧ q = M - k ∧ i = .int .i64 k ∧ Bt (w.heap.size + 1) w2 wr ∧ Blk wr (w.heap.size + 1) 48 (sdV (sidesL N (blL (l.take k)))).toArray)
  case atStart => exact ⟨0, by omega, rfl, rfl, But.refl _ _, HO.out.2.1⟩
  case round =>
    obtain ⟨k, hk, rfl, rfl, hbt, hbk⟩ := hrel
    by_cases hlt : k < M
    · obtain ⟨s, hs⟩ : ∃ s, l[k]? = some s := ⟨_, List.getElem?_eq_getElem (by rw [HO.out.2.2.2.1]; exact hlt)⟩
      obtain ⟨hC, hnN⟩ := HO.out.2.2.2.2.1 s (List.mem_of_getElem? hs)
      obtain ⟨b, rfl, hbb, hbl, r0, r1, r2⟩ := ld_cellsR HO.out.2.2.1 hlt hs
      have hgw := HO.out.2.2.2.2.2.1
      obtain ⟨q, hq⟩ : ∃ q : Nat, s.n = (q : Int) + 1 := ⟨(s.n - 1).toNat, by have := hC.2.2.2.1; omega⟩
      have hqN : q < N := by omega
      obtain ⟨x, hx⟩ : ∃ x, (sidesL N (blL (l.take k)))[q]? = some x := ⟨_, List.getElem?_eq_getElem (by rw [sides_len]; exact hqN)⟩
      have hstep : sidesL N (blL (l.take (k + 1))) = (sidesL N (blL (l.take k))).set q (x.1 || !plusC s, x.2 || !minusC s) := by
        rw [List.take_add_one, hs, Option.toList_some]
        exact sides_cast hq hx
      have hlen : (sidesL N (blL (l.take k))).length = N := sides_len _ _
      obtain ⟨S0, hS0⟩ : ∃ S0, sidesL N (blL (l.take k)) = S0 := ⟨_, rfl⟩
      rw [hS0] at hbk hx hstep hlen
      have hpl := plusM (ty s.t) (ty s.u) (okT_ty hC.1) (okT_ty hC.2.1)
      have hmi := minusM (ty s.t) (ty s.u) (okT_ty hC.1) (okT_ty hC.2.1)
      rw [← (ty_spec hC.1).2.1, ← (ty_spec hC.2.1).2.1] at hpl hmi
      change AskQ _ _ _ (plusC s) at hpl
      change AskQ _ _ _ (minusC s) at hmi
      obtain ⟨p, hp⟩ : ∃ p, plusC s = p := ⟨_, rfl⟩
      obtain ⟨m, hm⟩ : ∃ m, minusC s = m := ⟨_, rfl⟩
      rw [hp] at hpl hstep
      rw [hm] at hmi hstep
      rw [hq] at r0
      have q0 : wr.cell? ⟨b, k * 3, none⟩ = some (.int .i64 ((q : Int) + 1)) := (hbt.cell (p := ⟨b, k * 3, none⟩) hbl (show b ≠ w.heap.size + 1 by omega)).trans r0
      have HSS := Lib.hid (show ∀ W', Bt (w.heap.size + 1) w2 W' → (W'.cell? ⟨b, k * 3 + 1, none⟩ = some (.string s.t) ∧ W'.cell? ⟨b, k * 3 + 2, none⟩ = some (.string s.u)) from fun W' h =>
        ⟨(h.cell (p := ⟨b, k * 3 + 1, none⟩) hbl (show b ≠ w.heap.size + 1 by omega)).trans r1, (h.cell (p := ⟨b, k * 3 + 2, none⟩) hbl (show b ≠ w.heap.size + 1 by omega)).trans r2⟩)
      have HPL := Lib.hid hpl
      have HMI := Lib.hid hmi
      have HK := Lib.hid (And.intro hbt (And.intro hbk (And.intro hx (And.intro hstep hlen))))
      clear hC hnN hs hq hx hS0 hpl hmi hp hm r0 r1 r2 hbt hbk hstep hlen
      go_upto_region 7 with fail
      refine wp_region_held_drew (S := (fun W' => Below wr.heap.size wr W' ∧ W'.cell? ⟨b, k * 3 + 1, none⟩ = some (.string s.t) ∧ W'.cell? ⟨b, k * 3 + 2, none⟩ = some (.string s.u))) (by kernel_rfl) ?ss1 (fun hHeld => ?rr1)
      case ss1 => (try dsimp only); exact ⟨(Below.refl _ _).drew, HSS.out _ (HK.out.1.trans (Bt.below (Below.refl _ _).drew))⟩
      refine rgt 0 28 rfl rfl hHeld ?_
      try simp only [Act.put, rg1, rg2, rg3]
      refine rgt 1 29 rfl rfl hHeld ?_
      try simp only [Act.put, rg1, rg2, rg3]
      refine rgt 2 30 rfl rfl hHeld ?_
      try simp only [Act.put, rg1, rg2, rg3]
      refine rgt 3 31 rfl rfl hHeld ?_
      try simp only [Act.put, rg1, rg2, rg3]
      refine rgt 4 32 rfl rfl hHeld ?_
      try simp only [Act.put, rg1, rg2, rg3]
      refine rgt 5 33 rfl rfl hHeld ?_
      try simp only [Act.put, rg1, rg2, rg3]
      refine rgt 6 34 rfl rfl hHeld ?_
      try simp only [Act.put, rg1, rg2, rg3]
      refine rgt 7 35 rfl rfl hHeld ?_
      try simp only [Act.put, rg1, rg2, rg3]
      refine rgt 8 36 rfl rfl hHeld ?_
      try simp only [Act.put, rg1, rg2, rg3]
      refine rgt 9 37 rfl rfl hHeld ?_
      try simp only [Act.put, rg1, rg2, rg3]
      refine rgc 10 (some 38) rfl (fun K hK => ?_)
      go_simp
      ((refine (HPL.out _).mono ?_); rintro e w3 ⟨rfl, hb3⟩)
      refine hK.out _ _ ?ss12 (fun hHeld2 => ?rr12)
      case ss12 => (try dsimp only); exact ⟨bl hHeld.1 hb3, HSS.out _ (HK.out.1.trans (Bt.below (bl hHeld.1 hb3)))⟩
      clear hK K
      clear hHeld
      have hHeld := hHeld2
      clear hHeld2
      try simp only [Act.put, rg1, rg2, rg3]
      refine rgt 11 7 rfl rfl hHeld ?_
      try simp only [Act.put, rg1, rg2, rg3]
      refine wpAnyH_done (by kernel_rfl) ?_ _
      obtain ⟨hb3', q1, q2⟩ := hHeld
      have HB3 := Lib.hid hb3'
      clear hb3 hb3' q0 q1 q2
      go_upto_region 8 with fail
      refine wp_region_held_drew (S := (fun W' => Below wr.heap.size wr W' ∧ W'.cell? ⟨b, k * 3 + 1, none⟩ = some (.string s.t) ∧ W'.cell? ⟨b, k * 3 + 2, none⟩ = some (.string s.u))) (by kernel_rfl) ?ss14 (fun hHeld => ?rr14)
      case ss14 => (try dsimp only); exact ⟨HB3.out.drew, HSS.out _ (HK.out.1.trans (Bt.below HB3.out.drew))⟩
      refine rgt 0 39 rfl rfl hHeld ?_
      try simp only [Act.put, rg1, rg2, rg3]
      refine rgt 1 40 rfl rfl hHeld ?_
      try simp only [Act.put, rg1, rg2, rg3]
      refine rgt 2 41 rfl rfl hHeld ?_
      try simp only [Act.put, rg1, rg2, rg3]
      refine rgt 3 42 rfl rfl hHeld ?_
      try simp only [Act.put, rg1, rg2, rg3]
      refine rgt 4 43 rfl rfl hHeld ?_
      try simp only [Act.put, rg1, rg2, rg3]
      refine rgt 5 44 rfl rfl hHeld ?_
      try simp only [Act.put, rg1, rg2, rg3]
      refine rgt 6 45 rfl rfl hHeld ?_
      try simp only [Act.put, rg1, rg2, rg3]
      refine rgt 7 46 rfl rfl hHeld ?_
      try simp only [Act.put, rg1, rg2, rg3]
      refine rgt 8 47 rfl rfl hHeld ?_
      try simp only [Act.put, rg1, rg2, rg3]
      refine rgt 9 48 rfl rfl hHeld ?_
      try simp only [Act.put, rg1, rg2, rg3]
      refine rgc 10 (some 49) rfl (fun K hK => ?_)
      go_simp
      ((refine (HMI.out _).mono ?_); rintro e w4 ⟨rfl, hb4⟩)
      refine hK.out _ _ ?ss25 (fun hHeld2 => ?rr25)
      case ss25 => (try dsimp only); exact ⟨bl hHeld.1 hb4, HSS.out _ (HK.out.1.trans (Bt.below (bl hHeld.1 hb4)))⟩
      clear hK K
      clear hHeld
      have hHeld := hHeld2
      clear hHeld2
      try simp only [Act.put, rg1, rg2, rg3]
      refine rgt 11 8 rfl rfl hHeld ?_
      try simp only [Act.put, rg1, rg2, rg3]
      refine wpAnyH_done (by kernel_rfl) ?_ _
      obtain ⟨hb4', q1, q2⟩ := hHeld
      obtain ⟨hbt, hbk, hx, hstep, hlen⟩ := HK.out
      have hbk4 := hbk.below hb4' hbk.lt
      have hbt4 := hbt.trans (Bt.below hb4')
      obtain ⟨x1, x2⟩ := x
      obtain ⟨c1, c2⟩ := sdV_at _ _ _ hx
      have k1 : w4.cell? ⟨w.heap.size + 1, q * 2, none⟩ = some (.bool x1) := (hbk4.cell (q * 2)).trans (by rw [List.getElem?_toArray, c1])
      have f1 := hbk4.frozen (q * 2)
      have hput1 := fun b => sdV_put S0 q 0 b _ (by omega) (by omega) hx
      have H4 := Lib.hid (And.intro hbt4 (And.intro hbk4 (And.intro hx (And.intro hstep (And.intro hlen hput1)))))
      clear hb4 hb4' q1 q2 hbt hbk hx hstep hlen hbk4 hbt4 c1 c2 hput1 HK HB3
      cases x1
      · go_upto_region 10 with fail
        obtain ⟨hbt4, hbk4, hx, hstep, hlen, hput1⟩ := H4.out
        obtain ⟨W5, hW5⟩ : ∃ W5, w4.setCell ⟨w.heap.size + 1, q * 2, none⟩ (.bool (!p)) = W5 := ⟨_, rfl⟩
        have hbt5 : Bt (w.heap.size + 1) w2 W5 := by rw [← hW5]; exact hbt4.set_ (q * 2) _
        have hbk5 := Blk.set_ hbk4 (q * 2) (.bool (!p))
        have hput := hput1 (!p)
        rw [if_pos rfl, Nat.add_zero] at hput
        rw [List.setIfInBounds_toArray, hput, hW5] at hbk5
        have hx5 : (S0.set q ((!p), x2))[q]? = some ((!p), x2) := by rw [List.getElem?_set, if_pos rfl, if_pos (by omega)]
        have hput2 := fun b => sdV_put (S0.set q ((!p), x2)) q 1 b _ (by rw [List.length_set]; omega) (by omega) hx5
        obtain ⟨c1, c2⟩ := sdV_at _ _ _ hx5
        have k2 : W5.cell? ⟨w.heap.size + 1, q * 2 + 1, none⟩ = some (.bool x2) := (hbk5.cell (q * 2 + 1)).trans (by rw [List.getElem?_toArray, c2])
        have f2 := hbk5.frozen (q * 2 + 1)
        rw [hW5]
        have H5 := Lib.hid (And.intro hbt5 (And.intro hbk5 (And.intro hstep (And.intro hput2 hlen))))
        clear hbt4 hbk4 hx hstep hlen hput1 hW5 hbt5 hbk5 hput hx5 hput2 c1 c2 H4 k1 f1
        cases x2
        · go_wp2_with fail
          obtain ⟨hbt5, hbk5, hstep, hput2, hlen⟩ := H5.out
          obtain ⟨W6, hW6⟩ : ∃ W6, W5.setCell ⟨w.heap.size + 1, q * 2 + 1, none⟩ (.bool (!m)) = W6 := ⟨_, rfl⟩
          have hbt6 : Bt (w.heap.size + 1) w2 W6 := by rw [← hW6]; exact hbt5.set_ (q * 2 + 1) _
          have hbk6 := Blk.set_ hbk5 (q * 2 + 1) (.bool (!m))
          have hput := hput2 (!m)
          rw [if_neg (by decide)] at hput
          rw [List.setIfInBounds_toArray, hput, hW6, List.set_set] at hbk6
          have hfin : S0.set q ((!p), (!m)) = sidesL N (blL (l.take (k + 1))) := by rw [hstep]; simp
          rw [hfin] at hbk6
          rw [hW6]
          have H6 := Lib.hid (And.intro hbt6 hbk6)
          clear hbt5 hbk5 hstep hput2 hlen hW6 hbt6 hbk6 hput hfin H5 k2 f2
          go_roundg (M - (k + 1))
          case measure => omega
          case rel => exact ⟨k + 1, by omega, rfl, by go_num, H6.out.1, H6.out.2⟩
        · go_wp2_with fail
          obtain ⟨hbt5, hbk5, hstep, hput2, hlen⟩ := H5.out
          obtain ⟨W6, hW6⟩ : ∃ W6, W5.setCell ⟨w.heap.size + 1, q * 2 + 1, none⟩ (.bool true) = W6 := ⟨_, rfl⟩
          have hbt6 : Bt (w.heap.size + 1) w2 W6 := by rw [← hW6]; exact hbt5.set_ (q * 2 + 1) _
          have hbk6 := Blk.set_ hbk5 (q * 2 + 1) (.bool true)
          have hput := hput2 true
          rw [if_neg (by decide)] at hput
          rw [List.setIfInBounds_toArray, hput, hW6, List.set_set] at hbk6
          have hfin : S0.set q ((!p), true) = sidesL N (blL (l.take (k + 1))) := by rw [hstep]; simp
          rw [hfin] at hbk6
          rw [hW6]
          have H6 := Lib.hid (And.intro hbt6 hbk6)
          clear hbt5 hbk5 hstep hput2 hlen hW6 hbt6 hbk6 hput hfin H5 k2 f2
          go_roundg (M - (k + 1))
          case measure => omega
          case rel => exact ⟨k + 1, by omega, rfl, by go_num, H6.out.1, H6.out.2⟩
      · go_upto_region 10 with fail
        obtain ⟨hbt4, hbk4, hx, hstep, hlen, hput1⟩ := H4.out
        obtain ⟨W5, hW5⟩ : ∃ W5, w4.setCell ⟨w.heap.size + 1, q * 2, none⟩ (.bool true) = W5 := ⟨_, rfl⟩
        have hbt5 : Bt (w.heap.size + 1) w2 W5 := by rw [← hW5]; exact hbt4.set_ (q * 2) _
        have hbk5 := Blk.set_ hbk4 (q * 2) (.bool true)
        have hput := hput1 true
        rw [if_pos rfl, Nat.add_zero] at hput
        rw [List.setIfInBounds_toArray, hput, hW5] at hbk5
        have hx5 : (S0.set q (true, x2))[q]? = some (true, x2) := by rw [List.getElem?_set, if_pos rfl, if_pos (by omega)]
        have hput2 := fun b => sdV_put (S0.set q (true, x2)) q 1 b _ (by rw [List.length_set]; omega) (by omega) hx5
        obtain ⟨c1, c2⟩ := sdV_at _ _ _ hx5
        have k2 : W5.cell? ⟨w.heap.size + 1, q * 2 + 1, none⟩ = some (.bool x2) := (hbk5.cell (q * 2 + 1)).trans (by rw [List.getElem?_toArray, c2])
        have f2 := hbk5.frozen (q * 2 + 1)
        rw [hW5]
        have H5 := Lib.hid (And.intro hbt5 (And.intro hbk5 (And.intro hstep (And.intro hput2 hlen))))
        clear hbt4 hbk4 hx hstep hlen hput1 hW5 hbt5 hbk5 hput hx5 hput2 c1 c2 H4 k1 f1
        cases x2
        · go_wp2_with fail
          obtain ⟨hbt5, hbk5, hstep, hput2, hlen⟩ := H5.out
          obtain ⟨W6, hW6⟩ : ∃ W6, W5.setCell ⟨w.heap.size + 1, q * 2 + 1, none⟩ (.bool (!m)) = W6 := ⟨_, rfl⟩
          have hbt6 : Bt (w.heap.size + 1) w2 W6 := by rw [← hW6]; exact hbt5.set_ (q * 2 + 1) _
          have hbk6 := Blk.set_ hbk5 (q * 2 + 1) (.bool (!m))
          have hput := hput2 (!m)
          rw [if_neg (by decide)] at hput
          rw [List.setIfInBounds_toArray, hput, hW6, List.set_set] at hbk6
          have hfin : S0.set q (true, (!m)) = sidesL N (blL (l.take (k + 1))) := by rw [hstep]; simp
          rw [hfin] at hbk6
          rw [hW6]
          have H6 := Lib.hid (And.intro hbt6 hbk6)
          clear hbt5 hbk5 hstep hput2 hlen hW6 hbt6 hbk6 hput hfin H5 k2 f2
          go_roundg (M - (k + 1))
          case measure => omega
          case rel => exact ⟨k + 1, by omega, rfl, by go_num, H6.out.1, H6.out.2⟩
        · go_wp2_with fail
          obtain ⟨hbt5, hbk5, hstep, hput2, hlen⟩ := H5.out
          obtain ⟨W6, hW6⟩ : ∃ W6, W5.setCell ⟨w.heap.size + 1, q * 2 + 1, none⟩ (.bool true) = W6 := ⟨_, rfl⟩
          have hbt6 : Bt (w.heap.size + 1) w2 W6 := by rw [← hW6]; exact hbt5.set_ (q * 2 + 1) _
          have hbk6 := Blk.set_ hbk5 (q * 2 + 1) (.bool true)
          have hput := hput2 true
          rw [if_neg (by decide)] at hput
          rw [List.setIfInBounds_toArray, hput, hW6, List.set_set] at hbk6
          have hfin : S0.set q (true, true) = sidesL N (blL (l.take (k + 1))) := by rw [hstep]; simp
          rw [hfin] at hbk6
          rw [hW6]
          have H6 := Lib.hid (And.intro hbt6 hbk6)
          clear hbt5 hbk5 hstep hput2 hlen hW6 hbt6 hbk6 hput hfin H5 k2 f2
          go_roundg (M - (k + 1))
          case measure => omega
          case rel => exact ⟨k + 1, by omega, rfl, by go_num, H6.out.1, H6.out.2⟩
    · obtain rfl : k = M := by omega
      rw [List.take_of_length_le (by rw [HO.out.2.2.2.1]; exact Nat.le_refl _)] at hbk
      have hfin : Below w.heap.size w wr := HO.out.1.trans (But.below hbt HO.out.1.size (by intro j hj; omega))
      have hown := own_blkR (base := w.heap.size) (n := N) (sz := 2) hbk (by omega) (by simp only [maxLen]; omega) (by rw [sdV_len, sides_len])
      have H := Lib.hid (And.intro hfin hown)
      clear hbt hbk hfin hown
      go_wp2_with fail
      go_ret
      exact ⟨H.out.1, _, rfl, by rw [HL2.out]; exact H.out.2⟩
end Go.Proofs.YtmagljnlfponaaaGreat.R

/- SortP -/
namespace Go.Proofs.YtmagljnlfponaaaGreat.La
open Go.RowKit Go.Proofs.YtmagljnlfponaaaGreat.B Go.Op
set_option linter.unusedVariables false
set_option linter.unusedSimpArgs false

theorem less_irrefl : ∀ a : List UInt8, bytesLess a a = false
  | [] => rfl
  | a :: x => by simp [bytesLess, less_irrefl x]
theorem less_trans : ∀ a b c : List UInt8, bytesLess a b = true → bytesLess b c = true → bytesLess a c = true
  | _, [], _, h, _ => by cases ‹List UInt8› <;> simp [bytesLess] at h
  | [], b :: y, [], _, h => by simp [bytesLess] at h
  | [], b :: y, c :: z, _, _ => rfl
  | a :: x, b :: y, [], _, h => by simp [bytesLess] at h
  | a :: x, b :: y, c :: z, h1, h2 => by
    simp only [bytesLess, Bool.or_eq_true, decide_eq_true_eq, Bool.and_eq_true, beq_iff_eq] at *
    rcases h1 with h1 | ⟨rfl, h1⟩
    · rcases h2 with h2 | ⟨rfl, h2⟩
      · exact .inl (UInt8.lt_trans h1 h2)
      · exact .inl h1
    · rcases h2 with h2 | ⟨rfl, h2⟩
      · exact .inl h2
      · exact .inr ⟨rfl, less_trans x y z h1 h2⟩
theorem less_tri : ∀ a b : List UInt8, bytesLess a b = false → bytesLess b a = false → a = b
  | [], [], _, _ => rfl
  | [], b :: y, h, _ => by simp [bytesLess] at h
  | a :: x, [], _, h => by simp [bytesLess] at h
  | a :: x, b :: y, h1, h2 => by
    simp only [bytesLess, Bool.or_eq_false_iff, decide_eq_false_iff_not, Bool.and_eq_false_iff, beq_eq_false_iff_ne] at *
    have e : a = b := UInt8.le_antisymm (UInt8.not_lt.1 h2.1) (UInt8.not_lt.1 h1.1)
    subst e
    rw [less_tri x y (h1.2.resolve_left (by simp)) (h2.2.resolve_left (by simp))]

/-- By module, line, column, rule. -/
def aheadB (a b : Site) : Bool :=
  if a.mo ≠ b.mo then bytesLess a.mo.toList b.mo.toList else if a.li ≠ b.li then decide (a.li < b.li) else if a.co ≠ b.co then decide (a.co < b.co) else decide (a.ru < b.ru)
/-- And by the label. -/
def pLt (a b : Site × Int) : Bool :=
  if a.1.mo ≠ b.1.mo then bytesLess a.1.mo.toList b.1.mo.toList else if a.1.li ≠ b.1.li then decide (a.1.li < b.1.li) else if a.1.co ≠ b.1.co then decide (a.1.co < b.1.co) else
    if a.1.ru ≠ b.1.ru then decide (a.1.ru < b.1.ru) else decide (a.2 < b.2)
theorem mo_ext {a b : ByteArray} (h : a.toList = b.toList) : a = b := by
  rw [Lib.toList_data, Lib.toList_data] at h
  exact ByteArray.ext (Array.toList_inj.1 h)
theorem pLt_irrefl (a : Site × Int) : pLt a a = false := by simp [pLt]
theorem pLt_trans {a b c : Site × Int} (h1 : pLt a b = true) (h2 : pLt b c = true) : pLt a c = true := by
  unfold pLt at *
  by_cases m1 : a.1.mo = b.1.mo <;> by_cases m2 : b.1.mo = c.1.mo
  · simp only [m1, m2, ne_eq, not_true_eq_false, if_false] at *
    by_cases l1 : a.1.li = b.1.li <;> by_cases l2 : b.1.li = c.1.li <;> by_cases l3 : a.1.li = c.1.li <;> simp_all <;> try omega
    by_cases c1 : a.1.co = b.1.co <;> by_cases c2 : b.1.co = c.1.co <;> by_cases c3 : a.1.co = c.1.co <;> simp_all <;> try omega
    by_cases r1 : a.1.ru = b.1.ru <;> by_cases r2 : b.1.ru = c.1.ru <;> by_cases r3 : a.1.ru = c.1.ru <;> simp_all <;> omega
  · have m3 : a.1.mo ≠ c.1.mo := by rw [m1]; exact m2
    simp only [m3, m2, ne_eq, not_false_eq_true, if_true, if_pos] at *
    rw [m1]; exact h2
  · have m3 : a.1.mo ≠ c.1.mo := by rw [← m2]; exact m1
    simp only [m3, m1, ne_eq, not_false_eq_true, if_true, if_pos] at *
    rw [← m2]; exact h1
  · simp only [m1, m2, ne_eq, not_false_eq_true, if_true, if_pos] at h1 h2
    have h3 := less_trans _ _ _ h1 h2
    have m3 : a.1.mo ≠ c.1.mo := by intro e; rw [e] at h3; rw [less_irrefl] at h3; cases h3
    simp only [m3, ne_eq, not_false_eq_true, if_true, if_pos]; exact h3
theorem pLt_tri {a b : Site × Int} (h1 : pLt a b = false) (h2 : pLt b a = false) : a.2 = b.2 ∧ a.1.mo = b.1.mo ∧ a.1.li = b.1.li ∧ a.1.co = b.1.co ∧ a.1.ru = b.1.ru := by
  unfold pLt at *
  by_cases m1 : a.1.mo = b.1.mo
  · simp only [m1, ne_eq, not_true_eq_false, if_false] at *
    by_cases l1 : a.1.li = b.1.li
    · by_cases c1 : a.1.co = b.1.co
      · by_cases r1 : a.1.ru = b.1.ru
        · simp_all; omega
        · have r2 : ¬ b.1.ru = a.1.ru := fun h => r1 h.symm
          simp_all; omega
      · have c2 : ¬ b.1.co = a.1.co := fun h => c1 h.symm
        simp_all; omega
    · have l2 : ¬ b.1.li = a.1.li := fun h => l1 h.symm
      simp_all; omega
  · have m2 : ¬ b.1.mo = a.1.mo := fun h => m1 h.symm
    simp only [m1, m2, ne_eq, not_false_eq_true, if_true, if_pos] at h1 h2
    exact absurd (mo_ext (less_tri _ _ h1 h2)) m1
theorem pLt_asymm {a b : Site × Int} (h1 : pLt a b = true) : pLt b a = false := by
  cases h : pLt b a with
  | false => rfl
  | true => have := pLt_trans h1 h; rw [pLt_irrefl] at this; cases this
theorem ahead_pLt {a b : Site} {i j : Int} (h : j < i) : aheadB a b = pLt (a, i) (b, j) := by
  unfold aheadB pLt
  by_cases r : a.ru = b.ru
  · simp only [r, ne_eq, not_true_eq_false, if_false, Int.lt_irrefl, decide_false, show ¬ i < j by omega]
  · simp only [r, ne_eq, not_false_eq_true, if_true, if_pos]

/-- The place of an insertion, from the right. -/
def posF (p : Nat → Bool) : Nat → Nat
  | 0 => 0
  | k + 1 => if p k = true then posF p k else k + 1
theorem posF_le (p : Nat → Bool) : ∀ k, posF p k ≤ k
  | 0 => Nat.le_refl _
  | k + 1 => by unfold posF; split; have := posF_le p k; omega; omega
theorem posF_hi (p : Nat → Bool) : ∀ k j, posF p k ≤ j → j < k → p j = true
  | 0, j, _, h => by omega
  | k + 1, j, h1, h2 => by
    unfold posF at h1
    split at h1
    · rename_i hp
      by_cases e : j = k
      · subst e; exact hp
      · exact posF_hi p k j h1 (by omega)
    · omega
theorem posF_lo (p : Nat → Bool) : ∀ k, posF p k = 0 ∨ p (posF p k - 1) = false
  | 0 => .inl rfl
  | k + 1 => by
    unfold posF
    split
    · exact posF_lo p k
    · rename_i h; right; simpa using h

/-- Labels l, the next one put in. S: the site of a label. -/
def putIn (S : Nat → Site) (l : List Nat) (i : Nat) : List Nat :=
  let at_ := posF (fun k => aheadB (S i) (S (l.getD k 0))) l.length
  l.take at_ ++ i :: l.drop at_
/-- The answer's way, up to label n. -/
def byIns (S : Nat → Site) : Nat → List Nat
  | 0 => []
  | n + 1 => putIn S (byIns S n) (n + 1)
def kLt (S : Nat → Site) (a b : Nat) : Prop := pLt (S a, (a : Int)) (S b, (b : Int)) = true
theorem putIn_perm (S : Nat → Site) (l : List Nat) (i : Nat) : (putIn S l i).Perm (i :: l) := by
  unfold putIn
  exact (List.perm_middle).trans (by rw [List.take_append_drop])
theorem byIns_perm (S : Nat → Site) : ∀ n, (byIns S n).Perm ((List.range n).map (· + 1)).reverse
  | 0 => by simp [byIns]
  | n + 1 => by
    rw [List.range_succ, List.map_append, List.reverse_append]
    exact (putIn_perm S _ _).trans (List.Perm.cons _ (byIns_perm S n))
theorem byIns_len (S : Nat → Site) (n : Nat) : (byIns S n).length = n := by
  have := (byIns_perm S n).length_eq; simpa using this
theorem byIns_mem {S : Nat → Site} {n a : Nat} (h : a ∈ byIns S n) : 1 ≤ a ∧ a ≤ n := by
  have := (byIns_perm S n).mem_iff.1 h
  simp at this; omega
theorem putIn_sorted {S : Nat → Site} {l : List Nat} {i : Nat} (h : l.Pairwise (kLt S)) (hl : ∀ a ∈ l, a < i) : (putIn S l i).Pairwise (kLt S) := by
  unfold putIn
  obtain ⟨P, hP⟩ : ∃ P, posF (fun k => aheadB (S i) (S (l.getD k 0))) l.length = P := ⟨_, rfl⟩
  have h1 := posF_hi (fun k => aheadB (S i) (S (l.getD k 0))) l.length
  have h2 := posF_lo (fun k => aheadB (S i) (S (l.getD k 0))) l.length
  have h3 := posF_le (fun k => aheadB (S i) (S (l.getD k 0))) l.length
  simp only [hP] at h1 h2 h3 ⊢
  have hi : ∀ j (hj : j < l.length), P ≤ j → kLt S i l[j] := by
    intro j hj hPj
    have := h1 j hPj hj
    rw [List.getD_eq_getElem?_getD, List.getElem?_eq_getElem hj, Option.getD_some, ahead_pLt (i := i) (j := l[j]) (by have := hl l[j] (List.getElem_mem hj); omega)] at this
    exact this
  have hlo : ∀ j (hj : j < l.length), j < P → kLt S l[j] i := by
    intro j hj hjP
    have hq : P - 1 < l.length := by omega
    have hz := h2.resolve_left (by omega)
    rw [List.getD_eq_getElem?_getD, List.getElem?_eq_getElem hq, Option.getD_some, ahead_pLt (i := i) (j := l[P - 1]) (by have := hl l[P - 1] (List.getElem_mem hq); omega)] at hz
    have hlast : kLt S l[P - 1] i := by
      cases hc : pLt (S l[P - 1], (l[P - 1] : Int)) (S i, (i : Int)) with
      | true => exact hc
      | false => have := (pLt_tri hc hz).1; have := hl l[P - 1] (List.getElem_mem hq); simp at *; omega
    by_cases e : j = P - 1
    · subst e; exact hlast
    · exact pLt_trans (List.pairwise_iff_getElem.1 h j (P - 1) hj hq (by omega)) hlast
  rw [List.pairwise_append]
  refine ⟨h.sublist (List.take_sublist _ _), ?_, ?_⟩
  · rw [List.pairwise_cons]
    refine ⟨fun a ha => ?_, h.sublist (List.drop_sublist _ _)⟩
    obtain ⟨j, hj, rfl⟩ := List.mem_iff_getElem.1 ha
    rw [List.getElem_drop]
    exact hi _ _ (by omega)
  · intro a ha b hb
    obtain ⟨j, hj, rfl⟩ := List.mem_iff_getElem.1 ha
    have hjP : j < P := by rw [List.length_take] at hj; omega
    rw [List.getElem_take]
    have ha' := hlo j (by omega) hjP
    rcases List.mem_cons.1 hb with rfl | hb
    · exact ha'
    · obtain ⟨k, hk, rfl⟩ := List.mem_iff_getElem.1 hb
      rw [List.getElem_drop]
      exact pLt_trans ha' (hi _ _ (by omega))
theorem byIns_sorted (S : Nat → Site) : ∀ n, (byIns S n).Pairwise (kLt S)
  | 0 => List.Pairwise.nil
  | n + 1 => putIn_sorted (byIns_sorted S n) fun a ha => by have := byIns_mem ha; omega
/-- One list alone is sorted. -/
theorem sorted_one {S : Nat → Site} {n : Nat} {l : List Nat} (hp : l.Perm ((List.range n).map (· + 1))) (hs : l.Pairwise (kLt S)) : l = byIns S n := by
  refine List.Perm.eq_of_pairwise (le := kLt S) (fun a b _ _ h1 h2 => ?_) hs (byIns_sorted S n) (hp.trans ((byIns_perm S n).trans (List.reverse_perm _)).symm)
  have := pLt_asymm h1
  rw [kLt] at h2; rw [h2] at this; cases this
end Go.Proofs.YtmagljnlfponaaaGreat.La
