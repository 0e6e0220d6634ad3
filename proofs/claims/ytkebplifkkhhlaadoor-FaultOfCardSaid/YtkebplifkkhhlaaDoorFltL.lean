/- FaultOf returns true: the walk. -/
import Derived.Test.YtkebplifkkhhlaaDoorFltK
namespace Go.Proofs.YtkebplifkkhhlaaDoor.F
open Go.RowKit Go.Proofs.YtkebplifkkhhlaaDoor.B Go.Proofs.YtkebplifkkhhlaaDoor.La
set_option linter.unusedVariables false
set_option linter.unusedSimpArgs false

set_option maxRecDepth 100000 in
set_option maxHeartbeats 8000000 in
theorem faultOf_walk (l : List Site) (A : Option Addr) (c : Nat) (m : List Ob) (B : Option Addr) (c2 : Nat) (st : Int) (w : World) (hl : l.length ≤ 9223372036854775807) (hm : m.length ≤ 9223372036854775807)
    (hok : ∀ s ∈ l, s.mo.size ≤ 140737488351232 ∧ s.ex.size ≤ 140737488351232) (hn : ∀ o ∈ m, -9223372036854775808 ≤ o.n ∧ o.n ≤ 9223372036854775807)
    (hA : Sl w w.heap.size 5 A l.length (cells l)) (hB : Sl w w.heap.size 3 B m.length (obs m)) (hg : Han w) (ht : Tab w) :
    Calls Tryd.prog 3 #[.slice A l.length c, .slice B m.length c2, .int .i64 st] w fun ev w' => ev = .returned (.bool true) ∧ Below w.heap.size w w' := by
  have HG := Lib.hid hg
  have HT := Lib.hid ht
  have HA : Hid (∀ W, Below w.heap.size w W → Sl W W.heap.size 5 A l.length (cells l)) := Lib.hid fun W hb => (hA.below hb).more hb.size
  have HB : Hid (∀ W, Below w.heap.size w W → Sl W W.heap.size 3 B m.length (obs m)) := Lib.hid fun W hb => (hB.below hb).more hb.size
  have HM := Lib.hid (much_any l A c m B c2 w hl hm hok hA)
  have HOK := Lib.hid (wn_ok hok hn)
  have HN := Lib.hid hn
  have HWK : Hid (∀ W, Below w.heap.size w W → Calls Tryd.prog 10 #[] W fun ev w' => ev = .returned (.bool true) ∧ Below W.heap.size W w') := Lib.hid fun W hb => works_any W (hg.below hb) (ht.below hb)
  clear hg ht hA hB hok hn
  go_enter Tryd.func3, Tryd.ntmps3
  go_wp2_with fail
  (refine HM.out.mono ?_); rintro ev w1 ⟨v, rfl, hv, hb1⟩
  clear HM
  cases v with
  | true =>
    clear hv HA HB HN HOK
    go_wp2_with fail
    (refine (HWK.out _ hb1).mono ?_); rintro ev w2 ⟨rfl, hb2⟩
    go_wp2_with fail
    go_ret
    exact ⟨rfl, bl hb1 hb2⟩
  | false =>
    obtain ⟨hl16, hm16, _⟩ := hv rfl
    clear hv hl hm
    have HB1 := Lib.hid hb1
    clear hb1
    go_wp2_with fail
    (refine (copySites_any l A c _ hl16 (HA.out _ HB1.out)).mono ?_); rintro ev w2 ⟨A', c', rfl, hs', hb⟩
    have HB2 := Lib.hid (bl HB1.out hb)
    have HS : Hid (∀ W, Below w2.heap.size w2 W → Sl W W.heap.size 5 A' l.length (cells l)) := Lib.hid fun W hb => (hs'.below hb).more hb.size
    clear hs' hb
    go_wp2_with fail
    (refine (copySeen_any m B c2 _ hm16 (HB.out _ HB2.out)).mono ?_); rintro ev w3 ⟨B', c'', rfl, hs', hb⟩
    have HB23 := Lib.hid hb
    have HB3 := Lib.hid (bl HB2.out hb)
    have hof := of_any l A' c' m B' c'' st 0 0 w3 (by omega) (by omega) (HS.out _ hb) hs' HN.out
    simp only [resV] at hof
    have HOF := Lib.hid hof
    clear hof hs' hb
    go_wp2_with fail
    (refine HOF.out.mono ?_); rintro ev w4 ⟨e, rfl, hat, his, hb⟩
    have HB24 := Lib.hid (bl HB23.out hb)
    have HB4 := Lib.hid (bl HB3.out hb)
    have HE : Hid (∀ W, Below w4.heap.size w4 W → e.At W) := Lib.hid fun W hb => Er.At.below hb hat
    have HF := Lib.hid (fits_of his HOK.out)
    have HIS := Lib.hid his
    have hrf := refOf_any l A c m B c2 w4 (by omega) (by omega) (HA.out _ HB4.out) (HB.out _ HB4.out) HN.out
    obtain ⟨D, hD⟩ : ∃ D, wnOf l m = D := ⟨_, rfl⟩
    rw [hD] at hrf HF HIS HOK
    obtain ⟨x1, x2, i3, i4, i5, x6, hC⟩ := wnC_face D
    obtain ⟨L, hL⟩ : ∃ L, wnL D = L := ⟨_, rfl⟩
    obtain ⟨K, hK⟩ : ∃ K, wnK D = K := ⟨_, rfl⟩
    have hV : wnV D = .agg #[.int .i64 (wnL D), .string x1, .string x2, .int .i64 i3, .int .i64 i4, .int .i64 i5, .string x6, .int .i64 (wnK D)] := by unfold wnV; rw [hC]
    rw [hL, hK] at hV
    rw [hV] at hrf
    have HRF := Lib.hid hrf
    have HV := Lib.hid hV
    have HL := Lib.hid hL
    have HK := Lib.hid hK
    obtain ⟨z, hz⟩ : ∃ z, e.val = z := ⟨_, rfl⟩
    have HZ := Lib.hid hz
    rw [hz]
    clear hb hat his hrf hD hC hL hK hV hz HOF HN
    go_wp2_with fail
    (refine HRF.out.mono ?_); rintro ev w5 ⟨rfl, hb⟩
    have HB25 := Lib.hid (bl HB24.out hb)
    have HB45 := Lib.hid hb
    have HB5 := Lib.hid (bl HB4.out hb)
    clear hb HRF
    go_wp2_with fail
    (refine (eqSites_any l A' A c' c _ (by omega) (HS.out _ (bal HB25.out _)) (HA.out _ (bal HB5.out _))).mono ?_); rintro ev w6 ⟨rfl, hb6⟩
    obtain ⟨W5, hW5⟩ : ∃ W5, w5.alloc (.cells #[.int .i64 L, .string x1, .string x2, .int .i64 i3, .int .i64 i4, .int .i64 i5, .string x6, .int .i64 K] 39) = W5 := ⟨_, rfl⟩
    have hblk : Blk W5 w5.heap.size 39 #[.int .i64 L, .string x1, .string x2, .int .i64 i3, .int .i64 i4, .int .i64 i5, .string x6, .int .i64 K] := by rw [← hW5]; exact Blk.new _ _ _
    have HQ : Hid (∀ W', Below w6.heap.size w6 W' → (W'.cell? ⟨w5.heap.size, 0, none⟩ = some (.int .i64 L) ∧ W'.cell? ⟨w5.heap.size, 1, none⟩ = some (.string x1) ∧ W'.cell? ⟨w5.heap.size, 2, none⟩ = some (.string x2) ∧ W'.cell? ⟨w5.heap.size, 3, none⟩ = some (.int .i64 i3) ∧ W'.cell? ⟨w5.heap.size, 4, none⟩ = some (.int .i64 i4) ∧ W'.cell? ⟨w5.heap.size, 5, none⟩ = some (.int .i64 i5) ∧ W'.cell? ⟨w5.heap.size, 6, none⟩ = some (.string x6) ∧ W'.cell? ⟨w5.heap.size, 7, none⟩ = some (.int .i64 K))) := Lib.hid fun W' hb => by
      rw [hW5] at hb6
      have hk := (hblk.below hb6 hblk.lt).below hb (Nat.lt_of_lt_of_le hblk.lt hb6.size)
      exact ⟨by rw [hk.cell 0]; rfl, by rw [hk.cell 1]; rfl, by rw [hk.cell 2]; rfl, by rw [hk.cell 3]; rfl, by rw [hk.cell 4]; rfl, by rw [hk.cell 5]; rfl, by rw [hk.cell 6]; rfl, by rw [hk.cell 7]; rfl⟩
    have HB46 := Lib.hid (bl (bal HB45.out _) hb6)
    have HB6 := Lib.hid (bl (bal HB5.out _) hb6)
    clear hb6 hblk hW5 HB HA HS HB1 HB2 HB3 HB23 HB24 HB25
    have hlb := label_any e w6 (HG.out.below HB6.out) (HE.out _ HB46.out)
    have hF := HF.out
    rw [hF.lab, hF.is, HL.out, HZ.out] at hlb
    have HCD : Hid (∀ W, Below w6.heap.size w6 W → Calls Tryd.prog 17 #[z] W fun ev w' => ev = .returned (.int .i64 K) ∧ Below W.heap.size W w') := Lib.hid fun W hb => by
      have h := code_any e W (HG.out.below (bl HB6.out hb)) (HE.out _ (bl HB46.out hb))
      rw [hF.code, HK.out, HZ.out] at h; exact h
    have HDF : Hid (∀ W, Below w6.heap.size w6 W → Calls Tryd.prog 18 #[z] W fun ev w' => ∃ A'' c'', ev = .returned (.slice A'' 0 c'') ∧ Below W.heap.size W w') := Lib.hid fun W hb => by
      have h := defs_any e W (HE.out _ (bl HB46.out hb)) (by have := hF.dep; omega)
      rw [HZ.out] at h
      refine h.mono ?_
      rintro ev w' ⟨v, rfl, ho, hb'⟩
      obtain ⟨A'', c'', rfl, _⟩ := Sl.of_own ho
      rw [hF.defs]
      exact ⟨A'', c'', rfl, hb'⟩
    clear hF
    go_wp2_with fail
    (refine hlb.mono ?_); rintro ev w7 ⟨rfl, hb7⟩
    have HB67 := Lib.hid hb7
    clear hb7 hlb
    have HQ7 : Hid (∀ W', Below w7.heap.size w7 W' → (W'.cell? ⟨w5.heap.size, 0, none⟩ = some (.int .i64 L) ∧ W'.cell? ⟨w5.heap.size, 1, none⟩ = some (.string x1) ∧ W'.cell? ⟨w5.heap.size, 2, none⟩ = some (.string x2) ∧ W'.cell? ⟨w5.heap.size, 3, none⟩ = some (.int .i64 i3) ∧ W'.cell? ⟨w5.heap.size, 4, none⟩ = some (.int .i64 i4) ∧ W'.cell? ⟨w5.heap.size, 5, none⟩ = some (.int .i64 i5) ∧ W'.cell? ⟨w5.heap.size, 6, none⟩ = some (.string x6) ∧ W'.cell? ⟨w5.heap.size, 7, none⟩ = some (.int .i64 K))) := Lib.hid fun W' hb => HQ.out _ (bl HB67.out hb)
    go_upto_region 9 with fail
    go_region_held3 (fun W' => W'.cell? ⟨w5.heap.size, 0, none⟩ = some (.int .i64 L) ∧ W'.cell? ⟨w5.heap.size, 1, none⟩ = some (.string x1) ∧ W'.cell? ⟨w5.heap.size, 2, none⟩ = some (.string x2) ∧ W'.cell? ⟨w5.heap.size, 3, none⟩ = some (.int .i64 i3) ∧ W'.cell? ⟨w5.heap.size, 4, none⟩ = some (.int .i64 i4) ∧ W'.cell? ⟨w5.heap.size, 5, none⟩ = some (.int .i64 i5) ∧ W'.cell? ⟨w5.heap.size, 6, none⟩ = some (.string x6) ∧ W'.cell? ⟨w5.heap.size, 7, none⟩ = some (.int .i64 K))
      (first
        | exact HQ7.out _ (Below.refl _ _).drew
        | exact HQ7.out _ hbk
        | exact HQ7.out _ hbd
        | go_keep)
      ((first
        | (go_at_call 17; refine (HCD.out _ (bl HB67.out (Below.refl _ _).drew)).mono ?_; rintro ev wk ⟨rfl, hbk0⟩; have hbk : Below w7.heap.size w7 wk := bl (Below.refl _ _).drew hbk0; clear hbk0)
        | (go_at_call 18; refine (HDF.out _ (bl HB67.out hbk)).mono ?_; rintro ev wd ⟨Ad, cd, rfl, hbd0⟩; have hbd : Below w7.heap.size w7 wd := bl hbk hbd0; clear hbd0)))
    clear HCD HDF
    have HBd := Lib.hid hbd
    have HBX := Lib.hid (bl HB6.out (bl HB67.out hbd))
    have HB4X := Lib.hid (bl HB46.out (bl HB67.out hbd))
    have HQ8 : Hid (∀ W', Below wd.heap.size wd W' → (W'.cell? ⟨w5.heap.size, 0, none⟩ = some (.int .i64 L) ∧ W'.cell? ⟨w5.heap.size, 1, none⟩ = some (.string x1) ∧ W'.cell? ⟨w5.heap.size, 2, none⟩ = some (.string x2) ∧ W'.cell? ⟨w5.heap.size, 3, none⟩ = some (.int .i64 i3) ∧ W'.cell? ⟨w5.heap.size, 4, none⟩ = some (.int .i64 i4) ∧ W'.cell? ⟨w5.heap.size, 5, none⟩ = some (.int .i64 i5) ∧ W'.cell? ⟨w5.heap.size, 6, none⟩ = some (.string x6) ∧ W'.cell? ⟨w5.heap.size, 7, none⟩ = some (.int .i64 K))) := Lib.hid fun W' hb => HQ7.out _ (bl HBd.out hb)
    have q7 := (HQ8.out wd (Below.refl _ _)).2.2.2.2.2.2.2
    clear hbd hbk HQ HQ7
    by_cases hk0 : K = 0
    · have hno := HF.out.nil (by rw [HK.out]; exact hk0)
      have hz : z = .nilIface := by rw [← HZ.out, hno]; rfl
      subst hz
      subst hk0
      clear hno
      go_wp2_with fail
      (refine (HWK.out _ HBX.out).mono ?_); rintro ev w9 ⟨rfl, hb9⟩
      go_wp2_with fail
      go_ret
      exact ⟨rfl, bl HBX.out hb9⟩
    · have hk1 : (K == 0) = false := by simpa using hk0
      obtain ⟨hno, hcd⟩ := HF.out.some (by rw [HK.out]; exact hk0)
      rw [HK.out] at hcd
      obtain ⟨Dz, zz, hzz⟩ := Er.face hno
      rw [HZ.out] at hzz
      subst hzz
      have HTX : Hid (∀ W, Below wd.heap.size wd W → Calls Tryd.prog 19 #[.iface Dz zz] W fun ev w' => ev = .returned (.string (wnT D)) ∧ Below W.heap.size W w') := Lib.hid fun W hb => by
        have h := text_any e W (HE.out _ (bl HB4X.out hb)) (HT.out.below (bl HBX.out hb)) HF.out.tells
        rw [HF.out.tx, HZ.out] at h; exact h
      have HRT : Hid (∀ W, Below wd.heap.size wd W → Calls Tryd.prog 20 #[.agg #[.int .i64 L, .string x1, .string x2, .int .i64 i3, .int .i64 i4, .int .i64 i5, .string x6, .int .i64 K]] W fun ev w' => ev = .returned (.string (wnT D)) ∧ Below W.heap.size W w') := Lib.hid fun W hb => by
        have h := refText_any D W (HT.out.below (bl HBX.out hb)) HOK.out (by rw [HK.out]; exact hk0)
        rw [HV.out] at h; exact h
      have HSH : Hid (∀ W, Below wd.heap.size wd W → Calls Tryd.prog 21 #[.iface Dz zz, .agg #[.int .i64 L, .string x1, .string x2, .int .i64 i3, .int .i64 i4, .int .i64 i5, .string x6, .int .i64 K]] W fun ev w' => ev = .returned (.bool true) ∧ Below W.heap.size W w') := Lib.hid fun W hb => by
        have h := shows_any e D W (HG.out.below (bl HBX.out hb)) (HE.out _ (bl HB4X.out hb)) HIS.out HOK.out (by rw [HK.out]; exact hk0)
        rw [HV.out, HZ.out] at h; exact h
      have HI : Hid (∀ W, Below wd.heap.size wd W → Calls Tryd.prog 22 #[.iface Dz zz, .iface 37 (.int .i64 K)] W fun ev w' => ev = .returned (.bool true) ∧ W = w') := Lib.hid fun W hb => by
        have h := Is_code e K W (HE.out _ (bl HB4X.out hb))
        rw [hcd, HZ.out] at h
        refine h.mono ?_
        rintro ev w' ⟨rfl, rfl⟩
        exact ⟨by simp, rfl⟩
      obtain ⟨T, hT⟩ : ∃ T, wnT D = T := ⟨_, rfl⟩
      rw [hT] at HTX HRT
      clear hT hno hcd hk0 HF HV HL HK HZ HIS HOK HE
      go_upto_region 13 with fail
      go_region_held3 (fun W' => W'.cell? ⟨w5.heap.size, 0, none⟩ = some (.int .i64 L) ∧ W'.cell? ⟨w5.heap.size, 1, none⟩ = some (.string x1) ∧ W'.cell? ⟨w5.heap.size, 2, none⟩ = some (.string x2) ∧ W'.cell? ⟨w5.heap.size, 3, none⟩ = some (.int .i64 i3) ∧ W'.cell? ⟨w5.heap.size, 4, none⟩ = some (.int .i64 i4) ∧ W'.cell? ⟨w5.heap.size, 5, none⟩ = some (.int .i64 i5) ∧ W'.cell? ⟨w5.heap.size, 6, none⟩ = some (.string x6) ∧ W'.cell? ⟨w5.heap.size, 7, none⟩ = some (.int .i64 K))
        (first
          | exact HQ8.out _ (Below.refl _ _).drew
          | exact HQ8.out _ k4
          | exact HQ8.out _ k3
          | exact HQ8.out _ k2
          | exact HQ8.out _ k1
          | go_keep)
        ((first
          | (go_at_call 19; refine (HTX.out _ (Below.refl _ _).drew).mono ?_; rintro ev v1 ⟨rfl, k0⟩; have k1 : Below wd.heap.size wd v1 := bl (Below.refl _ _).drew k0; clear k0)
          | (go_at_call 20; refine (HRT.out _ k1).mono ?_; rintro ev v2 ⟨rfl, k0⟩; have k2 : Below wd.heap.size wd v2 := bl k1 k0; clear k0)
          | (go_at_call 21; refine (HSH.out _ k2).mono ?_; rintro ev v3 ⟨rfl, k0⟩; have k3 : Below wd.heap.size wd v3 := bl k2 k0; clear k0)
          | (go_at_call 22; refine (HI.out _ k3).mono ?_; rintro ev vi ⟨rfl, rfl⟩)
          | (go_at_call 10; refine (HWK.out _ (bl HBX.out k3)).mono ?_; rintro ev v4 ⟨rfl, k0⟩; have k4 : Below wd.heap.size wd v4 := bl k3 k0; clear k0)))
      go_wp2_with fail
      go_ret
      exact ⟨rfl, bl HBX.out k4⟩
end Go.Proofs.YtkebplifkkhhlaaDoor.F
