/- Contract: Goes of the answer, at a part. Printed by gen_cpb.py. -/
import Derived.Test.YtkebplifkkhhlaaDoorCpA
namespace Go.Proofs.YtkebplifkkhhlaaDoor.C
open Go.RowKit Go.Proofs.YtkebplifkkhhlaaDoor.B
open Go.Proofs.YtkebplifkkhhlaaDoor.T (Ty str strV arB ar bs str_q byte_eq str_head part04_any)
set_option linter.unusedVariables false
set_option linter.unusedSimpArgs false

theorem opsO_is {h : Int} (hh : headB h = true) : (opsO h == 1) = false ∧ (opsO h == 7) = false ∧ (opsO h == 3) = (h == 62) ∧ (opsO h == 6) = (h == 120) := by
  rcases head_seven hh with rfl | rfl | rfl | rfl | rfl | rfl | rfl <;> exact ⟨rfl, rfl, rfl, rfl⟩
theorem not_q {S : Ty} {h : Int} (hh : headB h = true) (hhS : hI S.head = h) : S.head ≠ 63 := by
  have hsev := head_seven hh
  have h63 : hI 63 = 63 := rfl
  intro e; rw [e] at hhS; omega
theorem part_kk {S : Ty} {h : Int} {n m : Nat} (hh : headB h = true) (hS : S.ok) (h64 : S.code.length ≤ 64) (hhS : hI S.head = h) (hn : opsN h = n) (hm : m < n) (hx : h ≠ 120) (W : World) :
    Calls Tryd.prog 98 #[.string (str S), .int .i64 (m : Nat)] W fun e w' => e = .returned (.string (str (kkD S m))) ∧ W = w' := by
  have hl := kk_len hS (not_q hh hhS)
  rw [hhS, hn] at hl
  have hk : kk S = S.kids := by
    unfold kk
    rw [if_neg]
    intro e; rw [e] at hhS; exact hx hhS.symm
  refine part04_any S m (kkD S m) W hS h64 ?_
  unfold kkD
  rw [hk] at hl ⊢
  rw [List.getD_eq_getElem?_getD, List.getElem?_eq_getElem (by omega)]
  rfl
theorem part_kx {S : Ty} {m : Nat} (hS : S.ok) (h64 : S.code.length ≤ 64) (hhS : hI S.head = 120) (hm : m < 2) (W : World) :
    Calls Tryd.prog 98 #[.string (str S), .int .i64 0] W fun e w' => e = .returned (.string (str (kkD S m))) ∧ W = w' := by
  have hq : S.head ≠ 63 := not_q (h := 120) rfl hhS
  have hl := kk_len hS hq
  have he : S.head = 120 := by
    have h1 : (S.head.toNat : Int) = ((120 : UInt8).toNat : Int) := hhS
    have := byte_eq S.head 120
    rw [h1] at this
    simpa using this
  have hk : kk S = S.kids ++ S.kids := by unfold kk; rw [if_pos he]
  rw [hk, hhS, List.length_append] at hl
  have hl1 : S.kids.length = 1 := by have : opsN 120 = 2 := rfl; omega
  refine part04_any S 0 (kkD S m) W hS h64 ?_
  unfold kkD
  rw [hk]
  rcases e : S.kids with _ | ⟨k, r⟩
  · rw [e] at hl1; simp at hl1
  · rw [e] at hl1
    obtain rfl : r = [] := by simpa using hl1
    rcases m with _ | _ | m
    · rfl
    · rfl
    · omega

set_option maxRecDepth 100000 in
set_option maxHeartbeats 8000000 in
theorem goesR_partW (p : Int) (j : Bool) (h : Int) (a b : Co) (A : Option Addr) (n c : Nat) (C : Nat → Prop) (S T : Ty) (w : World) (hh : headB h = true) (hn : opsN h = n) (hs : TrS w C (.part p j h a b) (.slice A n c)) (hc1 : n ≤ c) (hc2 : c ≤ maxLen)
    (hS : S.ok) (hT : T.ok) (hS64 : S.code.length ≤ 64) (hT64 : T.code.length ≤ 64)
    (ih : ∀ m A c S T W, m < n → TrS W C (kidT a b m) (.slice A (kidT a b m).nk c) → S.ok → T.ok → S.code.length ≤ 64 → T.code.length ≤ 64 → Calls Tryd.prog 50 #[NV (kidT a b m).nd A (kidT a b m).nk c, .string (str S), .string (str T)] W fun e w' => e = .returned (.bool (goesC (kidT a b m) S T)) ∧ Below W.heap.size W w') :
    Calls Tryd.prog 50 #[.agg #[.int .i8 (opsO h), .int .i64 p, .bool j, .int .u8 h, .int .i64 0, .int .u8 0, .int .u8 0, .slice A n c], .string (str S), .string (str T)] w fun e w' => e = .returned (.bool (goesC (.part p j h a b) S T)) ∧ Below w.heap.size w w' := by
  obtain ⟨R, hR⟩ : ∃ R, goesC (.part p j h a b) S T = R := ⟨_, rfl⟩
  have hiff := goes_part (p := p) (j := j) (h := h) (a := a) (b := b) (S := S) (T := T)
  rw [hR, hn] at hiff
  rw [hR]
  have q1 := str_q hS
  have q2 := str_q hT
  have hg := fun W => groundR_any h W hh
  obtain ⟨g1, g2, g3, g4, _⟩ := gT_ok hh
  obtain ⟨o1, o7, o3, o6⟩ := opsO_is hh
  obtain ⟨op, hop⟩ : ∃ op, opsO h = op := ⟨_, rfl⟩
  rw [hop] at o1 o7 o3 o6 ⊢
  obtain ⟨W2, hW2⟩ : ∃ W2, w.alloc (.cells #[.int .i8 op, .int .i64 p, .bool j, .int .u8 h, .int .i64 0, .int .u8 0, .int .u8 0, .slice A n c] 105) = W2 := ⟨_, rfl⟩
  have hblk := Blk.new w 105 #[.int .i8 op, .int .i64 p, .bool j, .int .u8 h, .int .i64 0, .int .u8 0, .int .u8 0, .slice A n c]
  rw [hW2] at hblk
  have hb2 : Below w.heap.size w W2 := by rw [← hW2]; exact bal b0 _
  have HK := Lib.hid (show ∀ W', Below W2.heap.size W2 W' → Below w.heap.size w W' ∧ W'.cell? ⟨w.heap.size, 0, none⟩ = some (.int .i8 op) ∧ W'.cell? ⟨w.heap.size, 1, none⟩ = some (.int .i64 p) ∧ W'.cell? ⟨w.heap.size, 2, none⟩ = some (.bool j) ∧ W'.cell? ⟨w.heap.size, 3, none⟩ = some (.int .u8 h) ∧ W'.cell? ⟨w.heap.size, 7, none⟩ = some (.slice A n c) from fun W' hb' =>
    ⟨bl hb2 hb', ((hblk.below hb' hblk.lt).cell 0).trans rfl, ((hblk.below hb' hblk.lt).cell 1).trans rfl, ((hblk.below hb' hblk.lt).cell 2).trans rfl, ((hblk.below hb' hblk.lt).cell 3).trans rfl, ((hblk.below hb' hblk.lt).cell 7).trans rfl⟩)
  have HB2 := Lib.hid hb2
  have HW2 := Lib.hid hW2
  have HIFF := Lib.hid hiff
  have HG := Lib.hid hg
  have HIH := Lib.hid ih
  have HKV := Lib.hid hs
  have HN := Lib.hid hn
  have HO := Lib.hid (And.intro o3 o6)
  obtain ⟨_, k0, k1, k2, k3, k7⟩ := HK.out W2 b0
  have hnb : n ≤ 2 := by have := HN.out; have := opsN_le h; omega
  clear hblk hb2 hW2 hiff hg ih hs hR hn hop o3 o6
  by_cases hA : p = 0 ∨ S.head = 63
  · -- the type that it begins at
    obtain ⟨S', hS'⟩ : ∃ S', srcT p h S = S' := ⟨_, rfl⟩
    have hS'ok : S'.ok ∧ S'.code.length ≤ 64 := by
      rw [← hS']; unfold srcT
      split
      · exact ⟨hS, hS64⟩
      · exact ⟨g1, g3⟩
    have hpath : (p = 0 ∧ S' = S) ∨ ((p != 0) = true ∧ S.head = 63 ∧ S' = gT h) := by
      unfold srcT at hS'
      by_cases hp : p = 0
      · rw [if_pos hp] at hS'; exact .inl ⟨hp, hS'.symm⟩
      · rw [if_neg hp] at hS'; exact .inr ⟨by simpa using hp, hA.resolve_left hp, hS'.symm⟩
    rw [hS'] at HIFF
    have HS'OK := Lib.hid hS'ok
    obtain ⟨s', x, hp0, hs', hb0, hx⟩ := first_byte S'
    obtain ⟨sg, hsg⟩ : ∃ x, str (gT h) = x := ⟨_, rfl⟩
    rw [hsg] at HG
    have HSG := Lib.hid hsg
    have hpath2 : (p = 0 ∧ s' = str S) ∨ ((p != 0) = true ∧ (S.head == 63) = true ∧ s' = sg) := by
      rcases hpath with ⟨e1, e2⟩ | ⟨e1, e2, e3⟩
      · exact .inl ⟨e1, by rw [← hs', e2]⟩
      · exact .inr ⟨e1, by simpa using e2, by rw [← hs', e3, hsg]⟩
    have HPA := Lib.hid hpath2
    have HSS := Lib.hid (And.intro hs' hx)
    rw [hx] at HIFF
    generalize (S.head == 63) = bS at *
    generalize hsS : str S = s at *
    generalize hsT : str T = t at *
    have HST := Lib.hid hsT
    clear hS'ok hpath hpath2 hx hsg hs' hsT hsS
    go_enter Tryd.func50, Tryd.ntmps50
    go_upto_if 21 with fail
    rw [HW2.out]
    go_cut [1] from 21 to 27 (fun x wx => x = .string s' ∧ Below W2.heap.size W2 wx)
    case first =>
      have hp2 := HPA.out
      rcases hp2 with ⟨e1, e2⟩ | ⟨e1, e2, e3⟩
      · subst e1 e2
        go_wp2_with fail
        go_meet
        case rel => exact ⟨rfl, b0⟩
      · subst e2 e3
        go_wp2_with fail
        (refine (HG.out _).mono ?_); rintro ev w3 ⟨rfl, hb3⟩
        go_wp2_with fail
        go_meet
        case rel => exact ⟨rfl, hb3⟩
    case rest =>
      obtain ⟨rfl, hbw⟩ := hcut
      have HBW := Lib.hid hbw
      clear hbw k0 k1 k2 k3 k7 q1 HPA HW2
      obtain ⟨_, k0, k1, k2, k3, k7⟩ := HK.out wc HBW.out
      by_cases hSe : (x.toNat : Int) = h
      · have e1 : ((x.toNat : Int) != h) = false := by simpa using hSe
        have HSE := Lib.hid hSe
        clear hSe
        go_wp2_with fail
        refine wp_region_held_drew (S := (fun W' => Below W2.heap.size W2 W' ∧ W'.cell? ⟨w.heap.size, 3, none⟩ = some (.int .u8 h))) (by kernel_rfl) ?ss1 (fun hHeld => ?rr1)
        case ss1 => (try dsimp only); exact ⟨HBW.out.drew, k3⟩
        refine wpAnyH_take (i := 0) (oi := ⟨some 28, _, _, _, _, _⟩) (v := ?vv2) rfl (by kernel_rfl) (by kernel_rfl) (by kernel_rfl) (fun _ _ _ h => h) (Or.inl ⟨by rfl, ?yy2⟩) (by assumption) ?rr2
        case yy2 => (intro wq hSw; (try dsimp only at hSw); go_simp; try with_reducible rfl)
        try simp only [Act.put, List.setIfInBounds_toArray, List.set_cons_zero, List.set_cons_succ]
        refine wpAnyH_take (i := 1) (oi := ⟨some 29, _, _, _, _, _⟩) (v := ?vv3) rfl (by kernel_rfl) (by kernel_rfl) (by kernel_rfl) (fun _ _ _ h => h) (Or.inl ⟨by rfl, ?yy3⟩) (by assumption) ?rr3
        case yy3 => (intro wq hSw; (try dsimp only at hSw); go_simp; try with_reducible rfl)
        try simp only [Act.put, List.setIfInBounds_toArray, List.set_cons_zero, List.set_cons_succ]
        refine wpAnyH_take (i := 2) (oi := ⟨some 30, _, _, _, _, _⟩) (v := ?vv4) rfl (by kernel_rfl) (by kernel_rfl) (by kernel_rfl) (fun _ _ _ h => h) (Or.inl ⟨by rfl, ?yy4⟩) (by assumption) ?rr4
        case yy4 => (intro wq hSw; (try dsimp only at hSw); go_simp; try with_reducible rfl)
        try simp only [Act.put, List.setIfInBounds_toArray, List.set_cons_zero, List.set_cons_succ]
        refine wpAnyH_take (i := 3) (oi := ⟨some 31, _, _, _, _, _⟩) (v := ?vv5) rfl (by kernel_rfl) (by kernel_rfl) (by kernel_rfl) (fun _ _ _ h => h) (Or.inl ⟨by rfl, ?yy5⟩) (by assumption) ?rr5
        case yy5 => (intro wq hSw; (try dsimp only at hSw); go_simp; try with_reducible rfl)
        try simp only [Act.put, List.setIfInBounds_toArray, List.set_cons_zero, List.set_cons_succ]
        refine wpAnyH_take (i := 4) (oi := ⟨some 32, _, _, _, _, _⟩) (v := ?vv6) rfl (by kernel_rfl) (by kernel_rfl) (by kernel_rfl) (fun _ _ _ h => h) (Or.inl ⟨by rfl, ?yy6⟩) (by assumption) ?rr6
        case yy6 => (intro wq hSw; (try dsimp only at hSw); go_simp; try with_reducible rfl)
        try simp only [Act.put, List.setIfInBounds_toArray, List.set_cons_zero, List.set_cons_succ]
        refine wpAnyH_take (i := 5) (oi := ⟨some 33, _, _, _, _, _⟩) (v := ?vv7) rfl (by kernel_rfl) (by kernel_rfl) (by kernel_rfl) (fun _ _ _ h => h) (Or.inl ⟨by rfl, ?yy7⟩) (by assumption) ?rr7
        case yy7 => (intro wq hSw; (try dsimp only at hSw); go_simp; try with_reducible rfl)
        try simp only [Act.put, List.setIfInBounds_toArray, List.set_cons_zero, List.set_cons_succ]
        refine wpAnyH_done (by kernel_rfl) ?_ _
        have HB3 := Lib.hid hHeld.1
        clear hHeld k0 k1 k2 k3 k7 e1 hp0 hb0
        obtain ⟨W3, hW3⟩ : ∃ W3, wc.drew = W3 := ⟨_, rfl⟩
        rw [hW3] at HB3 ⊢
        clear hW3
        obtain ⟨_, k0, k1, k2, k3, k7⟩ := HK.out W3 HB3.out
        by_cases hJ : j = false ∨ T.head = 63
        · obtain ⟨T', hT'⟩ : ∃ T', dstT j h T = T' := ⟨_, rfl⟩
          have hT'ok : T'.ok ∧ T'.code.length ≤ 64 := by
            rw [← hT']; unfold dstT
            split
            · exact ⟨g1, g3⟩
            · exact ⟨hT, hT64⟩
          have hpathT : (j = false ∧ T' = T) ∨ (j = true ∧ T.head = 63 ∧ T' = gT h) := by
            unfold dstT at hT'
            cases j
            · exact .inl ⟨rfl, by rw [if_neg (by simp)] at hT'; exact hT'.symm⟩
            · exact .inr ⟨rfl, hJ.resolve_left (by simp), by rw [if_pos rfl] at hT'; exact hT'.symm⟩
          have hiff2 := HIFF.out
          rw [hT'] at hiff2
          have HT'OK := Lib.hid hT'ok
          obtain ⟨t', y, hp1, ht', hb1, hy⟩ := first_byte T'
          have hst := HST.out
          have hpathT2 : (j = false ∧ t' = t) ∨ (j = true ∧ (T.head == 63) = true ∧ t' = sg) := by
            rcases hpathT with ⟨e1, e2⟩ | ⟨e1, e2, e3⟩
            · exact .inl ⟨e1, by rw [← ht', e2]; exact hst⟩
            · exact .inr ⟨e1, by simpa using e2, by rw [← ht', e3]; exact HSG.out⟩
          have HPA := Lib.hid hpathT2
          have HTT := Lib.hid (And.intro ht' hy)
          rw [hy] at hiff2
          have HIFF2 := Lib.hid hiff2
          generalize (T.head == 63) = bT at *
          clear hT'ok hpathT hpathT2 hy ht' hiff2 hst
          go_upto_if 40 with fail
          go_cut [2] from 40 to 46 (fun x wx => x = .string t' ∧ Below W2.heap.size W2 wx)
          case first =>
            have hp2 := HPA.out
            rcases hp2 with ⟨e1, e2⟩ | ⟨e1, e2, e3⟩
            · subst e1 e2
              go_wp2_with fail
              go_meet
              case rel => exact ⟨rfl, HB3.out⟩
            · subst e1 e2 e3
              go_wp2_with fail
              (refine (HG.out _).mono ?_); rintro ev w3 ⟨rfl, hb3⟩
              go_wp2_with fail
              go_meet
              case rel => exact ⟨rfl, bl HB3.out hb3⟩
          case rest =>
            obtain ⟨rfl, hbw2⟩ := hcut
            have HBW2 := Lib.hid hbw2
            clear hbw2 k0 k1 k2 k3 k7 HPA
            obtain ⟨_, k0, k1, k2, k3, k7⟩ := HK.out wc HBW2.out
            by_cases hTe : (y.toNat : Int) = h
            · have e1 : ((y.toNat : Int) != h) = false := by simpa using hTe
              go_wp2_with fail
              refine wp_region_held_drew (S := (fun W' => Below W2.heap.size W2 W' ∧ W'.cell? ⟨w.heap.size, 3, none⟩ = some (.int .u8 h))) (by kernel_rfl) ?ss8 (fun hHeld => ?rr8)
              case ss8 => (try dsimp only); exact ⟨HBW2.out.drew, k3⟩
              refine wpAnyH_take (i := 0) (oi := ⟨some 47, _, _, _, _, _⟩) (v := ?vv9) rfl (by kernel_rfl) (by kernel_rfl) (by kernel_rfl) (fun _ _ _ h => h) (Or.inl ⟨by rfl, ?yy9⟩) (by assumption) ?rr9
              case yy9 => (intro wq hSw; (try dsimp only at hSw); go_simp; try with_reducible rfl)
              try simp only [Act.put, List.setIfInBounds_toArray, List.set_cons_zero, List.set_cons_succ]
              refine wpAnyH_take (i := 1) (oi := ⟨some 48, _, _, _, _, _⟩) (v := ?vv10) rfl (by kernel_rfl) (by kernel_rfl) (by kernel_rfl) (fun _ _ _ h => h) (Or.inl ⟨by rfl, ?yy10⟩) (by assumption) ?rr10
              case yy10 => (intro wq hSw; (try dsimp only at hSw); go_simp; try with_reducible rfl)
              try simp only [Act.put, List.setIfInBounds_toArray, List.set_cons_zero, List.set_cons_succ]
              refine wpAnyH_take (i := 2) (oi := ⟨some 49, _, _, _, _, _⟩) (v := ?vv11) rfl (by kernel_rfl) (by kernel_rfl) (by kernel_rfl) (fun _ _ _ h => h) (Or.inl ⟨by rfl, ?yy11⟩) (by assumption) ?rr11
              case yy11 => (intro wq hSw; (try dsimp only at hSw); go_simp; try with_reducible rfl)
              try simp only [Act.put, List.setIfInBounds_toArray, List.set_cons_zero, List.set_cons_succ]
              refine wpAnyH_take (i := 3) (oi := ⟨some 50, _, _, _, _, _⟩) (v := ?vv12) rfl (by kernel_rfl) (by kernel_rfl) (by kernel_rfl) (fun _ _ _ h => h) (Or.inl ⟨by rfl, ?yy12⟩) (by assumption) ?rr12
              case yy12 => (intro wq hSw; (try dsimp only at hSw); go_simp; try with_reducible rfl)
              try simp only [Act.put, List.setIfInBounds_toArray, List.set_cons_zero, List.set_cons_succ]
              refine wpAnyH_take (i := 4) (oi := ⟨some 51, _, _, _, _, _⟩) (v := ?vv13) rfl (by kernel_rfl) (by kernel_rfl) (by kernel_rfl) (fun _ _ _ h => h) (Or.inl ⟨by rfl, ?yy13⟩) (by assumption) ?rr13
              case yy13 => (intro wq hSw; (try dsimp only at hSw); go_simp; try with_reducible rfl)
              try simp only [Act.put, List.setIfInBounds_toArray, List.set_cons_zero, List.set_cons_succ]
              refine wpAnyH_take (i := 5) (oi := ⟨some 52, _, _, _, _, _⟩) (v := ?vv14) rfl (by kernel_rfl) (by kernel_rfl) (by kernel_rfl) (fun _ _ _ h => h) (Or.inl ⟨by rfl, ?yy14⟩) (by assumption) ?rr14
              case yy14 => (intro wq hSw; (try dsimp only at hSw); go_simp; try with_reducible rfl)
              try simp only [Act.put, List.setIfInBounds_toArray, List.set_cons_zero, List.set_cons_succ]
              refine wpAnyH_done (by kernel_rfl) ?_ _
              have HBX := Lib.hid hHeld.1
              clear hHeld k0 k1 k2 k3 k7 hp1 hb1 e1
              obtain ⟨W4, hW4⟩ : ∃ W4, wc.drew = W4 := ⟨_, rfl⟩
              rw [hW4] at HBX ⊢
              clear hW4
              have hhS : hI S'.head = h := HSS.out.2.trans HSE.out
              have hhT : hI T'.head = h := HTT.out.2.trans hTe
              have HRF := Lib.hid (show ∀ m, m < n → goK h a b S' T' m = false → R = false from by
                intro m hm hg
                cases R
                · rfl
                · have := (HIFF2.out.1 rfl).2.2.2.2 m hm
                  rw [hg] at this; cases this)
              have HRT := Lib.hid (show (∀ m, m < n → goK h a b S' T' m = true) → R = true from fun hal => HIFF2.out.2 ⟨hA, HSE.out, hJ, hTe, hal⟩)
              have HH := Lib.hid (And.intro hh (And.intro hhS (And.intro hhT hTe)))
              have hkid := fun m (hm : m < n) => HKV.out.kid (j := m) (by show m < opsN h; rw [HN.out]; exact hm)
              have HKID := Lib.hid hkid
              have HBXW := Lib.hid (bl HB2.out HBX.out)
              have HO3 := HO.out.1
              have HO6 := HO.out.2
              have HSS0 := Lib.hid HSS.out.1
              have HTT0 := Lib.hid HTT.out.1
              obtain ⟨_, k0, k1, k2, k3, k7⟩ := HK.out W4 HBX.out
              clear hkid hhS hhT HIFF2 HIFF hA hJ hTe HSE HG HSG g1 g2 g3 g4 hT' hS' HST HBW HBW2 HB3 HSS HTT o1 o7 hh HO
              by_cases h62 : h = 62
              · subst h62
                obtain rfl : n = 2 := HN.out.symm
                have e120 : ((62 : Int) == 120) = false := rfl
                rw [show ((62 : Int) == 62) = true from rfl] at HO3
                have HP10 := Lib.hid (fun W => part_kk HH.out.1 HS'OK.out.1 HS'OK.out.2 HH.out.2.1 HN.out (m := 0) (by omega) (by decide) W)
                have HP11 := Lib.hid (fun W => part_kk HH.out.1 HS'OK.out.1 HS'OK.out.2 HH.out.2.1 HN.out (m := 1) (by omega) (by decide) W)
                have HP20 := Lib.hid (fun W => part_kk HH.out.1 HT'OK.out.1 HT'OK.out.2 HH.out.2.2.1 HN.out (m := 0) (by omega) (by decide) W)
                have HP21 := Lib.hid (fun W => part_kk HH.out.1 HT'OK.out.1 HT'OK.out.2 HH.out.2.2.1 HN.out (m := 1) (by omega) (by decide) W)
                rw [HSS0.out] at HP10
                rw [HTT0.out] at HP20
                rw [HSS0.out] at HP11
                rw [HTT0.out] at HP21
                have HU0 := Lib.hid (show goK 62 a b S' T' 0 = goesC (kidT a b 0) (kkD T' 0) (kkD S' 0) from rfl)
                have HU1 := Lib.hid (show goK 62 a b S' T' 1 = goesC (kidT a b 1) (kkD S' 1) (kkD T' 1) from rfl)
                obtain ⟨g, o, sk0, rfl, hCg, hgl, hsk0, q0⟩ := HKID.out 0 (by omega)
                obtain ⟨g', o', sk1, hgo, _, _, hsk1, q1⟩ := HKID.out 1 (by omega)
                obtain ⟨rfl, rfl⟩ : g = g' ∧ o = o' := by injection hgo with e; injection e with e1 e2; exact ⟨e1, e2⟩
                obtain ⟨A0, c0, rfl, _, _⟩ := hsk0.slice
                obtain ⟨A1, c1, rfl, _, _⟩ := hsk1.slice
                have hbw0 : Below w.heap.size w W4 := HBXW.out
                have hih0 := fun W (hb : Below W4.heap.size W4 W) => HIH.out 0 A0 c0 (kkD T' 0) (kkD S' 0) W (by omega) (hsk0.below (bl hbw0 hb)) (kkD_ok (i := 0) HT'OK.out.1 HT'OK.out.2).1 (kkD_ok (i := 0) HS'OK.out.1 HS'OK.out.2).1 (kkD_ok (i := 0) HT'OK.out.1 HT'OK.out.2).2 (kkD_ok (i := 0) HS'OK.out.1 HS'OK.out.2).2
                have hih1 := fun W (hb : Below W4.heap.size W4 W) => HIH.out 1 A1 c1 (kkD S' 1) (kkD T' 1) W (by omega) (hsk1.below (bl hbw0 hb)) (kkD_ok (i := 1) HS'OK.out.1 HS'OK.out.2).1 (kkD_ok (i := 1) HT'OK.out.1 HT'OK.out.2).1 (kkD_ok (i := 1) HS'OK.out.1 HS'OK.out.2).2 (kkD_ok (i := 1) HT'OK.out.1 HT'OK.out.2).2
                unfold NV at hih0 hih1
                have kc : ∀ i u W', w.cell? ⟨g, i, none⟩ = some u → Below W4.heap.size W4 W' → W'.cell? ⟨g, i, none⟩ = some u := fun i u W' hu hb => ((bl hbw0 hb).cell (p := ⟨g, i, none⟩) hgl).trans hu
                have q0' : w.cell? ⟨g, o, none⟩ = some (.int .i8 (kidT a b 0).nd.op) ∧ w.cell? ⟨g, o + 1, none⟩ = some (.int .i64 (kidT a b 0).nd.pj) ∧ w.cell? ⟨g, o + 2, none⟩ = some (.bool (kidT a b 0).nd.ij) ∧ w.cell? ⟨g, o + 3, none⟩ = some (.int .u8 (kidT a b 0).nd.hd) ∧ w.cell? ⟨g, o + 4, none⟩ = some (.int .i64 (kidT a b 0).nd.lb) ∧ w.cell? ⟨g, o + 5, none⟩ = some (.int .u8 (kidT a b 0).nd.fr) ∧ w.cell? ⟨g, o + 6, none⟩ = some (.int .u8 (kidT a b 0).nd.to) ∧ w.cell? ⟨g, o + 7, none⟩ = some (.slice A0 (kidT a b 0).nk c0) := q0
                clear q0
                have q1' : w.cell? ⟨g, o + 8, none⟩ = some (.int .i8 (kidT a b 1).nd.op) ∧ w.cell? ⟨g, o + 9, none⟩ = some (.int .i64 (kidT a b 1).nd.pj) ∧ w.cell? ⟨g, o + 10, none⟩ = some (.bool (kidT a b 1).nd.ij) ∧ w.cell? ⟨g, o + 11, none⟩ = some (.int .u8 (kidT a b 1).nd.hd) ∧ w.cell? ⟨g, o + 12, none⟩ = some (.int .i64 (kidT a b 1).nd.lb) ∧ w.cell? ⟨g, o + 13, none⟩ = some (.int .u8 (kidT a b 1).nd.fr) ∧ w.cell? ⟨g, o + 14, none⟩ = some (.int .u8 (kidT a b 1).nd.to) ∧ w.cell? ⟨g, o + 15, none⟩ = some (.slice A1 (kidT a b 1).nk c1) := q1
                clear q1
                obtain ⟨Y0, hY0⟩ : ∃ Y, goesC (kidT a b 0) (kkD T' 0) (kkD S' 0) = Y := ⟨_, rfl⟩
                obtain ⟨Y1, hY1⟩ : ∃ Y, goesC (kidT a b 1) (kkD S' 1) (kkD T' 1) = Y := ⟨_, rfl⟩
                rw [hY0] at hih0
                rw [hY1] at hih1
                have HY0 := Lib.hid (HU0.out.trans hY0)
                have HY1 := Lib.hid (HU1.out.trans hY1)
                obtain ⟨s0a, hs0a⟩ : ∃ x, str (kkD S' 0) = x := ⟨_, rfl⟩
                obtain ⟨s0b, hs0b⟩ : ∃ x, str (kkD T' 0) = x := ⟨_, rfl⟩
                rw [hs0a] at hih0 HP10
                rw [hs0b] at hih0 HP20
                generalize (kidT a b 0).nk = n0 at *
                obtain ⟨nd0, hnd0⟩ : ∃ x, (kidT a b 0).nd = x := ⟨_, rfl⟩
                rw [hnd0] at q0' hih0
                obtain ⟨x0, x1, x2, x3, x4, x5, x6⟩ := nd0
                simp only at q0' hih0
                obtain ⟨s1a, hs1a⟩ : ∃ x, str (kkD S' 1) = x := ⟨_, rfl⟩
                obtain ⟨s1b, hs1b⟩ : ∃ x, str (kkD T' 1) = x := ⟨_, rfl⟩
                rw [hs1a] at hih1 HP11
                rw [hs1b] at hih1 HP21
                generalize (kidT a b 1).nk = n1 at *
                obtain ⟨nd1, hnd1⟩ : ∃ x, (kidT a b 1).nd = x := ⟨_, rfl⟩
                rw [hnd1] at q1' hih1
                obtain ⟨y0, y1, y2, y3, y4, y5, y6⟩ := nd1
                simp only at q1' hih1
                obtain ⟨p00, p01, p02, p03, p04, p05, p06, p07⟩ := q0'
                obtain ⟨p10, p11, p12, p13, p14, p15, p16, p17⟩ := q1'
                have hSS := fun W' (hb' : Below W4.heap.size W4 W') => (⟨hb', (HK.out W' (bl HBX.out hb')).2.2.2.2.2, kc _ _ W' p00 hb', kc _ _ W' p01 hb', kc _ _ W' p02 hb', kc _ _ W' p03 hb', kc _ _ W' p04 hb', kc _ _ W' p05 hb', kc _ _ W' p06 hb', kc _ _ W' p07 hb', kc _ _ W' p10 hb', kc _ _ W' p11 hb', kc _ _ W' p12 hb', kc _ _ W' p13 hb', kc _ _ W' p14 hb', kc _ _ W' p15 hb', kc _ _ W' p16 hb', kc _ _ W' p17 hb'⟩ :
                  Below W4.heap.size W4 W' ∧ W'.cell? ⟨w.heap.size, 7, none⟩ = some (.slice (some ⟨g, o, none⟩) 2 c) ∧ W'.cell? ⟨g, o, none⟩ = some (.int .i8 x0) ∧ W'.cell? ⟨g, o + 1, none⟩ = some (.int .i64 x1) ∧ W'.cell? ⟨g, o + 2, none⟩ = some (.bool x2) ∧ W'.cell? ⟨g, o + 3, none⟩ = some (.int .u8 x3) ∧ W'.cell? ⟨g, o + 4, none⟩ = some (.int .i64 x4) ∧ W'.cell? ⟨g, o + 5, none⟩ = some (.int .u8 x5) ∧ W'.cell? ⟨g, o + 6, none⟩ = some (.int .u8 x6) ∧ W'.cell? ⟨g, o + 7, none⟩ = some (.slice A0 n0 c0) ∧ W'.cell? ⟨g, o + 8, none⟩ = some (.int .i8 y0) ∧ W'.cell? ⟨g, o + 9, none⟩ = some (.int .i64 y1) ∧ W'.cell? ⟨g, o + 10, none⟩ = some (.bool y2) ∧ W'.cell? ⟨g, o + 11, none⟩ = some (.int .u8 y3) ∧ W'.cell? ⟨g, o + 12, none⟩ = some (.int .i64 y4) ∧ W'.cell? ⟨g, o + 13, none⟩ = some (.int .u8 y5) ∧ W'.cell? ⟨g, o + 14, none⟩ = some (.int .u8 y6) ∧ W'.cell? ⟨g, o + 15, none⟩ = some (.slice A1 n1 c1))
                have HS := Lib.hid hSS
                have HC0 := Lib.hid hih0
                have HC1 := Lib.hid hih1
                have HR1 := Lib.hid (show Y0 = true → R = Y1 from fun h0 => by
                  cases hy : Y1
                  · exact HRF.out 1 (by omega) (HY1.out.trans hy)
                  · refine HRT.out fun m hm => ?_
                    rcases m with _ | _ | m
                    · exact HY0.out.trans h0
                    · exact HY1.out.trans hy
                    · omega)
                clear hih0 hih1 hSS hY0 hY1 hs0a hs0b hs1a hs1b hnd0 hnd1 kc hbw0 hsk0 hsk1 k1 k2 k3 p00 p01 p02 p03 p04 p05 p06 p07 p10 p11 p12 p13 p14 p15 p16 p17
                cases Y0
                · go_wp2_with fail
                  refine wp_region_held_drew (S := (fun W' => Below W4.heap.size W4 W' ∧ W'.cell? ⟨w.heap.size, 7, none⟩ = some (.slice (some ⟨g, o, none⟩) 2 c) ∧ W'.cell? ⟨g, o, none⟩ = some (.int .i8 x0) ∧ W'.cell? ⟨g, o + 1, none⟩ = some (.int .i64 x1) ∧ W'.cell? ⟨g, o + 2, none⟩ = some (.bool x2) ∧ W'.cell? ⟨g, o + 3, none⟩ = some (.int .u8 x3) ∧ W'.cell? ⟨g, o + 4, none⟩ = some (.int .i64 x4) ∧ W'.cell? ⟨g, o + 5, none⟩ = some (.int .u8 x5) ∧ W'.cell? ⟨g, o + 6, none⟩ = some (.int .u8 x6) ∧ W'.cell? ⟨g, o + 7, none⟩ = some (.slice A0 n0 c0) ∧ W'.cell? ⟨g, o + 8, none⟩ = some (.int .i8 y0) ∧ W'.cell? ⟨g, o + 9, none⟩ = some (.int .i64 y1) ∧ W'.cell? ⟨g, o + 10, none⟩ = some (.bool y2) ∧ W'.cell? ⟨g, o + 11, none⟩ = some (.int .u8 y3) ∧ W'.cell? ⟨g, o + 12, none⟩ = some (.int .i64 y4) ∧ W'.cell? ⟨g, o + 13, none⟩ = some (.int .u8 y5) ∧ W'.cell? ⟨g, o + 14, none⟩ = some (.int .u8 y6) ∧ W'.cell? ⟨g, o + 15, none⟩ = some (.slice A1 n1 c1))) (by kernel_rfl) ?ss15 (fun hHeld => ?rr15)
                  case ss15 => (try dsimp only); exact HS.out _ (Below.refl _ _).drew
                  refine wpAnyH_take (i := 0) (oi := ⟨some 58, _, _, _, _, _⟩) (v := ?vv16) rfl (by kernel_rfl) (by kernel_rfl) (by kernel_rfl) (fun _ _ _ h => h) (Or.inl ⟨by rfl, ?yy16⟩) (by assumption) ?rr16
                  case yy16 => (intro wq hSw; (try dsimp only at hSw); go_simp; try with_reducible rfl)
                  try simp only [Act.put, List.setIfInBounds_toArray, List.set_cons_zero, List.set_cons_succ]
                  refine wpAnyH_take (i := 1) (oi := ⟨some 59, _, _, _, _, _⟩) (v := ?vv17) rfl (by kernel_rfl) (by kernel_rfl) (by kernel_rfl) (fun _ _ _ h => h) (Or.inl ⟨by rfl, ?yy17⟩) (by assumption) ?rr17
                  case yy17 => (intro wq hSw; (try dsimp only at hSw); go_simp; try with_reducible rfl)
                  try simp only [Act.put, List.setIfInBounds_toArray, List.set_cons_zero, List.set_cons_succ]
                  refine wpAnyH_take (i := 2) (oi := ⟨some 60, _, _, _, _, _⟩) (v := ?vv18) rfl (by kernel_rfl) (by kernel_rfl) (by kernel_rfl) (fun _ _ _ h => h) (Or.inl ⟨by rfl, ?yy18⟩) (by assumption) ?rr18
                  case yy18 => (intro wq hSw; (try dsimp only at hSw); go_simp; try with_reducible rfl)
                  try simp only [Act.put, List.setIfInBounds_toArray, List.set_cons_zero, List.set_cons_succ]
                  refine wpAnyH_take (i := 3) (oi := ⟨some 61, _, _, _, _, _⟩) (v := ?vv19) rfl (by kernel_rfl) (by kernel_rfl) (by kernel_rfl) (fun _ _ _ h => h) (Or.inl ⟨by rfl, ?yy19⟩) (by assumption) ?rr19
                  case yy19 => (intro wq hSw; (try dsimp only at hSw); go_simp; try with_reducible rfl)
                  try simp only [Act.put, List.setIfInBounds_toArray, List.set_cons_zero, List.set_cons_succ]
                  refine wpAnyH_take (i := 4) (oi := ⟨some 62, _, _, _, _, _⟩) (v := ?vv20) rfl (by kernel_rfl) (by kernel_rfl) (by kernel_rfl) (fun _ _ _ h => h) (Or.inl ⟨by rfl, ?yy20⟩) (by assumption) ?rr20
                  case yy20 => (intro wq hSw; (try dsimp only at hSw); go_simp; try with_reducible rfl)
                  try simp only [Act.put, List.setIfInBounds_toArray, List.set_cons_zero, List.set_cons_succ]
                  refine wpAnyH_take (i := 6) (oi := ⟨some 64, _, _, _, _, _⟩) (v := ?vv21) rfl (by kernel_rfl) (by kernel_rfl) (by kernel_rfl) (fun _ _ _ h => h) (Or.inl ⟨by rfl, ?yy21⟩) (by assumption) ?rr21
                  case yy21 => (intro wq hSw; (try dsimp only at hSw); go_simp; try with_reducible rfl)
                  try simp only [Act.put, List.setIfInBounds_toArray, List.set_cons_zero, List.set_cons_succ]
                  refine wpAnyH_ready (rs := [5]) (by kernel_rfl) (by simp) ?_
                  refine AllReadyH.cons (o := ⟨some 63, _, _, _, _, _⟩) rfl (fun K hK => ?_) AllReadyH.nil
                  go_simp
                  ((refine (HP20.out _).mono ?_); rintro e v5 ⟨rfl, rfl⟩)
                  refine hK.out _ _ ?ss22 (fun hHeld2 => ?rr22)
                  case ss22 => (try dsimp only); exact hHeld
                  clear hK K
                  clear hHeld2
                  try simp only [Act.put, List.setIfInBounds_toArray, List.set_cons_zero, List.set_cons_succ]
                  refine wpAnyH_ready (rs := [7]) (by kernel_rfl) (by simp) ?_
                  refine AllReadyH.cons (o := ⟨some 65, _, _, _, _, _⟩) rfl (fun K hK => ?_) AllReadyH.nil
                  go_simp
                  ((refine (HP10.out _).mono ?_); rintro e v7 ⟨rfl, rfl⟩)
                  refine hK.out _ _ ?ss23 (fun hHeld2 => ?rr23)
                  case ss23 => (try dsimp only); exact hHeld
                  clear hK K
                  clear hHeld2
                  try simp only [Act.put, List.setIfInBounds_toArray, List.set_cons_zero, List.set_cons_succ]
                  refine wpAnyH_ready (rs := [8]) (by kernel_rfl) (by simp) ?_
                  refine AllReadyH.cons (o := ⟨some 66, _, _, _, _, _⟩) rfl (fun K hK => ?_) AllReadyH.nil
                  go_simp
                  ((refine (HC0.out _ (Below.refl _ _).drew).mono ?_); rintro e w5 ⟨rfl, hb5'⟩; have hb5 : Below W4.heap.size W4 w5 := bl (Below.refl _ _).drew hb5'; clear hb5')
                  refine hK.out _ _ ?ss24 (fun hHeld2 => ?rr24)
                  case ss24 => (try dsimp only); exact HS.out _ hb5
                  clear hK K
                  clear hHeld
                  have hHeld := hHeld2
                  clear hHeld2
                  try simp only [Act.put, List.setIfInBounds_toArray, List.set_cons_zero, List.set_cons_succ]
                  refine wpAnyH_take (i := 9) (oi := ⟨some 67, _, _, _, _, _⟩) (v := ?vv25) rfl (by kernel_rfl) (by kernel_rfl) (by kernel_rfl) (fun _ _ _ h => h) (Or.inl ⟨by rfl, ?yy25⟩) (by assumption) ?rr25
                  case yy25 => (intro wq hSw; (try dsimp only at hSw); go_simp; try with_reducible rfl)
                  try simp only [Act.put, List.setIfInBounds_toArray, List.set_cons_zero, List.set_cons_succ]
                  refine wpAnyH_take (i := 10) (oi := ⟨some 68, _, _, _, _, _⟩) (v := undef) rfl (by kernel_rfl) (by kernel_rfl) (by kernel_rfl) (fun _ _ _ h => h) (Or.inr ⟨by rfl, rfl⟩) (by assumption) ?rr26
                  try simp only [Act.put, List.setIfInBounds_toArray, List.set_cons_zero, List.set_cons_succ]
                  refine wpAnyH_take (i := 11) (oi := ⟨some 69, _, _, _, _, _⟩) (v := undef) rfl (by kernel_rfl) (by kernel_rfl) (by kernel_rfl) (fun _ _ _ h => h) (Or.inr ⟨by rfl, rfl⟩) (by assumption) ?rr27
                  try simp only [Act.put, List.setIfInBounds_toArray, List.set_cons_zero, List.set_cons_succ]
                  refine wpAnyH_take (i := 12) (oi := ⟨some 70, _, _, _, _, _⟩) (v := undef) rfl (by kernel_rfl) (by kernel_rfl) (by kernel_rfl) (fun _ _ _ h => h) (Or.inr ⟨by rfl, rfl⟩) (by assumption) ?rr28
                  try simp only [Act.put, List.setIfInBounds_toArray, List.set_cons_zero, List.set_cons_succ]
                  refine wpAnyH_take (i := 13) (oi := ⟨some 71, _, _, _, _, _⟩) (v := undef) rfl (by kernel_rfl) (by kernel_rfl) (by kernel_rfl) (fun _ _ _ h => h) (Or.inr ⟨by rfl, rfl⟩) (by assumption) ?rr29
                  try simp only [Act.put, List.setIfInBounds_toArray, List.set_cons_zero, List.set_cons_succ]
                  refine wpAnyH_take (i := 14) (oi := ⟨some 72, _, _, _, _, _⟩) (v := undef) rfl (by kernel_rfl) (by kernel_rfl) (by kernel_rfl) (fun _ _ _ h => h) (Or.inr ⟨by rfl, rfl⟩) (by assumption) ?rr30
                  try simp only [Act.put, List.setIfInBounds_toArray, List.set_cons_zero, List.set_cons_succ]
                  refine wpAnyH_take (i := 15) (oi := ⟨some 73, _, _, _, _, _⟩) (v := undef) rfl (by kernel_rfl) (by kernel_rfl) (by kernel_rfl) (fun _ _ _ h => h) (Or.inr ⟨by rfl, rfl⟩) (by assumption) ?rr31
                  try simp only [Act.put, List.setIfInBounds_toArray, List.set_cons_zero, List.set_cons_succ]
                  refine wpAnyH_take (i := 16) (oi := ⟨some 74, _, _, _, _, _⟩) (v := undef) rfl (by kernel_rfl) (by kernel_rfl) (by kernel_rfl) (fun _ _ _ h => h) (Or.inr ⟨by rfl, rfl⟩) (by assumption) ?rr32
                  try simp only [Act.put, List.setIfInBounds_toArray, List.set_cons_zero, List.set_cons_succ]
                  refine wpAnyH_take (i := 17) (oi := ⟨some 75, _, _, _, _, _⟩) (v := undef) rfl (by kernel_rfl) (by kernel_rfl) (by kernel_rfl) (fun _ _ _ h => h) (Or.inr ⟨by rfl, rfl⟩) (by assumption) ?rr33
                  try simp only [Act.put, List.setIfInBounds_toArray, List.set_cons_zero, List.set_cons_succ]
                  refine wpAnyH_take (i := 18) (oi := ⟨some 76, _, _, _, _, _⟩) (v := undef) rfl (by kernel_rfl) (by kernel_rfl) (by kernel_rfl) (fun _ _ _ h => h) (Or.inr ⟨by rfl, rfl⟩) (by assumption) ?rr34
                  try simp only [Act.put, List.setIfInBounds_toArray, List.set_cons_zero, List.set_cons_succ]
                  refine wpAnyH_take (i := 19) (oi := ⟨some 77, _, _, _, _, _⟩) (v := ?vv35) rfl (by kernel_rfl) (by kernel_rfl) (by kernel_rfl) (fun _ _ _ h => h) (Or.inl ⟨by rfl, ?yy35⟩) (by assumption) ?rr35
                  case yy35 => (intro wq hSw; (try dsimp only at hSw); go_simp; try with_reducible rfl)
                  try simp only [Act.put, List.setIfInBounds_toArray, List.set_cons_zero, List.set_cons_succ]
                  refine wpAnyH_take (i := 20) (oi := ⟨some 6, _, _, _, _, _⟩) (v := ?vv36) rfl (by kernel_rfl) (by kernel_rfl) (by kernel_rfl) (fun _ _ _ h => h) (Or.inl ⟨by rfl, ?yy36⟩) (by assumption) ?rr36
                  case yy36 => (intro wq hSw; (try dsimp only at hSw); go_simp; try with_reducible rfl)
                  try simp only [Act.put, List.setIfInBounds_toArray, List.set_cons_zero, List.set_cons_succ]
                  refine wpAnyH_done (by kernel_rfl) ?_ _
                  have hbx := hHeld.1
                  clear hHeld
                  go_wp2_with fail
                  go_ret
                  exact ⟨by rw [HRF.out 0 (by omega) HY0.out]; rfl, bl HBXW.out hbx⟩
                · go_wp2_with fail
                  refine wp_region_held_drew (S := (fun W' => Below W4.heap.size W4 W' ∧ W'.cell? ⟨w.heap.size, 7, none⟩ = some (.slice (some ⟨g, o, none⟩) 2 c) ∧ W'.cell? ⟨g, o, none⟩ = some (.int .i8 x0) ∧ W'.cell? ⟨g, o + 1, none⟩ = some (.int .i64 x1) ∧ W'.cell? ⟨g, o + 2, none⟩ = some (.bool x2) ∧ W'.cell? ⟨g, o + 3, none⟩ = some (.int .u8 x3) ∧ W'.cell? ⟨g, o + 4, none⟩ = some (.int .i64 x4) ∧ W'.cell? ⟨g, o + 5, none⟩ = some (.int .u8 x5) ∧ W'.cell? ⟨g, o + 6, none⟩ = some (.int .u8 x6) ∧ W'.cell? ⟨g, o + 7, none⟩ = some (.slice A0 n0 c0) ∧ W'.cell? ⟨g, o + 8, none⟩ = some (.int .i8 y0) ∧ W'.cell? ⟨g, o + 9, none⟩ = some (.int .i64 y1) ∧ W'.cell? ⟨g, o + 10, none⟩ = some (.bool y2) ∧ W'.cell? ⟨g, o + 11, none⟩ = some (.int .u8 y3) ∧ W'.cell? ⟨g, o + 12, none⟩ = some (.int .i64 y4) ∧ W'.cell? ⟨g, o + 13, none⟩ = some (.int .u8 y5) ∧ W'.cell? ⟨g, o + 14, none⟩ = some (.int .u8 y6) ∧ W'.cell? ⟨g, o + 15, none⟩ = some (.slice A1 n1 c1))) (by kernel_rfl) ?ss37 (fun hHeld => ?rr37)
                  case ss37 => (try dsimp only); exact HS.out _ (Below.refl _ _).drew
                  refine wpAnyH_take (i := 0) (oi := ⟨some 58, _, _, _, _, _⟩) (v := ?vv38) rfl (by kernel_rfl) (by kernel_rfl) (by kernel_rfl) (fun _ _ _ h => h) (Or.inl ⟨by rfl, ?yy38⟩) (by assumption) ?rr38
                  case yy38 => (intro wq hSw; (try dsimp only at hSw); go_simp; try with_reducible rfl)
                  try simp only [Act.put, List.setIfInBounds_toArray, List.set_cons_zero, List.set_cons_succ]
                  refine wpAnyH_take (i := 1) (oi := ⟨some 59, _, _, _, _, _⟩) (v := ?vv39) rfl (by kernel_rfl) (by kernel_rfl) (by kernel_rfl) (fun _ _ _ h => h) (Or.inl ⟨by rfl, ?yy39⟩) (by assumption) ?rr39
                  case yy39 => (intro wq hSw; (try dsimp only at hSw); go_simp; try with_reducible rfl)
                  try simp only [Act.put, List.setIfInBounds_toArray, List.set_cons_zero, List.set_cons_succ]
                  refine wpAnyH_take (i := 2) (oi := ⟨some 60, _, _, _, _, _⟩) (v := ?vv40) rfl (by kernel_rfl) (by kernel_rfl) (by kernel_rfl) (fun _ _ _ h => h) (Or.inl ⟨by rfl, ?yy40⟩) (by assumption) ?rr40
                  case yy40 => (intro wq hSw; (try dsimp only at hSw); go_simp; try with_reducible rfl)
                  try simp only [Act.put, List.setIfInBounds_toArray, List.set_cons_zero, List.set_cons_succ]
                  refine wpAnyH_take (i := 3) (oi := ⟨some 61, _, _, _, _, _⟩) (v := ?vv41) rfl (by kernel_rfl) (by kernel_rfl) (by kernel_rfl) (fun _ _ _ h => h) (Or.inl ⟨by rfl, ?yy41⟩) (by assumption) ?rr41
                  case yy41 => (intro wq hSw; (try dsimp only at hSw); go_simp; try with_reducible rfl)
                  try simp only [Act.put, List.setIfInBounds_toArray, List.set_cons_zero, List.set_cons_succ]
                  refine wpAnyH_take (i := 4) (oi := ⟨some 62, _, _, _, _, _⟩) (v := ?vv42) rfl (by kernel_rfl) (by kernel_rfl) (by kernel_rfl) (fun _ _ _ h => h) (Or.inl ⟨by rfl, ?yy42⟩) (by assumption) ?rr42
                  case yy42 => (intro wq hSw; (try dsimp only at hSw); go_simp; try with_reducible rfl)
                  try simp only [Act.put, List.setIfInBounds_toArray, List.set_cons_zero, List.set_cons_succ]
                  refine wpAnyH_take (i := 6) (oi := ⟨some 64, _, _, _, _, _⟩) (v := ?vv43) rfl (by kernel_rfl) (by kernel_rfl) (by kernel_rfl) (fun _ _ _ h => h) (Or.inl ⟨by rfl, ?yy43⟩) (by assumption) ?rr43
                  case yy43 => (intro wq hSw; (try dsimp only at hSw); go_simp; try with_reducible rfl)
                  try simp only [Act.put, List.setIfInBounds_toArray, List.set_cons_zero, List.set_cons_succ]
                  refine wpAnyH_ready (rs := [5]) (by kernel_rfl) (by simp) ?_
                  refine AllReadyH.cons (o := ⟨some 63, _, _, _, _, _⟩) rfl (fun K hK => ?_) AllReadyH.nil
                  go_simp
                  ((refine (HP20.out _).mono ?_); rintro e v5 ⟨rfl, rfl⟩)
                  refine hK.out _ _ ?ss44 (fun hHeld2 => ?rr44)
                  case ss44 => (try dsimp only); exact hHeld
                  clear hK K
                  clear hHeld2
                  try simp only [Act.put, List.setIfInBounds_toArray, List.set_cons_zero, List.set_cons_succ]
                  refine wpAnyH_ready (rs := [7]) (by kernel_rfl) (by simp) ?_
                  refine AllReadyH.cons (o := ⟨some 65, _, _, _, _, _⟩) rfl (fun K hK => ?_) AllReadyH.nil
                  go_simp
                  ((refine (HP10.out _).mono ?_); rintro e v7 ⟨rfl, rfl⟩)
                  refine hK.out _ _ ?ss45 (fun hHeld2 => ?rr45)
                  case ss45 => (try dsimp only); exact hHeld
                  clear hK K
                  clear hHeld2
                  try simp only [Act.put, List.setIfInBounds_toArray, List.set_cons_zero, List.set_cons_succ]
                  refine wpAnyH_ready (rs := [8]) (by kernel_rfl) (by simp) ?_
                  refine AllReadyH.cons (o := ⟨some 66, _, _, _, _, _⟩) rfl (fun K hK => ?_) AllReadyH.nil
                  go_simp
                  ((refine (HC0.out _ (Below.refl _ _).drew).mono ?_); rintro e w5 ⟨rfl, hb5'⟩; have hb5 : Below W4.heap.size W4 w5 := bl (Below.refl _ _).drew hb5'; clear hb5')
                  refine hK.out _ _ ?ss46 (fun hHeld2 => ?rr46)
                  case ss46 => (try dsimp only); exact HS.out _ hb5
                  clear hK K
                  clear hHeld
                  have hHeld := hHeld2
                  clear hHeld2
                  try simp only [Act.put, List.setIfInBounds_toArray, List.set_cons_zero, List.set_cons_succ]
                  refine wpAnyH_take (i := 9) (oi := ⟨some 67, _, _, _, _, _⟩) (v := ?vv47) rfl (by kernel_rfl) (by kernel_rfl) (by kernel_rfl) (fun _ _ _ h => h) (Or.inl ⟨by rfl, ?yy47⟩) (by assumption) ?rr47
                  case yy47 => (intro wq hSw; (try dsimp only at hSw); go_simp; try with_reducible rfl)
                  try simp only [Act.put, List.setIfInBounds_toArray, List.set_cons_zero, List.set_cons_succ]
                  refine wpAnyH_take (i := 10) (oi := ⟨some 68, _, _, _, _, _⟩) (v := ?vv48) rfl (by kernel_rfl) (by kernel_rfl) (by kernel_rfl) (fun _ _ _ h => h) (Or.inl ⟨by rfl, ?yy48⟩) (by assumption) ?rr48
                  case yy48 => (intro wq hSw; (try dsimp only at hSw); go_simp; try with_reducible rfl)
                  try simp only [Act.put, List.setIfInBounds_toArray, List.set_cons_zero, List.set_cons_succ]
                  refine wpAnyH_take (i := 11) (oi := ⟨some 69, _, _, _, _, _⟩) (v := ?vv49) rfl (by kernel_rfl) (by kernel_rfl) (by kernel_rfl) (fun _ _ _ h => h) (Or.inl ⟨by rfl, ?yy49⟩) (by assumption) ?rr49
                  case yy49 => (intro wq hSw; (try dsimp only at hSw); go_simp; try with_reducible rfl)
                  try simp only [Act.put, List.setIfInBounds_toArray, List.set_cons_zero, List.set_cons_succ]
                  refine wpAnyH_take (i := 12) (oi := ⟨some 70, _, _, _, _, _⟩) (v := ?vv50) rfl (by kernel_rfl) (by kernel_rfl) (by kernel_rfl) (fun _ _ _ h => h) (Or.inl ⟨by rfl, ?yy50⟩) (by assumption) ?rr50
                  case yy50 => (intro wq hSw; (try dsimp only at hSw); go_simp; try with_reducible rfl)
                  try simp only [Act.put, List.setIfInBounds_toArray, List.set_cons_zero, List.set_cons_succ]
                  refine wpAnyH_take (i := 13) (oi := ⟨some 71, _, _, _, _, _⟩) (v := ?vv51) rfl (by kernel_rfl) (by kernel_rfl) (by kernel_rfl) (fun _ _ _ h => h) (Or.inl ⟨by rfl, ?yy51⟩) (by assumption) ?rr51
                  case yy51 => (intro wq hSw; (try dsimp only at hSw); go_simp; try with_reducible rfl)
                  try simp only [Act.put, List.setIfInBounds_toArray, List.set_cons_zero, List.set_cons_succ]
                  refine wpAnyH_take (i := 14) (oi := ⟨some 72, _, _, _, _, _⟩) (v := ?vv52) rfl (by kernel_rfl) (by kernel_rfl) (by kernel_rfl) (fun _ _ _ h => h) (Or.inl ⟨by rfl, ?yy52⟩) (by assumption) ?rr52
                  case yy52 => (intro wq hSw; (try dsimp only at hSw); go_simp; try with_reducible rfl)
                  try simp only [Act.put, List.setIfInBounds_toArray, List.set_cons_zero, List.set_cons_succ]
                  refine wpAnyH_take (i := 16) (oi := ⟨some 74, _, _, _, _, _⟩) (v := ?vv53) rfl (by kernel_rfl) (by kernel_rfl) (by kernel_rfl) (fun _ _ _ h => h) (Or.inl ⟨by rfl, ?yy53⟩) (by assumption) ?rr53
                  case yy53 => (intro wq hSw; (try dsimp only at hSw); go_simp; try with_reducible rfl)
                  try simp only [Act.put, List.setIfInBounds_toArray, List.set_cons_zero, List.set_cons_succ]
                  refine wpAnyH_ready (rs := [15]) (by kernel_rfl) (by simp) ?_
                  refine AllReadyH.cons (o := ⟨some 73, _, _, _, _, _⟩) rfl (fun K hK => ?_) AllReadyH.nil
                  go_simp
                  ((refine (HP11.out _).mono ?_); rintro e v15 ⟨rfl, rfl⟩)
                  refine hK.out _ _ ?ss54 (fun hHeld2 => ?rr54)
                  case ss54 => (try dsimp only); exact hHeld
                  clear hK K
                  clear hHeld2
                  try simp only [Act.put, List.setIfInBounds_toArray, List.set_cons_zero, List.set_cons_succ]
                  refine wpAnyH_ready (rs := [17]) (by kernel_rfl) (by simp) ?_
                  refine AllReadyH.cons (o := ⟨some 75, _, _, _, _, _⟩) rfl (fun K hK => ?_) AllReadyH.nil
                  go_simp
                  ((refine (HP21.out _).mono ?_); rintro e v17 ⟨rfl, rfl⟩)
                  refine hK.out _ _ ?ss55 (fun hHeld2 => ?rr55)
                  case ss55 => (try dsimp only); exact hHeld
                  clear hK K
                  clear hHeld2
                  try simp only [Act.put, List.setIfInBounds_toArray, List.set_cons_zero, List.set_cons_succ]
                  refine wpAnyH_ready (rs := [18]) (by kernel_rfl) (by simp) ?_
                  refine AllReadyH.cons (o := ⟨some 76, _, _, _, _, _⟩) rfl (fun K hK => ?_) AllReadyH.nil
                  go_simp
                  ((refine (HC1.out _ hb5).mono ?_); rintro e w6 ⟨rfl, hb6'⟩; have hb6 : Below W4.heap.size W4 w6 := bl hb5 hb6'; clear hb6')
                  refine hK.out _ _ ?ss56 (fun hHeld2 => ?rr56)
                  case ss56 => (try dsimp only); exact HS.out _ hb6
                  clear hK K
                  clear hHeld
                  have hHeld := hHeld2
                  clear hHeld2
                  try simp only [Act.put, List.setIfInBounds_toArray, List.set_cons_zero, List.set_cons_succ]
                  refine wpAnyH_take (i := 19) (oi := ⟨some 77, _, _, _, _, _⟩) (v := ?vv57) rfl (by kernel_rfl) (by kernel_rfl) (by kernel_rfl) (fun _ _ _ h => h) (Or.inl ⟨by rfl, ?yy57⟩) (by assumption) ?rr57
                  case yy57 => (intro wq hSw; (try dsimp only at hSw); go_simp; try with_reducible rfl)
                  try simp only [Act.put, List.setIfInBounds_toArray, List.set_cons_zero, List.set_cons_succ]
                  refine wpAnyH_take (i := 20) (oi := ⟨some 6, _, _, _, _, _⟩) (v := ?vv58) rfl (by kernel_rfl) (by kernel_rfl) (by kernel_rfl) (fun _ _ _ h => h) (Or.inl ⟨by rfl, ?yy58⟩) (by assumption) ?rr58
                  case yy58 => (intro wq hSw; (try dsimp only at hSw); go_simp; try with_reducible rfl)
                  try simp only [Act.put, List.setIfInBounds_toArray, List.set_cons_zero, List.set_cons_succ]
                  refine wpAnyH_done (by kernel_rfl) ?_ _
                  have hbx := hHeld.1
                  clear hHeld
                  go_wp2_with fail
                  go_ret
                  exact ⟨by rw [HR1.out (by first | trivial | rfl)]; rfl, bl HBXW.out hbx⟩
              · by_cases h120 : h = 120
                · subst h120
                  obtain rfl : n = 2 := HN.out.symm
                  rw [show ((120 : Int) == 62) = false from rfl] at HO3
                  rw [show ((120 : Int) == 120) = true from rfl] at HO6
                  have HP10 := Lib.hid (fun W => part_kx HS'OK.out.1 HS'OK.out.2 HH.out.2.1 (m := 0) (by omega) W)
                  have HP11 := Lib.hid (fun W => part_kx HS'OK.out.1 HS'OK.out.2 HH.out.2.1 (m := 1) (by omega) W)
                  have HP20 := Lib.hid (fun W => part_kx HT'OK.out.1 HT'OK.out.2 HH.out.2.2.1 (m := 0) (by omega) W)
                  have HP21 := Lib.hid (fun W => part_kx HT'OK.out.1 HT'OK.out.2 HH.out.2.2.1 (m := 1) (by omega) W)
                  rw [HSS0.out] at HP10
                  rw [HTT0.out] at HP20
                  rw [HSS0.out] at HP11
                  rw [HTT0.out] at HP21
                  have HU0 := Lib.hid (show goK 120 a b S' T' 0 = goesC (kidT a b 0) (kkD S' 0) (kkD T' 0) from rfl)
                  have HU1 := Lib.hid (show goK 120 a b S' T' 1 = goesC (kidT a b 1) (kkD T' 1) (kkD S' 1) from rfl)
                  obtain ⟨g, o, sk0, rfl, hCg, hgl, hsk0, q0⟩ := HKID.out 0 (by omega)
                  obtain ⟨g', o', sk1, hgo, _, _, hsk1, q1⟩ := HKID.out 1 (by omega)
                  obtain ⟨rfl, rfl⟩ : g = g' ∧ o = o' := by injection hgo with e; injection e with e1 e2; exact ⟨e1, e2⟩
                  obtain ⟨A0, c0, rfl, _, _⟩ := hsk0.slice
                  obtain ⟨A1, c1, rfl, _, _⟩ := hsk1.slice
                  have hbw0 : Below w.heap.size w W4 := HBXW.out
                  have hih0 := fun W (hb : Below W4.heap.size W4 W) => HIH.out 0 A0 c0 (kkD S' 0) (kkD T' 0) W (by omega) (hsk0.below (bl hbw0 hb)) (kkD_ok (i := 0) HS'OK.out.1 HS'OK.out.2).1 (kkD_ok (i := 0) HT'OK.out.1 HT'OK.out.2).1 (kkD_ok (i := 0) HS'OK.out.1 HS'OK.out.2).2 (kkD_ok (i := 0) HT'OK.out.1 HT'OK.out.2).2
                  have hih1 := fun W (hb : Below W4.heap.size W4 W) => HIH.out 1 A1 c1 (kkD T' 1) (kkD S' 1) W (by omega) (hsk1.below (bl hbw0 hb)) (kkD_ok (i := 1) HT'OK.out.1 HT'OK.out.2).1 (kkD_ok (i := 1) HS'OK.out.1 HS'OK.out.2).1 (kkD_ok (i := 1) HT'OK.out.1 HT'OK.out.2).2 (kkD_ok (i := 1) HS'OK.out.1 HS'OK.out.2).2
                  unfold NV at hih0 hih1
                  have kc : ∀ i u W', w.cell? ⟨g, i, none⟩ = some u → Below W4.heap.size W4 W' → W'.cell? ⟨g, i, none⟩ = some u := fun i u W' hu hb => ((bl hbw0 hb).cell (p := ⟨g, i, none⟩) hgl).trans hu
                  have q0' : w.cell? ⟨g, o, none⟩ = some (.int .i8 (kidT a b 0).nd.op) ∧ w.cell? ⟨g, o + 1, none⟩ = some (.int .i64 (kidT a b 0).nd.pj) ∧ w.cell? ⟨g, o + 2, none⟩ = some (.bool (kidT a b 0).nd.ij) ∧ w.cell? ⟨g, o + 3, none⟩ = some (.int .u8 (kidT a b 0).nd.hd) ∧ w.cell? ⟨g, o + 4, none⟩ = some (.int .i64 (kidT a b 0).nd.lb) ∧ w.cell? ⟨g, o + 5, none⟩ = some (.int .u8 (kidT a b 0).nd.fr) ∧ w.cell? ⟨g, o + 6, none⟩ = some (.int .u8 (kidT a b 0).nd.to) ∧ w.cell? ⟨g, o + 7, none⟩ = some (.slice A0 (kidT a b 0).nk c0) := q0
                  clear q0
                  have q1' : w.cell? ⟨g, o + 8, none⟩ = some (.int .i8 (kidT a b 1).nd.op) ∧ w.cell? ⟨g, o + 9, none⟩ = some (.int .i64 (kidT a b 1).nd.pj) ∧ w.cell? ⟨g, o + 10, none⟩ = some (.bool (kidT a b 1).nd.ij) ∧ w.cell? ⟨g, o + 11, none⟩ = some (.int .u8 (kidT a b 1).nd.hd) ∧ w.cell? ⟨g, o + 12, none⟩ = some (.int .i64 (kidT a b 1).nd.lb) ∧ w.cell? ⟨g, o + 13, none⟩ = some (.int .u8 (kidT a b 1).nd.fr) ∧ w.cell? ⟨g, o + 14, none⟩ = some (.int .u8 (kidT a b 1).nd.to) ∧ w.cell? ⟨g, o + 15, none⟩ = some (.slice A1 (kidT a b 1).nk c1) := q1
                  clear q1
                  obtain ⟨Y0, hY0⟩ : ∃ Y, goesC (kidT a b 0) (kkD S' 0) (kkD T' 0) = Y := ⟨_, rfl⟩
                  obtain ⟨Y1, hY1⟩ : ∃ Y, goesC (kidT a b 1) (kkD T' 1) (kkD S' 1) = Y := ⟨_, rfl⟩
                  rw [hY0] at hih0
                  rw [hY1] at hih1
                  have HY0 := Lib.hid (HU0.out.trans hY0)
                  have HY1 := Lib.hid (HU1.out.trans hY1)
                  obtain ⟨s0a, hs0a⟩ : ∃ x, str (kkD S' 0) = x := ⟨_, rfl⟩
                  obtain ⟨s0b, hs0b⟩ : ∃ x, str (kkD T' 0) = x := ⟨_, rfl⟩
                  rw [hs0a] at hih0 HP10
                  rw [hs0b] at hih0 HP20
                  generalize (kidT a b 0).nk = n0 at *
                  obtain ⟨nd0, hnd0⟩ : ∃ x, (kidT a b 0).nd = x := ⟨_, rfl⟩
                  rw [hnd0] at q0' hih0
                  obtain ⟨x0, x1, x2, x3, x4, x5, x6⟩ := nd0
                  simp only at q0' hih0
                  obtain ⟨s1a, hs1a⟩ : ∃ x, str (kkD S' 1) = x := ⟨_, rfl⟩
                  obtain ⟨s1b, hs1b⟩ : ∃ x, str (kkD T' 1) = x := ⟨_, rfl⟩
                  rw [hs1a] at hih1 HP11
                  rw [hs1b] at hih1 HP21
                  generalize (kidT a b 1).nk = n1 at *
                  obtain ⟨nd1, hnd1⟩ : ∃ x, (kidT a b 1).nd = x := ⟨_, rfl⟩
                  rw [hnd1] at q1' hih1
                  obtain ⟨y0, y1, y2, y3, y4, y5, y6⟩ := nd1
                  simp only at q1' hih1
                  obtain ⟨p00, p01, p02, p03, p04, p05, p06, p07⟩ := q0'
                  obtain ⟨p10, p11, p12, p13, p14, p15, p16, p17⟩ := q1'
                  have hSS := fun W' (hb' : Below W4.heap.size W4 W') => (⟨hb', (HK.out W' (bl HBX.out hb')).2.2.2.2.2, kc _ _ W' p00 hb', kc _ _ W' p01 hb', kc _ _ W' p02 hb', kc _ _ W' p03 hb', kc _ _ W' p04 hb', kc _ _ W' p05 hb', kc _ _ W' p06 hb', kc _ _ W' p07 hb', kc _ _ W' p10 hb', kc _ _ W' p11 hb', kc _ _ W' p12 hb', kc _ _ W' p13 hb', kc _ _ W' p14 hb', kc _ _ W' p15 hb', kc _ _ W' p16 hb', kc _ _ W' p17 hb'⟩ :
                    Below W4.heap.size W4 W' ∧ W'.cell? ⟨w.heap.size, 7, none⟩ = some (.slice (some ⟨g, o, none⟩) 2 c) ∧ W'.cell? ⟨g, o, none⟩ = some (.int .i8 x0) ∧ W'.cell? ⟨g, o + 1, none⟩ = some (.int .i64 x1) ∧ W'.cell? ⟨g, o + 2, none⟩ = some (.bool x2) ∧ W'.cell? ⟨g, o + 3, none⟩ = some (.int .u8 x3) ∧ W'.cell? ⟨g, o + 4, none⟩ = some (.int .i64 x4) ∧ W'.cell? ⟨g, o + 5, none⟩ = some (.int .u8 x5) ∧ W'.cell? ⟨g, o + 6, none⟩ = some (.int .u8 x6) ∧ W'.cell? ⟨g, o + 7, none⟩ = some (.slice A0 n0 c0) ∧ W'.cell? ⟨g, o + 8, none⟩ = some (.int .i8 y0) ∧ W'.cell? ⟨g, o + 9, none⟩ = some (.int .i64 y1) ∧ W'.cell? ⟨g, o + 10, none⟩ = some (.bool y2) ∧ W'.cell? ⟨g, o + 11, none⟩ = some (.int .u8 y3) ∧ W'.cell? ⟨g, o + 12, none⟩ = some (.int .i64 y4) ∧ W'.cell? ⟨g, o + 13, none⟩ = some (.int .u8 y5) ∧ W'.cell? ⟨g, o + 14, none⟩ = some (.int .u8 y6) ∧ W'.cell? ⟨g, o + 15, none⟩ = some (.slice A1 n1 c1))
                  have HS := Lib.hid hSS
                  have HC0 := Lib.hid hih0
                  have HC1 := Lib.hid hih1
                  have HR1 := Lib.hid (show Y0 = true → R = Y1 from fun h0 => by
                    cases hy : Y1
                    · exact HRF.out 1 (by omega) (HY1.out.trans hy)
                    · refine HRT.out fun m hm => ?_
                      rcases m with _ | _ | m
                      · exact HY0.out.trans h0
                      · exact HY1.out.trans hy
                      · omega)
                  clear hih0 hih1 hSS hY0 hY1 hs0a hs0b hs1a hs1b hnd0 hnd1 kc hbw0 hsk0 hsk1 k1 k2 k3 p00 p01 p02 p03 p04 p05 p06 p07 p10 p11 p12 p13 p14 p15 p16 p17
                  cases Y0
                  · go_wp2_with fail
                    refine wp_region_held_drew (S := (fun W' => Below W4.heap.size W4 W' ∧ W'.cell? ⟨w.heap.size, 7, none⟩ = some (.slice (some ⟨g, o, none⟩) 2 c) ∧ W'.cell? ⟨g, o, none⟩ = some (.int .i8 x0) ∧ W'.cell? ⟨g, o + 1, none⟩ = some (.int .i64 x1) ∧ W'.cell? ⟨g, o + 2, none⟩ = some (.bool x2) ∧ W'.cell? ⟨g, o + 3, none⟩ = some (.int .u8 x3) ∧ W'.cell? ⟨g, o + 4, none⟩ = some (.int .i64 x4) ∧ W'.cell? ⟨g, o + 5, none⟩ = some (.int .u8 x5) ∧ W'.cell? ⟨g, o + 6, none⟩ = some (.int .u8 x6) ∧ W'.cell? ⟨g, o + 7, none⟩ = some (.slice A0 n0 c0) ∧ W'.cell? ⟨g, o + 8, none⟩ = some (.int .i8 y0) ∧ W'.cell? ⟨g, o + 9, none⟩ = some (.int .i64 y1) ∧ W'.cell? ⟨g, o + 10, none⟩ = some (.bool y2) ∧ W'.cell? ⟨g, o + 11, none⟩ = some (.int .u8 y3) ∧ W'.cell? ⟨g, o + 12, none⟩ = some (.int .i64 y4) ∧ W'.cell? ⟨g, o + 13, none⟩ = some (.int .u8 y5) ∧ W'.cell? ⟨g, o + 14, none⟩ = some (.int .u8 y6) ∧ W'.cell? ⟨g, o + 15, none⟩ = some (.slice A1 n1 c1))) (by kernel_rfl) ?ss59 (fun hHeld => ?rr59)
                    case ss59 => (try dsimp only); exact HS.out _ (Below.refl _ _).drew
                    refine wpAnyH_take (i := 0) (oi := ⟨some 80, _, _, _, _, _⟩) (v := ?vv60) rfl (by kernel_rfl) (by kernel_rfl) (by kernel_rfl) (fun _ _ _ h => h) (Or.inl ⟨by rfl, ?yy60⟩) (by assumption) ?rr60
                    case yy60 => (intro wq hSw; (try dsimp only at hSw); go_simp; try with_reducible rfl)
                    try simp only [Act.put, List.setIfInBounds_toArray, List.set_cons_zero, List.set_cons_succ]
                    refine wpAnyH_take (i := 1) (oi := ⟨some 81, _, _, _, _, _⟩) (v := ?vv61) rfl (by kernel_rfl) (by kernel_rfl) (by kernel_rfl) (fun _ _ _ h => h) (Or.inl ⟨by rfl, ?yy61⟩) (by assumption) ?rr61
                    case yy61 => (intro wq hSw; (try dsimp only at hSw); go_simp; try with_reducible rfl)
                    try simp only [Act.put, List.setIfInBounds_toArray, List.set_cons_zero, List.set_cons_succ]
                    refine wpAnyH_take (i := 2) (oi := ⟨some 82, _, _, _, _, _⟩) (v := ?vv62) rfl (by kernel_rfl) (by kernel_rfl) (by kernel_rfl) (fun _ _ _ h => h) (Or.inl ⟨by rfl, ?yy62⟩) (by assumption) ?rr62
                    case yy62 => (intro wq hSw; (try dsimp only at hSw); go_simp; try with_reducible rfl)
                    try simp only [Act.put, List.setIfInBounds_toArray, List.set_cons_zero, List.set_cons_succ]
                    refine wpAnyH_take (i := 3) (oi := ⟨some 83, _, _, _, _, _⟩) (v := ?vv63) rfl (by kernel_rfl) (by kernel_rfl) (by kernel_rfl) (fun _ _ _ h => h) (Or.inl ⟨by rfl, ?yy63⟩) (by assumption) ?rr63
                    case yy63 => (intro wq hSw; (try dsimp only at hSw); go_simp; try with_reducible rfl)
                    try simp only [Act.put, List.setIfInBounds_toArray, List.set_cons_zero, List.set_cons_succ]
                    refine wpAnyH_take (i := 4) (oi := ⟨some 84, _, _, _, _, _⟩) (v := ?vv64) rfl (by kernel_rfl) (by kernel_rfl) (by kernel_rfl) (fun _ _ _ h => h) (Or.inl ⟨by rfl, ?yy64⟩) (by assumption) ?rr64
                    case yy64 => (intro wq hSw; (try dsimp only at hSw); go_simp; try with_reducible rfl)
                    try simp only [Act.put, List.setIfInBounds_toArray, List.set_cons_zero, List.set_cons_succ]
                    refine wpAnyH_take (i := 6) (oi := ⟨some 86, _, _, _, _, _⟩) (v := ?vv65) rfl (by kernel_rfl) (by kernel_rfl) (by kernel_rfl) (fun _ _ _ h => h) (Or.inl ⟨by rfl, ?yy65⟩) (by assumption) ?rr65
                    case yy65 => (intro wq hSw; (try dsimp only at hSw); go_simp; try with_reducible rfl)
                    try simp only [Act.put, List.setIfInBounds_toArray, List.set_cons_zero, List.set_cons_succ]
                    refine wpAnyH_ready (rs := [5]) (by kernel_rfl) (by simp) ?_
                    refine AllReadyH.cons (o := ⟨some 85, _, _, _, _, _⟩) rfl (fun K hK => ?_) AllReadyH.nil
                    go_simp
                    ((refine (HP10.out _).mono ?_); rintro e v5 ⟨rfl, rfl⟩)
                    refine hK.out _ _ ?ss66 (fun hHeld2 => ?rr66)
                    case ss66 => (try dsimp only); exact hHeld
                    clear hK K
                    clear hHeld2
                    try simp only [Act.put, List.setIfInBounds_toArray, List.set_cons_zero, List.set_cons_succ]
                    refine wpAnyH_ready (rs := [7]) (by kernel_rfl) (by simp) ?_
                    refine AllReadyH.cons (o := ⟨some 87, _, _, _, _, _⟩) rfl (fun K hK => ?_) AllReadyH.nil
                    go_simp
                    ((refine (HP20.out _).mono ?_); rintro e v7 ⟨rfl, rfl⟩)
                    refine hK.out _ _ ?ss67 (fun hHeld2 => ?rr67)
                    case ss67 => (try dsimp only); exact hHeld
                    clear hK K
                    clear hHeld2
                    try simp only [Act.put, List.setIfInBounds_toArray, List.set_cons_zero, List.set_cons_succ]
                    refine wpAnyH_ready (rs := [8]) (by kernel_rfl) (by simp) ?_
                    refine AllReadyH.cons (o := ⟨some 88, _, _, _, _, _⟩) rfl (fun K hK => ?_) AllReadyH.nil
                    go_simp
                    ((refine (HC0.out _ (Below.refl _ _).drew).mono ?_); rintro e w5 ⟨rfl, hb5'⟩; have hb5 : Below W4.heap.size W4 w5 := bl (Below.refl _ _).drew hb5'; clear hb5')
                    refine hK.out _ _ ?ss68 (fun hHeld2 => ?rr68)
                    case ss68 => (try dsimp only); exact HS.out _ hb5
                    clear hK K
                    clear hHeld
                    have hHeld := hHeld2
                    clear hHeld2
                    try simp only [Act.put, List.setIfInBounds_toArray, List.set_cons_zero, List.set_cons_succ]
                    refine wpAnyH_take (i := 9) (oi := ⟨some 89, _, _, _, _, _⟩) (v := ?vv69) rfl (by kernel_rfl) (by kernel_rfl) (by kernel_rfl) (fun _ _ _ h => h) (Or.inl ⟨by rfl, ?yy69⟩) (by assumption) ?rr69
                    case yy69 => (intro wq hSw; (try dsimp only at hSw); go_simp; try with_reducible rfl)
                    try simp only [Act.put, List.setIfInBounds_toArray, List.set_cons_zero, List.set_cons_succ]
                    refine wpAnyH_take (i := 10) (oi := ⟨some 90, _, _, _, _, _⟩) (v := undef) rfl (by kernel_rfl) (by kernel_rfl) (by kernel_rfl) (fun _ _ _ h => h) (Or.inr ⟨by rfl, rfl⟩) (by assumption) ?rr70
                    try simp only [Act.put, List.setIfInBounds_toArray, List.set_cons_zero, List.set_cons_succ]
                    refine wpAnyH_take (i := 11) (oi := ⟨some 91, _, _, _, _, _⟩) (v := undef) rfl (by kernel_rfl) (by kernel_rfl) (by kernel_rfl) (fun _ _ _ h => h) (Or.inr ⟨by rfl, rfl⟩) (by assumption) ?rr71
                    try simp only [Act.put, List.setIfInBounds_toArray, List.set_cons_zero, List.set_cons_succ]
                    refine wpAnyH_take (i := 12) (oi := ⟨some 92, _, _, _, _, _⟩) (v := undef) rfl (by kernel_rfl) (by kernel_rfl) (by kernel_rfl) (fun _ _ _ h => h) (Or.inr ⟨by rfl, rfl⟩) (by assumption) ?rr72
                    try simp only [Act.put, List.setIfInBounds_toArray, List.set_cons_zero, List.set_cons_succ]
                    refine wpAnyH_take (i := 13) (oi := ⟨some 93, _, _, _, _, _⟩) (v := undef) rfl (by kernel_rfl) (by kernel_rfl) (by kernel_rfl) (fun _ _ _ h => h) (Or.inr ⟨by rfl, rfl⟩) (by assumption) ?rr73
                    try simp only [Act.put, List.setIfInBounds_toArray, List.set_cons_zero, List.set_cons_succ]
                    refine wpAnyH_take (i := 14) (oi := ⟨some 94, _, _, _, _, _⟩) (v := undef) rfl (by kernel_rfl) (by kernel_rfl) (by kernel_rfl) (fun _ _ _ h => h) (Or.inr ⟨by rfl, rfl⟩) (by assumption) ?rr74
                    try simp only [Act.put, List.setIfInBounds_toArray, List.set_cons_zero, List.set_cons_succ]
                    refine wpAnyH_take (i := 15) (oi := ⟨some 95, _, _, _, _, _⟩) (v := undef) rfl (by kernel_rfl) (by kernel_rfl) (by kernel_rfl) (fun _ _ _ h => h) (Or.inr ⟨by rfl, rfl⟩) (by assumption) ?rr75
                    try simp only [Act.put, List.setIfInBounds_toArray, List.set_cons_zero, List.set_cons_succ]
                    refine wpAnyH_take (i := 16) (oi := ⟨some 96, _, _, _, _, _⟩) (v := undef) rfl (by kernel_rfl) (by kernel_rfl) (by kernel_rfl) (fun _ _ _ h => h) (Or.inr ⟨by rfl, rfl⟩) (by assumption) ?rr76
                    try simp only [Act.put, List.setIfInBounds_toArray, List.set_cons_zero, List.set_cons_succ]
                    refine wpAnyH_take (i := 17) (oi := ⟨some 97, _, _, _, _, _⟩) (v := undef) rfl (by kernel_rfl) (by kernel_rfl) (by kernel_rfl) (fun _ _ _ h => h) (Or.inr ⟨by rfl, rfl⟩) (by assumption) ?rr77
                    try simp only [Act.put, List.setIfInBounds_toArray, List.set_cons_zero, List.set_cons_succ]
                    refine wpAnyH_take (i := 18) (oi := ⟨some 98, _, _, _, _, _⟩) (v := undef) rfl (by kernel_rfl) (by kernel_rfl) (by kernel_rfl) (fun _ _ _ h => h) (Or.inr ⟨by rfl, rfl⟩) (by assumption) ?rr78
                    try simp only [Act.put, List.setIfInBounds_toArray, List.set_cons_zero, List.set_cons_succ]
                    refine wpAnyH_take (i := 19) (oi := ⟨some 99, _, _, _, _, _⟩) (v := ?vv79) rfl (by kernel_rfl) (by kernel_rfl) (by kernel_rfl) (fun _ _ _ h => h) (Or.inl ⟨by rfl, ?yy79⟩) (by assumption) ?rr79
                    case yy79 => (intro wq hSw; (try dsimp only at hSw); go_simp; try with_reducible rfl)
                    try simp only [Act.put, List.setIfInBounds_toArray, List.set_cons_zero, List.set_cons_succ]
                    refine wpAnyH_take (i := 20) (oi := ⟨some 6, _, _, _, _, _⟩) (v := ?vv80) rfl (by kernel_rfl) (by kernel_rfl) (by kernel_rfl) (fun _ _ _ h => h) (Or.inl ⟨by rfl, ?yy80⟩) (by assumption) ?rr80
                    case yy80 => (intro wq hSw; (try dsimp only at hSw); go_simp; try with_reducible rfl)
                    try simp only [Act.put, List.setIfInBounds_toArray, List.set_cons_zero, List.set_cons_succ]
                    refine wpAnyH_done (by kernel_rfl) ?_ _
                    have hbx := hHeld.1
                    clear hHeld
                    go_wp2_with fail
                    go_ret
                    exact ⟨by rw [HRF.out 0 (by omega) HY0.out]; rfl, bl HBXW.out hbx⟩
                  · go_wp2_with fail
                    refine wp_region_held_drew (S := (fun W' => Below W4.heap.size W4 W' ∧ W'.cell? ⟨w.heap.size, 7, none⟩ = some (.slice (some ⟨g, o, none⟩) 2 c) ∧ W'.cell? ⟨g, o, none⟩ = some (.int .i8 x0) ∧ W'.cell? ⟨g, o + 1, none⟩ = some (.int .i64 x1) ∧ W'.cell? ⟨g, o + 2, none⟩ = some (.bool x2) ∧ W'.cell? ⟨g, o + 3, none⟩ = some (.int .u8 x3) ∧ W'.cell? ⟨g, o + 4, none⟩ = some (.int .i64 x4) ∧ W'.cell? ⟨g, o + 5, none⟩ = some (.int .u8 x5) ∧ W'.cell? ⟨g, o + 6, none⟩ = some (.int .u8 x6) ∧ W'.cell? ⟨g, o + 7, none⟩ = some (.slice A0 n0 c0) ∧ W'.cell? ⟨g, o + 8, none⟩ = some (.int .i8 y0) ∧ W'.cell? ⟨g, o + 9, none⟩ = some (.int .i64 y1) ∧ W'.cell? ⟨g, o + 10, none⟩ = some (.bool y2) ∧ W'.cell? ⟨g, o + 11, none⟩ = some (.int .u8 y3) ∧ W'.cell? ⟨g, o + 12, none⟩ = some (.int .i64 y4) ∧ W'.cell? ⟨g, o + 13, none⟩ = some (.int .u8 y5) ∧ W'.cell? ⟨g, o + 14, none⟩ = some (.int .u8 y6) ∧ W'.cell? ⟨g, o + 15, none⟩ = some (.slice A1 n1 c1))) (by kernel_rfl) ?ss81 (fun hHeld => ?rr81)
                    case ss81 => (try dsimp only); exact HS.out _ (Below.refl _ _).drew
                    refine wpAnyH_take (i := 0) (oi := ⟨some 80, _, _, _, _, _⟩) (v := ?vv82) rfl (by kernel_rfl) (by kernel_rfl) (by kernel_rfl) (fun _ _ _ h => h) (Or.inl ⟨by rfl, ?yy82⟩) (by assumption) ?rr82
                    case yy82 => (intro wq hSw; (try dsimp only at hSw); go_simp; try with_reducible rfl)
                    try simp only [Act.put, List.setIfInBounds_toArray, List.set_cons_zero, List.set_cons_succ]
                    refine wpAnyH_take (i := 1) (oi := ⟨some 81, _, _, _, _, _⟩) (v := ?vv83) rfl (by kernel_rfl) (by kernel_rfl) (by kernel_rfl) (fun _ _ _ h => h) (Or.inl ⟨by rfl, ?yy83⟩) (by assumption) ?rr83
                    case yy83 => (intro wq hSw; (try dsimp only at hSw); go_simp; try with_reducible rfl)
                    try simp only [Act.put, List.setIfInBounds_toArray, List.set_cons_zero, List.set_cons_succ]
                    refine wpAnyH_take (i := 2) (oi := ⟨some 82, _, _, _, _, _⟩) (v := ?vv84) rfl (by kernel_rfl) (by kernel_rfl) (by kernel_rfl) (fun _ _ _ h => h) (Or.inl ⟨by rfl, ?yy84⟩) (by assumption) ?rr84
                    case yy84 => (intro wq hSw; (try dsimp only at hSw); go_simp; try with_reducible rfl)
                    try simp only [Act.put, List.setIfInBounds_toArray, List.set_cons_zero, List.set_cons_succ]
                    refine wpAnyH_take (i := 3) (oi := ⟨some 83, _, _, _, _, _⟩) (v := ?vv85) rfl (by kernel_rfl) (by kernel_rfl) (by kernel_rfl) (fun _ _ _ h => h) (Or.inl ⟨by rfl, ?yy85⟩) (by assumption) ?rr85
                    case yy85 => (intro wq hSw; (try dsimp only at hSw); go_simp; try with_reducible rfl)
                    try simp only [Act.put, List.setIfInBounds_toArray, List.set_cons_zero, List.set_cons_succ]
                    refine wpAnyH_take (i := 4) (oi := ⟨some 84, _, _, _, _, _⟩) (v := ?vv86) rfl (by kernel_rfl) (by kernel_rfl) (by kernel_rfl) (fun _ _ _ h => h) (Or.inl ⟨by rfl, ?yy86⟩) (by assumption) ?rr86
                    case yy86 => (intro wq hSw; (try dsimp only at hSw); go_simp; try with_reducible rfl)
                    try simp only [Act.put, List.setIfInBounds_toArray, List.set_cons_zero, List.set_cons_succ]
                    refine wpAnyH_take (i := 6) (oi := ⟨some 86, _, _, _, _, _⟩) (v := ?vv87) rfl (by kernel_rfl) (by kernel_rfl) (by kernel_rfl) (fun _ _ _ h => h) (Or.inl ⟨by rfl, ?yy87⟩) (by assumption) ?rr87
                    case yy87 => (intro wq hSw; (try dsimp only at hSw); go_simp; try with_reducible rfl)
                    try simp only [Act.put, List.setIfInBounds_toArray, List.set_cons_zero, List.set_cons_succ]
                    refine wpAnyH_ready (rs := [5]) (by kernel_rfl) (by simp) ?_
                    refine AllReadyH.cons (o := ⟨some 85, _, _, _, _, _⟩) rfl (fun K hK => ?_) AllReadyH.nil
                    go_simp
                    ((refine (HP10.out _).mono ?_); rintro e v5 ⟨rfl, rfl⟩)
                    refine hK.out _ _ ?ss88 (fun hHeld2 => ?rr88)
                    case ss88 => (try dsimp only); exact hHeld
                    clear hK K
                    clear hHeld2
                    try simp only [Act.put, List.setIfInBounds_toArray, List.set_cons_zero, List.set_cons_succ]
                    refine wpAnyH_ready (rs := [7]) (by kernel_rfl) (by simp) ?_
                    refine AllReadyH.cons (o := ⟨some 87, _, _, _, _, _⟩) rfl (fun K hK => ?_) AllReadyH.nil
                    go_simp
                    ((refine (HP20.out _).mono ?_); rintro e v7 ⟨rfl, rfl⟩)
                    refine hK.out _ _ ?ss89 (fun hHeld2 => ?rr89)
                    case ss89 => (try dsimp only); exact hHeld
                    clear hK K
                    clear hHeld2
                    try simp only [Act.put, List.setIfInBounds_toArray, List.set_cons_zero, List.set_cons_succ]
                    refine wpAnyH_ready (rs := [8]) (by kernel_rfl) (by simp) ?_
                    refine AllReadyH.cons (o := ⟨some 88, _, _, _, _, _⟩) rfl (fun K hK => ?_) AllReadyH.nil
                    go_simp
                    ((refine (HC0.out _ (Below.refl _ _).drew).mono ?_); rintro e w5 ⟨rfl, hb5'⟩; have hb5 : Below W4.heap.size W4 w5 := bl (Below.refl _ _).drew hb5'; clear hb5')
                    refine hK.out _ _ ?ss90 (fun hHeld2 => ?rr90)
                    case ss90 => (try dsimp only); exact HS.out _ hb5
                    clear hK K
                    clear hHeld
                    have hHeld := hHeld2
                    clear hHeld2
                    try simp only [Act.put, List.setIfInBounds_toArray, List.set_cons_zero, List.set_cons_succ]
                    refine wpAnyH_take (i := 9) (oi := ⟨some 89, _, _, _, _, _⟩) (v := ?vv91) rfl (by kernel_rfl) (by kernel_rfl) (by kernel_rfl) (fun _ _ _ h => h) (Or.inl ⟨by rfl, ?yy91⟩) (by assumption) ?rr91
                    case yy91 => (intro wq hSw; (try dsimp only at hSw); go_simp; try with_reducible rfl)
                    try simp only [Act.put, List.setIfInBounds_toArray, List.set_cons_zero, List.set_cons_succ]
                    refine wpAnyH_take (i := 10) (oi := ⟨some 90, _, _, _, _, _⟩) (v := ?vv92) rfl (by kernel_rfl) (by kernel_rfl) (by kernel_rfl) (fun _ _ _ h => h) (Or.inl ⟨by rfl, ?yy92⟩) (by assumption) ?rr92
                    case yy92 => (intro wq hSw; (try dsimp only at hSw); go_simp; try with_reducible rfl)
                    try simp only [Act.put, List.setIfInBounds_toArray, List.set_cons_zero, List.set_cons_succ]
                    refine wpAnyH_take (i := 11) (oi := ⟨some 91, _, _, _, _, _⟩) (v := ?vv93) rfl (by kernel_rfl) (by kernel_rfl) (by kernel_rfl) (fun _ _ _ h => h) (Or.inl ⟨by rfl, ?yy93⟩) (by assumption) ?rr93
                    case yy93 => (intro wq hSw; (try dsimp only at hSw); go_simp; try with_reducible rfl)
                    try simp only [Act.put, List.setIfInBounds_toArray, List.set_cons_zero, List.set_cons_succ]
                    refine wpAnyH_take (i := 12) (oi := ⟨some 92, _, _, _, _, _⟩) (v := ?vv94) rfl (by kernel_rfl) (by kernel_rfl) (by kernel_rfl) (fun _ _ _ h => h) (Or.inl ⟨by rfl, ?yy94⟩) (by assumption) ?rr94
                    case yy94 => (intro wq hSw; (try dsimp only at hSw); go_simp; try with_reducible rfl)
                    try simp only [Act.put, List.setIfInBounds_toArray, List.set_cons_zero, List.set_cons_succ]
                    refine wpAnyH_take (i := 13) (oi := ⟨some 93, _, _, _, _, _⟩) (v := ?vv95) rfl (by kernel_rfl) (by kernel_rfl) (by kernel_rfl) (fun _ _ _ h => h) (Or.inl ⟨by rfl, ?yy95⟩) (by assumption) ?rr95
                    case yy95 => (intro wq hSw; (try dsimp only at hSw); go_simp; try with_reducible rfl)
                    try simp only [Act.put, List.setIfInBounds_toArray, List.set_cons_zero, List.set_cons_succ]
                    refine wpAnyH_take (i := 14) (oi := ⟨some 94, _, _, _, _, _⟩) (v := ?vv96) rfl (by kernel_rfl) (by kernel_rfl) (by kernel_rfl) (fun _ _ _ h => h) (Or.inl ⟨by rfl, ?yy96⟩) (by assumption) ?rr96
                    case yy96 => (intro wq hSw; (try dsimp only at hSw); go_simp; try with_reducible rfl)
                    try simp only [Act.put, List.setIfInBounds_toArray, List.set_cons_zero, List.set_cons_succ]
                    refine wpAnyH_take (i := 16) (oi := ⟨some 96, _, _, _, _, _⟩) (v := ?vv97) rfl (by kernel_rfl) (by kernel_rfl) (by kernel_rfl) (fun _ _ _ h => h) (Or.inl ⟨by rfl, ?yy97⟩) (by assumption) ?rr97
                    case yy97 => (intro wq hSw; (try dsimp only at hSw); go_simp; try with_reducible rfl)
                    try simp only [Act.put, List.setIfInBounds_toArray, List.set_cons_zero, List.set_cons_succ]
                    refine wpAnyH_ready (rs := [15]) (by kernel_rfl) (by simp) ?_
                    refine AllReadyH.cons (o := ⟨some 95, _, _, _, _, _⟩) rfl (fun K hK => ?_) AllReadyH.nil
                    go_simp
                    ((refine (HP21.out _).mono ?_); rintro e v15 ⟨rfl, rfl⟩)
                    refine hK.out _ _ ?ss98 (fun hHeld2 => ?rr98)
                    case ss98 => (try dsimp only); exact hHeld
                    clear hK K
                    clear hHeld2
                    try simp only [Act.put, List.setIfInBounds_toArray, List.set_cons_zero, List.set_cons_succ]
                    refine wpAnyH_ready (rs := [17]) (by kernel_rfl) (by simp) ?_
                    refine AllReadyH.cons (o := ⟨some 97, _, _, _, _, _⟩) rfl (fun K hK => ?_) AllReadyH.nil
                    go_simp
                    ((refine (HP11.out _).mono ?_); rintro e v17 ⟨rfl, rfl⟩)
                    refine hK.out _ _ ?ss99 (fun hHeld2 => ?rr99)
                    case ss99 => (try dsimp only); exact hHeld
                    clear hK K
                    clear hHeld2
                    try simp only [Act.put, List.setIfInBounds_toArray, List.set_cons_zero, List.set_cons_succ]
                    refine wpAnyH_ready (rs := [18]) (by kernel_rfl) (by simp) ?_
                    refine AllReadyH.cons (o := ⟨some 98, _, _, _, _, _⟩) rfl (fun K hK => ?_) AllReadyH.nil
                    go_simp
                    ((refine (HC1.out _ hb5).mono ?_); rintro e w6 ⟨rfl, hb6'⟩; have hb6 : Below W4.heap.size W4 w6 := bl hb5 hb6'; clear hb6')
                    refine hK.out _ _ ?ss100 (fun hHeld2 => ?rr100)
                    case ss100 => (try dsimp only); exact HS.out _ hb6
                    clear hK K
                    clear hHeld
                    have hHeld := hHeld2
                    clear hHeld2
                    try simp only [Act.put, List.setIfInBounds_toArray, List.set_cons_zero, List.set_cons_succ]
                    refine wpAnyH_take (i := 19) (oi := ⟨some 99, _, _, _, _, _⟩) (v := ?vv101) rfl (by kernel_rfl) (by kernel_rfl) (by kernel_rfl) (fun _ _ _ h => h) (Or.inl ⟨by rfl, ?yy101⟩) (by assumption) ?rr101
                    case yy101 => (intro wq hSw; (try dsimp only at hSw); go_simp; try with_reducible rfl)
                    try simp only [Act.put, List.setIfInBounds_toArray, List.set_cons_zero, List.set_cons_succ]
                    refine wpAnyH_take (i := 20) (oi := ⟨some 6, _, _, _, _, _⟩) (v := ?vv102) rfl (by kernel_rfl) (by kernel_rfl) (by kernel_rfl) (fun _ _ _ h => h) (Or.inl ⟨by rfl, ?yy102⟩) (by assumption) ?rr102
                    case yy102 => (intro wq hSw; (try dsimp only at hSw); go_simp; try with_reducible rfl)
                    try simp only [Act.put, List.setIfInBounds_toArray, List.set_cons_zero, List.set_cons_succ]
                    refine wpAnyH_done (by kernel_rfl) ?_ _
                    have hbx := hHeld.1
                    clear hHeld
                    go_wp2_with fail
                    go_ret
                    exact ⟨by rw [HR1.out (by first | trivial | rfl)]; rfl, bl HBXW.out hbx⟩
                · have e62 : (h == 62) = false := by simpa using h62
                  have e120 : (h == 120) = false := by simpa using h120
                  rw [e62] at HO3
                  rw [e120] at HO6
                  have HP1 := Lib.hid (fun m (hm : m < n) W => part_kk HH.out.1 HS'OK.out.1 HS'OK.out.2 HH.out.2.1 HN.out hm h120 W)
                  have HP2 := Lib.hid (fun m (hm : m < n) W => part_kk HH.out.1 HT'OK.out.1 HT'OK.out.2 HH.out.2.2.1 HN.out hm h120 W)
                  rw [HSS0.out] at HP1
                  rw [HTT0.out] at HP2
                  have HTU := Lib.hid (show ∀ m, goK h a b S' T' m = goesC (kidT a b m) (kkD S' m) (kkD T' m) from by
                    intro m
                    unfold goK turnd
                    rw [e62, e120]; rfl)
                  clear e62 e120 h62 h120 k1 k2 k3
                  go_wp2_with fail
                  go_loopg [7] n (fun g u wr => ∃ m : Nat, m ≤ n ∧ g = n - m ∧ u = .int .i64 m ∧ Below W4.heap.size W4 wr ∧ ∀ x, x < m → goK h a b S' T' x = true)
                  case atStart => exact ⟨0, by omega, rfl, rfl, b0, fun x hx => absurd hx (by omega)⟩
                  case round =>
                    obtain ⟨m, hm, rfl, rfl, hbr, hal⟩ := hrel
                    have HBR := Lib.hid hbr
                    have HAL := Lib.hid hal
                    have k7 := (HK.out wr (bl HBX.out hbr)).2.2.2.2.2
                    clear hbr hal k0
                    by_cases hlt : m < n
                    · obtain ⟨g, o, sk, rfl, hCg, hgl, hsk, q0, q1, q2', q3, q4, q5, q6, q7⟩ := HKID.out m hlt
                      obtain ⟨Ak, ck, rfl, hk1, hk2⟩ := hsk.slice
                      have hbw0 : Below w.heap.size w wr := bl HBXW.out HBR.out
                      have hih := fun W (hb : Below wr.heap.size wr W) => HIH.out m Ak ck (kkD S' m) (kkD T' m) W hlt (hsk.below (bl hbw0 hb)) (kkD_ok (i := m) HS'OK.out.1 HS'OK.out.2).1 (kkD_ok (i := m) HT'OK.out.1 HT'OK.out.2).1 (kkD_ok (i := m) HS'OK.out.1 HS'OK.out.2).2 (kkD_ok (i := m) HT'OK.out.1 HT'OK.out.2).2
                      have hpa := fun W => HP1.out m hlt W
                      have hpb := fun W => HP2.out m hlt W
                      unfold NV at hih
                      have kc : ∀ i u W', w.cell? ⟨g, i, none⟩ = some u → Below wr.heap.size wr W' → W'.cell? ⟨g, i, none⟩ = some u := fun i u W' hu hb => ((bl hbw0 hb).cell (p := ⟨g, i, none⟩) hgl).trans hu
                      change w.cell? ⟨g, o + m * 8, none⟩ = some (.int .i8 (kidT a b m).nd.op) at q0
                      change w.cell? ⟨g, o + m * 8 + 1, none⟩ = some (.int .i64 (kidT a b m).nd.pj) at q1
                      change w.cell? ⟨g, o + m * 8 + 2, none⟩ = some (.bool (kidT a b m).nd.ij) at q2'
                      change w.cell? ⟨g, o + m * 8 + 3, none⟩ = some (.int .u8 (kidT a b m).nd.hd) at q3
                      change w.cell? ⟨g, o + m * 8 + 4, none⟩ = some (.int .i64 (kidT a b m).nd.lb) at q4
                      change w.cell? ⟨g, o + m * 8 + 5, none⟩ = some (.int .u8 (kidT a b m).nd.fr) at q5
                      change w.cell? ⟨g, o + m * 8 + 6, none⟩ = some (.int .u8 (kidT a b m).nd.to) at q6
                      change w.cell? ⟨g, o + m * 8 + 7, none⟩ = some (.slice Ak (kidT a b m).nk ck) at q7
                      obtain ⟨Y, hY⟩ : ∃ Y, goesC (kidT a b m) (kkD S' m) (kkD T' m) = Y := ⟨_, rfl⟩
                      rw [hY] at hih
                      have HY := Lib.hid ((HTU.out m).trans hY)
                      obtain ⟨sa, hsa⟩ : ∃ x, str (kkD S' m) = x := ⟨_, rfl⟩
                      obtain ⟨sb, hsb⟩ : ∃ x, str (kkD T' m) = x := ⟨_, rfl⟩
                      rw [hsa] at hih hpa
                      rw [hsb] at hih hpb
                      generalize (kidT a b m).nk = nk at *
                      obtain ⟨nd, hnd⟩ : ∃ x, (kidT a b m).nd = x := ⟨_, rfl⟩
                      rw [hnd] at q0 q1 q2' q3 q4 q5 q6 hih
                      obtain ⟨v0, v1, v2, v3, v4, v5, v6⟩ := nd
                      simp only at q0 q1 q2' q3 q4 q5 q6 hih
                      have hSS := fun W' (hb' : Below wr.heap.size wr W') => (⟨hb', (HK.out W' (bl (bl HBX.out HBR.out) hb')).2.2.2.2.2, kc _ _ W' q0 hb', kc _ _ W' q1 hb', kc _ _ W' q2' hb', kc _ _ W' q3 hb', kc _ _ W' q4 hb', kc _ _ W' q5 hb', kc _ _ W' q6 hb', kc _ _ W' q7 hb'⟩ :
                        Below wr.heap.size wr W' ∧ W'.cell? ⟨w.heap.size, 7, none⟩ = some (.slice (some ⟨g, o, none⟩) n c) ∧ W'.cell? ⟨g, o + m * 8, none⟩ = some (.int .i8 v0) ∧ W'.cell? ⟨g, o + m * 8 + 1, none⟩ = some (.int .i64 v1) ∧ W'.cell? ⟨g, o + m * 8 + 2, none⟩ = some (.bool v2) ∧ W'.cell? ⟨g, o + m * 8 + 3, none⟩ = some (.int .u8 v3) ∧ W'.cell? ⟨g, o + m * 8 + 4, none⟩ = some (.int .i64 v4) ∧ W'.cell? ⟨g, o + m * 8 + 5, none⟩ = some (.int .u8 v5) ∧ W'.cell? ⟨g, o + m * 8 + 6, none⟩ = some (.int .u8 v6) ∧ W'.cell? ⟨g, o + m * 8 + 7, none⟩ = some (.slice Ak nk ck))
                      have HS := Lib.hid hSS
                      have HCALL := Lib.hid hih
                      have HPA1 := Lib.hid hpa
                      have HPB1 := Lib.hid hpb
                      clear hih hpa hpb hSS hY hsa hsb hnd q0 q1 q2' q3 q4 q5 q6 q7 kc hbw0 hsk
                      cases Y
                      · go_wp2_with fail
                        refine wp_region_held_drew (S := (fun W' => Below wr.heap.size wr W' ∧ W'.cell? ⟨w.heap.size, 7, none⟩ = some (.slice (some ⟨g, o, none⟩) n c) ∧ W'.cell? ⟨g, o + m * 8, none⟩ = some (.int .i8 v0) ∧ W'.cell? ⟨g, o + m * 8 + 1, none⟩ = some (.int .i64 v1) ∧ W'.cell? ⟨g, o + m * 8 + 2, none⟩ = some (.bool v2) ∧ W'.cell? ⟨g, o + m * 8 + 3, none⟩ = some (.int .u8 v3) ∧ W'.cell? ⟨g, o + m * 8 + 4, none⟩ = some (.int .i64 v4) ∧ W'.cell? ⟨g, o + m * 8 + 5, none⟩ = some (.int .u8 v5) ∧ W'.cell? ⟨g, o + m * 8 + 6, none⟩ = some (.int .u8 v6) ∧ W'.cell? ⟨g, o + m * 8 + 7, none⟩ = some (.slice Ak nk ck))) (by kernel_rfl) ?ss103 (fun hHeld => ?rr103)
                        case ss103 => (try dsimp only); exact HS.out _ (Below.refl _ _).drew
                        refine wpAnyH_take (i := 0) (oi := ⟨some 107, _, _, _, _, _⟩) (v := ?vv104) rfl (by kernel_rfl) (by kernel_rfl) (by kernel_rfl) (fun _ _ _ h => h) (Or.inl ⟨by rfl, ?yy104⟩) (by assumption) ?rr104
                        case yy104 => (intro wq hSw; (try dsimp only at hSw); go_simp; try with_reducible rfl)
                        try simp only [Act.put, List.setIfInBounds_toArray, List.set_cons_zero, List.set_cons_succ]
                        refine wpAnyH_take (i := 1) (oi := ⟨some 108, _, _, _, _, _⟩) (v := ?vv105) rfl (by kernel_rfl) (by kernel_rfl) (by kernel_rfl) (fun _ _ _ h => h) (Or.inl ⟨by rfl, ?yy105⟩) (by assumption) ?rr105
                        case yy105 => (intro wq hSw; (try dsimp only at hSw); go_simp; try with_reducible rfl)
                        try simp only [Act.put, List.setIfInBounds_toArray, List.set_cons_zero, List.set_cons_succ]
                        refine wpAnyH_take (i := 2) (oi := ⟨some 109, _, _, _, _, _⟩) (v := ?vv106) rfl (by kernel_rfl) (by kernel_rfl) (by kernel_rfl) (fun _ _ _ h => h) (Or.inl ⟨by rfl, ?yy106⟩) (by assumption) ?rr106
                        case yy106 => (intro wq hSw; (try dsimp only at hSw); go_simp; try with_reducible rfl)
                        try simp only [Act.put, List.setIfInBounds_toArray, List.set_cons_zero, List.set_cons_succ]
                        refine wpAnyH_take (i := 3) (oi := ⟨some 110, _, _, _, _, _⟩) (v := ?vv107) rfl (by kernel_rfl) (by kernel_rfl) (by kernel_rfl) (fun _ _ _ h => h) (Or.inl ⟨by rfl, ?yy107⟩) (by assumption) ?rr107
                        case yy107 => (intro wq hSw; (try dsimp only at hSw); go_simp; try with_reducible rfl)
                        try simp only [Act.put, List.setIfInBounds_toArray, List.set_cons_zero, List.set_cons_succ]
                        refine wpAnyH_take (i := 4) (oi := ⟨some 111, _, _, _, _, _⟩) (v := ?vv108) rfl (by kernel_rfl) (by kernel_rfl) (by kernel_rfl) (fun _ _ _ h => h) (Or.inl ⟨by rfl, ?yy108⟩) (by assumption) ?rr108
                        case yy108 => (intro wq hSw; (try dsimp only at hSw); go_simp; try with_reducible rfl)
                        try simp only [Act.put, List.setIfInBounds_toArray, List.set_cons_zero, List.set_cons_succ]
                        refine wpAnyH_take (i := 5) (oi := ⟨some 112, _, _, _, _, _⟩) (v := ?vv109) rfl (by kernel_rfl) (by kernel_rfl) (by kernel_rfl) (fun _ _ _ h => h) (Or.inl ⟨by rfl, ?yy109⟩) (by assumption) ?rr109
                        case yy109 => (intro wq hSw; (try dsimp only at hSw); go_simp; try with_reducible rfl)
                        try simp only [Act.put, List.setIfInBounds_toArray, List.set_cons_zero, List.set_cons_succ]
                        refine wpAnyH_take (i := 6) (oi := ⟨some 113, _, _, _, _, _⟩) (v := ?vv110) rfl (by kernel_rfl) (by kernel_rfl) (by kernel_rfl) (fun _ _ _ h => h) (Or.inl ⟨by rfl, ?yy110⟩) (by assumption) ?rr110
                        case yy110 => (intro wq hSw; (try dsimp only at hSw); go_simp; try with_reducible rfl)
                        try simp only [Act.put, List.setIfInBounds_toArray, List.set_cons_zero, List.set_cons_succ]
                        refine wpAnyH_take (i := 8) (oi := ⟨some 115, _, _, _, _, _⟩) (v := ?vv111) rfl (by kernel_rfl) (by kernel_rfl) (by kernel_rfl) (fun _ _ _ h => h) (Or.inl ⟨by rfl, ?yy111⟩) (by assumption) ?rr111
                        case yy111 => (intro wq hSw; (try dsimp only at hSw); go_simp; try with_reducible rfl)
                        try simp only [Act.put, List.setIfInBounds_toArray, List.set_cons_zero, List.set_cons_succ]
                        refine wpAnyH_take (i := 9) (oi := ⟨some 116, _, _, _, _, _⟩) (v := ?vv112) rfl (by kernel_rfl) (by kernel_rfl) (by kernel_rfl) (fun _ _ _ h => h) (Or.inl ⟨by rfl, ?yy112⟩) (by assumption) ?rr112
                        case yy112 => (intro wq hSw; (try dsimp only at hSw); go_simp; try with_reducible rfl)
                        try simp only [Act.put, List.setIfInBounds_toArray, List.set_cons_zero, List.set_cons_succ]
                        refine wpAnyH_ready (rs := [7]) (by kernel_rfl) (by simp) ?_
                        refine AllReadyH.cons (o := ⟨some 114, _, _, _, _, _⟩) rfl (fun K hK => ?_) AllReadyH.nil
                        go_simp
                        ((refine (HPA1.out _).mono ?_); rintro e w5 ⟨rfl, rfl⟩)
                        refine hK.out _ _ ?ss113 (fun hHeld2 => ?rr113)
                        case ss113 => (try dsimp only); exact hHeld
                        clear hK K
                        clear hHeld2
                        try simp only [Act.put, List.setIfInBounds_toArray, List.set_cons_zero, List.set_cons_succ]
                        refine wpAnyH_ready (rs := [10]) (by kernel_rfl) (by simp) ?_
                        refine AllReadyH.cons (o := ⟨some 117, _, _, _, _, _⟩) rfl (fun K hK => ?_) AllReadyH.nil
                        go_simp
                        ((refine (HPB1.out _).mono ?_); rintro e w6 ⟨rfl, rfl⟩)
                        refine hK.out _ _ ?ss114 (fun hHeld2 => ?rr114)
                        case ss114 => (try dsimp only); exact hHeld
                        clear hK K
                        clear hHeld2
                        try simp only [Act.put, List.setIfInBounds_toArray, List.set_cons_zero, List.set_cons_succ]
                        refine wpAnyH_ready (rs := [11]) (by kernel_rfl) (by simp) ?_
                        refine AllReadyH.cons (o := ⟨some 118, _, _, _, _, _⟩) rfl (fun K hK => ?_) AllReadyH.nil
                        go_simp
                        ((refine (HCALL.out _ (Below.refl _ _).drew).mono ?_); rintro e w4 ⟨rfl, hb4'⟩; have hb4 : Below wr.heap.size wr w4 := bl (Below.refl _ _).drew hb4'; clear hb4')
                        refine hK.out _ _ ?ss115 (fun hHeld2 => ?rr115)
                        case ss115 => (try dsimp only); exact HS.out _ hb4
                        clear hK K
                        clear hHeld
                        have hHeld := hHeld2
                        clear hHeld2
                        try simp only [Act.put, List.setIfInBounds_toArray, List.set_cons_zero, List.set_cons_succ]
                        refine wpAnyH_take (i := 12) (oi := ⟨some 119, _, _, _, _, _⟩) (v := ?vv116) rfl (by kernel_rfl) (by kernel_rfl) (by kernel_rfl) (fun _ _ _ h => h) (Or.inl ⟨by rfl, ?yy116⟩) (by assumption) ?rr116
                        case yy116 => (intro wq hSw; (try dsimp only at hSw); go_simp; try with_reducible rfl)
                        try simp only [Act.put, List.setIfInBounds_toArray, List.set_cons_zero, List.set_cons_succ]
                        refine wpAnyH_done (by kernel_rfl) ?_ _
                        have hbx := hHeld.1
                        clear hHeld
                        go_wp2_with fail
                        go_ret
                        exact ⟨by rw [HRF.out m hlt HY.out]; rfl, bl HBXW.out (bl HBR.out hbx)⟩
                      · go_wp2_with fail
                        refine wp_region_held_drew (S := (fun W' => Below wr.heap.size wr W' ∧ W'.cell? ⟨w.heap.size, 7, none⟩ = some (.slice (some ⟨g, o, none⟩) n c) ∧ W'.cell? ⟨g, o + m * 8, none⟩ = some (.int .i8 v0) ∧ W'.cell? ⟨g, o + m * 8 + 1, none⟩ = some (.int .i64 v1) ∧ W'.cell? ⟨g, o + m * 8 + 2, none⟩ = some (.bool v2) ∧ W'.cell? ⟨g, o + m * 8 + 3, none⟩ = some (.int .u8 v3) ∧ W'.cell? ⟨g, o + m * 8 + 4, none⟩ = some (.int .i64 v4) ∧ W'.cell? ⟨g, o + m * 8 + 5, none⟩ = some (.int .u8 v5) ∧ W'.cell? ⟨g, o + m * 8 + 6, none⟩ = some (.int .u8 v6) ∧ W'.cell? ⟨g, o + m * 8 + 7, none⟩ = some (.slice Ak nk ck))) (by kernel_rfl) ?ss117 (fun hHeld => ?rr117)
                        case ss117 => (try dsimp only); exact HS.out _ (Below.refl _ _).drew
                        refine wpAnyH_take (i := 0) (oi := ⟨some 107, _, _, _, _, _⟩) (v := ?vv118) rfl (by kernel_rfl) (by kernel_rfl) (by kernel_rfl) (fun _ _ _ h => h) (Or.inl ⟨by rfl, ?yy118⟩) (by assumption) ?rr118
                        case yy118 => (intro wq hSw; (try dsimp only at hSw); go_simp; try with_reducible rfl)
                        try simp only [Act.put, List.setIfInBounds_toArray, List.set_cons_zero, List.set_cons_succ]
                        refine wpAnyH_take (i := 1) (oi := ⟨some 108, _, _, _, _, _⟩) (v := ?vv119) rfl (by kernel_rfl) (by kernel_rfl) (by kernel_rfl) (fun _ _ _ h => h) (Or.inl ⟨by rfl, ?yy119⟩) (by assumption) ?rr119
                        case yy119 => (intro wq hSw; (try dsimp only at hSw); go_simp; try with_reducible rfl)
                        try simp only [Act.put, List.setIfInBounds_toArray, List.set_cons_zero, List.set_cons_succ]
                        refine wpAnyH_take (i := 2) (oi := ⟨some 109, _, _, _, _, _⟩) (v := ?vv120) rfl (by kernel_rfl) (by kernel_rfl) (by kernel_rfl) (fun _ _ _ h => h) (Or.inl ⟨by rfl, ?yy120⟩) (by assumption) ?rr120
                        case yy120 => (intro wq hSw; (try dsimp only at hSw); go_simp; try with_reducible rfl)
                        try simp only [Act.put, List.setIfInBounds_toArray, List.set_cons_zero, List.set_cons_succ]
                        refine wpAnyH_take (i := 3) (oi := ⟨some 110, _, _, _, _, _⟩) (v := ?vv121) rfl (by kernel_rfl) (by kernel_rfl) (by kernel_rfl) (fun _ _ _ h => h) (Or.inl ⟨by rfl, ?yy121⟩) (by assumption) ?rr121
                        case yy121 => (intro wq hSw; (try dsimp only at hSw); go_simp; try with_reducible rfl)
                        try simp only [Act.put, List.setIfInBounds_toArray, List.set_cons_zero, List.set_cons_succ]
                        refine wpAnyH_take (i := 4) (oi := ⟨some 111, _, _, _, _, _⟩) (v := ?vv122) rfl (by kernel_rfl) (by kernel_rfl) (by kernel_rfl) (fun _ _ _ h => h) (Or.inl ⟨by rfl, ?yy122⟩) (by assumption) ?rr122
                        case yy122 => (intro wq hSw; (try dsimp only at hSw); go_simp; try with_reducible rfl)
                        try simp only [Act.put, List.setIfInBounds_toArray, List.set_cons_zero, List.set_cons_succ]
                        refine wpAnyH_take (i := 5) (oi := ⟨some 112, _, _, _, _, _⟩) (v := ?vv123) rfl (by kernel_rfl) (by kernel_rfl) (by kernel_rfl) (fun _ _ _ h => h) (Or.inl ⟨by rfl, ?yy123⟩) (by assumption) ?rr123
                        case yy123 => (intro wq hSw; (try dsimp only at hSw); go_simp; try with_reducible rfl)
                        try simp only [Act.put, List.setIfInBounds_toArray, List.set_cons_zero, List.set_cons_succ]
                        refine wpAnyH_take (i := 6) (oi := ⟨some 113, _, _, _, _, _⟩) (v := ?vv124) rfl (by kernel_rfl) (by kernel_rfl) (by kernel_rfl) (fun _ _ _ h => h) (Or.inl ⟨by rfl, ?yy124⟩) (by assumption) ?rr124
                        case yy124 => (intro wq hSw; (try dsimp only at hSw); go_simp; try with_reducible rfl)
                        try simp only [Act.put, List.setIfInBounds_toArray, List.set_cons_zero, List.set_cons_succ]
                        refine wpAnyH_take (i := 8) (oi := ⟨some 115, _, _, _, _, _⟩) (v := ?vv125) rfl (by kernel_rfl) (by kernel_rfl) (by kernel_rfl) (fun _ _ _ h => h) (Or.inl ⟨by rfl, ?yy125⟩) (by assumption) ?rr125
                        case yy125 => (intro wq hSw; (try dsimp only at hSw); go_simp; try with_reducible rfl)
                        try simp only [Act.put, List.setIfInBounds_toArray, List.set_cons_zero, List.set_cons_succ]
                        refine wpAnyH_take (i := 9) (oi := ⟨some 116, _, _, _, _, _⟩) (v := ?vv126) rfl (by kernel_rfl) (by kernel_rfl) (by kernel_rfl) (fun _ _ _ h => h) (Or.inl ⟨by rfl, ?yy126⟩) (by assumption) ?rr126
                        case yy126 => (intro wq hSw; (try dsimp only at hSw); go_simp; try with_reducible rfl)
                        try simp only [Act.put, List.setIfInBounds_toArray, List.set_cons_zero, List.set_cons_succ]
                        refine wpAnyH_ready (rs := [7]) (by kernel_rfl) (by simp) ?_
                        refine AllReadyH.cons (o := ⟨some 114, _, _, _, _, _⟩) rfl (fun K hK => ?_) AllReadyH.nil
                        go_simp
                        ((refine (HPA1.out _).mono ?_); rintro e w5 ⟨rfl, rfl⟩)
                        refine hK.out _ _ ?ss127 (fun hHeld2 => ?rr127)
                        case ss127 => (try dsimp only); exact hHeld
                        clear hK K
                        clear hHeld2
                        try simp only [Act.put, List.setIfInBounds_toArray, List.set_cons_zero, List.set_cons_succ]
                        refine wpAnyH_ready (rs := [10]) (by kernel_rfl) (by simp) ?_
                        refine AllReadyH.cons (o := ⟨some 117, _, _, _, _, _⟩) rfl (fun K hK => ?_) AllReadyH.nil
                        go_simp
                        ((refine (HPB1.out _).mono ?_); rintro e w6 ⟨rfl, rfl⟩)
                        refine hK.out _ _ ?ss128 (fun hHeld2 => ?rr128)
                        case ss128 => (try dsimp only); exact hHeld
                        clear hK K
                        clear hHeld2
                        try simp only [Act.put, List.setIfInBounds_toArray, List.set_cons_zero, List.set_cons_succ]
                        refine wpAnyH_ready (rs := [11]) (by kernel_rfl) (by simp) ?_
                        refine AllReadyH.cons (o := ⟨some 118, _, _, _, _, _⟩) rfl (fun K hK => ?_) AllReadyH.nil
                        go_simp
                        ((refine (HCALL.out _ (Below.refl _ _).drew).mono ?_); rintro e w4 ⟨rfl, hb4'⟩; have hb4 : Below wr.heap.size wr w4 := bl (Below.refl _ _).drew hb4'; clear hb4')
                        refine hK.out _ _ ?ss129 (fun hHeld2 => ?rr129)
                        case ss129 => (try dsimp only); exact HS.out _ hb4
                        clear hK K
                        clear hHeld
                        have hHeld := hHeld2
                        clear hHeld2
                        try simp only [Act.put, List.setIfInBounds_toArray, List.set_cons_zero, List.set_cons_succ]
                        refine wpAnyH_take (i := 12) (oi := ⟨some 119, _, _, _, _, _⟩) (v := ?vv130) rfl (by kernel_rfl) (by kernel_rfl) (by kernel_rfl) (fun _ _ _ h => h) (Or.inl ⟨by rfl, ?yy130⟩) (by assumption) ?rr130
                        case yy130 => (intro wq hSw; (try dsimp only at hSw); go_simp; try with_reducible rfl)
                        try simp only [Act.put, List.setIfInBounds_toArray, List.set_cons_zero, List.set_cons_succ]
                        refine wpAnyH_done (by kernel_rfl) ?_ _
                        have hbx := hHeld.1
                        clear hHeld
                        go_wp2_with fail
                        go_roundg (n - (m + 1))
                        case measure => omega
                        case rel => exact ⟨m + 1, by omega, rfl, by go_num, bl HBR.out hbx, all_succ HAL.out HY.out⟩
                    · obtain rfl : m = n := by omega
                      go_wp2_with fail
                      go_ret
                      exact ⟨by rw [HRT.out HAL.out]; rfl, bl HBXW.out HBR.out⟩
            · have e1 : ((y.toNat : Int) != h) = true := by simpa using hTe
              have hr : R = false := by
                cases R
                · rfl
                · exact absurd ((HIFF2.out.1 rfl).2.2.2.1) hTe
              subst hr
              clear hTe
              go_wp2_with fail
              refine wp_region_held_drew (S := (fun W' => Below W2.heap.size W2 W' ∧ W'.cell? ⟨w.heap.size, 3, none⟩ = some (.int .u8 h))) (by kernel_rfl) ?ss131 (fun hHeld => ?rr131)
              case ss131 => (try dsimp only); exact ⟨HBW2.out.drew, k3⟩
              refine wpAnyH_take (i := 0) (oi := ⟨some 47, _, _, _, _, _⟩) (v := ?vv132) rfl (by kernel_rfl) (by kernel_rfl) (by kernel_rfl) (fun _ _ _ h => h) (Or.inl ⟨by rfl, ?yy132⟩) (by assumption) ?rr132
              case yy132 => (intro wq hSw; (try dsimp only at hSw); go_simp; try with_reducible rfl)
              try simp only [Act.put, List.setIfInBounds_toArray, List.set_cons_zero, List.set_cons_succ]
              refine wpAnyH_take (i := 1) (oi := ⟨some 48, _, _, _, _, _⟩) (v := ?vv133) rfl (by kernel_rfl) (by kernel_rfl) (by kernel_rfl) (fun _ _ _ h => h) (Or.inl ⟨by rfl, ?yy133⟩) (by assumption) ?rr133
              case yy133 => (intro wq hSw; (try dsimp only at hSw); go_simp; try with_reducible rfl)
              try simp only [Act.put, List.setIfInBounds_toArray, List.set_cons_zero, List.set_cons_succ]
              refine wpAnyH_take (i := 2) (oi := ⟨some 49, _, _, _, _, _⟩) (v := ?vv134) rfl (by kernel_rfl) (by kernel_rfl) (by kernel_rfl) (fun _ _ _ h => h) (Or.inl ⟨by rfl, ?yy134⟩) (by assumption) ?rr134
              case yy134 => (intro wq hSw; (try dsimp only at hSw); go_simp; try with_reducible rfl)
              try simp only [Act.put, List.setIfInBounds_toArray, List.set_cons_zero, List.set_cons_succ]
              refine wpAnyH_take (i := 3) (oi := ⟨some 50, _, _, _, _, _⟩) (v := ?vv135) rfl (by kernel_rfl) (by kernel_rfl) (by kernel_rfl) (fun _ _ _ h => h) (Or.inl ⟨by rfl, ?yy135⟩) (by assumption) ?rr135
              case yy135 => (intro wq hSw; (try dsimp only at hSw); go_simp; try with_reducible rfl)
              try simp only [Act.put, List.setIfInBounds_toArray, List.set_cons_zero, List.set_cons_succ]
              refine wpAnyH_take (i := 4) (oi := ⟨some 51, _, _, _, _, _⟩) (v := ?vv136) rfl (by kernel_rfl) (by kernel_rfl) (by kernel_rfl) (fun _ _ _ h => h) (Or.inl ⟨by rfl, ?yy136⟩) (by assumption) ?rr136
              case yy136 => (intro wq hSw; (try dsimp only at hSw); go_simp; try with_reducible rfl)
              try simp only [Act.put, List.setIfInBounds_toArray, List.set_cons_zero, List.set_cons_succ]
              refine wpAnyH_take (i := 5) (oi := ⟨some 52, _, _, _, _, _⟩) (v := ?vv137) rfl (by kernel_rfl) (by kernel_rfl) (by kernel_rfl) (fun _ _ _ h => h) (Or.inl ⟨by rfl, ?yy137⟩) (by assumption) ?rr137
              case yy137 => (intro wq hSw; (try dsimp only at hSw); go_simp; try with_reducible rfl)
              try simp only [Act.put, List.setIfInBounds_toArray, List.set_cons_zero, List.set_cons_succ]
              refine wpAnyH_done (by kernel_rfl) ?_ _
              have hbx := hHeld.1
              clear hHeld
              go_wp2_with fail
              go_ret
              exact ⟨rfl, bl HB2.out hbx⟩
        · have hj : j = true := by cases j; exact absurd (.inl rfl) hJ; rfl
          have hq : (T.head == 63) = false := by simp at hJ ⊢; exact hJ.2
          have hr : R = false := by
            cases R
            · rfl
            · exact absurd ((HIFF.out.1 rfl).2.2.1) hJ
          subst hr hj
          rw [hq] at q2
          clear hJ hq
          go_wp2_with fail
          go_ret
          exact ⟨rfl, bl HB2.out HB3.out⟩
      · have e2 : ((x.toNat : Int) != h) = true := by simpa using hSe
        have hr : R = false := by
          cases R
          · rfl
          · exact absurd ((HIFF.out.1 rfl).2.1) hSe
        subst hr
        clear hSe
        go_wp2_with fail
        refine wp_region_held_drew (S := (fun W' => Below W2.heap.size W2 W' ∧ W'.cell? ⟨w.heap.size, 3, none⟩ = some (.int .u8 h))) (by kernel_rfl) ?ss138 (fun hHeld => ?rr138)
        case ss138 => (try dsimp only); exact ⟨HBW.out.drew, k3⟩
        refine wpAnyH_take (i := 0) (oi := ⟨some 28, _, _, _, _, _⟩) (v := ?vv139) rfl (by kernel_rfl) (by kernel_rfl) (by kernel_rfl) (fun _ _ _ h => h) (Or.inl ⟨by rfl, ?yy139⟩) (by assumption) ?rr139
        case yy139 => (intro wq hSw; (try dsimp only at hSw); go_simp; try with_reducible rfl)
        try simp only [Act.put, List.setIfInBounds_toArray, List.set_cons_zero, List.set_cons_succ]
        refine wpAnyH_take (i := 1) (oi := ⟨some 29, _, _, _, _, _⟩) (v := ?vv140) rfl (by kernel_rfl) (by kernel_rfl) (by kernel_rfl) (fun _ _ _ h => h) (Or.inl ⟨by rfl, ?yy140⟩) (by assumption) ?rr140
        case yy140 => (intro wq hSw; (try dsimp only at hSw); go_simp; try with_reducible rfl)
        try simp only [Act.put, List.setIfInBounds_toArray, List.set_cons_zero, List.set_cons_succ]
        refine wpAnyH_take (i := 2) (oi := ⟨some 30, _, _, _, _, _⟩) (v := ?vv141) rfl (by kernel_rfl) (by kernel_rfl) (by kernel_rfl) (fun _ _ _ h => h) (Or.inl ⟨by rfl, ?yy141⟩) (by assumption) ?rr141
        case yy141 => (intro wq hSw; (try dsimp only at hSw); go_simp; try with_reducible rfl)
        try simp only [Act.put, List.setIfInBounds_toArray, List.set_cons_zero, List.set_cons_succ]
        refine wpAnyH_take (i := 3) (oi := ⟨some 31, _, _, _, _, _⟩) (v := ?vv142) rfl (by kernel_rfl) (by kernel_rfl) (by kernel_rfl) (fun _ _ _ h => h) (Or.inl ⟨by rfl, ?yy142⟩) (by assumption) ?rr142
        case yy142 => (intro wq hSw; (try dsimp only at hSw); go_simp; try with_reducible rfl)
        try simp only [Act.put, List.setIfInBounds_toArray, List.set_cons_zero, List.set_cons_succ]
        refine wpAnyH_take (i := 4) (oi := ⟨some 32, _, _, _, _, _⟩) (v := ?vv143) rfl (by kernel_rfl) (by kernel_rfl) (by kernel_rfl) (fun _ _ _ h => h) (Or.inl ⟨by rfl, ?yy143⟩) (by assumption) ?rr143
        case yy143 => (intro wq hSw; (try dsimp only at hSw); go_simp; try with_reducible rfl)
        try simp only [Act.put, List.setIfInBounds_toArray, List.set_cons_zero, List.set_cons_succ]
        refine wpAnyH_take (i := 5) (oi := ⟨some 33, _, _, _, _, _⟩) (v := ?vv144) rfl (by kernel_rfl) (by kernel_rfl) (by kernel_rfl) (fun _ _ _ h => h) (Or.inl ⟨by rfl, ?yy144⟩) (by assumption) ?rr144
        case yy144 => (intro wq hSw; (try dsimp only at hSw); go_simp; try with_reducible rfl)
        try simp only [Act.put, List.setIfInBounds_toArray, List.set_cons_zero, List.set_cons_succ]
        refine wpAnyH_done (by kernel_rfl) ?_ _
        go_wp2_with fail
        go_ret
        exact ⟨rfl, bl HB2.out hHeld.1⟩
  · have hp1 : (p != 0) = true := by simp at hA; simpa using hA.1
    have hq : (S.head == 63) = false := by simp at hA ⊢; exact hA.2
    have hr : R = false := by
      cases R
      · rfl
      · exact absurd ((HIFF.out.1 rfl).1) hA
    subst hr
    rw [hq] at q1
    generalize str S = s at *
    generalize str T = t at *
    clear hA hq q2
    go_enter Tryd.func50, Tryd.ntmps50
    go_wp2_with fail
    go_ret
    rw [HW2.out]
    exact ⟨rfl, HB2.out⟩
end Go.Proofs.YtkebplifkkhhlaaDoor.C
