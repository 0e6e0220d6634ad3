/- Contract: Sorted, by the answer. -/
import Derived.Test.YthonnpjlkcjoeaaDoorSortR
import Derived.Test.YthonnpjlkcjoeaaDoorLabelA
import Derived.Test.YthonnpjlkcjoeaaDoorBagAZ
import Derived.Deep.RegionWith
import Derived.Deep.RegionHeld3
import Derived.Deep.QuietTactic
import Derived.BigQuiet
import Derived.Deep.CutBlock
import Derived.Deep.CutRange
namespace Go.Proofs.YthonnpjlkcjoeaaDoor.La
open Go.RowKit Go.Proofs.YthonnpjlkcjoeaaDoor.B Go.Op Go.Lib
set_option linter.unusedSimpArgs false
set_option linter.unusedVariables false

theorem infoIntX : (Tryd.prog.info? 3).map (fun i => (i.zero, i.size, i.bytes)) = some (some (.int .i64 0), 1, 8) := by kernel_rfl

theorem aheadR_any (a b : Site) (w : World) :
    Calls Tryd.prog 49 #[.agg #[.string a.mo, .string a.ex, .int .i64 a.li, .int .i64 a.co, .int .i64 a.ru], .agg #[.string b.mo, .string b.ex, .int .i64 b.li, .int .i64 b.co, .int .i64 b.ru]] w
      fun e w' => e = .returned (.bool (aheadB a b)) ∧ Below w.heap.size w w' := by
  have h0 : Below w.heap.size w ((w.alloc (.cells #[.string a.mo, .string a.ex, .int .i64 a.li, .int .i64 a.co, .int .i64 a.ru] 31)).alloc (.cells #[.string b.mo, .string b.ex, .int .i64 b.li, .int .i64 b.co, .int .i64 b.ru] 31)) :=
    bal (bal (Below.refl _ _) _) _
  have H0 := Lib.hid h0
  clear h0
  obtain ⟨mo, ex, li, co, ru⟩ := a
  obtain ⟨mo', ex', li', co', ru'⟩ := b
  obtain ⟨B, hB⟩ : ∃ B, aheadB ⟨mo, ex, li, co, ru⟩ ⟨mo', ex', li', co', ru'⟩ = B := ⟨_, rfl⟩
  rw [hB]
  unfold aheadB at hB
  simp only at hB H0 ⊢
  by_cases m : mo = mo'
  · subst m
    have m1 : (mo.toList != mo.toList) = false := by simp
    rw [if_neg (by simp)] at hB
    by_cases l : li = li'
    · subst l
      have l1 : (li != li) = false := by simp
      rw [if_neg (by simp)] at hB
      by_cases c : co = co'
      · subst c
        have c1 : (co != co) = false := by simp
        rw [if_neg (by simp)] at hB
        have HB := Lib.hid hB
        clear hB
        go_enter Tryd.func49, Tryd.ntmps49
        go_wp2_with fail
        go_ret
        exact ⟨by rw [← HB.out]; rfl, H0.out⟩
      · have c1 : (co != co') = true := by simpa using c
        rw [if_pos c] at hB
        have HB := Lib.hid hB
        clear hB c
        go_enter Tryd.func49, Tryd.ntmps49
        go_wp2_with fail
        go_ret
        exact ⟨by rw [← HB.out]; rfl, H0.out⟩
    · have l1 : (li != li') = true := by simpa using l
      rw [if_pos l] at hB
      have HB := Lib.hid hB
      clear hB l
      go_enter Tryd.func49, Tryd.ntmps49
      go_wp2_with fail
      go_ret
      exact ⟨by rw [← HB.out]; rfl, H0.out⟩
  · have m1 : (mo.toList != mo'.toList) = true := by
      cases h : mo.toList == mo'.toList with
      | false => rw [bne, h]; rfl
      | true => exact absurd (mo_ext (by simpa using h)) m
    have m2 : (mo.toList == mo'.toList) = false := by rw [bne] at m1; simpa using m1
    rw [if_pos m] at hB
    have HB := Lib.hid hB
    clear hB m m1
    go_enter Tryd.func49, Tryd.ntmps49
    go_wp2_with fail
    go_ret
    exact ⟨by rw [← HB.out]; rfl, H0.out⟩

theorem own_set1 {w : World} {base n g c i : Nat} {e : TypeId} {xs : List Value} (h : w.ownsRow base e 1 (.slice (some ⟨g, 0, none⟩) n c) n xs) (hi : i < n) (v : Value) :
    (w.setCell ⟨g, i, none⟩ v).ownsRow base e 1 (.slice (some ⟨g, 0, none⟩) n c) n (xs.set i v) := by
  have hx := h.1
  have h2 := own_setCells (ws := [v]) h rfl hi
  rw [Nat.mul_one, Nat.mul_one] at h2
  rw [List.set_eq_take_append_cons_drop, if_pos (by omega)]
  simpa [World.setCells] using h2

abbrev vI (k : Nat) : Value := .int .i64 (k : Int)
theorem hole_set (vs : List Value) (k : Nat) (z v : Value) (hk : k ≤ vs.length) : (vs.take k ++ z :: vs.drop k).set k v = vs.take k ++ v :: vs.drop k := by
  rw [List.set_append_right _ _ (by simp; omega)]
  simp [Nat.min_eq_left hk]
theorem hole_step (vs : List Value) (k : Nat) (v : Value) (hv : vs[k]? = some v) : vs.take (k + 1) ++ v :: vs.drop (k + 1) = vs.take k ++ v :: vs.drop k := by
  obtain ⟨h1, h2⟩ := List.getElem?_eq_some_iff.1 hv
  rw [List.take_add_one, hv, List.drop_eq_getElem_cons h1, h2]; simp
theorem hole_read (vs : List Value) (k : Nat) (z v : Value) (hv : vs[k]? = some v) : (vs.take (k + 1) ++ z :: vs.drop (k + 1))[k]? = some v := by
  obtain ⟨h1, h2⟩ := List.getElem?_eq_some_iff.1 hv
  rw [List.getElem?_append_left (by simp; omega), List.getElem?_take, if_pos (by omega), hv]

set_option maxRecDepth 100000 in
set_option maxHeartbeats 2000000 in
theorem sortedR_any (l : List Site) (A : Option Addr) (c : Nat) (w : World) (hl : l.length ≤ 2048) (hA : Sl w w.heap.size 5 A l.length (cells l)) :
    Calls Tryd.prog 25 #[.slice A l.length c] w fun e w' => ∃ v, e = .returned v ∧ w'.ownsRow w.heap.size 3 1 v l.length ((byIns (siteOf l) l.length).map vI) ∧ Below w.heap.size w w' := by
  obtain ⟨i0, hi0, hz0, hz1, hz2⟩ := info_parts3 infoIntX
  have HA := Lib.hid fun (W : World) (h : Below w.heap.size w W) => hA.below h
  clear hA
  go_enter Tryd.func25, Tryd.ntmps25
  go_wp2_with fail
  go_loopg [3, 4] l.length (fun q v i wr => ∃ k : Nat, k ≤ l.length ∧ q = l.length - k ∧ i = .int .i64 k ∧ wr.ownsRow w.heap.size 3 1 v k ((byIns (siteOf l) k).map vI) ∧ Below w.heap.size w wr)
  case atStart => exact ⟨0, by omega, rfl, rfl, World.ownsRow_nil _ _ _ _, Below.refl _ _⟩
  case round =>
    obtain ⟨k, hk, rfl, rfl, ho, hb⟩ := hrel
    obtain ⟨Av, cv, rfl, hv1, hv2⟩ := own_shape ho
    by_cases hlt : k < l.length
    · obtain ⟨s, hs⟩ : ∃ s, l[k]? = some s := ⟨_, List.getElem?_eq_getElem hlt⟩
      have hsS : siteOf l (k + 1) = s := by unfold siteOf; rw [Nat.add_sub_cancel, List.getD_eq_getElem?_getD, hs]; rfl
      obtain ⟨L, hL⟩ : ∃ L, byIns (siteOf l) k = L := ⟨_, rfl⟩
      have hnext : byIns (siteOf l) (k + 1) = putIn (siteOf l) L (k + 1) := by rw [← hL]; rfl
      have hLl : L.length = k := by rw [← hL]; exact byIns_len _ _
      have hLm : ∀ a ∈ L, 1 ≤ a ∧ a ≤ k := fun a ha => byIns_mem (hL ▸ ha)
      rw [hL] at ho
      obtain ⟨p, hp⟩ : ∃ p : Nat → Bool, (fun j => aheadB (siteOf l (k + 1)) (siteOf l (L.getD j 0))) = p := ⟨_, rfl⟩
      have hput : putIn (siteOf l) L (k + 1) = L.take (posF p k) ++ (k + 1) :: L.drop (posF p k) := by unfold putIn; simp only [hp, hLl]
      have HP := Lib.hid hp
      have HPUT := Lib.hid (hnext.trans hput)
      have HLL := Lib.hid hLl
      have HLM := Lib.hid hLm
      have HS := Lib.hid hs
      have HSS := Lib.hid hsS
      have HO := Lib.hid ho
      have hb0 := hb
      clear hs hsS hL hnext hLl hLm hp hput ho
      obtain ⟨wk, rfl⟩ : ∃ x : World, x = wr := ⟨_, rfl⟩
      go_upto_block 2 with fail
      go_cut [5] from 7 to 58 (fun a W => a = .int .i64 (posF p k : Nat) ∧ Below wk.heap.size wk W)
      case first =>
        go_wp2_with fail
        go_loopg [5] k (fun q a W => ∃ j : Nat, j ≤ k ∧ j = q ∧ a = .int .i64 j ∧ Below wk.heap.size wk W ∧ Hid (posF p k = posF p j))
        case atStart => exact ⟨k, by omega, rfl, rfl, Below.refl _ _, Lib.hid rfl⟩
        case round =>
          obtain ⟨j, hj, rfl, rfl, hbj, HJ⟩ := hrel
          have hbw := hb.trans (hbj.mono hb.size)
          have ho := own_below HO.out hbj
          by_cases hj0 : 0 < j
          · obtain ⟨j, rfl⟩ : ∃ j', j = j' + 1 := ⟨j - 1, by omega⟩
            have hll := HLL.out
            obtain ⟨v, hv⟩ : ∃ v, L[j]? = some v := ⟨_, List.getElem?_eq_getElem (by omega)⟩
            obtain ⟨hv1', hv2'⟩ := HLM.out v (List.mem_of_getElem? hv)
            obtain ⟨u, rfl⟩ : ∃ u, v = u + 1 := ⟨v - 1, by omega⟩
            obtain ⟨t, ht⟩ : ∃ t, l[u]? = some t := ⟨_, List.getElem?_eq_getElem (by omega)⟩
            have htS : siteOf l (u + 1) = t := by unfold siteOf; rw [Nat.add_sub_cancel, List.getD_eq_getElem?_getD, ht]; rfl
            obtain ⟨g, rfl, hg1, hg2, hcell⟩ := own_cell ho (show j < k by omega)
            have hc := hcell (vI (u + 1)) (by rw [List.getElem?_map, hv]; rfl)
            obtain ⟨bb, o, rfl, hbb, c0, c1, c2, c3, c4⟩ := site_cells (HA.out _ hbw) HS.out
            obtain ⟨bb', o', he, _, d0, d1, d2, d3, d4⟩ := site_cells (HA.out _ hbw) ht
            injection he with he
            injection he with he1 he2 _
            subst he1 he2
            have hpj : p j = aheadB s t := by rw [← HP.out]; show aheadB _ (siteOf l (L.getD j 0)) = _; rw [List.getD_eq_getElem?_getD, hv, Option.getD_some, htS, HSS.out]
            have hpos : posF p (j + 1) = if aheadB s t = true then posF p j else j + 1 := by rw [← hpj]; rfl
            have hcall := fun W => aheadR_any s t W
            obtain ⟨B, hB⟩ : ∃ B, aheadB s t = B := ⟨_, rfl⟩
            rw [hB] at hcall hpos
            have HCALL := Lib.hid hcall
            have HPOS := Lib.hid hpos
            have hvI : (vI (u + 1)) = .int .i64 ((u : Int) + 1) := rfl
            rw [hvI] at hc
            clear hv hcell ht htS hpj hpos hcall hB hvI
            have hbbw : bb < wr.heap.size := Nat.lt_of_lt_of_le hbb hbw.size
            have HK : Hid (∀ W', Below wr.heap.size wr W' → (Below wr.heap.size wr W' ∧ W'.cell? ⟨g, j, none⟩ = some (.int .i64 ((u : Int) + 1)) ∧ W'.cell? ⟨bb, o + k * 5, none⟩ = some (.string s.mo) ∧ W'.cell? ⟨bb, o + k * 5 + 1, none⟩ = some (.string s.ex) ∧ W'.cell? ⟨bb, o + k * 5 + 2, none⟩ = some (.int .i64 s.li) ∧ W'.cell? ⟨bb, o + k * 5 + 3, none⟩ = some (.int .i64 s.co) ∧ W'.cell? ⟨bb, o + k * 5 + 4, none⟩ = some (.int .i64 s.ru) ∧ W'.cell? ⟨bb, o + u * 5, none⟩ = some (.string t.mo) ∧ W'.cell? ⟨bb, o + u * 5 + 1, none⟩ = some (.string t.ex) ∧ W'.cell? ⟨bb, o + u * 5 + 2, none⟩ = some (.int .i64 t.li) ∧ W'.cell? ⟨bb, o + u * 5 + 3, none⟩ = some (.int .i64 t.co) ∧ W'.cell? ⟨bb, o + u * 5 + 4, none⟩ = some (.int .i64 t.ru))) := Lib.hid fun W' h => ⟨h, (h.cell (p := ⟨g, j, none⟩) hg2).trans hc, (h.cell (p := ⟨bb, o + k * 5, none⟩) hbbw).trans c0, (h.cell (p := ⟨bb, o + k * 5 + 1, none⟩) hbbw).trans c1, (h.cell (p := ⟨bb, o + k * 5 + 2, none⟩) hbbw).trans c2, (h.cell (p := ⟨bb, o + k * 5 + 3, none⟩) hbbw).trans c3, (h.cell (p := ⟨bb, o + k * 5 + 4, none⟩) hbbw).trans c4, (h.cell (p := ⟨bb, o + u * 5, none⟩) hbbw).trans d0, (h.cell (p := ⟨bb, o + u * 5 + 1, none⟩) hbbw).trans d1, (h.cell (p := ⟨bb, o + u * 5 + 2, none⟩) hbbw).trans d2, (h.cell (p := ⟨bb, o + u * 5 + 3, none⟩) hbbw).trans d3, (h.cell (p := ⟨bb, o + u * 5 + 4, none⟩) hbbw).trans d4⟩
            have hd : decide ((0 : Int) < (j : Int) + 1) = true := by simp
            have f0 : (j : Int) + 1 - 1 = (j : Int) := by omega
            have f1 : IntKind.i64.wrap (j : Int) = (j : Int) := IntWalk.i64_in _ (by omega)
            have f2 : (0 : Int) ≤ (j : Int) := by omega
            have f3 : (j : Int) < (k : Int) := by omega
            have f4 : (u : Int) + 1 - 1 = (u : Int) := by omega
            have f5 : IntKind.i64.wrap (u : Int) = (u : Int) := IntWalk.i64_in _ (by omega)
            have f6 : (0 : Int) ≤ (u : Int) := by omega
            have f7 : (u : Int) < (l.length : Int) := by omega
            have f8 : (k : Int) < (l.length : Int) := by omega
            have f9 : (0 : Int) ≤ (k : Int) := by omega
            go_upto_region 6 with fail
            go_region_held3 (fun W' => Below wr.heap.size wr W' ∧ W'.cell? ⟨g, j, none⟩ = some (.int .i64 ((u : Int) + 1)) ∧ W'.cell? ⟨bb, o + k * 5, none⟩ = some (.string s.mo) ∧ W'.cell? ⟨bb, o + k * 5 + 1, none⟩ = some (.string s.ex) ∧ W'.cell? ⟨bb, o + k * 5 + 2, none⟩ = some (.int .i64 s.li) ∧ W'.cell? ⟨bb, o + k * 5 + 3, none⟩ = some (.int .i64 s.co) ∧ W'.cell? ⟨bb, o + k * 5 + 4, none⟩ = some (.int .i64 s.ru) ∧ W'.cell? ⟨bb, o + u * 5, none⟩ = some (.string t.mo) ∧ W'.cell? ⟨bb, o + u * 5 + 1, none⟩ = some (.string t.ex) ∧ W'.cell? ⟨bb, o + u * 5 + 2, none⟩ = some (.int .i64 t.li) ∧ W'.cell? ⟨bb, o + u * 5 + 3, none⟩ = some (.int .i64 t.co) ∧ W'.cell? ⟨bb, o + u * 5 + 4, none⟩ = some (.int .i64 t.ru))
              (first
                | exact HK.out _ (Below.refl _ _).drew
                | (go_split_ands; exact HK.out _ (bl (by assumption) hb1))
                | go_keep)
              ((first
                | (go_at_call 49; refine (HCALL.out _).mono ?_; rintro e w1 ⟨rfl, hb1⟩)))
            rename_i hHeld
            have hbj2 := hbj.trans (hHeld.1.mono hbj.size)
            cases B
            · have hpos := HPOS.out
              simp only [Bool.false_eq_true, if_false] at hpos
              have HJ2 : Hid (posF p k = j + 1) := Lib.hid (by rw [HJ.out, hpos])
              clear hpos HJ
              go_wp2_with fail
              go_meet
              case rel => exact ⟨by rw [HJ2.out]; go_num, hbj2⟩
            · have hpos := HPOS.out
              simp only [if_true] at hpos
              have HJ2 : Hid (posF p k = posF p j) := Lib.hid (by rw [HJ.out, hpos])
              clear hpos HJ
              go_wp2_with fail
              go_roundg j
              case measure => omega
              case rel => exact ⟨j, by omega, rfl, by go_num, hbj2, HJ2⟩
          · obtain rfl : j = 0 := by omega
            have HJ2 : Hid (posF p k = 0) := HJ
            have hd : decide ((0 : Int) < 0) = false := by decide
            clear HJ
            go_wp2_with fail
            go_quiet (fail)
            go_wp2_with fail
            go_meet
            case rel => exact ⟨by rw [HJ2.out], bdr hbj _⟩
      case rest =>
        obtain ⟨rfl, hbk⟩ := hcut
        have hbw := hb.trans (hbk.mono hb.size)
        have ho := own_below HO.out hbk
        have hll := HLL.out
        obtain ⟨P, hP⟩ : ∃ P, posF p k = P := ⟨_, rfl⟩
        have hPk : P ≤ k := by rw [← hP]; exact posF_le p k
        have hput := HPUT.out
        rw [hP] at hput ⊢
        have HPUT2 := Lib.hid hput
        clear hput hP HP HPUT HS HSS HA
        have hl0 : (wc.alloc (.cells #[.int .i64 0] 3)).ownsRow w.heap.size 3 1 (.slice Av k cv) k (L.map vI) := World.ownsRow.alloc ho _
        have s1 : ∀ u ∈ [Value.int .i64 0], u.oneCell' = true := by intro u hu; simp at hu; subst hu; rfl
        have s2 : k + 1 ≤ maxLen := by unfold maxLen; omega
        have s3 : (k + 1) * 8 ≤ 140737488355328 := by omega
        have s4 : w.heap.size ≤ (wc.alloc (.cells #[.int .i64 0] 3)).heap.size := by have := hbw.size; simp; omega
        have S1 := Lib.hid s1
        have S4 := Lib.hid s4
        have L0 := Lib.hid hl0
        clear s1 s4 hl0
        go_wp2_with (at_builtin; refine wpList_append_sl _ rfl (.tmp 35) (.tmp 36) 41 rfl w.heap.size 3 i0 _ 1 8 Tryd.underlying41 hi0 hz0 hz1 hz2 rfl (by omega) _ k _ rfl L0.out (wc.heap.size + 1) _ 1 1 [.int .i64 0] rfl (Sl.one _ _ _) S1.out s2 s3 S4.out ?_)
        intro v1 w1 hown1 hg1 hat1
        have hb1 : Below w.heap.size w w1 := (hbw.alloc hbw.size _).grown hg1 S4.out (fun g hg => (ho.lt g hg).1)
        obtain ⟨A1, c1, rfl, hm1, hm2⟩ := own_shape hown1
        have hst : w1.ownsRow w.heap.size 3 1 (.slice A1 (k + 1) c1) (k + 1) ((L.map vI).take k ++ .int .i64 0 :: (L.map vI).drop k) := by
          have e1 : (L.map vI).take k = L.map vI := List.take_of_length_le (by simp [hll])
          have e2 : (L.map vI).drop k = [] := List.drop_eq_nil_of_le (by simp [hll])
          rw [e1, e2]; exact hown1
        have HST := Lib.hid hst
        clear S1 S4 L0 hg1 hat1 hown1 hst ho
        go_wp2_with fail
        go_loopg [6] (k - P) (fun q i W => ∃ j : Nat, P ≤ j ∧ j ≤ k ∧ q = j - P ∧ i = .int .i64 j ∧ (∃ z, W.ownsRow w.heap.size 3 1 (.slice A1 (k + 1) c1) (k + 1) ((L.map vI).take j ++ z :: (L.map vI).drop j)) ∧ Below w.heap.size w W)
        case atStart => exact ⟨k, hPk, Nat.le_refl _, rfl, by go_num, ⟨_, HST.out⟩, hb1⟩
        case round =>
          obtain ⟨j, hjP, hjk, rfl, rfl, ⟨z, ho⟩, hbj⟩ := hrel
          obtain ⟨g, hA1, hg1, hg2, hcell⟩ := own_cell ho (show j < k + 1 by omega)
          subst hA1
          have hfz : ∀ i, wr.frozen? ⟨g, i, none⟩ = false := by
            intro i
            rcases ho.2 with ⟨e, _⟩ | ⟨g', cap', cur, e, _, hgc, _⟩
            · cases e
            · injection e with e1 _ _
              injection e1 with e1
              injection e1 with e1
              subst e1
              simp [World.frozen?, hgc]
          by_cases hjp : P < j
          · obtain ⟨j, rfl⟩ : ∃ j', j = j' + 1 := ⟨j - 1, by omega⟩
            obtain ⟨v, hv⟩ : ∃ v, L[j]? = some v := ⟨_, List.getElem?_eq_getElem (by omega)⟩
            have hvv : (L.map vI)[j]? = some (vI v) := by rw [List.getElem?_map, hv]; rfl
            have hrd := hole_read (L.map vI) j z (vI v) hvv
            obtain ⟨g', hg', _, _, hcell'⟩ := own_cell ho (show j < k + 1 by omega)
            injection hg' with hg'
            injection hg' with hg'
            subst hg'
            have c0 := hcell' _ hrd
            have hin : j + 1 < ((L.map vI).take (j + 1) ++ z :: (L.map vI).drop (j + 1)).length := by simp; omega
            have c1 := hcell _ (List.getElem?_eq_getElem hin)
            have z1 := hfz (j + 1)
            have hset := own_set1 ho (show j + 1 < k + 1 by omega) (vI v)
            rw [hole_set _ _ _ _ (by simp; omega), hole_step _ _ _ hvv] at hset
            have HSET := Lib.hid hset
            have hvI : vI v = .int .i64 (v : Int) := rfl
            rw [hvI] at c0
            generalize ((L.map vI).take (j + 1) ++ z :: (L.map vI).drop (j + 1))[j + 1]'hin = old at c1
            have f0 : (j : Int) + 1 - 1 = (j : Int) := by omega
            clear hv hvv hrd hcell hcell' hin hset hfz ho
            go_wp2_with fail
            go_roundg (j - P)
            case measure => omega
            case rel => exact ⟨j, by omega, by omega, rfl, by go_num, ⟨_, HSET.out⟩, hbj.setCell hg1 _⟩
          · obtain rfl : j = P := by omega
            have hin : j < ((L.map vI).take j ++ z :: (L.map vI).drop j).length := by simp; omega
            have c1 := hcell _ (List.getElem?_eq_getElem hin)
            have z1 := hfz j
            have hset := own_set1 ho (show j < k + 1 by omega) (vI (k + 1))
            rw [hole_set _ _ _ _ (by simp; omega)] at hset
            have hfin : (byIns (siteOf l) (k + 1)).map vI = (L.map vI).take j ++ vI (k + 1) :: (L.map vI).drop j := by rw [HPUT2.out, List.map_append, List.map_cons, List.map_take, List.map_drop]
            rw [← hfin] at hset
            have HSET := Lib.hid hset
            generalize ((L.map vI).take j ++ z :: (L.map vI).drop j)[j]'hin = old at c1
            clear hcell hin hset hfz ho hfin
            go_wp2_with fail
            go_roundg (l.length - (k + 1))
            case measure => omega
            case rel => exact ⟨k + 1, by omega, rfl, by go_num, HSET.out, hbj.setCell hg1 _⟩
    · obtain rfl : k = l.length := by omega
      go_wp2_with fail
      go_ret
      exact ⟨_, rfl, ho, hb⟩
end Go.Proofs.YthonnpjlkcjoeaaDoor.La
