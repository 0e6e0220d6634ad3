/- Contracts: relate.all's inner function, asked by Consistent. (printed by cutref.py out of XRelB.) -/
import Derived.Test.YtjklecncdinabaaGreatDoorTyC
import Derived.Test.YtjklecncdinabaaGreatDoorReA
import Derived.Test.YtjklecncdinabaaGreatDoorRelT
import Derived.StillTailTactics
import Derived.Deep.LoopGhost
namespace Go.Proofs.YtjklecncdinabaaGreatDoor.T
open Go.RowKit Go.Proofs.YtjklecncdinabaaGreatDoor.B
set_option linter.unusedSimpArgs false
set_option linter.unusedVariables false

set_option maxRecDepth 100000 in
theorem walk_any (ask : Ty → Ty → Int) (hA : Asks ask)
    (hask : ∀ S T W, S.ok → T.ok → Calls Tryz.prog 67 #[.string (str S), .string (str T)] W fun e w' => e = .returned (.int .i64 (ask S T)) ∧ ∃ n, w' = W.drewN n)
    (b5 b7 : Nat) (fuel : Nat) : ∀ (S T : Ty) (w : World) (hf : S.code.length ≤ fuel) (hS : S.ok) (hT : T.ok) (hS64 : S.code.length ≤ 64) (hT64 : T.code.length ≤ 64) (h5 : b5 < w.heap.size) (h7 : b7 < w.heap.size)
    (c5 : w.cell? ⟨b5, 0, none⟩ = some (.func (.func 67) #[] #[])) (c7 : w.cell? ⟨b7, 0, none⟩ = some (.func (.func 79) #[] #[.pointer (some ⟨b5, 0, none⟩), .pointer (some ⟨b7, 0, none⟩)])),
    Calls Tryz.prog 79 #[.string (str S), .string (str T), .pointer (some ⟨b5, 0, none⟩), .pointer (some ⟨b7, 0, none⟩)] w fun e w' => e = .returned (.bool (allT ask S T)) ∧ Below w.heap.size w w' := by
  induction fuel with
  | zero => intro S T w hf; have := S.code_pos; omega
  | succ fuel ih =>
  intro S T w hf hS hT hS64 hT64 h5 h7 c5 c7
  have IH := Lib.hid ih
  clear ih
  have ha := hask S T w hS hT
  obtain ⟨q, hq⟩ : ∃ q, ask S T = q := ⟨_, rfl⟩
  rw [hq] at ha
  have hq0 := hA.lo S T
  have hq1 := hA.hi S T
  have hkl : q < 0 → S.kids.length = T.kids.length := fun h => kids_len hS hT (hA.neg S T (by omega))
  have hres := allT_kids (ask := ask) hS hT hA
  rw [hq] at hq0 hq1 hres
  have hP1 := fun W => Parts_yes S W hS hS64
  have hP2 := fun W => Parts_yes T W hT hT64
  have hk1 : ∀ x ∈ S.kids, x.ok := fun x hx => Ty.kids_ok hS hx
  have hk2 : ∀ x ∈ T.kids, x.ok := fun x hx => Ty.kids_ok hT hx
  have hm1 : ∀ x ∈ S.kids, x.code.length ≤ fuel ∧ x.code.length ≤ 64 := fun x hx => by have := Ty.kid_code hx; omega
  have hm2 : ∀ x ∈ T.kids, x.code.length ≤ 64 := fun x hx => by have := Ty.kid_code hx; omega
  obtain ⟨s, hs⟩ : ∃ s, str S = s := ⟨_, rfl⟩
  obtain ⟨t, ht⟩ : ∃ t, str T = t := ⟨_, rfl⟩
  rw [hs] at ha hP1
  rw [ht] at ha hP2
  rw [hs, ht]
  have HQ := Lib.hid hres
  have HK1 := Lib.hid hk1
  have HK2 := Lib.hid hk2
  have HM1 := Lib.hid hm1
  have HM2 := Lib.hid hm2
  by_cases h0 : 0 ≤ q
  · clear hq hs ht hres hk1 hk2 hm1 hm2 hkl hP1 hP2
    go_enter Tryz.func79, Tryz.ntmps79
    go_wp2_with fail
    go_step3
    go_wp2_with fail
    refine ha.mono ?_
    rintro e w' ⟨rfl, n, rfl⟩
    go_wp2_with fail
    rw [Exit.noGoto_ret]
    go_ret
    exact ⟨by rw [HQ.out, if_pos h0]; rfl, below_drewN (Below.refl _ _) _⟩
  · have hlen := hkl (by omega)
    have HLEN := Lib.hid hlen
    have hall : Hid (allT ask S T = (S.kids.zip T.kids).all fun p => allT ask p.1 p.2) := by show _ = _; rw [hres, if_neg h0]
    clear hq hs ht hres hk1 hk2 hm1 hm2 hkl hlen
    go_enter Tryz.func79, Tryz.ntmps79
    go_wp2_with fail
    go_step3
    go_wp2_with fail
    refine ha.mono ?_
    rintro e w' ⟨rfl, n, rfl⟩
    go_wp2_with fail
    refine (hP1 _).mono ?_
    rintro e w1 ⟨v1, rfl, ho1, hb1⟩
    obtain ⟨A1, cap1, rfl, _, _, hs1⟩ := Sl.of_own ho1
    go_wp2_with fail
    refine (hP2 _).mono ?_
    rintro e w2 ⟨v2, rfl, ho2, hb2⟩
    obtain ⟨A2, cap2, rfl, _, _, hs2⟩ := Sl.of_own ho2
    have hs1' := (hs1.below hb2).more hb2.size
    have hc2 := bl (bl (bdr (b0 (a := w)) n) hb1) hb2
    clear ho1 ho2 hs1 hb1 hb2 ha hP1 hP2
    obtain ⟨K1, hK1⟩ : ∃ K1, S.kids = K1 := ⟨_, rfl⟩
    obtain ⟨K2, hK2⟩ : ∃ K2, T.kids = K2 := ⟨_, rfl⟩
    rw [hK1] at HK1 HM1 HLEN hall hs1'
    rw [hK2] at HK2 HM2 HLEN hall hs2
    rw [hK1, hK2]
    have hK12 : K1.length ≤ 2 := by rw [← hK1]; exact Ty.kids_le S
    clear hK1 hK2
    go_wp2_with fail
    go_step3
    go_wp2_with fail
    go_loopg [8, 11, 26] K1.length (fun g gd _ i wr => ∃ j : Nat, j ≤ K1.length ∧ g = K1.length - j ∧ gd = .bool true ∧ i = .int .i64 j ∧ Below w.heap.size w wr ∧ Below w2.heap.size w2 wr ∧ Hid (∀ m S' T', m < j → K1[m]? = some S' → K2[m]? = some T' → allT ask S' T' = true))
    case atStart => exact ⟨0, by omega, rfl, rfl, rfl, hc2, Below.refl _ _, fun m _ _ h => by omega⟩
    case round =>
      obtain ⟨j, hj, rfl, rfl, rfl, hbr, hb2r, hdone⟩ := hrel
      by_cases hlt : j < K1.length
      · obtain ⟨S', hS'⟩ : ∃ S', K1[j]? = some S' := ⟨_, List.getElem?_eq_getElem hlt⟩
        obtain ⟨T', hT'⟩ : ∃ T', K2[j]? = some T' := ⟨_, List.getElem?_eq_getElem (by rw [← HLEN.out]; exact hlt)⟩
        have hlt2 : j < K2.length := by rw [← HLEN.out]; exact hlt
        obtain ⟨g1, o1, rfl, hg1, hcs1⟩ := hs1'.at_ (by omega)
        obtain ⟨g2, o2, rfl, hg2, hcs2⟩ := hs2.at_ (by omega)
        have e1 : wr.cell? ⟨g1, o1 + j, none⟩ = some (.string (str S')) := (hb2r.cell (p := ⟨g1, o1 + j, none⟩) hg1).trans (hcs1 j _ (by rw [List.getElem?_map, hS']; rfl))
        have e2 : wr.cell? ⟨g2, o2 + j, none⟩ = some (.string (str T')) := (hb2r.cell (p := ⟨g2, o2 + j, none⟩) hg2).trans (hcs2 j _ (by rw [List.getElem?_map, hT']; rfl))
        have e5 : wr.cell? ⟨b5, 0, none⟩ = some (.func (.func 67) #[] #[]) := (hbr.cell (p := ⟨b5, 0, none⟩) h5).trans c5
        have e7 : wr.cell? ⟨b7, 0, none⟩ = some (.func (.func 79) #[] #[.pointer (some ⟨b5, 0, none⟩), .pointer (some ⟨b7, 0, none⟩)]) := (hbr.cell (p := ⟨b7, 0, none⟩) h7).trans c7
        have hm1 := HM1.out S' (List.mem_of_getElem? hS')
        have hm2 := HM2.out T' (List.mem_of_getElem? hT')
        have hz := hbr.size
        have hcall := fun W h5 h7 c5 c7 => IH.out S' T' W hm1.1 (HK1.out S' (List.mem_of_getElem? hS')) (HK2.out T' (List.mem_of_getElem? hT')) hm1.2 hm2 h5 h7 c5 c7
        obtain ⟨r, hr⟩ : ∃ r, allT ask S' T' = r := ⟨_, rfl⟩
        obtain ⟨s', hs'⟩ : ∃ s', str S' = s' := ⟨_, rfl⟩
        obtain ⟨t', ht'⟩ : ∃ t', str T' = t' := ⟨_, rfl⟩
        rw [hs', ht', hr] at hcall
        rw [hs'] at e1
        rw [ht'] at e2
        have HSj := Lib.hid hS'
        have HTj := Lib.hid hT'
        have HR := Lib.hid hr
        have HD := Lib.hid hdone
        clear hS' hT' hr hs' ht' hdone hs1' hs2 hcs1 hcs2 hm1 hm2 c5 c7
        go_wp2_with fail
        go_still_tail 9, (by kernel_rfl)
        change wpList _ _ _ _ _ wr.drew
        go_wp2_with fail
        refine (hcall _ (by simp; omega) (by simp; omega) (by simpa using e5) (by simpa using e7)).mono ?_
        rintro e w3 ⟨rfl, hb3⟩
        have hb3' : Below wr.heap.size wr w3 := ((Below.refl wr.heap.size wr).drew).trans hb3
        cases r
        · go_wp2_with fail
          rw [Exit.noGoto_ret]
          go_ret
          exact ⟨by rw [hall.out, zip_not _ HSj.out HTj.out HR.out]; rfl, bl hbr hb3'⟩
        · go_wp2_with fail
          go_roundg (K1.length - (j + 1))
          case measure => omega
          case rel =>
            refine ⟨j + 1, by omega, rfl, rfl, by go_num, bl hbr hb3', bl hb2r hb3', ?_⟩
            intro m S'' T'' hm h1 h2
            rcases Nat.lt_or_ge m j with h | h
            · exact HD.out m S'' T'' h h1 h2
            · obtain rfl : m = j := by omega
              rw [HSj.out] at h1
              rw [HTj.out] at h2
              cases h1; cases h2
              exact HR.out
      · obtain rfl : j = K1.length := by omega
        go_wp2_with fail
        rw [Exit.noGoto_ret]
        go_ret
        refine ⟨?_, hbr⟩
        rw [hall.out, zip_all HLEN.out _ hdone.out]
        rfl

end Go.Proofs.YtjklecncdinabaaGreatDoor.T
