/- Contracts: the answer's consistent, precise; Consistent, Precise; both. -/
import Derived.Test.YthonnpjlkcjoeaaRelC
namespace Go.Proofs.Ythonnpjlkcjoeaa.T
open Go.RowKit Go.Proofs.Ythonnpjlkcjoeaa.B
set_option linter.unusedSimpArgs false
set_option linter.unusedVariables false

theorem head_byte {s : ByteArray} {a b : UInt8} (h : 0 < s.size) (e : s[0]'h = a) : Hid (s[0]'h = a) := e

set_option maxRecDepth 100000 in
theorem consR_any (fuel : Nat) : ∀ (S T : Ty) (w : World) (hf : S.code.length ≤ fuel) (hS : S.ok) (hT : T.ok) (hS64 : S.code.length ≤ 64) (hT64 : T.code.length ≤ 64),
    Calls Try.prog 43 #[.string (str S), .string (str T)] w fun e w' => e = .returned (.bool (allT askC S T)) ∧ Below w.heap.size w w' := by
  induction fuel with
  | zero => intro S T w hf; have := S.code_pos; omega
  | succ fuel ih =>
  intro S T w hf hS hT hS64 hT64
  have IH := Lib.hid ih
  clear ih
  have hA := askC_asks
  obtain ⟨q, hq⟩ : ∃ q, askC S T = q := ⟨_, rfl⟩
  have hkl : q < 0 → S.kids.length = T.kids.length := fun h => kids_len hS hT (hA.neg S T (by omega))
  have hres := allT_kids (ask := askC) hS hT hA
  rw [hq] at hres
  have hP1 := fun W => PartsRef_yes S W hS hS64
  have hP2 := fun W => PartsRef_yes T W hT hT64
  have hk1 : ∀ x ∈ S.kids, x.ok := fun x hx => Ty.kids_ok hS hx
  have hk2 : ∀ x ∈ T.kids, x.ok := fun x hx => Ty.kids_ok hT hx
  have hm1 : ∀ x ∈ S.kids, x.code.length ≤ fuel ∧ x.code.length ≤ 64 := fun x hx => by have := Ty.kid_code hx; omega
  have hm2 : ∀ x ∈ T.kids, x.code.length ≤ 64 := fun x hx => by have := Ty.kid_code hx; omega
  obtain ⟨p1, e1⟩ := str_head S
  obtain ⟨p2, e2⟩ := str_head T
  obtain ⟨a, ha⟩ : ∃ a, S.head = a := ⟨_, rfl⟩
  obtain ⟨b, hb⟩ : ∃ b, T.head = b := ⟨_, rfl⟩
  rw [ha] at e1
  rw [hb] at e2
  unfold askC at hq
  rw [ha, hb] at hq
  have hbn := byte_neq a b
  have hba := byte_eq a 63
  have hbb := byte_eq b 63
  obtain ⟨s, hs⟩ : ∃ s, str S = s := ⟨_, rfl⟩
  obtain ⟨t, ht⟩ : ∃ t, str T = t := ⟨_, rfl⟩
  have hbs : ∃ h : 0 < s.size, s[0]'h = a := by subst hs; exact ⟨p1, e1⟩
  have hbt : ∃ h : 0 < t.size, t[0]'h = b := by subst ht; exact ⟨p2, e2⟩
  rw [hs] at hP1
  rw [ht] at hP2
  rw [hs, ht]
  clear p1 e1 p2 e2
  obtain ⟨p1, e1⟩ := hbs
  obtain ⟨p2, e2⟩ := hbt
  have HQ := Lib.hid hres
  have HK1 := Lib.hid hk1
  have HK2 := Lib.hid hk2
  have HM1 := Lib.hid hm1
  have HM2 := Lib.hid hm2
  clear hs ht hres hk1 hk2 hm1 hm2
  by_cases ha63 : a = 63
  · rw [if_pos (.inl ha63)] at hq
    have ha' : ((a.toNat : Int) == 63) = true := by rw [show (63 : Int) = ((63 : UInt8).toNat : Int) from rfl, hba]; simpa using ha63
    subst hq
    clear hkl ha63 ha hb hbn hba hbb hA hP1 hP2
    go_enter Try.func43, Try.ntmps43
    go_wp2_with fail
    go_ret
    exact ⟨by rw [HQ.out]; rfl, b0⟩
  by_cases hb63 : b = 63
  · rw [if_pos (.inr hb63)] at hq
    have ha' : ((a.toNat : Int) == 63) = false := by rw [show (63 : Int) = ((63 : UInt8).toNat : Int) from rfl, hba]; simpa using ha63
    have hb' : ((b.toNat : Int) == 63) = true := by rw [show (63 : Int) = ((63 : UInt8).toNat : Int) from rfl, hbb]; simpa using hb63
    subst hq
    clear hkl ha63 hb63 ha hb hbn hba hbb hA hP1 hP2
    go_enter Try.func43, Try.ntmps43
    go_wp2_with fail
    go_ret
    exact ⟨by rw [HQ.out]; rfl, b0⟩
  rw [if_neg (by intro h; rcases h with h | h; exact ha63 h; exact hb63 h)] at hq
  have ha' : ((a.toNat : Int) == 63) = false := by rw [show (63 : Int) = ((63 : UInt8).toNat : Int) from rfl, hba]; simpa using ha63
  have hb'' : ((b.toNat : Int) == 63) = false := by rw [show (63 : Int) = ((63 : UInt8).toNat : Int) from rfl, hbb]; simpa using hb63
  clear ha63 hb63
  · by_cases hab : a = b
    · rw [if_pos hab] at hq
      subst hq
      have hlen := hkl (by omega)
      have HLEN := Lib.hid hlen
      have hall : Hid (allT askC S T = (S.kids.zip T.kids).all fun p => allT askC p.1 p.2) := by show _ = _; rw [HQ.out, if_neg (by omega)]
      have hb' : ((a.toNat : Int) != (b.toNat : Int)) = false := by rw [hbn]; simpa using hab
      clear hkl hlen HQ hab ha hb hbn hba hbb hA
      go_enter Try.func43, Try.ntmps43
      go_wp2_with fail
      go_quiet (fail)
      go_wp2_with fail
      refine (hP1 _).mono ?_
      rintro e w1 ⟨v1, rfl, ho1, hb1⟩
      obtain ⟨A1, cap1, rfl, _, _, hs1⟩ := Sl.of_own ho1
      go_wp2_with fail
      refine (hP2 _).mono ?_
      rintro e w2 ⟨v2, rfl, ho2, hb2⟩
      obtain ⟨A2, cap2, rfl, _, _, hs2⟩ := Sl.of_own ho2
      have hs1' := (hs1.below hb2).more hb2.size
      have hc2 := bl (bl (bdr (b0 (a := w)) nq) hb1) hb2
      clear ho1 ho2 hs1 hb1 hb2 hP1 hP2
      obtain ⟨K1, hK1⟩ : ∃ K1, S.kids = K1 := ⟨_, rfl⟩
      obtain ⟨K2, hK2⟩ : ∃ K2, T.kids = K2 := ⟨_, rfl⟩
      rw [hK1] at HK1 HM1 HLEN hall hs1'
      rw [hK2] at HK2 HM2 HLEN hall hs2
      rw [hK1, hK2]
      have hK12 : K1.length ≤ 2 := by rw [← hK1]; exact Ty.kids_le S
      clear hK1 hK2
      go_wp2_with fail
      go_loopg [7] K1.length (fun g i wr => ∃ j : Nat, j ≤ K1.length ∧ g = K1.length - j ∧ i = .int .i64 j ∧ Below w.heap.size w wr ∧ Below w2.heap.size w2 wr ∧ Hid (∀ m S' T', m < j → K1[m]? = some S' → K2[m]? = some T' → allT askC S' T' = true))
      case atStart => exact ⟨0, by omega, rfl, rfl, hc2, Below.refl _ _, fun m _ _ h => by omega⟩
      case round =>
        obtain ⟨j, hj, rfl, rfl, hbr, hb2r, hdone⟩ := hrel
        by_cases hlt : j < K1.length
        · obtain ⟨S', hS'⟩ : ∃ S', K1[j]? = some S' := ⟨_, List.getElem?_eq_getElem hlt⟩
          obtain ⟨T', hT'⟩ : ∃ T', K2[j]? = some T' := ⟨_, List.getElem?_eq_getElem (by rw [← HLEN.out]; exact hlt)⟩
          have hlt2 : j < K2.length := by rw [← HLEN.out]; exact hlt
          obtain ⟨g1, o1, rfl, hg1, hcs1⟩ := hs1'.at_ (by omega)
          obtain ⟨g2, o2, rfl, hg2, hcs2⟩ := hs2.at_ (by omega)
          have e1' : wr.cell? ⟨g1, o1 + j, none⟩ = some (.string (str S')) := (hb2r.cell (p := ⟨g1, o1 + j, none⟩) hg1).trans (hcs1 j _ (by rw [List.getElem?_map, hS']; rfl))
          have e2' : wr.cell? ⟨g2, o2 + j, none⟩ = some (.string (str T')) := (hb2r.cell (p := ⟨g2, o2 + j, none⟩) hg2).trans (hcs2 j _ (by rw [List.getElem?_map, hT']; rfl))
          have hm1 := HM1.out S' (List.mem_of_getElem? hS')
          have hm2 := HM2.out T' (List.mem_of_getElem? hT')
          have hcall := fun W => IH.out S' T' W hm1.1 (HK1.out S' (List.mem_of_getElem? hS')) (HK2.out T' (List.mem_of_getElem? hT')) hm1.2 hm2
          obtain ⟨r, hr⟩ : ∃ r, allT askC S' T' = r := ⟨_, rfl⟩
          obtain ⟨s', hs'⟩ : ∃ s', str S' = s' := ⟨_, rfl⟩
          obtain ⟨t', ht'⟩ : ∃ t', str T' = t' := ⟨_, rfl⟩
          rw [hs', ht', hr] at hcall
          rw [hs'] at e1'
          rw [ht'] at e2'
          have HSj := Lib.hid hS'
          have HTj := Lib.hid hT'
          have HR := Lib.hid hr
          have HD := Lib.hid hdone
          clear hS' hT' hr hs' ht' hdone hs1' hs2 hcs1 hcs2 hm1 hm2
          go_wp2_with fail
          go_still_tail 8, (by kernel_rfl)
          change wpList _ _ _ _ _ wr.drew
          go_wp2_with fail
          refine (hcall _).mono ?_
          rintro e w3 ⟨rfl, hb3⟩
          have hb3' : Below wr.heap.size wr w3 := ((Below.refl wr.heap.size wr).drew).trans hb3
          cases r
          · go_wp2_with fail
            go_ret
            exact ⟨by rw [hall.out, zip_not _ HSj.out HTj.out HR.out]; rfl, bl hbr hb3'⟩
          · go_wp2_with fail
            go_roundg (K1.length - (j + 1))
            case measure => omega
            case rel =>
              refine ⟨j + 1, by omega, rfl, by go_num, bl hbr hb3', bl hb2r hb3', ?_⟩
              intro m S'' T'' hm h1 h2
              rcases Nat.lt_or_ge m j with h | h
              · exact HD.out m S'' T'' h h1 h2
              · obtain rfl : m = j := by omega
                rw [HSj.out] at h1
                rw [HTj.out] at h2
                cases h1; cases h2
                exact HR.out
        · obtain rfl : j = K1.length := by omega
          go_wp2_with fail
          go_ret
          refine ⟨?_, hbr⟩
          rw [hall.out, zip_all HLEN.out _ hdone.out]
          rfl
    · rw [if_neg hab] at hq
      have hb' : ((a.toNat : Int) != (b.toNat : Int)) = true := by rw [hbn]; simpa using hab
      subst hq
      clear hkl hab ha hb hbn hba hbb hA hP1 hP2
      go_enter Try.func43, Try.ntmps43
      go_wp2_with fail
      go_quiet (fail)
      go_wp2_with fail
      go_ret
      exact ⟨by rw [HQ.out]; rfl, bdr b0 _⟩

set_option maxRecDepth 100000 in
theorem precR_any (fuel : Nat) : ∀ (S T : Ty) (w : World) (hf : S.code.length ≤ fuel) (hS : S.ok) (hT : T.ok) (hS64 : S.code.length ≤ 64) (hT64 : T.code.length ≤ 64),
    Calls Try.prog 51 #[.string (str S), .string (str T)] w fun e w' => e = .returned (.bool (allT askP S T)) ∧ Below w.heap.size w w' := by
  induction fuel with
  | zero => intro S T w hf; have := S.code_pos; omega
  | succ fuel ih =>
  intro S T w hf hS hT hS64 hT64
  have IH := Lib.hid ih
  clear ih
  have hA := askP_asks
  obtain ⟨q, hq⟩ : ∃ q, askP S T = q := ⟨_, rfl⟩
  have hkl : q < 0 → S.kids.length = T.kids.length := fun h => kids_len hS hT (hA.neg S T (by omega))
  have hres := allT_kids (ask := askP) hS hT hA
  rw [hq] at hres
  have hP1 := fun W => PartsRef_yes S W hS hS64
  have hP2 := fun W => PartsRef_yes T W hT hT64
  have hk1 : ∀ x ∈ S.kids, x.ok := fun x hx => Ty.kids_ok hS hx
  have hk2 : ∀ x ∈ T.kids, x.ok := fun x hx => Ty.kids_ok hT hx
  have hm1 : ∀ x ∈ S.kids, x.code.length ≤ fuel ∧ x.code.length ≤ 64 := fun x hx => by have := Ty.kid_code hx; omega
  have hm2 : ∀ x ∈ T.kids, x.code.length ≤ 64 := fun x hx => by have := Ty.kid_code hx; omega
  obtain ⟨p1, e1⟩ := str_head S
  obtain ⟨p2, e2⟩ := str_head T
  obtain ⟨a, ha⟩ : ∃ a, S.head = a := ⟨_, rfl⟩
  obtain ⟨b, hb⟩ : ∃ b, T.head = b := ⟨_, rfl⟩
  rw [ha] at e1
  rw [hb] at e2
  unfold askP at hq
  rw [ha, hb] at hq
  have hbn := byte_neq a b
  have hba := byte_eq a 63
  have hbb := byte_eq b 63
  obtain ⟨s, hs⟩ : ∃ s, str S = s := ⟨_, rfl⟩
  obtain ⟨t, ht⟩ : ∃ t, str T = t := ⟨_, rfl⟩
  have hbs : ∃ h : 0 < s.size, s[0]'h = a := by subst hs; exact ⟨p1, e1⟩
  have hbt : ∃ h : 0 < t.size, t[0]'h = b := by subst ht; exact ⟨p2, e2⟩
  rw [hs] at hP1
  rw [ht] at hP2
  rw [hs, ht]
  clear p1 e1 p2 e2
  obtain ⟨p1, e1⟩ := hbs
  obtain ⟨p2, e2⟩ := hbt
  have HQ := Lib.hid hres
  have HK1 := Lib.hid hk1
  have HK2 := Lib.hid hk2
  have HM1 := Lib.hid hm1
  have HM2 := Lib.hid hm2
  clear hs ht hres hk1 hk2 hm1 hm2
  by_cases hb63 : b = 63
  · rw [if_pos hb63] at hq
    have hb' : ((b.toNat : Int) == 63) = true := by rw [show (63 : Int) = ((63 : UInt8).toNat : Int) from rfl, hbb]; simpa using hb63
    subst hq
    clear hkl hb63 ha hb hbn hba hbb hA hP1 hP2
    go_enter Try.func51, Try.ntmps51
    go_wp2_with fail
    go_ret
    exact ⟨by rw [HQ.out]; rfl, b0⟩
  rw [if_neg hb63] at hq
  have hb'' : ((b.toNat : Int) == 63) = false := by rw [show (63 : Int) = ((63 : UInt8).toNat : Int) from rfl, hbb]; simpa using hb63
  clear hb63
  · by_cases hab : a = b
    · rw [if_pos hab] at hq
      subst hq
      have hlen := hkl (by omega)
      have HLEN := Lib.hid hlen
      have hall : Hid (allT askP S T = (S.kids.zip T.kids).all fun p => allT askP p.1 p.2) := by show _ = _; rw [HQ.out, if_neg (by omega)]
      have hb' : ((a.toNat : Int) != (b.toNat : Int)) = false := by rw [hbn]; simpa using hab
      clear hkl hlen HQ hab ha hb hbn hba hbb hA
      go_enter Try.func51, Try.ntmps51
      go_wp2_with fail
      go_quiet (fail)
      go_wp2_with fail
      refine (hP1 _).mono ?_
      rintro e w1 ⟨v1, rfl, ho1, hb1⟩
      obtain ⟨A1, cap1, rfl, _, _, hs1⟩ := Sl.of_own ho1
      go_wp2_with fail
      refine (hP2 _).mono ?_
      rintro e w2 ⟨v2, rfl, ho2, hb2⟩
      obtain ⟨A2, cap2, rfl, _, _, hs2⟩ := Sl.of_own ho2
      have hs1' := (hs1.below hb2).more hb2.size
      have hc2 := bl (bl (bdr (b0 (a := w)) nq) hb1) hb2
      clear ho1 ho2 hs1 hb1 hb2 hP1 hP2
      obtain ⟨K1, hK1⟩ : ∃ K1, S.kids = K1 := ⟨_, rfl⟩
      obtain ⟨K2, hK2⟩ : ∃ K2, T.kids = K2 := ⟨_, rfl⟩
      rw [hK1] at HK1 HM1 HLEN hall hs1'
      rw [hK2] at HK2 HM2 HLEN hall hs2
      rw [hK1, hK2]
      have hK12 : K1.length ≤ 2 := by rw [← hK1]; exact Ty.kids_le S
      clear hK1 hK2
      go_wp2_with fail
      go_loopg [7] K1.length (fun g i wr => ∃ j : Nat, j ≤ K1.length ∧ g = K1.length - j ∧ i = .int .i64 j ∧ Below w.heap.size w wr ∧ Below w2.heap.size w2 wr ∧ Hid (∀ m S' T', m < j → K1[m]? = some S' → K2[m]? = some T' → allT askP S' T' = true))
      case atStart => exact ⟨0, by omega, rfl, rfl, hc2, Below.refl _ _, fun m _ _ h => by omega⟩
      case round =>
        obtain ⟨j, hj, rfl, rfl, hbr, hb2r, hdone⟩ := hrel
        by_cases hlt : j < K1.length
        · obtain ⟨S', hS'⟩ : ∃ S', K1[j]? = some S' := ⟨_, List.getElem?_eq_getElem hlt⟩
          obtain ⟨T', hT'⟩ : ∃ T', K2[j]? = some T' := ⟨_, List.getElem?_eq_getElem (by rw [← HLEN.out]; exact hlt)⟩
          have hlt2 : j < K2.length := by rw [← HLEN.out]; exact hlt
          obtain ⟨g1, o1, rfl, hg1, hcs1⟩ := hs1'.at_ (by omega)
          obtain ⟨g2, o2, rfl, hg2, hcs2⟩ := hs2.at_ (by omega)
          have e1' : wr.cell? ⟨g1, o1 + j, none⟩ = some (.string (str S')) := (hb2r.cell (p := ⟨g1, o1 + j, none⟩) hg1).trans (hcs1 j _ (by rw [List.getElem?_map, hS']; rfl))
          have e2' : wr.cell? ⟨g2, o2 + j, none⟩ = some (.string (str T')) := (hb2r.cell (p := ⟨g2, o2 + j, none⟩) hg2).trans (hcs2 j _ (by rw [List.getElem?_map, hT']; rfl))
          have hm1 := HM1.out S' (List.mem_of_getElem? hS')
          have hm2 := HM2.out T' (List.mem_of_getElem? hT')
          have hcall := fun W => IH.out S' T' W hm1.1 (HK1.out S' (List.mem_of_getElem? hS')) (HK2.out T' (List.mem_of_getElem? hT')) hm1.2 hm2
          obtain ⟨r, hr⟩ : ∃ r, allT askP S' T' = r := ⟨_, rfl⟩
          obtain ⟨s', hs'⟩ : ∃ s', str S' = s' := ⟨_, rfl⟩
          obtain ⟨t', ht'⟩ : ∃ t', str T' = t' := ⟨_, rfl⟩
          rw [hs', ht', hr] at hcall
          rw [hs'] at e1'
          rw [ht'] at e2'
          have HSj := Lib.hid hS'
          have HTj := Lib.hid hT'
          have HR := Lib.hid hr
          have HD := Lib.hid hdone
          clear hS' hT' hr hs' ht' hdone hs1' hs2 hcs1 hcs2 hm1 hm2
          go_wp2_with fail
          go_still_tail 8, (by kernel_rfl)
          change wpList _ _ _ _ _ wr.drew
          go_wp2_with fail
          refine (hcall _).mono ?_
          rintro e w3 ⟨rfl, hb3⟩
          have hb3' : Below wr.heap.size wr w3 := ((Below.refl wr.heap.size wr).drew).trans hb3
          cases r
          · go_wp2_with fail
            go_ret
            exact ⟨by rw [hall.out, zip_not _ HSj.out HTj.out HR.out]; rfl, bl hbr hb3'⟩
          · go_wp2_with fail
            go_roundg (K1.length - (j + 1))
            case measure => omega
            case rel =>
              refine ⟨j + 1, by omega, rfl, by go_num, bl hbr hb3', bl hb2r hb3', ?_⟩
              intro m S'' T'' hm h1 h2
              rcases Nat.lt_or_ge m j with h | h
              · exact HD.out m S'' T'' h h1 h2
              · obtain rfl : m = j := by omega
                rw [HSj.out] at h1
                rw [HTj.out] at h2
                cases h1; cases h2
                exact HR.out
        · obtain rfl : j = K1.length := by omega
          go_wp2_with fail
          go_ret
          refine ⟨?_, hbr⟩
          rw [hall.out, zip_all HLEN.out _ hdone.out]
          rfl
    · rw [if_neg hab] at hq
      have hb' : ((a.toNat : Int) != (b.toNat : Int)) = true := by rw [hbn]; simpa using hab
      subst hq
      clear hkl hab ha hb hbn hba hbb hA hP1 hP2
      go_enter Try.func51, Try.ntmps51
      go_wp2_with fail
      go_quiet (fail)
      go_wp2_with fail
      go_ret
      exact ⟨by rw [HQ.out]; rfl, bdr b0 _⟩

theorem ConsR_no (s t : ByteArray) (w : World) (hs : s.size ≤ 4611686018427387904) (ht : t.size ≤ 4611686018427387904) (h : isB s = false ∨ isB t = false) :
    Calls Try.prog 22 #[.string s, .string t] w fun e w' => e = .returned (.bool false) ∧ Below w.heap.size w w' := by
  have h1 := fun W => isR_any s W hs
  have h2 := fun W => isR_any t W ht
  by_cases hb : isB s = true
  · rw [hb] at h1 h
    rw [h.resolve_left (by simp)] at h2
    clear h hb
    go_enter Try.func22, Try.ntmps22
    go_wp2_with fail
    refine (h1 _).mono ?_
    rintro e w' ⟨rfl, rfl⟩
    go_wp2_with fail
    refine (h2 _).mono ?_
    rintro e w' ⟨rfl, rfl⟩
    go_wp2_with fail
    go_ret
    exact ⟨rfl, b0⟩
  · have hb' : isB s = false := by simpa using hb
    rw [hb'] at h1
    clear h hb hb' h2
    go_enter Try.func22, Try.ntmps22
    go_wp2_with fail
    refine (h1 _).mono ?_
    rintro e w' ⟨rfl, rfl⟩
    go_wp2_with fail
    go_ret
    exact ⟨rfl, b0⟩

theorem ConsR_yes (S T : Ty) (w : World) (hS : S.ok) (hT : T.ok) (hS64 : S.code.length ≤ 64) (hT64 : T.code.length ≤ 64) :
    Calls Try.prog 22 #[.string (str S), .string (str T)] w fun e w' => e = .returned (.bool (allT askC S T)) ∧ Below w.heap.size w w' := by
  have h1 := fun W => isR_any (str S) W (by simp [str]; omega)
  have h2 := fun W => isR_any (str T) W (by simp [str]; omega)
  rw [isB_str hS hS64] at h1
  rw [isB_str hT hT64] at h2
  have hw := fun W => consR_any 64 S T W hS64 hS hT hS64 hT64
  generalize allT askC S T = r at *
  generalize str S = s at *
  generalize str T = t at *
  go_enter Try.func22, Try.ntmps22
  go_wp2_with fail
  refine (h1 _).mono ?_
  rintro e w' ⟨rfl, rfl⟩
  go_wp2_with fail
  refine (h2 _).mono ?_
  rintro e w' ⟨rfl, rfl⟩
  go_wp2_with fail
  refine (hw _).mono ?_
  rintro e w1 ⟨rfl, hb⟩
  go_wp2_with fail
  go_ret
  exact ⟨rfl, hb⟩

theorem PrecR_no (s t : ByteArray) (w : World) (hs : s.size ≤ 4611686018427387904) (ht : t.size ≤ 4611686018427387904) (h : isB s = false ∨ isB t = false) :
    Calls Try.prog 24 #[.string s, .string t] w fun e w' => e = .returned (.bool false) ∧ Below w.heap.size w w' := by
  have h1 := fun W => isR_any s W hs
  have h2 := fun W => isR_any t W ht
  by_cases hb : isB s = true
  · rw [hb] at h1 h
    rw [h.resolve_left (by simp)] at h2
    clear h hb
    go_enter Try.func24, Try.ntmps24
    go_wp2_with fail
    refine (h1 _).mono ?_
    rintro e w' ⟨rfl, rfl⟩
    go_wp2_with fail
    refine (h2 _).mono ?_
    rintro e w' ⟨rfl, rfl⟩
    go_wp2_with fail
    go_ret
    exact ⟨rfl, b0⟩
  · have hb' : isB s = false := by simpa using hb
    rw [hb'] at h1
    clear h hb hb' h2
    go_enter Try.func24, Try.ntmps24
    go_wp2_with fail
    refine (h1 _).mono ?_
    rintro e w' ⟨rfl, rfl⟩
    go_wp2_with fail
    go_ret
    exact ⟨rfl, b0⟩

theorem PrecR_yes (S T : Ty) (w : World) (hS : S.ok) (hT : T.ok) (hS64 : S.code.length ≤ 64) (hT64 : T.code.length ≤ 64) :
    Calls Try.prog 24 #[.string (str S), .string (str T)] w fun e w' => e = .returned (.bool (allT askP S T)) ∧ Below w.heap.size w w' := by
  have h1 := fun W => isR_any (str S) W (by simp [str]; omega)
  have h2 := fun W => isR_any (str T) W (by simp [str]; omega)
  rw [isB_str hS hS64] at h1
  rw [isB_str hT hT64] at h2
  have hw := fun W => precR_any 64 S T W hS64 hS hT hS64 hT64
  generalize allT askP S T = r at *
  generalize str S = s at *
  generalize str T = t at *
  go_enter Try.func24, Try.ntmps24
  go_wp2_with fail
  refine (h1 _).mono ?_
  rintro e w' ⟨rfl, rfl⟩
  go_wp2_with fail
  refine (h2 _).mono ?_
  rintro e w' ⟨rfl, rfl⟩
  go_wp2_with fail
  refine (hw _).mono ?_
  rintro e w1 ⟨rfl, hb⟩
  go_wp2_with fail
  go_ret
  exact ⟨rfl, hb⟩

end Go.Proofs.Ythonnpjlkcjoeaa.T
