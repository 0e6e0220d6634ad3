/- Contracts: relate.zip with meet and with join; meet, join. -/
import Derived.Test.YthonnpjlkcjoeaaDoorRelC
import Derived.Test.YthonnpjlkcjoeaaDoorRelU
namespace Go.Proofs.YthonnpjlkcjoeaaDoor.T
open Go.RowKit Go.Proofs.YthonnpjlkcjoeaaDoor.B
set_option linter.unusedSimpArgs false
set_option linter.unusedVariables false

theorem bs_append (a b : List UInt8) : bs a ++ bs b = bs (a ++ b) := by
  apply ByteArray.ext
  apply Array.toList_inj.1
  simp [bs]
theorem str_first (t : Ty) : (str t).extract 0 1 = bs [t.head] := by
  rw [extract_bs, str, bs_list, Ty.code_eq]; rfl

set_option maxRecDepth 100000 in
theorem zip_meet (S T : Ty) (w : World) (hS : S.ok) (hT : T.ok) (hS64 : S.code.length ≤ 64) (hT64 : T.code.length ≤ 64) (hl : S.kids.length = T.kids.length)
    (hwith : ∀ (j : Nat) (S' T' : Ty), S.kids[j]? = some S' → T.kids[j]? = some T' → ∀ W, Calls Tryd.prog 95 #[.string (str S'), .string (str T')] W fun e w' => e = .returned (.string (str (meetT S' T'))) ∧ Below W.heap.size W w')
    (hlen : ∀ p ∈ S.kids.zip T.kids, (meetT p.1 p.2).code.length ≤ 128) :
    Calls Tryd.prog 125 #[.string (str S), .string (str T), .func (.func 95) #[] #[]] w fun e w' => e = .returned (.string (bs (zipC meetT S.head S.kids T.kids S.kids.length))) ∧ Below w.heap.size w w' := by
  have hP1 := fun W => Parts_yes S W hS hS64
  have hP2 := fun W => Parts_yes T W hT hT64
  have hf := str_first S
  have hsz : 1 ≤ (str S).size := by simp only [str, bs_size]; exact S.code_pos
  have hb := fun j => zipC_len (f := meetT) (h := S.head) hlen j
  have hK12 := Ty.kids_le S
  obtain ⟨a, ha⟩ : ∃ a, S.head = a := ⟨_, rfl⟩
  obtain ⟨s, hs⟩ : ∃ s, str S = s := ⟨_, rfl⟩
  obtain ⟨t, ht⟩ : ∃ t, str T = t := ⟨_, rfl⟩
  obtain ⟨K1, hK1⟩ : ∃ K1, S.kids = K1 := ⟨_, rfl⟩
  obtain ⟨K2, hK2⟩ : ∃ K2, T.kids = K2 := ⟨_, rfl⟩
  unfold PartsR at hP1 hP2
  rw [hs, hK1] at hP1
  rw [ht, hK2] at hP2
  rw [hs, ha] at hf
  rw [hs] at hsz
  rw [ha, hK1, hK2] at hb
  rw [hK1, hK2] at hwith hl
  rw [hK1] at hK12
  rw [hs, ht, ha, hK1, hK2]
  have HW := Lib.hid hwith
  have HL := Lib.hid hl
  have HF := Lib.hid hf
  have HB := Lib.hid hb
  clear hs ht ha hK1 hK2 hwith hl hf hb hS hT hS64 hT64 hlen S T
  go_enter Tryd.func125, Tryd.ntmps125
  go_wp2_with fail
  refine (hP2 _).mono ?_
  rintro e w1 ⟨v1, rfl, ho1, hb1⟩
  obtain ⟨A2, cap2, rfl, _, _, hs2⟩ := Sl.of_own ho1
  rw [HF.out]
  go_wp2_with fail
  refine (hP1 _).mono ?_
  rintro e w2 ⟨v2, rfl, ho2, hb2⟩
  obtain ⟨A1, cap1, rfl, _, _, hs1⟩ := Sl.of_own ho2
  have hs2' := (hs2.below hb2).more hb2.size
  have hc2 := bl hb1 hb2
  clear ho1 ho2 hs2 hb1 hb2 hP1 hP2
  go_wp2_with fail
  go_loopg [7, 9, 10, 18] K1.length (fun g o _ _ i wr => ∃ j : Nat, j ≤ K1.length ∧ g = K1.length - j ∧ o = .string (bs (zipC meetT a K1 K2 j)) ∧ i = .int .i64 j ∧ Below w.heap.size w wr ∧ Below w2.heap.size w2 wr)
  case atStart => exact ⟨0, by omega, rfl, by rw [zipC_zero], rfl, hc2, Below.refl _ _⟩
  case round =>
    obtain ⟨j, hj, rfl, rfl, rfl, hbr, hb2r⟩ := hrel
    by_cases hlt : j < K1.length
    · obtain ⟨S', hS'⟩ : ∃ S', K1[j]? = some S' := ⟨_, List.getElem?_eq_getElem hlt⟩
      have hlt2 : j < K2.length := by rw [← HL.out]; exact hlt
      obtain ⟨T', hT'⟩ : ∃ T', K2[j]? = some T' := ⟨_, List.getElem?_eq_getElem hlt2⟩
      obtain ⟨g1, o1, rfl, hg1, hcs1⟩ := hs1.at_ (by omega)
      obtain ⟨g2, o2, rfl, hg2, hcs2⟩ := hs2'.at_ (by omega)
      have e1 : wr.cell? ⟨g1, o1 + j, none⟩ = some (.string (str S')) := (hb2r.cell (p := ⟨g1, o1 + j, none⟩) hg1).trans (hcs1 j _ (by rw [List.getElem?_map, hS']; rfl))
      have e2 : wr.cell? ⟨g2, o2 + j, none⟩ = some (.string (str T')) := (hb2r.cell (p := ⟨g2, o2 + j, none⟩) hg2).trans (hcs2 j _ (by rw [List.getElem?_map, hT']; rfl))
      have hcall := HW.out j S' T' hS' hT'
      have hnext := zipC_succ meetT a hS' hT'
      have hlz := HB.out j
      have hlz2 := HB.out (j + 1)
      rw [hnext, List.length_append] at hlz2
      obtain ⟨R, hR⟩ : ∃ R, meetT S' T' = R := ⟨_, rfl⟩
      obtain ⟨Z, hZ⟩ : ∃ Z, zipC meetT a K1 K2 j = Z := ⟨_, rfl⟩
      obtain ⟨s', hs'⟩ : ∃ s', str S' = s' := ⟨_, rfl⟩
      obtain ⟨t', ht'⟩ : ∃ t', str T' = t' := ⟨_, rfl⟩
      have hz1 : (bs Z).size ≤ 1 + j * 128 := by rw [bs_size, ← hZ]; exact hlz
      have hz2 : (str R).size ≤ 1000 := by rw [← hR]; simp only [str, bs_size]; omega
      have hne : bs Z ++ str R = bs (zipC meetT a K1 K2 (j + 1)) := by rw [hnext, hZ, hR, str, bs_append]
      rw [hs', ht', hR] at hcall
      rw [hs'] at e1
      rw [ht'] at e2
      rw [hZ]
      have HN := Lib.hid hne
      clear hS' hT' hR hZ hs' ht' hnext hne hlz hlz2 hs1 hs2' hcs1 hcs2
      obtain ⟨z, hz⟩ : ∃ z, bs Z = z := ⟨_, rfl⟩
      obtain ⟨r, hr⟩ : ∃ r, str R = r := ⟨_, rfl⟩
      rw [hz] at HN hz1 ⊢
      rw [hr] at HN hz2 hcall
      clear hz hr
      go_wp2_with fail
      refine (hcall _).mono ?_
      rintro e w3 ⟨rfl, hb3⟩
      go_wp2_with fail
      go_roundg (K1.length - (j + 1))
      case measure => omega
      case rel => exact ⟨j + 1, by omega, rfl, by rw [← HN.out], by go_num, bl hbr hb3, bl hb2r hb3⟩
    · obtain rfl : j = K1.length := by omega
      go_wp2_with fail
      go_ret
      exact ⟨rfl, hbr⟩

set_option maxRecDepth 100000 in
theorem zip_join (S T : Ty) (w : World) (hS : S.ok) (hT : T.ok) (hS64 : S.code.length ≤ 64) (hT64 : T.code.length ≤ 64) (hl : S.kids.length = T.kids.length)
    (hwith : ∀ (j : Nat) (S' T' : Ty), S.kids[j]? = some S' → T.kids[j]? = some T' → ∀ W, Calls Tryd.prog 96 #[.string (str S'), .string (str T')] W fun e w' => e = .returned (.string (str (joinT S' T'))) ∧ Below W.heap.size W w')
    (hlen : ∀ p ∈ S.kids.zip T.kids, (joinT p.1 p.2).code.length ≤ 128) :
    Calls Tryd.prog 125 #[.string (str S), .string (str T), .func (.func 96) #[] #[]] w fun e w' => e = .returned (.string (bs (zipC joinT S.head S.kids T.kids S.kids.length))) ∧ Below w.heap.size w w' := by
  have hP1 := fun W => Parts_yes S W hS hS64
  have hP2 := fun W => Parts_yes T W hT hT64
  have hf := str_first S
  have hsz : 1 ≤ (str S).size := by simp only [str, bs_size]; exact S.code_pos
  have hb := fun j => zipC_len (f := joinT) (h := S.head) hlen j
  have hK12 := Ty.kids_le S
  obtain ⟨a, ha⟩ : ∃ a, S.head = a := ⟨_, rfl⟩
  obtain ⟨s, hs⟩ : ∃ s, str S = s := ⟨_, rfl⟩
  obtain ⟨t, ht⟩ : ∃ t, str T = t := ⟨_, rfl⟩
  obtain ⟨K1, hK1⟩ : ∃ K1, S.kids = K1 := ⟨_, rfl⟩
  obtain ⟨K2, hK2⟩ : ∃ K2, T.kids = K2 := ⟨_, rfl⟩
  unfold PartsR at hP1 hP2
  rw [hs, hK1] at hP1
  rw [ht, hK2] at hP2
  rw [hs, ha] at hf
  rw [hs] at hsz
  rw [ha, hK1, hK2] at hb
  rw [hK1, hK2] at hwith hl
  rw [hK1] at hK12
  rw [hs, ht, ha, hK1, hK2]
  have HW := Lib.hid hwith
  have HL := Lib.hid hl
  have HF := Lib.hid hf
  have HB := Lib.hid hb
  clear hs ht ha hK1 hK2 hwith hl hf hb hS hT hS64 hT64 hlen S T
  go_enter Tryd.func125, Tryd.ntmps125
  go_wp2_with fail
  refine (hP2 _).mono ?_
  rintro e w1 ⟨v1, rfl, ho1, hb1⟩
  obtain ⟨A2, cap2, rfl, _, _, hs2⟩ := Sl.of_own ho1
  rw [HF.out]
  go_wp2_with fail
  refine (hP1 _).mono ?_
  rintro e w2 ⟨v2, rfl, ho2, hb2⟩
  obtain ⟨A1, cap1, rfl, _, _, hs1⟩ := Sl.of_own ho2
  have hs2' := (hs2.below hb2).more hb2.size
  have hc2 := bl hb1 hb2
  clear ho1 ho2 hs2 hb1 hb2 hP1 hP2
  go_wp2_with fail
  go_loopg [7, 9, 10, 18] K1.length (fun g o _ _ i wr => ∃ j : Nat, j ≤ K1.length ∧ g = K1.length - j ∧ o = .string (bs (zipC joinT a K1 K2 j)) ∧ i = .int .i64 j ∧ Below w.heap.size w wr ∧ Below w2.heap.size w2 wr)
  case atStart => exact ⟨0, by omega, rfl, by rw [zipC_zero], rfl, hc2, Below.refl _ _⟩
  case round =>
    obtain ⟨j, hj, rfl, rfl, rfl, hbr, hb2r⟩ := hrel
    by_cases hlt : j < K1.length
    · obtain ⟨S', hS'⟩ : ∃ S', K1[j]? = some S' := ⟨_, List.getElem?_eq_getElem hlt⟩
      have hlt2 : j < K2.length := by rw [← HL.out]; exact hlt
      obtain ⟨T', hT'⟩ : ∃ T', K2[j]? = some T' := ⟨_, List.getElem?_eq_getElem hlt2⟩
      obtain ⟨g1, o1, rfl, hg1, hcs1⟩ := hs1.at_ (by omega)
      obtain ⟨g2, o2, rfl, hg2, hcs2⟩ := hs2'.at_ (by omega)
      have e1 : wr.cell? ⟨g1, o1 + j, none⟩ = some (.string (str S')) := (hb2r.cell (p := ⟨g1, o1 + j, none⟩) hg1).trans (hcs1 j _ (by rw [List.getElem?_map, hS']; rfl))
      have e2 : wr.cell? ⟨g2, o2 + j, none⟩ = some (.string (str T')) := (hb2r.cell (p := ⟨g2, o2 + j, none⟩) hg2).trans (hcs2 j _ (by rw [List.getElem?_map, hT']; rfl))
      have hcall := HW.out j S' T' hS' hT'
      have hnext := zipC_succ joinT a hS' hT'
      have hlz := HB.out j
      have hlz2 := HB.out (j + 1)
      rw [hnext, List.length_append] at hlz2
      obtain ⟨R, hR⟩ : ∃ R, joinT S' T' = R := ⟨_, rfl⟩
      obtain ⟨Z, hZ⟩ : ∃ Z, zipC joinT a K1 K2 j = Z := ⟨_, rfl⟩
      obtain ⟨s', hs'⟩ : ∃ s', str S' = s' := ⟨_, rfl⟩
      obtain ⟨t', ht'⟩ : ∃ t', str T' = t' := ⟨_, rfl⟩
      have hz1 : (bs Z).size ≤ 1 + j * 128 := by rw [bs_size, ← hZ]; exact hlz
      have hz2 : (str R).size ≤ 1000 := by rw [← hR]; simp only [str, bs_size]; omega
      have hne : bs Z ++ str R = bs (zipC joinT a K1 K2 (j + 1)) := by rw [hnext, hZ, hR, str, bs_append]
      rw [hs', ht', hR] at hcall
      rw [hs'] at e1
      rw [ht'] at e2
      rw [hZ]
      have HN := Lib.hid hne
      clear hS' hT' hR hZ hs' ht' hnext hne hlz hlz2 hs1 hs2' hcs1 hcs2
      obtain ⟨z, hz⟩ : ∃ z, bs Z = z := ⟨_, rfl⟩
      obtain ⟨r, hr⟩ : ∃ r, str R = r := ⟨_, rfl⟩
      rw [hz] at HN hz1 ⊢
      rw [hr] at HN hz2 hcall
      clear hz hr
      go_wp2_with fail
      refine (hcall _).mono ?_
      rintro e w3 ⟨rfl, hb3⟩
      go_wp2_with fail
      go_roundg (K1.length - (j + 1))
      case measure => omega
      case rel => exact ⟨j + 1, by omega, rfl, by rw [← HN.out], by go_num, bl hbr hb3, bl hb2r hb3⟩
    · obtain rfl : j = K1.length := by omega
      go_wp2_with fail
      go_ret
      exact ⟨rfl, hbr⟩

theorem cons_kids {S T : Ty} (hS : S.ok) (hT : T.ok) (ha : S.head ≠ 63) (hb : T.head ≠ 63) (h : allT askC S T = true) : S.head = T.head ∧ ∀ p ∈ S.kids.zip T.kids, allT askC p.1 p.2 = true := by
  have hk := allT_kids (ask := askC) hS hT askC_asks
  rw [h] at hk
  by_cases hh : S.head = T.head
  · have hq : askC S T = -1 := by unfold askC; rw [if_neg (by intro h; rcases h with h | h; exact ha h; exact hb h), if_pos hh]
    rw [hq, if_neg (by omega)] at hk
    exact ⟨hh, fun p hp => List.all_eq_true.1 hk.symm p hp⟩
  · have hq : askC S T = 0 := by unfold askC; rw [if_neg (by intro h; rcases h with h | h; exact ha h; exact hb h), if_neg hh]
    rw [hq] at hk
    simp at hk

set_option maxRecDepth 100000 in
theorem meet_any (fuel : Nat) : ∀ (S T : Ty) (w : World) (hf : S.code.length ≤ fuel) (hS : S.ok) (hT : T.ok) (hS64 : S.code.length ≤ 64) (hT64 : T.code.length ≤ 64) (hc : allT askC S T = true),
    Calls Tryd.prog 95 #[.string (str S), .string (str T)] w fun e w' => e = .returned (.string (str (meetT S T))) ∧ Below w.heap.size w w' := by
  induction fuel with
  | zero => intro S T w hf; have := S.code_pos; omega
  | succ fuel ih =>
  intro S T w hf hS hT hS64 hT64 hc
  have q1 := str_q hS
  have q2 := str_q hT
  by_cases ha : S.head = 63
  · rw [meet_q hS ha]
    rw [ha] at q1
    have q1' : ((str S).toList == [63]) = true := q1
    generalize str S = s at *
    generalize str T = t at *
    clear q1 q2 ha ih hc hS hT
    go_enter Tryd.func95, Tryd.ntmps95
    go_wp2_with fail
    go_ret
    exact ⟨rfl, b0⟩
  · have q1' : ((str S).toList == [63]) = false := by rw [q1]; simpa using ha
    by_cases hb : T.head = 63
    · rw [meet_r hS hT ha hb]
      rw [hb] at q2
      have q2' : ((str T).toList == [63]) = true := q2
      generalize str S = s at *
      generalize str T = t at *
      clear q1 q2 ha hb ih hc hS hT
      go_enter Tryd.func95, Tryd.ntmps95
      go_wp2_with fail
      go_ret
      exact ⟨rfl, b0⟩
    · have q2' : ((str T).toList == [63]) = false := by rw [q2]; simpa using hb
      obtain ⟨hh, hkc⟩ := cons_kids hS hT ha hb hc
      have hz := fun W => zip_meet S T W hS hT hS64 hT64 (kids_len hS hT hh)
        (fun j S' T' h1 h2 W => by
          have m1 := List.mem_of_getElem? h1
          have m2 := List.mem_of_getElem? h2
          have l1 := Ty.kid_code m1
          have l2 := Ty.kid_code m2
          exact ih S' T' W (by omega) (Ty.kids_ok hS m1) (Ty.kids_ok hT m2) (by omega) (by omega) (hkc (S', T') (List.mem_of_getElem? (List.getElem?_zip_eq_some.2 ⟨h1, h2⟩))))
        (fun p hp => by
          have l1 := Ty.kid_code (List.of_mem_zip hp).1
          have l2 := Ty.kid_code (List.of_mem_zip hp).2
          have := meet_len p.1 p.2
          omega)
      rw [meet_zip hS hT ha hh] at hz
      change ∀ W, Calls _ _ _ _ (fun e w' => e = .returned (.string (str (meetT S T))) ∧ _) at hz
      generalize str (meetT S T) = r at *
      generalize str S = s at *
      generalize str T = t at *
      clear q1 q2 ha hb ih hc hS hT hh hkc
      go_enter Tryd.func95, Tryd.ntmps95
      go_wp2_with (go_at_call 125; refine (hz _).mono ?_; rintro e w1 ⟨rfl, hb⟩)
      go_ret
      exact ⟨rfl, hb⟩

set_option maxRecDepth 100000 in
theorem join_any (fuel : Nat) : ∀ (S T : Ty) (w : World) (hf : S.code.length ≤ fuel) (hS : S.ok) (hT : T.ok) (hS64 : S.code.length ≤ 64) (hT64 : T.code.length ≤ 64),
    Calls Tryd.prog 96 #[.string (str S), .string (str T)] w fun e w' => e = .returned (.string (str (joinT S T))) ∧ Below w.heap.size w w' := by
  induction fuel with
  | zero => intro S T w hf; have := S.code_pos; omega
  | succ fuel ih =>
  intro S T w hf hS hT hS64 hT64
  obtain ⟨p1, e1⟩ := str_head S
  obtain ⟨p2, e2⟩ := str_head T
  have hbn := byte_neq S.head T.head
  by_cases hh : S.head = T.head
  · have hb' : ((S.head.toNat : Int) != (T.head.toNat : Int)) = false := by rw [hbn]; simpa using hh
    have hz := fun W => zip_join S T W hS hT hS64 hT64 (kids_len hS hT hh)
      (fun j S' T' h1 h2 W => by
        have m1 := List.mem_of_getElem? h1
        have m2 := List.mem_of_getElem? h2
        have l1 := Ty.kid_code m1
        have l2 := Ty.kid_code m2
        exact ih S' T' W (by omega) (Ty.kids_ok hS m1) (Ty.kids_ok hT m2) (by omega) (by omega))
      (fun p hp => by
        have l1 := Ty.kid_code (List.of_mem_zip hp).1
        have := join_len p.1 p.2
        omega)
    rw [join_zip hS hT hh] at hz
    change ∀ W, Calls _ _ _ _ (fun e w' => e = .returned (.string (str (joinT S T))) ∧ _) at hz
    generalize str (joinT S T) = r at *
    generalize S.head = a at *
    generalize T.head = b at *
    generalize str S = s at *
    generalize str T = t at *
    clear hbn ih hS hT hh
    go_enter Tryd.func96, Tryd.ntmps96
    go_wp2_with fail
    go_quiet (fail)
    go_wp2_with (go_at_call 125; refine (hz _).mono ?_; rintro e w1 ⟨rfl, hb⟩)
    go_ret
    exact ⟨rfl, bl (bdr b0 _) hb⟩
  · have hb' : ((S.head.toNat : Int) != (T.head.toNat : Int)) = true := by rw [hbn]; simpa using hh
    rw [join_no hh]
    generalize S.head = a at *
    generalize T.head = b at *
    generalize str S = s at *
    generalize str T = t at *
    clear hbn ih hS hT hh
    go_enter Tryd.func96, Tryd.ntmps96
    go_wp2_with fail
    go_quiet (fail)
    go_wp2_with fail
    go_ret
    exact ⟨rfl, bdr b0 _⟩

end Go.Proofs.YthonnpjlkcjoeaaDoor.T
