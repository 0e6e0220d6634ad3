/- RelateSteps returns true, whatever the texts and the picks. -/
import Derived.Test.YthonnpjlkcjoeaaRelR
import Derived.Test.YthonnpjlkcjoeaaRelW
import Derived.Test.YthonnpjlkcjoeaaTypH
namespace Go.Proofs.Ythonnpjlkcjoeaa.T
open Go.RowKit Go.Proofs.Ythonnpjlkcjoeaa.B
set_option linter.unusedSimpArgs false
set_option linter.unusedVariables false

def leB (T q : Ty) : Bool := allT askP q T
def nearL (U T : Ty) (j : Nat) : List Ty := ((looserT U).take j).filter (leB T)
theorem nearL_yes {U T q : Ty} {j : Nat} (h : (looserT U)[j]? = some q) (hb : leB T q = true) : nearL U T (j + 1) = nearL U T j ++ [q] := by
  unfold nearL; rw [take_succ_some h, List.filter_append]; simp [hb]
theorem nearL_no {U T q : Ty} {j : Nat} (h : (looserT U)[j]? = some q) (hb : leB T q = false) : nearL U T (j + 1) = nearL U T j := by
  unfold nearL; rw [take_succ_some h, List.filter_append]; simp [hb]
theorem nearL_le (U T : Ty) (j : Nat) : (nearL U T j).length ≤ j := by
  unfold nearL
  exact Nat.le_trans (List.length_filter_le _ _) (List.length_take_le _ _)
theorem nearL_mem {U T q : Ty} {j : Nat} (h : q ∈ nearL U T j) : q ∈ looserT U ∧ le q T := by
  unfold nearL at h
  obtain ⟨h1, h2⟩ := List.mem_filter.1 h
  exact ⟨List.mem_of_mem_take h1, h2⟩
theorem near_none {U T : Ty} (hU : U.ok) (hT : T.ok) (h : nearL U T (looserT U).length = []) (hne : U ≠ T) : ¬ le U T := by
  intro hl
  obtain ⟨q, hq, hqT⟩ := leads hU hT hl hne
  have : q ∈ nearL U T (looserT U).length := by
    unfold nearL; rw [List.take_length]; exact List.mem_filter.2 ⟨hq, hqT⟩
  rw [h] at this
  simp at this

theorem str_eq {U T : Ty} (hU : U.ok) (hT : T.ok) : ((str U).toList == (str T).toList) = true ↔ U = T := by
  rw [Lib.toList_data, Lib.toList_data, str, str, bs_list, bs_list, beq_iff_eq]
  exact ⟨fun h => code_inj hU hT h, fun h => by rw [h]⟩

theorem steps_no (s t : ByteArray) (v : Value) (w : World) (hs : s.size ≤ 4611686018427387904) (ht : t.size ≤ 4611686018427387904) (h : isB s = false ∨ isB t = false) :
    Calls Try.prog 5 #[.string s, .string t, v] w fun e w' => e = .returned (.bool true) ∧ Below w.heap.size w w' := by
  have h1 := fun W => isLaw_any s W hs
  have h2 := fun W => isLaw_any t W ht
  by_cases hb : isB s = true
  · rw [hb] at h1 h
    rw [h.resolve_left (by simp)] at h2
    clear h hb
    go_enter Try.func5, Try.ntmps5
    go_wp2_with fail
    refine (h1 _).mono ?_
    rintro e w' ⟨rfl, rfl⟩
    go_wp2_with fail
    refine (h2 _).mono ?_
    rintro e w' ⟨rfl, rfl⟩
    go_wp2_with fail
    refine (lives03 _).mono ?_
    rintro e w1 ⟨rfl, hb1⟩
    go_wp2_with fail
    go_ret
    exact ⟨rfl, hb1⟩
  · have hb' : isB s = false := by simpa using hb
    rw [hb'] at h1
    clear h hb hb' h2
    go_enter Try.func5, Try.ntmps5
    go_wp2_with fail
    refine (h1 _).mono ?_
    rintro e w' ⟨rfl, rfl⟩
    go_wp2_with fail
    refine (lives03 _).mono ?_
    rintro e w1 ⟨rfl, hb1⟩
    go_wp2_with fail
    go_ret
    exact ⟨rfl, hb1⟩

set_option maxRecDepth 100000 in
set_option maxHeartbeats 2000000 in
theorem steps_yes (S T : Ty) (A : Option Addr) (zs : List Int) (c : Nat) (w : World) (hS : S.ok) (hT : T.ok) (hS64 : S.code.length ≤ 64) (hT64 : T.code.length ≤ 64)
    (hA : Sl w w.heap.size 1 A zs.length (zs.map (Value.int .u8))) (hz : ∀ z ∈ zs, 0 ≤ z ∧ z ≤ 255) (hzl : zs.length ≤ 4611686018427387904) :
    Calls Try.prog 5 #[.string (str S), .string (str T), .slice A zs.length c] w fun e w' => e = .returned (.bool true) ∧ Below w.heap.size w w' := by
  have h1 := fun W => isLaw_any (str S) W (by simp only [str, bs_size]; omega)
  have h2 := fun W => isLaw_any (str T) W (by simp only [str, bs_size]; omega)
  rw [isB_str hS hS64] at h1
  rw [isB_str hT hT64] at h2
  have hsz : (str S).size = S.code.length := by simp only [str, bs_size]
  have hST := fun W => Prec_yes S T W hS hT hS64 hT64
  have hwS := wt_le S
  obtain ⟨s, hs⟩ : ∃ s, str S = s := ⟨_, rfl⟩
  obtain ⟨t, ht⟩ : ∃ t, str T = t := ⟨_, rfl⟩
  rw [hs] at h1 hsz hST ⊢
  rw [ht] at h2 hST ⊢
  have HTt := Lib.hid ht
  have HZ := Lib.hid hz
  have HSZ := Lib.hid hsz
  have hs64 : s.size ≤ 64 := by omega
  have hSw : wt S ≤ s.size := by omega
  have hat0 : Hid (s = str S) := hs.symm
  clear hs ht hz hsz hwS hS64
  go_enter Try.func5, Try.ntmps5
  go_wp2_with fail
  refine (h1 _).mono ?_
  rintro e w' ⟨rfl, rfl⟩
  go_wp2_with fail
  refine (h2 _).mono ?_
  rintro e w' ⟨rfl, rfl⟩
  clear h1 h2
  go_wp2_with fail
  go_loopg [7, 8] (wt S) (fun g a n wr => ∃ (U : Ty) (N : Nat), a = .string (str U) ∧ n = .int .i64 N ∧ g = wt U ∧ Hid (wt U + N = wt S) ∧ N ≤ wt S ∧ U.ok ∧ U.code.length ≤ 64 ∧ le S U ∧ Hid (U = S ∨ le U T) ∧ Below w.heap.size w wr)
  case atStart => exact ⟨S, 0, by rw [hat0.out], rfl, rfl, rfl, by omega, hS, by have := HSZ.out; omega, le_refl hS, .inl rfl, Below.refl _ _⟩
  case round =>
    obtain ⟨U, N, rfl, rfl, rfl, hN, hNw, hU, hU64, hSU, hUT, hbr⟩ := hrel
    have hL := fun W => Looser_any 64 U W hU64 hU hU64
    unfold LooserR OwnTs at hL
    obtain ⟨n2, hn2⟩ : ∃ n, (looserT U).length = n := ⟨_, rfl⟩
    have hn64 : n2 ≤ 64 := by have := looser_many U; omega
    rw [hn2] at hL
    obtain ⟨u, hu⟩ : ∃ u, str U = u := ⟨_, rfl⟩
    rw [hu] at hL ⊢
    have huz : u.size = U.code.length := by rw [← hu]; simp only [str, bs_size]
    have huz64 : u.size ≤ 64 := by omega
    have HU := Lib.hid hu
    have HUZ := Lib.hid huz
    have HN2 := Lib.hid hn2
    have HSU := Lib.hid hSU
    clear hu huz hn2 hSU
    go_wp2_with fail
    refine (hL _).mono ?_
    rintro e w1 ⟨v, rfl, ho, hb1⟩
    obtain ⟨A2, c2, rfl, _, _⟩ := own_shape ho
    have ho' := own_less ho hbr.size
    have hb1' := bl hbr hb1
    clear ho hb1 hL
    go_wp2_with fail
    go_loopg [10, 11, 12] n2 (fun g l i _ wi => ∃ j : Nat, j ≤ n2 ∧ g = n2 - j ∧ i = .int .i64 j ∧ wi.ownsRow w.heap.size 9 1 l (nearL U T j).length ((nearL U T j).map strV) ∧ Apart (.slice A2 n2 c2) l ∧
        wi.ownsRow w.heap.size 9 1 (.slice A2 n2 c2) n2 ((looserT U).map strV) ∧ Below w.heap.size w wi)
    case atStart => exact ⟨0, by omega, rfl, rfl, World.ownsRow_nil _ _ _ _, Apart.nil _, ho', hb1'⟩
    case round =>
      obtain ⟨j, hj, rfl, rfl, hnr, hap, hov, hbi⟩ := hrel
      by_cases hlt : j < n2
      · obtain ⟨q, hq⟩ : ∃ q, (looserT U)[j]? = some q := ⟨_, List.getElem?_eq_getElem (by rw [HN2.out]; exact hlt)⟩
        obtain ⟨g2, rfl, hg21, hg22, hcell⟩ := own_cell hov hlt
        have hc1 := hcell (.string (str q)) (by rw [List.getElem?_map, hq]; rfl)
        have hqm := List.mem_of_getElem? hq
        have hqok := looser_ok hU q hqm
        have hql := looser_len q hqm
        have hq64 : q.code.length ≤ 64 := by omega
        obtain ⟨f1, f2, f3⟩ := step_facts hU q hqm
        have f4 := step_not hU hqm
        have x1 := fun W => isLaw_any (str q) W (by simp only [str, bs_size]; omega)
        rw [isB_str hqok hq64] at x1
        have x2 := fun W => Prec_yes U q W hU hqok hU64 hq64
        rw [show allT askP U q = true from f1] at x2
        have x3 := fun W => Prec_yes q U W hqok hU hq64 hU64
        rw [show allT askP q U = false by simpa [le] using f4] at x3
        have x4 := fun W => Height_any 64 q W hq64 hqok hq64
        have x5 := fun W => Height_any 64 U W hU64 hU hU64
        have x6 := fun W => Prec_yes q T W hqok hT hq64 hT64
        have hhi : q.high ≤ U.high := f2
        have hh64 : U.high ≤ 64 := by have := high_le U; omega
        have hqz : (str q).size ≤ u.size := by rw [HUZ.out]; simp only [str, bs_size]; exact hql
        obtain ⟨x, hx⟩ : ∃ x, str q = x := ⟨_, rfl⟩
        rw [hx] at hc1 x1 x2 x3 x4 x6 hqz
        rw [HU.out] at x2 x3 x5
        rw [HTt.out] at x6
        obtain ⟨H1, hH1⟩ : ∃ H1, q.high = H1 := ⟨_, rfl⟩
        obtain ⟨H2, hH2⟩ : ∃ H2, U.high = H2 := ⟨_, rfl⟩
        rw [hH1] at x4 hhi
        rw [hH2] at x5 hhi hh64
        have HQ := Lib.hid hq
        have HX := Lib.hid hx
        obtain ⟨b, hbq⟩ : ∃ b, leB T q = b := ⟨_, rfl⟩
        have hbq' : allT askP q T = b := hbq
        rw [hbq'] at x6
        have HB := Lib.hid hbq
        have hnl := nearL_le U T j
        clear hq hx hH1 hH2 hcell hqm hqok hql hq64 f1 f2 f3 f4 hbq hbq'
        go_wp2_with fail
        refine (x1 _).mono ?_
        rintro e w' ⟨rfl, rfl⟩
        go_wp2_with fail
        refine (x2 _).mono ?_
        rintro e w2 ⟨rfl, hb2⟩
        go_wp2_with fail
        refine (x3 _).mono ?_
        rintro e w3 ⟨rfl, hb3⟩
        go_wp2_with fail
        refine (x4 _).mono ?_
        rintro e w4 ⟨rfl, hb4⟩
        go_wp2_with fail
        refine (x5 _).mono ?_
        rintro e w5 ⟨rfl, hb5⟩
        go_wp2_with fail
        refine (x6 _).mono ?_
        rintro e w6 ⟨rfl, hb6⟩
        have hov6 := own_below (own_below (own_below (own_below (own_below hov hb2) hb3) hb4) hb5) hb6
        have hnr6 := own_below (own_below (own_below (own_below (own_below hnr hb2) hb3) hb4) hb5) hb6
        have hbi6 := bl (bl (bl (bl (bl hbi hb2) hb3) hb4) hb5) hb6
        clear hov hnr hbi hb2 hb3 hb4 hb5 hb6 x1 x2 x3 x4 x5 x6
        cases b
        · go_wp2_with fail
          go_roundg (n2 - (j + 1))
          case measure => omega
          case rel => exact ⟨j + 1, by omega, rfl, by go_num, by rw [nearL_no HQ.out HB.out]; exact hnr6, hap, hov6, hbi6⟩
        · obtain ⟨i0, hi0, hz0, hz1', hz2'⟩ := info_parts info9
          go_wp2_with (at_builtin; refine wpList_append_sl _ rfl (.tmp 74) (.tmp 76) 44 rfl w.heap.size 9 i0 _ 1 16 Try.underlying44 hi0 hz0 hz1' hz2' rfl (by omega) _ _ _ rfl (hnr6.alloc _) (w6.heap.size + 1) _ 1 1 [.string x] rfl (Sl.one _ _ _) ?_ ?_ ?_ ?_ ?_)
          · intro u hu; simp at hu; subst hu; rfl
          · unfold maxLen; omega
          · omega
          · have := hbi6.size; simp; omega
          intro v7 w7 ho7 hg7 ha7
          have hb7 : Below w.heap.size w w7 := (hbi6.alloc hbi6.size _).grown hg7 (by have := hbi6.size; simp; omega) (fun g hg => (hnr6.lt g hg).1)
          have hov7 : w7.ownsRow w.heap.size 9 1 (.slice (some ⟨g2, 0, none⟩) n2 c2) n2 ((looserT U).map strV) := (hov6.alloc _).kept hg7 hap
          have hap7 := Apart.next (l' := v7) hap (hov6.alloc (.cells #[.string x] 9)) (by rw [World.size_alloc]; exact ha7)
          go_wp2_with fail
          go_roundg (n2 - (j + 1))
          case measure => omega
          case rel => exact ⟨j + 1, by omega, rfl, by go_num, by rw [nearL_yes HQ.out HB.out, List.length_append, List.map_append]; rw [← HX.out] at ho7; exact ho7, hap7, hov7, hb7⟩
      · have hjn : j = n2 := by omega
        have hpi : ∀ W, Below w.heap.size w W → N < zs.length → ∃ b o, A = some ⟨b, o, none⟩ ∧ W.cell? ⟨b, o + N, none⟩ = some (.int .u8 (zs.getD N 0)) := fun W hbW hlt => by
          obtain ⟨b, o, rfl, hb, hc⟩ := hA.at_ (by omega)
          refine ⟨b, o, rfl, ?_⟩
          rw [hbW.cell (p := ⟨b, o + N, none⟩) hb]
          exact hc N _ (by rw [List.getElem?_map, List.getElem?_eq_getElem hlt]; simp [hlt])
        obtain ⟨A3, c3, rfl, _, _⟩ := own_shape hnr
        have hnl := nearL_le U T j
        have hmem : ∀ q, q ∈ nearL U T j → q ∈ looserT U ∧ le q T := fun q h => nearL_mem h
        have hnone : nearL U T j = [] → U ≠ T → ¬ le U T := fun h hne => near_none hU hT (by rw [HN2.out, ← hjn]; exact h) hne
        have hseq := str_eq hU hT
        rw [HU.out, HTt.out] at hseq
        obtain ⟨L, hLd⟩ : ∃ L, nearL U T j = L := ⟨_, rfl⟩
        rw [hLd] at hnr hnl hmem hnone ⊢
        clear hLd hap hov
        by_cases hUTe : U = T
        · have hsq := hseq.2 hUTe
          have hle : allT askP S T = true := by rw [← hUTe]; exact HSU.out
          rw [hle] at hST
          clear hUTe hle hseq hmem hnone hpi
          go_wp2_with fail
          refine (hST _).mono ?_
          rintro e w2 ⟨rfl, hb2⟩
          go_wp2_with fail
          refine (lives03 _).mono ?_
          rintro e w3 ⟨rfl, hb3⟩
          go_wp2_with fail
          go_ret
          exact ⟨rfl, bl (bl hbi hb2) hb3⟩
        · have hsq : (u.toList == t.toList) = false := by
            cases hb : (u.toList == t.toList)
            · rfl
            · exact absurd (hseq.1 hb) hUTe
          cases L with
          | nil =>
            have hnle : allT askP S T = false := by
              have h0 := hnone rfl hUTe
              cases hb : allT askP S T
              · rfl
              · exfalso
                rcases hUT.out with h | h
                · exact h0 (by rw [h]; exact hb)
                · exact h0 h
            rw [hnle] at hST
            clear hUTe hnle hseq hmem hnone hpi
            go_wp2_with fail
            refine (hST _).mono ?_
            rintro e w2 ⟨rfl, hb2⟩
            go_wp2_with fail
            refine (lives03 _).mono ?_
            rintro e w3 ⟨rfl, hb3⟩
            go_wp2_with fail
            go_ret
            exact ⟨rfl, bl (bl hbi hb2) hb3⟩
          | cons q0 L =>
            obtain ⟨M, hM⟩ : ∃ M, (q0 :: L).length = M := ⟨_, rfl⟩
            have hM0 : 0 < M := by rw [← hM]; simp
            rw [hM] at hnr hnl ⊢
            have pick : ∀ r, r < M → ∃ g q, A3 = some ⟨g, 0, none⟩ ∧ q ∈ looserT U ∧ le q T ∧ wr.cell? ⟨g, r, none⟩ = some (.string (str q)) := fun r hr => by
              obtain ⟨g, rfl, _, _, hc⟩ := own_cell hnr hr
              obtain ⟨q, hq⟩ : ∃ q, (q0 :: L)[r]? = some q := ⟨_, List.getElem?_eq_getElem (by omega)⟩
              obtain ⟨m1, m2⟩ := hmem q (List.mem_of_getElem? hq)
              exact ⟨g, q, rfl, m1, m2, hc _ (by rw [List.getElem?_map, hq]; rfl)⟩
            have fin : ∀ q, q ∈ looserT U → le q T → ∃ V N', Value.string (str q) = .string (str V) ∧ Value.int .i64 ((N : Int) + 1) = .int .i64 (N' : Nat) ∧ wt q = wt V ∧ Hid (wt V + N' = wt S) ∧ N' ≤ wt S ∧ V.ok ∧ V.code.length ≤ 64 ∧ le S V ∧ Hid (V = S ∨ le V T) := fun q m1 m2 => by
              obtain ⟨f1, _, f3⟩ := step_facts hU q m1
              have hl := looser_len q m1
              have hN' := hN.out
              exact ⟨q, N + 1, rfl, by go_num, rfl, by show _ = _; omega, by omega, looser_ok hU q m1, by omega, le_trans hS hU (looser_ok hU q m1) HSU.out f1, .inr m2⟩
            have lower : ∀ q, q ∈ looserT U → wt q < wt U := fun q m1 => by have := (step_facts hU q m1).2.2; omega
            by_cases hp : N < zs.length
            · obtain ⟨pb, po, rfl, hpc⟩ := hpi wr hbi hp
              have hzb := HZ.out (zs.getD N 0) (by rw [List.getD_eq_getElem?_getD, List.getElem?_eq_getElem hp]; simp)
              obtain ⟨z, hz⟩ : ∃ z, zs.getD N 0 = z := ⟨_, rfl⟩
              rw [hz] at hpc hzb
              obtain ⟨z0, z1⟩ := hzb
              have hmod := Int.emod_nonneg z (show (M : Int) ≠ 0 by omega)
              have hmod2 := Int.emod_lt_of_pos z (show (0 : Int) < M by omega)
              obtain ⟨r, hr⟩ : ∃ r : Nat, z % (M : Int) = r := ⟨(z % (M : Int)).toNat, by omega⟩
              obtain ⟨g3, q, rfl, m1, m2, hqc⟩ := pick r (by omega)
              have hrM : r < M := by omega
              have HF := Lib.hid (fin q m1 m2)
              have HLo := Lib.hid (lower q m1)
              clear hz fin lower pick hmem hnone hseq hUTe hpi m1 m2 hmod hmod2 hM
              go_wp2_with fail
              go_roundg (wt q)
              case measure => exact HLo.out
              case rel =>
                obtain ⟨V, N', a1, a2, a3, a4, a5, a6, a7, a8, a9⟩ := HF.out
                exact ⟨V, N', a1, a2, a3, a4, a5, a6, a7, a8, a9, hbi⟩
            · obtain ⟨g3, q, rfl, m1, m2, hqc⟩ := pick 0 hM0
              have HF := Lib.hid (fin q m1 m2)
              have HLo := Lib.hid (lower q m1)
              clear fin lower pick hmem hnone hseq hUTe hpi m1 m2 hM
              go_wp2_with fail
              go_roundg (wt q)
              case measure => exact HLo.out
              case rel =>
                obtain ⟨V, N', a1, a2, a3, a4, a5, a6, a7, a8, a9⟩ := HF.out
                exact ⟨V, N', a1, a2, a3, a4, a5, a6, a7, a8, a9, hbi⟩

theorem relateSteps_any (s t : ByteArray) (A : Option Addr) (zs : List Int) (c : Nat) (w : World) (hs : s.size ≤ 4611686018427387904) (ht : t.size ≤ 4611686018427387904)
    (hA : Sl w w.heap.size 1 A zs.length (zs.map (Value.int .u8))) (hz : ∀ z ∈ zs, 0 ≤ z ∧ z ≤ 255) (hzl : zs.length ≤ 4611686018427387904) :
    Calls Try.prog 5 #[.string s, .string t, .slice A zs.length c] w fun e w' => e = .returned (.bool true) ∧ Below w.heap.size w w' := by
  rcases two_ways s t with ⟨S, T, h1, h2, h3, h4, rfl, rfl⟩ | h
  · exact steps_yes S T A zs c w h1 h2 h3 h4 hA hz hzl
  · exact steps_no s t _ w hs ht h

end Go.Proofs.Ythonnpjlkcjoeaa.T
