/- Parts of this claim: RuB, RuC, TxE. -/
import Derived.Deep.LoopGhost
import Derived.Deep.QuietTactic
import Derived.BigQuiet
import Derived.Laws.MakeOwn
import Derived.Deep.OwnRows
import Derived.Test.YtmagljnlfponaaaGreatP34
import Derived.Test.YtmagljnlfponaaaGreatP05
import Derived.Test.YtmagljnlfponaaaGreatP00
import Derived.Test.YtmagljnlfponaaaGreatProg
set_option linter.unusedVariables false
set_option linter.unusedSimpArgs false
/- RuB -/
namespace Go.Proofs.YtmagljnlfponaaaGreat.R
open Go.RowKit Go.Proofs.YtmagljnlfponaaaGreat.B Go.Proofs.YtmagljnlfponaaaGreat.T Go.Proofs.YtmagljnlfponaaaGreat.K Go.Proofs.YtmagljnlfponaaaGreat.J Go.Proofs.YtmagljnlfponaaaGreat.La
set_option linter.unusedVariables false
set_option linter.unusedSimpArgs false

set_option maxRecDepth 100000 in
set_option maxHeartbeats 8000000 in
theorem SeenM_any (L : List Tn) (A : Option Addr) (c : Nat) (T : ByteArray) (B : Option Addr) (N d : Nat) (l : List Ob) (C : Option Addr) (cd : Nat) (w : World) (hN : L.length ≤ 1000000) (hNN : N ≤ 1000000) (hLc : L.length ≤ c) (hL : LT w w.heap.size A L) (hcs : ∀ x ∈ laidL L, Cst x ∧ x.n ≤ (N : Int)) (hl : l.length ≤ 1000000) (hlc : l.length ≤ cd) (hC : Sl w w.heap.size 3 C l.length (obs l)) (hob : ∀ o ∈ l, -9223372036854775808 ≤ o.n ∧ o.n ≤ 9223372036854775807) :
    Calls Tryz.prog 18 #[.agg #[.slice A L.length c, .string T, .slice B N d], .slice C l.length cd] w fun e w' => e = .returned (.int .i64 (seenK (sidesL N (blL (laidL L))) l 0)) ∧ Below w.heap.size w w' := by
  obtain ⟨W0, hW0⟩ : ∃ W0, w.alloc (.cells #[.slice A L.length c, .string T, .slice B N d] 25) = W0 := ⟨_, rfl⟩
  have hb0 : Below w.heap.size w W0 := by rw [← hW0]; exact bal b0 _
  have hk0 : Blk W0 w.heap.size 25 #[.slice A L.length c, .string T, .slice B N d] := by rw [← hW0]; exact Blk.new _ _ _
  have HPM := Lib.hid (fun W b (hb : Below w.heap.size w W) h0 h1 => possM_any L A c T B N d b W hN hNN hLc ((hL.below hb).fresh (Nat.le_refl _)) hcs h0 h1)
  obtain ⟨s, hs⟩ : ∃ s, sidesL N (blL (laidL L)) = s := ⟨_, rfl⟩
  rw [hs] at HPM ⊢
  obtain ⟨r, hr⟩ : ∃ r, seenK s l 0 = r := ⟨_, rfl⟩
  rw [hr]
  have HW0 := Lib.hid hW0
  have HB := Lib.hid (And.intro hb0 hk0)
  obtain ⟨M, hM⟩ : ∃ M, l.length = M := ⟨_, rfl⟩
  rw [hM] at hl hlc hC ⊢
  have HR := Lib.hid hr
  have HI := Lib.hid (And.intro hC (And.intro hob hM))
  clear hL hLc hcs hb0 hk0 hW0 hs hr hC hob hM
  go_enter Tryz.func18, Tryz.ntmps18
  go_wp2_with fail
  rw [HW0.out]
  go_loopg [5] M (fun q i wr => ∃ k : Nat, k ≤ M ∧ q = M - k ∧ i = .int .i64 k ∧ Below W0.heap.size W0 wr ∧ Hid (seenK s (l.drop k) k = r))
  case atStart => exact ⟨0, by omega, rfl, rfl, Below.refl _ _, Lib.hid (by rw [List.drop_zero]; exact HR.out)⟩
  case round =>
    obtain ⟨k, hk, rfl, rfl, hb, hsk⟩ := hrel
    by_cases hlt : k < M
    · obtain ⟨o, ho⟩ : ∃ o, l[k]? = some o := ⟨_, List.getElem?_eq_getElem (by rw [HI.out.2.2]; exact hlt)⟩
      obtain ⟨b, f, rfl, hbl, q0, q1, q2⟩ := ob_cells HI.out.1 ho
      have hb0r : Below w.heap.size w wr := bl HB.out.1 hb
      replace q0 := (hb0r.cell (p := ⟨b, f + k * 3, none⟩) hbl).trans q0
      have hstep := seenK_step (s := s) ho
      rw [hsk.out] at hstep
      have hbo := HI.out.2.1 o (List.mem_of_getElem? ho)
      have hkr := HB.out.2.below hb HB.out.2.lt
      have HC := Lib.hid (fun W (hW : Below wr.heap.size wr W) => HPM.out W o.n (bl hb0r hW) hbo.1 hbo.2)
      have HSS := Lib.hid (show ∀ W', Below wr.heap.size wr W' → (Below wr.heap.size wr W' ∧ W'.cell? ⟨w.heap.size, 0, none⟩ = some (.slice A L.length c) ∧ W'.cell? ⟨w.heap.size, 1, none⟩ = some (.string T) ∧ W'.cell? ⟨w.heap.size, 2, none⟩ = some (.slice B N d) ∧ W'.cell? ⟨b, f + k * 3 + 1, none⟩ = some (.int .i64 o.n)) from fun W' h => by
        have hk' := hkr.below h hkr.lt
        exact ⟨h, (hk'.cell 0).trans rfl, (hk'.cell 1).trans rfl, (hk'.cell 2).trans rfl, ((bl hb0r h).cell (p := ⟨b, f + k * 3 + 1, none⟩) hbl).trans q1⟩)
      have HST := Lib.hid hstep
      have HBR := Lib.hid hb
      clear hstep hbo hkr ho hsk hb0r q1 q2 hb
      by_cases hkd : o.kd = 9
      · have e1 : (o.kd != 9) = false := by simpa using hkd
        have HKD := Lib.hid hkd
        clear hkd
        go_upto_region 5 with fail
        refine wp_region_held_drew (S := (fun W' => Below wr.heap.size wr W' ∧ W'.cell? ⟨w.heap.size, 0, none⟩ = some (.slice A L.length c) ∧ W'.cell? ⟨w.heap.size, 1, none⟩ = some (.string T) ∧ W'.cell? ⟨w.heap.size, 2, none⟩ = some (.slice B N d) ∧ W'.cell? ⟨b, f + k * 3 + 1, none⟩ = some (.int .i64 o.n))) (by kernel_rfl) ?ss1 (fun hHeld => ?rr1)
        case ss1 => (try dsimp only); exact HSS.out _ (Below.refl _ _).drew
        refine rgt 0 21 rfl rfl hHeld ?_
        try simp only [Act.put, rg1, rg2, rg3]
        refine rgt 1 22 rfl rfl hHeld ?_
        try simp only [Act.put, rg1, rg2, rg3]
        refine rgt 2 23 rfl rfl hHeld ?_
        try simp only [Act.put, rg1, rg2, rg3]
        refine rgt 3 24 rfl rfl hHeld ?_
        try simp only [Act.put, rg1, rg2, rg3]
        refine rgt 4 25 rfl rfl hHeld ?_
        try simp only [Act.put, rg1, rg2, rg3]
        refine rgt 5 26 rfl rfl hHeld ?_
        try simp only [Act.put, rg1, rg2, rg3]
        refine rgc 6 (some 27) rfl (fun K hK => ?_)
        go_simp
        ((refine (HC.out _ hHeld.1).mono ?_); rintro e w3 ⟨rfl, hb3⟩; unfold possV)
        refine hK.out _ _ ?ss8 (fun hHeld2 => ?rr8)
        case ss8 => (try dsimp only); exact HSS.out _ (bl hHeld.1 hb3)
        clear hK K
        clear hHeld
        have hHeld := hHeld2
        clear hHeld2
        try simp only [Act.put, rg1, rg2, rg3]
        refine rgt 7 20 rfl rfl hHeld ?_
        try simp only [Act.put, rg1, rg2, rg3]
        refine rgt 8 28 rfl rfl hHeld ?_
        try simp only [Act.put, rg1, rg2, rg3]
        refine rgt 10 6 rfl rfl hHeld ?_
        try simp only [Act.put, rg1, rg2, rg3]
        refine rgt 9 29 rfl rfl hHeld ?_
        try simp only [Act.put, rg1, rg2, rg3]
        refine rgt 11 7 rfl rfl hHeld ?_
        try simp only [Act.put, rg1, rg2, rg3]
        refine wpAnyH_done (by kernel_rfl) ?_ _
        have H3 := Lib.hid (bl HBR.out hHeld.1)
        clear hHeld hb3 q0
        obtain ⟨⟨p, E⟩, hpE⟩ : ∃ p, possR s o.n = p := ⟨_, rfl⟩
        rw [hpE]
        have hbad : badO s o = (!p || E != 0) := by unfold badO; rw [hpE, decide_eq_true HKD.out, Bool.true_and]
        have HBAD := Lib.hid hbad
        clear hbad hpE
        cases p
        · go_wp2_with fail
          go_ret
          have h := HST.out
          rw [HBAD.out] at h
          simp at h
          exact ⟨by rw [h]; rfl, bl HB.out.1 H3.out⟩
        · by_cases hE : E = 0
          · have e2 : (E != 0) = false := by simpa using hE
            have HE := Lib.hid hE
            clear hE
            go_wp2_with fail
            go_roundg (M - (k + 1))
            case measure => omega
            case rel =>
              have h := HST.out
              rw [HBAD.out, HE.out] at h
              simp at h
              exact ⟨k + 1, by omega, rfl, by go_num, H3.out, Lib.hid h.symm⟩
          · have e2 : (E != 0) = true := by simpa using hE
            have HE := Lib.hid e2
            clear hE
            go_wp2_with fail
            go_ret
            have h := HST.out
            rw [HBAD.out, HE.out] at h
            simp at h
            exact ⟨by rw [h]; rfl, bl HB.out.1 H3.out⟩
      · have e1 : (o.kd != 9) = true := by simpa using hkd
        have HKD := Lib.hid hkd
        clear hkd
        go_wp2_with fail
        go_roundg (M - (k + 1))
        case measure => omega
        case rel =>
          have h := HST.out
          have hbad : badO s o = false := by unfold badO; rw [decide_eq_false HKD.out, Bool.false_and]
          rw [hbad] at h
          simp at h
          exact ⟨k + 1, by omega, rfl, by go_num, HBR.out, Lib.hid h.symm⟩
    · obtain rfl : k = M := by omega
      have hm : r = -1 := by
        have h := hsk.out
        rw [List.drop_of_length_le (by rw [HI.out.2.2]; exact Nat.le_refl _)] at h
        rw [← h]; rfl
      have HM := Lib.hid hm
      have H := Lib.hid (bl HB.out.1 hb)
      clear hm hb hsk
      go_wp2_with fail
      go_ret
      exact ⟨by rw [HM.out]; rfl, H.out⟩

theorem site_cells {w : World} {B : Option Addr} {N : Nat} {l : List Site} {k : Nat} {s : Site} (h : Sl w w.heap.size 5 B N (cells l)) (hN : l.length = N) (hk : l[k]? = some s) :
    ∃ b f, B = some ⟨b, f, none⟩ ∧ b < w.heap.size ∧ ∀ j u, j < 5 → s.vs[j]? = some u → w.cell? ⟨b, f + k * 5 + j, none⟩ = some u := by
  have hkl := (List.getElem?_eq_some_iff.1 hk).1
  rcases h.2 with h0 | ⟨b, f, h1, h2, h3⟩
  · omega
  · exact ⟨b, f, h1, h2, fun j u hj hu => by
      have := h3 (k * 5 + j) u (by rw [cells_at l k s j hk hj]; exact hu)
      rwa [← Nat.add_assoc] at this⟩

set_option maxRecDepth 100000 in
set_option maxHeartbeats 4000000 in
theorem namedM_in (v0 v1 : Value) (B : Option Addr) (N d : Nat) (l : List Site) (k : Nat) (s : Site) (w : World) (h0 : v0.oneCell' = true) (h1 : v1.oneCell' = true) (hlN : l.length = N) (hN : N ≤ 1000000) (hNd : N ≤ d) (hB : Sl w w.heap.size 5 B N (cells l)) (hk : l[k]? = some s) :
    Calls Tryz.prog 35 #[.agg #[v0, v1, .slice B N d], .int .i64 ((k : Int) + 1)] w fun e w' => e = .returned (.string (nameOf s true)) ∧ Below w.heap.size w w' := by
  have hkN : k < N := by have := (List.getElem?_eq_some_iff.1 hk).1; omega
  obtain ⟨b, f, rfl, hbl, hc⟩ := site_cells hB hlN hk
  have g : ∀ j u, j < 5 → s.vs[j]? = some u → (w.alloc (.cells #[v0, v1, .slice (some ⟨b, f, none⟩) N d] 25)).cell? ⟨b, f + k * 5 + j, none⟩ = some u := fun j u hj hu => ((bal (Below.refl w.heap.size w) _).cell (p := ⟨b, f + k * 5 + j, none⟩) hbl).trans (hc j u hj hu)
  obtain ⟨mo, ex, li, co, ru⟩ := s
  have q0 := g 0 _ (by omega) rfl
  have q1 := g 1 _ (by omega) rfl
  have q2 := g 2 _ (by omega) rfl
  have q3 := g 3 _ (by omega) rfl
  have q4 := g 4 _ (by omega) rfl
  simp only [Nat.add_zero] at q0
  unfold nameOf
  have e0 : decide (((k : Int) + 1) < 0) = false := by simp; omega
  by_cases hr : ru = 18
  · have e1 : (ru == 18) = true := by simpa using hr
    have HR := Lib.hid hr
    clear hB hk hc g hr hlN
    go_enter Tryz.func35, Tryz.ntmps35
    go_wp2_with fail
    go_ret
    exact ⟨rfl, bal (bal b0 _) _⟩
  · have e1 : (ru == 18) = false := by simpa using hr
    have HR := Lib.hid hr
    clear hB hk hc g hr hlN
    go_enter Tryz.func35, Tryz.ntmps35
    go_wp2_with fail
    go_ret
    exact ⟨rfl, bal (bal b0 _) _⟩

set_option maxRecDepth 100000 in
set_option maxHeartbeats 4000000 in
theorem namedM_out (v0 v1 : Value) (B : Option Addr) (N d : Nat) (l : List Site) (k : Nat) (s : Site) (b0 : Int) (hb0 : b0 = -((k : Int) + 1)) (w : World) (h0 : v0.oneCell' = true) (h1 : v1.oneCell' = true) (hlN : l.length = N) (hN : N ≤ 1000000) (hNd : N ≤ d) (hB : Sl w w.heap.size 5 B N (cells l)) (hk : l[k]? = some s) :
    Calls Tryz.prog 35 #[.agg #[v0, v1, .slice B N d], .int .i64 b0] w fun e w' => e = .returned (.string (nameOf s false)) ∧ Below w.heap.size w w' := by
  have hkN : k < N := by have := (List.getElem?_eq_some_iff.1 hk).1; omega
  obtain ⟨b, f, rfl, hbl, hc⟩ := site_cells hB hlN hk
  have g : ∀ j u, j < 5 → s.vs[j]? = some u → (w.alloc (.cells #[v0, v1, .slice (some ⟨b, f, none⟩) N d] 25)).cell? ⟨b, f + k * 5 + j, none⟩ = some u := fun j u hj hu => ((bal (Below.refl w.heap.size w) _).cell (p := ⟨b, f + k * 5 + j, none⟩) hbl).trans (hc j u hj hu)
  obtain ⟨mo, ex, li, co, ru⟩ := s
  have q0 := g 0 _ (by omega) rfl
  have q1 := g 1 _ (by omega) rfl
  have q2 := g 2 _ (by omega) rfl
  have q3 := g 3 _ (by omega) rfl
  have q4 := g 4 _ (by omega) rfl
  simp only [Nat.add_zero] at q0
  unfold nameOf
  have e0 : decide (b0 < 0) = true := by simp; omega
  have hw1 : wrap64 (-b0) = (k : Int) + 1 := by rw [hb0, Int.neg_neg]; exact IntWalk.wrap64_in _ ⟨by omega, by omega⟩
  clear hB hk hc g hlN hb0
  go_enter Tryz.func35, Tryz.ntmps35
  go_wp2_with fail
  go_ret
  exact ⟨rfl, bal (Below.refl _ _) _⟩

/-- What put's loop keeps: what has been laid, whether the text is among it. -/
def PutI (R : List ByteArray) (l : List ByteArray) (s : ByteArray) (k : Nat) (dn : Bool) (out : List ByteArray) : Prop := if dn = true then out ++ l.drop k = R else out ++ putL (l.drop k) s = R
set_option maxRecDepth 100000 in
set_option maxHeartbeats 8000000 in
theorem putM_any (A : Option Addr) (n c : Nat) (l : List ByteArray) (s : ByteArray) (w : World) (hl : l.length = n) (hn : n ≤ 1000000) (hnc : n ≤ c) (hA : Sl w w.heap.size 1 A n (l.map .string)) :
    Calls Tryz.prog 34 #[.slice A n c, .string s] w fun e w' => (∃ V, e = .returned V ∧ w'.ownsRow w.heap.size 9 1 V (putL l s).length ((putL l s).map .string)) ∧ Below w.heap.size w w' := by
  obtain ⟨i0, hi0, hz0, hz1, hz2⟩ := info_parts info9
  obtain ⟨R, hR⟩ : ∃ R, putL l s = R := ⟨_, rfl⟩
  rw [hR]
  have HI := Lib.hid (And.intro hA (And.intro hl hR))
  clear hA hl hR
  go_enter Tryz.func34, Tryz.ntmps34
  go_wp2_with fail
  go_loopg [5, 6, 7] n (fun q V dv i wr => ∃ (k : Nat) (V' : Value) (dn : Bool) (out : List ByteArray) (mo : Nat), V' = V ∧ dv = .bool dn ∧ k ≤ n ∧ q = n - k ∧ i = .int .i64 k ∧ mo ≤ k + dn.toNat ∧ Hid (PutI R l s k dn out ∧ out.length = mo ∧ wr.ownsRow w.heap.size 9 1 V' mo (out.map .string) ∧ Below w.heap.size w wr))
  case atStart => exact ⟨0, _, false, [], 0, rfl, rfl, by omega, rfl, rfl, by simp, Lib.hid ⟨by unfold PutI; rw [if_neg (by simp), List.drop_zero]; exact HI.out.2.2, rfl, World.ownsRow_nil _ _ _ _, Below.refl _ _⟩⟩
  case round =>
    obtain ⟨k, V', dn, out, mo, rfl, rfl, hk, rfl, rfl, hmo, hh⟩ := hrel
    obtain ⟨hpi, hol, hown, hb⟩ := hh.out
    obtain ⟨AV, cV, rfl, hV1, hV2⟩ := own_shape hown
    by_cases hlt : k < n
    · obtain ⟨x, hx⟩ : ∃ x, l[k]? = some x := ⟨_, List.getElem?_eq_getElem (by rw [HI.out.2.1]; exact hlt)⟩
      have hdr : l.drop k = x :: l.drop (k + 1) := by
        have h1 := (List.getElem?_eq_some_iff.1 hx).1
        rw [List.drop_eq_getElem_cons h1, (List.getElem?_eq_some_iff.1 hx).2]
      obtain ⟨b, f, rfl, hbl, hcc⟩ : ∃ b f, A = some ⟨b, f, none⟩ ∧ b < w.heap.size ∧ w.cell? ⟨b, f + k, none⟩ = some (.string x) := by
        rcases HI.out.1.2 with h0 | ⟨b, f, h1, h2, h3⟩
        · omega
        · exact ⟨b, f, h1, h2, h3 k _ (by rw [List.getElem?_map, hx]; rfl)⟩
      have HCC := Lib.hid (show ∀ W, Below w.heap.size w W → W.cell? ⟨b, f + k, none⟩ = some (.string x) from fun W h => (h.cell (p := ⟨b, f + k, none⟩) hbl).trans hcc)
      have q0 := HCC.out wr hb
      unfold PutI at hpi
      rw [hdr] at hpi
      have HB := Lib.hid (And.intro hb (And.intro hown hol))
      clear hb hown hol hx hdr hcc hh
      cases dn
      · simp only [Bool.toNat_false, Nat.add_zero] at hmo
        rw [if_neg (by simp)] at hpi
        rw [putL] at hpi
        rcases hlx : ltB x s
        · rw [if_neg (by rw [hlx]; simp)] at hpi
          have e1 : (Op.bytesLess s.toList x.toList || s.toList == x.toList) = true := by
            have := leB (x := s) (y := x)
            rw [hlx] at this; exact this
          rcases heq : (s.toList == x.toList)
          · rw [if_neg (by rw [heq]; simp)] at hpi
            rw [heq, Bool.or_false] at e1
            have HP := Lib.hid hpi
            clear hpi hlx
            have howa := own_below HB.out.2.1 (bal (Below.refl wr.heap.size wr) (.cells #[.string s] 9))
            have hsla := Sl.one wr (.string s) 9
            have honea : ∀ q ∈ [Value.string s], q.oneCell' = true := by intro q hq; rw [List.mem_singleton.1 hq]; rfl
            have HAa := Lib.hid (And.intro howa (And.intro hsla (And.intro honea HB.out.1.size)))
            have hszla : w.heap.size ≤ wr.heap.size := HB.out.1.size
            clear howa hsla honea
            go_upto_region 10 with (at_builtin; refine wpList_append_sl _ rfl (.tmp 30) (.tmp 32) _ rfl w.heap.size 9 i0 _ 1 16 Tryz.underlying37 hi0 hz0 hz1 hz2 rfl (by omega) _ mo _ rfl HAa.out.1 (wr.heap.size + 1) (some ⟨wr.heap.size, 0, none⟩) 1 1 _ rfl HAa.out.2.1 HAa.out.2.2.1 (by simp only [maxLen]; omega) (by omega) (by simp only [World.size_alloc]; omega) ?_; intro Va wa howna hga hVa; have hba : Below w.heap.size w wa := (HB.out.1.alloc HB.out.1.size _).grown hga (by simp only [World.size_alloc]; omega) (fun g hg => (HAa.out.1.lt g hg).1); have q1 := HCC.out wa hba; obtain ⟨Aa, ca, rfl, _, _⟩ := own_shape howna)
            have HBa := Lib.hid (And.intro hba howna)
            clear howna hga hVa hba HAa
            have howb := own_below HBa.out.2 (bal (Below.refl wa.heap.size wa) (.cells #[.string x] 9))
            have hslb := Sl.one wa (.string x) 9
            have honeb : ∀ q ∈ [Value.string x], q.oneCell' = true := by intro q hq; rw [List.mem_singleton.1 hq]; rfl
            have HAb := Lib.hid (And.intro howb (And.intro hslb (And.intro honeb HBa.out.1.size)))
            have hszlb : w.heap.size ≤ wa.heap.size := HBa.out.1.size
            clear howb hslb honeb
            go_wp2_with (at_builtin; refine wpList_append_sl _ rfl (.tmp 34) (.tmp 39) _ rfl w.heap.size 9 i0 _ 1 16 Tryz.underlying37 hi0 hz0 hz1 hz2 rfl (by omega) _ (mo + 1) _ rfl HAb.out.1 (wa.heap.size + 1) (some ⟨wa.heap.size, 0, none⟩) 1 1 _ rfl HAb.out.2.1 HAb.out.2.2.1 (by simp only [maxLen]; omega) (by omega) (by simp only [World.size_alloc]; omega) ?_; intro Vb wb hownb hgb hVb; have hbb : Below w.heap.size w wb := (HBa.out.1.alloc HBa.out.1.size _).grown hgb (by simp only [World.size_alloc]; omega) (fun g hg => (HAb.out.1.lt g hg).1); obtain ⟨Ab, cb, rfl, _, _⟩ := own_shape hownb)
            have HBb := Lib.hid (And.intro hbb hownb)
            clear hownb hgb hVb hbb HAb
            go_wp2_with fail
            go_roundg (n - (k + 1))
            case measure => omega
            case rel => exact ⟨k + 1, _, true, out ++ [s] ++ [x], mo + 1 + 1, rfl, rfl, by omega, rfl, by go_num, by simp only [Bool.toNat_true, Bool.toNat_false]; omega, Lib.hid ⟨by unfold PutI; rw [if_pos rfl, ← HP.out]; simp, by simp [HB.out.2.2], by simpa using HBb.out.2, HBb.out.1⟩⟩
          · rw [if_pos (by rw [heq])] at hpi
            have HP := Lib.hid hpi
            clear hpi hlx e1
            have howa := own_below HB.out.2.1 (bal (Below.refl wr.heap.size wr) (.cells #[.string x] 9))
            have hsla := Sl.one wr (.string x) 9
            have honea : ∀ q ∈ [Value.string x], q.oneCell' = true := by intro q hq; rw [List.mem_singleton.1 hq]; rfl
            have HAa := Lib.hid (And.intro howa (And.intro hsla (And.intro honea HB.out.1.size)))
            have hszla : w.heap.size ≤ wr.heap.size := HB.out.1.size
            clear howa hsla honea
            go_wp2_with (at_builtin; refine wpList_append_sl _ rfl (.tmp 34) (.tmp 39) _ rfl w.heap.size 9 i0 _ 1 16 Tryz.underlying37 hi0 hz0 hz1 hz2 rfl (by omega) _ mo _ rfl HAa.out.1 (wr.heap.size + 1) (some ⟨wr.heap.size, 0, none⟩) 1 1 _ rfl HAa.out.2.1 HAa.out.2.2.1 (by simp only [maxLen]; omega) (by omega) (by simp only [World.size_alloc]; omega) ?_; intro Va wa howna hga hVa; have hba : Below w.heap.size w wa := (HB.out.1.alloc HB.out.1.size _).grown hga (by simp only [World.size_alloc]; omega) (fun g hg => (HAa.out.1.lt g hg).1); obtain ⟨Aa, ca, rfl, _, _⟩ := own_shape howna)
            have HBa := Lib.hid (And.intro hba howna)
            clear howna hga hVa hba HAa
            go_wp2_with fail
            go_roundg (n - (k + 1))
            case measure => omega
            case rel => exact ⟨k + 1, _, true, out ++ [x], mo + 1, rfl, rfl, by omega, rfl, by go_num, by simp only [Bool.toNat_true, Bool.toNat_false]; omega, Lib.hid ⟨by unfold PutI; rw [if_pos rfl, ← HP.out]; simp, by simp [HB.out.2.2], by simpa using HBa.out.2, HBa.out.1⟩⟩
        · rw [if_pos (by rw [hlx])] at hpi
          have e1 : (Op.bytesLess s.toList x.toList || s.toList == x.toList) = false := by
            have := leB (x := s) (y := x)
            rw [hlx] at this; exact this
          obtain ⟨e2, e3⟩ := Bool.or_eq_false_iff.1 e1
          have HP := Lib.hid hpi
          clear hpi hlx e1
          have howa := own_below HB.out.2.1 (bal (Below.refl wr.heap.size wr) (.cells #[.string x] 9))
          have hsla := Sl.one wr (.string x) 9
          have honea : ∀ q ∈ [Value.string x], q.oneCell' = true := by intro q hq; rw [List.mem_singleton.1 hq]; rfl
          have HAa := Lib.hid (And.intro howa (And.intro hsla (And.intro honea HB.out.1.size)))
          have hszla : w.heap.size ≤ wr.heap.size := HB.out.1.size
          clear howa hsla honea
          go_wp2_with (at_builtin; refine wpList_append_sl _ rfl (.tmp 34) (.tmp 39) _ rfl w.heap.size 9 i0 _ 1 16 Tryz.underlying37 hi0 hz0 hz1 hz2 rfl (by omega) _ mo _ rfl HAa.out.1 (wr.heap.size + 1) (some ⟨wr.heap.size, 0, none⟩) 1 1 _ rfl HAa.out.2.1 HAa.out.2.2.1 (by simp only [maxLen]; omega) (by omega) (by simp only [World.size_alloc]; omega) ?_; intro Va wa howna hga hVa; have hba : Below w.heap.size w wa := (HB.out.1.alloc HB.out.1.size _).grown hga (by simp only [World.size_alloc]; omega) (fun g hg => (HAa.out.1.lt g hg).1); obtain ⟨Aa, ca, rfl, _, _⟩ := own_shape howna)
          have HBa := Lib.hid (And.intro hba howna)
          clear howna hga hVa hba HAa
          go_wp2_with fail
          go_roundg (n - (k + 1))
          case measure => omega
          case rel => exact ⟨k + 1, _, false, out ++ [x], mo + 1, rfl, rfl, by omega, rfl, by go_num, by simp only [Bool.toNat_true, Bool.toNat_false]; omega, Lib.hid ⟨by unfold PutI; rw [if_neg (by simp), ← HP.out]; simp, by simp [HB.out.2.2], by simpa using HBa.out.2, HBa.out.1⟩⟩
      · simp only [Bool.toNat_true] at hmo
        rw [if_pos rfl] at hpi
        have HP := Lib.hid hpi
        clear hpi
        have howa := own_below HB.out.2.1 (bal (Below.refl wr.heap.size wr) (.cells #[.string x] 9))
        have hsla := Sl.one wr (.string x) 9
        have honea : ∀ q ∈ [Value.string x], q.oneCell' = true := by intro q hq; rw [List.mem_singleton.1 hq]; rfl
        have HAa := Lib.hid (And.intro howa (And.intro hsla (And.intro honea HB.out.1.size)))
        have hszla : w.heap.size ≤ wr.heap.size := HB.out.1.size
        clear howa hsla honea
        go_wp2_with (at_builtin; refine wpList_append_sl _ rfl (.tmp 34) (.tmp 39) _ rfl w.heap.size 9 i0 _ 1 16 Tryz.underlying37 hi0 hz0 hz1 hz2 rfl (by omega) _ mo _ rfl HAa.out.1 (wr.heap.size + 1) (some ⟨wr.heap.size, 0, none⟩) 1 1 _ rfl HAa.out.2.1 HAa.out.2.2.1 (by simp only [maxLen]; omega) (by omega) (by simp only [World.size_alloc]; omega) ?_; intro Va wa howna hga hVa; have hba : Below w.heap.size w wa := (HB.out.1.alloc HB.out.1.size _).grown hga (by simp only [World.size_alloc]; omega) (fun g hg => (HAa.out.1.lt g hg).1); obtain ⟨Aa, ca, rfl, _, _⟩ := own_shape howna)
        have HBa := Lib.hid (And.intro hba howna)
        clear howna hga hVa hba HAa
        go_wp2_with fail
        go_roundg (n - (k + 1))
        case measure => omega
        case rel => exact ⟨k + 1, _, true, out ++ [x], mo + 1, rfl, rfl, by omega, rfl, by go_num, by simp only [Bool.toNat_true, Bool.toNat_false]; omega, Lib.hid ⟨by unfold PutI; rw [if_pos rfl, ← HP.out]; simp, by simp [HB.out.2.2], by simpa using HBa.out.2, HBa.out.1⟩⟩
    · obtain rfl : k = n := by omega
      unfold PutI at hpi
      rw [List.drop_of_length_le (by rw [HI.out.2.1]; exact Nat.le_refl _)] at hpi
      have HB := Lib.hid (And.intro hb (And.intro hown hol))
      clear hb hown hol hh
      cases dn
      · simp only [Bool.toNat_false, Nat.add_zero] at hmo
        rw [if_neg (by simp), putL] at hpi
        have HP := Lib.hid hpi
        clear hpi
        have howa := own_below HB.out.2.1 (bal (Below.refl wr.heap.size wr) (.cells #[.string s] 9))
        have hsla := Sl.one wr (.string s) 9
        have honea : ∀ q ∈ [Value.string s], q.oneCell' = true := by intro q hq; rw [List.mem_singleton.1 hq]; rfl
        have HAa := Lib.hid (And.intro howa (And.intro hsla (And.intro honea HB.out.1.size)))
        have hszla : w.heap.size ≤ wr.heap.size := HB.out.1.size
        clear howa hsla honea
        go_wp2_with (at_builtin; refine wpList_append_sl _ rfl (.tmp 43) (.tmp 45) _ rfl w.heap.size 9 i0 _ 1 16 Tryz.underlying37 hi0 hz0 hz1 hz2 rfl (by omega) _ mo _ rfl HAa.out.1 (wr.heap.size + 1) (some ⟨wr.heap.size, 0, none⟩) 1 1 _ rfl HAa.out.2.1 HAa.out.2.2.1 (by simp only [maxLen]; omega) (by omega) (by simp only [World.size_alloc]; omega) ?_; intro Va wa howna hga hVa; have hba : Below w.heap.size w wa := (HB.out.1.alloc HB.out.1.size _).grown hga (by simp only [World.size_alloc]; omega) (fun g hg => (HAa.out.1.lt g hg).1); obtain ⟨Aa, ca, rfl, _, _⟩ := own_shape howna)
        have HBa := Lib.hid (And.intro hba howna)
        clear howna hga hVa hba HAa
        go_wp2_with fail
        go_ret
        refine ⟨⟨_, rfl, ?_⟩, HBa.out.1⟩
        have h := HBa.out.2
        rw [← HP.out, List.length_append, HB.out.2.2, List.map_append]
        exact h
      · rw [if_pos rfl, List.append_nil] at hpi
        have HP := Lib.hid hpi
        clear hpi
        go_wp2_with fail
        go_ret
        refine ⟨⟨_, rfl, ?_⟩, HB.out.1⟩
        have h := HB.out.2.1
        rw [← HP.out, HB.out.2.2]
        exact h
end Go.Proofs.YtmagljnlfponaaaGreat.R

/- RuC -/
namespace Go.Proofs.YtmagljnlfponaaaGreat.R
open Go.RowKit Go.Proofs.YtmagljnlfponaaaGreat.B Go.Proofs.YtmagljnlfponaaaGreat.T Go.Proofs.YtmagljnlfponaaaGreat.K Go.Proofs.YtmagljnlfponaaaGreat.J Go.Proofs.YtmagljnlfponaaaGreat.La
set_option linter.unusedVariables false
set_option linter.unusedSimpArgs false

theorem nameB_in {l : List Site} {k : Nat} {s : Site} (h : l[k]? = some s) : nameB l ((k : Int) + 1) = nameOf s true := by
  have e : sideL ((k : Int) + 1) = (k : Int) + 1 := by unfold sideL; rw [if_pos (by omega)]
  unfold nameB
  rw [e, show ((k : Int) + 1).toNat - 1 = k by omega, h]
  simp only
  rw [show sideI ((k : Int) + 1) = true from decide_eq_true (by omega)]
theorem nameB_out {l : List Site} {k : Nat} {s : Site} (h : l[k]? = some s) (hk : k < 1000000) : nameB l (-((k : Int) + 1)) = nameOf s false := by
  have e : sideL (-((k : Int) + 1)) = (k : Int) + 1 := by unfold sideL; rw [if_neg (by omega), if_neg (by omega)]; omega
  unfold nameB
  rw [e, show ((k : Int) + 1).toNat - 1 = k by omega, h]
  simp only
  rw [show sideI (-((k : Int) + 1)) = false from decide_eq_false (by omega)]

set_option maxRecDepth 100000 in
set_option maxHeartbeats 8000000 in
theorem modsM_any (L : List Tn) (A : Option Addr) (c : Nat) (T : ByteArray) (B : Option Addr) (l : List Site) (d : Nat) (w : World) (hN : L.length ≤ 1000000) (hNN : l.length ≤ 400000) (hLc : L.length ≤ c) (hld : l.length ≤ d) (hL : LT w w.heap.size A L) (hB : Sl w w.heap.size 5 B l.length (cells l)) (hcs : ∀ x ∈ laidL L, Cst x ∧ x.n ≤ (l.length : Int)) :
    Calls Tryz.prog 17 #[.agg #[.slice A L.length c, .string T, .slice B l.length d]] w fun e w' => (∃ V, e = .returned V ∧ w'.ownsRow w.heap.size 9 1 V (modK l (sidesL l.length (blL (laidL L))) l.length).length ((modK l (sidesL l.length (blL (laidL L))) l.length).map .string)) ∧ Below w.heap.size w w' := by
  obtain ⟨W0, hW0⟩ : ∃ W0, w.alloc (.cells #[.slice A L.length c, .string T, .slice B l.length d] 25) = W0 := ⟨_, rfl⟩
  have hb0 : Below w.heap.size w W0 := by rw [← hW0]; exact bal b0 _
  have hk0 : Blk W0 w.heap.size 25 #[.slice A L.length c, .string T, .slice B l.length d] := by rw [← hW0]; exact Blk.new _ _ _
  have HSI := Lib.hid (sidesM_any L A c T B l.length d W0 hN (by omega) hLc ((hL.below hb0).fresh (Nat.le_refl _)) hcs)
  have HSL := Lib.hid (show ∀ W, Below w.heap.size w W → Sl W W.heap.size 5 B l.length (cells l) from fun W h => Sl.more (Sl.below hB h) h.size)
  obtain ⟨N, hNe⟩ : ∃ N, l.length = N := ⟨_, rfl⟩
  rw [hNe] at HSI HSL hNN hld hW0 hk0 ⊢
  have hlen := sides_len N (blL (laidL L))
  obtain ⟨s, hs⟩ : ∃ s, sidesL N (blL (laidL L)) = s := ⟨_, rfl⟩
  rw [hs] at HSI hlen ⊢
  have k0 : W0.cell? ⟨w.heap.size, 0, none⟩ = some (.slice A L.length c) := (hk0.cell 0).trans rfl
  have k1 : W0.cell? ⟨w.heap.size, 1, none⟩ = some (.string T) := (hk0.cell 1).trans rfl
  have k2 : W0.cell? ⟨w.heap.size, 2, none⟩ = some (.slice B N d) := (hk0.cell 2).trans rfl
  have HNI := Lib.hid (fun W k st (h : Below w.heap.size w W) (hk : l[k]? = some st) => namedM_in (.slice A L.length c) (.string T) B N d l k st W rfl rfl hNe (by omega) hld (HSL.out W h) hk)
  have HNO := Lib.hid (fun W k st b0 hb (h : Below w.heap.size w W) (hk : l[k]? = some st) => namedM_out (.slice A L.length c) (.string T) B N d l k st b0 hb W rfl rfl hNe (by omega) hld (HSL.out W h) hk)
  have HW0 := Lib.hid hW0
  have HB := Lib.hid (And.intro hb0 (And.intro hk0 (And.intro hNe hlen)))
  clear hb0 hk0 hW0 hNe hlen hs hL hB hcs hLc
  go_enter Tryz.func17, Tryz.ntmps17
  go_upto_region 2 with fail
  rw [HW0.out]
  go_wp2_with fail
  (refine HSI.out.mono ?_); rintro e w1 ⟨hb1, v, rfl, hv⟩
  obtain ⟨Av, cv, rfl, hv1, hv2⟩ := own_shape hv
  have H1 := Lib.hid (And.intro (bl HB.out.1 hb1) (And.intro (HB.out.2.1.below hb1 HB.out.2.1.lt) hv))
  clear hb1 hv k0 k1 k2
  go_wp2_with fail
  go_loopg [3, 5] N (fun q V i wr => ∃ (k : Nat) (V' : Value), V' = V ∧ k ≤ N ∧ q = N - k ∧ i = .int .i64 k ∧ Hid (Below w1.heap.size w1 wr ∧ wr.ownsRow w.heap.size 9 1 V' (modK l s k).length ((modK l s k).map .string)))
  case atStart => exact ⟨0, _, rfl, by omega, rfl, rfl, Lib.hid ⟨Below.refl _ _, World.ownsRow_nil _ _ _ _⟩⟩
  case round =>
    obtain ⟨k, V', rfl, hk, rfl, rfl, hh⟩ := hrel
    obtain ⟨hb, ho⟩ := hh.out
    by_cases hlt : k < N
    · obtain ⟨x, hx⟩ : ∃ x, s[k]? = some x := ⟨_, List.getElem?_eq_getElem (by rw [HB.out.2.2.2]; exact hlt)⟩
      obtain ⟨st, hst⟩ : ∃ st, l[k]? = some st := ⟨_, List.getElem?_eq_getElem (by rw [HB.out.2.2.1]; exact hlt)⟩
      obtain ⟨g, rfl, hgb, hgl, g1, g2⟩ := sd_cells H1.out.2.2 hlt hx
      have hml := modK_len l s k
      obtain ⟨mo, hmo⟩ : ∃ mo, (modK l s k).length = mo := ⟨_, rfl⟩
      obtain ⟨out, hout⟩ : ∃ out, modK l s k = out := ⟨_, rfl⟩
      rw [hmo] at ho hml
      rw [hout] at ho hmo
      obtain ⟨Ao, co, rfl, ho1, ho2⟩ := own_shape ho
      have hstep : modK l s (k + 1) = (let o1 := if x.1 = true then putL out (nameOf st true) else out; if x.2 = true then putL o1 (nameOf st false) else o1) := by
        rw [modK, modS, hout, List.getD_eq_getElem?_getD, hx, nameB_in hst, nameB_out hst (by omega)]; rfl
      obtain ⟨x1, x2⟩ := x
      simp only at hstep g1 g2
      have HG := Lib.hid (show ∀ W, Below w1.heap.size w1 W → (W.cell? ⟨g, k * 2, none⟩ = some (.bool x1) ∧ W.cell? ⟨g, k * 2 + 1, none⟩ = some (.bool x2)) from fun W h => ⟨(h.cell (p := ⟨g, k * 2, none⟩) hgl).trans g1, (h.cell (p := ⟨g, k * 2 + 1, none⟩) hgl).trans g2⟩)
      have HP := Lib.hid (show ∀ W, Below w1.heap.size w1 W → (W.cell? ⟨w.heap.size, 0, none⟩ = some (.slice A L.length c) ∧ W.cell? ⟨w.heap.size, 1, none⟩ = some (.string T) ∧ W.cell? ⟨w.heap.size, 2, none⟩ = some (.slice B N d)) from fun W h => by
        have hk' := H1.out.2.1.below h H1.out.2.1.lt
        exact ⟨(hk'.cell 0).trans rfl, (hk'.cell 1).trans rfl, (hk'.cell 2).trans rfl⟩)
      have HO := Lib.hid (And.intro hb (And.intro ho (And.intro hmo (And.intro hst hstep))))
      have r1 := (HG.out wr hb).1
      clear hb ho hmo hst hstep hx g1 g2 hout hh
      cases x1
      · go_upto_region 8 with fail
        have r2 := (HG.out wr HO.out.1).2
        cases x2
        · go_wp2_with fail
          go_roundg (N - (k + 1))
          case measure => omega
          case rel => exact ⟨k + 1, _, rfl, by omega, rfl, by go_num, Lib.hid ⟨HO.out.1, by rw [HO.out.2.2.2.2]; simp only [Bool.false_eq_true, if_false]; rw [HO.out.2.2.1]; exact HO.out.2.1⟩⟩
        · obtain ⟨j0, j1, j2⟩ := HP.out wr HO.out.1
          have HNa := Lib.hid (HNO.out wr k st (-((k : Int) + 1)) rfl (bl H1.out.1 HO.out.1) HO.out.2.2.2.1)
          go_wp2_with fail
          (refine HNa.out.mono ?_); rintro e wna ⟨rfl, hna⟩
          have hnoa := own_below HO.out.2.1 hna
          obtain ⟨Axa, cxa, hxea, hxca, _, hxsa⟩ := Sl.of_own hnoa
          injection hxea with hxe1 hxe2 hxe3
          subst hxe1 hxe3
          have HPUa := Lib.hid (putM_any _ mo _ out (nameOf st false) wna HO.out.2.2.1 (by omega) (by omega) hxsa)
          have HNBa := Lib.hid (bl HO.out.1 hna)
          clear hna hnoa hxsa j0 j1 j2
          go_wp2_with fail
          (refine HPUa.out.mono ?_); rintro e wpa ⟨⟨Vpa, rfl, hvpa⟩, hpa⟩
          have HPBa := Lib.hid (And.intro (bl HNBa.out hpa) (own_less (base' := w.heap.size) hvpa (by have := HNBa.out.size; have := H1.out.1.size; omega)))
          clear hvpa hpa
          go_wp2_with fail
          go_roundg (N - (k + 1))
          case measure => omega
          case rel => exact ⟨k + 1, _, rfl, by omega, rfl, by go_num, Lib.hid ⟨HPBa.out.1, by rw [HO.out.2.2.2.2]; simp only [Bool.false_eq_true, if_false, if_true]; exact HPBa.out.2⟩⟩
      · obtain ⟨j0, j1, j2⟩ := HP.out wr HO.out.1
        have HNa := Lib.hid (HNI.out wr k st (bl H1.out.1 HO.out.1) HO.out.2.2.2.1)
        go_wp2_with fail
        (refine HNa.out.mono ?_); rintro e wna ⟨rfl, hna⟩
        have hnoa := own_below HO.out.2.1 hna
        obtain ⟨Axa, cxa, hxea, hxca, _, hxsa⟩ := Sl.of_own hnoa
        injection hxea with hxe1 hxe2 hxe3
        subst hxe1 hxe3
        have HPUa := Lib.hid (putM_any _ mo _ out (nameOf st true) wna HO.out.2.2.1 (by omega) (by omega) hxsa)
        have HNBa := Lib.hid (bl HO.out.1 hna)
        clear hna hnoa hxsa j0 j1 j2
        go_wp2_with fail
        (refine HPUa.out.mono ?_); rintro e wpa ⟨⟨Vpa, rfl, hvpa⟩, hpa⟩
        have HPBa := Lib.hid (And.intro (bl HNBa.out hpa) (own_less (base' := w.heap.size) hvpa (by have := HNBa.out.size; have := H1.out.1.size; omega)))
        clear hvpa hpa
        have r2 := (HG.out wpa HPBa.out.1).2
        have hl2 : (putL out (nameOf st true)).length ≤ mo + 1 := by have := putL_len out (nameOf st true); rw [HO.out.2.2.1] at this; exact this
        obtain ⟨mo2, hmo2⟩ : ∃ mo2, (putL out (nameOf st true)).length = mo2 := ⟨_, rfl⟩
        obtain ⟨out2, hout2⟩ : ∃ out2, putL out (nameOf st true) = out2 := ⟨_, rfl⟩
        rw [hmo2] at hl2 HPBa
        rw [hout2] at hmo2 HPBa
        obtain ⟨Apa, cpa, rfl, hpa1, _⟩ := own_shape HPBa.out.2
        have HMO := Lib.hid (And.intro hmo2 hout2)
        clear hmo2 hout2
        go_upto_region 8 with fail
        cases x2
        · go_wp2_with fail
          go_roundg (N - (k + 1))
          case measure => omega
          case rel => exact ⟨k + 1, _, rfl, by omega, rfl, by go_num, Lib.hid ⟨HPBa.out.1, by rw [HO.out.2.2.2.2]; simp only [Bool.false_eq_true, if_false, if_true]; rw [HMO.out.2, HMO.out.1]; exact HPBa.out.2⟩⟩
        · obtain ⟨j0, j1, j2⟩ := HP.out wpa HPBa.out.1
          have HNb := Lib.hid (HNO.out wpa k st (-((k : Int) + 1)) rfl (bl H1.out.1 HPBa.out.1) HO.out.2.2.2.1)
          go_wp2_with fail
          (refine HNb.out.mono ?_); rintro e wnb ⟨rfl, hnb⟩
          have hnob := own_below HPBa.out.2 hnb
          obtain ⟨Axb, cxb, hxeb, hxcb, _, hxsb⟩ := Sl.of_own hnob
          injection hxeb with hxe1 hxe2 hxe3
          subst hxe1 hxe3
          have HPUb := Lib.hid (putM_any _ mo2 _ out2 (nameOf st false) wnb HMO.out.1 (by omega) (by omega) hxsb)
          have HNBb := Lib.hid (bl HPBa.out.1 hnb)
          clear hnb hnob hxsb j0 j1 j2
          go_wp2_with fail
          (refine HPUb.out.mono ?_); rintro e wpb ⟨⟨Vpb, rfl, hvpb⟩, hpb⟩
          have HPBb := Lib.hid (And.intro (bl HNBb.out hpb) (own_less (base' := w.heap.size) hvpb (by have := HNBb.out.size; have := H1.out.1.size; omega)))
          clear hvpb hpb
          go_wp2_with fail
          go_roundg (N - (k + 1))
          case measure => omega
          case rel => exact ⟨k + 1, _, rfl, by omega, rfl, by go_num, Lib.hid ⟨HPBb.out.1, by rw [HO.out.2.2.2.2]; simp only [if_true]; rw [HMO.out.2]; exact HPBb.out.2⟩⟩
    · obtain rfl : k = N := by omega
      have H := Lib.hid (And.intro (bl H1.out.1 hb) ho)
      clear hb ho hh
      go_wp2_with fail
      go_ret
      exact ⟨⟨_, rfl, H.out.2⟩, H.out.1⟩
end Go.Proofs.YtmagljnlfponaaaGreat.R

/- TxE -/
namespace Go.Proofs.YtmagljnlfponaaaGreat.T
open Go.RowKit Go.Proofs.YtmagljnlfponaaaGreat.B
set_option linter.unusedSimpArgs false
set_option linter.unusedVariables false

abbrev tvals (l : List ByteArray) : List Value := l.map Value.string
theorem text_cell {w W : World} {l : List ByteArray} {A : Option Addr} (hA : Sl w w.heap.size 1 A l.length (tvals l)) (hb : Below w.heap.size w W) {k : Nat} {s : ByteArray} (hs : l[k]? = some s) : ∃ b o, A = some ⟨b, o, none⟩ ∧ b < w.heap.size ∧ W.cell? ⟨b, o + k, none⟩ = some (.string s) := by
  obtain ⟨b, o, rfl, hlt, hc⟩ := hA.at_ (by have := (List.getElem?_eq_some_iff.1 hs).1; omega)
  exact ⟨b, o, rfl, hlt, (hb.cell (p := ⟨b, o + k, none⟩) hlt).trans (hc k _ (by simp [tvals, hs]))⟩

theorem eqTexts_any (l : List ByteArray) (A A' : Option Addr) (c c' : Nat) (w : World) (hl : l.length ≤ 2147483647) (hA : Sl w w.heap.size 1 A l.length (tvals l)) (hA' : Sl w w.heap.size 1 A' l.length (tvals l)) :
    Calls Tryz.prog 16 #[.slice A l.length c, .slice A' l.length c'] w fun e w' => e = .returned (.bool true) ∧ Below w.heap.size w w' := by
  go_enter Tryz.func16, Tryz.ntmps16
  go_wp2_with fail
  go_loopg [5] l.length (fun g i wr => ∃ k : Nat, k ≤ l.length ∧ g = l.length - k ∧ i = .int .i64 k ∧ ∃ m, wr = w.drewN m)
  case atStart => exact ⟨0, by omega, rfl, rfl, 0, rfl⟩
  case round =>
    obtain ⟨k, hk, rfl, rfl, m, rfl⟩ := hrel
    by_cases h1 : k < l.length
    · obtain ⟨s, hs⟩ : ∃ s, l[k]? = some s := ⟨_, List.getElem?_eq_getElem h1⟩
      obtain ⟨bb, o, rfl, hbb, c0⟩ := text_cell hA (Below.refl _ _) hs
      obtain ⟨bb', o', rfl, hbb', d0⟩ := text_cell hA' (Below.refl _ _) hs
      go_wp2_with fail
      go_quiet (fail)
      go_wp2_with fail
      go_roundg (l.length - (k + 1))
      case measure => omega
      case rel => exact ⟨k + 1, by omega, rfl, by go_num, m + nq, rfl⟩
    · go_wp2_with fail
      go_ret
      exact ⟨rfl, below_drewN (Below.refl _ _) _⟩


end Go.Proofs.YtmagljnlfponaaaGreat.T
