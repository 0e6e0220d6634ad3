/- Parts of this claim: RuE, SitesIn, NodesIn. -/
import Derived.ProofKit
import Derived.Deep.Slices
import Derived.SizedLaws
import Derived.OpenShut
import Derived.Test.YtmagljnlfponaaaGreatP36
import Derived.Test.YtmagljnlfponaaaGreatP05
import Derived.Test.YtmagljnlfponaaaGreatP30
import Derived.Test.YtmagljnlfponaaaGreatProg
import Derived.Test.YtmagljnlfponaaaGreatP04
set_option linter.unusedVariables false
set_option linter.unusedSimpArgs false
/- RuE -/
namespace Go.Proofs.YtmagljnlfponaaaGreat.R
open Go.RowKit Go.Proofs.YtmagljnlfponaaaGreat.B Go.Proofs.YtmagljnlfponaaaGreat.T Go.Proofs.YtmagljnlfponaaaGreat.K Go.Proofs.YtmagljnlfponaaaGreat.J Go.Proofs.YtmagljnlfponaaaGreat.La
set_option linter.unusedVariables false
set_option linter.unusedSimpArgs false

theorem lt_of_sl {w : World} {A : Option Addr} {L : List Tn} {n : Nat} (hn : L.length = n) (h : Sl w w.heap.size 8 A n (tns L)) : LT w w.heap.size A L := by subst hn; exact lt_sl h
theorem lt_at {w w' : World} {A : Option Addr} {L : List Tn} (h : LT w w.heap.size A L) (hb : Below w.heap.size w w') : LT w' w'.heap.size A L := LT.below (h.fresh hb.size) hb
/-- Behind the copy: two programs and what is seen; all is asked. -/
def RestQ (W : World) (e : Ending) (w' : World) : Prop := e = .returned (.bool true) ∧ Below W.heap.size W w'

set_option maxRecDepth 100000 in
set_option maxHeartbeats 16000000 in
theorem judgeSides_walk (L : List Tn) (T : ByteArray) (l : List Site) (A : Option Addr) (c : Nat) (B : Option Addr) (d : Nat) (bq : Int) (ob : List Ob) (C : Option Addr) (cd : Nat) (W : World) (hLb : L.length ≤ 4611686018427387904) (hlb : l.length ≤ 4611686018427387904) (hob : ob.length ≤ 4611686018427387904) (hLc : L.length ≤ c) (hld : l.length ≤ d) (hoc : ob.length ≤ cd) (hA : Sl W W.heap.size 8 A L.length (tns L)) (hB : Sl W W.heap.size 5 B l.length (cells l)) (hC : Sl W W.heap.size 3 C ob.length (obs ob))
    (hS : ∀ x ∈ L, x.small) (hok : ∀ s ∈ l, s.mo.size ≤ 140737488351232 ∧ s.ex.size ≤ 140737488351232) (hbl0 : -9223372036854775808 ≤ bq) (hbl1 : bq ≤ 9223372036854775807) (hobn : ∀ o ∈ ob, -9223372036854775808 ≤ o.n ∧ o.n ≤ 9223372036854775807) :
    Calls Tryz.prog 3 #[.agg #[.slice A L.length c, .string T, .slice B l.length d], .int .i64 bq, .slice C ob.length cd] W fun e w' => e = .returned (.bool true) ∧ Below W.heap.size W w' := by
  have hmu := fun W' (hb : Below W.heap.size W W') => muchJ L A c T l B d W' (by omega) (by omega) hS hok (lt_sl ((hA.below hb).more hb.size)) ((hB.below hb).more hb.size)
  have hcp := fun (h1 : L.length ≤ 32768) (h2 : l.length ≤ 16384) W' (hb : Below W.heap.size W W') => copyProgram_any L T l A c B d W' (by omega) h2 ((hA.below hb).more hb.size) ((hB.below hb).more hb.size)
  have hG := fun W' (hb : Below W.heap.size W W') => And.intro (lt_sl ((hA.below hb).more hb.size)) (And.intro ((hB.below hb).more hb.size) ((hC.below hb).more hb.size))
  have hck := fun (h1 : L.length ≤ 32768) (h2 : l.length ≤ 16384) W' (hb : Below W.heap.size W W') => checkM_any L A c T B l.length d W' (by omega) (by omega) hLc hS (hG W' hb).1
  have hsd := fun (h1 : L.length ≤ 32768) (h2 : l.length ≤ 16384) A2 c2 B2 d2 (h3 : L.length ≤ c2) W' (h : LT W' W'.heap.size A2 L) => SidesJ_any L A2 c2 T B2 l.length d2 W' (by omega) (by omega) h3 hS h
  have hpo := fun (h1 : L.length ≤ 32768) (h2 : l.length ≤ 16384) A2 c2 B2 d2 (h3 : L.length ≤ c2) W' (h : LT W' W'.heap.size A2 L) => Possible_j L A2 c2 T B2 l.length d2 bq W' (by omega) (by omega) h3 hS h hbl0 hbl1
  have hmo := fun (h1 : L.length ≤ 32768) (h2 : l.length ≤ 16384) A2 c2 B2 d2 (h3 : L.length ≤ c2) W' (h : LT W' W'.heap.size A2 L) hB2 => ModsJ_any L A2 c2 T B2 l d2 W' (by omega) (by omega) h3 hS h hB2 (fun s hs => by have := hok s hs; simp only [maxLen]; omega)
  have hcs := fun (h3 : ob.length ≤ 16384) W' (hb : Below W.heap.size W W') => copySeenJ ob C cd W' (by omega) (hG W' hb).2.2
  have hse := fun (h1 : L.length ≤ 32768) (h2 : l.length ≤ 16384) (h5 : ob.length ≤ 16384) A2 c2 B2 d2 (h3 : L.length ≤ c2) C2 cd2 (h4 : ob.length ≤ cd2) W' (h : LT W' W'.heap.size A2 L) hC2 => Seen_j L A2 c2 T B2 l.length d2 ob C2 cd2 W' (by omega) (by omega) h3 hS h (by omega) h4 hC2 hobn
  have heq := fun (h1 : L.length ≤ 32768) (h2 : l.length ≤ 16384) A2 c2 B2 d2 W' (hb : Below W.heap.size W W') (h : LT W' W'.heap.size A2 L) hB2 => eqProgram_any L T l A2 A c2 c B2 B d2 d W' (by omega) (by omega) h (hG W' hb).1 hB2 (hG W' hb).2.1
  have hcl : (chkP L T l.length).1 = 0 → (chkP L T l.length).2 = laidL L ∧ ∀ c ∈ laidL L, Cst c ∧ c.n ≤ (l.length : Int) := fun h => by obtain ⟨h1, _, h2⟩ := chkP_ok h; exact ⟨h1, h2⟩
  have hsm := fun (h1 : L.length ≤ 32768) (h2 : l.length ≤ 16384) (hcs : ∀ c ∈ laidL L, Cst c ∧ c.n ≤ (l.length : Int)) W' (hb : Below W.heap.size W W') => sidesM_any L A c T B l.length d W' (by omega) (by omega) hLc (hG W' hb).1 hcs
  have hpm := fun (h1 : L.length ≤ 32768) (h2 : l.length ≤ 16384) (hcs : ∀ c ∈ laidL L, Cst c ∧ c.n ≤ (l.length : Int)) W' (hb : Below W.heap.size W W') => possM_any L A c T B l.length d bq W' (by omega) (by omega) hLc (hG W' hb).1 hcs hbl0 hbl1
  have hmm := fun (h1 : L.length ≤ 32768) (h2 : l.length ≤ 16384) (hcs : ∀ c ∈ laidL L, Cst c ∧ c.n ≤ (l.length : Int)) W' (hb : Below W.heap.size W W') => modsM_any L A c T B l d W' (by omega) (by omega) hLc hld (hG W' hb).1 (hG W' hb).2.1 hcs
  have hsem := fun (h1 : L.length ≤ 32768) (h2 : l.length ≤ 16384) (h5 : ob.length ≤ 16384) (hcs : ∀ c ∈ laidL L, Cst c ∧ c.n ≤ (l.length : Int)) W' (hb : Below W.heap.size W W') => SeenM_any L A c T B l.length d ob C cd W' (by omega) (by omega) hLc (hG W' hb).1 hcs (by omega) hoc (hG W' hb).2.2 hobn
  have hmk := fun (hcs : ∀ c ∈ laidL L, Cst c ∧ c.n ≤ (l.length : Int)) => modK_in (l := l) (N := l.length) (bl := blL (laidL L)) (blL_in hcs)
  have hml := modK_len l (sidesL l.length (blL (laidL L))) l.length
  have hsl := sides_len l.length (blL (laidL L))
  have HMU := Lib.hid hmu
  have HCP := Lib.hid hcp
  have HCK := Lib.hid hck
  have HSD := Lib.hid hsd
  have HPO := Lib.hid hpo
  have HMO := Lib.hid hmo
  have HCS := Lib.hid hcs
  have HSE := Lib.hid hse
  have HEQ := Lib.hid heq
  have HCL := Lib.hid hcl
  have HSM := Lib.hid hsm
  have HPM := Lib.hid hpm
  have HMM := Lib.hid hmm
  have HSEM := Lib.hid hsem
  have HMK := Lib.hid (And.intro hmk (And.intro hml hsl))
  have HWK := Lib.hid works_any
  unfold PrgAt at HCP
  unfold SidesQ at HSD
  unfold ModsQ at HMO
  clear hmu hcp hG hck hsd hpo hmo hcs hse heq hcl hsm hpm hmm hsem hmk hml hsl hA hB hC hS hok hLc hld hoc hbl0 hbl1 hobn
  generalize chkP L T l.length = R at *
  generalize laidL L = cl at *
  generalize hNe : l.length = N at *
  generalize hn : L.length = n at *
  generalize hM : ob.length = M at *
  have HN := Lib.hid (And.intro hn (And.intro hNe hM))
  clear hn hNe hM
  go_enter Tryz.func3, Tryz.ntmps3
  go_wp2_with fail
  obtain ⟨W0, hW0⟩ : ∃ W0, W.alloc (.cells #[.slice A n c, .string T, .slice B N d] 25) = W0 := ⟨_, rfl⟩
  have hbx : Blk W0 W.heap.size 25 #[.slice A n c, .string T, .slice B N d] := by rw [← hW0]; exact Blk.new _ _ _
  have hbw : Below W.heap.size W W0 := by rw [← hW0]; exact bal b0 _
  rw [hW0]
  have h1 := HMU.out W0 hbw
  clear hW0
  have H0 := Lib.hid (And.intro hbx hbw)
  clear hbx hbw
  (refine h1.mono ?_); rintro e w1 ⟨⟨v, rfl, hv⟩, hb1⟩
  have hbx1 := H0.out.1.below hb1 H0.out.1.lt
  have hbw1 := bl H0.out.2 hb1
  have H1 := Lib.hid (And.intro hbx1 hbw1)
  clear hb1 h1 hbx1 hbw1 HMU H0
  cases v
  rotate_left
  · clear hv
    go_wp2_with fail
    (refine (HWK.out _).mono ?_); rintro e w2 ⟨rfl, hb2⟩
    have HB2 := Lib.hid (bl H1.out.2 hb2)
    clear hb2
    go_wp2_with fail
    go_ret
    exact ⟨rfl, HB2.out⟩
  obtain ⟨hn1, hn2⟩ := hv rfl
  clear hv
  by_cases hm : M ≤ 16384
  rotate_left
  · have e1 : decide ((16384 : Int) < (M : Int)) = true := by simp; omega
    clear hm
    go_wp2_with fail
    (refine (HWK.out _).mono ?_); rintro e w2 ⟨rfl, hb2⟩
    have HB2 := Lib.hid (bl H1.out.2 hb2)
    clear hb2
    go_wp2_with fail
    go_ret
    exact ⟨rfl, HB2.out⟩
  have e1 : decide ((16384 : Int) < (M : Int)) = false := by simp; omega
  have c0 : w1.cell? ⟨W.heap.size, 0, none⟩ = some (.slice A n c) := (H1.out.1.cell 0).trans rfl
  have c1 : w1.cell? ⟨W.heap.size, 1, none⟩ = some (.string T) := (H1.out.1.cell 1).trans rfl
  have c2 : w1.cell? ⟨W.heap.size, 2, none⟩ = some (.slice B N d) := (H1.out.1.cell 2).trans rfl
  have h2 := HCP.out hn1 hn2 w1 H1.out.2
  go_wp2_with fail
  (refine h2.mono ?_); rintro e w2 ⟨v, rfl, ⟨A2, q2, B2, d2, rfl, hq2, hs2, ht2⟩, hb2⟩
  have hlt2 := lt_of_sl HN.out.1 hs2
  obtain ⟨g, hg⟩ : ∃ g, w2.heap.size = g := ⟨_, rfl⟩
  obtain ⟨w3, hw3⟩ : ∃ w3, w2.alloc (.cells #[.slice A2 n q2, .string T, .slice B2 N d2] 25) = w3 := ⟨_, rfl⟩
  have hb23 : Below w2.heap.size w2 w3 := by rw [← hw3]; exact bal b0 _
  have hbx3 := H1.out.1.below (bl hb2 hb23) H1.out.1.lt
  have hbw3 := bl (bl H1.out.2 hb2) hb23
  have hby3 : Blk w3 g 25 #[.slice A2 n q2, .string T, .slice B2 N d2] := by rw [← hw3, ← hg]; exact Blk.new _ _ _
  have HI := Lib.hid (show ∀ W', Below w3.heap.size w3 W' → (Below W.heap.size W W' ∧ LT W' W'.heap.size A2 L ∧ Sl W' W'.heap.size 5 B2 N (cells l) ∧ W'.cell? ⟨W.heap.size, 0, none⟩ = some (.slice A n c) ∧ W'.cell? ⟨W.heap.size, 1, none⟩ = some (.string T) ∧ W'.cell? ⟨W.heap.size, 2, none⟩ = some (.slice B N d) ∧ W'.cell? ⟨g, 0, none⟩ = some (.slice A2 n q2) ∧ W'.cell? ⟨g, 1, none⟩ = some (.string T) ∧ W'.cell? ⟨g, 2, none⟩ = some (.slice B2 N d2)) from fun W' h => by
    have hx := hbx3.below h hbx3.lt
    have hy := hby3.below h hby3.lt
    have hb' := bl hb23 h
    exact ⟨bl hbw3 h, lt_at hlt2 hb', (ht2.below hb').more hb'.size, (hx.cell 0).trans rfl, (hx.cell 1).trans rfl, (hx.cell 2).trans rfl, (hy.cell 0).trans rfl, (hy.cell 1).trans rfl, (hy.cell 2).trans rfl⟩)
  have HG := Lib.hid (And.intro hg hw3)
  have HQ := Lib.hid hq2
  clear h2 hs2 ht2 hb2 hlt2 hg hw3 hb23 hbx3 hbw3 hby3 c0 c1 c2 hq2 H1 HCP
  go_upto_region 4 with fail
  simp only [HG.out.1]
  rw [HG.out.2]
  obtain ⟨hW3, _, _, c0, c1, c2, d0, d1, d2'⟩ := HI.out w3 (Below.refl _ _)
  have HC4 := Lib.hid (HCK.out hn1 hn2 w3 hW3)
  clear hW3 d0 d1 d2'
  go_wp2_with fail
  (refine HC4.out.mono ?_); rintro e w4 ⟨rfl, hb4⟩
  have HB4 := Lib.hid hb4
  clear hb4 c0 c1 c2 HC4 HCK
  by_cases hE : R.1 = 0
  rotate_left
  · simp only [if_neg hE] at HSD HMO
    have hp1 : possJ R N bq = (false, R.1) := by unfold possJ; rw [if_neg hE]
    have hs1 : seenV R N ob = (0, R.1) := by unfold seenV; rw [if_neg hE]
    simp only [hp1] at HPO
    simp only [hs1] at HSE
    have e2 : (R.1 != 0) = true := by simpa using hE
    obtain ⟨E, hEe⟩ : ∃ E, R.1 = E := ⟨_, rfl⟩
    rw [hEe] at HSD HPO HMO HSE e2
    simp only [hEe]
    unfold possV at HPO
    clear hp1 hs1 hE hEe HCL HSM HPM HMM HSEM HMK
    obtain ⟨hWx, hLx, hSx, c0, c1, c2, d0, d1, d2'⟩ := HI.out w4 HB4.out
    have HC5 := Lib.hid (HSD.out hn1 hn2 A2 q2 B2 d2 HQ.out w4 hLx)
    clear hWx hLx hSx
    go_wp2_with fail
    (refine HC5.out.mono ?_); rintro e w5 ⟨hb5, rfl⟩
    have HB5 := Lib.hid (bl HB4.out hb5)
    clear hb5 c0 c1 c2 d0 d1 d2' HC5
    obtain ⟨hWx, hLx, hSx, c0, c1, c2, d0, d1, d2'⟩ := HI.out w5 HB5.out
    have HC6 := Lib.hid (HPO.out hn1 hn2 A2 q2 B2 d2 HQ.out w5 hLx)
    clear hWx hLx hSx
    go_wp2_with fail
    (refine HC6.out.mono ?_); rintro e w6 ⟨rfl, hb6⟩
    have HB6 := Lib.hid (bl HB5.out hb6)
    clear hb6 c0 c1 c2 d0 d1 d2' HC6
    obtain ⟨hWx, hLx, hSx, c0, c1, c2, d0, d1, d2'⟩ := HI.out w6 HB6.out
    have HC7 := Lib.hid (HMO.out hn1 hn2 A2 q2 B2 d2 HQ.out w6 hLx hSx)
    clear hWx hLx hSx
    go_wp2_with fail
    (refine HC7.out.mono ?_); rintro e w7 ⟨hb7, rfl⟩
    have HB7 := Lib.hid (bl HB6.out hb7)
    clear hb7 c0 c1 c2 d0 d1 d2' HC7
    have HCS9 := Lib.hid (HCS.out hm w7 (HI.out w7 HB7.out).1)
    have HI9 := Lib.hid (show ∀ W', Below w7.heap.size w7 W' → (Below w7.heap.size w7 W' ∧ W'.cell? ⟨g, 0, none⟩ = some (.slice A2 n q2) ∧ W'.cell? ⟨g, 1, none⟩ = some (.string T) ∧ W'.cell? ⟨g, 2, none⟩ = some (.slice B2 N d2)) from fun W' h => by
      obtain ⟨_, _, _, _, _, _, d0, d1, d2'⟩ := HI.out W' (bl HB7.out h)
      exact ⟨h, d0, d1, d2'⟩)
    have HSE9 := Lib.hid (show ∀ W' C2 cd2, Below w7.heap.size w7 W' → M ≤ cd2 → Sl W' W'.heap.size 3 C2 M (obs ob) → _ from fun W' C2 cd2 h h4 hC2 => HSE.out hn1 hn2 hm A2 q2 B2 d2 HQ.out C2 cd2 h4 W' (HI.out W' (bl HB7.out h)).2.1 hC2)
    go_upto_region 8 with fail
    refine wp_region_held_drew (S := (fun W' => (Below w7.heap.size w7 W' ∧ W'.cell? ⟨g, 0, none⟩ = some (.slice A2 n q2) ∧ W'.cell? ⟨g, 1, none⟩ = some (.string T) ∧ W'.cell? ⟨g, 2, none⟩ = some (.slice B2 N d2)))) (by kernel_rfl) ?ss1 (fun hHeld => ?rr1)
    case ss1 => (try dsimp only); exact HI9.out _ (Below.refl _ _).drew
    refine rgt 0 50 rfl rfl hHeld ?_
    try simp only [Act.put, rg1, rg2, rg3]
    refine rgt 1 51 rfl rfl hHeld ?_
    try simp only [Act.put, rg1, rg2, rg3]
    refine rgc 2 (some 52) rfl (fun K hK => ?_)
    go_simp
    ((refine (HCS.out hm _ (HI.out _ (bl HB7.out hHeld.1)).1).mono ?_); rintro e wa ⟨C3, cd3, rfl, hcd3, hs3, hb3⟩)
    refine hK.out _ _ ?ss4 (fun hHeld2 => ?rr4)
    case ss4 => (try dsimp only); exact HI9.out _ (bl hHeld.1 hb3)
    clear hK K
    clear hHeld
    have hHeld := hHeld2
    clear hHeld2
    try simp only [Act.put, rg1, rg2, rg3]
    refine rgc 3 (some 53) rfl (fun K hK => ?_)
    go_simp
    ((refine (HSE9.out _ C3 cd3 hHeld.1 hcd3 hs3).mono ?_); rintro e w9 ⟨rfl, hbb⟩; skip)
    refine hK.out _ _ ?ss5 (fun hHeld2 => ?rr5)
    case ss5 => (try dsimp only); exact HI9.out _ (bl hHeld.1 hbb)
    clear hK K
    clear hHeld
    have hHeld := hHeld2
    clear hHeld2
    try simp only [Act.put, rg1, rg2, rg3]
    refine rgt 4 49 rfl rfl hHeld ?_
    try simp only [Act.put, rg1, rg2, rg3]
    refine rgt 5 54 rfl rfl hHeld ?_
    try simp only [Act.put, rg1, rg2, rg3]
    refine rgt 7 15 rfl rfl hHeld ?_
    try simp only [Act.put, rg1, rg2, rg3]
    refine rgt 6 55 rfl rfl hHeld ?_
    try simp only [Act.put, rg1, rg2, rg3]
    refine rgt 8 16 rfl rfl hHeld ?_
    try simp only [Act.put, rg1, rg2, rg3]
    refine wpAnyH_done (by kernel_rfl) ?_ _
    have HB9 := Lib.hid (bl HB7.out hHeld.1)
    clear hHeld hs3 hb3 hbb hcd3 HI9 HSE9 HCS9
    obtain ⟨hWx, hLx, hSx, c0, c1, c2, d0, d1, d2'⟩ := HI.out w9 HB9.out
    have HC10 := Lib.hid (HEQ.out hn1 hn2 A2 q2 B2 d2 w9 hWx hLx hSx)
    clear hWx hLx hSx
    go_wp2_with fail
    (refine HC10.out.mono ?_); rintro e w10 ⟨rfl, hb10⟩
    have HB10 := Lib.hid (bl HB9.out hb10)
    clear hb10 c0 c1 c2 d0 d1 d2' HC10
    go_wp2_with fail
    (refine (HWK.out _).mono ?_); rintro e w11 ⟨rfl, hb11⟩
    have HB11 := Lib.hid (bl HB10.out hb11)
    clear hb11
    go_wp2_with fail
    go_ret
    exact ⟨rfl, (HI.out _ HB11.out).1⟩
  simp only [if_pos hE] at HSD HMO
  obtain ⟨hR2, hcst⟩ := HCL.out hE
  have hp1 : possJ R N bq = possR (sidesL N (blL R.2)) bq := by unfold possJ; rw [if_pos hE]
  have hs1 : seenV R N ob = (seenK (sidesL N (blL R.2)) ob 0, 0) := by unfold seenV; rw [if_pos hE]
  simp only [hp1] at HPO
  simp only [hs1] at HSE
  simp only [hR2] at HSD HPO HMO HSE
  rw [hE]
  have HSM2 := Lib.hid (HSM.out hn1 hn2 hcst)
  have HPM2 := Lib.hid (HPM.out hn1 hn2 hcst)
  have HMM2 := Lib.hid (HMM.out hn1 hn2 hcst)
  have HSEM2 := Lib.hid (HSEM.out hn1 hn2 hm hcst)
  have HMK2 := Lib.hid (And.intro (HMK.out.1 hcst) HMK.out.2)
  clear hp1 hs1 hE hR2 hcst HCL HSM HPM HMM HSEM HMK
  obtain ⟨bs, hbs⟩ : ∃ bs, blL cl = bs := ⟨_, rfl⟩
  rw [hbs] at HSD HPO HMO HSE HSM2 HPM2 HMM2 HSEM2 HMK2
  obtain ⟨sd, hsd⟩ : ∃ sd, sidesL N bs = sd := ⟨_, rfl⟩
  rw [hsd] at HSD HPO HSE HSM2 HPM2 HMM2 HSEM2 HMK2
  obtain ⟨⟨pp, pe⟩, hpp⟩ : ∃ p, possR sd bq = p := ⟨_, rfl⟩
  rw [hpp] at HPO HPM2
  obtain ⟨sk, hsk⟩ : ∃ sk, seenK sd ob 0 = sk := ⟨_, rfl⟩
  rw [hsk] at HSE HSEM2
  unfold possV at HPO HPM2
  simp only at HPO HPM2 HSE
  clear hbs hsd hpp hsk
  obtain ⟨hWx, hLx, hSx, c0, c1, c2, d0, d1, d2'⟩ := HI.out w4 HB4.out
  have HC5 := Lib.hid (HSD.out hn1 hn2 A2 q2 B2 d2 HQ.out w4 hLx)
  clear hWx hLx hSx
  go_wp2_with fail
  (refine HC5.out.mono ?_); rintro e w5 ⟨hb5, vs, rfl, hvs⟩
  have HB5 := Lib.hid (bl HB4.out hb5)
  clear hb5 c0 c1 c2 d0 d1 d2' HC5
  obtain ⟨As, cs, rfl, hvs1, _⟩ := own_shape hvs
  have HVS := Lib.hid hvs
  clear hvs
  obtain ⟨hWx, hLx, hSx, c0, c1, c2, d0, d1, d2'⟩ := HI.out w5 HB5.out
  have HC6 := Lib.hid (HPO.out hn1 hn2 A2 q2 B2 d2 HQ.out w5 hLx)
  clear hWx hLx hSx
  go_wp2_with fail
  (refine HC6.out.mono ?_); rintro e w6 ⟨rfl, hb6⟩
  have HB6 := Lib.hid (bl HB5.out hb6)
  have HD5_6 := Lib.hid (hb6)
  clear hb6 c0 c1 c2 d0 d1 d2' HC6
  obtain ⟨hWx, hLx, hSx, c0, c1, c2, d0, d1, d2'⟩ := HI.out w6 HB6.out
  have HC7 := Lib.hid (HMO.out hn1 hn2 A2 q2 B2 d2 HQ.out w6 hLx hSx)
  clear hWx hLx hSx
  go_wp2_with fail
  (refine HC7.out.mono ?_); rintro e w7 ⟨hb7, vm, ms, rfl, hvm, hms⟩
  have HB7 := Lib.hid (bl HB6.out hb7)
  have HD5_7 := Lib.hid (bl HD5_6.out hb7)
  clear hb7 c0 c1 c2 d0 d1 d2' HC7
  have hme := modsIn_uniq hms HMK2.out.1
  subst hme
  obtain ⟨ms, hms2⟩ : ∃ ms, modK l sd N = ms := ⟨_, rfl⟩
  rw [hms2] at hvm HMM2 HMK2
  obtain ⟨Am, cm, rfl, hvm1, _⟩ := own_shape hvm
  have HVM := Lib.hid hvm
  have hmsl := HMK2.out.2.1
  obtain ⟨K, hK⟩ : ∃ K, ms.length = K := ⟨_, rfl⟩
  rw [hK] at hvm1 hmsl HVM HMM2 ⊢
  have HKK := Lib.hid hK
  clear hvm hms hms2 hK
  have HCS9 := Lib.hid (HCS.out hm w7 (HI.out w7 HB7.out).1)
  have HI9 := Lib.hid (show ∀ W', Below w7.heap.size w7 W' → (Below w7.heap.size w7 W' ∧ W'.cell? ⟨g, 0, none⟩ = some (.slice A2 n q2) ∧ W'.cell? ⟨g, 1, none⟩ = some (.string T) ∧ W'.cell? ⟨g, 2, none⟩ = some (.slice B2 N d2)) from fun W' h => by
    obtain ⟨_, _, _, _, _, _, d0, d1, d2'⟩ := HI.out W' (bl HB7.out h)
    exact ⟨h, d0, d1, d2'⟩)
  have HSE9 := Lib.hid (show ∀ W' C2 cd2, Below w7.heap.size w7 W' → M ≤ cd2 → Sl W' W'.heap.size 3 C2 M (obs ob) → _ from fun W' C2 cd2 h h4 hC2 => HSE.out hn1 hn2 hm A2 q2 B2 d2 HQ.out C2 cd2 h4 W' (HI.out W' (bl HB7.out h)).2.1 hC2)
  go_upto_region 8 with fail
  refine wp_region_held_drew (S := (fun W' => (Below w7.heap.size w7 W' ∧ W'.cell? ⟨g, 0, none⟩ = some (.slice A2 n q2) ∧ W'.cell? ⟨g, 1, none⟩ = some (.string T) ∧ W'.cell? ⟨g, 2, none⟩ = some (.slice B2 N d2)))) (by kernel_rfl) ?ss11 (fun hHeld => ?rr11)
  case ss11 => (try dsimp only); exact HI9.out _ (Below.refl _ _).drew
  refine rgt 0 50 rfl rfl hHeld ?_
  try simp only [Act.put, rg1, rg2, rg3]
  refine rgt 1 51 rfl rfl hHeld ?_
  try simp only [Act.put, rg1, rg2, rg3]
  refine rgc 2 (some 52) rfl (fun K hK => ?_)
  go_simp
  ((refine (HCS.out hm _ (HI.out _ (bl HB7.out hHeld.1)).1).mono ?_); rintro e wa ⟨C3, cd3, rfl, hcd3, hs3, hb3⟩)
  refine hK.out _ _ ?ss14 (fun hHeld2 => ?rr14)
  case ss14 => (try dsimp only); exact HI9.out _ (bl hHeld.1 hb3)
  clear hK K
  clear hHeld
  have hHeld := hHeld2
  clear hHeld2
  try simp only [Act.put, rg1, rg2, rg3]
  refine rgc 3 (some 53) rfl (fun K hK => ?_)
  go_simp
  ((refine (HSE9.out _ C3 cd3 hHeld.1 hcd3 hs3).mono ?_); rintro e w9 ⟨rfl, hbb⟩; simp only)
  refine hK.out _ _ ?ss15 (fun hHeld2 => ?rr15)
  case ss15 => (try dsimp only); exact HI9.out _ (bl hHeld.1 hbb)
  clear hK K
  clear hHeld
  have hHeld := hHeld2
  clear hHeld2
  try simp only [Act.put, rg1, rg2, rg3]
  refine rgt 4 49 rfl rfl hHeld ?_
  try simp only [Act.put, rg1, rg2, rg3]
  refine rgt 5 54 rfl rfl hHeld ?_
  try simp only [Act.put, rg1, rg2, rg3]
  refine rgt 7 15 rfl rfl hHeld ?_
  try simp only [Act.put, rg1, rg2, rg3]
  refine rgt 6 55 rfl rfl hHeld ?_
  try simp only [Act.put, rg1, rg2, rg3]
  refine rgt 8 16 rfl rfl hHeld ?_
  try simp only [Act.put, rg1, rg2, rg3]
  refine wpAnyH_done (by kernel_rfl) ?_ _
  have HB9 := Lib.hid (bl HB7.out hHeld.1)
  have HD5_9 := Lib.hid (bl HD5_7.out hHeld.1)
  have HD7_9 := Lib.hid (hHeld.1)
  clear hHeld hs3 hb3 hbb hcd3 HI9 HSE9 HCS9
  obtain ⟨hWx, hLx, hSx, c0, c1, c2, d0, d1, d2'⟩ := HI.out w9 HB9.out
  have HC10 := Lib.hid (HEQ.out hn1 hn2 A2 q2 B2 d2 w9 hWx hLx hSx)
  clear hWx hLx hSx
  go_wp2_with fail
  (refine HC10.out.mono ?_); rintro e w10 ⟨rfl, hb10⟩
  have HB10 := Lib.hid (bl HB9.out hb10)
  have HD5_10 := Lib.hid (bl HD5_9.out hb10)
  have HD7_10 := Lib.hid (bl HD7_9.out hb10)
  clear hb10 c0 c1 c2 d0 d1 d2' HC10
  obtain ⟨hWx, _, _, c0, c1, c2, d0, d1, d2'⟩ := HI.out w10 HB10.out
  have HC11 := Lib.hid (HSM2.out w10 hWx)
  clear hWx d0 d1 d2'
  go_wp2_with fail
  (refine HC11.out.mono ?_); rintro e w11 ⟨hb11, vt, rfl, hvt⟩
  have HB11 := Lib.hid (bl HB10.out hb11)
  have HD5_11 := Lib.hid (bl HD5_10.out hb11)
  have HD7_11 := Lib.hid (bl HD7_10.out hb11)
  clear hb11 c0 c1 c2 HC11
  obtain ⟨At, ct, rfl, hvt1, _⟩ := own_shape hvt
  have HVS2 := Lib.hid (own_below HVS.out HD5_11.out)
  have HVT := Lib.hid hvt
  have hsdl := HMK2.out.2.2
  have HSDL := Lib.hid hsdl
  clear hvt HVS hsdl
  go_wp2_with fail
  go_loopg [18] N (fun q i wr => ∃ k : Nat, k ≤ N ∧ q = N - k ∧ i = .int .i64 k ∧ ∃ j, wr = w11.drewN j)
  case atStart => exact ⟨0, by omega, rfl, rfl, 0, rfl⟩
  case round =>
    obtain ⟨k, hk, rfl, rfl, j, rfl⟩ := hrel
    by_cases hlt : k < N
    · obtain ⟨x, hx⟩ : ∃ x, sd[k]? = some x := ⟨_, List.getElem?_eq_getElem (by rw [HSDL.out]; exact hlt)⟩
      obtain ⟨gs, rfl, _, hgl, g1, g2⟩ := sd_cells HVS2.out hlt hx
      obtain ⟨gt, rfl, _, htl, t1, t2⟩ := sd_cells HVT.out hlt hx
      obtain ⟨x1, x2⟩ := x
      simp only at g1 g2 t1 t2
      clear hx
      cases x1 <;> cases x2
      all_goals
        go_wp2_with fail
        go_quiet (fail)
        go_wp2_with fail
        go_roundg (N - (k + 1))
        case measure => omega
        case rel => exact ⟨k + 1, by omega, rfl, by go_num, _, rfl⟩
    · obtain rfl : k = N := by omega
      have HB11j := Lib.hid (below_drewN HB11.out j)
      have HD7_11j := Lib.hid (below_drewN HD7_11.out j)
      obtain ⟨w12, hw12⟩ : ∃ w12, w11.drewN j = w12 := ⟨_, rfl⟩
      rw [hw12] at HB11j HD7_11j ⊢
      clear hw12
      obtain ⟨hWx, _, _, c0, c1, c2, d0, d1, d2'⟩ := HI.out w12 HB11j.out
      have HC13 := Lib.hid (HPM2.out w12 hWx)
      clear hWx d0 d1 d2'
      go_wp2_with fail
      (refine HC13.out.mono ?_); rintro e w13 ⟨rfl, hb13⟩
      have HB13 := Lib.hid (bl HB11j.out hb13)
      have HD7_13 := Lib.hid (bl HD7_11j.out hb13)
      clear hb13 c0 c1 c2 HC13
      obtain ⟨hWx, _, _, c0, c1, c2, d0, d1, d2'⟩ := HI.out w13 HB13.out
      have HC14 := Lib.hid (HMM2.out w13 hWx)
      clear hWx d0 d1 d2'
      go_wp2_with fail
      (refine HC14.out.mono ?_); rintro e w14 ⟨⟨vq, rfl, hvq⟩, hb14⟩
      have HB14 := Lib.hid (bl HB13.out hb14)
      have HD7_14 := Lib.hid (bl HD7_13.out hb14)
      clear hb14 c0 c1 c2 HC14
      obtain ⟨Aq, cq, rfl, hvq1, _⟩ := own_shape hvq
      have HE14 := Lib.hid (eqTexts_any ms Am Aq cm cq w14 (by rw [HKK.out]; omega) (by rw [HKK.out]; exact sl_own (own_below HVM.out HD7_14.out)) (by rw [HKK.out]; exact sl_own hvq))
      rw [HKK.out] at HE14
      clear hvq
      go_wp2_with fail
      (refine HE14.out.mono ?_); rintro e w15 ⟨rfl, hb15⟩
      have HB15 := Lib.hid (bl HB14.out hb15)
      clear hb15 HE14
      obtain ⟨hWx, _, _, c0, c1, c2, d0, d1, d2'⟩ := HI.out w15 HB15.out
      have HC16 := Lib.hid (HSEM2.out w15 hWx)
      clear hWx d0 d1 d2'
      go_wp2_with fail
      (refine HC16.out.mono ?_); rintro e w16 ⟨rfl, hb16⟩
      have HB16 := Lib.hid (bl HB15.out hb16)
      clear hb16 c0 c1 c2 HC16
      go_wp2_with fail
      (refine (HWK.out _).mono ?_); rintro e w17 ⟨rfl, hb17⟩
      have HB17 := Lib.hid (bl HB16.out hb17)
      clear hb17
      go_wp2_with fail
      go_ret
      exact ⟨rfl, (HI.out _ HB17.out).1⟩
end Go.Proofs.YtmagljnlfponaaaGreat.R

/- SitesIn -/
namespace Go.Proofs.YtmagljnlfponaaaGreat.La
open Go.RowKit Go.Proofs.YtmagljnlfponaaaGreat.B Go.ChangeShapes Go.WideShapes Go.Deep

theorem weightsAll_mem {H : Type} {P : Program} {e : TypeId} {d : DataW H} {n : Nat} : ∀ {ds : List (DataW H)}, d ∈ ds → n ∈ d.weights P e → n ∈ DataW.weightsAll P e ds
  | [], h, _ => by simp at h
  | x :: r, h, hn => by
    simp only [DataW.weightsAll, List.mem_append]
    rcases List.mem_cons.1 h with rfl | h
    · exact .inl hn
    · exact .inr (weightsAll_mem h hn)

theorem take_one {cs : List Value} {n j : Nat} (hl : cs.length = n) (hj : j < n) : (cs.drop j).take 1 = [cs[j]'(by omega)] := by
  rw [List.drop_eq_getElem_cons (by omega)]; rfl

section
variable {H : Type} {enc : TypeId × Value → H} {W : World}

set_option maxRecDepth 100000 in
/-- One site's cells, as read. -/
theorem open_site {fuel : Nat} {cs : List Value} {x : DataW H × List MemPlace} {base : Nat} {spare : Nat → Bool} {held : Bool}
    (h : DataW.trod enc Tryz.prog W base spare held fuel 62 cs = some x) :
    ∃ s : Site, cs = s.vs ∧ s.ok ∧ s.mo.size ∈ x.1.weights Tryz.prog 62 ∧ s.ex.size ∈ x.1.weights Tryz.prog 62 := by
  obtain ⟨ys, n, _, hx, hlen, hyl, hf⟩ := DataW.trod_struct Tryz.underlying62 h
  have hl5 : cs.length = 5 := hlen.trans (by kernel_rfl)
  have c9 : Tryz.prog.cellsOf 9 = 1 := by kernel_rfl
  have c3 : Tryz.prog.cellsOf 3 = 1 := by kernel_rfl
  have c29 : Tryz.prog.cellsOf 58 = 2 := by kernel_rfl
  match cs, hl5, ys, hyl with
  | [a0, a1, a2, a3, a4], _, [y0, y1, y2, y3], _ =>
    have h0 : DataW.trod enc Tryz.prog W base spare held n 9 ((([a0, a1, a2, a3, a4] : List Value).drop 0).take (Tryz.prog.cellsOf 9)) = some y0 := hf 0 _ rfl
    have h1 : DataW.trod enc Tryz.prog W base spare held n 9 ((([a0, a1, a2, a3, a4] : List Value).drop 1).take (Tryz.prog.cellsOf 9)) = some y1 := hf 1 _ rfl
    have h2 : DataW.trod enc Tryz.prog W base spare held n 58 ((([a0, a1, a2, a3, a4] : List Value).drop 2).take (Tryz.prog.cellsOf 58)) = some y2 := hf 2 _ rfl
    have h3 : DataW.trod enc Tryz.prog W base spare held n 3 ((([a0, a1, a2, a3, a4] : List Value).drop 4).take (Tryz.prog.cellsOf 3)) = some y3 := hf 3 _ rfl
    rw [c9] at h0 h1
    rw [c29] at h2
    rw [c3] at h3
    obtain ⟨s0, e0, x0, m0⟩ := DataW.trod_string Tryz.underlying9 h0
    obtain ⟨s1, e1, x1, m1⟩ := DataW.trod_string Tryz.underlying9 h1
    obtain ⟨r, er, xr, wr⟩ := DataW.trod_int Tryz.underlying3 h3
    obtain ⟨zs, n', _, hz, _, hzl, hg⟩ := DataW.trod_struct Tryz.underlying58 h2
    match zs, hzl with
    | [z0, z1], _ =>
      have g0 : DataW.trod enc Tryz.prog W base spare held n' 3 (((([a0, a1, a2, a3, a4] : List Value).drop 2).take 2 |>.drop 0).take (Tryz.prog.cellsOf 3)) = some z0 := hg 0 _ rfl
      have g1 : DataW.trod enc Tryz.prog W base spare held n' 3 (((([a0, a1, a2, a3, a4] : List Value).drop 2).take 2 |>.drop 1).take (Tryz.prog.cellsOf 3)) = some z1 := hg 1 _ rfl
      rw [c3] at g0 g1
      obtain ⟨li, el, xl, wl⟩ := DataW.trod_int Tryz.underlying3 g0
      obtain ⟨co, ec, xc, wc⟩ := DataW.trod_int Tryz.underlying3 g1
      simp only [List.drop_zero, List.drop_succ_cons, List.take_succ_cons, List.take_zero, List.cons.injEq, and_true] at e0 e1 er el ec
      subst e0 e1 er el ec
      have br := bounds_i64 wr
      have bl := bounds_i64 wl
      have bc := bounds_i64 wc
      refine ⟨⟨s0, s1, li, co, r⟩, rfl, ⟨m0, m1, bl.1, bl.2, bc.1, bc.2, br.1, br.2⟩, ?_, ?_⟩
      · rw [hx]
        unfold DataW.weights
        rw [Tryz.underlying62]
        exact DataW.weights_mem_each (j := 0) (t := 9) (d := y0.1) rfl rfl _ (by rw [x0]; exact List.mem_singleton.2 (by simp))
      · rw [hx]
        unfold DataW.weights
        rw [Tryz.underlying62]
        exact DataW.weights_mem_each (j := 1) (t := 9) (d := y1.1) rfl rfl _ (by rw [x1]; exact List.mem_singleton.2 (by simp))

theorem open_sites {fuel : Nat} {A : Option Addr} {len cap : Nat} {x : DataW H × List MemPlace}
    (h : DataW.trod enc Tryz.prog W 0 (fun _ => true) true fuel 23 [.slice A len cap] = some x) (hsz : ∀ n ∈ x.1.weights Tryz.prog 23, n ≤ reachBytes) :
    ∃ l : List Site, l.length = len ∧ Sl W W.heap.size 5 A len (cells l) ∧ (∀ s ∈ l, s.ok) ∧ (∀ s ∈ l, s.mo.size ≤ reachBytes ∧ s.ex.size ≤ reachBytes) ∧ len * 56 ≤ reachBytes ∧ len ≤ cap ∧ cap ≤ maxLen := by
  rcases open_slice Tryz.underlying23 h with ⟨hcs, hx⟩ | ⟨a, len', cap', m, n, D, Pl, hcs, _, hl, hm, hmm, hx, hi⟩
  · simp only [List.cons.injEq, Value.slice.injEq, and_true] at hcs
    obtain ⟨rfl, rfl, rfl⟩ := hcs
    exact ⟨[], rfl, Sl.nil _ _ _ _, by simp, by simp, by simp, Nat.le_refl _, by unfold maxLen; omega⟩
  · simp only [List.cons.injEq, Value.slice.injEq, and_true] at hcs
    obtain ⟨rfl, rfl, rfl⟩ := hcs
    have hle : len ≤ m := by rw [hmm]; simpa using hl
    have c31 : Tryz.prog.cellsOf 62 = 5 := by kernel_rfl
    have b31 : Tryz.prog.bytesOf 62 = 56 := by kernel_rfl
    have hx1 : x.1 = .slice ((List.range len).map D) ((List.range (m - len)).map fun j => D (len + j)) := by rw [hx]
    rw [hx1] at hsz
    simp only [DataW.weights, Tryz.underlying23, List.mem_cons, List.mem_append, b31, List.length_map, List.length_range] at hsz
    have hlen := hsz _ (.inl rfl)
    have key : ∀ i, i < len → ∃ s : Site, s.ok ∧ (s.mo.size ≤ reachBytes ∧ s.ex.size ≤ reachBytes) ∧ ∀ j, j < 5 → W.cell? (a.add (i * 5 + j)) = s.vs[j]? := by
      intro i hil
      obtain ⟨cs', hc, ht⟩ := hi i (by omega)
      rw [c31] at hc
      obtain ⟨_, hcl, hat⟩ := World.cells?_some hc
      obtain ⟨s, rfl, hok, w0, w1⟩ := open_site ht
      have hd : D i ∈ (List.range len).map D := List.mem_map.2 ⟨i, List.mem_range.2 hil, rfl⟩
      refine ⟨s, hok, ⟨hsz _ (.inr (.inl (weightsAll_mem hd w0))), hsz _ (.inr (.inl (weightsAll_mem hd w1)))⟩, fun j hj => ?_⟩
      rw [← Go.Deep.add_add, hat j hj]
    have : Inhabited Site := ⟨⟨⟨#[]⟩, ⟨#[]⟩, 0, 0, 0⟩⟩
    obtain ⟨f, hf⟩ := choose_lt key
    refine ⟨(List.range len).map f, by simp, ⟨by rw [cells_len]; simp, ?_⟩, ?_, ?_, by omega, hl, hm⟩
    · rcases Nat.eq_zero_or_pos len with h0 | h0
      · exact .inl h0
      · right
        obtain ⟨b, o, spot⟩ := a
        have hc0 : W.cell? ((⟨b, o, spot⟩ : Addr).add 0) = some (.string (f 0).mo) := (hf 0 h0).2.2 0 (by omega)
        have hspot : spot = none := by simpa [Addr.add] using World.cell?_spot hc0
        subst hspot
        refine ⟨b, o, rfl, by have := World.block_lt_of_cell? W _ hc0; simpa [Addr.add] using this, fun j u hu => ?_⟩
        have hjl : j < len * 5 := by
          have := (List.getElem?_eq_some_iff.1 hu).1
          rw [cells_len] at this; simpa using this
        have hk : j / 5 < len := by omega
        have := (hf (j / 5) hk).2.2 (j % 5) (by omega)
        rw [add_flat, show j / 5 * 5 + j % 5 = j by omega] at this
        rw [this, ← cells_at _ (j / 5) _ (j % 5) (by rw [List.getElem?_map, List.getElem?_range hk]; rfl) (by omega), show j / 5 * 5 + j % 5 = j by omega, hu]
    · intro s hs
      obtain ⟨i, hi, rfl⟩ := List.mem_map.1 hs
      exact (hf i (List.mem_range.1 hi)).1
    · intro s hs
      obtain ⟨i, hi, rfl⟩ := List.mem_map.1 hs
      exact (hf i (List.mem_range.1 hi)).2.1
end

end Go.Proofs.YtmagljnlfponaaaGreat.La

/- NodesIn -/
namespace Go.Proofs.YtmagljnlfponaaaGreat.K
open Go.RowKit Go.Proofs.YtmagljnlfponaaaGreat.B Go.ChangeShapes Go.WideShapes Go.Deep
set_option linter.unusedVariables false

section
variable {H : Type} {enc : TypeId × Value → H} {W : World}

/-- What came in fits. -/
structure Tn.ok (n : Tn) : Prop where
  k0 : -128 ≤ n.kd
  k1 : n.kd ≤ 127
  c0 : -9223372036854775808 ≤ n.kids
  c1 : n.kids ≤ 9223372036854775807
  n0 : -9223372036854775808 ≤ n.n
  n1 : n.n ≤ 9223372036854775807
set_option maxRecDepth 100000 in
theorem open_tn {fuel : Nat} {cs : List Value} {x : DataW H × List MemPlace} {base : Nat} {spare : Nat → Bool} {held : Bool}
    (h : DataW.trod enc Tryz.prog W base spare held fuel 60 cs = some x) :
    ∃ s : Tn, cs = s.vs ∧ s.ok ∧ s.s.size ∈ x.1.weights Tryz.prog 60 ∧ s.t.size ∈ x.1.weights Tryz.prog 60 ∧ s.u.size ∈ x.1.weights Tryz.prog 60 := by
  obtain ⟨ys, n, _, hx, hlen, hyl, hf⟩ := DataW.trod_struct Tryz.underlying60 h
  have hl8 : cs.length = 8 := hlen.trans (by kernel_rfl)
  have c_int8 : Tryz.prog.cellsOf 56 = 1 := by kernel_rfl
  have c_int : Tryz.prog.cellsOf 3 = 1 := by kernel_rfl
  have c_int64 : Tryz.prog.cellsOf 2 = 1 := by kernel_rfl
  have c_string : Tryz.prog.cellsOf 9 = 1 := by kernel_rfl
  have c_place : Tryz.prog.cellsOf 58 = 2 := by kernel_rfl
  match cs, hl8, ys, hyl with
  | [a0, a1, a2, a3, a4, a5, a6, a7], _, [y0, y1, y2, y3, y4, y5, y6], _ =>
    have h0 : DataW.trod enc Tryz.prog W base spare held n 56 ((([a0, a1, a2, a3, a4, a5, a6, a7] : List Value).drop 0).take (Tryz.prog.cellsOf 56)) = some y0 := hf 0 _ rfl
    rw [c_int8] at h0
    have h1 : DataW.trod enc Tryz.prog W base spare held n 3 ((([a0, a1, a2, a3, a4, a5, a6, a7] : List Value).drop 1).take (Tryz.prog.cellsOf 3)) = some y1 := hf 1 _ rfl
    rw [c_int] at h1
    have h2 : DataW.trod enc Tryz.prog W base spare held n 2 ((([a0, a1, a2, a3, a4, a5, a6, a7] : List Value).drop 2).take (Tryz.prog.cellsOf 2)) = some y2 := hf 2 _ rfl
    rw [c_int64] at h2
    have h3 : DataW.trod enc Tryz.prog W base spare held n 9 ((([a0, a1, a2, a3, a4, a5, a6, a7] : List Value).drop 3).take (Tryz.prog.cellsOf 9)) = some y3 := hf 3 _ rfl
    rw [c_string] at h3
    have h4 : DataW.trod enc Tryz.prog W base spare held n 9 ((([a0, a1, a2, a3, a4, a5, a6, a7] : List Value).drop 4).take (Tryz.prog.cellsOf 9)) = some y4 := hf 4 _ rfl
    rw [c_string] at h4
    have h5 : DataW.trod enc Tryz.prog W base spare held n 9 ((([a0, a1, a2, a3, a4, a5, a6, a7] : List Value).drop 5).take (Tryz.prog.cellsOf 9)) = some y5 := hf 5 _ rfl
    rw [c_string] at h5
    have h6 : DataW.trod enc Tryz.prog W base spare held n 58 ((([a0, a1, a2, a3, a4, a5, a6, a7] : List Value).drop 6).take (Tryz.prog.cellsOf 58)) = some y6 := hf 6 _ rfl
    rw [c_place] at h6
    obtain ⟨v0, e0, x0, w0⟩ := DataW.trod_int Tryz.underlying56 h0
    obtain ⟨v1, e1, x1, w1⟩ := DataW.trod_int Tryz.underlying3 h1
    obtain ⟨v2, e2, x2, w2⟩ := DataW.trod_int Tryz.underlying2 h2
    obtain ⟨v3, e3, x3, m3⟩ := DataW.trod_string Tryz.underlying9 h3
    obtain ⟨v4, e4, x4, m4⟩ := DataW.trod_string Tryz.underlying9 h4
    obtain ⟨v5, e5, x5, m5⟩ := DataW.trod_string Tryz.underlying9 h5
    obtain ⟨zs, n', _, hz, _, hzl, hg⟩ := DataW.trod_struct Tryz.underlying58 h6
    match zs, hzl with
    | [z0, z1], _ =>
      have g0 : DataW.trod enc Tryz.prog W base spare held n' 3 (((([a0, a1, a2, a3, a4, a5, a6, a7] : List Value).drop 6).take 2 |>.drop 0).take (Tryz.prog.cellsOf 3)) = some z0 := hg 0 _ rfl
      have g1 : DataW.trod enc Tryz.prog W base spare held n' 3 (((([a0, a1, a2, a3, a4, a5, a6, a7] : List Value).drop 6).take 2 |>.drop 1).take (Tryz.prog.cellsOf 3)) = some z1 := hg 1 _ rfl
      rw [c_int] at g0 g1
      obtain ⟨li, el, xl, wl⟩ := DataW.trod_int Tryz.underlying3 g0
      obtain ⟨co, ec, xc, wc⟩ := DataW.trod_int Tryz.underlying3 g1
      simp only [List.drop_zero, List.drop_succ_cons, List.take_succ_cons, List.take_zero, List.cons.injEq, and_true] at e0 e1 e2 e3 e4 e5 el ec
      subst e0 e1 e2 e3 e4 e5 el ec
      have b0 := bounds_i8 w0
      have b1 := bounds_i64 w1
      have b2 := bounds_i64 w2
      refine ⟨⟨v0, v1, v2, v3, v4, v5, li, co⟩, rfl, ⟨b0.1, b0.2, b1.1, b1.2, b2.1, b2.2⟩, ?_, ?_, ?_⟩
      · rw [hx]
        unfold DataW.weights
        rw [Tryz.underlying60]
        exact DataW.weights_mem_each (j := 3) (t := 9) (d := y3.1) rfl rfl _ (by rw [x3]; exact List.mem_singleton.2 (by simp))
      · rw [hx]
        unfold DataW.weights
        rw [Tryz.underlying60]
        exact DataW.weights_mem_each (j := 4) (t := 9) (d := y4.1) rfl rfl _ (by rw [x4]; exact List.mem_singleton.2 (by simp))
      · rw [hx]
        unfold DataW.weights
        rw [Tryz.underlying60]
        exact DataW.weights_mem_each (j := 5) (t := 9) (d := y5.1) rfl rfl _ (by rw [x5]; exact List.mem_singleton.2 (by simp))

theorem open_tns {fuel : Nat} {A : Option Addr} {len cap : Nat} {x : DataW H × List MemPlace}
    (h : DataW.trod enc Tryz.prog W 0 (fun _ => true) true fuel 22 [.slice A len cap] = some x) (hsz : ∀ n ∈ x.1.weights Tryz.prog 22, n ≤ reachBytes) :
    ∃ l : List Tn, l.length = len ∧ Sl W W.heap.size 8 A len (tns l) ∧ (∀ s ∈ l, s.ok) ∧ (∀ s ∈ l, s.s.size ≤ reachBytes ∧ s.t.size ≤ reachBytes ∧ s.u.size ≤ reachBytes) ∧ len * 88 ≤ reachBytes ∧ len ≤ cap ∧ cap ≤ maxLen := by
  rcases open_slice Tryz.underlying22 h with ⟨hcs, hx⟩ | ⟨a, len', cap', m, n, D, Pl, hcs, _, hl, hm, hmm, hx, hi⟩
  · simp only [List.cons.injEq, Value.slice.injEq, and_true] at hcs
    obtain ⟨rfl, rfl, rfl⟩ := hcs
    exact ⟨[], rfl, Sl.nil _ _ _ _, by simp, by simp, by simp, Nat.le_refl _, by unfold maxLen; omega⟩
  · simp only [List.cons.injEq, Value.slice.injEq, and_true] at hcs
    obtain ⟨rfl, rfl, rfl⟩ := hcs
    have hle : len ≤ m := by rw [hmm]; simpa using hl
    have c31 : Tryz.prog.cellsOf 60 = 8 := by kernel_rfl
    have b31 : Tryz.prog.bytesOf 60 = 88 := by kernel_rfl
    have hx1 : x.1 = .slice ((List.range len).map D) ((List.range (m - len)).map fun j => D (len + j)) := by rw [hx]
    rw [hx1] at hsz
    simp only [DataW.weights, Tryz.underlying22, List.mem_cons, List.mem_append, b31, List.length_map, List.length_range] at hsz
    have hlen := hsz _ (.inl rfl)
    have key : ∀ i, i < len → ∃ s : Tn, s.ok ∧ (s.s.size ≤ reachBytes ∧ s.t.size ≤ reachBytes ∧ s.u.size ≤ reachBytes) ∧ ∀ j, j < 8 → W.cell? (a.add (i * 8 + j)) = s.vs[j]? := by
      intro i hil
      obtain ⟨cs', hc, ht⟩ := hi i (by omega)
      rw [c31] at hc
      obtain ⟨_, hcl, hat⟩ := World.cells?_some hc
      obtain ⟨s, rfl, hok, w0, w1, w2⟩ := open_tn ht
      have hd : D i ∈ (List.range len).map D := List.mem_map.2 ⟨i, List.mem_range.2 hil, rfl⟩
      refine ⟨s, hok, ⟨hsz _ (.inr (.inl (La.weightsAll_mem hd w0))), hsz _ (.inr (.inl (La.weightsAll_mem hd w1))), hsz _ (.inr (.inl (La.weightsAll_mem hd w2)))⟩, fun j hj => ?_⟩
      rw [← Go.Deep.add_add, hat j hj]
    have : Inhabited Tn := ⟨⟨0, 0, 0, ⟨#[]⟩, ⟨#[]⟩, ⟨#[]⟩, 0, 0⟩⟩
    obtain ⟨f, hf⟩ := choose_lt key
    refine ⟨(List.range len).map f, by simp, ⟨by rw [tns_len]; simp, ?_⟩, ?_, ?_, by omega, hl, hm⟩
    · rcases Nat.eq_zero_or_pos len with h0 | h0
      · exact .inl h0
      · right
        obtain ⟨b, o, spot⟩ := a
        have hc0 : W.cell? ((⟨b, o, spot⟩ : Addr).add 0) = some (.int .i8 (f 0).kd) := (hf 0 h0).2.2 0 (by omega)
        have hspot : spot = none := by simpa [Addr.add] using World.cell?_spot hc0
        subst hspot
        refine ⟨b, o, rfl, by have := World.block_lt_of_cell? W _ hc0; simpa [Addr.add] using this, fun j u hu => ?_⟩
        have hjl : j < len * 8 := by
          have := (List.getElem?_eq_some_iff.1 hu).1
          rw [tns_len] at this; simpa using this
        have hk : j / 8 < len := by omega
        have := (hf (j / 8) hk).2.2 (j % 8) (by omega)
        rw [add_flat, show j / 8 * 8 + j % 8 = j by omega] at this
        rw [this, ← tns_at _ (j / 8) _ (j % 8) (by rw [List.getElem?_map, List.getElem?_range hk]; rfl) (by omega), show j / 8 * 8 + j % 8 = j by omega, hu]
    · intro s hs
      obtain ⟨i, hi, rfl⟩ := List.mem_map.1 hs
      exact (hf i (List.mem_range.1 hi)).1
    · intro s hs
      obtain ⟨i, hi, rfl⟩ := List.mem_map.1 hs
      exact (hf i (List.mem_range.1 hi)).2.1

set_option maxRecDepth 100000 in
/-- A program, as read. -/
theorem open_prog {fuel : Nat} {cs : List Value} {x : DataW H × List MemPlace}
    (h : DataW.trod enc Tryz.prog W 0 (fun _ => true) true fuel 25 cs = some x) (hsz : ∀ n ∈ x.1.weights Tryz.prog 25, n ≤ reachBytes) :
    ∃ (L : List Tn) (T : ByteArray) (l : List La.Site) (A B : Option Addr) (c d : Nat), cs = [.slice A L.length c, .string T, .slice B l.length d] ∧ Sl W W.heap.size 8 A L.length (tns L) ∧ Sl W W.heap.size 5 B l.length (La.cells l) ∧ (∀ s ∈ L, s.ok) ∧
      (∀ s ∈ L, s.s.size ≤ reachBytes ∧ s.t.size ≤ reachBytes ∧ s.u.size ≤ reachBytes) ∧ (∀ s ∈ l, s.ok) ∧ (∀ s ∈ l, s.mo.size ≤ reachBytes ∧ s.ex.size ≤ reachBytes) ∧ L.length * 88 ≤ reachBytes ∧ l.length * 56 ≤ reachBytes ∧ L.length ≤ c ∧ l.length ≤ d := by
  obtain ⟨ys, n, _, hx, hlen, hyl, hf⟩ := DataW.trod_struct Tryz.underlying25 h
  have hl3 : cs.length = 3 := hlen.trans (by kernel_rfl)
  have c_n : Tryz.prog.cellsOf 22 = 1 := by kernel_rfl
  have c_s : Tryz.prog.cellsOf 9 = 1 := by kernel_rfl
  have c_i : Tryz.prog.cellsOf 23 = 1 := by kernel_rfl
  match cs, hl3, ys, hyl with
  | [a0, a1, a2], _, [y0, y1, y2], _ =>
    have h0 : DataW.trod enc Tryz.prog W 0 (fun _ => true) true n 22 ((([a0, a1, a2] : List Value).drop 0).take (Tryz.prog.cellsOf 22)) = some y0 := hf 0 _ rfl
    have h1 : DataW.trod enc Tryz.prog W 0 (fun _ => true) true n 9 ((([a0, a1, a2] : List Value).drop 1).take (Tryz.prog.cellsOf 9)) = some y1 := hf 1 _ rfl
    have h2 : DataW.trod enc Tryz.prog W 0 (fun _ => true) true n 23 ((([a0, a1, a2] : List Value).drop 2).take (Tryz.prog.cellsOf 23)) = some y2 := hf 2 _ rfl
    rw [c_n] at h0
    rw [c_s] at h1
    rw [c_i] at h2
    obtain ⟨T, e1, x1, m1⟩ := DataW.trod_string Tryz.underlying9 h1
    simp only [List.drop_zero, List.drop_succ_cons, List.take_succ_cons, List.take_zero, List.cons.injEq, and_true] at e1 h0 h2
    subst e1
    have hw : ∀ (j : Nat) (t : TypeId) (d : DataW H) (m : Nat), ([22, 9, 23] : List Nat)[j]? = some t → ([y0.1, y1.1, y2.1] : List (DataW H))[j]? = some d → m ∈ d.weights Tryz.prog t → m ≤ reachBytes := by
      intro j t d m hj hd hm
      refine hsz m ?_
      rw [hx]
      unfold DataW.weights
      rw [Tryz.underlying25]
      exact DataW.weights_mem_each (j := j) (t := t) (d := d) hj hd _ hm
    obtain ⟨A, ln, c, rfl⟩ : ∃ A ln c, a0 = .slice A ln c := by
      rcases open_slice Tryz.underlying22 h0 with ⟨hcs, _⟩ | ⟨a, len', cap', m, n, D, Pl, hcs, _⟩
      · simp only [List.cons.injEq, and_true] at hcs; exact ⟨_, _, _, hcs⟩
      · simp only [List.cons.injEq, and_true] at hcs; exact ⟨_, _, _, hcs⟩
    obtain ⟨B, lm, d, rfl⟩ : ∃ A ln c, a2 = .slice A ln c := by
      rcases open_slice Tryz.underlying23 h2 with ⟨hcs, _⟩ | ⟨a, len', cap', m, n, D, Pl, hcs, _⟩
      · simp only [List.cons.injEq, and_true] at hcs; exact ⟨_, _, _, hcs⟩
      · simp only [List.cons.injEq, and_true] at hcs; exact ⟨_, _, _, hcs⟩
    obtain ⟨L, rfl, q1, q2, q3, q4, q5, _⟩ := open_tns h0 (fun m hm => hw 0 _ _ m rfl rfl hm)
    obtain ⟨l, rfl, r1, r2, r3, r4, r5, _⟩ := La.open_sites h2 (fun m hm => hw 2 _ _ m rfl rfl hm)
    exact ⟨L, T, l, A, B, c, d, rfl, q1, r1, q2, q3, r2, r3, q4, r4, q5, r5⟩
end
end Go.Proofs.YtmagljnlfponaaaGreat.K
