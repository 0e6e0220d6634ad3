/- Parts of this claim: RtW, RtX, JuE, Sites, LabA. -/
import Derived.RangeFuncNested
import Derived.RangeFuncBound
import Derived.RangeFuncCalls
import Derived.RangeFuncLeaves
import Derived.Shelf.Abstract
import Derived.Shelf.RegionOpen
import Derived.WalkKit
import Derived.OwnWalkIn
import Derived.TacticsInMore
import Derived.LoopNIn
import Derived.LoopIn
import Derived.WalkLawsBesides
import Derived.WalkSpells
import Derived.Deep.QuietTactic
import Derived.BigQuiet
import Derived.Test.YtmagljnlfponaaaGreatP29
import Derived.Test.YtmagljnlfponaaaGreatP27
import Derived.Test.YtmagljnlfponaaaGreatP26
import Derived.Test.YtmagljnlfponaaaGreatP00
import Derived.Test.YtmagljnlfponaaaGreatProg
set_option linter.unusedVariables false
set_option linter.unusedSimpArgs false
/- RtW -/
namespace Go.Proofs.YtmagljnlfponaaaGreat.R
open Go.RowKit Go.Proofs.YtmagljnlfponaaaGreat.B Go.Proofs.YtmagljnlfponaaaGreat.T Go.Proofs.YtmagljnlfponaaaGreat.K Go.Proofs.YtmagljnlfponaaaGreat.J
set_option linter.unusedVariables false
set_option linter.unusedSimpArgs false

theorem ne_nat {h : UInt8} {k : Nat} (hk : k < 256) (h1 : h ≠ UInt8.ofNat k) : ((h.toNat : Int) == (k : Int)) = false := by
  rw [Bool.eq_false_iff]
  intro e
  apply h1
  have : h.toNat = k := by simp at e; omega
  rw [← this]; simp
theorem leaf_not {h : UInt8} (hh : arB h = 0) : h ≠ 62 ∧ h ≠ 44 ∧ h ≠ 108 ∧ h ≠ 120 := by
  refine ⟨?_, ?_, ?_, ?_⟩ <;> (rintro rfl; revert hh; decide)
theorem pmM_any : ∀ (n : Nat) (S T : Ty), S.ok → T.ok → S.code.length ≤ 64 → T.code.length ≤ 64 → S.code.length + T.code.length ≤ n →
    AskQ 32 (str S) (str T) (pmN n S T).1 ∧ AskQ 33 (str S) (str T) (pmN n S T).2
  | 0, S, T, hS, hT, hS64, hT64, hn => by have := S.code_pos; omega
  | n + 1, S, T, hS, hT, hS64, hT64, hn => by
    have key : ∀ U : Ty, U.ok → U.code.length ≤ 64 → ∀ a ∈ S.kids, ∀ b ∈ U.kids, a.code.length + b.code.length ≤ n →
        (AskQ 32 (str a) (str b) (pmN n a b).1 ∧ AskQ 33 (str a) (str b) (pmN n a b).2) ∧ (AskQ 32 (str b) (str a) (pmN n b a).1 ∧ AskQ 33 (str b) (str a) (pmN n b a).2) := by
      intro U hU h64 a ha b hb hl
      have ha1 := Ty.kid_code ha
      have hb1 := Ty.kid_code hb
      exact ⟨pmM_any n a b (Ty.kids_ok hS ha) (Ty.kids_ok hU hb) (by omega) (by omega) hl, pmM_any n b a (Ty.kids_ok hU hb) (Ty.kids_ok hS ha) (by omega) (by omega) (by omega)⟩
    obtain ⟨p1, e1⟩ := str_head S
    obtain ⟨p2, e2⟩ := str_head T
    constructor
    · simp only [pmN]
      by_cases hq : T.head = 63
      · rw [if_pos hq]
        exact pq _ _ p2 (by rw [e2, hq])
      rw [if_neg hq]
      have hk := ne_nat (k := 63) (by omega) hq
      by_cases hh : S.head = T.head
      · rw [decide_eq_true hh, Bool.true_and]
        have hl := kids_len hS hT hh
        cases S with
        | leaf h =>
          have hT0 : T = .leaf T.head := by cases T <;> simp [Ty.kids, Ty.head] at hl ⊢
          obtain ⟨n1, n2, n3, n4⟩ := leaf_not (h := h) hS
          rw [show partsB (fun a b => (pmN n a b).1) (fun a b => (pmN n a b).2) (.leaf h) T = true by cases T <;> rfl]
          refine pleaf _ _ h p1 e1 p2 (e2.trans hh.symm) ?_ (ne_nat (k := 62) (by omega) n1) (ne_nat (k := 44) (by omega) n2) (ne_nat (k := 108) (by omega) n3) (ne_nat (k := 120) (by omega) n4)
          have : h = T.head := hh
          rw [this]; exact hk
        | un h a =>
          cases T with
          | leaf h' => simp [Ty.kids] at hl
          | bin h' c d => simp [Ty.kids] at hl
          | un h' c =>
            obtain rfl : h = h' := hh
            have kk := key (.un h c) hT hT64 a (by simp [Ty.kids]) c (by simp [Ty.kids]) (by simp [Ty.code] at hn; omega)
            have ps0 := PtQ.of (i := 0) (x := a) hS hS64 rfl
            have pt0 := PtQ.of (i := 0) (x := c) hT hT64 rfl
            rcases head_un hS with rfl | rfl
            · exact p108 _ _ _ (str a) ⟨#[]⟩ (str c) ⟨#[]⟩ _ p1 e1 p2 p2 e2 rfl ps0 pt0 kk.1.1
            · show AskQ _ _ _ ((pmN n a c).1 && (pmN n c a).2)
              rcases hr : (pmN n a c).1
              · rw [hr] at kk; exact p120f _ _ _ (str a) ⟨#[]⟩ (str c) ⟨#[]⟩ false p1 e1 p2 p2 e2 rfl ps0 pt0 kk.1.1
              · rw [hr] at kk; exact p120t _ _ _ (str a) ⟨#[]⟩ (str c) ⟨#[]⟩ _ p1 e1 p2 p2 e2 rfl ps0 pt0 kk.1.1 kk.2.2
        | bin h a b =>
          cases T with
          | leaf h' => simp [Ty.kids] at hl
          | un h' c => simp [Ty.kids] at hl
          | bin h' c d =>
            obtain rfl : h = h' := hh
            have kk := key (.bin h c d) hT hT64 a (by simp [Ty.kids]) c (by simp [Ty.kids]) (by simp [Ty.code] at hn; omega)
            have kd := key (.bin h c d) hT hT64 b (by simp [Ty.kids]) d (by simp [Ty.kids]) (by simp [Ty.code] at hn; omega)
            have ps0 := PtQ.of (i := 0) (x := a) hS hS64 rfl
            have pt0 := PtQ.of (i := 0) (x := c) hT hT64 rfl
            have ps1 := PtQ.of (i := 1) (x := b) hS hS64 rfl
            have pt1 := PtQ.of (i := 1) (x := d) hT hT64 rfl
            rcases head_bin hS with rfl | rfl
            · show AskQ _ _ _ ((pmN n c a).2 && (pmN n b d).1)
              rcases hr : (pmN n c a).2
              · rw [hr] at kk; exact p62f _ _ _ (str a) ⟨#[]⟩ (str c) ⟨#[]⟩ false p1 e1 p2 p2 e2 rfl pt0 ps0 kk.2.2
              · rw [hr] at kk; exact p62t _ _ _ (str a) (str b) (str c) (str d) _ p1 e1 p2 p2 e2 rfl pt0 ps0 ps1 pt1 kk.2.2 kd.1.1
            · show AskQ _ _ _ ((pmN n a c).1 && (pmN n b d).1)
              rcases hr : (pmN n a c).1
              · rw [hr] at kk; exact p44f _ _ _ (str a) ⟨#[]⟩ (str c) ⟨#[]⟩ false p1 e1 p2 p2 e2 rfl ps0 pt0 kk.1.1
              · rw [hr] at kk; exact p44t _ _ _ (str a) (str b) (str c) (str d) _ p1 e1 p2 p2 e2 rfl ps0 pt0 ps1 pt1 kk.1.1 kd.1.1
      · rw [decide_eq_false hh, Bool.false_and]
        exact pno _ _ S.head T.head p1 e1 p2 e2 hk (by rw [bne, byte_eq]; simpa using hh)
    · simp only [pmN]
      by_cases hq : S.head = 63
      · rw [if_pos hq]
        exact mq _ _ p1 (by rw [e1, hq])
      rw [if_neg hq]
      have hk := ne_nat (k := 63) (by omega) hq
      by_cases hT63 : T.head = 63
      · rw [if_pos hT63]
        have e2' : (str T)[0]'p2 = 63 := by rw [e2, hT63]
        have hU := grd_ok hS
        have hU64 := Nat.le_trans (grd_len S) hS64
        obtain ⟨p3, e3⟩ := str_head (grd S)
        have hh := grd_head S
        have hg := GrQ.of hS
        have hsum : ∀ a ∈ S.kids, ∀ b ∈ (grd S).kids, a.code.length + b.code.length ≤ n := fun a ha b hb => kid_sum hn ha (by rw [if_pos hT63]; exact hb)
        rw [hh, decide_eq_true rfl, Bool.not_true, Bool.false_or]
        cases S with
        | leaf h =>
          obtain ⟨n1, n2, n3, n4⟩ := leaf_not (h := h) hS
          rw [show partsB (fun a b => (pmN n a b).2) (fun a b => (pmN n a b).1) (.leaf h) (grd (.leaf h)) = true by rfl]
          exact mleafg _ _ _ h p1 e1 p2 e2' p3 e3 hg hk (ne_nat (k := 62) (by omega) n1) (ne_nat (k := 44) (by omega) n2) (ne_nat (k := 108) (by omega) n3) (ne_nat (k := 120) (by omega) n4)
        | un h a =>
          obtain ⟨c, hc⟩ : ∃ c, grd (.un h a) = .un h c := ⟨_, rfl⟩
          rw [hc] at hU hU64 hg hsum ⊢
          have e3 : (str (.un h c))[0]'(by have := str_head (.un h c); exact this.1) = h := (str_head (.un h c)).2
          have p3 := (str_head (.un h c)).1
          have kk := key (.un h c) hU hU64 a (by simp [Ty.kids]) c (by simp [Ty.kids]) (hsum a (by simp [Ty.kids]) c (by simp [Ty.kids]))
          have ps0 := PtQ.of (i := 0) (x := a) hS hS64 rfl
          have pt0 := PtQ.of (i := 0) (x := c) hU hU64 rfl
          rcases head_un hS with rfl | rfl
          · exact m108g _ _ _ (str a) ⟨#[]⟩ (str c) ⟨#[]⟩ _ p1 e1 p2 p3 e3 e2' hg ps0 pt0 kk.1.2
          · show AskQ _ _ _ ((pmN n a c).2 && (pmN n c a).1)
            rcases hr : (pmN n a c).2
            · rw [hr] at kk; exact m120gf _ _ _ (str a) ⟨#[]⟩ (str c) ⟨#[]⟩ false p1 e1 p2 p3 e3 e2' hg ps0 pt0 kk.1.2
            · rw [hr] at kk; exact m120gt _ _ _ (str a) ⟨#[]⟩ (str c) ⟨#[]⟩ _ p1 e1 p2 p3 e3 e2' hg ps0 pt0 kk.1.2 kk.2.1
        | bin h a b =>
          obtain ⟨c, d, hc⟩ : ∃ c d, grd (.bin h a b) = .bin h c d := ⟨_, _, rfl⟩
          rw [hc] at hU hU64 hg hsum ⊢
          have e3 : (str (.bin h c d))[0]'(by have := str_head (.bin h c d); exact this.1) = h := (str_head (.bin h c d)).2
          have p3 := (str_head (.bin h c d)).1
          have kk := key (.bin h c d) hU hU64 a (by simp [Ty.kids]) c (by simp [Ty.kids]) (hsum a (by simp [Ty.kids]) c (by simp [Ty.kids]))
          have kd := key (.bin h c d) hU hU64 b (by simp [Ty.kids]) d (by simp [Ty.kids]) (hsum b (by simp [Ty.kids]) d (by simp [Ty.kids]))
          have ps0 := PtQ.of (i := 0) (x := a) hS hS64 rfl
          have pt0 := PtQ.of (i := 0) (x := c) hU hU64 rfl
          have ps1 := PtQ.of (i := 1) (x := b) hS hS64 rfl
          have pt1 := PtQ.of (i := 1) (x := d) hU hU64 rfl
          rcases head_bin hS with rfl | rfl
          · show AskQ _ _ _ ((pmN n c a).1 && (pmN n b d).2)
            rcases hr : (pmN n c a).1
            · rw [hr] at kk; exact m62gf _ _ _ (str a) ⟨#[]⟩ (str c) ⟨#[]⟩ false p1 e1 p2 p3 e3 e2' hg pt0 ps0 kk.2.1
            · rw [hr] at kk; exact m62gt _ _ _ (str a) (str b) (str c) (str d) _ p1 e1 p2 p3 e3 e2' hg pt0 ps0 ps1 pt1 kk.2.1 kd.1.2
          · show AskQ _ _ _ ((pmN n a c).2 && (pmN n b d).2)
            rcases hr : (pmN n a c).2
            · rw [hr] at kk; exact m44gf _ _ _ (str a) ⟨#[]⟩ (str c) ⟨#[]⟩ false p1 e1 p2 p3 e3 e2' hg ps0 pt0 kk.1.2
            · rw [hr] at kk; exact m44gt _ _ _ (str a) (str b) (str c) (str d) _ p1 e1 p2 p3 e3 e2' hg ps0 pt0 ps1 pt1 kk.1.2 kd.1.2
      rw [if_neg hT63]
      have hk2 := ne_nat (k := 63) (by omega) hT63
      by_cases hh : S.head = T.head
      · rw [decide_eq_true hh, Bool.not_true, Bool.false_or]
        have hl := kids_len hS hT hh
        cases S with
        | leaf h =>
          obtain ⟨n1, n2, n3, n4⟩ := leaf_not (h := h) hS
          rw [show partsB (fun a b => (pmN n a b).2) (fun a b => (pmN n a b).1) (.leaf h) T = true by cases T <;> rfl]
          exact mleaf _ _ h p1 e1 p2 (e2.trans hh.symm) hk (ne_nat (k := 62) (by omega) n1) (ne_nat (k := 44) (by omega) n2) (ne_nat (k := 108) (by omega) n3) (ne_nat (k := 120) (by omega) n4)
        | un h a =>
          cases T with
          | leaf h' => simp [Ty.kids] at hl
          | bin h' c d => simp [Ty.kids] at hl
          | un h' c =>
            obtain rfl : h = h' := hh
            have kk := key (.un h c) hT hT64 a (by simp [Ty.kids]) c (by simp [Ty.kids]) (by simp [Ty.code] at hn; omega)
            have ps0 := PtQ.of (i := 0) (x := a) hS hS64 rfl
            have pt0 := PtQ.of (i := 0) (x := c) hT hT64 rfl
            rcases head_un hS with rfl | rfl
            · exact m108 _ _ _ (str a) ⟨#[]⟩ (str c) ⟨#[]⟩ _ p1 e1 p2 p2 e2 rfl ps0 pt0 kk.1.2
            · show AskQ _ _ _ ((pmN n a c).2 && (pmN n c a).1)
              rcases hr : (pmN n a c).2
              · rw [hr] at kk; exact m120f _ _ _ (str a) ⟨#[]⟩ (str c) ⟨#[]⟩ false p1 e1 p2 p2 e2 rfl ps0 pt0 kk.1.2
              · rw [hr] at kk; exact m120t _ _ _ (str a) ⟨#[]⟩ (str c) ⟨#[]⟩ _ p1 e1 p2 p2 e2 rfl ps0 pt0 kk.1.2 kk.2.1
        | bin h a b =>
          cases T with
          | leaf h' => simp [Ty.kids] at hl
          | un h' c => simp [Ty.kids] at hl
          | bin h' c d =>
            obtain rfl : h = h' := hh
            have kk := key (.bin h c d) hT hT64 a (by simp [Ty.kids]) c (by simp [Ty.kids]) (by simp [Ty.code] at hn; omega)
            have kd := key (.bin h c d) hT hT64 b (by simp [Ty.kids]) d (by simp [Ty.kids]) (by simp [Ty.code] at hn; omega)
            have ps0 := PtQ.of (i := 0) (x := a) hS hS64 rfl
            have pt0 := PtQ.of (i := 0) (x := c) hT hT64 rfl
            have ps1 := PtQ.of (i := 1) (x := b) hS hS64 rfl
            have pt1 := PtQ.of (i := 1) (x := d) hT hT64 rfl
            rcases head_bin hS with rfl | rfl
            · show AskQ _ _ _ ((pmN n c a).1 && (pmN n b d).2)
              rcases hr : (pmN n c a).1
              · rw [hr] at kk; exact m62f _ _ _ (str a) ⟨#[]⟩ (str c) ⟨#[]⟩ false p1 e1 p2 p2 e2 rfl pt0 ps0 kk.2.1
              · rw [hr] at kk; exact m62t _ _ _ (str a) (str b) (str c) (str d) _ p1 e1 p2 p2 e2 rfl pt0 ps0 ps1 pt1 kk.2.1 kd.1.2
            · show AskQ _ _ _ ((pmN n a c).2 && (pmN n b d).2)
              rcases hr : (pmN n a c).2
              · rw [hr] at kk; exact m44f _ _ _ (str a) ⟨#[]⟩ (str c) ⟨#[]⟩ false p1 e1 p2 p2 e2 rfl ps0 pt0 kk.1.2
              · rw [hr] at kk; exact m44t _ _ _ (str a) (str b) (str c) (str d) _ p1 e1 p2 p2 e2 rfl ps0 pt0 ps1 pt1 kk.1.2 kd.1.2
      · rw [decide_eq_false hh, Bool.not_false, Bool.true_or]
        exact mno _ _ S.head T.head p1 e1 p2 e2 hk2 hk (by rw [bne, byte_eq]; simpa using hh)
theorem plusM (S T : Ty) (hS : okT S) (hT : okT T) : AskQ 32 (str S) (str T) (plusT S T) := (pmM_any _ S T hS.1 hT.1 hS.2 hT.2 (Nat.le_refl _)).1
theorem minusM (S T : Ty) (hS : okT S) (hT : okT T) : AskQ 33 (str S) (str T) (minusT S T) := (pmM_any _ S T hS.1 hT.1 hS.2 hT.2 (Nat.le_refl _)).2
end Go.Proofs.YtmagljnlfponaaaGreat.R

/- RtX -/
namespace Go.Proofs.YtmagljnlfponaaaGreat.R
open Go.RowKit Go.Proofs.YtmagljnlfponaaaGreat.B Go.Proofs.YtmagljnlfponaaaGreat.T Go.Proofs.YtmagljnlfponaaaGreat.K Go.Proofs.YtmagljnlfponaaaGreat.J
set_option linter.unusedVariables false
set_option linter.unusedSimpArgs false

theorem ld_cellsR {W : World} {base n c k : Nat} {A : Option Addr} {l : List Tn} {s : Tn} (h : W.ownsRow base 70 3 (.slice A n c) n (lds l)) (hk : k < n) (hs : l[k]? = some s) :
    ∃ b, A = some ⟨b, 0, none⟩ ∧ base ≤ b ∧ b < W.heap.size ∧ W.cell? ⟨b, k * 3, none⟩ = some (.int .i64 s.n) ∧ W.cell? ⟨b, k * 3 + 1, none⟩ = some (.string s.t) ∧ W.cell? ⟨b, k * 3 + 2, none⟩ = some (.string s.u) := by
  obtain ⟨g, cap, hv, hb, hlt⟩ := h.form (by omega)
  injection hv with hA _ _
  subst hA
  have q := h.cells (g := g) rfl
  have e : ∀ j u, j < 3 → (ldV s)[j]? = some u → W.cell? ⟨g, k * 3 + j, none⟩ = some u := fun j u hj hu => by
    have := q (k * 3 + j) u (by rw [lds_at l k s j hs hj]; exact hu)
    rwa [add_flat, Nat.zero_add] at this
  exact ⟨g, rfl, hb, hlt, e 0 _ (by omega) rfl, e 1 _ (by omega) rfl, e 2 _ (by omega) rfl⟩

set_option maxRecDepth 100000 in
set_option maxHeartbeats 4000000 in
theorem checkM_any (L : List Tn) (A : Option Addr) (c : Nat) (T : ByteArray) (B : Option Addr) (N d : Nat) (w : World) (hN : L.length ≤ 1000000) (hNN : N ≤ 1000000) (hLc : L.length ≤ c) (hS : ∀ x ∈ L, x.small) (hL : LT w w.heap.size A L) :
    Calls Tryz.prog 7 #[.agg #[.slice A L.length c, .string T, .slice B N d]] w fun e w' => e = .returned (.int .i64 (chkP L T N).1) ∧ Below w.heap.size w w' := by
  have hnz : ∀ E x, chk L = .bad E x → E ≠ 0 := fun E x h => chk_bad h
  have hPok : ∀ t, chk L = .ok t → chkP L T N = if str t ≠ T then (23, []) else if ∃ c ∈ laidL L, (N : Int) < c.n then (1, []) else (0, laidL L) := fun t h => by unfold chkP; rw [h]
  have hPb : ∀ E x, chk L = .bad E x → chkP L T N = (E, []) := fun E x h => by unfold chkP; rw [h]
  have hM : (laidL L).length ≤ L.length := by have := laid_le L L.length; rwa [List.take_of_length_le (Nat.le_refl _)] at this
  obtain ⟨P, hP⟩ : ∃ P, (chkP L T N).1 = P := ⟨_, rfl⟩
  obtain ⟨W0, hW0⟩ : ∃ W0, w.alloc (.cells #[.slice A L.length c, .string T, .slice B N d] 25) = W0 := ⟨_, rfl⟩
  have hb0 : Below w.heap.size w W0 := by rw [← hW0]; exact bal b0 _
  have hk0 : Blk W0 w.heap.size 25 #[.slice A L.length c, .string T, .slice B N d] := by rw [← hW0]; exact Blk.new _ _ _
  have HLT := Lib.hid (show ∀ W, Below w.heap.size w W → LT W W.heap.size A L from fun W hb => (hL.below hb).fresh (Nat.le_refl _))
  have HC := Lib.hid (CheckR_any L A c W0 hN hLc hS (HLT.out _ hb0))
  have HCA := Lib.hid (fun W hb => CastsR_any L A c W hN hLc (HLT.out W hb))
  have HM := Lib.hid hM
  rw [hP]
  have HW0 := Lib.hid hW0
  have HB := Lib.hid (And.intro hb0 hk0)
  clear hL hS hLc hM hb0 hk0 hW0
  generalize chk L = R at *
  cases R with
  | bad E x =>
    have h := hPb E x rfl
    have hE : (E != 0) = true := by simpa using hnz E x rfl
    rw [h] at hP
    simp only at hP
    subst hP
    clear hPb hPok h hnz
    go_enter Tryz.func7, Tryz.ntmps7
    go_wp2_with fail
    rw [HW0.out]
    (refine HC.out.mono ?_); rintro e w1 ⟨rfl, hb1⟩
    unfold chkV
    have H := Lib.hid (bl HB.out.1 hb1)
    clear hb1
    go_wp2_with fail
    go_ret
    exact ⟨rfl, H.out⟩
  | ok t =>
    have h := hPok t rfl
    have hne := strNe (t := t) (T := T)
    by_cases hT : str t = T
    rotate_left
    · rw [if_pos hT] at h
      rw [h] at hP
      simp only at hP
      subst hP
      rw [decide_eq_false hT] at hne
      clear hPb hPok h hnz hT
      go_enter Tryz.func7, Tryz.ntmps7
      go_wp2_with fail
      rw [HW0.out]
      (refine HC.out.mono ?_); rintro e w1 ⟨rfl, hb1⟩
      unfold chkV
      have hk1 := HB.out.2.below hb1 HB.out.2.lt
      have k1 : w1.cell? ⟨w.heap.size, 1, none⟩ = some (.string T) := (hk1.cell 1).trans rfl
      have H := Lib.hid (bl HB.out.1 hb1)
      clear hb1 hk1
      go_wp2_with fail
      go_ret
      exact ⟨rfl, H.out⟩
    rw [if_neg (by simpa using hT)] at h
    rw [decide_eq_true hT] at hne
    have HP := Lib.hid (And.intro h hP)
    clear hPb hPok h hnz hT hP
    go_enter Tryz.func7, Tryz.ntmps7
    go_wp2_with fail
    rw [HW0.out]
    (refine HC.out.mono ?_); rintro e w1 ⟨rfl, hb1⟩
    unfold chkV
    have hk1 := HB.out.2.below hb1 HB.out.2.lt
    have k0 : w1.cell? ⟨w.heap.size, 0, none⟩ = some (.slice A L.length c) := (hk1.cell 0).trans rfl
    have k1 : w1.cell? ⟨w.heap.size, 1, none⟩ = some (.string T) := (hk1.cell 1).trans rfl
    have HB1 := Lib.hid (And.intro (bl HB.out.1 hb1) hk1)
    clear hb1 hk1
    go_wp2_with fail
    (refine (HCA.out w1 HB1.out.1).mono ?_); rintro e w2 ⟨hb2, v, rfl, hv⟩
    obtain ⟨Av, cv, rfl, hv1, hv2⟩ := own_shape hv
    obtain ⟨l, hl⟩ : ∃ l, laidL L = l := ⟨_, rfl⟩
    rw [hl] at HP HM hv hv1
    rw [hl]
    obtain ⟨M, hMe⟩ : ∃ M, l.length = M := ⟨_, rfl⟩
    rw [hMe] at HM hv hv1
    rw [hMe]
    have hMN : M ≤ 1000000 := Nat.le_trans HM.out hN
    have hk2 := HB1.out.2.below hb2 HB1.out.2.lt
    have HO := Lib.hid (And.intro (bl HB1.out.1 hb2) (And.intro hk2 (And.intro hv hMe)))
    clear hb2 hv hMe hl k0 k1 hk2
    go_wp2_with fail
    go_loopg [7] M (fun q i wr => ∃ k : Nat, k ≤ M ∧ q = M - k ∧ i = .int .i64 k ∧ (∀ x ∈ l.take k, x.n ≤ (N : Int)) ∧ ∃ j, wr = w2.drewN j)
    case atStart => exact ⟨0, by omega, rfl, rfl, (by intro x hx; simp at hx), 0, rfl⟩
    case round =>
      obtain ⟨k, hk, rfl, rfl, hall, j, rfl⟩ := hrel
      have k2 : w2.cell? ⟨w.heap.size, 2, none⟩ = some (.slice B N d) := (HO.out.2.1.cell 2).trans rfl
      by_cases hlt : k < M
      · obtain ⟨s, hs⟩ : ∃ s, l[k]? = some s := ⟨_, List.getElem?_eq_getElem (by rw [HO.out.2.2.2]; exact hlt)⟩
        obtain ⟨b, rfl, hbb, hbl, q0, q1, q2⟩ := ld_cellsR HO.out.2.2.1 hlt hs
        by_cases hgt : (N : Int) < s.n
        · have e1 : decide ((N : Int) < s.n) = true := by simpa using hgt
          have hP1 : P = 1 := by
            rw [← HP.out.2, HP.out.1, if_pos ⟨s, List.mem_of_getElem? hs, hgt⟩]
          subst hP1
          clear hall hs hgt
          go_wp2_with fail
          go_quiet (fail)
          go_wp2_with fail
          go_ret
          exact ⟨rfl, below_drewN (below_drewN HO.out.1 _) _⟩
        · have e1 : decide ((N : Int) < s.n) = false := by simpa using hgt
          have hall2 : ∀ x ∈ l.take (k + 1), x.n ≤ (N : Int) := by
            intro x hx
            rw [List.take_add_one, hs, Option.toList_some] at hx
            rcases List.mem_append.1 hx with h | h
            · exact hall x h
            · rw [List.mem_singleton.1 h]; omega
          have HA2 := Lib.hid hall2
          clear hall hs hgt hall2
          go_wp2_with fail
          go_quiet (fail)
          go_wp2_with fail
          go_roundg (M - (k + 1))
          case measure => omega
          case rel => exact ⟨k + 1, by omega, rfl, by go_num, HA2.out, _, rfl⟩
      · obtain rfl : k = M := by omega
        have hP0 : P = 0 := by
          rw [← HP.out.2, HP.out.1, if_neg (fun ⟨x, hx, hl⟩ => by
            have := hall x (by rw [List.take_of_length_le (by rw [HO.out.2.2.2]; exact Nat.le_refl _)]; exact hx)
            omega)]
        subst hP0
        clear hall k2
        go_wp2_with fail
        go_ret
        exact ⟨rfl, below_drewN HO.out.1 _⟩
end Go.Proofs.YtmagljnlfponaaaGreat.R

/- JuE -/
namespace Go.Proofs.YtmagljnlfponaaaGreat.J
open Go.RowKit Go.Shelf Go.Proofs.YtmagljnlfponaaaGreat.B Go.Proofs.YtmagljnlfponaaaGreat.T Go.Proofs.YtmagljnlfponaaaGreat.K
set_option linter.unusedVariables false
set_option linter.unusedSimpArgs false
attribute [local go_sem] Oper.semAt_some

/-- What a loop's body keeps: whatever holds cells, but for block g. -/
def KpJ (g : Nat) (W W' : World) : Prop := W.heap.size ≤ W'.heap.size ∧ ∀ k o, k ≠ g → W.heap[k]? = some o → o.isCells = true → W'.heap[k]? = some o
theorem KpJ.refl (g : Nat) (W : World) : KpJ g W W := ⟨Nat.le_refl _, fun _ _ _ h _ => h⟩
theorem KpJ.trans {g : Nat} {A B C : World} (h : KpJ g A B) (k : KpJ g B C) : KpJ g A C := ⟨Nat.le_trans h.1 k.1, fun i o hg hi ho => k.2 i o hg (h.2 i o hg hi ho) ho⟩
theorem KpJ.below {g : Nat} {W W' : World} (h : Below W.heap.size W W') : KpJ g W W' := ⟨h.size, fun k o _ hk _ => (h.block k (Array.getElem?_eq_some_iff.1 hk).1).trans hk⟩
theorem KpJ.cell {g : Nat} {W W' : World} (h : KpJ g W W') {b o : Nat} {u : Value} (hg : b ≠ g) (hc : W.cell? ⟨b, o, none⟩ = some u) : W'.cell? ⟨b, o, none⟩ = some u := by
  obtain ⟨x, hx, hxc⟩ := cells_of_cell hc
  exact (World.cell?_of_block (w := W) (w' := W') (a := ⟨b, o, none⟩) ((h.2 b x hg hx hxc).trans hx.symm)).trans hc
/-- The list of what was laid, as the iterator reads it. -/
def LdAt (g : Nat) (W : World) (A : Option Addr) (l : List Tn) : Prop := l = [] ∨ ∃ b, A = some ⟨b, 0, none⟩ ∧ b < W.heap.size ∧ b ≠ g ∧ ∀ j u, (lds l)[j]? = some u → W.cell? ⟨b, j, none⟩ = some u
theorem LdAt.keep {g : Nat} {W W' : World} {A : Option Addr} {l : List Tn} (h : LdAt g W A l) (hk : KpJ g W W') : LdAt g W' A l := by
  rcases h with h | ⟨b, h1, h2, h3, h4⟩
  · exact .inl h
  · exact .inr ⟨b, h1, Nat.lt_of_lt_of_le h2 hk.1, h3, fun j u hu => hk.cell h3 (h4 j u hu)⟩
theorem LdAt.at_ {g : Nat} {W : World} {A : Option Addr} {l : List Tn} (h : LdAt g W A l) {k : Nat} {s : Tn} (hs : l[k]? = some s) :
    ∃ b, A = some ⟨b, 0, none⟩ ∧ b < W.heap.size ∧ b ≠ g ∧ W.cell? ⟨b, k * 3, none⟩ = some (.int .i64 s.n) ∧ W.cell? ⟨b, k * 3 + 1, none⟩ = some (.string s.t) ∧ W.cell? ⟨b, k * 3 + 2, none⟩ = some (.string s.u) := by
  rcases h with h | ⟨b, h1, h2, h3, h4⟩
  · subst h; simp at hs
  · exact ⟨b, h1, h2, h3, h4 _ _ (by rw [← Nat.add_zero (k * 3), lds_at l k s 0 hs (by omega)]; rfl), h4 _ _ (by rw [lds_at l k s 1 hs (by omega)]; rfl), h4 _ _ (by rw [lds_at l k s 2 hs (by omega)]; rfl)⟩
/-- A blame of one of N labels. -/
structure Bn (N : Nat) where
  v : Int
  h : (1 ≤ v ∧ v ≤ (N : Int)) ∨ (1 ≤ -v ∧ -v ≤ (N : Int))
theorem grown_of {W W' : World} (h : Below W.heap.size W W') : W.grownBy W' none := ⟨h.os, h.tape, h.output, h.size, fun k hk _ => h.block k hk⟩
theorem abides {α : Type} {B : Nat} {J : List α → World → Prop} (hJ : AbidesFrom B J) {s : List α} {W W' : World} (h : J s W) (hb : Below W.heap.size W W') : J s W' := hJ s W W' none h (grown_of hb) (fun r e => by cases e)
theorem blL_next {l : List Tn} {k : Nat} {s : Tn} (h : l[k]? = some s) : blL (l.take (k + 1)) = blL (l.take k) ++ blC s := by
  unfold blL; rw [List.take_add_one, h]; simp
theorem blL_pre (l : List Tn) (k : Nat) : blL (l.take k) <+: blL l := ⟨blL (l.drop k), by unfold blL; rw [← List.flatMap_append, List.take_append_drop]⟩
theorem blC_len (s : Tn) : (blC s).length ≤ 2 := by unfold blC; rcases plusC s <;> rcases minusC s <;> simp
theorem blL_len (l : List Tn) : (blL l).length ≤ 2 * l.length := by
  induction l with
  | nil => simp [blL]
  | cons a l ih => have := blC_len a; simp only [blL, List.flatMap_cons, List.length_append, List.length_cons] at *; omega

set_option maxRecDepth 100000 in
set_option maxHeartbeats 4000000 in
theorem unsafe1_in (hS : ∀ S T : Ty, ∀ w, S.ok → T.ok → S.code.length ≤ 64 → T.code.length ≤ 64 → Calls Tryz.prog 41 #[.string (str S), .string (str T)] w fun e w' => e = .returned (.tuple #[.bool (plusT S T), .bool (minusT S T)]) ∧ Below w.heap.size w w')
    (n g bx y : Nat) (hn : 1 ≤ n) (A : Option Addr) (c : Nat) (l : List Tn) (hl : l.length ≤ 1000000) (N : Nat) (hC : ∀ x ∈ l, Cst x ∧ x.n ≤ (N : Int)) (hbg : bx ≠ g) (J Jx : List (Bn N) → World → Prop)
    (W : World) (hgW : g < W.heap.size) (hJ : AbidesFrom W.heap.size J)
    (hY : ∀ pre x W1, J pre W1 → pre.length < 2 * l.length → YieldAt Fence.wide (n - 1) Tryz.prog y #[.int .i64 x.v] W1 fun e W' =>
      (e = .returned (.bool true) ∧ J (pre ++ [x]) W' ∧ KpJ g W1 W') ∨ (e = .returned (.bool false) ∧ Jx (pre ++ [x]) W'))
    (hc : W.cell? ⟨bx, 0, none⟩ = some (.slice A l.length c)) (hA : LdAt g W A l) (h0 : J [] W) :
    CallsIn Fence.wide n Tryz.prog 40 #[.func (.yield y) #[] #[], .pointer (some ⟨bx, 0, none⟩)] W fun e W' => (∃ v, e = .returned v) ∧
      ((∃ xs : List (Bn N), xs.map Bn.v = blL l ∧ J xs W') ∨ (∃ pre, True ∧ Jx pre W')) := by
  refine callsIn_of_wp Tryz.func40 rfl trivial ?_ rfl
  simp only [Tryz.ntmps40, List.size_toArray, List.length_cons, List.length_nil, Nat.reduceAdd, Nat.reduceSub, Array.replicate_succ, Array.replicate_zero, List.push_toArray, List.append_toArray, List.nil_append, List.cons_append]
  gi_wp2
  gi_loopw [9] (fun i wr => ∃ k : Nat, k ≤ l.length ∧ i = .int .i64 k ∧ (∃ ys : List (Bn N), ys.map Bn.v = blL (l.take k) ∧ J ys wr) ∧ KpJ g W wr) (fun i _ => l.length - (intOf i).toNat)
  case atStart => exact ⟨0, Nat.zero_le _, rfl, ⟨[], by simp [blL], h0⟩, KpJ.refl _ _⟩
  case round =>
    obtain ⟨k, hk, rfl, ⟨ys, hys, hJs⟩, hnx⟩ := hrel
    by_cases hlt : k < l.length
    · obtain ⟨s, hs⟩ : ∃ s, l[k]? = some s := ⟨_, List.getElem?_eq_getElem hlt⟩
      obtain ⟨b, rfl, hb1, hb2, c0, c1, c2⟩ := (hA.keep hnx).at_ hs
      obtain ⟨hcs, hcN⟩ := hC s (List.mem_of_getElem? hs)
      obtain ⟨sok, st, s64⟩ := ty_spec hcs.1
      obtain ⟨uok, ut, u64⟩ := ty_spec hcs.2.1
      have hside := fun w => hS (ty s.t) (ty s.u) w sok uok s64 u64
      rw [← st, ← ut] at hside
      change ∀ w, Calls _ _ _ w fun e w' => e = .returned (.tuple #[.bool (plusC s), .bool (minusC s)]) ∧ _ at hside
      have HN := Lib.hid (blL_next hs)
      obtain ⟨p, hp⟩ : ∃ p, plusC s = p := ⟨_, rfl⟩
      obtain ⟨m, hm⟩ : ∃ m, minusC s = m := ⟨_, rfl⟩
      rw [hp, hm] at hside
      have hr1 := hcs.2.2.2.1
      have hr2 := hcs.2.2.2.2
      have HPM := Lib.hid (And.intro hp hm)
      clear st ut sok uok s64 u64 hcs hs hp hm
      have hJb := Lib.hid (fun s' W' (h : J s' wr) (hb : Below wr.heap.size wr W') => abides (s := s') (W' := W') hJ h hb)
      have hJb2 := Lib.hid (fun s' W1 W' (h : J s' W1) (hb : Below W1.heap.size W1 W') => abides (s := s') (W := W1) (W' := W') hJ h hb)
      have hlen : ys.length ≤ 2 * k := by have := blL_len (l.take k); rw [List.length_take, ← hys, List.length_map] at this; omega
      have HYS := Lib.hid hys
      clear hys
      have hgr : g < wr.heap.size := Nat.lt_of_lt_of_le hgW hnx.1
      have c9 := hnx.cell hbg hc
      gi_wp2
      refine ⟨trivial, (callsIn_wide.2 (hside _)).mono ?_⟩
      rintro e w1 ⟨rfl, hb1⟩
      have hbx1 : Blk w1 wr.heap.size 92 #[.int .i64 s.n, .string s.t, .string s.u] := (Blk.new wr _ _).below hb1 (by simp)
      have hbw1 : Below wr.heap.size wr w1 := bl (bal b0 _) hb1
      have hJ1 := hJb.out _ _ hJs hbw1
      have hk1 : KpJ g W w1 := hnx.trans (KpJ.below hbw1)
      have x0 : w1.cell? ⟨wr.heap.size, 0, none⟩ = some (.int .i64 s.n) := (hbx1.cell 0).trans rfl
      have hwr : IntKind.i64.wrap (-s.n) = -s.n := IntWalk.i64_in _ (by omega)
      have hsz : wr.heap.size ≠ g := by omega
      clear c0 c1 c2 hside hb1 hbw1 hJs hbx1
      cases p
      · cases m
        · obtain ⟨f1, t1, a1, d1, hy1, hR1⟩ := hY _ (⟨s.n, .inl ⟨hr1, hcN⟩⟩ : Bn N) w1 hJ1 (by omega)
          change (Instr.yield y #[.int .i64 s.n]).run _ _ = _ at hy1
          gi_wp2
          refine hR1.mono ?_
          rintro e W3 (⟨rfl, hJ3, hk3⟩ | ⟨rfl, hx3⟩)
          · obtain ⟨f2, t2, a2, d2, hy2, hR2⟩ := hY _ (⟨-s.n, .inr ⟨by omega, by omega⟩⟩ : Bn N) W3 hJ3 (by rw [List.length_append]; simp; omega)
            change (Instr.yield y #[.int .i64 (-s.n)]).run _ _ = _ at hy2
            have x3 := hk3.cell hsz x0
            clear x0 hy1 hR1
            gi_wp2
            refine hR2.mono ?_
            rintro e W4 (⟨rfl, hJ4, hk4⟩ | ⟨rfl, hx4⟩)
            · gi_wp2
              go_roundw
              case rel => exact ⟨k + 1, by omega, by simp, ⟨_, by rw [HN.out]; unfold blC; rw [HPM.out.1, HPM.out.2, ← HYS.out]; simp, hJ4⟩, (hk1.trans hk3).trans hk4⟩
              case measure => simp [intOf]; omega
            · gi_wp2
              refine bodyPost_ret (results_none rfl _ _ _) rfl ?_
              exact ⟨⟨_, rfl⟩, .inr ⟨_, trivial, hx4⟩⟩
          · gi_wp2
            all_goals try exact absurd ‹some undef = some (Value.bool _)› (by simp [undef])
            refine ⟨fun _ h => (by cases h), ?_⟩
            gi_wp2
            refine bodyPost_ret (results_none rfl _ _ _) rfl ?_
            exact ⟨⟨_, rfl⟩, .inr ⟨_, trivial, hx3⟩⟩
        · obtain ⟨f1, t1, a1, d1, hy1, hR1⟩ := hY _ (⟨s.n, .inl ⟨hr1, hcN⟩⟩ : Bn N) w1 hJ1 (by omega)
          change (Instr.yield y #[.int .i64 s.n]).run _ _ = _ at hy1
          gi_wp2
          refine hR1.mono ?_
          rintro e W3 (⟨rfl, hJ3, hk3⟩ | ⟨rfl, hx3⟩)
          · gi_wp2
            all_goals try exact absurd ‹some undef = some (Value.bool _)› (by simp [undef])
            refine ⟨fun _ h => (by cases h), ?_⟩
            gi_wp2
            go_roundw
            case rel => exact ⟨k + 1, by omega, by simp, ⟨_, by rw [HN.out]; unfold blC; rw [HPM.out.1, HPM.out.2, ← HYS.out]; simp, hJ3⟩, hk1.trans hk3⟩
            case measure => simp [intOf]; omega
          · gi_wp2
            all_goals try exact absurd ‹some undef = some (Value.bool _)› (by simp [undef])
            refine ⟨fun _ h => (by cases h), ?_⟩
            gi_wp2
            refine bodyPost_ret (results_none rfl _ _ _) rfl ?_
            exact ⟨⟨_, rfl⟩, .inr ⟨_, trivial, hx3⟩⟩
      · cases m
        · obtain ⟨f1, t1, a1, d1, hy1, hR1⟩ := hY _ (⟨-s.n, .inr ⟨by omega, by omega⟩⟩ : Bn N) w1 hJ1 (by omega)
          change (Instr.yield y #[.int .i64 (-s.n)]).run _ _ = _ at hy1
          gi_wp2
          all_goals try exact absurd ‹some undef = some (Value.bool _)› (by simp [undef])
          refine ⟨fun _ h => (by cases h), ?_⟩
          gi_wp2
          refine hR1.mono ?_
          rintro e W3 (⟨rfl, hJ3, hk3⟩ | ⟨rfl, hx3⟩)
          · gi_wp2
            go_roundw
            case rel => exact ⟨k + 1, by omega, by simp, ⟨_, by rw [HN.out]; unfold blC; rw [HPM.out.1, HPM.out.2, ← HYS.out]; simp, hJ3⟩, hk1.trans hk3⟩
            case measure => simp [intOf]; omega
          · gi_wp2
            refine bodyPost_ret (results_none rfl _ _ _) rfl ?_
            exact ⟨⟨_, rfl⟩, .inr ⟨_, trivial, hx3⟩⟩
        · gi_wp2
          all_goals try exact absurd ‹some undef = some (Value.bool _)› (by simp [undef])
          refine ⟨fun _ h => (by cases h), ?_⟩
          gi_wp2
          go_roundw
          case rel => exact ⟨k + 1, by omega, by simp, ⟨_, by rw [HN.out]; unfold blC; rw [HPM.out.1, HPM.out.2, ← HYS.out]; simp, hJ1⟩, hk1⟩
          case measure => simp [intOf]; omega
    · obtain rfl : k = l.length := by omega
      gi_wp2
      go_end0
      exact ⟨⟨_, rfl⟩, .inl ⟨ys, by rw [List.take_of_length_le (Nat.le_refl _)] at hys; exact hys, hJs⟩⟩

/-- unsafe's iterator, as a range over it asks. -/
theorem unsafe1_stops (n g bx : Nat) (hn : 1 ≤ n) (A : Option Addr) (c : Nat) (l : List Tn) (hl : l.length ≤ 1000000) (N : Nat) (hC : ∀ x ∈ l, Cst x ∧ x.n ≤ (N : Int)) (hbg : bx ≠ g) (w : World) (hg : g < w.heap.size) (hbx : bx < w.heap.size)
    (hc : w.cell? ⟨bx, 0, none⟩ = some (.slice A l.length c)) (hA : LdAt g w A l) :
    SeqStopsK Fence.wide n Tryz.prog 40 #[.pointer (some ⟨bx, 0, none⟩)] (fun b : Bn N => #[.int .i64 b.v]) (KpJ g) (fun xs => xs.map Bn.v = blL l) (fun _ => True) (2 * l.length) w := by
  intro y J Jx W hW hJ hJx hY h0
  have hk : KpJ g w W := KpJ.below hW
  exact unsafe1_in (fun S T w h1 h2 h3 h4 => Sides_any S T w h1 h2 h3 h4) n g bx y hn A c l hl N hC hbg J Jx W (Nat.lt_of_lt_of_le hg hk.1) hJ hY (hk.cell hbg hc) (hA.keep hk) h0
theorem unsafe_any (A : Option Addr) (n c : Nat) (w : World) : Calls Tryz.prog 27 #[.slice A n c] w fun e w' => e = .returned (.func (.func 40) #[] #[.pointer (some ⟨w.heap.size, 0, none⟩)]) ∧ w' = w.alloc (.cells #[.slice A n c] 71) := by
  have hmf : ∀ (fn : Fn) (first cap : Array Value) (w : World), (Instr.makeFunc fn first cap).run Tryz.prog w = .ok (.func fn first cap) w := fun _ _ _ _ => rfl
  go_enter Tryz.func27, Tryz.ntmps27
  go_wp2_with fail
  go_ret
  exact ⟨rfl, rfl⟩
end Go.Proofs.YtmagljnlfponaaaGreat.J

/- Sites -/
namespace Go.Proofs.YtmagljnlfponaaaGreat.La
open Go.RowKit Go.Proofs.YtmagljnlfponaaaGreat.B

structure Site where
  mo : ByteArray
  ex : ByteArray
  li : Int
  co : Int
  ru : Int

def Site.vs (s : Site) : List Value := [.string s.mo, .string s.ex, .int .i64 s.li, .int .i64 s.co, .int .i64 s.ru]

/-- What came in fits its kinds. -/
structure Site.ok (s : Site) : Prop where
  mo : s.mo.size ≤ maxLen
  ex : s.ex.size ≤ maxLen
  l0 : -9223372036854775808 ≤ s.li
  l1 : s.li ≤ 9223372036854775807
  c0 : -9223372036854775808 ≤ s.co
  c1 : s.co ≤ 9223372036854775807
  r0 : -9223372036854775808 ≤ s.ru
  r1 : s.ru ≤ 9223372036854775807

def cells (l : List Site) : List Value := l.flatMap Site.vs

theorem cells_len (l : List Site) : (cells l).length = l.length * 5 := by
  induction l with
  | nil => rfl
  | cons s l ih => simp only [cells, List.flatMap_cons, List.length_append, List.length_cons] at *; rw [ih]; simp [Site.vs]; omega

theorem cells_at (l : List Site) : ∀ (k : Nat) (s : Site) (j : Nat), l[k]? = some s → j < 5 → (cells l)[k * 5 + j]? = s.vs[j]? := by
  induction l with
  | nil => intro k s j h; simp at h
  | cons x l ih =>
    intro k s j h hj
    have hl : x.vs.length = 5 := rfl
    cases k with
    | zero =>
      simp at h; subst h
      simp only [cells, List.flatMap_cons]
      rw [List.getElem?_append_left (by omega)]; simp
    | succ k =>
      simp at h
      have := ih k s j h hj
      simp only [cells, List.flatMap_cons] at *
      rw [List.getElem?_append_right (by omega)]
      rw [hl, show (k + 1) * 5 + j - 5 = k * 5 + j by omega]; exact this

/-- The cells of element k, in the spelling of the walk. -/
theorem site_cells {w : World} {B : Nat} {A : Option Addr} {l : List Site} (h : Sl w B 5 A l.length (cells l)) {k : Nat} {s : Site} (hk : l[k]? = some s) :
    ∃ b o, A = some ⟨b, o, none⟩ ∧ b < B ∧ w.cell? ⟨b, o + k * 5, none⟩ = some (.string s.mo) ∧ w.cell? ⟨b, o + k * 5 + 1, none⟩ = some (.string s.ex) ∧ w.cell? ⟨b, o + k * 5 + 2, none⟩ = some (.int .i64 s.li) ∧
      w.cell? ⟨b, o + k * 5 + 3, none⟩ = some (.int .i64 s.co) ∧ w.cell? ⟨b, o + k * 5 + 4, none⟩ = some (.int .i64 s.ru) := by
  have hl : k < l.length := (List.getElem?_eq_some_iff.1 hk).1
  obtain ⟨b, o, rfl, hb, hc⟩ := h.at_ (by omega)
  have g : ∀ j u, j < 5 → s.vs[j]? = some u → w.cell? ⟨b, o + k * 5 + j, none⟩ = some u := by
    intro j u hj hu
    have := hc (k * 5 + j) u (by rw [cells_at l k s j hk hj]; exact hu)
    rwa [← Nat.add_assoc] at this
  exact ⟨b, o, rfl, hb, g 0 _ (by omega) rfl, g 1 _ (by omega) rfl, g 2 _ (by omega) rfl, g 3 _ (by omega) rfl, g 4 _ (by omega) rfl⟩

/-- wide's count, up to element k. -/
def weigh (l : List Site) (k : Nat) : Nat := ((l.take k).map fun s => s.mo.size + s.ex.size).sum

end Go.Proofs.YtmagljnlfponaaaGreat.La

/- LabA -/
namespace Go.Proofs.YtmagljnlfponaaaGreat.La
open Go.RowKit Go.Proofs.YtmagljnlfponaaaGreat.B
set_option linter.unusedVariables false
set_option linter.unusedSimpArgs false

/-- label.Side, as the Go text has it. -/
def sideL (b : Int) : Int := if 0 < b then b else if b = -9223372036854775808 then 0 else -b
def sideI (b : Int) : Bool := decide (0 < b)
def turn (b : Int) : Int := if b = -9223372036854775808 then 0 else -b

theorem ret2 {k l : Value} {k' l' : Value} (h : k = k') (h2 : l = l') : Ending.returned (.tuple #[k, l]) = .returned (.tuple #[k', l']) := by rw [h, h2]

theorem side_any (b : Int) (w : World) (h0 : -9223372036854775808 ≤ b) (h1 : b ≤ 9223372036854775807) :
    Calls Tryz.prog 42 #[.int .i64 b] w fun e w' => e = .returned (.tuple #[.int .i64 (sideL b), .bool (sideI b)]) ∧ w = w' := by
  unfold sideL sideI
  by_cases hp : 0 < b
  · go_enter Tryz.func42, Tryz.ntmps42
    go_wp2
    go_ret2
    simp [hp]
  · by_cases hm : b = -9223372036854775808
    · go_enter Tryz.func42, Tryz.ntmps42
      go_wp2
      go_ret2
      simp [hm]
    · have hm1 : -9223372036854775808 < b := by omega
      go_enter Tryz.func42, Tryz.ntmps42
      go_wp2
      go_ret2
      simp [hp, hm]

/-- The blank site, as values. -/
def blank : Array Value := #[.string ⟨#[]⟩, .string ⟨#[]⟩, .int .i64 0, .int .i64 0, .int .i64 0]

theorem of_no (l : List Site) (A : Option Addr) (c : Nat) (b : Int) (w : World) (h0 : -9223372036854775808 ≤ b) (h1 : b ≤ 9223372036854775807) (hl : l.length ≤ 9223372036854775807)
    (h : sideL b < 1 ∨ (l.length : Int) < sideL b) :
    Calls Tryz.prog 43 #[.slice A l.length c, .int .i64 b] w fun e w' => e = .returned (.tuple #[.agg blank, .int .i64 1]) ∧ Below w.heap.size w w' := by
  obtain ⟨n, hn⟩ : ∃ n, sideL b = n := ⟨_, rfl⟩
  have hs := side_any b (w.alloc (.cells blank 62)) h0 h1
  rw [hn] at hs h
  clear hn
  unfold blank at *
  by_cases h2 : n < 1
  · clear h
    go_enter Tryz.func43, Tryz.ntmps43
    go_wp2_with (go_at_call 42; refine hs.mono ?_; rintro e w' ⟨rfl, rfl⟩)
    refine bodyPost_ret (v := .tuple #[.agg #[.string ⟨#[]⟩, .string ⟨#[]⟩, .int .i64 0, .int .i64 0, .int .i64 0], .int .i64 1]) (by simp [results, Tryz.results43, go_sem]) rfl ⟨rfl, ?_⟩
    exact (Below.refl _ _).alloc (Nat.le_refl _) _
  · have h3 : (l.length : Int) < n := by omega
    clear h
    go_enter Tryz.func43, Tryz.ntmps43
    go_wp2_with (go_at_call 42; refine hs.mono ?_; rintro e w' ⟨rfl, rfl⟩)
    refine bodyPost_ret (v := .tuple #[.agg #[.string ⟨#[]⟩, .string ⟨#[]⟩, .int .i64 0, .int .i64 0, .int .i64 0], .int .i64 1]) (by simp [results, Tryz.results43, go_sem]) rfl ⟨rfl, ?_⟩
    exact (Below.refl _ _).alloc (Nat.le_refl _) _

theorem of_yes (l : List Site) (A : Option Addr) (c k : Nat) (s : Site) (b : Int) (w : World) (h0 : -9223372036854775808 ≤ b) (h1 : b ≤ 9223372036854775807) (hl : l.length ≤ 9223372036854775807)
    (hA : Sl w w.heap.size 5 A l.length (cells l)) (hk : sideL b = (k : Int) + 1) (hs : l[k]? = some s) :
    Calls Tryz.prog 43 #[.slice A l.length c, .int .i64 b] w fun e w' => e = .returned (.tuple #[.agg s.vs.toArray, .int .i64 0]) ∧ Below w.heap.size w w' := by
  have hlt : k < l.length := (List.getElem?_eq_some_iff.1 hs).1
  obtain ⟨bb, o, rfl, hb, c0, c1, c2, c3, c4⟩ := site_cells hA hs
  have hs := side_any b (w.alloc (.cells blank 62)) h0 h1
  rw [hk] at hs
  clear hk hA
  unfold blank Site.vs at *
  go_enter Tryz.func43, Tryz.ntmps43
  go_wp2_with (go_at_call 42; refine hs.mono ?_; rintro e w' ⟨rfl, rfl⟩)
  refine bodyPost_ret (v := .tuple #[.agg #[.string s.mo, .string s.ex, .int .i64 s.li, .int .i64 s.co, .int .i64 s.ru], .int .i64 0]) (by simp [results, Tryz.results43, go_sem]) rfl ⟨rfl, ?_⟩
  exact (Below.refl _ _).alloc (Nat.le_refl _) _

/-- label.named -/
def nameOf (s : Site) (i : Bool) : ByteArray := if s.ru = 18 ∧ i = true then s.ex else s.mo

theorem named_any (s : Site) (i : Bool) (w : World) :
    Calls Tryz.prog 44 #[.agg s.vs.toArray, .bool i] w fun e w' => e = .returned (.string (nameOf s i)) ∧ Below w.heap.size w w' := by
  unfold nameOf Site.vs
  by_cases h : s.ru = 18
  · obtain ⟨mo, ex, li, co, ru⟩ := s
    simp only at h
    subst h
    cases i
    · go_enter Tryz.func44, Tryz.ntmps44
      go_wp2
      go_ret
      exact ⟨rfl, (Below.refl _ _).alloc (Nat.le_refl _) _⟩
    · go_enter Tryz.func44, Tryz.ntmps44
      go_wp2
      go_goals
      go_ways
      go_ret
      exact ⟨rfl, (Below.refl _ _).alloc (Nat.le_refl _) _⟩
  · go_enter Tryz.func44, Tryz.ntmps44
    go_wp2
    go_ret
    exact ⟨by simp [h], (Below.refl _ _).alloc (Nat.le_refl _) _⟩

theorem named_no (l : List Site) (A : Option Addr) (c : Nat) (b : Int) (w : World) (h0 : -9223372036854775808 ≤ b) (h1 : b ≤ 9223372036854775807) (hl : l.length ≤ 9223372036854775807)
    (h : sideL b < 1 ∨ (l.length : Int) < sideL b) :
    Calls Tryz.prog 29 #[.slice A l.length c, .int .i64 b] w fun e w' => e = .returned (.tuple #[.string ⟨#[]⟩, .int .i64 1]) ∧ Below w.heap.size w w' := by
  have ho := of_no l A c b w h0 h1 hl h
  clear h
  unfold blank at ho
  go_enter Tryz.func29, Tryz.ntmps29
  go_wp2_with (go_at_call 43; refine ho.mono ?_; rintro e w1 ⟨rfl, hb⟩)
  go_ret2
  exact ⟨rfl, hb.alloc hb.size _⟩

theorem named_yes (l : List Site) (A : Option Addr) (c k : Nat) (s : Site) (b : Int) (w : World) (h0 : -9223372036854775808 ≤ b) (h1 : b ≤ 9223372036854775807) (hl : l.length ≤ 9223372036854775807)
    (hA : Sl w w.heap.size 5 A l.length (cells l)) (hk : sideL b = (k : Int) + 1) (hs : l[k]? = some s) :
    Calls Tryz.prog 29 #[.slice A l.length c, .int .i64 b] w fun e w' => e = .returned (.tuple #[.string (nameOf s (sideI b)), .int .i64 0]) ∧ Below w.heap.size w w' := by
  have ho := of_yes l A c k s b w h0 h1 hl hA hk hs
  have hn := fun W => named_any s (sideI b) W
  clear hA hk hs
  unfold Site.vs at *
  go_enter Tryz.func29, Tryz.ntmps29
  go_wp2_with (first
    | (go_at_call 43; refine ho.mono ?_; rintro e w1 ⟨rfl, hb⟩)
    | (go_at_call 42; refine (side_any b _ h0 h1).mono ?_; rintro e w' ⟨rfl, rfl⟩)
    | (go_at_call 44; refine (hn _).mono ?_; rintro e w2 ⟨rfl, hb2⟩))
  go_ret2
  exact ⟨rfl, (hb.alloc hb.size _).trans (hb2.mono (by have := hb.size; simp; omega))⟩

theorem info31 : (Tryz.prog.info? 62).map (fun i => (i.zero, i.size, i.bytes)) = some (some (.agg blank), 5, 56) := by kernel_rfl

end Go.Proofs.YtmagljnlfponaaaGreat.La
