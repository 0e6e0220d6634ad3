/- FaultWraps returns true: the walk (printed by gen_wrpb.py). -/
import Derived.Test.YtkebplifkkhhlaaDoorWrpA
import Derived.Test.YtkebplifkkhhlaaDoorBagX
import Derived.Test.YtkebplifkkhhlaaDoorBagV
namespace Go.Proofs.YtkebplifkkhhlaaDoor.F
open Go.RowKit Go.Proofs.YtkebplifkkhhlaaDoor.B Go.Proofs.YtkebplifkkhhlaaDoor.La Go.Proofs.YtkebplifkkhhlaaDoor.T
set_option linter.unusedVariables false
set_option linter.unusedSimpArgs false

/-- What the loop keeps: the error so far is the rest of the defs around the first one; what is said is its text, while that is short. -/
def LInv (ds : List ByteArray) (e0 : Er) (k : Nat) (ek : Er) (S : ByteArray) (W : World) : Prop :=
  ek.At W ∧ Chn (ds.drop k) e0 ek ∧ ek.tells ∧ ek.tx.size ≤ 140737488352000 * (ds.length + 1 - k) ∧ S.size ≤ ek.tx.size ∧ (S.size < 65536 → S = ek.tx)
theorem LInv.start {ds : List ByteArray} {e : Er} {T0 : ByteArray} {W : World} (h1 : e.At W) (h2 : e.tells) (h3 : e.tx = T0) (h4 : T0.size ≤ 140737488351300) : LInv ds e ds.length e T0 W :=
  ⟨h1, by rw [List.drop_length]; exact rfl, h2, by rw [h3, show ds.length + 1 - ds.length = 1 by omega]; omega, by rw [h3]; exact Nat.le_refl _, fun _ => h3.symm⟩
theorem LInv.sz {ds : List ByteArray} {e0 ek : Er} {k : Nat} {S : ByteArray} {W : World} (h : LInv ds e0 k ek S W) (h5 : ds.length ≤ 500) : ek.tx.size ≤ 70509481664352000 := by
  obtain ⟨_, _, _, h4, _⟩ := h
  have : ds.length + 1 - k ≤ 501 := by omega
  exact Nat.le_trans h4 (Nat.le_trans (Nat.mul_le_mul_left _ this) (by decide))
theorem tx_size (a : Nat) (d : ByteArray) (e : Er) : (Er.inn a d e).tx.size = d.size + 2 + e.tx.size := by
  simp only [Er.tx, ByteArray.size_append]; rfl
theorem LInv.next {ds : List ByteArray} {e0 ek : Er} {j a : Nat} {S S' d : ByteArray} {W W' : World} (h : LInv ds e0 (j + 1) ek S W) (h5 : ds.length ≤ 500) (hj : ds[j]? = some d) (hd : d.size ≤ 140737488351232) (hat : (Er.inn a d ek).At W')
    (hS : (S' = S ∧ ¬ S.size < 65536) ∨ S' = d ++ ⟨#[58, 32]⟩ ++ S ∧ S.size < 65536) : LInv ds e0 j (.inn a d ek) S' W' := by
  have hz := h.sz h5
  obtain ⟨h1, h2, h3, h4, h6, h7⟩ := h
  have hlt : j < ds.length := (List.getElem?_eq_some_iff.1 hj).1
  have e1 : ds.length + 1 - j = (ds.length + 1 - (j + 1)) + 1 := by omega
  refine ⟨hat, h2.step hj, ⟨h3, by omega⟩, ?_, ?_, ?_⟩
  · rw [tx_size, e1, Nat.mul_succ]; omega
  · rcases hS with ⟨rfl, _⟩ | ⟨rfl, hs⟩
    · rw [tx_size]; omega
    · rw [h7 hs]; exact Nat.le_refl _
  · intro h8
    rcases hS with ⟨rfl, hs⟩ | ⟨rfl, hs⟩
    · exact absurd h8 hs
    · rw [h7 hs]; rfl
theorem at_butI {C : Nat → Prop} {w w' : World} (h : But C w w') : ∀ {e : Er}, (∀ k, k < w.heap.size → ¬ C k) → e.At w → e.At w'
  | .no, _, _ => trivial
  | .bl a n s nm, hC, k => (h.block a (Blk.lt k) (hC a (Blk.lt k))).trans k
  | .nb, _, _ => trivial
  | .fa a c, hC, k => (h.block a (Blk.lt k) (hC a (Blk.lt k))).trans k
  | .er n, _, _ => trivial
  | .ot v, _, _ => trivial
  | .inn a d r, hC, k => ⟨(h.block a k.1.lt (hC a k.1.lt)).trans k.1, at_butI h hC k.2⟩

theorem own_at {w w' : World} {base : Nat} {e : TypeId} {sz : Nat} {v : Value} {n : Nat} {xs : List Value} (h : w.ownsRow base e sz v n xs) (hb : ∀ b, v.ownBlock = some b → w'.heap[b]? = w.heap[b]?) : w'.ownsRow base e sz v n xs := by
  refine ⟨h.1, ?_⟩
  rcases h.2 with h2 | ⟨g, cap, cur, rfl, hbg, hg, r⟩
  · exact .inl h2
  · exact .inr ⟨g, cap, cur, rfl, hbg, (hb g rfl).trans hg, r⟩

set_option maxRecDepth 100000 in
set_option maxHeartbeats 16000000 in
theorem faultWraps_walk (l : List Site) (A : Option Addr) (c : Nat) (m : List Ob) (B : Option Addr) (c2 : Nat) (ds : List ByteArray) (E : Option Addr) (c3 : Nat) (w : World) (hl : l.length ≤ 9223372036854775807) (hm : m.length ≤ 9223372036854775807) (hd : ds.length ≤ 140737488355328)
    (hok : ∀ s ∈ l, s.mo.size ≤ 140737488351232 ∧ s.ex.size ≤ 140737488351232) (hn : ∀ o ∈ m, -9223372036854775808 ≤ o.n ∧ o.n ≤ 9223372036854775807) (hds : ∀ s ∈ ds, s.size ≤ 140737488351232)
    (hA : Sl w w.heap.size 5 A l.length (cells l)) (hB : Sl w w.heap.size 3 B m.length (obs m)) (hE : Sl w w.heap.size 1 E ds.length (tvals ds)) (hg : Han w) (ht : F.Tab w) :
    Calls Tryd.prog 4 #[.slice A l.length c, .slice B m.length c2, .slice E ds.length c3] w fun ev w' => ev = .returned (.bool true) ∧ Below w.heap.size w w' := by
  have HG := Lib.hid hg
  have HT := Lib.hid ht
  have HA : Hid (∀ W, Below w.heap.size w W → Sl W W.heap.size 5 A l.length (cells l)) := Lib.hid fun W hb => (hA.below hb).more hb.size
  have HB : Hid (∀ W, Below w.heap.size w W → Sl W W.heap.size 3 B m.length (obs m)) := Lib.hid fun W hb => (hB.below hb).more hb.size
  have HEE : Hid (∀ W, Below w.heap.size w W → Sl W W.heap.size 1 E ds.length (tvals ds)) := Lib.hid fun W hb => (hE.below hb).more hb.size
  have HM := Lib.hid (much_any l A c m B c2 w hl hm hok hA)
  have HOK := Lib.hid (wn_ok hok hn)
  have HN := Lib.hid hn
  have HDS := Lib.hid hds
  have HWK : Hid (∀ W, Below w.heap.size w W → Calls Tryd.prog 10 #[] W fun ev w' => ev = .returned (.bool true) ∧ Below W.heap.size W w') := Lib.hid fun W hb => works_any W (hg.below hb) (ht.below hb)
  clear hg ht hA hB hE hok hn hds
  go_enter Tryd.func4, Tryd.ntmps4
  go_wp2_with fail
  (refine HM.out.mono ?_); rintro ev w1 ⟨v, rfl, hv, hb1⟩
  clear HM
  cases v with
  | true =>
    clear hv HA HB HN HOK
    go_wp2_with fail
    (refine (HWK.out _ hb1).mono ?_); rintro ev w2 ⟨rfl, hb2⟩
    go_wp2_with fail
    go_ret
    exact ⟨rfl, bl hb1 hb2⟩
  | false =>
    obtain ⟨hl16, hm16, _⟩ := hv rfl
    clear hv hl hm
    have HB1 := Lib.hid hb1
    clear hb1
    by_cases h5 : 500 < ds.length
    · go_wp2_with fail
      (refine (HWK.out _ HB1.out).mono ?_); rintro ev w2 ⟨rfl, hb2⟩
      go_wp2_with fail
      go_ret
      exact ⟨rfl, bl HB1.out hb2⟩
    have h500 : ds.length ≤ 500 := by omega
    have d500 : decide ((500 : Int) < (ds.length : Int)) = false := by simp; omega
    clear h5
    go_wp2_with fail
    (refine (sizeTexts_any ds E c3 _ hd (fun s hs => by have := HDS.out s hs; omega) (HEE.out _ HB1.out)).mono ?_); rintro ev wy ⟨⟨SZ, rfl, hSZ⟩, rfl⟩
    go_wp2_with fail
    (refine (F.long_any _ _).mono ?_); rintro ev wy ⟨⟨bz, rfl⟩, rfl⟩
    cases bz with
    | true =>
      go_wp2_with fail
      (refine (HWK.out _ HB1.out).mono ?_); rintro ev w2 ⟨rfl, hb2⟩
      go_wp2_with fail
      go_ret
      exact ⟨rfl, bl HB1.out hb2⟩
    | false =>
    clear hSZ
    go_wp2_with fail
    (refine (copySites_any l A c _ hl16 (HA.out _ HB1.out)).mono ?_); rintro ev w2 ⟨A', c', rfl, hs', hb⟩
    have HB2 := Lib.hid (bl HB1.out hb)
    have HS : Hid (∀ W, Below w2.heap.size w2 W → Sl W W.heap.size 5 A' l.length (cells l)) := Lib.hid fun W hb => (hs'.below hb).more hb.size
    clear hs' hb
    go_wp2_with fail
    (refine (copySeen_any m B c2 _ hm16 (HB.out _ HB2.out)).mono ?_); rintro ev w3 ⟨B', c'', rfl, hs', hb⟩
    have HB3 := Lib.hid (bl HB2.out hb)
    have hof := of_any l A' c' m B' c'' 0 0 0 w3 (by omega) (by omega) (HS.out _ hb) hs' HN.out
    simp only [resV] at hof
    have HOF := Lib.hid hof
    clear hof hs' hb HS
    go_wp2_with fail
    (refine HOF.out.mono ?_); rintro ev w4 ⟨e, rfl, hat, his, hb⟩
    have HB4 := Lib.hid (bl HB3.out hb)
    have HE : Hid (∀ W, Below w4.heap.size w4 W → e.At W) := Lib.hid fun W hb => Er.At.below hb hat
    have HF := Lib.hid (fits_of his HOK.out)
    have HIS := Lib.hid his
    have hrf := refOf_any l A c m B c2 w4 (by omega) (by omega) (HA.out _ HB4.out) (HB.out _ HB4.out) HN.out
    obtain ⟨D, hD⟩ : ∃ D, wnOf l m = D := ⟨_, rfl⟩
    rw [hD] at hrf HF HIS HOK
    obtain ⟨x1, x2, i3, i4, i5, x6, hC⟩ := wnC_face D
    obtain ⟨L, hL⟩ : ∃ L, wnL D = L := ⟨_, rfl⟩
    obtain ⟨K, hK⟩ : ∃ K, wnK D = K := ⟨_, rfl⟩
    have hV : wnV D = .agg #[.int .i64 (wnL D), .string x1, .string x2, .int .i64 i3, .int .i64 i4, .int .i64 i5, .string x6, .int .i64 (wnK D)] := by unfold wnV; rw [hC]
    rw [hL, hK] at hV
    rw [hV] at hrf
    have HRF := Lib.hid hrf
    have HV := Lib.hid hV
    have HL := Lib.hid hL
    have HK := Lib.hid hK
    obtain ⟨z, hz⟩ : ∃ z, e.val = z := ⟨_, rfl⟩
    have HZ := Lib.hid hz
    rw [hz]
    clear hb hat his hrf hD hC hL hK hV hz HOF HN HA HB HB1 HB2 HB3
    go_wp2_with fail
    (refine HRF.out.mono ?_); rintro ev w5 ⟨rfl, hb⟩
    have HB45 := Lib.hid hb
    have HB5 := Lib.hid (bl HB4.out hb)
    clear hb HRF
    go_upto_region 5 with fail
    obtain ⟨W5, hW5⟩ : ∃ W5, w5.alloc (.cells #[.int .i64 L, .string x1, .string x2, .int .i64 i3, .int .i64 i4, .int .i64 i5, .string x6, .int .i64 K] 39) = W5 := ⟨_, rfl⟩
    have hblk : Blk W5 w5.heap.size 39 #[.int .i64 L, .string x1, .string x2, .int .i64 i3, .int .i64 i4, .int .i64 i5, .string x6, .int .i64 K] := by rw [← hW5]; exact Blk.new _ _ _
    have HQ : Hid (∀ W', Below W5.heap.size W5 W' → (W'.cell? ⟨w5.heap.size, 0, none⟩ = some (.int .i64 L) ∧ W'.cell? ⟨w5.heap.size, 1, none⟩ = some (.string x1) ∧ W'.cell? ⟨w5.heap.size, 2, none⟩ = some (.string x2) ∧ W'.cell? ⟨w5.heap.size, 3, none⟩ = some (.int .i64 i3) ∧ W'.cell? ⟨w5.heap.size, 4, none⟩ = some (.int .i64 i4) ∧ W'.cell? ⟨w5.heap.size, 5, none⟩ = some (.int .i64 i5) ∧ W'.cell? ⟨w5.heap.size, 6, none⟩ = some (.string x6) ∧ W'.cell? ⟨w5.heap.size, 7, none⟩ = some (.int .i64 K))) := Lib.hid fun W' hb => by
      have hk := hblk.below hb hblk.lt
      exact ⟨by rw [hk.cell 0]; rfl, by rw [hk.cell 1]; rfl, by rw [hk.cell 2]; rfl, by rw [hk.cell 3]; rfl, by rw [hk.cell 4]; rfl, by rw [hk.cell 5]; rfl, by rw [hk.cell 6]; rfl, by rw [hk.cell 7]; rfl⟩
    have HBW : Hid (Below w.heap.size w W5) := Lib.hid (by rw [← hW5]; exact bal HB5.out _)
    have HBW4 : Hid (Below w4.heap.size w4 W5) := Lib.hid (by rw [← hW5]; exact bal HB45.out _)
    obtain ⟨q0, q1, q2, q3, q4, q5, q6, q7⟩ := HQ.out _ (Below.refl _ _)
    clear hblk HB45 HB5
    rw [hW5]
    clear hW5
    by_cases hk0 : K = 0
    · have hno := HF.out.nil (by rw [HK.out]; exact hk0)
      subst hno
      obtain rfl : z = .nilIface := HZ.out.symm
      subst hk0
      go_wp2_with fail
      go_loopg [7, 9, 11, 12, 13] ds.length (fun q er sa i wa_ in_ wr => ∃ k : Nat, k ≤ ds.length ∧ k = q ∧ er = .nilIface ∧ i = .int .i64 ((k : Int) - 1) ∧ Below W5.heap.size W5 wr)
      case atStart => exact ⟨ds.length, Nat.le_refl _, rfl, rfl, by go_num, Below.refl _ _⟩
      case round =>
        obtain ⟨k, hk, rfl, rfl, rfl, hb⟩ := hrel
        by_cases h0 : k = 0
        · subst h0
          rw [show ((0 : Nat) : Int) - 1 = -1 from rfl]
          have q7 := (HQ.out _ hb).2.2.2.2.2.2.2
          have HBR := Lib.hid hb
          clear hb
          obtain ⟨wn, rfl⟩ : ∃ wn, wn = wr := ⟨_, rfl⟩
          have HBn : Hid (Below w.heap.size w wn) := Lib.hid (bl HBW.out HBR.out)
          have HQn : Hid (∀ W', Below wn.heap.size wn W' → (W'.cell? ⟨w5.heap.size, 0, none⟩ = some (.int .i64 L) ∧ W'.cell? ⟨w5.heap.size, 1, none⟩ = some (.string x1) ∧ W'.cell? ⟨w5.heap.size, 2, none⟩ = some (.string x2) ∧ W'.cell? ⟨w5.heap.size, 3, none⟩ = some (.int .i64 i3) ∧ W'.cell? ⟨w5.heap.size, 4, none⟩ = some (.int .i64 i4) ∧ W'.cell? ⟨w5.heap.size, 5, none⟩ = some (.int .i64 i5) ∧ W'.cell? ⟨w5.heap.size, 6, none⟩ = some (.string x6) ∧ W'.cell? ⟨w5.heap.size, 7, none⟩ = some (.int .i64 0))) := Lib.hid fun W' hb => HQ.out _ (bl HBR.out hb)
          obtain ⟨e', he'⟩ : ∃ e', e' = Er.no := ⟨_, rfl⟩
          have HEn : Hid (∀ W, Below wn.heap.size wn W → e'.At W) := Lib.hid fun W _ => by rw [he']; trivial
          have HFX : Hid (e'.lab.getD 0 = L ∧ e'.lab.isSome = (L != 0) ∧ e'.code.getD 0 = 0 ∧ e'.defs = [] ∧ e'.dep ≤ 900) := Lib.hid (by
            have h := HF.out
            rw [he']
            exact ⟨by rw [h.lab, HL.out], by rw [h.is, HL.out], rfl, rfl, by decide⟩)
          have HZX : Hid (e'.val = .nilIface) := Lib.hid (by rw [he']; rfl)
          have HNM : Hid (∀ W : World, Below wn.heap.size wn W → Sl W W.heap.size 1 none 0 (tvals [])) := Lib.hid fun W _ => Sl.nil _ _ _ _
          clear he' HBR HQ HF HIS HV HK HZ HOK HE HBW4
          have hlb := label_any e' wn (HG.out.below HBn.out) (HEn.out _ (Below.refl _ _))
          rw [HFX.out.1, HFX.out.2.1, HZX.out] at hlb
          have HDF : Hid (∀ W, Below wn.heap.size wn W → Calls Tryd.prog 18 #[.nilIface] W fun ev w' => ∃ v, ev = .returned v ∧ w'.ownsRow W.heap.size 9 1 v 0 (tvals []) ∧ Below W.heap.size W w') := Lib.hid fun W hb => by
            have h := defs_any e' W (HEn.out _ hb) HFX.out.2.2.2.2
            rw [HFX.out.2.2.2.1, HZX.out] at h; exact h
          have HCD : Hid (∀ W, Below wn.heap.size wn W → Calls Tryd.prog 17 #[.nilIface] W fun ev w' => ev = .returned (.int .i64 0) ∧ Below W.heap.size W w') := Lib.hid fun W hb => by
            have h := code_any e' W (HG.out.below (bl HBn.out hb)) (HEn.out _ hb)
            rw [HFX.out.2.2.1, HZX.out] at h; exact h
          clear HFX HZX HEn
          go_wp2_with fail
          (refine hlb.mono ?_); rintro ev wa ⟨rfl, hb⟩
          have HBna := Lib.hid hb
          clear hb hlb
          go_wp2_with fail
          (refine (HDF.out _ HBna.out).mono ?_); rintro ev wb ⟨v, rfl, hoa, hb⟩
          obtain ⟨Aa, ca, rfl, _, _⟩ := own_shape hoa
          have ia := In.of_own (hoa)
          have HOA := Lib.hid hoa
          have HBab := Lib.hid hb
          clear hb hoa
          go_wp2_with fail
          have hr0 := bag_new wb 82
          have hg0 : Below wb.heap.size wb (wb.alloc (.cells bagCells 82)) := bal (Below.refl _ _) _
          refine (addTexts_fine wb.heap.size (wb.heap.size + 1) 0 (fun _ => nilV) [] Aa _ ca _ hr0 (World.ownsRow_nil _ _ _ _) (by omega) (by omega) (by simp)).mono ?_
          rintro ev wc ⟨rfl, f1, hr1, hf1, ho1, hd1, hn1, _⟩
          have hgc : Below wb.heap.size wb wc := hg0.trans hd1
          clear hr0 hg0 hd1 hn1
          go_wp2_with fail
          (refine (HDF.out _ (bl (bl HBna.out HBab.out) hgc)).mono ?_); rintro ev wd ⟨v2, rfl, hob, hbd⟩
          obtain ⟨Ab, cb, rfl, _, _⟩ := own_shape hob
          have ib := In.of_own (hob)
          have z1 := hr1.lt
          have hr1' := hr1.of_block (hbd.block _ hr1.lt)
          have ho1' := own_keep ho1 hbd (fun b hb => (ho1.lt b hb).2)
          have z2 := hr1'.lt
          go_wp2_with fail
          refine (addTexts_fine wb.heap.size (wb.heap.size + 1) 1 f1 _ Ab _ cb _ hr1' ho1' (by omega) (by omega) (by omega)).mono ?_
          rintro ev we ⟨rfl, f2, hr2, hf2, ho2, hd2, hn2, hkp⟩
          have hge : Below wb.heap.size wb we := (hgc.trans (hbd.mono (by omega))).trans hd2
          have hne : Below wn.heap.size wn we := bl (bl HBna.out HBab.out) hge
          have za := HBna.out.size
          have zb := HBab.out.size
          have zw := HBn.out.size
          have HEQ : Hid (∀ W, Below we.heap.size we W → Calls Tryd.prog 31 #[.slice Aa 0 ca, .slice none 0 0] W fun ev w' => ev = .returned (.bool true) ∧ Below W.heap.size W w') := Lib.hid fun W hb => by
            have h := own_keep HOA.out (bl hge hb) (fun b hb => (ia b hb).2)
            obtain ⟨A2, c2', hv, _, _, hsl⟩ := Sl.of_own h
            injection hv with e1 e2 e3
            subst e1
            exact eqTexts_any [] Aa none ca 0 W (by have := h500; first | omega | decide) hsl (HNM.out _ (bl hne hb))
          have HAP : Hid (∀ W, Below we.heap.size we W → Calls Tryd.prog 32 #[.pointer (some ⟨wb.heap.size, 0, none⟩)] W fun ev w' => ev = .returned (.bool true) ∧ Below wn.heap.size W w') := Lib.hid fun W hb => by
            have zW := hb.size
            have zr := hr2.lt
            have Ra := own_less (own_keep HOA.out (bl hge hb) (fun b hb => (ia b hb).2)) (base' := w.heap.size) (by omega)
            have Rb := own_less (own_keep (own_at hob (fun b hb => hkp b (ib b hb).2 (by have := (ib b hb).1; omega) (fun h => by have := (ho1.lt b h).2; have := (ib b hb).1; omega))) hb (fun b hb => by have := (ib b hb).2; have := hd2.size; omega)) (base' := w.heap.size) (by omega)
            have hrow : (f2 4).ownBlock = (f1 4).ownBlock ∨ True := .inr trivial
            have key : ∀ b, (f2 4).ownBlock = some b → (wb.heap.size + 1 ≤ b ∧ b < wc.heap.size) ∨ wd.heap.size ≤ b := fun b hb => by
              rcases hn2 b hb with h | h
              · exact .inl (ho1.lt b h)
              · exact .inr h
            have hA := apart_texts2 w HT.out wb.heap.size w.heap.size 2 f2 (fun m => [Value.slice Aa 0 ca, .slice Ab 0 cb].getD m nilV) (fun m => 0) W (hr2.of_block (hb.block _ hr2.lt))
              (fun k hk => by rw [hf2 k hk, hf1 k hk]) (own_keep ho2 hb (fun b hb => (ho2.lt b hb).2)) (by omega) (by omega)
              (fin2 ⟨_, Ra⟩ ⟨_, Rb⟩)
              (fin2 (fun h => by have := (ia _ h).2; omega) (fun h => by have := (ib _ h).1; omega))
              (fin2 (fun b hb h => by have := (ia b hb).2; rcases key b h with h | h <;> omega) (fun b hb h => by have := ib b hb; rcases key b h with h | h <;> omega))
              (ap2 (ia.ap ib (by omega))) (fin2 (by show 0 ≤ _; omega) (by show 0 ≤ _; omega)) (by omega) (bl (bl HBn.out hne) hb) (Nat.le_refl _)
            refine hA.mono ?_
            rintro ev w' ⟨h1, hbut⟩
            refine ⟨h1, hbut.below (by omega) ?_⟩
            rintro k ⟨m, hm, e⟩
            rcases m with _|_|m
            · have := (ia k e).1; omega
            · have := (ib k e).1; omega
            · omega
          clear hkp hf1 hf2 hn2 hr1 hr1' hr2 ho1 ho1' ho2 hd2 hob hbd ia ib hgc hge HNM HDF
          go_upto_region 31 with fail
          go_region_held3 (fun W' => W'.cell? ⟨w5.heap.size, 0, none⟩ = some (.int .i64 L) ∧ W'.cell? ⟨w5.heap.size, 1, none⟩ = some (.string x1) ∧ W'.cell? ⟨w5.heap.size, 2, none⟩ = some (.string x2) ∧ W'.cell? ⟨w5.heap.size, 3, none⟩ = some (.int .i64 i3) ∧ W'.cell? ⟨w5.heap.size, 4, none⟩ = some (.int .i64 i4) ∧ W'.cell? ⟨w5.heap.size, 5, none⟩ = some (.int .i64 i5) ∧ W'.cell? ⟨w5.heap.size, 6, none⟩ = some (.string x6) ∧ W'.cell? ⟨w5.heap.size, 7, none⟩ = some (.int .i64 0))
            (first
              | exact HQn.out _ hne.drew
              | exact HQn.out _ (bl hne k1)
              | exact HQn.out _ (bl hne k2)
              | exact HQn.out _ kk3
              | exact HQn.out _ k4
              | go_keep)
            ((first
              | (go_at_call 17; refine (HCD.out _ hne.drew).mono ?_; rintro ev v1 ⟨rfl, k0⟩; have k1 : Below we.heap.size we v1 := bl (Below.refl _ _).drew k0; clear k0)
              | (go_at_call 31; refine (HEQ.out _ k1).mono ?_; rintro ev v2 ⟨rfl, k0⟩; have k2 : Below we.heap.size we v2 := bl k1 k0; clear k0)
              | (go_at_call 32; refine (HAP.out _ k2).mono ?_; rintro ev v3 ⟨rfl, k3⟩; have kk3 : Below wn.heap.size wn v3 := (bl hne k2).trans k3; clear k3)
              | (go_at_call 10; refine (HWK.out _ (bl HBn.out kk3)).mono ?_; rintro ev v4 ⟨rfl, k0⟩; have k4 : Below wn.heap.size wn v4 := bl kk3 k0; clear k0)))
          go_wp2_with fail
          go_ret
          exact ⟨rfl, bl HBn.out k4⟩
        · obtain ⟨j, rfl⟩ : ∃ j, k = j + 1 := ⟨k - 1, by omega⟩
          rw [show ((j + 1 : Nat) : Int) - 1 = (j : Int) by omega]
          obtain ⟨d, hdj⟩ : ∃ d, ds[j]? = some d := ⟨_, List.getElem?_eq_getElem (by omega)⟩
          obtain ⟨bb, oo, rfl, hbb, c0⟩ := text_cell (HEE.out _ (bl HBW.out hb)) (Below.refl _ _) hdj
          have hw := fun W => wrap_any d .no W trivial
          simp only [Er.val] at hw
          have HBR := Lib.hid hb
          clear hb hdj
          go_wp2_with fail
          (refine (hw _).mono ?_); rintro ev wg ⟨u, rfl, _, hb, hu, _⟩
          obtain rfl := hu trivial
          have HBG := Lib.hid (bl HBR.out hb)
          clear hb hu hw
          simp only [Er.val]
          go_wp2_with fail
          go_roundg j
          case measure => omega
          case rel => exact ⟨j, by omega, rfl, rfl, by go_num, HBG.out⟩
    · have hk1 : (K == 0) = false := by simpa using hk0
      have hk2 : (K != 0) = true := by simpa using hk0
      have hkw : wnK D ≠ 0 := by rw [HK.out]; exact hk0
      have hpt : e.ptrd := ptrd_of HIS.out hkw
      obtain ⟨Dz, zz, hzz⟩ := Er.face (Er.ptrd_no hpt)
      have HZE := Lib.hid hzz
      rw [HZ.out] at hzz
      subst hzz
      have hrt := refText_any D W5 (HT.out.below HBW.out) HOK.out hkw
      rw [HV.out] at hrt
      have hts := wnT_size HOK.out
      obtain ⟨T0, hT0⟩ : ∃ T0, wnT D = T0 := ⟨_, rfl⟩
      rw [hT0] at hrt hts
      have HT0 : Hid (e.tx = T0) := Lib.hid (by rw [HF.out.tx, hT0])
      have HTS := Lib.hid hts
      have HPT := Lib.hid hpt
      have HFA : Hid (e.lab.getD 0 = L ∧ e.lab.isSome = (L != 0) ∧ e.code.getD 0 = K ∧ e.defs = [] ∧ e.dep ≤ 2 ∧ e.tells) := Lib.hid (by
        have h := HF.out
        exact ⟨by rw [h.lab, HL.out], by rw [h.is, HL.out], by rw [h.code, HK.out], h.defs, h.dep, h.tells⟩)
      clear hkw hpt hT0 hts HF HIS HV HK HZ HOK HL hk0
      go_wp2_with fail
      (refine hrt.mono ?_); rintro ev w6 ⟨rfl, hb⟩
      have HB56 := Lib.hid hb
      clear hb hrt q0 q1 q2 q3 q4 q5 q6 q7
      go_wp2_with fail
      go_loopg [7, 9, 11, 12, 13] ds.length (fun q er sa i wa_ in_ wr => ∃ k : Nat, k ≤ ds.length ∧ k = q ∧ i = .int .i64 ((k : Int) - 1) ∧ Below w6.heap.size w6 wr ∧ ∃ (ek : Er) (S : ByteArray), er = ek.val ∧ sa = .string S ∧ LInv ds e k ek S wr)
      case atStart => exact ⟨ds.length, Nat.le_refl _, rfl, by go_num, Below.refl _ _, e, T0, HZE.out.symm, rfl, .start (HE.out _ (bl HBW4.out HB56.out)) HFA.out.2.2.2.2.2 HT0.out HTS.out⟩
      case round =>
        obtain ⟨k, hk, rfl, rfl, hb, ek, S, rfl, rfl, hI⟩ := hrel
        have hpk : ek.ptrd := hI.2.1.ptrd HPT.out
        obtain ⟨Dk, zk, hzk⟩ := Er.face (Er.ptrd_no hpk)
        rw [hzk]
        have HZK := Lib.hid hzk
        have HI := Lib.hid hI
        have HPK := Lib.hid hpk
        have HBR : Hid (Below W5.heap.size W5 wr) := Lib.hid (bl HB56.out hb)
        have HB6R := Lib.hid hb
        clear hzk hI hpk hb
        by_cases h0 : k = 0
        · subst h0
          rw [show ((0 : Nat) : Int) - 1 = -1 from rfl]
          have q7 := (HQ.out _ HBR.out).2.2.2.2.2.2.2
          go_wp2_with fail
          (refine (copyTexts_any ds E c3 _ h500 (HEE.out _ (bl HBW.out HBR.out))).mono ?_); rintro ev wn ⟨An, cn, rfl, hsn, hb⟩
          have HBn : Hid (Below w.heap.size w wn) := Lib.hid (bl (bl HBW.out HBR.out) hb)
          have HQn : Hid (∀ W', Below wn.heap.size wn W' → (W'.cell? ⟨w5.heap.size, 0, none⟩ = some (.int .i64 L) ∧ W'.cell? ⟨w5.heap.size, 1, none⟩ = some (.string x1) ∧ W'.cell? ⟨w5.heap.size, 2, none⟩ = some (.string x2) ∧ W'.cell? ⟨w5.heap.size, 3, none⟩ = some (.int .i64 i3) ∧ W'.cell? ⟨w5.heap.size, 4, none⟩ = some (.int .i64 i4) ∧ W'.cell? ⟨w5.heap.size, 5, none⟩ = some (.int .i64 i5) ∧ W'.cell? ⟨w5.heap.size, 6, none⟩ = some (.string x6) ∧ W'.cell? ⟨w5.heap.size, 7, none⟩ = some (.int .i64 K))) := Lib.hid fun W' hb' => HQ.out _ (bl (bl HBR.out hb) hb')
          have HNM : Hid (∀ W : World, Below wn.heap.size wn W → Sl W W.heap.size 1 An ds.length (tvals ds)) := Lib.hid fun W hb' => (hsn.below hb').more hb'.size
          obtain ⟨e', he'⟩ : ∃ e', e' = ek := ⟨_, rfl⟩
          have HEn : Hid (∀ W, Below wn.heap.size wn W → e'.At W) := Lib.hid fun W hb' => by rw [he']; exact Er.At.below (bl hb hb') HI.out.1
          have HFX : Hid (e'.lab.getD 0 = L ∧ e'.lab.isSome = (L != 0) ∧ e'.code.getD 0 = K ∧ e'.defs = ds ∧ e'.dep ≤ 900) := Lib.hid (by
            have h := HI.out.2.1
            obtain ⟨f1, f2, f3, f4, f5, _⟩ := HFA.out
            rw [List.drop_zero] at h
            rw [he', h.lab, h.code, h.defs, h.dep, f4, List.append_nil]
            exact ⟨f1, f2, f3, rfl, by omega⟩)
          have HZX : Hid (e'.val = .iface Dk zk) := Lib.hid (by rw [he', HZK.out])
          clear he' HI HZK HPK HBR HQ HB56 HB6R HFA HPT HTS HT0 HE HBW4 hb hsn HZE
          have hlb := label_any e' wn (HG.out.below HBn.out) (HEn.out _ (Below.refl _ _))
          rw [HFX.out.1, HFX.out.2.1, HZX.out] at hlb
          have HDF : Hid (∀ W, Below wn.heap.size wn W → Calls Tryd.prog 18 #[(.iface Dk zk)] W fun ev w' => ∃ v, ev = .returned v ∧ w'.ownsRow W.heap.size 9 1 v ds.length (tvals ds) ∧ Below W.heap.size W w') := Lib.hid fun W hb => by
            have h := defs_any e' W (HEn.out _ hb) HFX.out.2.2.2.2
            rw [HFX.out.2.2.2.1, HZX.out] at h; exact h
          have HCD : Hid (∀ W, Below wn.heap.size wn W → Calls Tryd.prog 17 #[(.iface Dk zk)] W fun ev w' => ev = .returned (.int .i64 K) ∧ Below W.heap.size W w') := Lib.hid fun W hb => by
            have h := code_any e' W (HG.out.below (bl HBn.out hb)) (HEn.out _ hb)
            rw [HFX.out.2.2.1, HZX.out] at h; exact h
          clear HFX HZX HEn
          go_wp2_with fail
          (refine hlb.mono ?_); rintro ev wa ⟨rfl, hb⟩
          have HBna := Lib.hid hb
          clear hb hlb
          go_wp2_with fail
          (refine (HDF.out _ HBna.out).mono ?_); rintro ev wb ⟨v, rfl, hoa, hb⟩
          obtain ⟨Aa, ca, rfl, _, _⟩ := own_shape hoa
          have ia := In.of_own (hoa)
          have HOA := Lib.hid hoa
          have HBab := Lib.hid hb
          clear hb hoa
          go_wp2_with fail
          have hr0 := bag_new wb 82
          have hg0 : Below wb.heap.size wb (wb.alloc (.cells bagCells 82)) := bal (Below.refl _ _) _
          refine (addTexts_fine wb.heap.size (wb.heap.size + 1) 0 (fun _ => nilV) [] Aa _ ca _ hr0 (World.ownsRow_nil _ _ _ _) (by omega) (by omega) (by simp)).mono ?_
          rintro ev wc ⟨rfl, f1, hr1, hf1, ho1, hd1, hn1, _⟩
          have hgc : Below wb.heap.size wb wc := hg0.trans hd1
          clear hr0 hg0 hd1 hn1
          go_wp2_with fail
          (refine (HDF.out _ (bl (bl HBna.out HBab.out) hgc)).mono ?_); rintro ev wd ⟨v2, rfl, hob, hbd⟩
          obtain ⟨Ab, cb, rfl, _, _⟩ := own_shape hob
          have ib := In.of_own (hob)
          have z1 := hr1.lt
          have hr1' := hr1.of_block (hbd.block _ hr1.lt)
          have ho1' := own_keep ho1 hbd (fun b hb => (ho1.lt b hb).2)
          have z2 := hr1'.lt
          go_wp2_with fail
          refine (addTexts_fine wb.heap.size (wb.heap.size + 1) 1 f1 _ Ab _ cb _ hr1' ho1' (by omega) (by omega) (by omega)).mono ?_
          rintro ev we ⟨rfl, f2, hr2, hf2, ho2, hd2, hn2, hkp⟩
          have hge : Below wb.heap.size wb we := (hgc.trans (hbd.mono (by omega))).trans hd2
          have hne : Below wn.heap.size wn we := bl (bl HBna.out HBab.out) hge
          have za := HBna.out.size
          have zb := HBab.out.size
          have zw := HBn.out.size
          have HEQ : Hid (∀ W, Below we.heap.size we W → Calls Tryd.prog 31 #[.slice Aa ds.length ca, .slice An ds.length cn] W fun ev w' => ev = .returned (.bool true) ∧ Below W.heap.size W w') := Lib.hid fun W hb => by
            have h := own_keep HOA.out (bl hge hb) (fun b hb => (ia b hb).2)
            obtain ⟨A2, c2', hv, _, _, hsl⟩ := Sl.of_own h
            injection hv with e1 e2 e3
            subst e1
            exact eqTexts_any ds Aa An ca cn W (by have := h500; first | omega | decide) hsl (HNM.out _ (bl hne hb))
          have HAP : Hid (∀ W, Below we.heap.size we W → Calls Tryd.prog 32 #[.pointer (some ⟨wb.heap.size, 0, none⟩)] W fun ev w' => ev = .returned (.bool true) ∧ Below wn.heap.size W w') := Lib.hid fun W hb => by
            have zW := hb.size
            have zr := hr2.lt
            have Ra := own_less (own_keep HOA.out (bl hge hb) (fun b hb => (ia b hb).2)) (base' := w.heap.size) (by omega)
            have Rb := own_less (own_keep (own_at hob (fun b hb => hkp b (ib b hb).2 (by have := (ib b hb).1; omega) (fun h => by have := (ho1.lt b h).2; have := (ib b hb).1; omega))) hb (fun b hb => by have := (ib b hb).2; have := hd2.size; omega)) (base' := w.heap.size) (by omega)
            have hrow : (f2 4).ownBlock = (f1 4).ownBlock ∨ True := .inr trivial
            have key : ∀ b, (f2 4).ownBlock = some b → (wb.heap.size + 1 ≤ b ∧ b < wc.heap.size) ∨ wd.heap.size ≤ b := fun b hb => by
              rcases hn2 b hb with h | h
              · exact .inl (ho1.lt b h)
              · exact .inr h
            have hA := apart_texts2 w HT.out wb.heap.size w.heap.size 2 f2 (fun m => [Value.slice Aa ds.length ca, .slice Ab ds.length cb].getD m nilV) (fun m => ds.length) W (hr2.of_block (hb.block _ hr2.lt))
              (fun k hk => by rw [hf2 k hk, hf1 k hk]) (own_keep ho2 hb (fun b hb => (ho2.lt b hb).2)) (by omega) (by omega)
              (fin2 ⟨_, Ra⟩ ⟨_, Rb⟩)
              (fin2 (fun h => by have := (ia _ h).2; omega) (fun h => by have := (ib _ h).1; omega))
              (fin2 (fun b hb h => by have := (ia b hb).2; rcases key b h with h | h <;> omega) (fun b hb h => by have := ib b hb; rcases key b h with h | h <;> omega))
              (ap2 (ia.ap ib (by omega))) (fin2 (by show ds.length ≤ _; omega) (by show ds.length ≤ _; omega)) (by omega) (bl (bl HBn.out hne) hb) (Nat.le_refl _)
            refine hA.mono ?_
            rintro ev w' ⟨h1, hbut⟩
            refine ⟨h1, hbut.below (by omega) ?_⟩
            rintro k ⟨m, hm, e⟩
            rcases m with _|_|m
            · have := (ia k e).1; omega
            · have := (ib k e).1; omega
            · omega
          clear hkp hf1 hf2 hn2 hr1 hr1' hr2 ho1 ho1' ho2 hd2 hob hbd ia ib hgc hge HNM HDF
          go_upto_region 31 with fail
          go_region_held3 (fun W' => W'.cell? ⟨w5.heap.size, 0, none⟩ = some (.int .i64 L) ∧ W'.cell? ⟨w5.heap.size, 1, none⟩ = some (.string x1) ∧ W'.cell? ⟨w5.heap.size, 2, none⟩ = some (.string x2) ∧ W'.cell? ⟨w5.heap.size, 3, none⟩ = some (.int .i64 i3) ∧ W'.cell? ⟨w5.heap.size, 4, none⟩ = some (.int .i64 i4) ∧ W'.cell? ⟨w5.heap.size, 5, none⟩ = some (.int .i64 i5) ∧ W'.cell? ⟨w5.heap.size, 6, none⟩ = some (.string x6) ∧ W'.cell? ⟨w5.heap.size, 7, none⟩ = some (.int .i64 K))
            (first
              | exact HQn.out _ hne.drew
              | exact HQn.out _ (bl hne k1)
              | exact HQn.out _ (bl hne k2)
              | exact HQn.out _ kk3
              | exact HQn.out _ k4
              | go_keep)
            ((first
              | (go_at_call 17; refine (HCD.out _ hne.drew).mono ?_; rintro ev v1 ⟨rfl, k0⟩; have k1 : Below we.heap.size we v1 := bl (Below.refl _ _).drew k0; clear k0)
              | (go_at_call 31; refine (HEQ.out _ k1).mono ?_; rintro ev v2 ⟨rfl, k0⟩; have k2 : Below we.heap.size we v2 := bl k1 k0; clear k0)
              | (go_at_call 32; refine (HAP.out _ k2).mono ?_; rintro ev v3 ⟨rfl, k3⟩; have kk3 : Below wn.heap.size wn v3 := (bl hne k2).trans k3; clear k3)
              | (go_at_call 10; refine (HWK.out _ (bl HBn.out kk3)).mono ?_; rintro ev v4 ⟨rfl, k0⟩; have k4 : Below wn.heap.size wn v4 := bl kk3 k0; clear k0)))
          go_wp2_with fail
          go_ret
          exact ⟨rfl, bl HBn.out k4⟩
        · obtain ⟨j, rfl⟩ : ∃ j, k = j + 1 := ⟨k - 1, by omega⟩
          rw [show ((j + 1 : Nat) : Int) - 1 = (j : Int) by omega]
          obtain ⟨d, hdj⟩ : ∃ d, ds[j]? = some d := ⟨_, List.getElem?_eq_getElem (by omega)⟩
          obtain ⟨bb, oo, rfl, hbb, c0⟩ := text_cell (HEE.out _ (bl HBW.out HBR.out)) (Below.refl _ _) hdj
          have HDJ := Lib.hid hdj
          have HDZ := Lib.hid (HDS.out d (List.mem_of_getElem? hdj))
          have hw := wrapS_any d ek wr HI.out.1 (Er.ptrd_no HPK.out)
          rw [HZK.out] at hw
          have f1 : (j : Int) < (ds.length : Int) := by omega
          have f2 : (0 : Int) ≤ (j : Int) := by omega
          clear hdj
          go_wp2_with fail
          (refine hw.mono ?_); rintro ev wg ⟨rfl, hat, hb⟩
          have HBG := Lib.hid hb
          have c0g : wg.cell? ⟨bb, oo + j, none⟩ = some (.string d) := (hb.cell (p := ⟨bb, oo + j, none⟩) hbb).trans c0
          clear hw
          go_upto_region 18 with fail
          obtain ⟨Wi, hWi⟩ : ∃ Wi, wg.alloc (.cells #[.pointer none] 55) = Wi := ⟨_, rfl⟩
          rw [hWi]
          have hbi : Below wg.heap.size wg Wi := by rw [← hWi]; exact bal (Below.refl _ _) _
          have hbk : Blk Wi wg.heap.size 55 #[.pointer none] := by rw [← hWi]; exact Blk.new _ _ _
          have hati : (Er.inn wr.heap.size d ek).At Wi := Er.At.below hbi hat
          have hbI : Blk Wi wr.heap.size 59 #[.string d, .iface Dk zk] := by have h := hati.1; rw [HZK.out] at h; exact h
          have hag : wr.heap.size < wg.heap.size := hat.1.lt
          have c0i : Wi.cell? ⟨bb, oo + j, none⟩ = some (.string d) := (hbi.cell (p := ⟨bb, oo + j, none⟩) (Nat.lt_of_lt_of_le hbb hb.size)).trans c0g
          have hbbg : bb < wg.heap.size := Nat.lt_of_lt_of_le hbb hb.size
          have y0 : Wi.cell? ⟨wr.heap.size, 0, none⟩ = some (.string d) := by rw [hbI.cell 0]; rfl
          have y1 : Wi.cell? ⟨wr.heap.size, 1, none⟩ = some (.iface Dk zk) := by rw [hbI.cell 1]; rfl
          have HWi : Hid (Below w.heap.size w Wi) := Lib.hid (bl (bl (bl HBW.out HBR.out) hb) hbi)
          have HA : Hid (∀ W', Below Wi.heap.size Wi W' → Calls Tryd.prog 26 #[.iface 55 (.pointer (some ⟨wr.heap.size, 0, none⟩)), .iface 57 (.pointer (some ⟨wg.heap.size, 0, none⟩))] W' fun ev w' => ev = .returned (.bool true) ∧ (w'.cell? ⟨wr.heap.size, 0, none⟩ = some (.string d) ∧ w'.cell? ⟨wr.heap.size, 1, none⟩ = some (.iface Dk zk) ∧ w'.cell? ⟨bb, oo + j, none⟩ = some (.string d) ∧ w'.cell? ⟨wg.heap.size, 0, none⟩ = some (.pointer (some ⟨wr.heap.size, 0, none⟩))) ∧ But (· = wg.heap.size) Wi w') := Lib.hid fun W' hb' => by
            have h := As_I (.inn wr.heap.size d ek) wg.heap.size (.pointer none) W' (HG.out.below (bl HWi.out hb')) (Er.At.below hb' hati) ((hb'.cell (p := ⟨wg.heap.size, 0, none⟩) hbk.lt).trans (by rw [hbk.cell 0]; rfl)) ((hb'.frozen (p := ⟨wg.heap.size, 0, none⟩) hbk.lt).trans (by unfold World.frozen?; rw [show (⟨wg.heap.size, 0, none⟩ : Addr).block = wg.heap.size from rfl, hbk]; simp))
            refine h.mono ?_
            rintro ev w' ⟨h1, h2, h3⟩
            have hbut : But (· = wg.heap.size) Wi w' := (But.of_below hb').trans h2 fun _ _ h => h
            have n1 : ¬ (wr.heap.size = wg.heap.size) := by omega
            have n2 : ¬ (bb = wg.heap.size) := by omega
            exact ⟨h1, ⟨but_cell hbut (p := ⟨wr.heap.size, 0, none⟩) n1 y0, but_cell hbut (p := ⟨wr.heap.size, 1, none⟩) n1 y1, but_cell hbut (p := ⟨bb, oo + j, none⟩) n2 c0i, h3⟩, hbut⟩
          have hal : ∀ W', Calls Tryd.prog 27 #[.iface Dk zk, .iface Dk zk] W' fun ev w' => ev = .returned (.bool true) ∧ W' = w' := fun W' => by
            have h := alike_any ek W' HPK.out
            rw [HZK.out] at h; exact h
          have HU : Hid (∀ W', But (· = wg.heap.size) Wi W' → Calls Tryd.prog 28 #[.pointer (some ⟨wr.heap.size, 0, none⟩)] W' fun ev w' => ev = .returned (.iface Dk zk) ∧ W' = w') := Lib.hid fun W' hbut =>
            unI_some wr.heap.size d (.iface Dk zk) W' ((hbut.block wr.heap.size hbI.lt (by omega)).trans hbI)
          have HAT := Lib.hid hat
          have HBI := Lib.hid hbi
          clear hat hbi hbk hati hbI c0 c0g c0i y0 y1 hbb hb hWi
          refine wp_region_any (by kernel_rfl) ?_
          try (change wpAny _ _ _ _ _ _ _ (World.drew _))
          refine wpAny_take (i := 0) (oi := ⟨some 64, _, _, _, _, _⟩) (v := ?vv1) rfl (by kernel_rfl) (by kernel_rfl) (by kernel_rfl) (fun _ _ _ h => h) (Or.inl ⟨by rfl, ?yy1⟩) ?rr1
          case yy1 => (intro wq; go_simp; try with_reducible rfl)
          try simp only [Act.put, List.setIfInBounds_toArray, List.set_cons_zero, List.set_cons_succ]
          refine wpAny_take (i := 1) (oi := ⟨some 65, _, _, _, _, _⟩) (v := ?vv2) rfl (by kernel_rfl) (by kernel_rfl) (by kernel_rfl) (fun _ _ _ h => h) (Or.inl ⟨by rfl, ?yy2⟩) ?rr2
          case yy2 => (intro wq; go_simp; try with_reducible rfl)
          try simp only [Act.put, List.setIfInBounds_toArray, List.set_cons_zero, List.set_cons_succ]
          refine wpAny_take (i := 2) (oi := ⟨some 66, _, _, _, _, _⟩) (v := ?vv3) rfl (by kernel_rfl) (by kernel_rfl) (by kernel_rfl) (fun _ _ _ h => h) (Or.inl ⟨by rfl, ?yy3⟩) ?rr3
          case yy3 => (intro wq; go_simp; try with_reducible rfl)
          try simp only [Act.put, List.setIfInBounds_toArray, List.set_cons_zero, List.set_cons_succ]
          refine wpAny_take (i := 3) (oi := ⟨some 67, _, _, _, _, _⟩) (v := ?vv4) rfl (by kernel_rfl) (by kernel_rfl) (by kernel_rfl) (fun _ _ _ h => h) (Or.inl ⟨by rfl, ?yy4⟩) ?rr4
          case yy4 => (intro wq; go_simp; try with_reducible rfl)
          try simp only [Act.put, List.setIfInBounds_toArray, List.set_cons_zero, List.set_cons_succ]
          refine wpAny_take (i := 4) (oi := ⟨some 68, _, _, _, _, _⟩) (v := ?vv5) rfl (by kernel_rfl) (by kernel_rfl) (by kernel_rfl) (fun _ _ _ h => h) (Or.inl ⟨by rfl, ?yy5⟩) ?rr5
          case yy5 => (intro wq; go_simp; try with_reducible rfl)
          try simp only [Act.put, List.setIfInBounds_toArray, List.set_cons_zero, List.set_cons_succ]
          refine wpAny_ready (rs := [5]) (by kernel_rfl) (by simp) ?_
          refine AllReady.cons rfl (fun K hK => ?_) AllReady.nil
          go_simp
          ((refine (HA.out _ (Below.refl _ _).drew).mono ?_); rintro ev wA ⟨rfl, hw1, hbut1⟩)
          refine hK _ _ ?_
          clear hK K
          try simp only [Act.put, List.setIfInBounds_toArray, List.set_cons_zero, List.set_cons_succ]
          refine wpAny_of_held (S := (fun W' => W'.cell? ⟨wr.heap.size, 0, none⟩ = some (.string d) ∧ W'.cell? ⟨wr.heap.size, 1, none⟩ = some (.iface Dk zk) ∧ W'.cell? ⟨bb, oo + j, none⟩ = some (.string d) ∧ W'.cell? ⟨wg.heap.size, 0, none⟩ = some (.pointer (some ⟨wr.heap.size, 0, none⟩)))) _ _ _ _ ?_
          have hHeld : (fun W' => W'.cell? ⟨wr.heap.size, 0, none⟩ = some (.string d) ∧ W'.cell? ⟨wr.heap.size, 1, none⟩ = some (.iface Dk zk) ∧ W'.cell? ⟨bb, oo + j, none⟩ = some (.string d) ∧ W'.cell? ⟨wg.heap.size, 0, none⟩ = some (.pointer (some ⟨wr.heap.size, 0, none⟩))) wA := hw1
          clear HA
          refine wpAnyH_take (i := 6) (oi := ⟨some 70, _, _, _, _, _⟩) (v := ?vv7) rfl (by kernel_rfl) (by kernel_rfl) (by kernel_rfl) (fun _ _ _ h => h) (Or.inl ⟨by rfl, ?yy7⟩) (by assumption) ?rr7
          case yy7 => (intro wq hSw; (try dsimp only at hSw); go_simp; try with_reducible rfl)
          try simp only [Act.put, List.setIfInBounds_toArray, List.set_cons_zero, List.set_cons_succ]
          refine wpAnyH_take (i := 7) (oi := ⟨some 71, _, _, _, _, _⟩) (v := ?vv8) rfl (by kernel_rfl) (by kernel_rfl) (by kernel_rfl) (fun _ _ _ h => h) (Or.inl ⟨by rfl, ?yy8⟩) (by assumption) ?rr8
          case yy8 => (intro wq hSw; (try dsimp only at hSw); go_simp; try with_reducible rfl)
          try simp only [Act.put, List.setIfInBounds_toArray, List.set_cons_zero, List.set_cons_succ]
          refine wpAnyH_take (i := 8) (oi := ⟨some 72, _, _, _, _, _⟩) (v := ?vv9) rfl (by kernel_rfl) (by kernel_rfl) (by kernel_rfl) (fun _ _ _ h => h) (Or.inl ⟨by rfl, ?yy9⟩) (by assumption) ?rr9
          case yy9 => (intro wq hSw; (try dsimp only at hSw); go_simp; try with_reducible rfl)
          try simp only [Act.put, List.setIfInBounds_toArray, List.set_cons_zero, List.set_cons_succ]
          refine wpAnyH_take (i := 9) (oi := ⟨some 73, _, _, _, _, _⟩) (v := ?vv10) rfl (by kernel_rfl) (by kernel_rfl) (by kernel_rfl) (fun _ _ _ h => h) (Or.inl ⟨by rfl, ?yy10⟩) (by assumption) ?rr10
          case yy10 => (intro wq hSw; (try dsimp only at hSw); go_simp; try with_reducible rfl)
          try simp only [Act.put, List.setIfInBounds_toArray, List.set_cons_zero, List.set_cons_succ]
          refine wpAnyH_take (i := 10) (oi := ⟨some 74, _, _, _, _, _⟩) (v := ?vv11) rfl (by kernel_rfl) (by kernel_rfl) (by kernel_rfl) (fun _ _ _ h => h) (Or.inl ⟨by rfl, ?yy11⟩) (by assumption) ?rr11
          case yy11 => (intro wq hSw; (try dsimp only at hSw); go_simp; try with_reducible rfl)
          try simp only [Act.put, List.setIfInBounds_toArray, List.set_cons_zero, List.set_cons_succ]
          refine wpAnyH_take (i := 11) (oi := ⟨some 75, _, _, _, _, _⟩) (v := ?vv12) rfl (by kernel_rfl) (by kernel_rfl) (by kernel_rfl) (fun _ _ _ h => h) (Or.inl ⟨by rfl, ?yy12⟩) (by assumption) ?rr12
          case yy12 => (intro wq hSw; (try dsimp only at hSw); go_simp; try with_reducible rfl)
          try simp only [Act.put, List.setIfInBounds_toArray, List.set_cons_zero, List.set_cons_succ]
          refine wpAnyH_take (i := 12) (oi := ⟨some 76, _, _, _, _, _⟩) (v := ?vv13) rfl (by kernel_rfl) (by kernel_rfl) (by kernel_rfl) (fun _ _ _ h => h) (Or.inl ⟨by rfl, ?yy13⟩) (by assumption) ?rr13
          case yy13 => (intro wq hSw; (try dsimp only at hSw); go_simp; try with_reducible rfl)
          try simp only [Act.put, List.setIfInBounds_toArray, List.set_cons_zero, List.set_cons_succ]
          refine wpAnyH_take (i := 13) (oi := ⟨some 77, _, _, _, _, _⟩) (v := ?vv14) rfl (by kernel_rfl) (by kernel_rfl) (by kernel_rfl) (fun _ _ _ h => h) (Or.inl ⟨by rfl, ?yy14⟩) (by assumption) ?rr14
          case yy14 => (intro wq hSw; (try dsimp only at hSw); go_simp; try with_reducible rfl)
          try simp only [Act.put, List.setIfInBounds_toArray, List.set_cons_zero, List.set_cons_succ]
          refine wpAnyH_take (i := 14) (oi := ⟨some 78, _, _, _, _, _⟩) (v := ?vv15) rfl (by kernel_rfl) (by kernel_rfl) (by kernel_rfl) (fun _ _ _ h => h) (Or.inl ⟨by rfl, ?yy15⟩) (by assumption) ?rr15
          case yy15 => (intro wq hSw; (try dsimp only at hSw); go_simp; try with_reducible rfl)
          try simp only [Act.put, List.setIfInBounds_toArray, List.set_cons_zero, List.set_cons_succ]
          refine wpAnyH_take (i := 15) (oi := ⟨some 79, _, _, _, _, _⟩) (v := ?vv16) rfl (by kernel_rfl) (by kernel_rfl) (by kernel_rfl) (fun _ _ _ h => h) (Or.inl ⟨by rfl, ?yy16⟩) (by assumption) ?rr16
          case yy16 => (intro wq hSw; (try dsimp only at hSw); go_simp; try with_reducible rfl)
          try simp only [Act.put, List.setIfInBounds_toArray, List.set_cons_zero, List.set_cons_succ]
          refine wpAnyH_take (i := 16) (oi := ⟨some 80, _, _, _, _, _⟩) (v := ?vv17) rfl (by kernel_rfl) (by kernel_rfl) (by kernel_rfl) (fun _ _ _ h => h) (Or.inl ⟨by rfl, ?yy17⟩) (by assumption) ?rr17
          case yy17 => (intro wq hSw; (try dsimp only at hSw); go_simp; try with_reducible rfl)
          try simp only [Act.put, List.setIfInBounds_toArray, List.set_cons_zero, List.set_cons_succ]
          refine wpAnyH_take (i := 17) (oi := ⟨some 81, _, _, _, _, _⟩) (v := ?vv18) rfl (by kernel_rfl) (by kernel_rfl) (by kernel_rfl) (fun _ _ _ h => h) (Or.inl ⟨by rfl, ?yy18⟩) (by assumption) ?rr18
          case yy18 => (intro wq hSw; (try dsimp only at hSw); go_simp; try with_reducible rfl)
          try simp only [Act.put, List.setIfInBounds_toArray, List.set_cons_zero, List.set_cons_succ]
          refine wpAnyH_take (i := 18) (oi := ⟨some 82, _, _, _, _, _⟩) (v := ?vv19) rfl (by kernel_rfl) (by kernel_rfl) (by kernel_rfl) (fun _ _ _ h => h) (Or.inl ⟨by rfl, ?yy19⟩) (by assumption) ?rr19
          case yy19 => (intro wq hSw; (try dsimp only at hSw); go_simp; try with_reducible rfl)
          try simp only [Act.put, List.setIfInBounds_toArray, List.set_cons_zero, List.set_cons_succ]
          refine wpAnyH_take (i := 19) (oi := ⟨some 83, _, _, _, _, _⟩) (v := ?vv20) rfl (by kernel_rfl) (by kernel_rfl) (by kernel_rfl) (fun _ _ _ h => h) (Or.inl ⟨by rfl, ?yy20⟩) (by assumption) ?rr20
          case yy20 => (intro wq hSw; (try dsimp only at hSw); go_simp; try with_reducible rfl)
          try simp only [Act.put, List.setIfInBounds_toArray, List.set_cons_zero, List.set_cons_succ]
          refine wpAnyH_take (i := 20) (oi := ⟨some 84, _, _, _, _, _⟩) (v := ?vv21) rfl (by kernel_rfl) (by kernel_rfl) (by kernel_rfl) (fun _ _ _ h => h) (Or.inl ⟨by rfl, ?yy21⟩) (by assumption) ?rr21
          case yy21 => (intro wq hSw; (try dsimp only at hSw); go_simp; try with_reducible rfl)
          try simp only [Act.put, List.setIfInBounds_toArray, List.set_cons_zero, List.set_cons_succ]
          refine wpAnyH_take (i := 21) (oi := ⟨some 85, _, _, _, _, _⟩) (v := ?vv22) rfl (by kernel_rfl) (by kernel_rfl) (by kernel_rfl) (fun _ _ _ h => h) (Or.inl ⟨by rfl, ?yy22⟩) (by assumption) ?rr22
          case yy22 => (intro wq hSw; (try dsimp only at hSw); go_simp; try with_reducible rfl)
          try simp only [Act.put, List.setIfInBounds_toArray, List.set_cons_zero, List.set_cons_succ]
          refine wpAnyH_take (i := 22) (oi := ⟨some 86, _, _, _, _, _⟩) (v := ?vv23) rfl (by kernel_rfl) (by kernel_rfl) (by kernel_rfl) (fun _ _ _ h => h) (Or.inl ⟨by rfl, ?yy23⟩) (by assumption) ?rr23
          case yy23 => (intro wq hSw; (try dsimp only at hSw); go_simp; try with_reducible rfl)
          try simp only [Act.put, List.setIfInBounds_toArray, List.set_cons_zero, List.set_cons_succ]
          refine wpAnyH_take (i := 23) (oi := ⟨some 87, _, _, _, _, _⟩) (v := ?vv24) rfl (by kernel_rfl) (by kernel_rfl) (by kernel_rfl) (fun _ _ _ h => h) (Or.inl ⟨by rfl, ?yy24⟩) (by assumption) ?rr24
          case yy24 => (intro wq hSw; (try dsimp only at hSw); go_simp; try with_reducible rfl)
          try simp only [Act.put, List.setIfInBounds_toArray, List.set_cons_zero, List.set_cons_succ]
          refine wpAnyH_take (i := 24) (oi := ⟨some 88, _, _, _, _, _⟩) (v := ?vv25) rfl (by kernel_rfl) (by kernel_rfl) (by kernel_rfl) (fun _ _ _ h => h) (Or.inl ⟨by rfl, ?yy25⟩) (by assumption) ?rr25
          case yy25 => (intro wq hSw; (try dsimp only at hSw); go_simp; try with_reducible rfl)
          try simp only [Act.put, List.setIfInBounds_toArray, List.set_cons_zero, List.set_cons_succ]
          refine wpAnyH_take (i := 25) (oi := ⟨some 89, _, _, _, _, _⟩) (v := ?vv26) rfl (by kernel_rfl) (by kernel_rfl) (by kernel_rfl) (fun _ _ _ h => h) (Or.inl ⟨by rfl, ?yy26⟩) (by assumption) ?rr26
          case yy26 => (intro wq hSw; (try dsimp only at hSw); go_simp; try with_reducible rfl)
          try simp only [Act.put, List.setIfInBounds_toArray, List.set_cons_zero, List.set_cons_succ]
          refine wpAnyH_take (i := 26) (oi := ⟨some 90, _, _, _, _, _⟩) (v := ?vv27) rfl (by kernel_rfl) (by kernel_rfl) (by kernel_rfl) (fun _ _ _ h => h) (Or.inl ⟨by rfl, ?yy27⟩) (by assumption) ?rr27
          case yy27 => (intro wq hSw; (try dsimp only at hSw); go_simp; try with_reducible rfl)
          try simp only [Act.put, List.setIfInBounds_toArray, List.set_cons_zero, List.set_cons_succ]
          refine wpAnyH_take (i := 27) (oi := ⟨some 91, _, _, _, _, _⟩) (v := ?vv28) rfl (by kernel_rfl) (by kernel_rfl) (by kernel_rfl) (fun _ _ _ h => h) (Or.inl ⟨by rfl, ?yy28⟩) (by assumption) ?rr28
          case yy28 => (intro wq hSw; (try dsimp only at hSw); go_simp; try with_reducible rfl)
          try simp only [Act.put, List.setIfInBounds_toArray, List.set_cons_zero, List.set_cons_succ]
          refine wpAnyH_take (i := 28) (oi := ⟨some 92, _, _, _, _, _⟩) (v := ?vv29) rfl (by kernel_rfl) (by kernel_rfl) (by kernel_rfl) (fun _ _ _ h => h) (Or.inl ⟨by rfl, ?yy29⟩) (by assumption) ?rr29
          case yy29 => (intro wq hSw; (try dsimp only at hSw); go_simp; try with_reducible rfl)
          try simp only [Act.put, List.setIfInBounds_toArray, List.set_cons_zero, List.set_cons_succ]
          refine wpAnyH_ready (rs := [29]) (by kernel_rfl) (by simp) ?_
          refine AllReadyH.cons rfl (fun K hK => ?_) AllReadyH.nil
          go_simp
          ((refine (hal _).mono ?_); rintro ev wB ⟨rfl, rfl⟩)
          refine hK.out _ _ ?ss30 (fun hHeld2 => ?rr30)
          case ss30 => exact hHeld
          clear hK K
          try simp only [Act.put, List.setIfInBounds_toArray, List.set_cons_zero, List.set_cons_succ]
          refine wpAnyH_take (i := 30) (oi := ⟨some 94, _, _, _, _, _⟩) (v := ?vv31) rfl (by kernel_rfl) (by kernel_rfl) (by kernel_rfl) (fun _ _ _ h => h) (Or.inl ⟨by rfl, ?yy31⟩) (by assumption) ?rr31
          case yy31 => (intro wq hSw; (try dsimp only at hSw); go_simp; try with_reducible rfl)
          try simp only [Act.put, List.setIfInBounds_toArray, List.set_cons_zero, List.set_cons_succ]
          refine wpAnyH_take (i := 31) (oi := ⟨some 95, _, _, _, _, _⟩) (v := ?vv32) rfl (by kernel_rfl) (by kernel_rfl) (by kernel_rfl) (fun _ _ _ h => h) (Or.inl ⟨by rfl, ?yy32⟩) (by assumption) ?rr32
          case yy32 => (intro wq hSw; (try dsimp only at hSw); go_simp; try with_reducible rfl)
          try simp only [Act.put, List.setIfInBounds_toArray, List.set_cons_zero, List.set_cons_succ]
          refine wpAnyH_take (i := 32) (oi := ⟨some 96, _, _, _, _, _⟩) (v := ?vv33) rfl (by kernel_rfl) (by kernel_rfl) (by kernel_rfl) (fun _ _ _ h => h) (Or.inl ⟨by rfl, ?yy33⟩) (by assumption) ?rr33
          case yy33 => (intro wq hSw; (try dsimp only at hSw); go_simp; try with_reducible rfl)
          try simp only [Act.put, List.setIfInBounds_toArray, List.set_cons_zero, List.set_cons_succ]
          refine wpAnyH_take (i := 33) (oi := ⟨some 97, _, _, _, _, _⟩) (v := ?vv34) rfl (by kernel_rfl) (by kernel_rfl) (by kernel_rfl) (fun _ _ _ h => h) (Or.inl ⟨by rfl, ?yy34⟩) (by assumption) ?rr34
          case yy34 => (intro wq hSw; (try dsimp only at hSw); go_simp; try with_reducible rfl)
          try simp only [Act.put, List.setIfInBounds_toArray, List.set_cons_zero, List.set_cons_succ]
          refine wpAnyH_take (i := 35) (oi := ⟨some 99, _, _, _, _, _⟩) (v := ?vv35) rfl (by kernel_rfl) (by kernel_rfl) (by kernel_rfl) (fun _ _ _ h => h) (Or.inl ⟨by rfl, ?yy35⟩) (by assumption) ?rr35
          case yy35 => (intro wq hSw; (try dsimp only at hSw); go_simp; try with_reducible rfl)
          try simp only [Act.put, List.setIfInBounds_toArray, List.set_cons_zero, List.set_cons_succ]
          refine wpAnyH_ready (rs := [34]) (by kernel_rfl) (by simp) ?_
          refine AllReadyH.cons rfl (fun K hK => ?_) AllReadyH.nil
          go_simp
          ((refine (HU.out _ hbut1).mono ?_); rintro ev wC ⟨rfl, rfl⟩)
          refine hK.out _ _ ?ss36 (fun hHeld2 => ?rr36)
          case ss36 => exact hHeld
          clear hK K
          try simp only [Act.put, List.setIfInBounds_toArray, List.set_cons_zero, List.set_cons_succ]
          refine wpAnyH_ready (rs := [36]) (by kernel_rfl) (by simp) ?_
          refine AllReadyH.cons rfl (fun K hK => ?_) AllReadyH.nil
          go_simp
          ((refine (hal _).mono ?_); rintro ev wD ⟨rfl, rfl⟩)
          refine hK.out _ _ ?ss37 (fun hHeld2 => ?rr37)
          case ss37 => exact hHeld
          clear hK K
          try simp only [Act.put, List.setIfInBounds_toArray, List.set_cons_zero, List.set_cons_succ]
          refine wpAnyH_take (i := 37) (oi := ⟨some 101, _, _, _, _, _⟩) (v := ?vv38) rfl (by kernel_rfl) (by kernel_rfl) (by kernel_rfl) (fun _ _ _ h => h) (Or.inl ⟨by rfl, ?yy38⟩) (by assumption) ?rr38
          case yy38 => (intro wq hSw; (try dsimp only at hSw); go_simp; try with_reducible rfl)
          try simp only [Act.put, List.setIfInBounds_toArray, List.set_cons_zero, List.set_cons_succ]
          refine wpAnyH_take (i := 38) (oi := ⟨some 102, _, _, _, _, _⟩) (v := ?vv39) rfl (by kernel_rfl) (by kernel_rfl) (by kernel_rfl) (fun _ _ _ h => h) (Or.inl ⟨by rfl, ?yy39⟩) (by assumption) ?rr39
          case yy39 => (intro wq hSw; (try dsimp only at hSw); go_simp; try with_reducible rfl)
          try simp only [Act.put, List.setIfInBounds_toArray, List.set_cons_zero, List.set_cons_succ]
          refine wpAnyH_done (by kernel_rfl) ?_ _
          have HB1 : Hid (Below wg.heap.size wg wA) := Lib.hid (HBI.out.trans (hbut1.below (B := wg.heap.size) HBI.out.size (fun k hk => by omega)))
          clear hHeld hbut1 hw1 HU HBI
          by_cases hS : S.size < 65536
          · have hS' : decide ((S.size : Int) < 65536) = true := by simp; omega
            have hz := HI.out.sz h500
            have hz2 := HI.out.2.2.2.2.1
            have hzd := HDZ.out
            have hsz : d.size + 2 + S.size ≤ 4611686018427387904 := by omega
            have hnx : LInv ds e j (.inn wr.heap.size d ek) (d ++ ⟨#[58, 32]⟩ ++ S) wA := HI.out.next h500 HDJ.out HDZ.out (Er.At.below HB1.out HAT.out) (.inr ⟨rfl, hS⟩)
            have htx := text_any (.inn wr.heap.size d ek) wA hnx.1 (HT.out.below (bl (bl (bl HBW.out HBR.out) HBG.out) HB1.out)) hnx.2.2.1
            have htxe : (Er.inn wr.heap.size d ek).tx = d ++ ⟨#[58, 32]⟩ ++ S := by rw [HI.out.2.2.2.2.2 hS]; rfl
            rw [htxe] at htx
            have HNX := Lib.hid hnx
            have HTXX : Hid (Calls Tryd.prog 19 #[.iface 55 (.pointer (some ⟨wr.heap.size, 0, none⟩))] wA fun ev w' => ev = .returned (.string (d ++ ⟨#[58, 32]⟩ ++ S)) ∧ Below wA.heap.size wA w') := Lib.hid htx
            clear htxe htx hnx hz hz2 hS
            go_wp2_with fail
            (refine HTXX.out.mono ?_); rintro ev wT ⟨rfl, hbT⟩
            have HBT := Lib.hid hbT
            clear hbT
            go_wp2_with fail
            go_roundg j
            case measure => omega
            case rel => exact ⟨j, by omega, rfl, by go_num, bl (bl (bl HB6R.out HBG.out) HB1.out) HBT.out, .inn wr.heap.size d ek, d ++ ⟨#[58, 32]⟩ ++ S, rfl, rfl, ⟨Er.At.below HBT.out HNX.out.1, HNX.out.2⟩⟩
          · have hS' : decide ((S.size : Int) < 65536) = false := by simp; omega
            have HNX : Hid (LInv ds e j (.inn wr.heap.size d ek) S wA) := Lib.hid (HI.out.next h500 HDJ.out HDZ.out (Er.At.below HB1.out HAT.out) (.inl ⟨rfl, hS⟩))
            clear hS
            go_wp2_with fail
            go_roundg j
            case measure => omega
            case rel => exact ⟨j, by omega, rfl, by go_num, bl (bl HB6R.out HBG.out) HB1.out, .inn wr.heap.size d ek, S, rfl, rfl, HNX.out⟩
end Go.Proofs.YtkebplifkkhhlaaDoor.F
