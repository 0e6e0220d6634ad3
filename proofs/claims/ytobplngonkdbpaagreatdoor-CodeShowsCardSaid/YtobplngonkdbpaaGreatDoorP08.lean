/- Parts of this claim: CeT, CdX, CeV. -/
import Derived.Laws.DeepStrings4
import Derived.Lib.BufferRead
import Derived.Lib.Split
import Derived.Laws.Rows
import Derived.Laws.Tables
import Derived.Test.YtobplngonkdbpaaGreatDoorP07
import Derived.Test.YtobplngonkdbpaaGreatDoorP05
import Derived.Test.YtobplngonkdbpaaGreatDoorP03
set_option linter.unusedVariables false
set_option linter.unusedSimpArgs false
/- CeT -/
namespace Go.Proofs.YtobplngonkdbpaaGreatDoor.D
open Go.RowKit
open Go.Proofs.YtobplngonkdbpaaGreatDoor.B
set_option linter.unusedVariables false
set_option linter.unusedSimpArgs false
def TextQ (cf : Nat) (s : Bs) (g : Bool) (w : World) (e : Ending) (w' : World) : Prop :=
 ∃ b : Bs, e = .returned (strV b) /\ (∀ t, unq s = some t -> b = t) /\ Blk w' cf 141 #[.bool (g && (unq s).isSome)] /\ But (fun k => k = cf) w w'
theorem tab_named : Tryz.prog.globalNamed "internal/strconv.uint64pow10" = some 1 := by kernel_rfl
theorem gl_but {cf : Nat} {w w' : World} (h : Gl w) (h8 : 8 <= cf) (hb : But (fun k => k = cf) w w') : Gl w' := by
 have hs := h.hs
 have k : ∀ g i, g < 8 -> w'.cell? ⟨g, i, none⟩ = w.cell? ⟨g, i, none⟩ := fun g i hg => World.cell?_of_block (hb.block g (by omega) (by omega))
 refine ⟨?_, by have := hb.size; omega, ?_, ?_, ?_, ?_⟩
 ·
  refine Lib.tabBelow_of_tabIs ?_
  have ht := h.tab.here
  unfold Lib.TabIs World.var? at ht ⊢
  simp only [tab_named, Option.bind_some] at ht ⊢
  rw [hb.block _ (by omega) (by omega)]
  exact ht
 · rw [k _ _ (by decide)]; exact h.deb
 · rw [k _ _ (by decide)]; exact h.maxl
 · rw [k _ _ (by decide)]; exact h.es
 · rw [k _ _ (by decide)]; exact h.er
/-- 'string(b)' of bytes of one's own. -/
theorem conv_own {W : World} {base : Nat} {v : Value} {b : Bs} (h : W.ownsRow base 5 1 v b.length (Lib.byteCells b)) : (convert 71 9 v).run Tryz.prog W = .ok (strV b) W := by
 rcases h.2 with ⟨rfl, h0⟩ | ⟨g, cap, cur, rfl, _⟩
 ·
  have hb : b = [] := List.eq_nil_of_length_eq_zero h0
  subst hb
  exact Lib.run_convert_nil_bytes W _ _ 5 _ Tryz.underlying71 Tryz.underlying5 Tryz.underlying9
 ·
  refine run_convert_bytes_back W _ _ 5 ⟨g, 0, none⟩ cap b Tryz.underlying71 Tryz.underlying5 Tryz.underlying9 fun j hj => ?_
  exact h.cells (g := g) rfl j _ (by simp [Lib.byteCells, List.getElem?_eq_getElem hj])
theorem own_but {cf base : Nat} {W W' : World} {e : TypeId} {sz n : Nat} {v : Value} {xs : List Value} (h : W.ownsRow base e sz v n xs) (hb : But (fun k => k = cf) W W') (hcf : cf < base) : W'.ownsRow base e sz v n xs := by
 refine h.kept (row := some cf) ⟨hb.os, hb.tape, hb.output, hb.size, fun k hk hne => hb.block k hk (fun e => hne (by rw [e]))⟩ ?_
 cases hv : v.ownBlock with
 | none => exact .inl rfl
 | some b => exact .inr fun e => by have := (h.lt b hv).1; injection e with e; omega
set_option maxRecDepth 100000 in
set_option maxHeartbeats 2000000 in
theorem text_c (cf : Nat) (s : Bs) (g : Bool) (w : World) (hl : s.length <= 1073741824) (hg : Gl w) (hb : Blk w cf 141 #[.bool g]) (h8 : 8 <= cf) :
  Calls Tryz.prog 103 #[.pointer (some ⟨cf, 0, none⟩), strV s] w fun e w' => TextQ cf s g w e w' := by
 obtain ⟨i0, hi0, hz0, hz1, hz2⟩ := info_parts Bd.infoU8
 have hsz := str_size s
 have hcf := hb.lt
 have HG := Lib.hid hg
 have HB := Lib.hid hb
 have c0 := (hb.cell 0).trans rfl
 have z0 := hb.frozen 0
 simp only [List.getElem?_toArray, List.getElem?_cons_zero] at c0
 clear hg hb
 unfold strV
 go_enter Tryz.func103, Tryz.ntmps103
 by_cases h2 : s.length < 2
 ·
  go_wp2_with fail
  go_ret
  have hu := unq_short h2
  exact ⟨[], rfl, (fun t ht => by rw [hu] at ht; cases ht), (by rw [hu]; simpa using blk_set1 HB.out _), but_set (C := fun k => k = cf) (But.refl _ w) rfl _⟩
 ·
  obtain ⟨m, hm⟩ : ∃ m, s.length = m + 1 := ⟨s.length - 1, by omega⟩
  have hm1 : 1 <= m := by omega
  obtain ⟨q, hq⟩ : ∃ q, (s.drop 1).take (m - 1) = q := ⟨_, rfl⟩
  have hext := ext_at s 1 m
  have hinv := invT_init (w := s) g (by omega)
  rw [show s.length - 2 = m - 1 by omega, hq] at hinv
  rw [hq] at hext
  have hql : q.length + 2 <= 1073741826 := by rw [<- hq, List.length_take, List.length_drop]; omega
  have HINV := Lib.hid hinv
  have HM := Lib.hid hm
  rw [hm] at hsz
  clear hinv hq h2
  go_wp2_with fail
  go_loopg [5, 6] q.length (fun gg u v wr => ∃ (b l : Bs) (gd : Bool), gg = l.length /\ v = .string ⟨l.toArray⟩ /\ b.length + l.length <= q.length /\
   Hid (wr.ownsRow w.heap.size 5 1 u b.length (Lib.byteCells b) /\ invT s g b l gd /\ Blk wr cf 141 #[.bool gd] /\ But (fun k => k = cf) w wr))
  case atStart => exact ⟨[], q, g, rfl, rfl, by simp, Lib.hid ⟨World.ownsRow_nil _ _ _ _, HINV.out, HB.out, But.refl _ _⟩⟩
  case round =>
   obtain ⟨b, l, gd, rfl, rfl, hbl, HR⟩ := hrel
   obtain ⟨AV, cV, rfl, hc1, hc2⟩ := own_shape HR.out.1
   have c1 := (HR.out.2.2.1.cell 0).trans rfl
   have z1 := HR.out.2.2.1.frozen 0
   simp only [List.getElem?_toArray, List.getElem?_cons_zero] at c1
   have hlz := str_size l
   have hconv := conv_own HR.out.1
   clear c0 z0
   cases l with
   | nil =>
    have HI := Lib.hid (invT_end HR.out.2.1)
    cases gd with
    | false =>
     have hc3 := conv_own (own_but HR.out.1 (but_set (C := fun k => k = cf) (But.refl _ wr) (i := 0) rfl (.bool false)) hcf)
     unfold strV at hc3
     go_wp2_with fail
     go_ret
     refine ⟨b, rfl, fun t ht => (HI.out.2 t ht).symm, ?_, but_set (C := fun k => k = cf) HR.out.2.2.2 rfl _⟩
     have h5 := blk_set1 HR.out.2.2.1 (.bool false)
     rw [<- HI.out.1]
     exact h5
    | true =>
     have hQ := quote_p b wr (by omega) (gl_but HG.out h8 HR.out.2.2.2)
     unfold strV at hconv hQ
     have HQ := Lib.hid hQ
     clear hQ
     go_wp2_with fail
     (refine HQ.out.mono ?_); rintro ev w2 ⟨rfl, hb2⟩
     have hbk2 := HR.out.2.2.1.below hb2 HR.out.2.2.1.lt
     have c2 := (hbk2.cell 0).trans rfl
     have z2 := hbk2.frozen 0
     simp only [List.getElem?_toArray, List.getElem?_cons_zero] at c2
     have hbut2 : But (fun k => k = cf) w w2 := HR.out.2.2.2.trans (But.of_below (C := fun k => k = cf) hb2) fun _ _ h => h
     have hc3 := conv_own (own_but (own_below HR.out.1 hb2) (but_set (C := fun k => k = cf) (But.refl _ w2) (i := 0) rfl (.bool (quoteL b == s))) hcf)
     unfold strV at hc3
     have HF := Lib.hid (And.intro hbk2 hbut2)
     clear hbk2 hbut2 hb2
     go_wp2_with fail
     go_ret
     refine ⟨b, rfl, fun t ht => (HI.out.2 t ht).symm, ?_, but_set (C := fun k => k = cf) HF.out.2 rfl _⟩
     have h5 := blk_set1 HF.out.1 (.bool (quoteL b == s))
     rw [<- HI.out.1, Bool.true_and]
     exact h5
   | cons x l =>
    have hx255 := x.toNat_lt
    have hlz2 : (⟨(x :: l).toArray⟩ : ByteArray).size = l.length + 1 := by rw [str_size]; rfl
    have hat : (⟨(x :: l).toArray⟩ : ByteArray)[0]'(by rw [hlz2]; omega) = x := rfl
    have hwrs := HR.out.2.2.2.size
    simp only [List.length_cons] at hbl
    have HOWN := Lib.hid (show ∀ W, Below wr.heap.size wr W -> W.ownsRow w.heap.size 5 1 (.slice AV b.length cV) b.length (Lib.byteCells b) from fun W hw => own_below HR.out.1 hw)
    clear hconv hlz
    by_cases h92 : x = 92
    ·
     subst h92
     have e92 : (((92 : UInt8).toNat : Int) == 92) = true := by decide
     obtain ⟨p, hp⟩ : ∃ p, (((92 :: l : Bs)).drop (min 2 (l.length + 1))).take (min 4 (l.length + 1) - min 2 (l.length + 1)) = p := ⟨_, rfl⟩
     have hxe := ext_at (92 :: l) (min 2 (l.length + 1)) (min 4 (l.length + 1))
     rw [hp] at hxe
     have m2 : (min 2 ((l.length : Int) + 1)).toNat = min 2 (l.length + 1) := by omega
     have m4 : (min 4 ((l.length : Int) + 1)).toNat = min 4 (l.length + 1) := by omega
     have hpl : p.length <= 2 := by rw [<- hp, List.length_take]; omega
     have hU := uint_c p wr hpl (gl_but HG.out h8 HR.out.2.2.2)
     unfold strV at hU
     have HU := Lib.hid hU
     have HP := Lib.hid hp
     clear hU hp
     go_upto_region 9 with fail
     go_wp2_with fail
     (refine HU.out.mono ?_); rintro ev w2 ⟨n, er, rfl, hn, her, hy, hb2⟩
     have HY := Lib.hid (And.intro hn (And.intro hy hb2))
     have c2 := ((HR.out.2.2.1.below hb2 HR.out.2.2.1.lt).cell 0).trans rfl
     have z2 := (HR.out.2.2.1.below hb2 HR.out.2.2.1.lt).frozen 0
     simp only [List.getElem?_toArray, List.getElem?_cons_zero] at c2
     have wn : IntKind.u8.wrap (n : Int) = (n : Int) := by rw [IntKind.wrap_u8]; omega
     have q4 : (0 : Int) <= min 4 ((l.length : Int) + 1) /\ min 4 ((l.length : Int) + 1) <= (l.length : Int) + 1 := by omega
     have hn2 : n < 256 := hn
     have hx2 := ext_at (92 :: l) (min 4 (l.length + 1)) (l.length + 1)
     rw [show (((92 :: l : Bs)).drop (min 4 (l.length + 1))).take (l.length + 1 - min 4 (l.length + 1)) = l.drop (min 4 (l.length + 1) - 1) by
      obtain ⟨k, hk⟩ : ∃ k, min 4 (l.length + 1) = k + 1 := ⟨min 4 (l.length + 1) - 1, by omega⟩
      rw [hk, List.drop_succ_cons, Nat.add_sub_cancel]
      exact List.take_of_length_le (by simp)] at hx2
     clear hn hy hb2
     cases gd with
     | false =>
      go_upto_region 11 with fail
      generalize hw3 : w2.setCell ⟨cf, 0, none⟩ (.bool false) = w3
      have hown3 : w3.ownsRow w.heap.size 5 1 (.slice AV b.length cV) b.length (Lib.byteCells b) := by rw [<- hw3]; exact own_but (own_below HR.out.1 HY.out.2.2) (but_set (C := fun k => k = cf) (But.refl _ w2) rfl _) hcf
      have hbk3 : Blk w3 cf 141 #[.bool false] := by rw [<- hw3]; exact blk_set1 (HR.out.2.2.1.below HY.out.2.2 HR.out.2.2.1.lt) _
      have hgb3 : But (fun k => k = cf) w w3 := by rw [<- hw3]; exact but_set (C := fun k => k = cf) (HR.out.2.2.2.trans (But.of_below (C := fun k => k = cf) HY.out.2.2) fun _ _ h => h) rfl _
      have hinv3 : invT s g (b ++ [UInt8.ofNat n]) (l.drop (min 4 (l.length + 1) - 1)) false := by
       intro b0 hb0
       obtain ⟨y, h3, h4, h5, t, h6, h7⟩ := invT_esc HR.out.2.1 b0 hb0
       have hpy : p = [hexD (y.toNat / 16), hexD (y.toNat % 16)] := by
        rw [<- HP.out, show min 2 (l.length + 1) = 2 by omega, show min 4 (l.length + 1) = 4 by omega, <- h4]; rfl
       obtain ⟨k1, k2⟩ := HY.out.2.1 y hpy
       exact ⟨h5, t, by rw [h6, k2]; simp, by rw [show min 4 (l.length + 1) - 1 = 3 by omega]; exact h7⟩
      have hs3 := hgb3.size
      have HOWN3 := Lib.hid (show ∀ W, Below w3.heap.size w3 W -> W.ownsRow w.heap.size 5 1 (.slice AV b.length cV) b.length (Lib.byteCells b) from fun W hw => own_below hown3 hw)
      have HF := Lib.hid (And.intro hown3 (And.intro hbk3 (And.intro hgb3 hinv3)))
      clear hown3 hbk3 hgb3 hinv3 hw3
      go_wp2_with fail
      refine wp_region_held_drew (S := (fun _ => True)) (by kernel_rfl) ?ss1 (fun hHeld => ?rr1)
      case ss1 => (try dsimp only); skip
      refine rgt 0 62 rfl rfl hHeld ?_
      try simp only [Act.put, rg1, rg2, rg3]
      refine rgt 1 63 rfl rfl hHeld ?_
      try simp only [Act.put, rg1, rg2, rg3]
      refine rgt 4 66 rfl rfl hHeld ?_
      try simp only [Act.put, rg1, rg2, rg3]
      refine rgt 5 67 rfl rfl hHeld ?_
      try simp only [Act.put, rg1, rg2, rg3]
      refine rgt 6 68 rfl rfl hHeld ?_
      try simp only [Act.put, rg1, rg2, rg3]
      refine rgc 2 (some 64) rfl (fun K hK => ?_)
      go_simp
      go_simp
      refine hK.out _ _ ?ss7 (fun hHeld2 => ?rr7)
      case ss7 => (try dsimp only); skip
      clear hK K
      clear hHeld
      have hHeld := hHeld2
      clear hHeld2
      try simp only [Act.put, rg1, rg2, rg3]
      refine rgc 3 (some 65) rfl (fun K hK => ?_)
      (refine step_append_sl rfl (.tmp 62) (.tmp 64) _ rfl w.heap.size 5 i0 _ 1 1 Tryz.underlying71 hi0 hz0 hz1 hz2 rfl (by omega) (.slice AV b.length cV) b.length (Lib.byteCells b) rfl (HOWN3.out _ (bal (Below.refl _ _).drew _)) (w3.heap.size + 1) (some ⟨w3.heap.size, 0, none⟩) 1 1 [.int .u8 n] rfl (Sl.one w3.drew _ _) (fun u hu => by rw [List.mem_singleton.1 hu]; rfl) (by unfold maxLen; omega) (by omega) (by simp only [World.size_alloc, World.size_drew]; omega) ?_; intro V' w6 hown6 hg6 hV6)
      refine hK.out _ _ ?ss8 (fun hHeld2 => ?rr8)
      case ss8 => (try dsimp only); skip
      clear hK K
      clear hHeld
      have hHeld := hHeld2
      clear hHeld2
      try simp only [Act.put, rg1, rg2, rg3]
      refine rgt 7 5 rfl rfl hHeld ?_
      try simp only [Act.put, rg1, rg2, rg3]
      refine rgt 8 6 rfl rfl hHeld ?_
      try simp only [Act.put, rg1, rg2, rg3]
      refine wpAnyH_done (by kernel_rfl) ?_ _
      go_wp2_with fail
      have hgb : But (fun k => k = cf) w w6 := ((HF.out.2.2.1.alloc (.cells #[.int .u8 n] 5)).trans (But.of_below (C := fun k => k = cf) (Below.refl _ _).drew) fun _ _ h => h).grown hg6 fun k hk hlt => by have := (HF.out.1.lt k hk).1; omega
      have hbk6 : Blk w6 cf 141 #[.bool false] := ((HF.out.2.1.below (bal (Below.refl _ _) (.cells #[.int .u8 n] 5)) HF.out.2.1.lt).drew).grown hg6 fun e => by have := (HF.out.1.lt cf e.symm).1; omega
      have hnn : (UInt8.ofNat n).toNat = n := by simp only [UInt8.toNat_ofNat']; omega
      have HREL := Lib.hid (show (b ++ [UInt8.ofNat n]).length + (l.drop (min 4 (l.length + 1) - 1)).length <= q.length /\ w6.ownsRow w.heap.size 5 1 V' (b ++ [UInt8.ofNat n]).length (Lib.byteCells (b ++ [UInt8.ofNat n])) from ⟨by rw [List.length_append, List.length_singleton, List.length_drop]; omega, by rw [List.length_append, Lib.byteCells_append, show Lib.byteCells [UInt8.ofNat n] = [.int .u8 n] by simp only [Lib.byteCells, List.map_cons, List.map_nil, hnn]]; exact hown6⟩)
      have HB6 := Lib.hid (And.intro hbk6 hgb)
      clear hgb hbk6
      go_roundg (l.drop (min 4 (l.length + 1) - 1)).length
      case measure => rw [List.length_drop, List.length_cons]; omega
      case rel => exact ⟨b ++ [UInt8.ofNat n], l.drop (min 4 (l.length + 1) - 1), false, rfl, (by first | rfl | rw [show min 4 (l.length + 1) - 1 = 3 by omega]), HREL.out.1, Lib.hid ⟨HREL.out.2, HF.out.2.2.2, HB6.out.1, HB6.out.2⟩⟩
     | true =>
      rcases her with rfl | ⟨te, pp, rfl⟩
      ·
       by_cases h4 : 4 <= l.length + 1
       ·
        have q5 : (4 : Int) <= (l.length : Int) + 1 := by omega
        have hx3 : (⟨(92 :: l).toArray⟩ : ByteArray).extract 4 (l.length + 1) = ⟨(l.drop (min 4 (l.length + 1) - 1)).toArray⟩ := by rw [<- hx2, show min 4 (l.length + 1) = 4 by omega]
        go_upto_region 11 with fail
        generalize hw3 : w2.setCell ⟨cf, 0, none⟩ (.bool true) = w3
        have hown3 : w3.ownsRow w.heap.size 5 1 (.slice AV b.length cV) b.length (Lib.byteCells b) := by rw [<- hw3]; exact own_but (own_below HR.out.1 HY.out.2.2) (but_set (C := fun k => k = cf) (But.refl _ w2) rfl _) hcf
        have hbk3 : Blk w3 cf 141 #[.bool true] := by rw [<- hw3]; exact blk_set1 (HR.out.2.2.1.below HY.out.2.2 HR.out.2.2.1.lt) _
        have hgb3 : But (fun k => k = cf) w w3 := by rw [<- hw3]; exact but_set (C := fun k => k = cf) (HR.out.2.2.2.trans (But.of_below (C := fun k => k = cf) HY.out.2.2) fun _ _ h => h) rfl _
        have hinv3 : invT s g (b ++ [UInt8.ofNat n]) (l.drop (min 4 (l.length + 1) - 1)) true := by
         intro b0 hb0
         obtain ⟨y, h3, h4, h5, t, h6, h7⟩ := invT_esc HR.out.2.1 b0 hb0
         have hpy : p = [hexD (y.toNat / 16), hexD (y.toNat % 16)] := by
          rw [<- HP.out, show min 2 (l.length + 1) = 2 by omega, show min 4 (l.length + 1) = 4 by omega, <- h4]; rfl
         obtain ⟨k1, k2⟩ := HY.out.2.1 y hpy
         exact ⟨h5, t, by rw [h6, k2]; simp, by rw [show min 4 (l.length + 1) - 1 = 3 by omega]; exact h7⟩
        have hs3 := hgb3.size
        have HOWN3 := Lib.hid (show ∀ W, Below w3.heap.size w3 W -> W.ownsRow w.heap.size 5 1 (.slice AV b.length cV) b.length (Lib.byteCells b) from fun W hw => own_below hown3 hw)
        have HF := Lib.hid (And.intro hown3 (And.intro hbk3 (And.intro hgb3 hinv3)))
        clear hown3 hbk3 hgb3 hinv3 hw3
        go_wp2_with fail
        refine wp_region_held_drew (S := (fun _ => True)) (by kernel_rfl) ?ss11 (fun hHeld => ?rr11)
        case ss11 => (try dsimp only); skip
        refine rgt 0 62 rfl rfl hHeld ?_
        try simp only [Act.put, rg1, rg2, rg3]
        refine rgt 1 63 rfl rfl hHeld ?_
        try simp only [Act.put, rg1, rg2, rg3]
        refine rgt 4 66 rfl rfl hHeld ?_
        try simp only [Act.put, rg1, rg2, rg3]
        refine rgt 5 67 rfl rfl hHeld ?_
        try simp only [Act.put, rg1, rg2, rg3]
        refine rgt 6 68 rfl rfl hHeld ?_
        try simp only [Act.put, rg1, rg2, rg3]
        refine rgc 2 (some 64) rfl (fun K hK => ?_)
        go_simp
        go_simp
        refine hK.out _ _ ?ss17 (fun hHeld2 => ?rr17)
        case ss17 => (try dsimp only); skip
        clear hK K
        clear hHeld
        have hHeld := hHeld2
        clear hHeld2
        try simp only [Act.put, rg1, rg2, rg3]
        refine rgc 3 (some 65) rfl (fun K hK => ?_)
        (refine step_append_sl rfl (.tmp 62) (.tmp 64) _ rfl w.heap.size 5 i0 _ 1 1 Tryz.underlying71 hi0 hz0 hz1 hz2 rfl (by omega) (.slice AV b.length cV) b.length (Lib.byteCells b) rfl (HOWN3.out _ (bal (Below.refl _ _).drew _)) (w3.heap.size + 1) (some ⟨w3.heap.size, 0, none⟩) 1 1 [.int .u8 n] rfl (Sl.one w3.drew _ _) (fun u hu => by rw [List.mem_singleton.1 hu]; rfl) (by unfold maxLen; omega) (by omega) (by simp only [World.size_alloc, World.size_drew]; omega) ?_; intro V' w6 hown6 hg6 hV6)
        refine hK.out _ _ ?ss18 (fun hHeld2 => ?rr18)
        case ss18 => (try dsimp only); skip
        clear hK K
        clear hHeld
        have hHeld := hHeld2
        clear hHeld2
        try simp only [Act.put, rg1, rg2, rg3]
        refine rgt 7 5 rfl rfl hHeld ?_
        try simp only [Act.put, rg1, rg2, rg3]
        refine rgt 8 6 rfl rfl hHeld ?_
        try simp only [Act.put, rg1, rg2, rg3]
        refine wpAnyH_done (by kernel_rfl) ?_ _
        go_wp2_with fail
        have hgb : But (fun k => k = cf) w w6 := ((HF.out.2.2.1.alloc (.cells #[.int .u8 n] 5)).trans (But.of_below (C := fun k => k = cf) (Below.refl _ _).drew) fun _ _ h => h).grown hg6 fun k hk hlt => by have := (HF.out.1.lt k hk).1; omega
        have hbk6 : Blk w6 cf 141 #[.bool true] := ((HF.out.2.1.below (bal (Below.refl _ _) (.cells #[.int .u8 n] 5)) HF.out.2.1.lt).drew).grown hg6 fun e => by have := (HF.out.1.lt cf e.symm).1; omega
        have hnn : (UInt8.ofNat n).toNat = n := by simp only [UInt8.toNat_ofNat']; omega
        have HREL := Lib.hid (show (b ++ [UInt8.ofNat n]).length + (l.drop (min 4 (l.length + 1) - 1)).length <= q.length /\ w6.ownsRow w.heap.size 5 1 V' (b ++ [UInt8.ofNat n]).length (Lib.byteCells (b ++ [UInt8.ofNat n])) from ⟨by rw [List.length_append, List.length_singleton, List.length_drop]; omega, by rw [List.length_append, Lib.byteCells_append, show Lib.byteCells [UInt8.ofNat n] = [.int .u8 n] by simp only [Lib.byteCells, List.map_cons, List.map_nil, hnn]]; exact hown6⟩)
        have HB6 := Lib.hid (And.intro hbk6 hgb)
        clear hgb hbk6
        go_roundg (l.drop (min 4 (l.length + 1) - 1)).length
        case measure => rw [List.length_drop, List.length_cons]; omega
        case rel => exact ⟨b ++ [UInt8.ofNat n], l.drop (min 4 (l.length + 1) - 1), true, rfl, (by first | rfl | rw [show min 4 (l.length + 1) - 1 = 3 by omega]), HREL.out.1, Lib.hid ⟨HREL.out.2, HF.out.2.2.2, HB6.out.1, HB6.out.2⟩⟩
       ·
        have q5 : decide ((4 : Int) <= (l.length : Int) + 1) = false := decide_eq_false (by omega)
        go_upto_region 11 with fail
        generalize hw3 : w2.setCell ⟨cf, 0, none⟩ (.bool false) = w3
        have hown3 : w3.ownsRow w.heap.size 5 1 (.slice AV b.length cV) b.length (Lib.byteCells b) := by rw [<- hw3]; exact own_but (own_below HR.out.1 HY.out.2.2) (but_set (C := fun k => k = cf) (But.refl _ w2) rfl _) hcf
        have hbk3 : Blk w3 cf 141 #[.bool false] := by rw [<- hw3]; exact blk_set1 (HR.out.2.2.1.below HY.out.2.2 HR.out.2.2.1.lt) _
        have hgb3 : But (fun k => k = cf) w w3 := by rw [<- hw3]; exact but_set (C := fun k => k = cf) (HR.out.2.2.2.trans (But.of_below (C := fun k => k = cf) HY.out.2.2) fun _ _ h => h) rfl _
        have hinv3 : invT s g (b ++ [UInt8.ofNat n]) (l.drop (min 4 (l.length + 1) - 1)) false := by
         intro b0 hb0
         obtain ⟨y, h3, h4, h5, t, h6, h7⟩ := invT_esc HR.out.2.1 b0 hb0
         have hpy : p = [hexD (y.toNat / 16), hexD (y.toNat % 16)] := by
          rw [<- HP.out, show min 2 (l.length + 1) = 2 by omega, show min 4 (l.length + 1) = 4 by omega, <- h4]; rfl
         obtain ⟨k1, k2⟩ := HY.out.2.1 y hpy
         omega
        have hs3 := hgb3.size
        have HOWN3 := Lib.hid (show ∀ W, Below w3.heap.size w3 W -> W.ownsRow w.heap.size 5 1 (.slice AV b.length cV) b.length (Lib.byteCells b) from fun W hw => own_below hown3 hw)
        have HF := Lib.hid (And.intro hown3 (And.intro hbk3 (And.intro hgb3 hinv3)))
        clear hown3 hbk3 hgb3 hinv3 hw3
        go_wp2_with fail
        refine wp_region_held_drew (S := (fun _ => True)) (by kernel_rfl) ?ss21 (fun hHeld => ?rr21)
        case ss21 => (try dsimp only); skip
        refine rgt 0 62 rfl rfl hHeld ?_
        try simp only [Act.put, rg1, rg2, rg3]
        refine rgt 1 63 rfl rfl hHeld ?_
        try simp only [Act.put, rg1, rg2, rg3]
        refine rgt 4 66 rfl rfl hHeld ?_
        try simp only [Act.put, rg1, rg2, rg3]
        refine rgt 5 67 rfl rfl hHeld ?_
        try simp only [Act.put, rg1, rg2, rg3]
        refine rgt 6 68 rfl rfl hHeld ?_
        try simp only [Act.put, rg1, rg2, rg3]
        refine rgc 2 (some 64) rfl (fun K hK => ?_)
        go_simp
        go_simp
        refine hK.out _ _ ?ss27 (fun hHeld2 => ?rr27)
        case ss27 => (try dsimp only); skip
        clear hK K
        clear hHeld
        have hHeld := hHeld2
        clear hHeld2
        try simp only [Act.put, rg1, rg2, rg3]
        refine rgc 3 (some 65) rfl (fun K hK => ?_)
        (refine step_append_sl rfl (.tmp 62) (.tmp 64) _ rfl w.heap.size 5 i0 _ 1 1 Tryz.underlying71 hi0 hz0 hz1 hz2 rfl (by omega) (.slice AV b.length cV) b.length (Lib.byteCells b) rfl (HOWN3.out _ (bal (Below.refl _ _).drew _)) (w3.heap.size + 1) (some ⟨w3.heap.size, 0, none⟩) 1 1 [.int .u8 n] rfl (Sl.one w3.drew _ _) (fun u hu => by rw [List.mem_singleton.1 hu]; rfl) (by unfold maxLen; omega) (by omega) (by simp only [World.size_alloc, World.size_drew]; omega) ?_; intro V' w6 hown6 hg6 hV6)
        refine hK.out _ _ ?ss28 (fun hHeld2 => ?rr28)
        case ss28 => (try dsimp only); skip
        clear hK K
        clear hHeld
        have hHeld := hHeld2
        clear hHeld2
        try simp only [Act.put, rg1, rg2, rg3]
        refine rgt 7 5 rfl rfl hHeld ?_
        try simp only [Act.put, rg1, rg2, rg3]
        refine rgt 8 6 rfl rfl hHeld ?_
        try simp only [Act.put, rg1, rg2, rg3]
        refine wpAnyH_done (by kernel_rfl) ?_ _
        go_wp2_with fail
        have hgb : But (fun k => k = cf) w w6 := ((HF.out.2.2.1.alloc (.cells #[.int .u8 n] 5)).trans (But.of_below (C := fun k => k = cf) (Below.refl _ _).drew) fun _ _ h => h).grown hg6 fun k hk hlt => by have := (HF.out.1.lt k hk).1; omega
        have hbk6 : Blk w6 cf 141 #[.bool false] := ((HF.out.2.1.below (bal (Below.refl _ _) (.cells #[.int .u8 n] 5)) HF.out.2.1.lt).drew).grown hg6 fun e => by have := (HF.out.1.lt cf e.symm).1; omega
        have hnn : (UInt8.ofNat n).toNat = n := by simp only [UInt8.toNat_ofNat']; omega
        have HREL := Lib.hid (show (b ++ [UInt8.ofNat n]).length + (l.drop (min 4 (l.length + 1) - 1)).length <= q.length /\ w6.ownsRow w.heap.size 5 1 V' (b ++ [UInt8.ofNat n]).length (Lib.byteCells (b ++ [UInt8.ofNat n])) from ⟨by rw [List.length_append, List.length_singleton, List.length_drop]; omega, by rw [List.length_append, Lib.byteCells_append, show Lib.byteCells [UInt8.ofNat n] = [.int .u8 n] by simp only [Lib.byteCells, List.map_cons, List.map_nil, hnn]]; exact hown6⟩)
        have HB6 := Lib.hid (And.intro hbk6 hgb)
        clear hgb hbk6
        go_roundg (l.drop (min 4 (l.length + 1) - 1)).length
        case measure => rw [List.length_drop, List.length_cons]; omega
        case rel => exact ⟨b ++ [UInt8.ofNat n], l.drop (min 4 (l.length + 1) - 1), false, rfl, (by first | rfl | rw [show min 4 (l.length + 1) - 1 = 3 by omega]), HREL.out.1, Lib.hid ⟨HREL.out.2, HF.out.2.2.2, HB6.out.1, HB6.out.2⟩⟩
      ·
       skip
       go_upto_region 11 with fail
       generalize hw3 : w2.setCell ⟨cf, 0, none⟩ (.bool false) = w3
       have hown3 : w3.ownsRow w.heap.size 5 1 (.slice AV b.length cV) b.length (Lib.byteCells b) := by rw [<- hw3]; exact own_but (own_below HR.out.1 HY.out.2.2) (but_set (C := fun k => k = cf) (But.refl _ w2) rfl _) hcf
       have hbk3 : Blk w3 cf 141 #[.bool false] := by rw [<- hw3]; exact blk_set1 (HR.out.2.2.1.below HY.out.2.2 HR.out.2.2.1.lt) _
       have hgb3 : But (fun k => k = cf) w w3 := by rw [<- hw3]; exact but_set (C := fun k => k = cf) (HR.out.2.2.2.trans (But.of_below (C := fun k => k = cf) HY.out.2.2) fun _ _ h => h) rfl _
       have hinv3 : invT s g (b ++ [UInt8.ofNat n]) (l.drop (min 4 (l.length + 1) - 1)) false := by
        intro b0 hb0
        obtain ⟨y, h3, h4, h5, t, h6, h7⟩ := invT_esc HR.out.2.1 b0 hb0
        have hpy : p = [hexD (y.toNat / 16), hexD (y.toNat % 16)] := by
         rw [<- HP.out, show min 2 (l.length + 1) = 2 by omega, show min 4 (l.length + 1) = 4 by omega, <- h4]; rfl
        obtain ⟨k1, k2⟩ := HY.out.2.1 y hpy
        exact absurd k1 (by simp)
       have hs3 := hgb3.size
       have HOWN3 := Lib.hid (show ∀ W, Below w3.heap.size w3 W -> W.ownsRow w.heap.size 5 1 (.slice AV b.length cV) b.length (Lib.byteCells b) from fun W hw => own_below hown3 hw)
       have HF := Lib.hid (And.intro hown3 (And.intro hbk3 (And.intro hgb3 hinv3)))
       clear hown3 hbk3 hgb3 hinv3 hw3
       go_wp2_with fail
       refine wp_region_held_drew (S := (fun _ => True)) (by kernel_rfl) ?ss31 (fun hHeld => ?rr31)
       case ss31 => (try dsimp only); skip
       refine rgt 0 62 rfl rfl hHeld ?_
       try simp only [Act.put, rg1, rg2, rg3]
       refine rgt 1 63 rfl rfl hHeld ?_
       try simp only [Act.put, rg1, rg2, rg3]
       refine rgt 4 66 rfl rfl hHeld ?_
       try simp only [Act.put, rg1, rg2, rg3]
       refine rgt 5 67 rfl rfl hHeld ?_
       try simp only [Act.put, rg1, rg2, rg3]
       refine rgt 6 68 rfl rfl hHeld ?_
       try simp only [Act.put, rg1, rg2, rg3]
       refine rgc 2 (some 64) rfl (fun K hK => ?_)
       go_simp
       go_simp
       refine hK.out _ _ ?ss37 (fun hHeld2 => ?rr37)
       case ss37 => (try dsimp only); skip
       clear hK K
       clear hHeld
       have hHeld := hHeld2
       clear hHeld2
       try simp only [Act.put, rg1, rg2, rg3]
       refine rgc 3 (some 65) rfl (fun K hK => ?_)
       (refine step_append_sl rfl (.tmp 62) (.tmp 64) _ rfl w.heap.size 5 i0 _ 1 1 Tryz.underlying71 hi0 hz0 hz1 hz2 rfl (by omega) (.slice AV b.length cV) b.length (Lib.byteCells b) rfl (HOWN3.out _ (bal (Below.refl _ _).drew _)) (w3.heap.size + 1) (some ⟨w3.heap.size, 0, none⟩) 1 1 [.int .u8 n] rfl (Sl.one w3.drew _ _) (fun u hu => by rw [List.mem_singleton.1 hu]; rfl) (by unfold maxLen; omega) (by omega) (by simp only [World.size_alloc, World.size_drew]; omega) ?_; intro V' w6 hown6 hg6 hV6)
       refine hK.out _ _ ?ss38 (fun hHeld2 => ?rr38)
       case ss38 => (try dsimp only); skip
       clear hK K
       clear hHeld
       have hHeld := hHeld2
       clear hHeld2
       try simp only [Act.put, rg1, rg2, rg3]
       refine rgt 7 5 rfl rfl hHeld ?_
       try simp only [Act.put, rg1, rg2, rg3]
       refine rgt 8 6 rfl rfl hHeld ?_
       try simp only [Act.put, rg1, rg2, rg3]
       refine wpAnyH_done (by kernel_rfl) ?_ _
       go_wp2_with fail
       have hgb : But (fun k => k = cf) w w6 := ((HF.out.2.2.1.alloc (.cells #[.int .u8 n] 5)).trans (But.of_below (C := fun k => k = cf) (Below.refl _ _).drew) fun _ _ h => h).grown hg6 fun k hk hlt => by have := (HF.out.1.lt k hk).1; omega
       have hbk6 : Blk w6 cf 141 #[.bool false] := ((HF.out.2.1.below (bal (Below.refl _ _) (.cells #[.int .u8 n] 5)) HF.out.2.1.lt).drew).grown hg6 fun e => by have := (HF.out.1.lt cf e.symm).1; omega
       have hnn : (UInt8.ofNat n).toNat = n := by simp only [UInt8.toNat_ofNat']; omega
       have HREL := Lib.hid (show (b ++ [UInt8.ofNat n]).length + (l.drop (min 4 (l.length + 1) - 1)).length <= q.length /\ w6.ownsRow w.heap.size 5 1 V' (b ++ [UInt8.ofNat n]).length (Lib.byteCells (b ++ [UInt8.ofNat n])) from ⟨by rw [List.length_append, List.length_singleton, List.length_drop]; omega, by rw [List.length_append, Lib.byteCells_append, show Lib.byteCells [UInt8.ofNat n] = [.int .u8 n] by simp only [Lib.byteCells, List.map_cons, List.map_nil, hnn]]; exact hown6⟩)
       have HB6 := Lib.hid (And.intro hbk6 hgb)
       clear hgb hbk6
       go_roundg (l.drop (min 4 (l.length + 1) - 1)).length
       case measure => rw [List.length_drop, List.length_cons]; omega
       case rel => exact ⟨b ++ [UInt8.ofNat n], l.drop (min 4 (l.length + 1) - 1), false, rfl, (by first | rfl | rw [show min 4 (l.length + 1) - 1 = 3 by omega]), HREL.out.1, Lib.hid ⟨HREL.out.2, HF.out.2.2.2, HB6.out.1, HB6.out.2⟩⟩
    ·
     have e92 : ((x.toNat : Int) == 92) = false := by
      simp only [beq_eq_false_iff_ne, ne_eq]
      intro e
      exact h92 (UInt8.toNat_inj.1 (by have : (92 : UInt8).toNat = 92 := rfl; omega))
     have hx2 := ext_at (x :: l) 1 (l.length + 1)
     rw [show ((x :: l).drop 1).take (l.length + 1 - 1) = l by simp] at hx2
     have q1 : (1 : Int) <= (l.length : Int) + 1 := by omega
     have HINV2 := Lib.hid (invT_plain HR.out.2.1 h92)
     clear h92
     go_wp2_with fail
     refine wp_region_held_drew (S := (fun _ => True)) (by kernel_rfl) ?ss41 (fun hHeld => ?rr41)
     case ss41 => (try dsimp only); skip
     refine rgt 0 62 rfl rfl hHeld ?_
     try simp only [Act.put, rg1, rg2, rg3]
     refine rgt 1 63 rfl rfl hHeld ?_
     try simp only [Act.put, rg1, rg2, rg3]
     refine rgt 4 66 rfl rfl hHeld ?_
     try simp only [Act.put, rg1, rg2, rg3]
     refine rgt 5 67 rfl rfl hHeld ?_
     try simp only [Act.put, rg1, rg2, rg3]
     refine rgt 6 68 rfl rfl hHeld ?_
     try simp only [Act.put, rg1, rg2, rg3]
     refine rgc 2 (some 64) rfl (fun K hK => ?_)
     go_simp
     go_simp
     refine hK.out _ _ ?ss47 (fun hHeld2 => ?rr47)
     case ss47 => (try dsimp only); skip
     clear hK K
     clear hHeld
     have hHeld := hHeld2
     clear hHeld2
     try simp only [Act.put, rg1, rg2, rg3]
     refine rgc 3 (some 65) rfl (fun K hK => ?_)
     (refine step_append_sl rfl (.tmp 62) (.tmp 64) _ rfl w.heap.size 5 i0 _ 1 1 Tryz.underlying71 hi0 hz0 hz1 hz2 rfl (by omega) (.slice AV b.length cV) b.length (Lib.byteCells b) rfl (HOWN.out _ (bal (Below.refl _ _).drew _)) (wr.heap.size + 1) (some ⟨wr.heap.size, 0, none⟩) 1 1 [.int .u8 x.toNat] rfl (Sl.one wr.drew _ _) (fun u hu => by rw [List.mem_singleton.1 hu]; rfl) (by unfold maxLen; omega) (by omega) (by simp only [World.size_alloc, World.size_drew]; omega) ?_; intro V' w6 hown6 hg6 hV6)
     refine hK.out _ _ ?ss48 (fun hHeld2 => ?rr48)
     case ss48 => (try dsimp only); skip
     clear hK K
     clear hHeld
     have hHeld := hHeld2
     clear hHeld2
     try simp only [Act.put, rg1, rg2, rg3]
     refine rgt 7 5 rfl rfl hHeld ?_
     try simp only [Act.put, rg1, rg2, rg3]
     refine rgt 8 6 rfl rfl hHeld ?_
     try simp only [Act.put, rg1, rg2, rg3]
     refine wpAnyH_done (by kernel_rfl) ?_ _
     go_wp2_with fail
     have hgb : But (fun k => k = cf) w w6 := ((HR.out.2.2.2.alloc (.cells #[.int .u8 x.toNat] 5)).trans (But.of_below (C := fun k => k = cf) (Below.refl _ _).drew) fun _ _ h => h).grown hg6 fun k hk hlt => by have := (HR.out.1.lt k hk).1; omega
     have hbk6 : Blk w6 cf 141 #[.bool gd] := ((HR.out.2.2.1.below (bal (Below.refl _ _) (.cells #[.int .u8 x.toNat] 5)) HR.out.2.2.1.lt).drew).grown hg6 fun e => by have := (HR.out.1.lt cf e.symm).1; omega
     have HREL := Lib.hid (show (b ++ [x]).length + l.length <= q.length /\ w6.ownsRow w.heap.size 5 1 V' (b ++ [x]).length (Lib.byteCells (b ++ [x])) from ⟨by rw [List.length_append, List.length_singleton]; omega, by rw [List.length_append, Lib.byteCells_append]; exact hown6⟩)
     have HB6 := Lib.hid (And.intro hbk6 hgb)
     clear hgb hbk6
     go_roundg l.length
     case measure => simp
     case rel => exact ⟨b ++ [x], l, gd, rfl, rfl, HREL.out.1, Lib.hid ⟨HREL.out.2, HINV2.out, HB6.out.1, HB6.out.2⟩⟩
end Go.Proofs.YtobplngonkdbpaaGreatDoor.D
/- CdX -/
namespace Go.Proofs.YtobplngonkdbpaaGreatDoor.D
open Go Go.Lib
set_option linter.unusedVariables false
set_option linter.unusedSimpArgs false
theorem index1 (c : UInt8) : ∀ l : Bs, Lib.index l [c] = (match idxB c l with | some n => (n : Int) | none => -1)
 | [] => rfl
 | x :: r => by
  rw [Lib.index, idxB, index1 c r]
  have hp : List.isPrefixOf [c] (x :: r) = true ↔ x = c := by
   simp only [List.isPrefixOf, Bool.and_true, beq_iff_eq]
   exact ⟨fun h => h.symm, fun h => h.symm⟩
  by_cases h : x = c
  · rw [if_pos h, if_pos (hp.2 h)]; rfl
  ·
   rw [if_neg h, if_neg (fun h2 => h (hp.1 h2))]
   rcases idxB c r with _ | n
   · rfl
   ·
    simp only [Option.map_some]
    rw [if_neg (by simp only [beq_iff_eq]; omega)]; rfl
theorem splitC_none {c : UInt8} : ∀ s : Bs, idxB c s = none -> splitC c s = [s]
 | [], _ => rfl
 | x :: r, h => by
  rw [idxB] at h
  split at h
  · cases h
  ·
   rename_i hx
   rw [splitC, if_neg hx, splitC_none r (by simpa using h)]
theorem splitC_some {c : UInt8} : ∀ (s : Bs) (n : Nat), idxB c s = some n -> splitC c s = s.take n :: splitC c (s.drop (n + 1))
 | [], n, h => by simp [idxB] at h
 | x :: r, n, h => by
  rw [idxB] at h
  split at h
  ·
   rename_i hx
   injection h with h
   subst h
   rw [splitC, if_pos hx]; rfl
  ·
   rename_i hx
   obtain ⟨m, hm, rfl⟩ := Option.map_eq_some_iff.1 h
   rw [splitC, if_neg hx, splitC_some r m hm]; rfl
theorem splitK_C (c : UInt8) : ∀ (fuel : Nat) (s : Bs), s.length < fuel -> splitK [c] 0 (countFrom [c] fuel s) s = splitC c s
 | 0, s, h => by omega
 | fuel + 1, s, h => by
  rw [countFrom, index1]
  rcases hi : idxB c s with _ | n
  ·
   simp only [beq_self_eq_true, if_true]
   rw [splitC_none s hi]; rfl
  ·
   simp only
   have hne : ((n : Int) == -1) = false := by simp only [beq_eq_false_iff_ne, ne_eq]; omega
   rw [hne]
   simp only [Bool.false_eq_true, if_false]
   have hlt := (idxB_lt s n hi).1
   rw [Nat.add_comm 1, splitK, index1, hi]
   simp only
   rw [hne]
   simp only [Bool.false_eq_true, if_false, Int.toNat_natCast, List.length_singleton, Nat.add_zero]
   rw [splitK_C c fuel _ (by rw [List.length_drop]; omega), splitC_some s n hi]
theorem split_eq (c : UInt8) (s : Bs) : splitK [c] 0 (Lib.count s [c]) s = splitC c s := splitK_C c _ s (by omega)
theorem lineC_idx : ∀ t : Bs, lineC t = (idxB 10 t).map fun n => (t.take n, t.drop (n + 1))
 | [] => rfl
 | x :: r => by
  rw [lineC, idxB]
  by_cases h : x = 10
  · subst h; simp
  ·
   rw [if_neg (show ¬ x.toNat = 10 from fun e => h (UInt8.toNat_inj.1 e)), if_neg h, lineC_idx r]
   rcases idxB 10 r with _ | n
   · rfl
   · rfl
theorem cut_line (t : Bs) : Lib.cut t [10] = (match lineC t with | some p => (p.1, p.2, true) | none => (t, [], false)) := by
 unfold Lib.cut
 rw [lineC_idx, index1]
 rcases idxB 10 t with _ | n
 · rfl
 ·
  simp only [Option.map_some]
  rw [if_pos (by omega)]
  simp
/-- The split's pieces fit in what was split. -/
theorem splitC_len (c : UInt8) (s : Bs) : ∀ w ∈ splitC c s, w.length <= s.length := by
 induction s with
 | nil => simp [splitC]
 | cons x r ih =>
  intro w hw
  rw [splitC] at hw
  split at hw
  ·
   rcases List.mem_cons.1 hw with rfl | hw
   · simp
   · have := ih w hw; rw [List.length_cons]; omega
  ·
   split at hw
   · rw [List.mem_singleton.1 hw]; simp
   ·
    rename_i v vs hv
    rcases List.mem_cons.1 hw with rfl | hw
    · have := ih v (by rw [hv]; simp); rw [List.length_cons, List.length_cons]; omega
    · have := ih w (by rw [hv]; simp [hw]); rw [List.length_cons]; omega
theorem splitC_count (c : UInt8) (s : Bs) : (splitC c s).length <= s.length + 1 := by
 induction s with
 | nil => simp [splitC]
 | cons x r ih =>
  rw [splitC]
  split
  · simp; omega
  ·
   split
   · simp
   ·
    rename_i v vs hv
    rw [hv] at ih
    simp only [List.length_cons] at ih ⊢; omega
end Go.Proofs.YtobplngonkdbpaaGreatDoor.D
/- CeV -/
namespace Go.Proofs.YtobplngonkdbpaaGreatDoor.D
open Go.RowKit
open Go.Proofs.YtobplngonkdbpaaGreatDoor.B
set_option linter.unusedVariables false
set_option linter.unusedSimpArgs false
/-- A whole row stored, in a drawn region. -/
theorem step_store_row {P : Program} {ops : Array Oper} {o : Oper} {a : Act} {w : World} {K : Act -> World -> Prop} {Q : Exit -> Act -> World -> Prop} {E : Prop} (hgd : o.guard = none) (ty : TypeId) (x y : Operand) (ho : o.op = .store ty x y)
  (g : Nat) (cells : Array Value) (hx : a.eval x = .pointer (some ⟨g, 0, none⟩)) (hy : a.eval y = .agg cells)
  (t : TypeId) (old : Array Value) (hg : w.heap[g]? = some (.cells old t (0, 0))) (hi : (P.info? ty).map (·.size) = some cells.size)
  (hold : old.size = cells.size) (h1 : cells.all (·.oneCell') = true)
  (h : K (a.put o.dst undef) (w.setRow g cells)) : if Region.wanted o (yielded ops a.tmps) = true then Oper.wp P o a w K Q else E := by
 have hw : Region.wanted o (yielded ops a.tmps) = true := by simp [Region.wanted, hgd]
 rw [if_pos hw]
 exact wp_store_row ty x y ho g cells hx hy t old hg hi hold h1 h
theorem but_setRow {C : Nat -> Prop} {a w : World} (h : But C a w) {b : Nat} (hb : C b \/ a.heap.size <= b) (cs : Array Value) : But C a (w.setRow b cs) := by
 refine ⟨h.os, h.tape, h.output, by simpa using h.size, fun k hk hc => ?_⟩
 rw [<- h.block k hk hc]
 refine setRow_other w b k cs fun e => ?_
 subst e
 rcases hb with hb | hb
 · exact hc hb
 · omega
theorem but_weak {C D : Nat -> Prop} {a w : World} (h : But C a w) (hd : ∀ k, k < a.heap.size -> C k -> D k) : But D a w := ⟨h.os, h.tape, h.output, h.size, fun k hk hn => h.block k hk fun hc => hn (hd k hk hc)⟩
theorem but_next {cf : Nat} {a b c : World} (h : But (fun k => k = cf) a b) (k : But (fun k => k = cf) b c) : But (fun k => k = cf) a c := h.trans k fun _ _ e => e
theorem wrap_i8 (n : Int) : -128 <= IntKind.i8.wrap n /\ IntKind.i8.wrap n <= 127 := by simp [IntKind.wrap, IntKind.bits, IntKind.signed]; omega
theorem wrap_u8 (n : Int) : 0 <= IntKind.u8.wrap n /\ IntKind.u8.wrap n <= 255 := by simp [IntKind.wrap, IntKind.bits, IntKind.signed]; omega
theorem split_c (s : Bs) (c : UInt8) (w : World) (hl : s.length <= 1073741824) (hg : Gl w) :
  Calls Tryz.prog 136 #[strV s, strV [c]] w fun e w' => e = .returned (.slice (some ⟨w.heap.size, 0, none⟩) (splitC c s).length (splitC c s).length) /\ w' = w.alloc (.cells ((splitC c s).map strV).toArray 9) := by
 obtain ⟨m, hm⟩ := hg.maxl
 have hz := str_size s
 have h := Tryz.strings_Split ⟨s.toArray⟩ ⟨#[c]⟩ m w (by omega) hm (show 1 <= ByteArray.size ⟨#[c]⟩ from Nat.le_refl 1)
 have e1 : (Lib.splitB ⟨#[c]⟩ 0 (Lib.countB ⟨s.toArray⟩ ⟨#[c]⟩) ⟨s.toArray⟩).map (·.data.toList) = splitC c s := by
  rw [Lib.splitB_data]; exact split_eq c s
 have e2 := Lib.splitB_all ⟨#[c]⟩ (show 1 <= ByteArray.size ⟨#[c]⟩ from Nat.le_refl 1) 0 _ ⟨s.toArray⟩ rfl
 have e3 : (Lib.splitB ⟨#[c]⟩ 0 (Lib.countB ⟨s.toArray⟩ ⟨#[c]⟩) ⟨s.toArray⟩).map Value.string = (splitC c s).map strV := by rw [<- e1, List.map_map]; rfl
 have e4 : (splitC c s).length = Lib.countB ⟨s.toArray⟩ ⟨#[c]⟩ + 1 := by rw [<- e1, List.length_map, e2]
 rw [e3, <- e4] at h
 exact h
/-- A byte of a word. -/
theorem head_c (cf bx : Nat) (s : Bs) (g : Bool) (w : World) (hl : s.length <= 1073741824) (hg : Gl w) (hb : Blk w cf 141 #[.bool g]) (h8 : 8 <= cf) (hx : w.cell? ⟨bx, 0, none⟩ = some (.pointer (some ⟨cf, 0, none⟩))) :
  Calls Tryz.prog 137 #[strV s, .pointer (some ⟨bx, 0, none⟩)] w fun e w' =>
   ∃ n, e = .returned (.int .u8 (IntKind.u8.wrap n)) /\ inR n /\ (∀ v, numB 0 255 s = some v -> n = v) /\ Blk w' cf 141 #[.bool (g && (numB 0 255 s).isSome)] /\ But (fun k => k = cf) w w' := by
 have h := number_c cf s 0 255 g w hl hg hb h8
 unfold NumQ at h
 clear hg hb
 go_enter Tryz.func137, Tryz.ntmps137
 go_wp2_with fail
 (refine h.mono ?_); rintro ev w1 ⟨n, rfl, hn⟩
 go_wp2_with fail
 go_ret
 exact ⟨n, rfl, hn⟩
end Go.Proofs.YtobplngonkdbpaaGreatDoor.D
