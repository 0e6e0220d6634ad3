/- Parts of this claim: CkN6, CkN8. -/
import Derived.Deep.RegionHeld3
import Derived.Test.YtmagljnlfponaaaGreatP12
import Derived.Test.YtmagljnlfponaaaGreatP05
set_option linter.unusedVariables false
set_option linter.unusedSimpArgs false
/- CkN6 -/
namespace Go.Proofs.YtmagljnlfponaaaGreat.K
open Go.RowKit Go.Proofs.YtmagljnlfponaaaGreat.B Go.Proofs.YtmagljnlfponaaaGreat.T
set_option linter.unusedVariables false
set_option linter.unusedSimpArgs false


set_option maxRecDepth 100000 in
set_option maxHeartbeats 8000000 in
theorem typed_6 (kids nn : Int) (s t u : ByteArray) (ln cl : Int) (L : List Tn) (A : Option Addr) (c mb cb c0 c1 c2 c3 : Nat) (k : Tf) (a : Nat) (env : List Ty) (Ae : Option Addr) (ce : Nat) (w : World)
    (hn : L[a]? = some ⟨6, kids, nn, s, t, u, ln, cl⟩) (hsm : Tn.small ⟨6, kids, nn, s, t, u, ln, cl⟩) (hen : EnvAt w cb Ae env) (henv : ∀ t ∈ env, okT t) (henc : env.length ≤ ce) (henl : env.length ≤ 100000) (hc : Chk w cb A L.length c a (.map (some mb))) (hL : LT w cb A L) (hrl : RulesAt w cb mb c0 c1 c2 c3) (hN : L.length ≤ 1000000) (hLc : L.length ≤ c) (rest : List Tn) (n1 : Tn) (k1 : Tf) (hk1 : k = .cons n1 k1 .nil) (hdrop : L.drop a = ⟨6, kids, nn, s, t, u, ln, cl⟩ :: (k.list ++ rest)) (hwf : k.wf) (hE : wordsE ⟨6, kids, nn, s, t, u, ln, cl⟩ env.length = 0) (hkall : k.All (TypP L A c mb cb c0 c1 c2 c3)) (hebd : env.length + 2 * (k.high + 1) ≤ 100000) :
    Calls Tryz.prog 54 #[.pointer (some ⟨cb, 0, none⟩), .slice Ae env.length ce] w fun e w' => TypQ ((made (.bin 62 (ty t) (ty u)) a).then fun f => (tyF k false (ty t :: .bin 62 (ty t) (ty u) :: env) (a + 1)).then fun ts => want (ts.getD 0 tI = ty u) a (.ok f)) cb A L.length c (.map (some mb)) (a + 1 + k.sz) w e w' := by
  obtain ⟨R, hR⟩ : ∃ R, ((made (.bin 62 (ty t) (ty u)) a).then fun f => (tyF k false (ty t :: .bin 62 (ty t) (ty u) :: env) (a + 1)).then fun ts => want (ts.getD 0 tI = ty u) a (.ok f)) = R := ⟨_, rfl⟩
  rw [hR]
  subst hk1
  have hgd : isB t = true ∧ isB u = true := fnW (.inr rfl) hE
  have htt : (ty t).ok ∧ t = str (ty t) ∧ (ty t).code.length ≤ 64 := ty_spec hgd.1
  have huu : (ty u).ok ∧ u = str (ty u) ∧ (ty u).code.length ≤ 64 := ty_spec hgd.2
  have hE2 := hE
  have HE := Lib.hid hE2
  have hd1 : L.drop (a + 1) = n1 :: (k1.list ++ rest) := by rw [← List.drop_drop, hdrop]; simp [Tf.list]
  simp only [Tf.high, Tf.sz] at hebd ⊢
  have htz : t.size ≤ 64 := by rw [htt.2.1, str_size]; exact htt.2.2
  have huz : u.size ≤ 64 := by rw [huu.2.1, str_size]; exact huu.2.2
  have ha1 := fun V => run_string_add_sum (P := Tryz.prog) V ⟨#[62]⟩ t (by show 1 + _ ≤ _; omega)
  have ha2 := fun V => run_string_add_sum (P := Tryz.prog) V ((⟨#[62]⟩ : ByteArray) ++ t) u (by rw [ByteArray.size_append]; show (1 + _) + _ ≤ _; omega)
  obtain ⟨f, hf⟩ : ∃ f, ((⟨#[62]⟩ : ByteArray) ++ t) ++ u = f := ⟨_, rfl⟩
  rw [hf] at ha2
  have hfs : f = str (.bin 62 (ty t) (ty u)) := by
    rw [← hf]
    have h := str_bin 62 (ty t) (ty u)
    rwa [← htt.2.1, ← huu.2.1] at h
  have hfz : f.size = (Ty.bin 62 (ty t) (ty u)).code.length := by rw [hfs, str_size]
  have HK := Lib.hid (And.intro hd1 (And.intro hwf (And.intro hkall (And.intro hebd (And.intro henv (And.intro hfs (And.intro htt huu)))))))
  have HR := Lib.hid hR
  have hcb0 : cb < w.heap.size := hc.lt
  clear hR hd1 hdrop hwf hE hE2 hkall hebd henv hgd htt huu hf hfs
  by_cases h64 : (Ty.bin 62 (ty t) (ty u)).code.length ≤ 64
  rotate_left
  · have hr := HR.out
    rw [made_neg h64] at hr
    simp only [Rs.then] at hr
    subst hr
    have HM := Lib.hid fun W => made_no (.pointer (some ⟨cb, 0, none⟩)) f a W (by omega)
    obtain ⟨c0', c1', c2'⟩ := hc.cells
    have hcl : cb < w.heap.size := hc.lt
    have hal : a < L.length := (List.getElem?_eq_some_iff.1 hn).1
    obtain ⟨b, o, rfl, hbc, hbl, q0, q1, q2, q3, q4, q5, q6, q7⟩ := hL.node hn
    simp only at q0 q1 q2 q3 q4 q5 q6 q7
    have hwd := fun W => words_any ⟨6, kids, nn, s, t, u, ln, cl⟩ a env.length W hsm
    unfold Tn.val at hwd
    simp only at hwd
    obtain ⟨N, hNe⟩ : ∃ N, L.length = N := ⟨_, rfl⟩
    rw [hNe] at c0' hal hN hLc hc ⊢
    obtain ⟨EL, hEL⟩ : ∃ x, env.length = x := ⟨_, rfl⟩
    rw [hEL] at hwd henl henc HE ⊢
    have hcr := hc.frozen 1
    have hbk : Blk (w.alloc (.cells #[.int .i8 6, .int .i64 kids, .int .i64 nn, .string s, .string t, .string u, .int .i64 ln, .int .i64 cl] 60)) w.heap.size 60 #[.int .i8 6, .int .i64 kids, .int .i64 nn, .string s, .string t, .string u, .int .i64 ln, .int .i64 cl] := Blk.new _ _ _
    have hck : Chk (w.alloc (.cells #[.int .i8 6, .int .i64 kids, .int .i64 nn, .string s, .string t, .string u, .int .i64 ln, .int .i64 cl] 60)) cb (some ⟨b, o, none⟩) N c a (.map (some mb)) := Blk.alloc hc _
    have HW0 := Lib.hid (And.intro hck (And.intro hbk (And.intro hNe hEL)))
    have HWD := Lib.hid hwd
    have HIN := Lib.hid (And.intro hL (And.intro hen hrl))
    clear hc hck hbk hNe hEL hwd hL hen hrl hcr
    go_enter Tryz.func54, Tryz.ntmps54
    go_upto_region 3 with fail
    obtain ⟨hck, hbk, hNe, hEL⟩ := HW0.out
    obtain ⟨W1, hW1⟩ : ∃ W1, w.alloc (.cells #[.int .i8 6, .int .i64 kids, .int .i64 nn, .string s, .string t, .string u, .int .i64 ln, .int .i64 cl] 60) = W1 := ⟨_, rfl⟩
    have hbt0 : Bt cb w W1 := by rw [← hW1]; exact Bt.alloc (But.refl _ _) _
    rw [hW1] at hck hbk ⊢
    obtain ⟨p0, p1, p2⟩ := hck.cells
    have pf := hck.frozen 1
    have HW1 := Lib.hid (And.intro hck (And.intro hbk (And.intro hbt0 (And.intro hNe hEL))))
    clear hW1 hck hbk hbt0 hNe hEL HW0 c0' c1' c2' q0 q1 q2 q3 q4 q5 q6 q7
    go_upto_region 4 with fail
    obtain ⟨hck, hbk, hbt0, hNe, hEL⟩ := HW1.out
    obtain ⟨W2, hW2⟩ : ∃ W2, W1.setCell ⟨cb, 1, none⟩ (.int .i64 ((a : Int) + 1)) = W2 := ⟨_, rfl⟩
    have hc1 : Chk W2 cb (some ⟨b, o, none⟩) N c ((a : Int) + 1) (.map (some mb)) := by rw [← hW2]; exact hck.set _
    have hbk1 : Blk W2 w.heap.size 60 #[.int .i8 6, .int .i64 kids, .int .i64 nn, .string s, .string t, .string u, .int .i64 ln, .int .i64 cl] := by rw [← hW2]; exact hbk.far (p := ⟨cb, 1, none⟩) (show w.heap.size ≠ cb by omega) _
    have hbt1 : Bt cb w W2 := by rw [← hW2]; exact hbt0.set_ 1 _
    have HW := Lib.hid (And.intro hc1 (And.intro hbk1 (And.intro hbt1 (And.intro hNe hEL))))
    rw [hW2]
    clear hck hbk hbt0 hNe hEL hc1 hbk1 hbt1 HW1
    obtain ⟨n0, n1', n2, n3, n4, n5, n6, n7⟩ := blk_cells8 HW.out.2.1
    clear hW2 p0 p1 p2 pf
    go_wp2_with fail
    (refine (HWD.out _).mono ?_); rintro e W3 ⟨he, hb3⟩
    rw [if_pos HE.out] at he
    subst he
    have hbt3 : Bt cb w W3 := HW.out.2.2.1.trans (Bt.below hb3)
    have hc3 : Chk W3 cb (some ⟨b, o, none⟩) N c ((a : Int) + 1) (.map (some mb)) := HW.out.1.below hb3 HW.out.1.lt
    have hb3' : Blk W3 w.heap.size 60 #[.int .i8 6, .int .i64 kids, .int .i64 nn, .string s, .string t, .string u, .int .i64 ln, .int .i64 cl] := HW.out.2.1.below hb3 HW.out.2.1.lt
    have H3 := Lib.hid (And.intro hbt3 (And.intro hc3 (And.intro hb3' (And.intro HW.out.2.2.2.1 (And.intro HW.out.2.2.2.2 hb3.size)))))
    clear n0 n1' n2 n3 n4 n5 n6 n7 hb3 hbt3 hc3
    obtain ⟨n0, n1', n2, n3, n4, n5, n6, n7⟩ := blk_cells8 hb3'
    clear hb3'
    go_wp2_with fail
    (refine (HM.out _).mono ?_); rintro e w4 ⟨rfl, rfl⟩
    unfold Flaw
    go_wp2_with fail
    exact bodyPost_panic rfl (TypQ.bad H3.out.1)
  have HM := Lib.hid fun W => made_yes (.pointer (some ⟨cb, 0, none⟩)) f a W (by omega)
  obtain ⟨c0', c1', c2'⟩ := hc.cells
  have hcl : cb < w.heap.size := hc.lt
  have hal : a < L.length := (List.getElem?_eq_some_iff.1 hn).1
  obtain ⟨b, o, rfl, hbc, hbl, q0, q1, q2, q3, q4, q5, q6, q7⟩ := hL.node hn
  simp only at q0 q1 q2 q3 q4 q5 q6 q7
  have hwd := fun W => words_any ⟨6, kids, nn, s, t, u, ln, cl⟩ a env.length W hsm
  unfold Tn.val at hwd
  simp only at hwd
  obtain ⟨N, hNe⟩ : ∃ N, L.length = N := ⟨_, rfl⟩
  rw [hNe] at c0' hal hN hLc hc ⊢
  obtain ⟨EL, hEL⟩ : ∃ x, env.length = x := ⟨_, rfl⟩
  rw [hEL] at hwd henl henc HE ⊢
  have hcr := hc.frozen 1
  have hbk : Blk (w.alloc (.cells #[.int .i8 6, .int .i64 kids, .int .i64 nn, .string s, .string t, .string u, .int .i64 ln, .int .i64 cl] 60)) w.heap.size 60 #[.int .i8 6, .int .i64 kids, .int .i64 nn, .string s, .string t, .string u, .int .i64 ln, .int .i64 cl] := Blk.new _ _ _
  have hck : Chk (w.alloc (.cells #[.int .i8 6, .int .i64 kids, .int .i64 nn, .string s, .string t, .string u, .int .i64 ln, .int .i64 cl] 60)) cb (some ⟨b, o, none⟩) N c a (.map (some mb)) := Blk.alloc hc _
  have HW0 := Lib.hid (And.intro hck (And.intro hbk (And.intro hNe hEL)))
  have HWD := Lib.hid hwd
  have HIN := Lib.hid (And.intro hL (And.intro hen hrl))
  clear hc hck hbk hNe hEL hwd hL hen hrl hcr
  go_enter Tryz.func54, Tryz.ntmps54
  go_upto_region 3 with fail
  obtain ⟨hck, hbk, hNe, hEL⟩ := HW0.out
  obtain ⟨W1, hW1⟩ : ∃ W1, w.alloc (.cells #[.int .i8 6, .int .i64 kids, .int .i64 nn, .string s, .string t, .string u, .int .i64 ln, .int .i64 cl] 60) = W1 := ⟨_, rfl⟩
  have hbt0 : Bt cb w W1 := by rw [← hW1]; exact Bt.alloc (But.refl _ _) _
  rw [hW1] at hck hbk ⊢
  obtain ⟨p0, p1, p2⟩ := hck.cells
  have pf := hck.frozen 1
  have HW1 := Lib.hid (And.intro hck (And.intro hbk (And.intro hbt0 (And.intro hNe hEL))))
  clear hW1 hck hbk hbt0 hNe hEL HW0 c0' c1' c2' q0 q1 q2 q3 q4 q5 q6 q7
  go_upto_region 4 with fail
  obtain ⟨hck, hbk, hbt0, hNe, hEL⟩ := HW1.out
  obtain ⟨W2, hW2⟩ : ∃ W2, W1.setCell ⟨cb, 1, none⟩ (.int .i64 ((a : Int) + 1)) = W2 := ⟨_, rfl⟩
  have hc1 : Chk W2 cb (some ⟨b, o, none⟩) N c ((a : Int) + 1) (.map (some mb)) := by rw [← hW2]; exact hck.set _
  have hbk1 : Blk W2 w.heap.size 60 #[.int .i8 6, .int .i64 kids, .int .i64 nn, .string s, .string t, .string u, .int .i64 ln, .int .i64 cl] := by rw [← hW2]; exact hbk.far (p := ⟨cb, 1, none⟩) (show w.heap.size ≠ cb by omega) _
  have hbt1 : Bt cb w W2 := by rw [← hW2]; exact hbt0.set_ 1 _
  have HW := Lib.hid (And.intro hc1 (And.intro hbk1 (And.intro hbt1 (And.intro hNe hEL))))
  rw [hW2]
  clear hck hbk hbt0 hNe hEL hc1 hbk1 hbt1 HW1
  obtain ⟨n0, n1', n2, n3, n4, n5, n6, n7⟩ := blk_cells8 HW.out.2.1
  clear hW2 p0 p1 p2 pf
  go_wp2_with fail
  (refine (HWD.out _).mono ?_); rintro e W3 ⟨he, hb3⟩
  rw [if_pos HE.out] at he
  subst he
  have hbt3 : Bt cb w W3 := HW.out.2.2.1.trans (Bt.below hb3)
  have hc3 : Chk W3 cb (some ⟨b, o, none⟩) N c ((a : Int) + 1) (.map (some mb)) := HW.out.1.below hb3 HW.out.1.lt
  have hb3' : Blk W3 w.heap.size 60 #[.int .i8 6, .int .i64 kids, .int .i64 nn, .string s, .string t, .string u, .int .i64 ln, .int .i64 cl] := HW.out.2.1.below hb3 HW.out.2.1.lt
  have H3 := Lib.hid (And.intro hbt3 (And.intro hc3 (And.intro hb3' (And.intro HW.out.2.2.2.1 (And.intro HW.out.2.2.2.2 hb3.size)))))
  clear n0 n1' n2 n3 n4 n5 n6 n7 hb3 hbt3 hc3
  obtain ⟨n0, n1', n2, n3, n4, n5, n6, n7⟩ := blk_cells8 hb3'
  clear hb3'
  go_wp2_with fail
  (refine (HM.out _).mono ?_); rintro e w4 ⟨rfl, rfl⟩
  clear n0 n1' n2 n3 n4 n5 n6 n7
  go_upto_region 14 with fail

  have h3s := H3.out.2.2.2.2.2
  have hcb3 : cb < W3.heap.size := H3.out.2.1.lt
  have HS := Lib.hid (show ∀ W', Bt cb W3 W' → (Bt cb W3 W' ∧ W'.cell? ⟨w.heap.size, 4, none⟩ = some (.string t) ∧ W'.cell? ⟨w.heap.size, 5, none⟩ = some (.string u)) from fun W' hb' => by
    have hk := hb'.blk H3.out.2.2.1 (by omega)
    exact ⟨hb', (hk.cell 4).trans rfl, (hk.cell 5).trans rfl⟩)
  have hHR := HR.out
  rw [made_pos h64] at hHR
  simp only [Rs.then, tyF_cons] at hHR
  -- what push gives, and typed behind it
  have hpush := fun (W4 : World) (hs4 : W4 = W3.drew.alloc (.cells #[.string t, .string f] 9)) => push_any Ae EL ce (env.map strV) (some ⟨W3.heap.size, 0, none⟩) 2 2 W3.heap.size [Value.string t, Value.string f] W4 (by
      rw [hs4]
      exact ⟨rfl, .inr ⟨W3.heap.size, 2, _, rfl, Nat.le_refl _, heap_alloc_new W3.drew _, Nat.le_refl _, by unfold maxLen; omega, rfl, rfl⟩⟩) (by
      refine ⟨by rw [List.length_map, H3.out.2.2.2.2.1, Nat.mul_one], ?_⟩
      rcases (HIN.out.2.1.bt (H3.out.1.trans (Bt.below (show Below W3.heap.size W3 W4 by rw [hs4]; exact bal (Below.refl _ _).drew _)))) with h | ⟨eb, eo, h1, h2, h3, h4⟩
      · exact .inl (by rw [← H3.out.2.2.2.2.1, h]; rfl)
      · exact .inr ⟨eb, eo, h1, h3, fun j q hq => by
          rw [List.getElem?_map] at hq
          obtain ⟨q', hq', rfl⟩ := Option.map_eq_some_iff.1 hq
          exact h4 j q' hq'⟩) (by
      intro q hq
      obtain ⟨q', _, rfl⟩ := List.mem_map.1 hq
      rfl) (by rw [hs4]; simp only [World.size_alloc]; show W3.heap.size ≤ W3.heap.size + 1; omega) (by omega)
  have henv2 : ∀ q ∈ (ty t :: .bin 62 (ty t) (ty u) :: env), okT q := fun q hq => by
    have hb := HK.out.2.2.2.2.2.2
    simp only [List.mem_cons] at hq
    rcases hq with rfl | rfl | hq
    · exact ⟨hb.1.1, hb.1.2.2⟩
    · exact ⟨⟨by decide, hb.1.1, hb.2.1⟩, h64⟩
    · exact HK.out.2.2.2.2.1 q hq
  have htyp := fun (w5 : World) (V : Value) (hbt : Bt cb w w5) (hck : Chk w5 cb (some ⟨b, o, none⟩) N c ((a : Int) + 1) (.map (some mb))) (ho : w5.ownsRow W3.heap.size 9 1 V (2 + EL) ([Value.string t, Value.string f] ++ env.map strV)) =>
    (show ∃ A' c', V = .slice A' (2 + EL) c' ∧ 2 + EL ≤ c' ∧ Calls Tryz.prog 54 #[.pointer (some ⟨cb, 0, none⟩), .slice A' (2 + EL) c'] w5 fun e w' => TypQ (tyT n1 k1 (ty t :: .bin 62 (ty t) (ty u) :: env) (a + 1)) cb (some ⟨b, o, none⟩) N c (.map (some mb)) (a + 1 + 1 + k1.sz) w5 e w' from by
      have hel : (ty t :: .bin 62 (ty t) (ty u) :: env).length = 2 + EL := by simp only [List.length_cons, H3.out.2.2.2.2.1]; omega
      have hxs : [Value.string t, Value.string f] ++ env.map strV = (ty t :: .bin 62 (ty t) (ty u) :: env).map strV := by
        have hb := HK.out.2.2.2.2.2
        simp only [List.map_cons, strV]
        rw [← hb.2.1.2.1, ← hb.1]
        rfl
      rw [hxs] at ho
      obtain ⟨A', c', rfl, hc', hka⟩ := own_kids ho hel
      refine ⟨A', c', rfl, hc', ?_⟩
      have hlt := ho.lt
      have := HK.out.2.2.1.1 (a + 1) rest (ty t :: .bin 62 (ty t) (ty u) :: env) A' c' w5 HK.out.1 ⟨HK.out.2.1.1, HK.out.2.1.2.1, HK.out.2.1.2.2.1, trivial⟩ henv2 (by omega) (by have := HK.out.2.2.2.1; have := H3.out.2.2.2.2.1; omega) (by
          rcases hka with h | ⟨g, rfl, h2, h3⟩
          · exact .inl h
          · have hg := (hlt g rfl).1
            exact .inr ⟨g, 0, rfl, by omega, h2, fun j q hq => by rw [Nat.zero_add]; exact h3 j q hq⟩) (by rw [H3.out.2.2.2.1]; exact hck) (HIN.out.1.bt hbt) (HIN.out.2.2.bt hbt)
      rw [hel, H3.out.2.2.2.1] at this
      exact this)
  obtain ⟨T1, hT1⟩ : ∃ q, tyT n1 k1 (ty t :: .bin 62 (ty t) (ty u) :: env) (a + 1) = q := ⟨_, rfl⟩
  rw [hT1] at hHR htyp
  have HPU := Lib.hid hpush
  have HTY := Lib.hid htyp
  have HT1 := Lib.hid hT1
  have HEN2 := Lib.hid henv2
  clear hpush htyp hT1 henv2

  cases T1 with
  | bad E x =>
    simp only at hHR
    subst hHR
    clear HR
    refine wp_region_held_drew (S := (fun W' => Bt cb W3 W' ∧ W'.cell? ⟨w.heap.size, 4, none⟩ = some (.string t) ∧ W'.cell? ⟨w.heap.size, 5, none⟩ = some (.string u))) (by kernel_rfl) ?ss1 (fun hHeld => ?rr1)
    case ss1 => (try dsimp only); exact HS.out _ (Bt.below (Below.refl _ _).drew)
    refine rgt 0 77 rfl rfl hHeld ?_
    try simp only [Act.put, rg1, rg2, rg3]
    refine rgt 1 78 rfl rfl hHeld ?_
    try simp only [Act.put, rg1, rg2, rg3]
    refine rgt 2 79 rfl rfl hHeld ?_
    try simp only [Act.put, rg1, rg2, rg3]
    refine rgt 3 80 rfl rfl hHeld ?_
    try simp only [Act.put, rg1, rg2, rg3]
    refine rgt 4 81 rfl rfl hHeld ?_
    try simp only [Act.put, rg1, rg2, rg3]
    refine rgt 8 85 rfl rfl hHeld ?_
    try simp only [Act.put, rg1, rg2, rg3]
    refine rgt 9 86 rfl rfl hHeld ?_
    try simp only [Act.put, rg1, rg2, rg3]
    refine rgt 11 88 rfl rfl hHeld ?_
    try simp only [Act.put, rg1, rg2, rg3]
    refine rgc 5 (some 82) rfl (fun K hK => ?_)
    go_simp
    go_simp
    refine hK.out _ _ ?ss10 (fun hHeld2 => ?rr10)
    case ss10 => (try dsimp only); exact HS.out _ (Bt.below (bal (Below.refl _ _).drew _))
    clear hK K
    clear hHeld
    have hHeld := hHeld2
    clear hHeld2
    try simp only [Act.put, rg1, rg2, rg3]
    refine rgc 6 (some 83) rfl (fun K hK => ?_)
    go_simp
    ((refine (HPU.out _ rfl).mono ?_); rintro e w5 ⟨V5, rfl, ho5, hg5⟩; have hbt5 : Bt cb W3 w5 := But.grown (Bt.below (bal (Below.refl W3.heap.size W3).drew _)) hg5 (fun x hx hl => by have hx2 : W3.heap.size = x := (by injection hx); omega); have hck5 : Chk w5 cb (some ⟨b, o, none⟩) N c ((a : Int) + 1) (.map (some mb)) := (Blk.alloc (Blk.drew H3.out.2.1) _).grown hg5 (fun e => by have e2 : cb = W3.heap.size := (by injection e); omega); obtain ⟨A5, c5, rfl, hc5, hty5⟩ := HTY.out w5 V5 (H3.out.1.trans hbt5) hck5 ho5; have HB5 := Lib.hid hbt5; clear ho5 hg5 hbt5 hck5)
    refine hK.out _ _ ?ss11 (fun hHeld2 => ?rr11)
    case ss11 => (try dsimp only); exact HS.out _ HB5.out
    clear hK K
    clear hHeld
    have hHeld := hHeld2
    clear hHeld2
    try simp only [Act.put, rg1, rg2, rg3]
    refine rgc 7 (some 84) rfl (fun K hK => ?_)
    go_simp
    (refine hty5.mono ?_)
    (rintro e w6 ⟨hb6, hq6⟩)
    (simp only at hq6)
    subst hq6
    unfold Flaw
    have HB6 := Lib.hid (H3.out.1.trans (HB5.out.trans hb6))
    clear hty5 hb6
    go_wp2_with fail
    exact bodyPost_panic rfl (TypQ.bad HB6.out)
  | ok t1 =>
    have hokt : okT t1 := tyT_ok HEN2.out HT1.out
    simp only [tyF, List.getD_cons_zero] at hHR
    have heq : ((str t1).toList == u.toList) = true ↔ t1 = ty u := by
      have h := strEq hokt.1 HK.out.2.2.2.2.2.2.2.1
      rwa [← HK.out.2.2.2.2.2.2.2.2.1] at h
    obtain ⟨r, hr⟩ : ∃ r, ((str t1).toList == u.toList) = r := ⟨_, rfl⟩
    rw [hr, ] at heq
    rw [want_if heq] at hHR
    clear heq hokt HR
    cases r
    · rw [if_neg (by simp)] at hHR
      subst hHR
      refine wp_region_held_drew (S := (fun W' => Bt cb W3 W' ∧ W'.cell? ⟨w.heap.size, 4, none⟩ = some (.string t) ∧ W'.cell? ⟨w.heap.size, 5, none⟩ = some (.string u))) (by kernel_rfl) ?ss13 (fun hHeld => ?rr13)
      case ss13 => (try dsimp only); exact HS.out _ (Bt.below (Below.refl _ _).drew)
      refine rgt 0 77 rfl rfl hHeld ?_
      try simp only [Act.put, rg1, rg2, rg3]
      refine rgt 1 78 rfl rfl hHeld ?_
      try simp only [Act.put, rg1, rg2, rg3]
      refine rgt 2 79 rfl rfl hHeld ?_
      try simp only [Act.put, rg1, rg2, rg3]
      refine rgt 3 80 rfl rfl hHeld ?_
      try simp only [Act.put, rg1, rg2, rg3]
      refine rgt 4 81 rfl rfl hHeld ?_
      try simp only [Act.put, rg1, rg2, rg3]
      refine rgt 8 85 rfl rfl hHeld ?_
      try simp only [Act.put, rg1, rg2, rg3]
      refine rgt 9 86 rfl rfl hHeld ?_
      try simp only [Act.put, rg1, rg2, rg3]
      refine rgt 11 88 rfl rfl hHeld ?_
      try simp only [Act.put, rg1, rg2, rg3]
      refine rgc 5 (some 82) rfl (fun K hK => ?_)
      go_simp
      go_simp
      refine hK.out _ _ ?ss22 (fun hHeld2 => ?rr22)
      case ss22 => (try dsimp only); exact HS.out _ (Bt.below (bal (Below.refl _ _).drew _))
      clear hK K
      clear hHeld
      have hHeld := hHeld2
      clear hHeld2
      try simp only [Act.put, rg1, rg2, rg3]
      refine rgc 6 (some 83) rfl (fun K hK => ?_)
      go_simp
      ((refine (HPU.out _ rfl).mono ?_); rintro e w5 ⟨V5, rfl, ho5, hg5⟩; have hbt5 : Bt cb W3 w5 := But.grown (Bt.below (bal (Below.refl W3.heap.size W3).drew _)) hg5 (fun x hx hl => by have hx2 : W3.heap.size = x := (by injection hx); omega); have hck5 : Chk w5 cb (some ⟨b, o, none⟩) N c ((a : Int) + 1) (.map (some mb)) := (Blk.alloc (Blk.drew H3.out.2.1) _).grown hg5 (fun e => by have e2 : cb = W3.heap.size := (by injection e); omega); obtain ⟨A5, c5, rfl, hc5, hty5⟩ := HTY.out w5 V5 (H3.out.1.trans hbt5) hck5 ho5; have HB5 := Lib.hid hbt5; clear ho5 hg5 hbt5 hck5)
      refine hK.out _ _ ?ss23 (fun hHeld2 => ?rr23)
      case ss23 => (try dsimp only); exact HS.out _ HB5.out
      clear hK K
      clear hHeld
      have hHeld := hHeld2
      clear hHeld2
      try simp only [Act.put, rg1, rg2, rg3]
      refine rgc 7 (some 84) rfl (fun K hK => ?_)
      go_simp
      ((refine hty5.mono ?_); rintro e w6 ⟨hb6, hq6⟩; obtain ⟨rfl, hck6⟩ := hq6; have HB6 := Lib.hid (And.intro (HB5.out.trans hb6) hck6); clear hty5 hb6 hck6)
      refine hK.out _ _ ?ss24 (fun hHeld2 => ?rr24)
      case ss24 => (try dsimp only); exact HS.out _ HB6.out.1
      clear hK K
      clear hHeld
      have hHeld := hHeld2
      clear hHeld2
      try simp only [Act.put, rg1, rg2, rg3]
      refine rgt 10 87 rfl rfl hHeld ?_
      try simp only [Act.put, rg1, rg2, rg3]
      refine rgc 12 (some 89) rfl (fun K hK => ?_)
      go_simp
      (refine (need_no 23 a _).mono ?_)
      (rintro e w7 ⟨rfl, rfl⟩)
      unfold Flaw
      go_wp2_with fail
      exact bodyPost_panic rfl (TypQ.bad (H3.out.1.trans HB6.out.1))
    · rw [if_pos rfl] at hHR
      subst hHR
      refine wp_region_held_drew (S := (fun W' => Bt cb W3 W' ∧ W'.cell? ⟨w.heap.size, 4, none⟩ = some (.string t) ∧ W'.cell? ⟨w.heap.size, 5, none⟩ = some (.string u))) (by kernel_rfl) ?ss27 (fun hHeld => ?rr27)
      case ss27 => (try dsimp only); exact HS.out _ (Bt.below (Below.refl _ _).drew)
      refine rgt 0 77 rfl rfl hHeld ?_
      try simp only [Act.put, rg1, rg2, rg3]
      refine rgt 1 78 rfl rfl hHeld ?_
      try simp only [Act.put, rg1, rg2, rg3]
      refine rgt 2 79 rfl rfl hHeld ?_
      try simp only [Act.put, rg1, rg2, rg3]
      refine rgt 3 80 rfl rfl hHeld ?_
      try simp only [Act.put, rg1, rg2, rg3]
      refine rgt 4 81 rfl rfl hHeld ?_
      try simp only [Act.put, rg1, rg2, rg3]
      refine rgt 8 85 rfl rfl hHeld ?_
      try simp only [Act.put, rg1, rg2, rg3]
      refine rgt 9 86 rfl rfl hHeld ?_
      try simp only [Act.put, rg1, rg2, rg3]
      refine rgt 11 88 rfl rfl hHeld ?_
      try simp only [Act.put, rg1, rg2, rg3]
      refine rgc 5 (some 82) rfl (fun K hK => ?_)
      go_simp
      go_simp
      refine hK.out _ _ ?ss36 (fun hHeld2 => ?rr36)
      case ss36 => (try dsimp only); exact HS.out _ (Bt.below (bal (Below.refl _ _).drew _))
      clear hK K
      clear hHeld
      have hHeld := hHeld2
      clear hHeld2
      try simp only [Act.put, rg1, rg2, rg3]
      refine rgc 6 (some 83) rfl (fun K hK => ?_)
      go_simp
      ((refine (HPU.out _ rfl).mono ?_); rintro e w5 ⟨V5, rfl, ho5, hg5⟩; have hbt5 : Bt cb W3 w5 := But.grown (Bt.below (bal (Below.refl W3.heap.size W3).drew _)) hg5 (fun x hx hl => by have hx2 : W3.heap.size = x := (by injection hx); omega); have hck5 : Chk w5 cb (some ⟨b, o, none⟩) N c ((a : Int) + 1) (.map (some mb)) := (Blk.alloc (Blk.drew H3.out.2.1) _).grown hg5 (fun e => by have e2 : cb = W3.heap.size := (by injection e); omega); obtain ⟨A5, c5, rfl, hc5, hty5⟩ := HTY.out w5 V5 (H3.out.1.trans hbt5) hck5 ho5; have HB5 := Lib.hid hbt5; clear ho5 hg5 hbt5 hck5)
      refine hK.out _ _ ?ss37 (fun hHeld2 => ?rr37)
      case ss37 => (try dsimp only); exact HS.out _ HB5.out
      clear hK K
      clear hHeld
      have hHeld := hHeld2
      clear hHeld2
      try simp only [Act.put, rg1, rg2, rg3]
      refine rgc 7 (some 84) rfl (fun K hK => ?_)
      go_simp
      ((refine hty5.mono ?_); rintro e w6 ⟨hb6, hq6⟩; obtain ⟨rfl, hck6⟩ := hq6; have HB6 := Lib.hid (And.intro (HB5.out.trans hb6) hck6); clear hty5 hb6 hck6)
      refine hK.out _ _ ?ss38 (fun hHeld2 => ?rr38)
      case ss38 => (try dsimp only); exact HS.out _ HB6.out.1
      clear hK K
      clear hHeld
      have hHeld := hHeld2
      clear hHeld2
      try simp only [Act.put, rg1, rg2, rg3]
      refine rgt 10 87 rfl rfl hHeld ?_
      try simp only [Act.put, rg1, rg2, rg3]
      refine rgc 12 (some 89) rfl (fun K hK => ?_)
      go_simp
      ((refine (need_yes 23 a _).mono ?_); rintro e w7 ⟨rfl, rfl⟩)
      refine hK.out _ _ ?ss40 (fun hHeld2 => ?rr40)
      case ss40 => (try dsimp only); exact hHeld
      clear hK K
      clear hHeld2
      try simp only [Act.put, rg1, rg2, rg3]
      refine wpAnyH_done (by kernel_rfl) ?_ _
      clear hHeld
      go_wp2_with fail
      go_ret
      exact TypQ.ok (H3.out.1.trans HB6.out.1) (by have h := HB6.out.2; rwa [show a + 1 + 1 + k1.sz = a + 1 + (1 + k1.sz + 0) by omega] at h) HK.out.2.2.2.2.2.1
end Go.Proofs.YtmagljnlfponaaaGreat.K

/- CkN8 -/
namespace Go.Proofs.YtmagljnlfponaaaGreat.K
open Go.RowKit Go.Proofs.YtmagljnlfponaaaGreat.B Go.Proofs.YtmagljnlfponaaaGreat.T
set_option linter.unusedVariables false
set_option linter.unusedSimpArgs false


set_option maxRecDepth 100000 in
set_option maxHeartbeats 8000000 in
theorem typed_8 (kids nn : Int) (s t u : ByteArray) (ln cl : Int) (L : List Tn) (A : Option Addr) (c mb cb c0 c1 c2 c3 : Nat) (k : Tf) (a : Nat) (env : List Ty) (Ae : Option Addr) (ce : Nat) (w : World)
    (hn : L[a]? = some ⟨8, kids, nn, s, t, u, ln, cl⟩) (hsm : Tn.small ⟨8, kids, nn, s, t, u, ln, cl⟩) (hen : EnvAt w cb Ae env) (henv : ∀ t ∈ env, okT t) (henc : env.length ≤ ce) (henl : env.length ≤ 100000) (hc : Chk w cb A L.length c a (.map (some mb))) (hL : LT w cb A L) (hrl : RulesAt w cb mb c0 c1 c2 c3) (hN : L.length ≤ 1000000) (hLc : L.length ≤ c) (rest : List Tn) (n1 m2 : Tn) (k1 k2 : Tf) (hk1 : k = .cons n1 k1 (.cons m2 k2 .nil)) (hdrop : L.drop a = ⟨8, kids, nn, s, t, u, ln, cl⟩ :: (k.list ++ rest)) (hwf : k.wf) (hE : wordsE ⟨8, kids, nn, s, t, u, ln, cl⟩ env.length = 0) (hkall : k.All (TypP L A c mb cb c0 c1 c2 c3)) (hebd : env.length + 2 * (k.high + 1) ≤ 100000) :
    Calls Tryz.prog 54 #[.pointer (some ⟨cb, 0, none⟩), .slice Ae env.length ce] w fun e w' => TypQ ((tyF k true env (a + 1)).then fun ts => .ok (ts.getD 1 tI)) cb A L.length c (.map (some mb)) (a + 1 + k.sz) w e w' := by
  obtain ⟨R, hR⟩ : ∃ R, ((tyF k true env (a + 1)).then fun ts => Rs.ok (ts.getD 1 tI)) = R := ⟨_, rfl⟩
  rw [hR]
  subst hk1
  have HE := Lib.hid hE
  have hd1 : L.drop (a + 1) = n1 :: (k1.list ++ (m2 :: (k2.list ++ rest))) := by rw [← List.drop_drop, hdrop]; simp [Tf.list]
  have hd2 : L.drop (a + 1 + 1 + k1.sz) = m2 :: (k2.list ++ rest) := by
    rw [show a + 1 + 1 + k1.sz = (a + 1) + (1 + k1.sz) by omega, ← List.drop_drop, hd1, show n1 :: (k1.list ++ (m2 :: (k2.list ++ rest))) = (n1 :: k1.list) ++ (m2 :: (k2.list ++ rest)) by simp, List.drop_append_of_le_length (by simp [Tf.list_len]; omega), List.drop_of_length_le (by simp [Tf.list_len]; omega)]
    rfl
  simp only [Tf.high, Tf.sz] at hebd ⊢
  simp only [tyF_cons] at hR
  have HK := Lib.hid (And.intro hd1 (And.intro hd2 (And.intro hwf (And.intro hkall (And.intro hebd henv)))))
  have HR := Lib.hid hR
  have hcb0 : cb < w.heap.size := hc.lt
  clear hR hd1 hd2 hdrop hwf hE hkall hebd henv
  obtain ⟨c0', c1', c2'⟩ := hc.cells
  have hcl : cb < w.heap.size := hc.lt
  have hal : a < L.length := (List.getElem?_eq_some_iff.1 hn).1
  obtain ⟨b, o, rfl, hbc, hbl, q0, q1, q2, q3, q4, q5, q6, q7⟩ := hL.node hn
  simp only at q0 q1 q2 q3 q4 q5 q6 q7
  have hwd := fun W => words_any ⟨8, kids, nn, s, t, u, ln, cl⟩ a env.length W hsm
  unfold Tn.val at hwd
  simp only at hwd
  obtain ⟨N, hNe⟩ : ∃ N, L.length = N := ⟨_, rfl⟩
  rw [hNe] at c0' hal hN hLc hc ⊢
  obtain ⟨EL, hEL⟩ : ∃ x, env.length = x := ⟨_, rfl⟩
  rw [hEL] at hwd henl henc HE ⊢
  have hcr := hc.frozen 1
  have hbk : Blk (w.alloc (.cells #[.int .i8 8, .int .i64 kids, .int .i64 nn, .string s, .string t, .string u, .int .i64 ln, .int .i64 cl] 60)) w.heap.size 60 #[.int .i8 8, .int .i64 kids, .int .i64 nn, .string s, .string t, .string u, .int .i64 ln, .int .i64 cl] := Blk.new _ _ _
  have hck : Chk (w.alloc (.cells #[.int .i8 8, .int .i64 kids, .int .i64 nn, .string s, .string t, .string u, .int .i64 ln, .int .i64 cl] 60)) cb (some ⟨b, o, none⟩) N c a (.map (some mb)) := Blk.alloc hc _
  have HW0 := Lib.hid (And.intro hck (And.intro hbk (And.intro hNe hEL)))
  have HWD := Lib.hid hwd
  have HIN := Lib.hid (And.intro hL (And.intro hen hrl))
  clear hc hck hbk hNe hEL hwd hL hen hrl hcr
  go_enter Tryz.func54, Tryz.ntmps54
  go_upto_region 3 with fail
  obtain ⟨hck, hbk, hNe, hEL⟩ := HW0.out
  obtain ⟨W1, hW1⟩ : ∃ W1, w.alloc (.cells #[.int .i8 8, .int .i64 kids, .int .i64 nn, .string s, .string t, .string u, .int .i64 ln, .int .i64 cl] 60) = W1 := ⟨_, rfl⟩
  have hbt0 : Bt cb w W1 := by rw [← hW1]; exact Bt.alloc (But.refl _ _) _
  rw [hW1] at hck hbk ⊢
  obtain ⟨p0, p1, p2⟩ := hck.cells
  have pf := hck.frozen 1
  have HW1 := Lib.hid (And.intro hck (And.intro hbk (And.intro hbt0 (And.intro hNe hEL))))
  clear hW1 hck hbk hbt0 hNe hEL HW0 c0' c1' c2' q0 q1 q2 q3 q4 q5 q6 q7
  go_upto_region 4 with fail
  obtain ⟨hck, hbk, hbt0, hNe, hEL⟩ := HW1.out
  obtain ⟨W2, hW2⟩ : ∃ W2, W1.setCell ⟨cb, 1, none⟩ (.int .i64 ((a : Int) + 1)) = W2 := ⟨_, rfl⟩
  have hc1 : Chk W2 cb (some ⟨b, o, none⟩) N c ((a : Int) + 1) (.map (some mb)) := by rw [← hW2]; exact hck.set _
  have hbk1 : Blk W2 w.heap.size 60 #[.int .i8 8, .int .i64 kids, .int .i64 nn, .string s, .string t, .string u, .int .i64 ln, .int .i64 cl] := by rw [← hW2]; exact hbk.far (p := ⟨cb, 1, none⟩) (show w.heap.size ≠ cb by omega) _
  have hbt1 : Bt cb w W2 := by rw [← hW2]; exact hbt0.set_ 1 _
  have HW := Lib.hid (And.intro hc1 (And.intro hbk1 (And.intro hbt1 (And.intro hNe hEL))))
  rw [hW2]
  clear hck hbk hbt0 hNe hEL hc1 hbk1 hbt1 HW1
  obtain ⟨n0, n1', n2, n3, n4, n5, n6, n7⟩ := blk_cells8 HW.out.2.1
  clear hW2 p0 p1 p2 pf
  go_wp2_with fail
  (refine (HWD.out _).mono ?_); rintro e W3 ⟨he, hb3⟩
  rw [if_pos HE.out] at he
  subst he
  have hbt3 : Bt cb w W3 := HW.out.2.2.1.trans (Bt.below hb3)
  have hc3 : Chk W3 cb (some ⟨b, o, none⟩) N c ((a : Int) + 1) (.map (some mb)) := HW.out.1.below hb3 HW.out.1.lt
  have hb3' : Blk W3 w.heap.size 60 #[.int .i8 8, .int .i64 kids, .int .i64 nn, .string s, .string t, .string u, .int .i64 ln, .int .i64 cl] := HW.out.2.1.below hb3 HW.out.2.1.lt
  have H3 := Lib.hid (And.intro hbt3 (And.intro hc3 (And.intro hb3' (And.intro HW.out.2.2.2.1 (And.intro HW.out.2.2.2.2 hb3.size)))))
  clear n0 n1' n2 n3 n4 n5 n6 n7 hb3 hbt3 hc3
  obtain ⟨n0, n1', n2, n3, n4, n5, n6, n7⟩ := blk_cells8 hb3'
  clear hb3'
  have h3s := H3.out.2.2.2.2.2
  have hcb3 : cb < W3.heap.size := H3.out.2.1.lt
  have hcall := HK.out.2.2.2.1.1 (a + 1) (m2 :: (k2.list ++ rest)) env Ae ce W3 HK.out.1 ⟨HK.out.2.2.1.1, HK.out.2.2.1.2.1, HK.out.2.2.1.2.2.1, trivial⟩ HK.out.2.2.2.2.2 (by rw [H3.out.2.2.2.2.1]; exact henc) (by have := HK.out.2.2.2.2.1; omega) (HIN.out.2.1.bt H3.out.1) (by rw [H3.out.2.2.2.1]; exact H3.out.2.1) (HIN.out.1.bt H3.out.1) (HIN.out.2.2.bt H3.out.1)
  rw [H3.out.2.2.2.1, H3.out.2.2.2.2.1] at hcall
  obtain ⟨T1, hT1⟩ : ∃ q, tyT n1 k1 env (a + 1) = q := ⟨_, rfl⟩
  have hHR := HR.out
  rw [hT1] at hcall hHR
  have HT1 := Lib.hid hT1
  have HCALL := Lib.hid hcall
  clear hT1 hcall HR
  have HHR := Lib.hid hHR
  clear hHR
  go_wp2_with fail
  (refine HCALL.out.mono ?_); rintro e w5 ⟨hb5, hq5⟩
  have hHR := HHR.out
  clear HHR
  cases T1 with
  | bad E x =>
    simp only at hq5
    subst hq5
    simp only [Rs.then] at hHR
    subst hHR
    have HB := Lib.hid (H3.out.1.trans hb5)
    clear hb5
    unfold Flaw
    go_wp2_with fail
    exact bodyPost_panic rfl (TypQ.bad HB.out)
  | ok t1 =>
    obtain ⟨rfl, hck5⟩ := hq5
    have hokt : okT t1 := tyT_ok HK.out.2.2.2.2.2 HT1.out
    simp only [Rs.then, if_true] at hHR
    have hsz5 : W3.heap.size ≤ w5.heap.size := hb5.size
    have hpush := push_any Ae EL ce (env.map strV) (some ⟨w5.heap.size, 0, none⟩) 1 1 W3.heap.size [Value.string (str t1)] (w5.alloc (.cells #[.string (str t1)] 9)) (⟨rfl, .inr ⟨w5.heap.size, 1, _, rfl, hsz5, heap_alloc_new w5 _, Nat.le_refl _, by unfold maxLen; omega, rfl, rfl⟩⟩) (by
        refine ⟨by rw [List.length_map, H3.out.2.2.2.2.1, Nat.mul_one], ?_⟩
        rcases (HIN.out.2.1.bt ((H3.out.1.trans hb5).alloc (.cells #[.string (str t1)] 9))) with h | ⟨eb, eo, h1, h2, h3, h4⟩
        · exact .inl (by rw [← H3.out.2.2.2.2.1, h]; rfl)
        · exact .inr ⟨eb, eo, h1, h3, fun j q hq => by
            rw [List.getElem?_map] at hq
            obtain ⟨q', hq', rfl⟩ := Option.map_eq_some_iff.1 hq
            exact h4 j q' hq'⟩) (by
        intro q hq
        obtain ⟨q', _, rfl⟩ := List.mem_map.1 hq
        rfl) (by simp only [World.size_alloc]; omega) (by omega)
    have HPU := Lib.hid hpush
    have HB5 := Lib.hid (And.intro hb5 (And.intro hck5 (And.intro hokt hHR)))
    clear hpush hb5 hck5 hokt hHR
    go_wp2_with fail
    (refine HPU.out.mono ?_); rintro e w6 ⟨V6, rfl, ho6, hg6⟩
    obtain ⟨hb5, hck5, hokt, hHR⟩ := HB5.out
    have hb6 : Bt cb W3 w6 := But.grown (hb5.alloc _) hg6 (fun x hx hl => by have hx2 : w5.heap.size = x := (by injection hx); omega)
    have hck6 : Chk w6 cb (some ⟨b, o, none⟩) N c ((a + 1 + 1 + k1.sz : Nat) : Int) (.map (some mb)) := (Blk.alloc hck5 _).grown hg6 (fun e => by have e2 : cb = w5.heap.size := (by injection e); omega)
    have hel : (t1 :: env).length = 1 + EL := by simp only [List.length_cons, H3.out.2.2.2.2.1]; omega
    have ho7 : w6.ownsRow W3.heap.size 9 1 V6 (1 + EL) ((t1 :: env).map strV) := ho6
    obtain ⟨A', c', rfl, hc', hka⟩ := own_kids ho7 hel
    have hlt := ho7.lt
    have henv2 : ∀ q ∈ t1 :: env, okT q := fun q hq => by
      rcases List.mem_cons.1 hq with rfl | hq
      · exact hokt
      · exact HK.out.2.2.2.2.2 q hq
    have hbt6 := H3.out.1.trans hb6
    have hcall := HK.out.2.2.2.1.2.1 (a + 1 + 1 + k1.sz) rest (t1 :: env) A' c' w6 HK.out.2.1 ⟨HK.out.2.2.1.2.2.2.1, HK.out.2.2.1.2.2.2.2.1, HK.out.2.2.1.2.2.2.2.2.1, trivial⟩ henv2 (by omega) (by have := HK.out.2.2.2.2.1; have := H3.out.2.2.2.2.1; omega) (by
        rcases hka with h | ⟨g, rfl, h2, h3⟩
        · exact .inl h
        · have hg := (hlt g rfl).1
          exact .inr ⟨g, 0, rfl, by omega, h2, fun j q hq => by rw [Nat.zero_add]; exact h3 j q hq⟩) (by rw [H3.out.2.2.2.1]; exact hck6) (HIN.out.1.bt hbt6) (HIN.out.2.2.bt hbt6)
    rw [hel, H3.out.2.2.2.1] at hcall
    obtain ⟨T2, hT2⟩ : ∃ q, tyT m2 k2 (t1 :: env) (a + 1 + 1 + k1.sz) = q := ⟨_, rfl⟩
    rw [hT2] at hcall hHR
    have HCALL2 := Lib.hid hcall
    have HB6 := Lib.hid (And.intro hbt6 hHR)
    clear hT2 hcall hHR hb5 hck5 hokt hb6 hck6 hel ho7 ho6 hka hlt henv2 hbt6 hg6 HB5 HPU
    go_wp2_with fail
    (refine HCALL2.out.mono ?_); rintro e w7 ⟨hb7, hq7⟩
    have hHR := HB6.out.2
    cases T2 with
    | bad E x =>
      simp only at hq7
      subst hq7
      simp only [Rs.then] at hHR
      subst hHR
      have HB := Lib.hid (HB6.out.1.trans hb7)
      clear hb7
      unfold Flaw
      go_wp2_with fail
      exact bodyPost_panic rfl (TypQ.bad HB.out)
    | ok t2 =>
      obtain ⟨rfl, hck7⟩ := hq7
      simp only [Rs.then, tyF, List.getD_cons_succ, List.getD_cons_zero] at hHR
      subst hHR
      have HB := Lib.hid (And.intro (HB6.out.1.trans hb7) hck7)
      clear hb7 hck7
      go_wp2_with fail
      go_ret
      exact TypQ.ok HB.out.1 (by have h := HB.out.2; rwa [show a + 1 + 1 + k1.sz + 1 + k2.sz = a + 1 + (1 + k1.sz + (1 + k2.sz + 0)) by omega] at h) rfl
end Go.Proofs.YtmagljnlfponaaaGreat.K
