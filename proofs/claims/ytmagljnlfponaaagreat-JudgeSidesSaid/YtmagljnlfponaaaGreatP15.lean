/- Parts of this claim: RtK, RtL. -/
import Derived.Test.YtmagljnlfponaaaGreatP14
set_option linter.unusedVariables false
set_option linter.unusedSimpArgs false
/- RtK -/
namespace Go.Proofs.YtmagljnlfponaaaGreat.R
open Go.RowKit Go.Proofs.YtmagljnlfponaaaGreat.B Go.Proofs.YtmagljnlfponaaaGreat.T Go.Proofs.YtmagljnlfponaaaGreat.K
set_option linter.unusedVariables false
set_option linter.unusedSimpArgs false

set_option maxRecDepth 100000 in
set_option maxHeartbeats 4000000 in
theorem fn_5 (kids nn : Int) (s t u : ByteArray) (ln cl : Int) (L : List Tn) (A : Option Addr) (c wb sb : Nat) (xs : List Value) (n1 : Tn) (k1 : Tf) (a a' : Nat) (env : List Ty) (Ae : Option Addr) (ce : Nat) (w : World) (hs : St L A c wb sb xs (a + 1) w) (he1 : EnvAt w wb Ae env) (he2 : EnvAt w sb Ae env) (henl : env.length ≤ 100000) (ht : isB t = true) (hu : isB u = true)
    (R1 : Rs Ty) (l1 : List Ty) (hokt : (Ty.bin 62 (ty t) (ty u)).code.length ≤ 64 → ∀ t1, R1 = .ok t1 → okT t1)
    (hkid : (Ty.bin 62 (ty t) (ty u)).code.length ≤ 64 → ∀ W A2 c2, ([ty t] ++ env).length ≤ c2 → EnvAt W wb A2 ([ty t] ++ env) → EnvAt W sb A2 ([ty t] ++ env) → St L A c wb sb xs (a + 1) W → Calls Tryz.prog 49 #[.pointer (some ⟨wb, 0, none⟩), .slice A2 ([ty t] ++ env).length c2] W fun e w' => TyR R1 l1 (a + 1) xs L A c wb sb a' W e w') :
    Calls Tryz.prog 84 #[.pointer (some ⟨wb, 0, none⟩), .agg #[.int .i8 5, .int .i64 kids, .int .i64 nn, .string s, .string t, .string u, .int .i64 ln, .int .i64 cl], .int .i64 a, .slice Ae env.length ce] w fun e w' => TyR ((made (.bin 62 (ty t) (ty u)) a).then fun f => R1.then fun t1 => want (t1 = ty u) a (.ok f)) l1 (a + 1) xs L A c wb sb a' w e w' := by
  obtain ⟨hf, htz, huz⟩ := fn_str ht hu
  have ha1 := fun V => run_string_add_sum (P := Tryz.prog) V ⟨#[62]⟩ t (by show 1 + _ ≤ _; omega)
  have ha2 := fun V => run_string_add_sum (P := Tryz.prog) V ((⟨#[62]⟩ : ByteArray) ++ t) u (by rw [ByteArray.size_append]; show (1 + _) + _ ≤ _; omega)
  obtain ⟨f, hfe⟩ : ∃ f, ((⟨#[62]⟩ : ByteArray) ++ t) ++ u = f := ⟨_, rfl⟩
  rw [hfe] at ha2 hf
  have hfz : f.size = (Ty.bin 62 (ty t) (ty u)).code.length := by rw [hf, str_size]
  obtain ⟨c0, c1, c2, c3, c4⟩ := hs.wk.cells
  have hcl : wb < w.heap.size := hs.wk.lt
  have hsl : sb < w.heap.size := hs.al.lt
  have hbt1 : Bt wb w (w.alloc (.cells #[.int .i8 5, .int .i64 kids, .int .i64 nn, .string s, .string t, .string u, .int .i64 ln, .int .i64 cl] 60)) := Bt.alloc (But.refl _ _) _
  have hs1 := hs.bt hbt1 (Blk.alloc hs.wk _)
  have hbk1 : Blk (w.alloc (.cells #[.int .i8 5, .int .i64 kids, .int .i64 nn, .string s, .string t, .string u, .int .i64 ln, .int .i64 cl] 60)) w.heap.size 60 #[.int .i8 5, .int .i64 kids, .int .i64 nn, .string s, .string t, .string u, .int .i64 ln, .int .i64 cl] := Blk.new _ _ _
  obtain ⟨EL, hEL⟩ : ∃ x, env.length = x := ⟨_, rfl⟩
  by_cases h64 : (Ty.bin 62 (ty t) (ty u)).code.length ≤ 64
  · have hr : (made (.bin 62 (ty t) (ty u)) a) = .ok (.bin 62 (ty t) (ty u)) := by unfold made; rw [if_pos h64]
    rw [hr, Rs.then_ok]
    have HM := Lib.hid (madeS_yes f a hs1 (by omega))
    have HB := Lib.hid (And.intro hbt1 (And.intro hbk1 (And.intro (hkid h64) (And.intro he1 (And.intro he2 (And.intro hEL (And.intro hf (And.intro ht (And.intro hu (hokt h64))))))))))
    obtain ⟨R, hR⟩ : ∃ R, (R1.then fun t1 => want (t1 = ty u) a (Rs.ok (Ty.bin 62 (ty t) (ty u)))) = R := ⟨_, rfl⟩
    rw [hR]
    have HR := Lib.hid hR
    rw [hEL] at henl ⊢
    clear hs he1 he2 ht hu hkid hokt hbt1 hs1 hbk1 hf hfe hfz h64 hr hR hEL c0 c1 c3 c4 c2
    go_enter Tryz.func84, Tryz.ntmps84
    go_wp2_with fail
    (refine HM.out.mono ?_); rintro e w2 ⟨rfl, h1, hs2⟩
    obtain ⟨hbt1, hbk1, hkid, he1, he2, hEL, hf, ht, hu, hokt⟩ := HB.out
    have hbk2 := h1.blk hbk1 (show w.heap.size ≠ wb by omega)
    obtain ⟨n0, n1, n2, n3, n4, n5, n6, n7⟩ := blk_cells8 hbk2
    have p2 := hs2.wk.cells.2.2.1
    have hb2 : Bw wb sb w w2 := Bw.bt (hbt1.trans h1)
    have he3 := EnvAt.bw he1 he2 hb2
    have htt := (ty_spec ht).2.1
    have hsl1 : Sl (w2.alloc (.cells #[.string t] 9)) (w2.alloc (.cells #[.string t] 9)).heap.size 1 (some ⟨w2.heap.size, 0, none⟩) [ty t].length ([ty t].map strV) := by
      have h := (Sl.one w2 (.string t) 9).more (B' := (w2.alloc (.cells #[.string t] 9)).heap.size) (by simp)
      have e : strV (ty t) = Value.string t := congrArg Value.string htt.symm
      show Sl _ _ 1 _ 1 [strV (ty t)]
      rw [e]; exact h
    have hu1 := under_at (us := [ty t]) (ce := ce) (EnvAt.bt he3.1 (Bt.alloc (But.refl _ _) (.cells #[.string t] 9))) hsl1 (Nat.lt_of_lt_of_le hs2.wk.lt (by simp)) (Nat.lt_of_lt_of_le hs2.al.lt (by simp)) (by rw [hEL]; show 1 + EL ≤ _; omega)
    rw [hEL] at hu1
    have HU := Lib.hid hu1
    have H2 := Lib.hid (And.intro hb2 (And.intro hs2 (And.intro hbk2 he3)))
    clear hbt1 hbk1 hkid he1 he2 hEL hf ht hu hokt hbk2 hb2 he3 htt hsl1 hu1 h1 hs2 HM
    go_wp2_with fail
    (refine HU.out.mono ?_); rintro e w4 ⟨A2, c2, rfl, hc2, he4, he4', hb4⟩
    have hb24 : Below w2.heap.size w2 w4 := bl (bal b0 (.cells #[.string t] 9)) hb4
    have hs4 := H2.out.2.1.below hb24
    have hbk4 := H2.out.2.2.1.below hb24 H2.out.2.2.1.lt
    have hk4 := HB.out.2.2.1 w4 A2 c2 hc2 he4 he4' hs4
    have HK4 := Lib.hid (kid_ok _ w4 hs4 hk4 (fun e w' h => by
      obtain ⟨_, h2⟩ := h
      cases R1 with
      | ok t1 => exact ⟨_, h2.1⟩
      | bad E x => exact h2.1))
    clear n0 n1 n2 n3 n4 n5 n6 n7
    obtain ⟨n0, n1, n2, n3, n4, n5, n6, n7⟩ := blk_cells8 hbk4
    have H4 := Lib.hid (And.intro (H2.out.1.trans (Bw.below hb24)) hbk4)
    obtain ⟨q, hq⟩ : ∃ q, ([ty t] ++ env).length = q := ⟨_, rfl⟩
    rw [hq] at HK4 ⊢
    clear hq hc2 he4 he4' hb4 hb24 hs4 hbk4 hk4 HU
    go_wp2_with fail
    (refine HK4.out.mono ?_); rintro e w5 ⟨hb5, h5⟩
    have hbk5 := hb5.blk H4.out.2 (show w.heap.size ≠ wb by omega) (show w.heap.size ≠ sb by omega)
    clear n0 n1 n2 n3 n4 n5 n6 n7
    obtain ⟨n0, n1, n2, n3, n4, n5, n6, n7⟩ := blk_cells8 hbk5
    have hrr := HR.out
    cases R1 with
    | bad E x =>
      obtain ⟨⟨s1, rfl⟩, hE5⟩ := h5
      rw [Rs.then_bad] at hrr
      subst hrr
      have HWT := Lib.hid (fun b => want_err b (a : Nat) hE5)
      have HB5 := Lib.hid (H4.out.1.trans hb5)
      clear hb5 hbk5 hE5 HK4 HR
      go_wp2_with fail
      (refine (HWT.out _).mono ?_); rintro e w6 ⟨rfl, h1, h2⟩
      have H := Lib.hid (And.intro h1 h2)
      clear h1 h2
      go_wp2_with fail
      go_ret
      exact ⟨HB5.out.trans (Bw.bt H.out.1), ⟨_, rfl⟩, H.out.2⟩
    | ok t1 =>
      obtain ⟨rfl, hs5⟩ := h5
      obtain ⟨_, _, _, _, _, _, hf, ht, hu, hokt⟩ := HB.out
      have hot := hokt t1 rfl
      rw [Rs.then_ok] at hrr
      have HB5 := Lib.hid (And.intro (H4.out.1.trans hb5) hf)
      by_cases ht1 : t1 = ty u
      · have hse : ((str t1).toList == u.toList) = true := (str_eq hot hu).2 ht1
        have hR : R = Rs.ok (Ty.bin 62 (ty t) (ty u)) := by rw [← hrr]; unfold want; rw [if_pos ht1]
        subst hR
        have HWT := Lib.hid (want_yes (a : Nat) hs5)
        clear hb5 hbk5 hs5 HK4 HR hrr hot ht1 hokt ht hu hf HB
        go_wp2_with fail
        (refine HWT.out.mono ?_); rintro e w6 ⟨rfl, h1, h2⟩
        have H := Lib.hid (And.intro h1 h2)
        clear h1 h2
        go_wp2_with fail
        go_ret
        exact ⟨HB5.out.1.trans (Bw.bt H.out.1), retV (show Value.string f = .string (str (.bin 62 (ty t) (ty u))) from congrArg Value.string HB5.out.2), H.out.2⟩
      · have hse : ((str t1).toList == u.toList) = false := by
          rw [Bool.eq_false_iff]; exact fun h => ht1 ((str_eq hot hu).1 h)
        have hR : R = Rs.bad 23 a := by rw [← hrr]; unfold want; rw [if_neg ht1]
        subst hR
        have HWT := Lib.hid (want_no (a : Nat) hs5)
        clear hb5 hbk5 hs5 HK4 HR hrr hot ht1 hokt ht hu hf HB
        go_wp2_with fail
        (refine HWT.out.mono ?_); rintro e w6 ⟨rfl, h1, h2⟩
        have H := Lib.hid (And.intro h1 h2)
        clear h1 h2
        go_wp2_with fail
        go_ret
        exact ⟨HB5.out.1.trans (Bw.bt H.out.1), ⟨_, rfl⟩, H.out.2⟩
  · have hr : (made (.bin 62 (ty t) (ty u)) a) = .bad 21 a := by unfold made; rw [if_neg h64]
    rw [hr, Rs.then_bad]
    have HM := Lib.hid (madeS_no f a hs1 (by omega))
    have HB := Lib.hid hbt1
    rw [hEL]
    clear hs he1 he2 ht hu hkid hokt hbt1 hs1 hbk1 hf hfe hfz h64 hr hEL c0 c1 c3 c4 c2
    go_enter Tryz.func84, Tryz.ntmps84
    go_wp2_with fail
    (refine HM.out.mono ?_); rintro e w2 ⟨rfl, h1, h2⟩
    obtain ⟨a2, hw2⟩ := h2.wk
    have p2 := hw2.cells.2.2.1
    have H := Lib.hid (And.intro h1 h2)
    clear h1 h2 hw2
    go_wp2_with fail
    go_ret
    exact ⟨Bw.bt (HB.out.trans H.out.1), ⟨_, rfl⟩, H.out.2⟩

set_option maxRecDepth 100000 in
set_option maxHeartbeats 4000000 in
theorem fn_6 (kids nn : Int) (s t u : ByteArray) (ln cl : Int) (L : List Tn) (A : Option Addr) (c wb sb : Nat) (xs : List Value) (n1 : Tn) (k1 : Tf) (a a' : Nat) (env : List Ty) (Ae : Option Addr) (ce : Nat) (w : World) (hs : St L A c wb sb xs (a + 1) w) (he1 : EnvAt w wb Ae env) (he2 : EnvAt w sb Ae env) (henl : env.length ≤ 100000) (ht : isB t = true) (hu : isB u = true)
    (R1 : Rs Ty) (l1 : List Ty) (hokt : (Ty.bin 62 (ty t) (ty u)).code.length ≤ 64 → ∀ t1, R1 = .ok t1 → okT t1)
    (hkid : (Ty.bin 62 (ty t) (ty u)).code.length ≤ 64 → ∀ W A2 c2, ([ty t, .bin 62 (ty t) (ty u)] ++ env).length ≤ c2 → EnvAt W wb A2 ([ty t, .bin 62 (ty t) (ty u)] ++ env) → EnvAt W sb A2 ([ty t, .bin 62 (ty t) (ty u)] ++ env) → St L A c wb sb xs (a + 1) W → Calls Tryz.prog 49 #[.pointer (some ⟨wb, 0, none⟩), .slice A2 ([ty t, .bin 62 (ty t) (ty u)] ++ env).length c2] W fun e w' => TyR R1 l1 (a + 1) xs L A c wb sb a' W e w') :
    Calls Tryz.prog 84 #[.pointer (some ⟨wb, 0, none⟩), .agg #[.int .i8 6, .int .i64 kids, .int .i64 nn, .string s, .string t, .string u, .int .i64 ln, .int .i64 cl], .int .i64 a, .slice Ae env.length ce] w fun e w' => TyR ((made (.bin 62 (ty t) (ty u)) a).then fun f => R1.then fun t1 => want (t1 = ty u) a (.ok f)) l1 (a + 1) xs L A c wb sb a' w e w' := by
  obtain ⟨hf, htz, huz⟩ := fn_str ht hu
  have ha1 := fun V => run_string_add_sum (P := Tryz.prog) V ⟨#[62]⟩ t (by show 1 + _ ≤ _; omega)
  have ha2 := fun V => run_string_add_sum (P := Tryz.prog) V ((⟨#[62]⟩ : ByteArray) ++ t) u (by rw [ByteArray.size_append]; show (1 + _) + _ ≤ _; omega)
  obtain ⟨f, hfe⟩ : ∃ f, ((⟨#[62]⟩ : ByteArray) ++ t) ++ u = f := ⟨_, rfl⟩
  rw [hfe] at ha2 hf
  have hfz : f.size = (Ty.bin 62 (ty t) (ty u)).code.length := by rw [hf, str_size]
  obtain ⟨c0, c1, c2, c3, c4⟩ := hs.wk.cells
  have hcl : wb < w.heap.size := hs.wk.lt
  have hsl : sb < w.heap.size := hs.al.lt
  have hbt1 : Bt wb w (w.alloc (.cells #[.int .i8 6, .int .i64 kids, .int .i64 nn, .string s, .string t, .string u, .int .i64 ln, .int .i64 cl] 60)) := Bt.alloc (But.refl _ _) _
  have hs1 := hs.bt hbt1 (Blk.alloc hs.wk _)
  have hbk1 : Blk (w.alloc (.cells #[.int .i8 6, .int .i64 kids, .int .i64 nn, .string s, .string t, .string u, .int .i64 ln, .int .i64 cl] 60)) w.heap.size 60 #[.int .i8 6, .int .i64 kids, .int .i64 nn, .string s, .string t, .string u, .int .i64 ln, .int .i64 cl] := Blk.new _ _ _
  obtain ⟨EL, hEL⟩ : ∃ x, env.length = x := ⟨_, rfl⟩
  by_cases h64 : (Ty.bin 62 (ty t) (ty u)).code.length ≤ 64
  · have hr : (made (.bin 62 (ty t) (ty u)) a) = .ok (.bin 62 (ty t) (ty u)) := by unfold made; rw [if_pos h64]
    rw [hr, Rs.then_ok]
    have HM := Lib.hid (madeS_yes f a hs1 (by omega))
    have HB := Lib.hid (And.intro hbt1 (And.intro hbk1 (And.intro (hkid h64) (And.intro he1 (And.intro he2 (And.intro hEL (And.intro hf (And.intro ht (And.intro hu (hokt h64))))))))))
    obtain ⟨R, hR⟩ : ∃ R, (R1.then fun t1 => want (t1 = ty u) a (Rs.ok (Ty.bin 62 (ty t) (ty u)))) = R := ⟨_, rfl⟩
    rw [hR]
    have HR := Lib.hid hR
    rw [hEL] at henl ⊢
    clear hs he1 he2 ht hu hkid hokt hbt1 hs1 hbk1 hf hfe hfz h64 hr hR hEL c0 c1 c3 c4 c2
    go_enter Tryz.func84, Tryz.ntmps84
    go_wp2_with fail
    (refine HM.out.mono ?_); rintro e w2 ⟨rfl, h1, hs2⟩
    obtain ⟨hbt1, hbk1, hkid, he1, he2, hEL, hf, ht, hu, hokt⟩ := HB.out
    have hbk2 := h1.blk hbk1 (show w.heap.size ≠ wb by omega)
    obtain ⟨n0, n1, n2, n3, n4, n5, n6, n7⟩ := blk_cells8 hbk2
    have p2 := hs2.wk.cells.2.2.1
    have hb2 : Bw wb sb w w2 := Bw.bt (hbt1.trans h1)
    have he3 := EnvAt.bw he1 he2 hb2
    have htt := (ty_spec ht).2.1
    have hsl1 : Sl (w2.alloc (.cells #[.string t] 9)) (w2.alloc (.cells #[.string t] 9)).heap.size 1 (some ⟨w2.heap.size, 0, none⟩) [ty t].length ([ty t].map strV) := by
      have h := (Sl.one w2 (.string t) 9).more (B' := (w2.alloc (.cells #[.string t] 9)).heap.size) (by simp)
      have e : strV (ty t) = Value.string t := congrArg Value.string htt.symm
      show Sl _ _ 1 _ 1 [strV (ty t)]
      rw [e]; exact h
    have hu1 := under_at (us := [ty t]) (ce := ce) (EnvAt.bt he3.1 (Bt.alloc (But.refl _ _) (.cells #[.string t] 9))) hsl1 (Nat.lt_of_lt_of_le hs2.wk.lt (by simp)) (Nat.lt_of_lt_of_le hs2.al.lt (by simp)) (by rw [hEL]; show 1 + EL ≤ _; omega)
    rw [hEL] at hu1
    have HU := Lib.hid hu1
    have H2 := Lib.hid (And.intro hb2 (And.intro hs2 (And.intro hbk2 he3)))
    clear hbt1 hbk1 hkid he1 he2 hEL hf ht hu hokt hbk2 hb2 he3 htt hsl1 hu1 h1 hs2 HM
    go_wp2_with fail
    (refine HU.out.mono ?_); rintro e w3 ⟨A3, c3, rfl, _, _, _, hb3⟩
    have hb23 : Below w2.heap.size w2 w3 := bl (bal b0 (.cells #[.string t] 9)) hb3
    have hs3 := H2.out.2.1.below hb23
    have hbk3 := H2.out.2.2.1.below hb23 H2.out.2.2.1.lt
    have he3 := EnvAt.bw H2.out.2.2.2.1 H2.out.2.2.2.2 (Bw.below hb23)
    obtain ⟨_, _, _, _, _, hEL, hf, ht, _, _⟩ := HB.out
    have htt := (ty_spec ht).2.1
    have hsl2 : Sl (w3.alloc (.cells #[.string t, .string f] 9)) (w3.alloc (.cells #[.string t, .string f] 9)).heap.size 1 (some ⟨w3.heap.size, 0, none⟩) [ty t, Ty.bin 62 (ty t) (ty u)].length ([ty t, Ty.bin 62 (ty t) (ty u)].map strV) := by
      have e : strV (ty t) = Value.string t := congrArg Value.string htt.symm
      have e2 : strV (Ty.bin 62 (ty t) (ty u)) = Value.string f := congrArg Value.string hf.symm
      show Sl _ _ 1 _ 2 [strV (ty t), strV (Ty.bin 62 (ty t) (ty u))]
      rw [e, e2]
      refine ⟨rfl, .inr ⟨w3.heap.size, 0, rfl, by simp, fun j x hx => ?_⟩⟩
      match j, hx with
      | 0, hx => simp at hx; subst hx; simp
      | 1, hx => simp at hx; subst hx; simp
    have hu2 := under_at (us := [ty t, Ty.bin 62 (ty t) (ty u)]) (ce := ce) (EnvAt.bt he3.1 (Bt.alloc (But.refl _ _) (.cells #[.string t, .string f] 9))) hsl2 (Nat.lt_of_lt_of_le hs3.wk.lt (by simp)) (Nat.lt_of_lt_of_le hs3.al.lt (by simp)) (by rw [hEL]; show 2 + EL ≤ _; omega)
    rw [hEL] at hu2
    have HU2 := Lib.hid hu2
    have H3 := Lib.hid (And.intro (H2.out.1.trans (Bw.below hb23)) (And.intro hs3 (And.intro hbk3 he3)))
    clear n0 n1 n2 n3 n4 n5 n6 n7
    obtain ⟨n0, n1, n2, n3, n4, n5, n6, n7⟩ := blk_cells8 hbk3
    clear hb3 hb23 hs3 hbk3 he3 hEL hf ht htt hsl2 hu2 HU
    go_wp2_with fail
    (refine HU2.out.mono ?_); rintro e w4 ⟨A2, c2, rfl, hc2, he4, he4', hb4⟩
    have hb24 : Below w3.heap.size w3 w4 := bl (bal b0 (.cells #[.string t, .string f] 9)) hb4
    have hs4 := H3.out.2.1.below hb24
    have hbk4 := H3.out.2.2.1.below hb24 H3.out.2.2.1.lt
    have hk4 := HB.out.2.2.1 w4 A2 c2 hc2 he4 he4' hs4
    have HK4 := Lib.hid (kid_ok _ w4 hs4 hk4 (fun e w' h => by
      obtain ⟨_, h2⟩ := h
      cases R1 with
      | ok t1 => exact ⟨_, h2.1⟩
      | bad E x => exact h2.1))
    clear n0 n1 n2 n3 n4 n5 n6 n7
    obtain ⟨n0, n1, n2, n3, n4, n5, n6, n7⟩ := blk_cells8 hbk4
    have H4 := Lib.hid (And.intro (H3.out.1.trans (Bw.below hb24)) hbk4)
    obtain ⟨q, hq⟩ : ∃ q, ([ty t, .bin 62 (ty t) (ty u)] ++ env).length = q := ⟨_, rfl⟩
    rw [hq] at HK4 ⊢
    clear hq hc2 he4 he4' hb4 hb24 hs4 hbk4 hk4 HU2
    go_wp2_with fail
    (refine HK4.out.mono ?_); rintro e w5 ⟨hb5, h5⟩
    have hbk5 := hb5.blk H4.out.2 (show w.heap.size ≠ wb by omega) (show w.heap.size ≠ sb by omega)
    clear n0 n1 n2 n3 n4 n5 n6 n7
    obtain ⟨n0, n1, n2, n3, n4, n5, n6, n7⟩ := blk_cells8 hbk5
    have hrr := HR.out
    cases R1 with
    | bad E x =>
      obtain ⟨⟨s1, rfl⟩, hE5⟩ := h5
      rw [Rs.then_bad] at hrr
      subst hrr
      have HWT := Lib.hid (fun b => want_err b (a : Nat) hE5)
      have HB5 := Lib.hid (H4.out.1.trans hb5)
      clear hb5 hbk5 hE5 HK4 HR
      go_wp2_with fail
      (refine (HWT.out _).mono ?_); rintro e w6 ⟨rfl, h1, h2⟩
      have H := Lib.hid (And.intro h1 h2)
      clear h1 h2
      go_wp2_with fail
      go_ret
      exact ⟨HB5.out.trans (Bw.bt H.out.1), ⟨_, rfl⟩, H.out.2⟩
    | ok t1 =>
      obtain ⟨rfl, hs5⟩ := h5
      obtain ⟨_, _, _, _, _, _, hf, ht, hu, hokt⟩ := HB.out
      have hot := hokt t1 rfl
      rw [Rs.then_ok] at hrr
      have HB5 := Lib.hid (And.intro (H4.out.1.trans hb5) hf)
      by_cases ht1 : t1 = ty u
      · have hse : ((str t1).toList == u.toList) = true := (str_eq hot hu).2 ht1
        have hR : R = Rs.ok (Ty.bin 62 (ty t) (ty u)) := by rw [← hrr]; unfold want; rw [if_pos ht1]
        subst hR
        have HWT := Lib.hid (want_yes (a : Nat) hs5)
        clear hb5 hbk5 hs5 HK4 HR hrr hot ht1 hokt ht hu hf HB
        go_wp2_with fail
        (refine HWT.out.mono ?_); rintro e w6 ⟨rfl, h1, h2⟩
        have H := Lib.hid (And.intro h1 h2)
        clear h1 h2
        go_wp2_with fail
        go_ret
        exact ⟨HB5.out.1.trans (Bw.bt H.out.1), retV (show Value.string f = .string (str (.bin 62 (ty t) (ty u))) from congrArg Value.string HB5.out.2), H.out.2⟩
      · have hse : ((str t1).toList == u.toList) = false := by
          rw [Bool.eq_false_iff]; exact fun h => ht1 ((str_eq hot hu).1 h)
        have hR : R = Rs.bad 23 a := by rw [← hrr]; unfold want; rw [if_neg ht1]
        subst hR
        have HWT := Lib.hid (want_no (a : Nat) hs5)
        clear hb5 hbk5 hs5 HK4 HR hrr hot ht1 hokt ht hu hf HB
        go_wp2_with fail
        (refine HWT.out.mono ?_); rintro e w6 ⟨rfl, h1, h2⟩
        have H := Lib.hid (And.intro h1 h2)
        clear h1 h2
        go_wp2_with fail
        go_ret
        exact ⟨HB5.out.1.trans (Bw.bt H.out.1), ⟨_, rfl⟩, H.out.2⟩
  · have hr : (made (.bin 62 (ty t) (ty u)) a) = .bad 21 a := by unfold made; rw [if_neg h64]
    rw [hr, Rs.then_bad]
    have HM := Lib.hid (madeS_no f a hs1 (by omega))
    have HB := Lib.hid hbt1
    rw [hEL]
    clear hs he1 he2 ht hu hkid hokt hbt1 hs1 hbk1 hf hfe hfz h64 hr hEL c0 c1 c3 c4 c2
    go_enter Tryz.func84, Tryz.ntmps84
    go_wp2_with fail
    (refine HM.out.mono ?_); rintro e w2 ⟨rfl, h1, h2⟩
    obtain ⟨a2, hw2⟩ := h2.wk
    have p2 := hw2.cells.2.2.1
    have H := Lib.hid (And.intro h1 h2)
    clear h1 h2 hw2
    go_wp2_with fail
    go_ret
    exact ⟨Bw.bt (HB.out.trans H.out.1), ⟨_, rfl⟩, H.out.2⟩
end Go.Proofs.YtmagljnlfponaaaGreat.R

/- RtL -/
namespace Go.Proofs.YtmagljnlfponaaaGreat.R
open Go.RowKit Go.Proofs.YtmagljnlfponaaaGreat.B Go.Proofs.YtmagljnlfponaaaGreat.T Go.Proofs.YtmagljnlfponaaaGreat.K
set_option linter.unusedVariables false
set_option linter.unusedSimpArgs false

set_option maxRecDepth 100000 in
set_option maxHeartbeats 4000000 in
theorem one_5 (kids nn : Int) (s t u : ByteArray) (ln cl : Int) (L : List Tn) (A : Option Addr) (c wb sb : Nat) (xs : List Value) (k : Tf) (a : Nat) (env : List Ty) (Ae : Option Addr) (ce : Nat) (w : World)
    (hn : L[a]? = some ⟨5, kids, nn, s, t, u, ln, cl⟩) (hsm : Tn.small ⟨5, kids, nn, s, t, u, ln, cl⟩) (he1 : EnvAt w wb Ae env) (he2 : EnvAt w sb Ae env) (henv : ∀ t ∈ env, okT t) (henc : env.length ≤ ce) (henl : env.length ≤ 100000) (hs : St L A c wb sb xs a w) (hN : L.length ≤ 1000000) (hLc : L.length ≤ c) (hE0 : wordsE ⟨5, kids, nn, s, t, u, ln, cl⟩ env.length = 0) (ht : isB t = true) (hu : isB u = true) (rest : List Tn) (hdrop : L.drop a = ⟨5, kids, nn, s, t, u, ln, cl⟩ :: (k.list ++ rest)) (hwf : Tf.wf (.cons ⟨5, kids, nn, s, t, u, ln, cl⟩ k .nil)) (hkall : k.All (TyP L A c wb sb)) (hebd : env.length + 2 * (k.high + 1) ≤ 100000) :
    Calls Tryz.prog 61 #[.pointer (some ⟨wb, 0, none⟩), .slice Ae env.length ce] w fun e w' => TyR ((made (.bin 62 (ty t) (ty u)) a).then fun f => (tyF k false (ty t :: env) (a + 1)).then fun ts => want (ts.getD 0 tI = ty u) a (.ok f)) (prF k false (ty t :: env) (a + 1)) (a + 1) xs L A c wb sb (a + 1 + k.sz) w e w' := by
  have hkl : k.len = 1 := by
    have h1 := (goodN_iff.1 hwf.1).2.2
    have h2 := hwf.2.1
    simp only [show arK 5 = 1 from rfl] at h1 h2
    omega
  obtain ⟨n1, k1, rfl⟩ : ∃ n1 k1, k = .cons n1 k1 .nil := by
    match k, hkl with
    | .cons n1 k1 .nil, _ => exact ⟨n1, k1, rfl⟩
    | .cons n1 k1 (.cons _ _ _), h => simp only [Tf.len] at h; omega
  have hd1 : L.drop (a + 1) = n1 :: (k1.list ++ rest) := by
    rw [← List.drop_drop, hdrop]
    simp [Tf.list]
  have hoks : (Ty.bin 62 (ty t) (ty u)).code.length ≤ 64 → ∀ x ∈ (ty t :: env), okT x := fun h64 x hx => by
    have o1 := okT_ty ht
    have o2 := okT_ty hu
    simp only [List.mem_cons] at hx
    rcases hx with rfl | hx
    · exact o1
    
    · exact henv x hx
  have hkid := fun (h64 : (Ty.bin 62 (ty t) (ty u)).code.length ≤ 64) W A2 c2 (hc2 : (ty t :: env).length ≤ c2) e1 e2 (h : St L A c wb sb xs (a + 1) W) => hkall.1 (a + 1) rest (ty t :: env) A2 c2 xs W hd1 hwf.2.2.1 (hoks h64) hc2 (by simp only [Tf.high] at hebd; simp only [List.length_cons]; omega) e1 e2 h
  have hokt : (Ty.bin 62 (ty t) (ty u)).code.length ≤ 64 → ∀ t1, tyT n1 k1 (ty t :: env) (a + 1) = .ok t1 → okT t1 := fun h64 t1 h1 => tyT_ok (hoks h64) h1
  rw [tyF_one, prF_cons, show ∀ x y, prF .nil false x y = [] from fun x y => by rw [prF], List.append_nil, show a + 1 + (Tf.cons n1 k1 .nil).sz = a + 1 + 1 + k1.sz by simp only [Tf.sz]; omega]
  have hfn := fun W (h : St L A c wb sb xs (a + 1) W) e1 e2 => fn_5 kids nn s t u ln cl L A c wb sb xs n1 k1 a (a + 1 + 1 + k1.sz) env Ae ce W h e1 e2 henl ht hu (tyT n1 k1 (ty t :: env) (a + 1)) (prT n1 k1 (ty t :: env) (a + 1)) hokt (fun h64 W A2 c2 hc2 e1 e2 h => hkid h64 W A2 c2 hc2 e1 e2 h)
  obtain ⟨R1, hR1⟩ : ∃ R1, tyT n1 k1 (ty t :: env) (a + 1) = R1 := ⟨_, rfl⟩
  obtain ⟨l1, hl1⟩ : ∃ l1, prT n1 k1 (ty t :: env) (a + 1) = l1 := ⟨_, rfl⟩
  obtain ⟨a', ha'⟩ : ∃ a', a + 1 + 1 + k1.sz = a' := ⟨_, rfl⟩
  rw [hR1, hl1, ha'] at hfn
  rw [hR1, hl1, ha']
  have hrr : ((made (.bin 62 (ty t) (ty u)) a).then fun f => (R1.then fun t => Rs.ok [t]).then fun ts => want (ts.getD 0 tI = ty u) a (.ok f)) = ((made (.bin 62 (ty t) (ty u)) a).then fun f => R1.then fun t1 => want (t1 = ty u) a (.ok f)) := by cases R1 <;> rfl
  rw [hrr]
  obtain ⟨R, hR⟩ : ∃ R, ((made (.bin 62 (ty t) (ty u)) a).then fun f => R1.then fun t1 => want (t1 = ty u) a (.ok f)) = R := ⟨_, rfl⟩
  rw [hR] at hfn ⊢
  have HFN := Lib.hid hfn
  have HE := Lib.hid hE0
  clear hfn hE0 ht hu hkl hd1 hoks hkid hokt hR1 hl1 ha' hrr hR hdrop hwf hkall hebd
  obtain ⟨c0, c1, c2, c3, c4⟩ := hs.wk.cells
  have hcl : wb < w.heap.size := hs.wk.lt
  have hsl : sb < w.heap.size := hs.al.lt
  have hal : a < L.length := (List.getElem?_eq_some_iff.1 hn).1
  obtain ⟨b, o, rfl, hbc, hbl, q0, q1, q2, q3, q4, q5, q6, q7⟩ := hs.l1.node hn
  simp only at q0 q1 q2 q3 q4 q5 q6 q7
  have hah := fun W a1 h => ahead_any ⟨5, kids, nn, s, t, u, ln, cl⟩ a env.length W wb (some ⟨b, o, none⟩) L.length c a1 (allV sb L.length) hsm h
  unfold Tn.val at hah
  simp only at hah
  obtain ⟨N, hNe⟩ : ∃ N, L.length = N := ⟨_, rfl⟩
  have hwk := hs.wk
  rw [hNe] at c0 c4 hal hN hLc hwk hah
  obtain ⟨EL, hEL⟩ : ∃ x, env.length = x := ⟨_, rfl⟩
  rw [hEL] at hah henl henc HE HFN ⊢
  have hcr := hwk.frozen 1
  have hbk : Blk (w.alloc (.cells #[.int .i8 5, .int .i64 kids, .int .i64 nn, .string s, .string t, .string u, .int .i64 ln, .int .i64 cl] 60)) w.heap.size 60 #[.int .i8 5, .int .i64 kids, .int .i64 nn, .string s, .string t, .string u, .int .i64 ln, .int .i64 cl] := Blk.new _ _ _
  have hck : Wk (w.alloc (.cells #[.int .i8 5, .int .i64 kids, .int .i64 nn, .string s, .string t, .string u, .int .i64 ln, .int .i64 cl] 60)) wb (some ⟨b, o, none⟩) N c a 0 0 (allV sb N) := Blk.alloc hwk _
  have HS := Lib.hid (And.intro hs (And.intro he1 (And.intro he2 (And.intro hNe hEL))))
  have HW0 := Lib.hid (And.intro hck hbk)
  have HAH := Lib.hid hah
  have HENV := Lib.hid henv
  clear hs he1 he2 hNe hEL hck hbk hah hwk hcr henv
  go_enter Tryz.func61, Tryz.ntmps61
  go_upto_region 3 with fail
  obtain ⟨hck, hbk⟩ := HW0.out
  obtain ⟨W1, hW1⟩ : ∃ W1, w.alloc (.cells #[.int .i8 5, .int .i64 kids, .int .i64 nn, .string s, .string t, .string u, .int .i64 ln, .int .i64 cl] 60) = W1 := ⟨_, rfl⟩
  have hbt0 : Bt wb w W1 := by rw [← hW1]; exact Bt.alloc (But.refl _ _) _
  rw [hW1] at hck hbk ⊢
  obtain ⟨p0, p1, p2, p3, p4⟩ := hck.cells
  have pf := hck.frozen 1
  have HW1 := Lib.hid (And.intro hck (And.intro hbk hbt0))
  clear hW1 hck hbk hbt0 HW0 c0 c1 c2 c3 c4 q0 q1 q2 q3 q4 q5 q6 q7
  go_upto_region 4 with fail
  obtain ⟨hck, hbk, hbt0⟩ := HW1.out
  obtain ⟨W2, hW2⟩ : ∃ W2, W1.setCell ⟨wb, 1, none⟩ (.int .i64 ((a : Int) + 1)) = W2 := ⟨_, rfl⟩
  have hc1 : Wk W2 wb (some ⟨b, o, none⟩) N c ((a : Int) + 1) 0 0 (allV sb N) := by rw [← hW2]; exact hck.at_ _
  have hbk1 : Blk W2 w.heap.size 60 #[.int .i8 5, .int .i64 kids, .int .i64 nn, .string s, .string t, .string u, .int .i64 ln, .int .i64 cl] := by rw [← hW2]; exact hbk.far (p := ⟨wb, 1, none⟩) (show w.heap.size ≠ wb by omega) _
  have hbt1 : Bt wb w W2 := by rw [← hW2]; exact hbt0.set_ 1 _
  have HCA := Lib.hid (HAH.out W2 _ hc1)
  have HW := Lib.hid (And.intro hbk1 hbt1)
  rw [hW2]
  clear hck hbk hbt0 hc1 hbt1 HW1 HAH p0 p1 p2 p3 p4 pf hW2
  obtain ⟨n0, n1, n2, n3, n4, n5, n6, n7⟩ := blk_cells8 hbk1
  clear hbk1
  go_wp2_with fail
  (refine HCA.out.mono ?_); rintro e W3 ⟨rfl, hb3, hk3⟩
  rw [HE.out, if_pos rfl] at hk3
  obtain ⟨hs, he1, he2, hNe, hEL⟩ := HS.out
  have hbw : Bw wb sb w W3 := Bw.bt (HW.out.2.trans hb3)
  have hbk3 : Blk W3 w.heap.size 60 #[.int .i8 5, .int .i64 kids, .int .i64 nn, .string s, .string t, .string u, .int .i64 ln, .int .i64 cl] := hb3.blk HW.out.1 (show w.heap.size ≠ wb by omega)
  have hl3 := LT.bw hs.l1 hs.l2 hbw
  have hen3 := EnvAt.bw he1 he2 hbw
  have hal3 : AllA W3 sb xs := (HW.out.2.trans hb3).blk hs.al (fun e => hs.ne e.symm)
  have hs3 : St L (some ⟨b, o, none⟩) c wb sb xs (a + 1) W3 := ⟨by rw [hNe]; exact hk3, hal3, hs.len, hs.ne, hl3.1, hl3.2⟩
  have p2 := hk3.cells.2.2.1
  clear n0 n1 n2 n3 n4 n5 n6 n7
  obtain ⟨n0, n1, n2, n3, n4, n5, n6, n7⟩ := blk_cells8 hbk3
  have HF := Lib.hid (And.intro hbw (And.intro hs3 (And.intro hen3 (And.intro hNe (And.intro hEL hbk3)))))
  clear hs he1 he2 hNe hEL hbw hl3 hen3 hal3 hs3 hbk3 hk3 hb3 HS HW HCA
  have HC := Lib.hid (HFN.out W3 HF.out.2.1 HF.out.2.2.1.1 HF.out.2.2.1.2)
  go_wp2_with fail
  (refine HC.out.mono ?_); rintro e w5 ⟨hb5, h5⟩
  cases R with
  | bad E x =>
    obtain ⟨⟨s5, rfl⟩, hE5⟩ := h5
    have H := Lib.hid (And.intro (HF.out.1.trans hb5) hE5)
    clear hb5 hE5
    go_wp2_with fail
    go_ret
    exact ⟨H.out.1, ⟨_, rfl⟩, H.out.2⟩
  | ok t5 =>
    obtain ⟨rfl, hs5⟩ := h5
    have H := Lib.hid (And.intro (HF.out.1.trans hb5) hs5)
    clear hb5 hs5
    go_wp2_with fail
    go_ret
    exact ⟨H.out.1, rfl, H.out.2⟩

set_option maxRecDepth 100000 in
set_option maxHeartbeats 4000000 in
theorem one_6 (kids nn : Int) (s t u : ByteArray) (ln cl : Int) (L : List Tn) (A : Option Addr) (c wb sb : Nat) (xs : List Value) (k : Tf) (a : Nat) (env : List Ty) (Ae : Option Addr) (ce : Nat) (w : World)
    (hn : L[a]? = some ⟨6, kids, nn, s, t, u, ln, cl⟩) (hsm : Tn.small ⟨6, kids, nn, s, t, u, ln, cl⟩) (he1 : EnvAt w wb Ae env) (he2 : EnvAt w sb Ae env) (henv : ∀ t ∈ env, okT t) (henc : env.length ≤ ce) (henl : env.length ≤ 100000) (hs : St L A c wb sb xs a w) (hN : L.length ≤ 1000000) (hLc : L.length ≤ c) (hE0 : wordsE ⟨6, kids, nn, s, t, u, ln, cl⟩ env.length = 0) (ht : isB t = true) (hu : isB u = true) (rest : List Tn) (hdrop : L.drop a = ⟨6, kids, nn, s, t, u, ln, cl⟩ :: (k.list ++ rest)) (hwf : Tf.wf (.cons ⟨6, kids, nn, s, t, u, ln, cl⟩ k .nil)) (hkall : k.All (TyP L A c wb sb)) (hebd : env.length + 2 * (k.high + 1) ≤ 100000) :
    Calls Tryz.prog 61 #[.pointer (some ⟨wb, 0, none⟩), .slice Ae env.length ce] w fun e w' => TyR ((made (.bin 62 (ty t) (ty u)) a).then fun f => (tyF k false (ty t :: Ty.bin 62 (ty t) (ty u) :: env) (a + 1)).then fun ts => want (ts.getD 0 tI = ty u) a (.ok f)) (prF k false (ty t :: Ty.bin 62 (ty t) (ty u) :: env) (a + 1)) (a + 1) xs L A c wb sb (a + 1 + k.sz) w e w' := by
  have hkl : k.len = 1 := by
    have h1 := (goodN_iff.1 hwf.1).2.2
    have h2 := hwf.2.1
    simp only [show arK 6 = 1 from rfl] at h1 h2
    omega
  obtain ⟨n1, k1, rfl⟩ : ∃ n1 k1, k = .cons n1 k1 .nil := by
    match k, hkl with
    | .cons n1 k1 .nil, _ => exact ⟨n1, k1, rfl⟩
    | .cons n1 k1 (.cons _ _ _), h => simp only [Tf.len] at h; omega
  have hd1 : L.drop (a + 1) = n1 :: (k1.list ++ rest) := by
    rw [← List.drop_drop, hdrop]
    simp [Tf.list]
  have hoks : (Ty.bin 62 (ty t) (ty u)).code.length ≤ 64 → ∀ x ∈ (ty t :: Ty.bin 62 (ty t) (ty u) :: env), okT x := fun h64 x hx => by
    have o1 := okT_ty ht
    have o2 := okT_ty hu
    simp only [List.mem_cons] at hx
    rcases hx with rfl | rfl | hx
    · exact o1
    · exact ⟨⟨by decide, o1.1, o2.1⟩, h64⟩
    · exact henv x hx
  have hkid := fun (h64 : (Ty.bin 62 (ty t) (ty u)).code.length ≤ 64) W A2 c2 (hc2 : (ty t :: Ty.bin 62 (ty t) (ty u) :: env).length ≤ c2) e1 e2 (h : St L A c wb sb xs (a + 1) W) => hkall.1 (a + 1) rest (ty t :: Ty.bin 62 (ty t) (ty u) :: env) A2 c2 xs W hd1 hwf.2.2.1 (hoks h64) hc2 (by simp only [Tf.high] at hebd; simp only [List.length_cons]; omega) e1 e2 h
  have hokt : (Ty.bin 62 (ty t) (ty u)).code.length ≤ 64 → ∀ t1, tyT n1 k1 (ty t :: Ty.bin 62 (ty t) (ty u) :: env) (a + 1) = .ok t1 → okT t1 := fun h64 t1 h1 => tyT_ok (hoks h64) h1
  rw [tyF_one, prF_cons, show ∀ x y, prF .nil false x y = [] from fun x y => by rw [prF], List.append_nil, show a + 1 + (Tf.cons n1 k1 .nil).sz = a + 1 + 1 + k1.sz by simp only [Tf.sz]; omega]
  have hfn := fun W (h : St L A c wb sb xs (a + 1) W) e1 e2 => fn_6 kids nn s t u ln cl L A c wb sb xs n1 k1 a (a + 1 + 1 + k1.sz) env Ae ce W h e1 e2 henl ht hu (tyT n1 k1 (ty t :: Ty.bin 62 (ty t) (ty u) :: env) (a + 1)) (prT n1 k1 (ty t :: Ty.bin 62 (ty t) (ty u) :: env) (a + 1)) hokt (fun h64 W A2 c2 hc2 e1 e2 h => hkid h64 W A2 c2 hc2 e1 e2 h)
  obtain ⟨R1, hR1⟩ : ∃ R1, tyT n1 k1 (ty t :: Ty.bin 62 (ty t) (ty u) :: env) (a + 1) = R1 := ⟨_, rfl⟩
  obtain ⟨l1, hl1⟩ : ∃ l1, prT n1 k1 (ty t :: Ty.bin 62 (ty t) (ty u) :: env) (a + 1) = l1 := ⟨_, rfl⟩
  obtain ⟨a', ha'⟩ : ∃ a', a + 1 + 1 + k1.sz = a' := ⟨_, rfl⟩
  rw [hR1, hl1, ha'] at hfn
  rw [hR1, hl1, ha']
  have hrr : ((made (.bin 62 (ty t) (ty u)) a).then fun f => (R1.then fun t => Rs.ok [t]).then fun ts => want (ts.getD 0 tI = ty u) a (.ok f)) = ((made (.bin 62 (ty t) (ty u)) a).then fun f => R1.then fun t1 => want (t1 = ty u) a (.ok f)) := by cases R1 <;> rfl
  rw [hrr]
  obtain ⟨R, hR⟩ : ∃ R, ((made (.bin 62 (ty t) (ty u)) a).then fun f => R1.then fun t1 => want (t1 = ty u) a (.ok f)) = R := ⟨_, rfl⟩
  rw [hR] at hfn ⊢
  have HFN := Lib.hid hfn
  have HE := Lib.hid hE0
  clear hfn hE0 ht hu hkl hd1 hoks hkid hokt hR1 hl1 ha' hrr hR hdrop hwf hkall hebd
  obtain ⟨c0, c1, c2, c3, c4⟩ := hs.wk.cells
  have hcl : wb < w.heap.size := hs.wk.lt
  have hsl : sb < w.heap.size := hs.al.lt
  have hal : a < L.length := (List.getElem?_eq_some_iff.1 hn).1
  obtain ⟨b, o, rfl, hbc, hbl, q0, q1, q2, q3, q4, q5, q6, q7⟩ := hs.l1.node hn
  simp only at q0 q1 q2 q3 q4 q5 q6 q7
  have hah := fun W a1 h => ahead_any ⟨6, kids, nn, s, t, u, ln, cl⟩ a env.length W wb (some ⟨b, o, none⟩) L.length c a1 (allV sb L.length) hsm h
  unfold Tn.val at hah
  simp only at hah
  obtain ⟨N, hNe⟩ : ∃ N, L.length = N := ⟨_, rfl⟩
  have hwk := hs.wk
  rw [hNe] at c0 c4 hal hN hLc hwk hah
  obtain ⟨EL, hEL⟩ : ∃ x, env.length = x := ⟨_, rfl⟩
  rw [hEL] at hah henl henc HE HFN ⊢
  have hcr := hwk.frozen 1
  have hbk : Blk (w.alloc (.cells #[.int .i8 6, .int .i64 kids, .int .i64 nn, .string s, .string t, .string u, .int .i64 ln, .int .i64 cl] 60)) w.heap.size 60 #[.int .i8 6, .int .i64 kids, .int .i64 nn, .string s, .string t, .string u, .int .i64 ln, .int .i64 cl] := Blk.new _ _ _
  have hck : Wk (w.alloc (.cells #[.int .i8 6, .int .i64 kids, .int .i64 nn, .string s, .string t, .string u, .int .i64 ln, .int .i64 cl] 60)) wb (some ⟨b, o, none⟩) N c a 0 0 (allV sb N) := Blk.alloc hwk _
  have HS := Lib.hid (And.intro hs (And.intro he1 (And.intro he2 (And.intro hNe hEL))))
  have HW0 := Lib.hid (And.intro hck hbk)
  have HAH := Lib.hid hah
  have HENV := Lib.hid henv
  clear hs he1 he2 hNe hEL hck hbk hah hwk hcr henv
  go_enter Tryz.func61, Tryz.ntmps61
  go_upto_region 3 with fail
  obtain ⟨hck, hbk⟩ := HW0.out
  obtain ⟨W1, hW1⟩ : ∃ W1, w.alloc (.cells #[.int .i8 6, .int .i64 kids, .int .i64 nn, .string s, .string t, .string u, .int .i64 ln, .int .i64 cl] 60) = W1 := ⟨_, rfl⟩
  have hbt0 : Bt wb w W1 := by rw [← hW1]; exact Bt.alloc (But.refl _ _) _
  rw [hW1] at hck hbk ⊢
  obtain ⟨p0, p1, p2, p3, p4⟩ := hck.cells
  have pf := hck.frozen 1
  have HW1 := Lib.hid (And.intro hck (And.intro hbk hbt0))
  clear hW1 hck hbk hbt0 HW0 c0 c1 c2 c3 c4 q0 q1 q2 q3 q4 q5 q6 q7
  go_upto_region 4 with fail
  obtain ⟨hck, hbk, hbt0⟩ := HW1.out
  obtain ⟨W2, hW2⟩ : ∃ W2, W1.setCell ⟨wb, 1, none⟩ (.int .i64 ((a : Int) + 1)) = W2 := ⟨_, rfl⟩
  have hc1 : Wk W2 wb (some ⟨b, o, none⟩) N c ((a : Int) + 1) 0 0 (allV sb N) := by rw [← hW2]; exact hck.at_ _
  have hbk1 : Blk W2 w.heap.size 60 #[.int .i8 6, .int .i64 kids, .int .i64 nn, .string s, .string t, .string u, .int .i64 ln, .int .i64 cl] := by rw [← hW2]; exact hbk.far (p := ⟨wb, 1, none⟩) (show w.heap.size ≠ wb by omega) _
  have hbt1 : Bt wb w W2 := by rw [← hW2]; exact hbt0.set_ 1 _
  have HCA := Lib.hid (HAH.out W2 _ hc1)
  have HW := Lib.hid (And.intro hbk1 hbt1)
  rw [hW2]
  clear hck hbk hbt0 hc1 hbt1 HW1 HAH p0 p1 p2 p3 p4 pf hW2
  obtain ⟨n0, n1, n2, n3, n4, n5, n6, n7⟩ := blk_cells8 hbk1
  clear hbk1
  go_wp2_with fail
  (refine HCA.out.mono ?_); rintro e W3 ⟨rfl, hb3, hk3⟩
  rw [HE.out, if_pos rfl] at hk3
  obtain ⟨hs, he1, he2, hNe, hEL⟩ := HS.out
  have hbw : Bw wb sb w W3 := Bw.bt (HW.out.2.trans hb3)
  have hbk3 : Blk W3 w.heap.size 60 #[.int .i8 6, .int .i64 kids, .int .i64 nn, .string s, .string t, .string u, .int .i64 ln, .int .i64 cl] := hb3.blk HW.out.1 (show w.heap.size ≠ wb by omega)
  have hl3 := LT.bw hs.l1 hs.l2 hbw
  have hen3 := EnvAt.bw he1 he2 hbw
  have hal3 : AllA W3 sb xs := (HW.out.2.trans hb3).blk hs.al (fun e => hs.ne e.symm)
  have hs3 : St L (some ⟨b, o, none⟩) c wb sb xs (a + 1) W3 := ⟨by rw [hNe]; exact hk3, hal3, hs.len, hs.ne, hl3.1, hl3.2⟩
  have p2 := hk3.cells.2.2.1
  clear n0 n1 n2 n3 n4 n5 n6 n7
  obtain ⟨n0, n1, n2, n3, n4, n5, n6, n7⟩ := blk_cells8 hbk3
  have HF := Lib.hid (And.intro hbw (And.intro hs3 (And.intro hen3 (And.intro hNe (And.intro hEL hbk3)))))
  clear hs he1 he2 hNe hEL hbw hl3 hen3 hal3 hs3 hbk3 hk3 hb3 HS HW HCA
  have HC := Lib.hid (HFN.out W3 HF.out.2.1 HF.out.2.2.1.1 HF.out.2.2.1.2)
  go_wp2_with fail
  (refine HC.out.mono ?_); rintro e w5 ⟨hb5, h5⟩
  cases R with
  | bad E x =>
    obtain ⟨⟨s5, rfl⟩, hE5⟩ := h5
    have H := Lib.hid (And.intro (HF.out.1.trans hb5) hE5)
    clear hb5 hE5
    go_wp2_with fail
    go_ret
    exact ⟨H.out.1, ⟨_, rfl⟩, H.out.2⟩
  | ok t5 =>
    obtain ⟨rfl, hs5⟩ := h5
    have H := Lib.hid (And.intro (HF.out.1.trans hb5) hs5)
    clear hb5 hs5
    go_wp2_with fail
    go_ret
    exact ⟨H.out.1, rfl, H.out.2⟩
end Go.Proofs.YtmagljnlfponaaaGreat.R
