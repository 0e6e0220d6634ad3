/- Parts of this claim: CkMG. -/
import Derived.Deep.RegionHeld3
import Derived.Test.YtmagljnlfponaaaGreatP12
import Derived.Test.YtmagljnlfponaaaGreatP05
set_option linter.unusedVariables false
set_option linter.unusedSimpArgs false
/- CkMG -/
namespace Go.Proofs.YtmagljnlfponaaaGreat.K
open Go.RowKit Go.Proofs.YtmagljnlfponaaaGreat.B Go.Proofs.YtmagljnlfponaaaGreat.T
set_option linter.unusedVariables false
set_option linter.unusedSimpArgs false


set_option maxRecDepth 100000 in
set_option maxHeartbeats 8000000 in
theorem typed_met (kd : Int) (F : Nat) (K : Nat) (nn : Int) (s t u : ByteArray) (ln cl : Int) (L : List Tn) (A : Option Addr) (c mb cb c0 c1 c2 c3 : Nat) (k : Tf) (a : Nat) (env : List Ty) (Ae : Option Addr) (ce : Nat) (w : World)
    (hn : L[a]? = some ⟨kd, (K : Int), nn, s, t, u, ln, cl⟩) (hsm : Tn.small ⟨kd, (K : Int), nn, s, t, u, ln, cl⟩) (hen : EnvAt w cb Ae env) (henv : ∀ t ∈ env, okT t) (henc : env.length ≤ ce) (henl : env.length ≤ 100000) (hc : Chk w cb A L.length c a (.map (some mb))) (hL : LT w cb A L) (hrl : RulesAt w cb mb c0 c1 c2 c3) (hN : L.length ≤ 1000000) (hLc : L.length ≤ c) (rest : List Tn) (hdrop : L.drop a = ⟨kd, K, nn, s, t, u, ln, cl⟩ :: (k.list ++ rest)) (hKl : k.len = K) (hwf : k.wf) (hE : wordsE ⟨kd, K, nn, s, t, u, ln, cl⟩ env.length = 0) (hkall : k.All (TypP L A c mb cb c0 c1 c2 c3)) (hebd : env.length + 2 * (k.high + 1) ≤ 100000) (hent : ∀ args W', (callFunc F args).run Tryz.prog W' = .ok (.enter F args) W') (hkd : (kd == 4) = false ∧ (kd == 5) = false ∧ (kd == 6) = false ∧ (kd == 8) = false) (hlk : (kd, .func (.func F) #[] #[]) ∈ ruleL c0 c1 c2 c3)
    (hrl2 : ∀ (W' : World) (tsm : List Ty) (AV : Option Addr) (cV : Nat), Below w.heap.size w w → (∀ t ∈ tsm, okT t) → tsm.length = K → K ≤ cV → KidsAt W' AV tsm → RulesAt W' cb mb c0 c1 c2 c3 → Calls Tryz.prog F #[.pointer (some ⟨cb, 0, none⟩), .agg #[.int .i8 kd, .int .i64 (K : Int), .int .i64 nn, .string s, .string t, .string u, .int .i64 ln, .int .i64 cl], .slice AV K cV, .int .i64 (a : Nat)] W' fun e w' => RuleQ (ruleE ⟨kd, (K : Int), nn, s, t, u, ln, cl⟩ tsm a) W' e w') :
    Calls Tryz.prog 54 #[.pointer (some ⟨cb, 0, none⟩), .slice Ae env.length ce] w fun e w' => TypQ ((tyF k false env (a + 1)).then fun ts => ruleE ⟨kd, K, nn, s, t, u, ln, cl⟩ ts a) cb A L.length c (.map (some mb)) (a + 1 + k.sz) w e w' := by
  obtain ⟨R, hR⟩ : ∃ R, ((tyF k false env (a + 1)).then fun ts => ruleE ⟨kd, K, nn, s, t, u, ln, cl⟩ ts a) = R := ⟨_, rfl⟩
  rw [hR]
  have HE := Lib.hid hE
  have HR := Lib.hid hR
  have hd1 : L.drop (a + 1) = k.list ++ rest := by rw [← List.drop_drop, hdrop]; rfl
  have HK := Lib.hid (And.intro hd1 (And.intro hKl (And.intro hwf (And.intro hkall (And.intro hebd henv)))))
  have hcb0 : cb < w.heap.size := hc.lt
  have hKN : K ≤ L.length := by
    have h1 := congrArg List.length hd1
    simp only [List.length_drop, List.length_append, Tf.list_len] at h1
    have h2 := Tf.len_le k
    omega
  clear hE hR hd1 hdrop hKl hwf hkall hebd henv
  have HKK := Lib.hid (And.intro hlk hrl2)
  clear hlk hrl2
  obtain ⟨kd4, kd5, kd6, kd8⟩ := hkd

  obtain ⟨c0', c1', c2'⟩ := hc.cells
  have hcl : cb < w.heap.size := hc.lt
  have hal : a < L.length := (List.getElem?_eq_some_iff.1 hn).1
  obtain ⟨b, o, rfl, hbc, hbl, q0, q1, q2, q3, q4, q5, q6, q7⟩ := hL.node hn
  simp only at q0 q1 q2 q3 q4 q5 q6 q7
  have hwd := fun W => words_any ⟨kd, (K : Int), nn, s, t, u, ln, cl⟩ a env.length W hsm
  unfold Tn.val at hwd
  simp only at hwd
  obtain ⟨N, hNe⟩ : ∃ N, L.length = N := ⟨_, rfl⟩
  rw [hNe] at c0' hal hN hLc hc hKN ⊢
  obtain ⟨EL, hEL⟩ : ∃ x, env.length = x := ⟨_, rfl⟩
  rw [hEL] at hwd henl henc HE ⊢
  have hcr := hc.frozen 1
  have hbk : Blk (w.alloc (.cells #[.int .i8 kd, .int .i64 (K : Int), .int .i64 nn, .string s, .string t, .string u, .int .i64 ln, .int .i64 cl] 60)) w.heap.size 60 #[.int .i8 kd, .int .i64 (K : Int), .int .i64 nn, .string s, .string t, .string u, .int .i64 ln, .int .i64 cl] := Blk.new _ _ _
  have hck : Chk (w.alloc (.cells #[.int .i8 kd, .int .i64 (K : Int), .int .i64 nn, .string s, .string t, .string u, .int .i64 ln, .int .i64 cl] 60)) cb (some ⟨b, o, none⟩) N c a (.map (some mb)) := Blk.alloc hc _
  have HW0 := Lib.hid (And.intro hck (And.intro hbk (And.intro hNe hEL)))
  have HWD := Lib.hid hwd
  have HIN := Lib.hid (And.intro hL (And.intro hen hrl))
  clear hc hck hbk hNe hEL hwd hL hen hrl hcr
  go_enter Tryz.func54, Tryz.ntmps54
  go_upto_region 3 with fail
  obtain ⟨hck, hbk, hNe, hEL⟩ := HW0.out
  obtain ⟨W1, hW1⟩ : ∃ W1, w.alloc (.cells #[.int .i8 kd, .int .i64 (K : Int), .int .i64 nn, .string s, .string t, .string u, .int .i64 ln, .int .i64 cl] 60) = W1 := ⟨_, rfl⟩
  have hbt0 : Bt cb w W1 := by rw [← hW1]; exact Bt.alloc (But.refl _ _) _
  rw [hW1] at hck hbk ⊢
  obtain ⟨p0, p1, p2⟩ := hck.cells
  have pf := hck.frozen 1
  have HW1 := Lib.hid (And.intro hck (And.intro hbk (And.intro hbt0 (And.intro hNe hEL))))
  clear hW1 hck hbk hbt0 hNe hEL HW0 c0' c1' c2' q0 q1 q2 q3 q4 q5 q6 q7
  go_upto_region 4 with fail
  obtain ⟨hck, hbk, hbt0, hNe, hEL⟩ := HW1.out
  obtain ⟨W2, hW2⟩ : ∃ W2, W1.setCell ⟨cb, 1, none⟩ (.int .i64 ((a : Int) + 1)) = W2 := ⟨_, rfl⟩
  have hc1 : Chk W2 cb (some ⟨b, o, none⟩) N c ((a : Int) + 1) (.map (some mb)) := by rw [← hW2]; exact hck.set _
  have hbk1 : Blk W2 w.heap.size 60 #[.int .i8 kd, .int .i64 (K : Int), .int .i64 nn, .string s, .string t, .string u, .int .i64 ln, .int .i64 cl] := by rw [← hW2]; exact hbk.far (p := ⟨cb, 1, none⟩) (show w.heap.size ≠ cb by omega) _
  have hbt1 : Bt cb w W2 := by rw [← hW2]; exact hbt0.set_ 1 _
  have HW := Lib.hid (And.intro hc1 (And.intro hbk1 (And.intro hbt1 (And.intro hNe hEL))))
  rw [hW2]
  clear hck hbk hbt0 hNe hEL hc1 hbk1 hbt1 HW1
  obtain ⟨n0, n1, n2, n3, n4, n5, n6, n7⟩ := blk_cells8 HW.out.2.1
  clear hW2 p0 p1 p2 pf
  go_wp2_with fail
  (refine (HWD.out _).mono ?_); rintro e W3 ⟨he, hb3⟩
  rw [if_pos HE.out] at he
  subst he
  have hbt3 : Bt cb w W3 := HW.out.2.2.1.trans (Bt.below hb3)
  have hc3 : Chk W3 cb (some ⟨b, o, none⟩) N c ((a : Int) + 1) (.map (some mb)) := HW.out.1.below hb3 HW.out.1.lt
  have hb3' : Blk W3 w.heap.size 60 #[.int .i8 kd, .int .i64 (K : Int), .int .i64 nn, .string s, .string t, .string u, .int .i64 ln, .int .i64 cl] := HW.out.2.1.below hb3 HW.out.2.1.lt
  have H3 := Lib.hid (And.intro hbt3 (And.intro hc3 (And.intro hb3' (And.intro HW.out.2.2.2.1 (And.intro HW.out.2.2.2.2 hb3.size)))))
  clear n0 n1 n2 n3 n4 n5 n6 n7 hb3 hbt3 hc3
  obtain ⟨n0, n1, n2, n3, n4, n5, n6, n7⟩ := blk_cells8 hb3'
  clear hb3'

  obtain ⟨i0, hi0, hz0, hz1, hz2⟩ := info_parts info9
  go_wp2_with fail
  clear n0 n1 n2 n3 n4 n5 n6 n7
  go_loopg [9, 103] K (fun g V i wr => ∃ (m : Nat) (V' : Value), V' = V ∧ m ≤ K ∧ g = K - m ∧ i = .int .i64 m ∧ KidsI L (some ⟨b, o, none⟩) c mb cb c0 c1 c2 c3 k env (a + 1) rest K W3.heap.size m V' W3 wr)
  case atStart =>
    exact ⟨0, _, rfl, by omega, rfl, rfl, k, [], a + 1, by rw [HK.out.2.1]; rfl, rfl, fun t ht => (by cases ht), HK.out.2.2.2.1, HK.out.2.2.1, Nat.le_refl _, HK.out.1, rfl, (Rs.then_id _).symm, But.refl _ _, by rw [H3.out.2.2.2.1]; exact H3.out.2.1, World.ownsRow_nil _ _ _ _⟩
  case round =>
    obtain ⟨m, V', rfl, hm, rfl, rfl, fm, tsm, am, f1, f2, f3, f4, f5, f6, f7, f8, f9, f10, f11, f12⟩ := hrel
    have h3s := H3.out.2.2.2.2.2
    have hcb3 : cb < W3.heap.size := H3.out.2.1.lt
    by_cases hlt : m < K
    · cases fm with
      | nil => simp only [Tf.len] at f1; omega
      | cons n1 k1 r1 =>
        simp only [Tf.len] at f1
        simp only [Tf.high] at f6
        rw [tyF_cons] at f9
        have hbt : Bt cb w wr := H3.out.1.trans f10
        have hcall := f4.1 am (r1.list ++ rest) env Ae ce wr (by rw [f7]; simp [Tf.list]) ⟨f5.1, f5.2.1, f5.2.2.1, trivial⟩ HK.out.2.2.2.2.2 (by rw [H3.out.2.2.2.2.1]; exact henc) (by have := HK.out.2.2.2.2.1; omega) (HIN.out.2.1.bt hbt) f11 (HIN.out.1.bt hbt) (HIN.out.2.2.bt hbt)
        rw [H3.out.2.2.2.1, H3.out.2.2.2.2.1] at hcall
        obtain ⟨T1, hT1⟩ : ∃ q, tyT n1 k1 env am = q := ⟨_, rfl⟩
        rw [hT1] at hcall f9
        obtain ⟨AV, cV, rfl, hV1, hV2⟩ := own_shape f12
        have HI := Lib.hid (And.intro f1 (And.intro f2 (And.intro f3 (And.intro f4 (And.intro f5 (And.intro f6 (And.intro f7 (And.intro f8 (And.intro f9 (And.intro f10 (And.intro f11 (And.intro f12 hT1))))))))))))
        have HCALL := Lib.hid hcall
        clear f1 f2 f3 f4 f5 f6 f7 f8 f9 f10 f11 f12 hT1 hcall hbt
        go_wp2_with fail
        (refine HCALL.out.mono ?_); rintro e w5 ⟨hb5, hq5⟩
        obtain ⟨f1, f2, f3, f4, f5, f6, f7, f8, f9, f10, f11, f12, hT1⟩ := HI.out
        cases T1 with
        | bad E x =>
          simp only at hq5
          subst hq5
          have hr := HR.out
          rw [f9] at hr
          simp only [Rs.then] at hr
          subst hr
          have HB := Lib.hid ((H3.out.1.trans f10).trans hb5)
          clear f1 f2 f3 f4 f5 f6 f7 f8 f9 f10 f11 f12 hT1 hb5 HI
          unfold Flaw
          go_wp2_with fail
          exact bodyPost_panic rfl (TypQ.bad HB.out)
        | ok t1 =>
          obtain ⟨rfl, hck5⟩ := hq5
          have hokt : okT t1 := tyT_ok HK.out.2.2.2.2.2 hT1
          have how5 := own_bt f12 hb5 hcb3
          have how6 := own_below how5 (bal b0 (.cells #[.string (str t1)] 9))
          have hsl := Sl.one w5 (.string (str t1)) 9
          have hone : ∀ q ∈ [Value.string (str t1)], q.oneCell' = true := by intro q hq; rw [List.mem_singleton.1 hq]; rfl
          have hsz5 : W3.heap.size ≤ w5.heap.size := Nat.le_trans f10.size hb5.size
          have HQ := Lib.hid (And.intro hb5 (And.intro hck5 (And.intro hokt (And.intro how5 hone))))
          clear f1 f2 f3 f4 f5 f6 f7 f8 f9 f10 f11 f12 hT1 hb5 hck5 hokt how5 hone
          go_wp2_with (at_builtin; refine wpList_append_sl _ rfl (.tmp 105) (.tmp 109) _ rfl W3.heap.size 9 i0 _ 1 16 Tryz.underlying37 hi0 hz0 hz1 hz2 rfl (by omega) (.slice AV m cV) m _ rfl how6 (w5.heap.size + 1) (some ⟨w5.heap.size, 0, none⟩) 1 1 _ rfl hsl HQ.out.2.2.2.2 (by simp only [maxLen]; omega) (by omega) (by simp only [World.size_alloc]; omega) ?_; intro V6 w6 hown6 hg6 hV6)
          obtain ⟨f1, f2, f3, f4, f5, f6, f7, f8, f9, f10, f11, f12, hT1⟩ := HI.out
          obtain ⟨hb5, hck5, hokt, how5, _⟩ := HQ.out
          have hrow : ∀ x, (Value.slice AV m cV).ownBlock = some x → W3.heap.size ≤ x ∧ x < wr.heap.size := fun x hx => f12.lt x hx
          have hb6 : Bt cb W3 w6 := But.grown ((f10.trans hb5).alloc _) hg6 (fun x hx hl => by have := hrow x hx; omega)
          have hck6 : Chk w6 cb (some ⟨b, o, none⟩) N c ((am + 1 + k1.sz : Nat) : Int) (.map (some mb)) := (Blk.alloc hck5 _).grown hg6 (fun e => by have := hrow cb e.symm; omega)
          have hfin : KidsI L (some ⟨b, o, none⟩) c mb cb c0 c1 c2 c3 k env (a + 1) rest K W3.heap.size (m + 1) V6 W3 w6 := by
            refine ⟨r1, tsm ++ [t1], am + 1 + k1.sz, by omega, by simp [f2], fun q hq => ?_, f4.2, f5.2.2.2, by omega, ?_, ?_, ?_, hb6, by rw [H3.out.2.2.2.1]; exact hck6, by rw [List.map_append]; exact hown6⟩
            · rcases List.mem_append.1 hq with h | h
              · exact f3 q h
              · rw [List.mem_singleton.1 h]; exact hokt
            · rw [show am + 1 + k1.sz = am + (1 + k1.sz) by omega, ← List.drop_drop, f7]
              simp only [Tf.list, List.cons_append, List.append_assoc]
              rw [show n1 :: (k1.list ++ (r1.list ++ rest)) = (n1 :: k1.list) ++ (r1.list ++ rest) by simp, List.drop_append_of_le_length (by simp [Tf.list_len]; omega), List.drop_of_length_le (by simp [Tf.list_len]; omega)]
              rfl
            · simp only [Tf.sz] at f8; omega
            · rw [f9]
              simp only [Rs.then, Bool.false_eq_true, if_false]
              cases tyF r1 false env (am + 1 + k1.sz) with
              | bad E x => rfl
              | ok us => simp [Rs.then]
          have HFIN := Lib.hid hfin
          clear f1 f2 f3 f4 f5 f6 f7 f8 f9 f10 f11 f12 hT1 hb5 hck5 hokt how5 hrow hb6 hck6 hfin hown6 hg6 hV6 HI HQ how6 hsl
          go_wp2_with fail
          go_roundg (K - (m + 1))
          case measure => omega
          case rel => exact ⟨m + 1, _, rfl, by omega, rfl, by go_num, HFIN.out⟩
    · obtain rfl : m = K := by omega
      cases fm with
      | cons n1 k1 r1 => simp only [Tf.len] at f1; omega
      | nil =>
        have hr := HR.out
        rw [f9] at hr
        simp only [tyF, Rs.then, List.append_nil] at hr
        simp only [Tf.sz] at f8
        have hbt : Bt cb w wr := H3.out.1.trans f10
        obtain ⟨AV, cV, rfl, hV1, hka⟩ := own_kids f12 f2
        rw [H3.out.2.2.2.1] at f11
        obtain ⟨p0, p1, p2⟩ := f11.cells
        have hnb : Blk wr w.heap.size 60 #[.int .i8 kd, .int .i64 (m : Int), .int .i64 nn, .string s, .string t, .string u, .int .i64 ln, .int .i64 cl] := f10.blk H3.out.2.2.1 (by omega)
        have hrl := HIN.out.2.2.bt hbt

        have hrule : ∀ W', Below wr.heap.size wr W' → Calls Tryz.prog F #[.pointer (some ⟨cb, 0, none⟩), .agg #[.int .i8 kd, .int .i64 (m : Int), .int .i64 nn, .string s, .string t, .string u, .int .i64 ln, .int .i64 cl], .slice AV m cV, .int .i64 (a : Nat)] W' fun e w' => RuleQ (ruleE ⟨kd, (m : Int), nn, s, t, u, ln, cl⟩ tsm a) W' e w' := fun W' hb' => by
          exact HKK.out.2 W' tsm AV cV (Below.refl _ _) f3 f2 hV1 (hka.below hb') (hrl.bt (Bt.below hb'))
        have HS := Lib.hid (show ∀ W', Below wr.heap.size wr W' → (Below wr.heap.size wr W' ∧ W'.cell? ⟨cb, 2, none⟩ = some (.map (some mb)) ∧ W'.cell? ⟨w.heap.size, 0, none⟩ = some (.int .i8 kd) ∧ W'.cell? ⟨w.heap.size, 1, none⟩ = some (.int .i64 (m : Int)) ∧ W'.cell? ⟨w.heap.size, 2, none⟩ = some (.int .i64 nn) ∧ W'.cell? ⟨w.heap.size, 3, none⟩ = some (.string s) ∧ W'.cell? ⟨w.heap.size, 4, none⟩ = some (.string t) ∧ W'.cell? ⟨w.heap.size, 5, none⟩ = some (.string u) ∧ W'.cell? ⟨w.heap.size, 6, none⟩ = some (.int .i64 ln) ∧ W'.cell? ⟨w.heap.size, 7, none⟩ = some (.int .i64 cl) ∧ (Instr.lookup 114 (.map (some mb)) (.int .i8 kd) false).run Tryz.prog W' = .ok (.func (.func F) #[] #[]) W') from fun W' hb' => by
          obtain ⟨n0, n1, n2, n3, n4, n5, n6, n7⟩ := blk_cells8 (hnb.below hb' hnb.lt)
          exact ⟨hb', ((Blk.below f11 hb' f11.lt).cell 2).trans rfl, n0, n1, n2, n3, n4, n5, n6, n7, (hrl.bt (Bt.below hb')).look kd _ HKK.out.1⟩)
        rw [hr] at hrule
        have HRULE := Lib.hid hrule
        have HF := Lib.hid (And.intro hbt (And.intro f11 f8))
        clear f1 f2 f3 f4 f5 f6 f7 f8 f9 f10 f11 f12 hr hbt hka p0 p1 p2 hnb hrl hrule 
        go_upto_region 23 with fail
        cases R with
        | bad E x =>
          refine wp_region_held_drew (S := (fun W' => Below wr.heap.size wr W' ∧ W'.cell? ⟨cb, 2, none⟩ = some (.map (some mb)) ∧ W'.cell? ⟨w.heap.size, 0, none⟩ = some (.int .i8 kd) ∧ W'.cell? ⟨w.heap.size, 1, none⟩ = some (.int .i64 (m : Int)) ∧ W'.cell? ⟨w.heap.size, 2, none⟩ = some (.int .i64 nn) ∧ W'.cell? ⟨w.heap.size, 3, none⟩ = some (.string s) ∧ W'.cell? ⟨w.heap.size, 4, none⟩ = some (.string t) ∧ W'.cell? ⟨w.heap.size, 5, none⟩ = some (.string u) ∧ W'.cell? ⟨w.heap.size, 6, none⟩ = some (.int .i64 ln) ∧ W'.cell? ⟨w.heap.size, 7, none⟩ = some (.int .i64 cl) ∧ (Instr.lookup 114 (.map (some mb)) (.int .i8 kd) false).run Tryz.prog W' = .ok (.func (.func F) #[] #[]) W')) (by kernel_rfl) ?ss1 (fun hHeld => ?rr1)
          case ss1 => (try dsimp only); exact HS.out _ (Below.refl _ _).drew
          refine rgt 0 112 rfl rfl hHeld ?_
          try simp only [Act.put, rg1, rg2, rg3]
          refine rgt 1 113 rfl rfl hHeld ?_
          try simp only [Act.put, rg1, rg2, rg3]
          refine rgt 2 114 rfl rfl hHeld ?_
          try simp only [Act.put, rg1, rg2, rg3]
          refine rgt 3 115 rfl rfl hHeld ?_
          try simp only [Act.put, rg1, rg2, rg3]
          refine rgt 4 116 rfl rfl hHeld ?_
          try simp only [Act.put, rg1, rg2, rg3]
          refine rgt 5 117 rfl rfl hHeld ?_
          try simp only [Act.put, rg1, rg2, rg3]
          refine rgt 6 118 rfl rfl hHeld ?_
          try simp only [Act.put, rg1, rg2, rg3]
          refine rgt 7 119 rfl rfl hHeld ?_
          try simp only [Act.put, rg1, rg2, rg3]
          refine rgt 8 120 rfl rfl hHeld ?_
          try simp only [Act.put, rg1, rg2, rg3]
          refine rgt 9 121 rfl rfl hHeld ?_
          try simp only [Act.put, rg1, rg2, rg3]
          refine rgt 10 122 rfl rfl hHeld ?_
          try simp only [Act.put, rg1, rg2, rg3]
          refine rgc 11 (some 123) rfl (fun K hK => ?_)
          go_simp
          (refine (HRULE.out _ hHeld.1).mono ?_)
          (rintro e w6 ⟨hb6, hq6⟩)
          (simp only at hq6)
          subst hq6
          unfold Flaw
          have HB6 := Lib.hid (HF.out.1.trans (Bt.below (bl hHeld.1 hb6)))
          clear hb6
          go_wp2_with fail
          exact bodyPost_panic rfl (TypQ.bad HB6.out)
        | ok T =>
          refine wp_region_held_drew (S := (fun W' => Below wr.heap.size wr W' ∧ W'.cell? ⟨cb, 2, none⟩ = some (.map (some mb)) ∧ W'.cell? ⟨w.heap.size, 0, none⟩ = some (.int .i8 kd) ∧ W'.cell? ⟨w.heap.size, 1, none⟩ = some (.int .i64 (m : Int)) ∧ W'.cell? ⟨w.heap.size, 2, none⟩ = some (.int .i64 nn) ∧ W'.cell? ⟨w.heap.size, 3, none⟩ = some (.string s) ∧ W'.cell? ⟨w.heap.size, 4, none⟩ = some (.string t) ∧ W'.cell? ⟨w.heap.size, 5, none⟩ = some (.string u) ∧ W'.cell? ⟨w.heap.size, 6, none⟩ = some (.int .i64 ln) ∧ W'.cell? ⟨w.heap.size, 7, none⟩ = some (.int .i64 cl) ∧ (Instr.lookup 114 (.map (some mb)) (.int .i8 kd) false).run Tryz.prog W' = .ok (.func (.func F) #[] #[]) W')) (by kernel_rfl) ?ss14 (fun hHeld => ?rr14)
          case ss14 => (try dsimp only); exact HS.out _ (Below.refl _ _).drew
          refine rgt 0 112 rfl rfl hHeld ?_
          try simp only [Act.put, rg1, rg2, rg3]
          refine rgt 1 113 rfl rfl hHeld ?_
          try simp only [Act.put, rg1, rg2, rg3]
          refine rgt 2 114 rfl rfl hHeld ?_
          try simp only [Act.put, rg1, rg2, rg3]
          refine rgt 3 115 rfl rfl hHeld ?_
          try simp only [Act.put, rg1, rg2, rg3]
          refine rgt 4 116 rfl rfl hHeld ?_
          try simp only [Act.put, rg1, rg2, rg3]
          refine rgt 5 117 rfl rfl hHeld ?_
          try simp only [Act.put, rg1, rg2, rg3]
          refine rgt 6 118 rfl rfl hHeld ?_
          try simp only [Act.put, rg1, rg2, rg3]
          refine rgt 7 119 rfl rfl hHeld ?_
          try simp only [Act.put, rg1, rg2, rg3]
          refine rgt 8 120 rfl rfl hHeld ?_
          try simp only [Act.put, rg1, rg2, rg3]
          refine rgt 9 121 rfl rfl hHeld ?_
          try simp only [Act.put, rg1, rg2, rg3]
          refine rgt 10 122 rfl rfl hHeld ?_
          try simp only [Act.put, rg1, rg2, rg3]
          refine rgc 11 (some 123) rfl (fun K hK => ?_)
          go_simp
          ((refine (HRULE.out _ hHeld.1).mono ?_); rintro e w6 ⟨hb6, hq6⟩; simp only at hq6; subst hq6)
          refine hK.out _ _ ?ss26 (fun hHeld2 => ?rr26)
          case ss26 => (try dsimp only); exact HS.out _ (bl hHeld.1 hb6)
          clear hK K
          clear hHeld
          have hHeld := hHeld2
          clear hHeld2
          try simp only [Act.put, rg1, rg2, rg3]
          refine rgt 12 4 rfl rfl hHeld ?_
          try simp only [Act.put, rg1, rg2, rg3]
          refine wpAnyH_done (by kernel_rfl) ?_ _
          have HB6 := Lib.hid hHeld.1
          clear hHeld
          go_wp2_with fail
          go_ret
          exact TypQ.ok (HF.out.1.trans (Bt.below HB6.out)) (by rw [← HF.out.2.2]; exact HF.out.2.1.below HB6.out HF.out.2.1.lt) rfl

set_option maxRecDepth 100000 in
set_option maxHeartbeats 8000000 in
theorem typed_clo (kd : Int) (F : Nat) (cp cq : Value) (K : Nat) (nn : Int) (s t u : ByteArray) (ln cl : Int) (L : List Tn) (A : Option Addr) (c mb cb c0 c1 c2 c3 : Nat) (k : Tf) (a : Nat) (env : List Ty) (Ae : Option Addr) (ce : Nat) (w : World)
    (hn : L[a]? = some ⟨kd, (K : Int), nn, s, t, u, ln, cl⟩) (hsm : Tn.small ⟨kd, (K : Int), nn, s, t, u, ln, cl⟩) (hen : EnvAt w cb Ae env) (henv : ∀ t ∈ env, okT t) (henc : env.length ≤ ce) (henl : env.length ≤ 100000) (hc : Chk w cb A L.length c a (.map (some mb))) (hL : LT w cb A L) (hrl : RulesAt w cb mb c0 c1 c2 c3) (hN : L.length ≤ 1000000) (hLc : L.length ≤ c) (rest : List Tn) (hdrop : L.drop a = ⟨kd, K, nn, s, t, u, ln, cl⟩ :: (k.list ++ rest)) (hKl : k.len = K) (hwf : k.wf) (hE : wordsE ⟨kd, K, nn, s, t, u, ln, cl⟩ env.length = 0) (hkall : k.All (TypP L A c mb cb c0 c1 c2 c3)) (hebd : env.length + 2 * (k.high + 1) ≤ 100000) (hent : ∀ args W', (callFunc F args).run Tryz.prog W' = .ok (.enter F args) W') (hkd : (kd == 4) = false ∧ (kd == 5) = false ∧ (kd == 6) = false ∧ (kd == 8) = false) (hlk : (kd, .func (.func F) #[] #[cp, cq]) ∈ ruleL c0 c1 c2 c3)
    (hrl2 : ∀ (W' : World) (tsm : List Ty) (AV : Option Addr) (cV : Nat), Below w.heap.size w w → (∀ t ∈ tsm, okT t) → tsm.length = K → K ≤ cV → KidsAt W' AV tsm → RulesAt W' cb mb c0 c1 c2 c3 → Calls Tryz.prog F #[.pointer (some ⟨cb, 0, none⟩), .agg #[.int .i8 kd, .int .i64 (K : Int), .int .i64 nn, .string s, .string t, .string u, .int .i64 ln, .int .i64 cl], .slice AV K cV, .int .i64 (a : Nat), cp, cq] W' fun e w' => RuleQ (ruleE ⟨kd, (K : Int), nn, s, t, u, ln, cl⟩ tsm a) W' e w') :
    Calls Tryz.prog 54 #[.pointer (some ⟨cb, 0, none⟩), .slice Ae env.length ce] w fun e w' => TypQ ((tyF k false env (a + 1)).then fun ts => ruleE ⟨kd, K, nn, s, t, u, ln, cl⟩ ts a) cb A L.length c (.map (some mb)) (a + 1 + k.sz) w e w' := by
  obtain ⟨R, hR⟩ : ∃ R, ((tyF k false env (a + 1)).then fun ts => ruleE ⟨kd, K, nn, s, t, u, ln, cl⟩ ts a) = R := ⟨_, rfl⟩
  rw [hR]
  have HE := Lib.hid hE
  have HR := Lib.hid hR
  have hd1 : L.drop (a + 1) = k.list ++ rest := by rw [← List.drop_drop, hdrop]; rfl
  have HK := Lib.hid (And.intro hd1 (And.intro hKl (And.intro hwf (And.intro hkall (And.intro hebd henv)))))
  have hcb0 : cb < w.heap.size := hc.lt
  have hKN : K ≤ L.length := by
    have h1 := congrArg List.length hd1
    simp only [List.length_drop, List.length_append, Tf.list_len] at h1
    have h2 := Tf.len_le k
    omega
  clear hE hR hd1 hdrop hKl hwf hkall hebd henv
  have HKK := Lib.hid (And.intro hlk hrl2)
  clear hlk hrl2
  obtain ⟨kd4, kd5, kd6, kd8⟩ := hkd

  obtain ⟨c0', c1', c2'⟩ := hc.cells
  have hcl : cb < w.heap.size := hc.lt
  have hal : a < L.length := (List.getElem?_eq_some_iff.1 hn).1
  obtain ⟨b, o, rfl, hbc, hbl, q0, q1, q2, q3, q4, q5, q6, q7⟩ := hL.node hn
  simp only at q0 q1 q2 q3 q4 q5 q6 q7
  have hwd := fun W => words_any ⟨kd, (K : Int), nn, s, t, u, ln, cl⟩ a env.length W hsm
  unfold Tn.val at hwd
  simp only at hwd
  obtain ⟨N, hNe⟩ : ∃ N, L.length = N := ⟨_, rfl⟩
  rw [hNe] at c0' hal hN hLc hc hKN ⊢
  obtain ⟨EL, hEL⟩ : ∃ x, env.length = x := ⟨_, rfl⟩
  rw [hEL] at hwd henl henc HE ⊢
  have hcr := hc.frozen 1
  have hbk : Blk (w.alloc (.cells #[.int .i8 kd, .int .i64 (K : Int), .int .i64 nn, .string s, .string t, .string u, .int .i64 ln, .int .i64 cl] 60)) w.heap.size 60 #[.int .i8 kd, .int .i64 (K : Int), .int .i64 nn, .string s, .string t, .string u, .int .i64 ln, .int .i64 cl] := Blk.new _ _ _
  have hck : Chk (w.alloc (.cells #[.int .i8 kd, .int .i64 (K : Int), .int .i64 nn, .string s, .string t, .string u, .int .i64 ln, .int .i64 cl] 60)) cb (some ⟨b, o, none⟩) N c a (.map (some mb)) := Blk.alloc hc _
  have HW0 := Lib.hid (And.intro hck (And.intro hbk (And.intro hNe hEL)))
  have HWD := Lib.hid hwd
  have HIN := Lib.hid (And.intro hL (And.intro hen hrl))
  clear hc hck hbk hNe hEL hwd hL hen hrl hcr
  go_enter Tryz.func54, Tryz.ntmps54
  go_upto_region 3 with fail
  obtain ⟨hck, hbk, hNe, hEL⟩ := HW0.out
  obtain ⟨W1, hW1⟩ : ∃ W1, w.alloc (.cells #[.int .i8 kd, .int .i64 (K : Int), .int .i64 nn, .string s, .string t, .string u, .int .i64 ln, .int .i64 cl] 60) = W1 := ⟨_, rfl⟩
  have hbt0 : Bt cb w W1 := by rw [← hW1]; exact Bt.alloc (But.refl _ _) _
  rw [hW1] at hck hbk ⊢
  obtain ⟨p0, p1, p2⟩ := hck.cells
  have pf := hck.frozen 1
  have HW1 := Lib.hid (And.intro hck (And.intro hbk (And.intro hbt0 (And.intro hNe hEL))))
  clear hW1 hck hbk hbt0 hNe hEL HW0 c0' c1' c2' q0 q1 q2 q3 q4 q5 q6 q7
  go_upto_region 4 with fail
  obtain ⟨hck, hbk, hbt0, hNe, hEL⟩ := HW1.out
  obtain ⟨W2, hW2⟩ : ∃ W2, W1.setCell ⟨cb, 1, none⟩ (.int .i64 ((a : Int) + 1)) = W2 := ⟨_, rfl⟩
  have hc1 : Chk W2 cb (some ⟨b, o, none⟩) N c ((a : Int) + 1) (.map (some mb)) := by rw [← hW2]; exact hck.set _
  have hbk1 : Blk W2 w.heap.size 60 #[.int .i8 kd, .int .i64 (K : Int), .int .i64 nn, .string s, .string t, .string u, .int .i64 ln, .int .i64 cl] := by rw [← hW2]; exact hbk.far (p := ⟨cb, 1, none⟩) (show w.heap.size ≠ cb by omega) _
  have hbt1 : Bt cb w W2 := by rw [← hW2]; exact hbt0.set_ 1 _
  have HW := Lib.hid (And.intro hc1 (And.intro hbk1 (And.intro hbt1 (And.intro hNe hEL))))
  rw [hW2]
  clear hck hbk hbt0 hNe hEL hc1 hbk1 hbt1 HW1
  obtain ⟨n0, n1, n2, n3, n4, n5, n6, n7⟩ := blk_cells8 HW.out.2.1
  clear hW2 p0 p1 p2 pf
  go_wp2_with fail
  (refine (HWD.out _).mono ?_); rintro e W3 ⟨he, hb3⟩
  rw [if_pos HE.out] at he
  subst he
  have hbt3 : Bt cb w W3 := HW.out.2.2.1.trans (Bt.below hb3)
  have hc3 : Chk W3 cb (some ⟨b, o, none⟩) N c ((a : Int) + 1) (.map (some mb)) := HW.out.1.below hb3 HW.out.1.lt
  have hb3' : Blk W3 w.heap.size 60 #[.int .i8 kd, .int .i64 (K : Int), .int .i64 nn, .string s, .string t, .string u, .int .i64 ln, .int .i64 cl] := HW.out.2.1.below hb3 HW.out.2.1.lt
  have H3 := Lib.hid (And.intro hbt3 (And.intro hc3 (And.intro hb3' (And.intro HW.out.2.2.2.1 (And.intro HW.out.2.2.2.2 hb3.size)))))
  clear n0 n1 n2 n3 n4 n5 n6 n7 hb3 hbt3 hc3
  obtain ⟨n0, n1, n2, n3, n4, n5, n6, n7⟩ := blk_cells8 hb3'
  clear hb3'

  obtain ⟨i0, hi0, hz0, hz1, hz2⟩ := info_parts info9
  go_wp2_with fail
  clear n0 n1 n2 n3 n4 n5 n6 n7
  go_loopg [9, 103] K (fun g V i wr => ∃ (m : Nat) (V' : Value), V' = V ∧ m ≤ K ∧ g = K - m ∧ i = .int .i64 m ∧ KidsI L (some ⟨b, o, none⟩) c mb cb c0 c1 c2 c3 k env (a + 1) rest K W3.heap.size m V' W3 wr)
  case atStart =>
    exact ⟨0, _, rfl, by omega, rfl, rfl, k, [], a + 1, by rw [HK.out.2.1]; rfl, rfl, fun t ht => (by cases ht), HK.out.2.2.2.1, HK.out.2.2.1, Nat.le_refl _, HK.out.1, rfl, (Rs.then_id _).symm, But.refl _ _, by rw [H3.out.2.2.2.1]; exact H3.out.2.1, World.ownsRow_nil _ _ _ _⟩
  case round =>
    obtain ⟨m, V', rfl, hm, rfl, rfl, fm, tsm, am, f1, f2, f3, f4, f5, f6, f7, f8, f9, f10, f11, f12⟩ := hrel
    have h3s := H3.out.2.2.2.2.2
    have hcb3 : cb < W3.heap.size := H3.out.2.1.lt
    by_cases hlt : m < K
    · cases fm with
      | nil => simp only [Tf.len] at f1; omega
      | cons n1 k1 r1 =>
        simp only [Tf.len] at f1
        simp only [Tf.high] at f6
        rw [tyF_cons] at f9
        have hbt : Bt cb w wr := H3.out.1.trans f10
        have hcall := f4.1 am (r1.list ++ rest) env Ae ce wr (by rw [f7]; simp [Tf.list]) ⟨f5.1, f5.2.1, f5.2.2.1, trivial⟩ HK.out.2.2.2.2.2 (by rw [H3.out.2.2.2.2.1]; exact henc) (by have := HK.out.2.2.2.2.1; omega) (HIN.out.2.1.bt hbt) f11 (HIN.out.1.bt hbt) (HIN.out.2.2.bt hbt)
        rw [H3.out.2.2.2.1, H3.out.2.2.2.2.1] at hcall
        obtain ⟨T1, hT1⟩ : ∃ q, tyT n1 k1 env am = q := ⟨_, rfl⟩
        rw [hT1] at hcall f9
        obtain ⟨AV, cV, rfl, hV1, hV2⟩ := own_shape f12
        have HI := Lib.hid (And.intro f1 (And.intro f2 (And.intro f3 (And.intro f4 (And.intro f5 (And.intro f6 (And.intro f7 (And.intro f8 (And.intro f9 (And.intro f10 (And.intro f11 (And.intro f12 hT1))))))))))))
        have HCALL := Lib.hid hcall
        clear f1 f2 f3 f4 f5 f6 f7 f8 f9 f10 f11 f12 hT1 hcall hbt
        go_wp2_with fail
        (refine HCALL.out.mono ?_); rintro e w5 ⟨hb5, hq5⟩
        obtain ⟨f1, f2, f3, f4, f5, f6, f7, f8, f9, f10, f11, f12, hT1⟩ := HI.out
        cases T1 with
        | bad E x =>
          simp only at hq5
          subst hq5
          have hr := HR.out
          rw [f9] at hr
          simp only [Rs.then] at hr
          subst hr
          have HB := Lib.hid ((H3.out.1.trans f10).trans hb5)
          clear f1 f2 f3 f4 f5 f6 f7 f8 f9 f10 f11 f12 hT1 hb5 HI
          unfold Flaw
          go_wp2_with fail
          exact bodyPost_panic rfl (TypQ.bad HB.out)
        | ok t1 =>
          obtain ⟨rfl, hck5⟩ := hq5
          have hokt : okT t1 := tyT_ok HK.out.2.2.2.2.2 hT1
          have how5 := own_bt f12 hb5 hcb3
          have how6 := own_below how5 (bal b0 (.cells #[.string (str t1)] 9))
          have hsl := Sl.one w5 (.string (str t1)) 9
          have hone : ∀ q ∈ [Value.string (str t1)], q.oneCell' = true := by intro q hq; rw [List.mem_singleton.1 hq]; rfl
          have hsz5 : W3.heap.size ≤ w5.heap.size := Nat.le_trans f10.size hb5.size
          have HQ := Lib.hid (And.intro hb5 (And.intro hck5 (And.intro hokt (And.intro how5 hone))))
          clear f1 f2 f3 f4 f5 f6 f7 f8 f9 f10 f11 f12 hT1 hb5 hck5 hokt how5 hone
          go_wp2_with (at_builtin; refine wpList_append_sl _ rfl (.tmp 105) (.tmp 109) _ rfl W3.heap.size 9 i0 _ 1 16 Tryz.underlying37 hi0 hz0 hz1 hz2 rfl (by omega) (.slice AV m cV) m _ rfl how6 (w5.heap.size + 1) (some ⟨w5.heap.size, 0, none⟩) 1 1 _ rfl hsl HQ.out.2.2.2.2 (by simp only [maxLen]; omega) (by omega) (by simp only [World.size_alloc]; omega) ?_; intro V6 w6 hown6 hg6 hV6)
          obtain ⟨f1, f2, f3, f4, f5, f6, f7, f8, f9, f10, f11, f12, hT1⟩ := HI.out
          obtain ⟨hb5, hck5, hokt, how5, _⟩ := HQ.out
          have hrow : ∀ x, (Value.slice AV m cV).ownBlock = some x → W3.heap.size ≤ x ∧ x < wr.heap.size := fun x hx => f12.lt x hx
          have hb6 : Bt cb W3 w6 := But.grown ((f10.trans hb5).alloc _) hg6 (fun x hx hl => by have := hrow x hx; omega)
          have hck6 : Chk w6 cb (some ⟨b, o, none⟩) N c ((am + 1 + k1.sz : Nat) : Int) (.map (some mb)) := (Blk.alloc hck5 _).grown hg6 (fun e => by have := hrow cb e.symm; omega)
          have hfin : KidsI L (some ⟨b, o, none⟩) c mb cb c0 c1 c2 c3 k env (a + 1) rest K W3.heap.size (m + 1) V6 W3 w6 := by
            refine ⟨r1, tsm ++ [t1], am + 1 + k1.sz, by omega, by simp [f2], fun q hq => ?_, f4.2, f5.2.2.2, by omega, ?_, ?_, ?_, hb6, by rw [H3.out.2.2.2.1]; exact hck6, by rw [List.map_append]; exact hown6⟩
            · rcases List.mem_append.1 hq with h | h
              · exact f3 q h
              · rw [List.mem_singleton.1 h]; exact hokt
            · rw [show am + 1 + k1.sz = am + (1 + k1.sz) by omega, ← List.drop_drop, f7]
              simp only [Tf.list, List.cons_append, List.append_assoc]
              rw [show n1 :: (k1.list ++ (r1.list ++ rest)) = (n1 :: k1.list) ++ (r1.list ++ rest) by simp, List.drop_append_of_le_length (by simp [Tf.list_len]; omega), List.drop_of_length_le (by simp [Tf.list_len]; omega)]
              rfl
            · simp only [Tf.sz] at f8; omega
            · rw [f9]
              simp only [Rs.then, Bool.false_eq_true, if_false]
              cases tyF r1 false env (am + 1 + k1.sz) with
              | bad E x => rfl
              | ok us => simp [Rs.then]
          have HFIN := Lib.hid hfin
          clear f1 f2 f3 f4 f5 f6 f7 f8 f9 f10 f11 f12 hT1 hb5 hck5 hokt how5 hrow hb6 hck6 hfin hown6 hg6 hV6 HI HQ how6 hsl
          go_wp2_with fail
          go_roundg (K - (m + 1))
          case measure => omega
          case rel => exact ⟨m + 1, _, rfl, by omega, rfl, by go_num, HFIN.out⟩
    · obtain rfl : m = K := by omega
      cases fm with
      | cons n1 k1 r1 => simp only [Tf.len] at f1; omega
      | nil =>
        have hr := HR.out
        rw [f9] at hr
        simp only [tyF, Rs.then, List.append_nil] at hr
        simp only [Tf.sz] at f8
        have hbt : Bt cb w wr := H3.out.1.trans f10
        obtain ⟨AV, cV, rfl, hV1, hka⟩ := own_kids f12 f2
        rw [H3.out.2.2.2.1] at f11
        obtain ⟨p0, p1, p2⟩ := f11.cells
        have hnb : Blk wr w.heap.size 60 #[.int .i8 kd, .int .i64 (m : Int), .int .i64 nn, .string s, .string t, .string u, .int .i64 ln, .int .i64 cl] := f10.blk H3.out.2.2.1 (by omega)
        have hrl := HIN.out.2.2.bt hbt

        have hrule : ∀ W', Below wr.heap.size wr W' → Calls Tryz.prog F #[.pointer (some ⟨cb, 0, none⟩), .agg #[.int .i8 kd, .int .i64 (m : Int), .int .i64 nn, .string s, .string t, .string u, .int .i64 ln, .int .i64 cl], .slice AV m cV, .int .i64 (a : Nat), cp, cq] W' fun e w' => RuleQ (ruleE ⟨kd, (m : Int), nn, s, t, u, ln, cl⟩ tsm a) W' e w' := fun W' hb' => by
          exact HKK.out.2 W' tsm AV cV (Below.refl _ _) f3 f2 hV1 (hka.below hb') (hrl.bt (Bt.below hb'))
        have HS := Lib.hid (show ∀ W', Below wr.heap.size wr W' → (Below wr.heap.size wr W' ∧ W'.cell? ⟨cb, 2, none⟩ = some (.map (some mb)) ∧ W'.cell? ⟨w.heap.size, 0, none⟩ = some (.int .i8 kd) ∧ W'.cell? ⟨w.heap.size, 1, none⟩ = some (.int .i64 (m : Int)) ∧ W'.cell? ⟨w.heap.size, 2, none⟩ = some (.int .i64 nn) ∧ W'.cell? ⟨w.heap.size, 3, none⟩ = some (.string s) ∧ W'.cell? ⟨w.heap.size, 4, none⟩ = some (.string t) ∧ W'.cell? ⟨w.heap.size, 5, none⟩ = some (.string u) ∧ W'.cell? ⟨w.heap.size, 6, none⟩ = some (.int .i64 ln) ∧ W'.cell? ⟨w.heap.size, 7, none⟩ = some (.int .i64 cl) ∧ (Instr.lookup 114 (.map (some mb)) (.int .i8 kd) false).run Tryz.prog W' = .ok (.func (.func F) #[] #[cp, cq]) W') from fun W' hb' => by
          obtain ⟨n0, n1, n2, n3, n4, n5, n6, n7⟩ := blk_cells8 (hnb.below hb' hnb.lt)
          exact ⟨hb', ((Blk.below f11 hb' f11.lt).cell 2).trans rfl, n0, n1, n2, n3, n4, n5, n6, n7, (hrl.bt (Bt.below hb')).look kd _ HKK.out.1⟩)
        rw [hr] at hrule
        have HRULE := Lib.hid hrule
        have HF := Lib.hid (And.intro hbt (And.intro f11 f8))
        clear f1 f2 f3 f4 f5 f6 f7 f8 f9 f10 f11 f12 hr hbt hka p0 p1 p2 hnb hrl hrule 
        go_upto_region 23 with fail
        cases R with
        | bad E x =>
          refine wp_region_held_drew (S := (fun W' => Below wr.heap.size wr W' ∧ W'.cell? ⟨cb, 2, none⟩ = some (.map (some mb)) ∧ W'.cell? ⟨w.heap.size, 0, none⟩ = some (.int .i8 kd) ∧ W'.cell? ⟨w.heap.size, 1, none⟩ = some (.int .i64 (m : Int)) ∧ W'.cell? ⟨w.heap.size, 2, none⟩ = some (.int .i64 nn) ∧ W'.cell? ⟨w.heap.size, 3, none⟩ = some (.string s) ∧ W'.cell? ⟨w.heap.size, 4, none⟩ = some (.string t) ∧ W'.cell? ⟨w.heap.size, 5, none⟩ = some (.string u) ∧ W'.cell? ⟨w.heap.size, 6, none⟩ = some (.int .i64 ln) ∧ W'.cell? ⟨w.heap.size, 7, none⟩ = some (.int .i64 cl) ∧ (Instr.lookup 114 (.map (some mb)) (.int .i8 kd) false).run Tryz.prog W' = .ok (.func (.func F) #[] #[cp, cq]) W')) (by kernel_rfl) ?ss28 (fun hHeld => ?rr28)
          case ss28 => (try dsimp only); exact HS.out _ (Below.refl _ _).drew
          refine rgt 0 112 rfl rfl hHeld ?_
          try simp only [Act.put, rg1, rg2, rg3]
          refine rgt 1 113 rfl rfl hHeld ?_
          try simp only [Act.put, rg1, rg2, rg3]
          refine rgt 2 114 rfl rfl hHeld ?_
          try simp only [Act.put, rg1, rg2, rg3]
          refine rgt 3 115 rfl rfl hHeld ?_
          try simp only [Act.put, rg1, rg2, rg3]
          refine rgt 4 116 rfl rfl hHeld ?_
          try simp only [Act.put, rg1, rg2, rg3]
          refine rgt 5 117 rfl rfl hHeld ?_
          try simp only [Act.put, rg1, rg2, rg3]
          refine rgt 6 118 rfl rfl hHeld ?_
          try simp only [Act.put, rg1, rg2, rg3]
          refine rgt 7 119 rfl rfl hHeld ?_
          try simp only [Act.put, rg1, rg2, rg3]
          refine rgt 8 120 rfl rfl hHeld ?_
          try simp only [Act.put, rg1, rg2, rg3]
          refine rgt 9 121 rfl rfl hHeld ?_
          try simp only [Act.put, rg1, rg2, rg3]
          refine rgt 10 122 rfl rfl hHeld ?_
          try simp only [Act.put, rg1, rg2, rg3]
          refine rgc 11 (some 123) rfl (fun K hK => ?_)
          go_simp
          (refine (HRULE.out _ hHeld.1).mono ?_)
          (rintro e w6 ⟨hb6, hq6⟩)
          (simp only at hq6)
          subst hq6
          unfold Flaw
          have HB6 := Lib.hid (HF.out.1.trans (Bt.below (bl hHeld.1 hb6)))
          clear hb6
          go_wp2_with fail
          exact bodyPost_panic rfl (TypQ.bad HB6.out)
        | ok T =>
          refine wp_region_held_drew (S := (fun W' => Below wr.heap.size wr W' ∧ W'.cell? ⟨cb, 2, none⟩ = some (.map (some mb)) ∧ W'.cell? ⟨w.heap.size, 0, none⟩ = some (.int .i8 kd) ∧ W'.cell? ⟨w.heap.size, 1, none⟩ = some (.int .i64 (m : Int)) ∧ W'.cell? ⟨w.heap.size, 2, none⟩ = some (.int .i64 nn) ∧ W'.cell? ⟨w.heap.size, 3, none⟩ = some (.string s) ∧ W'.cell? ⟨w.heap.size, 4, none⟩ = some (.string t) ∧ W'.cell? ⟨w.heap.size, 5, none⟩ = some (.string u) ∧ W'.cell? ⟨w.heap.size, 6, none⟩ = some (.int .i64 ln) ∧ W'.cell? ⟨w.heap.size, 7, none⟩ = some (.int .i64 cl) ∧ (Instr.lookup 114 (.map (some mb)) (.int .i8 kd) false).run Tryz.prog W' = .ok (.func (.func F) #[] #[cp, cq]) W')) (by kernel_rfl) ?ss41 (fun hHeld => ?rr41)
          case ss41 => (try dsimp only); exact HS.out _ (Below.refl _ _).drew
          refine rgt 0 112 rfl rfl hHeld ?_
          try simp only [Act.put, rg1, rg2, rg3]
          refine rgt 1 113 rfl rfl hHeld ?_
          try simp only [Act.put, rg1, rg2, rg3]
          refine rgt 2 114 rfl rfl hHeld ?_
          try simp only [Act.put, rg1, rg2, rg3]
          refine rgt 3 115 rfl rfl hHeld ?_
          try simp only [Act.put, rg1, rg2, rg3]
          refine rgt 4 116 rfl rfl hHeld ?_
          try simp only [Act.put, rg1, rg2, rg3]
          refine rgt 5 117 rfl rfl hHeld ?_
          try simp only [Act.put, rg1, rg2, rg3]
          refine rgt 6 118 rfl rfl hHeld ?_
          try simp only [Act.put, rg1, rg2, rg3]
          refine rgt 7 119 rfl rfl hHeld ?_
          try simp only [Act.put, rg1, rg2, rg3]
          refine rgt 8 120 rfl rfl hHeld ?_
          try simp only [Act.put, rg1, rg2, rg3]
          refine rgt 9 121 rfl rfl hHeld ?_
          try simp only [Act.put, rg1, rg2, rg3]
          refine rgt 10 122 rfl rfl hHeld ?_
          try simp only [Act.put, rg1, rg2, rg3]
          refine rgc 11 (some 123) rfl (fun K hK => ?_)
          go_simp
          ((refine (HRULE.out _ hHeld.1).mono ?_); rintro e w6 ⟨hb6, hq6⟩; simp only at hq6; subst hq6)
          refine hK.out _ _ ?ss53 (fun hHeld2 => ?rr53)
          case ss53 => (try dsimp only); exact HS.out _ (bl hHeld.1 hb6)
          clear hK K
          clear hHeld
          have hHeld := hHeld2
          clear hHeld2
          try simp only [Act.put, rg1, rg2, rg3]
          refine rgt 12 4 rfl rfl hHeld ?_
          try simp only [Act.put, rg1, rg2, rg3]
          refine wpAnyH_done (by kernel_rfl) ?_ _
          have HB6 := Lib.hid hHeld.1
          clear hHeld
          go_wp2_with fail
          go_ret
          exact TypQ.ok (HF.out.1.trans (Bt.below HB6.out)) (by rw [← HF.out.2.2]; exact HF.out.2.1.below HB6.out HF.out.2.1.lt) rfl
end Go.Proofs.YtmagljnlfponaaaGreat.K
