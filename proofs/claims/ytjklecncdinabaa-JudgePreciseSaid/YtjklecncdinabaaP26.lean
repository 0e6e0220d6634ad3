/- Parts of this claim: CkM28, CkN5. -/
import Derived.Deep.RegionHeld3
import Derived.Test.YtjklecncdinabaaP13
import Derived.Test.YtjklecncdinabaaP04
set_option linter.unusedVariables false
set_option linter.unusedSimpArgs false
/- CkM28 -/
namespace Go.Proofs.Ytjklecncdinabaa.K
open Go.RowKit Go.Proofs.Ytjklecncdinabaa.B Go.Proofs.Ytjklecncdinabaa.T
set_option linter.unusedVariables false
set_option linter.unusedSimpArgs false


set_option maxRecDepth 100000 in
set_option maxHeartbeats 8000000 in
theorem typed_28 (K : Nat) (nn : Int) (s t u : ByteArray) (ln cl : Int) (L : List Tn) (A : Option Addr) (c mb cb c0 c1 c2 c3 : Nat) (k : Tf) (a : Nat) (env : List Ty) (Ae : Option Addr) (ce : Nat) (w : World)
    (hn : L[a]? = some ⟨28, (K : Int), nn, s, t, u, ln, cl⟩) (hsm : Tn.small ⟨28, (K : Int), nn, s, t, u, ln, cl⟩) (hen : EnvAt w cb Ae env) (henv : ∀ t ∈ env, okT t) (henc : env.length ≤ ce) (henl : env.length ≤ 100000) (hc : Chk w cb A L.length c a (.map (some mb))) (hL : LT w cb A L) (hrl : RulesAt w cb mb c0 c1 c2 c3) (hN : L.length ≤ 1000000) (hLc : L.length ≤ c) (rest : List Tn) (hdrop : L.drop a = ⟨28, K, nn, s, t, u, ln, cl⟩ :: (k.list ++ rest)) (hKl : k.len = K) (hwf : k.wf) (hE : wordsE ⟨28, K, nn, s, t, u, ln, cl⟩ env.length = 0) (hkall : k.All (TypP L A c mb cb c0 c1 c2 c3)) (hebd : env.length + 2 * (k.high + 1) ≤ 100000) (hK28 : K = 2) :
    Calls Try.prog 29 #[.pointer (some ⟨cb, 0, none⟩), .slice Ae env.length ce] w fun e w' => TypQ ((tyF k false env (a + 1)).then fun ts => ruleE ⟨28, K, nn, s, t, u, ln, cl⟩ ts a) cb A L.length c (.map (some mb)) (a + 1 + k.sz) w e w' := by
  obtain ⟨R, hR⟩ : ∃ R, ((tyF k false env (a + 1)).then fun ts => ruleE ⟨28, K, nn, s, t, u, ln, cl⟩ ts a) = R := ⟨_, rfl⟩
  rw [hR]
  have HE := Lib.hid hE
  have HR := Lib.hid hR
  have hd1 : L.drop (a + 1) = k.list ++ rest := by rw [← List.drop_drop, hdrop]; rfl
  have HK := Lib.hid (And.intro hd1 (And.intro hKl (And.intro hwf (And.intro hkall (And.intro hebd henv)))))
  have hcb0 : cb < w.heap.size := hc.lt
  have hKN : K ≤ L.length := by
    have h1 := congrArg List.length hd1
    simp only [List.length_drop, List.length_append, Tf.list_len] at h1
    have h2 := Tf.len_le k
    omega
  clear hE hR hd1 hdrop hKl hwf hkall hebd henv
  have HKK := Lib.hid hK28
  clear hK28

  obtain ⟨c0', c1', c2'⟩ := hc.cells
  have hcl : cb < w.heap.size := hc.lt
  have hal : a < L.length := (List.getElem?_eq_some_iff.1 hn).1
  obtain ⟨b, o, rfl, hbc, hbl, q0, q1, q2, q3, q4, q5, q6, q7⟩ := hL.node hn
  simp only at q0 q1 q2 q3 q4 q5 q6 q7
  have hwd := fun W => words_any ⟨28, (K : Int), nn, s, t, u, ln, cl⟩ a env.length W hsm
  unfold Tn.val at hwd
  simp only at hwd
  obtain ⟨N, hNe⟩ : ∃ N, L.length = N := ⟨_, rfl⟩
  rw [hNe] at c0' hal hN hLc hc hKN ⊢
  obtain ⟨EL, hEL⟩ : ∃ x, env.length = x := ⟨_, rfl⟩
  rw [hEL] at hwd henl henc HE ⊢
  have hcr := hc.frozen 1
  have hbk : Blk (w.alloc (.cells #[.int .i8 28, .int .i64 (K : Int), .int .i64 nn, .string s, .string t, .string u, .int .i64 ln, .int .i64 cl] 50)) w.heap.size 50 #[.int .i8 28, .int .i64 (K : Int), .int .i64 nn, .string s, .string t, .string u, .int .i64 ln, .int .i64 cl] := Blk.new _ _ _
  have hck : Chk (w.alloc (.cells #[.int .i8 28, .int .i64 (K : Int), .int .i64 nn, .string s, .string t, .string u, .int .i64 ln, .int .i64 cl] 50)) cb (some ⟨b, o, none⟩) N c a (.map (some mb)) := Blk.alloc hc _
  have HW0 := Lib.hid (And.intro hck (And.intro hbk (And.intro hNe hEL)))
  have HWD := Lib.hid hwd
  have HIN := Lib.hid (And.intro hL (And.intro hen hrl))
  clear hc hck hbk hNe hEL hwd hL hen hrl hcr
  go_enter Try.func29, Try.ntmps29
  go_upto_region 3 with fail
  obtain ⟨hck, hbk, hNe, hEL⟩ := HW0.out
  obtain ⟨W1, hW1⟩ : ∃ W1, w.alloc (.cells #[.int .i8 28, .int .i64 (K : Int), .int .i64 nn, .string s, .string t, .string u, .int .i64 ln, .int .i64 cl] 50) = W1 := ⟨_, rfl⟩
  have hbt0 : Bt cb w W1 := by rw [← hW1]; exact Bt.alloc (But.refl _ _) _
  rw [hW1] at hck hbk ⊢
  obtain ⟨p0, p1, p2⟩ := hck.cells
  have pf := hck.frozen 1
  have HW1 := Lib.hid (And.intro hck (And.intro hbk (And.intro hbt0 (And.intro hNe hEL))))
  clear hW1 hck hbk hbt0 hNe hEL HW0 c0' c1' c2' q0 q1 q2 q3 q4 q5 q6 q7
  go_upto_region 4 with fail
  obtain ⟨hck, hbk, hbt0, hNe, hEL⟩ := HW1.out
  obtain ⟨W2, hW2⟩ : ∃ W2, W1.setCell ⟨cb, 1, none⟩ (.int .i64 ((a : Int) + 1)) = W2 := ⟨_, rfl⟩
  have hc1 : Chk W2 cb (some ⟨b, o, none⟩) N c ((a : Int) + 1) (.map (some mb)) := by rw [← hW2]; exact hck.set _
  have hbk1 : Blk W2 w.heap.size 50 #[.int .i8 28, .int .i64 (K : Int), .int .i64 nn, .string s, .string t, .string u, .int .i64 ln, .int .i64 cl] := by rw [← hW2]; exact hbk.far (p := ⟨cb, 1, none⟩) (show w.heap.size ≠ cb by omega) _
  have hbt1 : Bt cb w W2 := by rw [← hW2]; exact hbt0.set_ 1 _
  have HW := Lib.hid (And.intro hc1 (And.intro hbk1 (And.intro hbt1 (And.intro hNe hEL))))
  rw [hW2]
  clear hck hbk hbt0 hNe hEL hc1 hbk1 hbt1 HW1
  obtain ⟨n0, n1, n2, n3, n4, n5, n6, n7⟩ := blk_cells8 HW.out.2.1
  clear hW2 p0 p1 p2 pf
  go_wp2_with fail
  (refine (HWD.out _).mono ?_); rintro e W3 ⟨he, hb3⟩
  rw [if_pos HE.out] at he
  subst he
  have hbt3 : Bt cb w W3 := HW.out.2.2.1.trans (Bt.below hb3)
  have hc3 : Chk W3 cb (some ⟨b, o, none⟩) N c ((a : Int) + 1) (.map (some mb)) := HW.out.1.below hb3 HW.out.1.lt
  have hb3' : Blk W3 w.heap.size 50 #[.int .i8 28, .int .i64 (K : Int), .int .i64 nn, .string s, .string t, .string u, .int .i64 ln, .int .i64 cl] := HW.out.2.1.below hb3 HW.out.2.1.lt
  have H3 := Lib.hid (And.intro hbt3 (And.intro hc3 (And.intro hb3' (And.intro HW.out.2.2.2.1 (And.intro HW.out.2.2.2.2 hb3.size)))))
  clear n0 n1 n2 n3 n4 n5 n6 n7 hb3 hbt3 hc3
  obtain ⟨n0, n1, n2, n3, n4, n5, n6, n7⟩ := blk_cells8 hb3'
  clear hb3'

  obtain ⟨i0, hi0, hz0, hz1, hz2⟩ := info_parts info9
  go_wp2_with fail
  clear n0 n1 n2 n3 n4 n5 n6 n7
  go_loopg [9, 103] K (fun g V i wr => ∃ (m : Nat) (V' : Value), V' = V ∧ m ≤ K ∧ g = K - m ∧ i = .int .i64 m ∧ KidsI L (some ⟨b, o, none⟩) c mb cb c0 c1 c2 c3 k env (a + 1) rest K W3.heap.size m V' W3 wr)
  case atStart =>
    exact ⟨0, _, rfl, by omega, rfl, rfl, k, [], a + 1, by rw [HK.out.2.1]; rfl, rfl, fun t ht => (by cases ht), HK.out.2.2.2.1, HK.out.2.2.1, Nat.le_refl _, HK.out.1, rfl, (Rs.then_id _).symm, But.refl _ _, by rw [H3.out.2.2.2.1]; exact H3.out.2.1, World.ownsRow_nil _ _ _ _⟩
  case round =>
    obtain ⟨m, V', rfl, hm, rfl, rfl, fm, tsm, am, f1, f2, f3, f4, f5, f6, f7, f8, f9, f10, f11, f12⟩ := hrel
    have h3s := H3.out.2.2.2.2.2
    have hcb3 : cb < W3.heap.size := H3.out.2.1.lt
    by_cases hlt : m < K
    · cases fm with
      | nil => simp only [Tf.len] at f1; omega
      | cons n1 k1 r1 =>
        simp only [Tf.len] at f1
        simp only [Tf.high] at f6
        rw [tyF_cons] at f9
        have hbt : Bt cb w wr := H3.out.1.trans f10
        have hcall := f4.1 am (r1.list ++ rest) env Ae ce wr (by rw [f7]; simp [Tf.list]) ⟨f5.1, f5.2.1, f5.2.2.1, trivial⟩ HK.out.2.2.2.2.2 (by rw [H3.out.2.2.2.2.1]; exact henc) (by have := HK.out.2.2.2.2.1; omega) (HIN.out.2.1.bt hbt) f11 (HIN.out.1.bt hbt) (HIN.out.2.2.bt hbt)
        rw [H3.out.2.2.2.1, H3.out.2.2.2.2.1] at hcall
        obtain ⟨T1, hT1⟩ : ∃ q, tyT n1 k1 env am = q := ⟨_, rfl⟩
        rw [hT1] at hcall f9
        obtain ⟨AV, cV, rfl, hV1, hV2⟩ := own_shape f12
        have HI := Lib.hid (And.intro f1 (And.intro f2 (And.intro f3 (And.intro f4 (And.intro f5 (And.intro f6 (And.intro f7 (And.intro f8 (And.intro f9 (And.intro f10 (And.intro f11 (And.intro f12 hT1))))))))))))
        have HCALL := Lib.hid hcall
        clear f1 f2 f3 f4 f5 f6 f7 f8 f9 f10 f11 f12 hT1 hcall hbt
        go_wp2_with fail
        (refine HCALL.out.mono ?_); rintro e w5 ⟨hb5, hq5⟩
        obtain ⟨f1, f2, f3, f4, f5, f6, f7, f8, f9, f10, f11, f12, hT1⟩ := HI.out
        cases T1 with
        | bad E x =>
          simp only at hq5
          subst hq5
          have hr := HR.out
          rw [f9] at hr
          simp only [Rs.then] at hr
          subst hr
          have HB := Lib.hid ((H3.out.1.trans f10).trans hb5)
          clear f1 f2 f3 f4 f5 f6 f7 f8 f9 f10 f11 f12 hT1 hb5 HI
          unfold Flaw
          go_wp2_with fail
          exact bodyPost_panic rfl (TypQ.bad HB.out)
        | ok t1 =>
          obtain ⟨rfl, hck5⟩ := hq5
          have hokt : okT t1 := tyT_ok HK.out.2.2.2.2.2 hT1
          have how5 := own_bt f12 hb5 hcb3
          have how6 := own_below how5 (bal b0 (.cells #[.string (str t1)] 9))
          have hsl := Sl.one w5 (.string (str t1)) 9
          have hone : ∀ q ∈ [Value.string (str t1)], q.oneCell' = true := by intro q hq; rw [List.mem_singleton.1 hq]; rfl
          have hsz5 : W3.heap.size ≤ w5.heap.size := Nat.le_trans f10.size hb5.size
          have HQ := Lib.hid (And.intro hb5 (And.intro hck5 (And.intro hokt (And.intro how5 hone))))
          clear f1 f2 f3 f4 f5 f6 f7 f8 f9 f10 f11 f12 hT1 hb5 hck5 hokt how5 hone
          go_wp2_with (at_builtin; refine wpList_append_sl _ rfl (.tmp 105) (.tmp 109) _ rfl W3.heap.size 9 i0 _ 1 16 Try.underlying53 hi0 hz0 hz1 hz2 rfl (by omega) (.slice AV m cV) m _ rfl how6 (w5.heap.size + 1) (some ⟨w5.heap.size, 0, none⟩) 1 1 _ rfl hsl HQ.out.2.2.2.2 (by simp only [maxLen]; omega) (by omega) (by simp only [World.size_alloc]; omega) ?_; intro V6 w6 hown6 hg6 hV6)
          obtain ⟨f1, f2, f3, f4, f5, f6, f7, f8, f9, f10, f11, f12, hT1⟩ := HI.out
          obtain ⟨hb5, hck5, hokt, how5, _⟩ := HQ.out
          have hrow : ∀ x, (Value.slice AV m cV).ownBlock = some x → W3.heap.size ≤ x ∧ x < wr.heap.size := fun x hx => f12.lt x hx
          have hb6 : Bt cb W3 w6 := But.grown ((f10.trans hb5).alloc _) hg6 (fun x hx hl => by have := hrow x hx; omega)
          have hck6 : Chk w6 cb (some ⟨b, o, none⟩) N c ((am + 1 + k1.sz : Nat) : Int) (.map (some mb)) := (Blk.alloc hck5 _).grown hg6 (fun e => by have := hrow cb e.symm; omega)
          have hfin : KidsI L (some ⟨b, o, none⟩) c mb cb c0 c1 c2 c3 k env (a + 1) rest K W3.heap.size (m + 1) V6 W3 w6 := by
            refine ⟨r1, tsm ++ [t1], am + 1 + k1.sz, by omega, by simp [f2], fun q hq => ?_, f4.2, f5.2.2.2, by omega, ?_, ?_, ?_, hb6, by rw [H3.out.2.2.2.1]; exact hck6, by rw [List.map_append]; exact hown6⟩
            · rcases List.mem_append.1 hq with h | h
              · exact f3 q h
              · rw [List.mem_singleton.1 h]; exact hokt
            · rw [show am + 1 + k1.sz = am + (1 + k1.sz) by omega, ← List.drop_drop, f7]
              simp only [Tf.list, List.cons_append, List.append_assoc]
              rw [show n1 :: (k1.list ++ (r1.list ++ rest)) = (n1 :: k1.list) ++ (r1.list ++ rest) by simp, List.drop_append_of_le_length (by simp [Tf.list_len]; omega), List.drop_of_length_le (by simp [Tf.list_len]; omega)]
              rfl
            · simp only [Tf.sz] at f8; omega
            · rw [f9]
              simp only [Rs.then, Bool.false_eq_true, if_false]
              cases tyF r1 false env (am + 1 + k1.sz) with
              | bad E x => rfl
              | ok us => simp [Rs.then]
          have HFIN := Lib.hid hfin
          clear f1 f2 f3 f4 f5 f6 f7 f8 f9 f10 f11 f12 hT1 hb5 hck5 hokt how5 hrow hb6 hck6 hfin hown6 hg6 hV6 HI HQ how6 hsl
          go_wp2_with fail
          go_roundg (K - (m + 1))
          case measure => omega
          case rel => exact ⟨m + 1, _, rfl, by omega, rfl, by go_num, HFIN.out⟩
    · obtain rfl : m = K := by omega
      cases fm with
      | cons n1 k1 r1 => simp only [Tf.len] at f1; omega
      | nil =>
        have hr := HR.out
        rw [f9] at hr
        simp only [tyF, Rs.then, List.append_nil] at hr
        simp only [Tf.sz] at f8
        have hbt : Bt cb w wr := H3.out.1.trans f10
        obtain ⟨AV, cV, rfl, hV1, hka⟩ := own_kids f12 f2
        rw [H3.out.2.2.2.1] at f11
        obtain ⟨p0, p1, p2⟩ := f11.cells
        have hnb : Blk wr w.heap.size 50 #[.int .i8 28, .int .i64 (m : Int), .int .i64 nn, .string s, .string t, .string u, .int .i64 ln, .int .i64 cl] := f10.blk H3.out.2.2.1 (by omega)
        have hrl := HIN.out.2.2.bt hbt

        have hrule : ∀ W', Below wr.heap.size wr W' → Calls Try.prog 51 #[.pointer (some ⟨cb, 0, none⟩), .agg #[.int .i8 28, .int .i64 (m : Int), .int .i64 nn, .string s, .string t, .string u, .int .i64 ln, .int .i64 cl], .slice AV m cV, .int .i64 (a : Nat)] W' fun e w' => RuleQ (ruleE ⟨28, (m : Int), nn, s, t, u, ln, cl⟩ tsm a) W' e w' := fun W' hb' => by
          have hm0 : m = 2 := HKK.out
          clear HKK
          subst hm0
          exact (rule_28 _ _ nn s t u ln cl tsm AV cV a W' f3 (by omega) (by omega) (hka.below hb'))
        have HS := Lib.hid (show ∀ W', Below wr.heap.size wr W' → (Below wr.heap.size wr W' ∧ W'.cell? ⟨cb, 2, none⟩ = some (.map (some mb)) ∧ W'.cell? ⟨w.heap.size, 0, none⟩ = some (.int .i8 28) ∧ W'.cell? ⟨w.heap.size, 1, none⟩ = some (.int .i64 (m : Int)) ∧ W'.cell? ⟨w.heap.size, 2, none⟩ = some (.int .i64 nn) ∧ W'.cell? ⟨w.heap.size, 3, none⟩ = some (.string s) ∧ W'.cell? ⟨w.heap.size, 4, none⟩ = some (.string t) ∧ W'.cell? ⟨w.heap.size, 5, none⟩ = some (.string u) ∧ W'.cell? ⟨w.heap.size, 6, none⟩ = some (.int .i64 ln) ∧ W'.cell? ⟨w.heap.size, 7, none⟩ = some (.int .i64 cl) ∧ (Instr.lookup 76 (.map (some mb)) (.int .i8 28) false).run Try.prog W' = .ok (.func (.func 51) #[] #[]) W') from fun W' hb' => by
          obtain ⟨n0, n1, n2, n3, n4, n5, n6, n7⟩ := blk_cells8 (hnb.below hb' hnb.lt)
          exact ⟨hb', ((Blk.below f11 hb' f11.lt).cell 2).trans rfl, n0, n1, n2, n3, n4, n5, n6, n7, (hrl.bt (Bt.below hb')).look 28 _ (by simp [ruleL])⟩)
        rw [hr] at hrule
        have HRULE := Lib.hid hrule
        have HF := Lib.hid (And.intro hbt (And.intro f11 f8))
        clear f1 f2 f3 f4 f5 f6 f7 f8 f9 f10 f11 f12 hr hbt hka p0 p1 p2 hnb hrl hrule 
        go_upto_region 23 with fail
        cases R with
        | bad E x =>
          refine wp_region_held_drew (S := (fun W' => Below wr.heap.size wr W' ∧ W'.cell? ⟨cb, 2, none⟩ = some (.map (some mb)) ∧ W'.cell? ⟨w.heap.size, 0, none⟩ = some (.int .i8 28) ∧ W'.cell? ⟨w.heap.size, 1, none⟩ = some (.int .i64 (m : Int)) ∧ W'.cell? ⟨w.heap.size, 2, none⟩ = some (.int .i64 nn) ∧ W'.cell? ⟨w.heap.size, 3, none⟩ = some (.string s) ∧ W'.cell? ⟨w.heap.size, 4, none⟩ = some (.string t) ∧ W'.cell? ⟨w.heap.size, 5, none⟩ = some (.string u) ∧ W'.cell? ⟨w.heap.size, 6, none⟩ = some (.int .i64 ln) ∧ W'.cell? ⟨w.heap.size, 7, none⟩ = some (.int .i64 cl) ∧ (Instr.lookup 76 (.map (some mb)) (.int .i8 28) false).run Try.prog W' = .ok (.func (.func 51) #[] #[]) W')) (by kernel_rfl) ?ss1 (fun hHeld => ?rr1)
          case ss1 => (try dsimp only); exact HS.out _ (Below.refl _ _).drew
          refine rgt 0 112 rfl rfl hHeld ?_
          try simp only [Act.put, rg1, rg2, rg3]
          refine rgt 1 113 rfl rfl hHeld ?_
          try simp only [Act.put, rg1, rg2, rg3]
          refine rgt 2 114 rfl rfl hHeld ?_
          try simp only [Act.put, rg1, rg2, rg3]
          refine rgt 3 115 rfl rfl hHeld ?_
          try simp only [Act.put, rg1, rg2, rg3]
          refine rgt 4 116 rfl rfl hHeld ?_
          try simp only [Act.put, rg1, rg2, rg3]
          refine rgt 5 117 rfl rfl hHeld ?_
          try simp only [Act.put, rg1, rg2, rg3]
          refine rgt 6 118 rfl rfl hHeld ?_
          try simp only [Act.put, rg1, rg2, rg3]
          refine rgt 7 119 rfl rfl hHeld ?_
          try simp only [Act.put, rg1, rg2, rg3]
          refine rgt 8 120 rfl rfl hHeld ?_
          try simp only [Act.put, rg1, rg2, rg3]
          refine rgt 9 121 rfl rfl hHeld ?_
          try simp only [Act.put, rg1, rg2, rg3]
          refine rgt 10 122 rfl rfl hHeld ?_
          try simp only [Act.put, rg1, rg2, rg3]
          refine rgc 11 (some 123) rfl (fun K hK => ?_)
          go_simp
          (refine (HRULE.out _ hHeld.1).mono ?_)
          (rintro e w6 ⟨hb6, hq6⟩)
          (simp only at hq6)
          subst hq6
          unfold Flaw
          have HB6 := Lib.hid (HF.out.1.trans (Bt.below (bl hHeld.1 hb6)))
          clear hb6
          go_wp2_with fail
          exact bodyPost_panic rfl (TypQ.bad HB6.out)
        | ok T =>
          refine wp_region_held_drew (S := (fun W' => Below wr.heap.size wr W' ∧ W'.cell? ⟨cb, 2, none⟩ = some (.map (some mb)) ∧ W'.cell? ⟨w.heap.size, 0, none⟩ = some (.int .i8 28) ∧ W'.cell? ⟨w.heap.size, 1, none⟩ = some (.int .i64 (m : Int)) ∧ W'.cell? ⟨w.heap.size, 2, none⟩ = some (.int .i64 nn) ∧ W'.cell? ⟨w.heap.size, 3, none⟩ = some (.string s) ∧ W'.cell? ⟨w.heap.size, 4, none⟩ = some (.string t) ∧ W'.cell? ⟨w.heap.size, 5, none⟩ = some (.string u) ∧ W'.cell? ⟨w.heap.size, 6, none⟩ = some (.int .i64 ln) ∧ W'.cell? ⟨w.heap.size, 7, none⟩ = some (.int .i64 cl) ∧ (Instr.lookup 76 (.map (some mb)) (.int .i8 28) false).run Try.prog W' = .ok (.func (.func 51) #[] #[]) W')) (by kernel_rfl) ?ss14 (fun hHeld => ?rr14)
          case ss14 => (try dsimp only); exact HS.out _ (Below.refl _ _).drew
          refine rgt 0 112 rfl rfl hHeld ?_
          try simp only [Act.put, rg1, rg2, rg3]
          refine rgt 1 113 rfl rfl hHeld ?_
          try simp only [Act.put, rg1, rg2, rg3]
          refine rgt 2 114 rfl rfl hHeld ?_
          try simp only [Act.put, rg1, rg2, rg3]
          refine rgt 3 115 rfl rfl hHeld ?_
          try simp only [Act.put, rg1, rg2, rg3]
          refine rgt 4 116 rfl rfl hHeld ?_
          try simp only [Act.put, rg1, rg2, rg3]
          refine rgt 5 117 rfl rfl hHeld ?_
          try simp only [Act.put, rg1, rg2, rg3]
          refine rgt 6 118 rfl rfl hHeld ?_
          try simp only [Act.put, rg1, rg2, rg3]
          refine rgt 7 119 rfl rfl hHeld ?_
          try simp only [Act.put, rg1, rg2, rg3]
          refine rgt 8 120 rfl rfl hHeld ?_
          try simp only [Act.put, rg1, rg2, rg3]
          refine rgt 9 121 rfl rfl hHeld ?_
          try simp only [Act.put, rg1, rg2, rg3]
          refine rgt 10 122 rfl rfl hHeld ?_
          try simp only [Act.put, rg1, rg2, rg3]
          refine rgc 11 (some 123) rfl (fun K hK => ?_)
          go_simp
          ((refine (HRULE.out _ hHeld.1).mono ?_); rintro e w6 ⟨hb6, hq6⟩; simp only at hq6; subst hq6)
          refine hK.out _ _ ?ss26 (fun hHeld2 => ?rr26)
          case ss26 => (try dsimp only); exact HS.out _ (bl hHeld.1 hb6)
          clear hK K
          clear hHeld
          have hHeld := hHeld2
          clear hHeld2
          try simp only [Act.put, rg1, rg2, rg3]
          refine rgt 12 4 rfl rfl hHeld ?_
          try simp only [Act.put, rg1, rg2, rg3]
          refine wpAnyH_done (by kernel_rfl) ?_ _
          have HB6 := Lib.hid hHeld.1
          clear hHeld
          go_wp2_with fail
          go_ret
          exact TypQ.ok (HF.out.1.trans (Bt.below HB6.out)) (by rw [← HF.out.2.2]; exact HF.out.2.1.below HB6.out HF.out.2.1.lt) rfl
end Go.Proofs.Ytjklecncdinabaa.K

/- CkN5 -/
namespace Go.Proofs.Ytjklecncdinabaa.K
open Go.RowKit Go.Proofs.Ytjklecncdinabaa.B Go.Proofs.Ytjklecncdinabaa.T
set_option linter.unusedVariables false
set_option linter.unusedSimpArgs false


set_option maxRecDepth 100000 in
set_option maxHeartbeats 8000000 in
theorem typed_5 (kids nn : Int) (s t u : ByteArray) (ln cl : Int) (L : List Tn) (A : Option Addr) (c mb cb c0 c1 c2 c3 : Nat) (k : Tf) (a : Nat) (env : List Ty) (Ae : Option Addr) (ce : Nat) (w : World)
    (hn : L[a]? = some ⟨5, kids, nn, s, t, u, ln, cl⟩) (hsm : Tn.small ⟨5, kids, nn, s, t, u, ln, cl⟩) (hen : EnvAt w cb Ae env) (henv : ∀ t ∈ env, okT t) (henc : env.length ≤ ce) (henl : env.length ≤ 100000) (hc : Chk w cb A L.length c a (.map (some mb))) (hL : LT w cb A L) (hrl : RulesAt w cb mb c0 c1 c2 c3) (hN : L.length ≤ 1000000) (hLc : L.length ≤ c) (rest : List Tn) (n1 : Tn) (k1 : Tf) (hk1 : k = .cons n1 k1 .nil) (hdrop : L.drop a = ⟨5, kids, nn, s, t, u, ln, cl⟩ :: (k.list ++ rest)) (hwf : k.wf) (hE : wordsE ⟨5, kids, nn, s, t, u, ln, cl⟩ env.length = 0) (hkall : k.All (TypP L A c mb cb c0 c1 c2 c3)) (hebd : env.length + 2 * (k.high + 1) ≤ 100000) :
    Calls Try.prog 29 #[.pointer (some ⟨cb, 0, none⟩), .slice Ae env.length ce] w fun e w' => TypQ ((made (.bin 62 (ty t) (ty u)) a).then fun f => (tyF k false (ty t :: env) (a + 1)).then fun ts => want (ts.getD 0 tI = ty u) a (.ok f)) cb A L.length c (.map (some mb)) (a + 1 + k.sz) w e w' := by
  obtain ⟨R, hR⟩ : ∃ R, ((made (.bin 62 (ty t) (ty u)) a).then fun f => (tyF k false (ty t :: env) (a + 1)).then fun ts => want (ts.getD 0 tI = ty u) a (.ok f)) = R := ⟨_, rfl⟩
  rw [hR]
  subst hk1
  have hgd : isB t = true ∧ isB u = true := fnW (.inl rfl) hE
  have htt : (ty t).ok ∧ t = str (ty t) ∧ (ty t).code.length ≤ 64 := ty_spec hgd.1
  have huu : (ty u).ok ∧ u = str (ty u) ∧ (ty u).code.length ≤ 64 := ty_spec hgd.2
  have hE2 := hE
  have HE := Lib.hid hE2
  have hd1 : L.drop (a + 1) = n1 :: (k1.list ++ rest) := by rw [← List.drop_drop, hdrop]; simp [Tf.list]
  simp only [Tf.high, Tf.sz] at hebd ⊢
  have htz : t.size ≤ 64 := by rw [htt.2.1, str_size]; exact htt.2.2
  have huz : u.size ≤ 64 := by rw [huu.2.1, str_size]; exact huu.2.2
  have ha1 := fun V => run_string_add_sum (P := Try.prog) V ⟨#[62]⟩ t (by show 1 + _ ≤ _; omega)
  have ha2 := fun V => run_string_add_sum (P := Try.prog) V ((⟨#[62]⟩ : ByteArray) ++ t) u (by rw [ByteArray.size_append]; show (1 + _) + _ ≤ _; omega)
  obtain ⟨f, hf⟩ : ∃ f, ((⟨#[62]⟩ : ByteArray) ++ t) ++ u = f := ⟨_, rfl⟩
  rw [hf] at ha2
  have hfs : f = str (.bin 62 (ty t) (ty u)) := by
    rw [← hf]
    have h := str_bin 62 (ty t) (ty u)
    rwa [← htt.2.1, ← huu.2.1] at h
  have hfz : f.size = (Ty.bin 62 (ty t) (ty u)).code.length := by rw [hfs, str_size]
  have HK := Lib.hid (And.intro hd1 (And.intro hwf (And.intro hkall (And.intro hebd (And.intro henv (And.intro hfs (And.intro htt huu)))))))
  have HR := Lib.hid hR
  have hcb0 : cb < w.heap.size := hc.lt
  clear hR hd1 hdrop hwf hE hE2 hkall hebd henv hgd htt huu hf hfs
  by_cases h64 : (Ty.bin 62 (ty t) (ty u)).code.length ≤ 64
  rotate_left
  · have hr := HR.out
    rw [made_neg h64] at hr
    simp only [Rs.then] at hr
    subst hr
    have HM := Lib.hid fun W => made_no (.pointer (some ⟨cb, 0, none⟩)) f a W (by omega)
    obtain ⟨c0', c1', c2'⟩ := hc.cells
    have hcl : cb < w.heap.size := hc.lt
    have hal : a < L.length := (List.getElem?_eq_some_iff.1 hn).1
    obtain ⟨b, o, rfl, hbc, hbl, q0, q1, q2, q3, q4, q5, q6, q7⟩ := hL.node hn
    simp only at q0 q1 q2 q3 q4 q5 q6 q7
    have hwd := fun W => words_any ⟨5, kids, nn, s, t, u, ln, cl⟩ a env.length W hsm
    unfold Tn.val at hwd
    simp only at hwd
    obtain ⟨N, hNe⟩ : ∃ N, L.length = N := ⟨_, rfl⟩
    rw [hNe] at c0' hal hN hLc hc ⊢
    obtain ⟨EL, hEL⟩ : ∃ x, env.length = x := ⟨_, rfl⟩
    rw [hEL] at hwd henl henc HE ⊢
    have hcr := hc.frozen 1
    have hbk : Blk (w.alloc (.cells #[.int .i8 5, .int .i64 kids, .int .i64 nn, .string s, .string t, .string u, .int .i64 ln, .int .i64 cl] 50)) w.heap.size 50 #[.int .i8 5, .int .i64 kids, .int .i64 nn, .string s, .string t, .string u, .int .i64 ln, .int .i64 cl] := Blk.new _ _ _
    have hck : Chk (w.alloc (.cells #[.int .i8 5, .int .i64 kids, .int .i64 nn, .string s, .string t, .string u, .int .i64 ln, .int .i64 cl] 50)) cb (some ⟨b, o, none⟩) N c a (.map (some mb)) := Blk.alloc hc _
    have HW0 := Lib.hid (And.intro hck (And.intro hbk (And.intro hNe hEL)))
    have HWD := Lib.hid hwd
    have HIN := Lib.hid (And.intro hL (And.intro hen hrl))
    clear hc hck hbk hNe hEL hwd hL hen hrl hcr
    go_enter Try.func29, Try.ntmps29
    go_upto_region 3 with fail
    obtain ⟨hck, hbk, hNe, hEL⟩ := HW0.out
    obtain ⟨W1, hW1⟩ : ∃ W1, w.alloc (.cells #[.int .i8 5, .int .i64 kids, .int .i64 nn, .string s, .string t, .string u, .int .i64 ln, .int .i64 cl] 50) = W1 := ⟨_, rfl⟩
    have hbt0 : Bt cb w W1 := by rw [← hW1]; exact Bt.alloc (But.refl _ _) _
    rw [hW1] at hck hbk ⊢
    obtain ⟨p0, p1, p2⟩ := hck.cells
    have pf := hck.frozen 1
    have HW1 := Lib.hid (And.intro hck (And.intro hbk (And.intro hbt0 (And.intro hNe hEL))))
    clear hW1 hck hbk hbt0 hNe hEL HW0 c0' c1' c2' q0 q1 q2 q3 q4 q5 q6 q7
    go_upto_region 4 with fail
    obtain ⟨hck, hbk, hbt0, hNe, hEL⟩ := HW1.out
    obtain ⟨W2, hW2⟩ : ∃ W2, W1.setCell ⟨cb, 1, none⟩ (.int .i64 ((a : Int) + 1)) = W2 := ⟨_, rfl⟩
    have hc1 : Chk W2 cb (some ⟨b, o, none⟩) N c ((a : Int) + 1) (.map (some mb)) := by rw [← hW2]; exact hck.set _
    have hbk1 : Blk W2 w.heap.size 50 #[.int .i8 5, .int .i64 kids, .int .i64 nn, .string s, .string t, .string u, .int .i64 ln, .int .i64 cl] := by rw [← hW2]; exact hbk.far (p := ⟨cb, 1, none⟩) (show w.heap.size ≠ cb by omega) _
    have hbt1 : Bt cb w W2 := by rw [← hW2]; exact hbt0.set_ 1 _
    have HW := Lib.hid (And.intro hc1 (And.intro hbk1 (And.intro hbt1 (And.intro hNe hEL))))
    rw [hW2]
    clear hck hbk hbt0 hNe hEL hc1 hbk1 hbt1 HW1
    obtain ⟨n0, n1', n2, n3, n4, n5, n6, n7⟩ := blk_cells8 HW.out.2.1
    clear hW2 p0 p1 p2 pf
    go_wp2_with fail
    (refine (HWD.out _).mono ?_); rintro e W3 ⟨he, hb3⟩
    rw [if_pos HE.out] at he
    subst he
    have hbt3 : Bt cb w W3 := HW.out.2.2.1.trans (Bt.below hb3)
    have hc3 : Chk W3 cb (some ⟨b, o, none⟩) N c ((a : Int) + 1) (.map (some mb)) := HW.out.1.below hb3 HW.out.1.lt
    have hb3' : Blk W3 w.heap.size 50 #[.int .i8 5, .int .i64 kids, .int .i64 nn, .string s, .string t, .string u, .int .i64 ln, .int .i64 cl] := HW.out.2.1.below hb3 HW.out.2.1.lt
    have H3 := Lib.hid (And.intro hbt3 (And.intro hc3 (And.intro hb3' (And.intro HW.out.2.2.2.1 (And.intro HW.out.2.2.2.2 hb3.size)))))
    clear n0 n1' n2 n3 n4 n5 n6 n7 hb3 hbt3 hc3
    obtain ⟨n0, n1', n2, n3, n4, n5, n6, n7⟩ := blk_cells8 hb3'
    clear hb3'
    go_wp2_with fail
    (refine (HM.out _).mono ?_); rintro e w4 ⟨rfl, rfl⟩
    unfold Flaw
    go_wp2_with fail
    exact bodyPost_panic rfl (TypQ.bad H3.out.1)
  have HM := Lib.hid fun W => made_yes (.pointer (some ⟨cb, 0, none⟩)) f a W (by omega)
  obtain ⟨c0', c1', c2'⟩ := hc.cells
  have hcl : cb < w.heap.size := hc.lt
  have hal : a < L.length := (List.getElem?_eq_some_iff.1 hn).1
  obtain ⟨b, o, rfl, hbc, hbl, q0, q1, q2, q3, q4, q5, q6, q7⟩ := hL.node hn
  simp only at q0 q1 q2 q3 q4 q5 q6 q7
  have hwd := fun W => words_any ⟨5, kids, nn, s, t, u, ln, cl⟩ a env.length W hsm
  unfold Tn.val at hwd
  simp only at hwd
  obtain ⟨N, hNe⟩ : ∃ N, L.length = N := ⟨_, rfl⟩
  rw [hNe] at c0' hal hN hLc hc ⊢
  obtain ⟨EL, hEL⟩ : ∃ x, env.length = x := ⟨_, rfl⟩
  rw [hEL] at hwd henl henc HE ⊢
  have hcr := hc.frozen 1
  have hbk : Blk (w.alloc (.cells #[.int .i8 5, .int .i64 kids, .int .i64 nn, .string s, .string t, .string u, .int .i64 ln, .int .i64 cl] 50)) w.heap.size 50 #[.int .i8 5, .int .i64 kids, .int .i64 nn, .string s, .string t, .string u, .int .i64 ln, .int .i64 cl] := Blk.new _ _ _
  have hck : Chk (w.alloc (.cells #[.int .i8 5, .int .i64 kids, .int .i64 nn, .string s, .string t, .string u, .int .i64 ln, .int .i64 cl] 50)) cb (some ⟨b, o, none⟩) N c a (.map (some mb)) := Blk.alloc hc _
  have HW0 := Lib.hid (And.intro hck (And.intro hbk (And.intro hNe hEL)))
  have HWD := Lib.hid hwd
  have HIN := Lib.hid (And.intro hL (And.intro hen hrl))
  clear hc hck hbk hNe hEL hwd hL hen hrl hcr
  go_enter Try.func29, Try.ntmps29
  go_upto_region 3 with fail
  obtain ⟨hck, hbk, hNe, hEL⟩ := HW0.out
  obtain ⟨W1, hW1⟩ : ∃ W1, w.alloc (.cells #[.int .i8 5, .int .i64 kids, .int .i64 nn, .string s, .string t, .string u, .int .i64 ln, .int .i64 cl] 50) = W1 := ⟨_, rfl⟩
  have hbt0 : Bt cb w W1 := by rw [← hW1]; exact Bt.alloc (But.refl _ _) _
  rw [hW1] at hck hbk ⊢
  obtain ⟨p0, p1, p2⟩ := hck.cells
  have pf := hck.frozen 1
  have HW1 := Lib.hid (And.intro hck (And.intro hbk (And.intro hbt0 (And.intro hNe hEL))))
  clear hW1 hck hbk hbt0 hNe hEL HW0 c0' c1' c2' q0 q1 q2 q3 q4 q5 q6 q7
  go_upto_region 4 with fail
  obtain ⟨hck, hbk, hbt0, hNe, hEL⟩ := HW1.out
  obtain ⟨W2, hW2⟩ : ∃ W2, W1.setCell ⟨cb, 1, none⟩ (.int .i64 ((a : Int) + 1)) = W2 := ⟨_, rfl⟩
  have hc1 : Chk W2 cb (some ⟨b, o, none⟩) N c ((a : Int) + 1) (.map (some mb)) := by rw [← hW2]; exact hck.set _
  have hbk1 : Blk W2 w.heap.size 50 #[.int .i8 5, .int .i64 kids, .int .i64 nn, .string s, .string t, .string u, .int .i64 ln, .int .i64 cl] := by rw [← hW2]; exact hbk.far (p := ⟨cb, 1, none⟩) (show w.heap.size ≠ cb by omega) _
  have hbt1 : Bt cb w W2 := by rw [← hW2]; exact hbt0.set_ 1 _
  have HW := Lib.hid (And.intro hc1 (And.intro hbk1 (And.intro hbt1 (And.intro hNe hEL))))
  rw [hW2]
  clear hck hbk hbt0 hNe hEL hc1 hbk1 hbt1 HW1
  obtain ⟨n0, n1', n2, n3, n4, n5, n6, n7⟩ := blk_cells8 HW.out.2.1
  clear hW2 p0 p1 p2 pf
  go_wp2_with fail
  (refine (HWD.out _).mono ?_); rintro e W3 ⟨he, hb3⟩
  rw [if_pos HE.out] at he
  subst he
  have hbt3 : Bt cb w W3 := HW.out.2.2.1.trans (Bt.below hb3)
  have hc3 : Chk W3 cb (some ⟨b, o, none⟩) N c ((a : Int) + 1) (.map (some mb)) := HW.out.1.below hb3 HW.out.1.lt
  have hb3' : Blk W3 w.heap.size 50 #[.int .i8 5, .int .i64 kids, .int .i64 nn, .string s, .string t, .string u, .int .i64 ln, .int .i64 cl] := HW.out.2.1.below hb3 HW.out.2.1.lt
  have H3 := Lib.hid (And.intro hbt3 (And.intro hc3 (And.intro hb3' (And.intro HW.out.2.2.2.1 (And.intro HW.out.2.2.2.2 hb3.size)))))
  clear n0 n1' n2 n3 n4 n5 n6 n7 hb3 hbt3 hc3
  obtain ⟨n0, n1', n2, n3, n4, n5, n6, n7⟩ := blk_cells8 hb3'
  clear hb3'
  go_wp2_with fail
  (refine (HM.out _).mono ?_); rintro e w4 ⟨rfl, rfl⟩
  clear n0 n1' n2 n3 n4 n5 n6 n7
  go_upto_region 10 with fail

  have h3s := H3.out.2.2.2.2.2
  have hcb3 : cb < W3.heap.size := H3.out.2.1.lt
  have HS := Lib.hid (show ∀ W', Bt cb W3 W' → (Bt cb W3 W' ∧ W'.cell? ⟨w.heap.size, 4, none⟩ = some (.string t) ∧ W'.cell? ⟨w.heap.size, 5, none⟩ = some (.string u)) from fun W' hb' => by
    have hk := hb'.blk H3.out.2.2.1 (by omega)
    exact ⟨hb', (hk.cell 4).trans rfl, (hk.cell 5).trans rfl⟩)
  have hHR := HR.out
  rw [made_pos h64] at hHR
  simp only [Rs.then, tyF_cons] at hHR
  -- what push gives, and typed behind it
  have hpush := fun (W4 : World) (hs4 : W4 = W3.drew.alloc (.cells #[.string t] 9)) => push_any Ae EL ce (env.map strV) (some ⟨W3.heap.size, 0, none⟩) 1 1 W3.heap.size [Value.string t] W4 (by
      rw [hs4]
      exact ⟨rfl, .inr ⟨W3.heap.size, 1, _, rfl, Nat.le_refl _, heap_alloc_new W3.drew _, Nat.le_refl _, by unfold maxLen; omega, rfl, rfl⟩⟩) (by
      refine ⟨by rw [List.length_map, H3.out.2.2.2.2.1, Nat.mul_one], ?_⟩
      rcases (HIN.out.2.1.bt (H3.out.1.trans (Bt.below (show Below W3.heap.size W3 W4 by rw [hs4]; exact bal (Below.refl _ _).drew _)))) with h | ⟨eb, eo, h1, h2, h3, h4⟩
      · exact .inl (by rw [← H3.out.2.2.2.2.1, h]; rfl)
      · exact .inr ⟨eb, eo, h1, h3, fun j q hq => by
          rw [List.getElem?_map] at hq
          obtain ⟨q', hq', rfl⟩ := Option.map_eq_some_iff.1 hq
          exact h4 j q' hq'⟩) (by
      intro q hq
      obtain ⟨q', _, rfl⟩ := List.mem_map.1 hq
      rfl) (by rw [hs4]; simp only [World.size_alloc]; show W3.heap.size ≤ W3.heap.size + 1; omega) (by omega)
  have henv2 : ∀ q ∈ (ty t :: env), okT q := fun q hq => by
    have hb := HK.out.2.2.2.2.2.2
    simp only [List.mem_cons] at hq
    rcases hq with rfl | hq
    · exact ⟨hb.1.1, hb.1.2.2⟩
    · exact HK.out.2.2.2.2.1 q hq
  have htyp := fun (w5 : World) (V : Value) (hbt : Bt cb w w5) (hck : Chk w5 cb (some ⟨b, o, none⟩) N c ((a : Int) + 1) (.map (some mb))) (ho : w5.ownsRow W3.heap.size 9 1 V (1 + EL) ([Value.string t] ++ env.map strV)) =>
    (show ∃ A' c', V = .slice A' (1 + EL) c' ∧ 1 + EL ≤ c' ∧ Calls Try.prog 29 #[.pointer (some ⟨cb, 0, none⟩), .slice A' (1 + EL) c'] w5 fun e w' => TypQ (tyT n1 k1 (ty t :: env) (a + 1)) cb (some ⟨b, o, none⟩) N c (.map (some mb)) (a + 1 + 1 + k1.sz) w5 e w' from by
      have hel : (ty t :: env).length = 1 + EL := by simp only [List.length_cons, H3.out.2.2.2.2.1]; omega
      have hxs : [Value.string t] ++ env.map strV = (ty t :: env).map strV := by
        have hb := HK.out.2.2.2.2.2
        simp only [List.map_cons, strV]
        rw [← hb.2.1.2.1]
        rfl
      rw [hxs] at ho
      obtain ⟨A', c', rfl, hc', hka⟩ := own_kids ho hel
      refine ⟨A', c', rfl, hc', ?_⟩
      have hlt := ho.lt
      have := HK.out.2.2.1.1 (a + 1) rest (ty t :: env) A' c' w5 HK.out.1 ⟨HK.out.2.1.1, HK.out.2.1.2.1, HK.out.2.1.2.2.1, trivial⟩ henv2 (by omega) (by have := HK.out.2.2.2.1; have := H3.out.2.2.2.2.1; omega) (by
          rcases hka with h | ⟨g, rfl, h2, h3⟩
          · exact .inl h
          · have hg := (hlt g rfl).1
            exact .inr ⟨g, 0, rfl, by omega, h2, fun j q hq => by rw [Nat.zero_add]; exact h3 j q hq⟩) (by rw [H3.out.2.2.2.1]; exact hck) (HIN.out.1.bt hbt) (HIN.out.2.2.bt hbt)
      rw [hel, H3.out.2.2.2.1] at this
      exact this)
  obtain ⟨T1, hT1⟩ : ∃ q, tyT n1 k1 (ty t :: env) (a + 1) = q := ⟨_, rfl⟩
  rw [hT1] at hHR htyp
  have HPU := Lib.hid hpush
  have HTY := Lib.hid htyp
  have HT1 := Lib.hid hT1
  have HEN2 := Lib.hid henv2
  clear hpush htyp hT1 henv2

  cases T1 with
  | bad E x =>
    simp only at hHR
    subst hHR
    clear HR
    refine wp_region_held_drew (S := (fun W' => Bt cb W3 W' ∧ W'.cell? ⟨w.heap.size, 4, none⟩ = some (.string t) ∧ W'.cell? ⟨w.heap.size, 5, none⟩ = some (.string u))) (by kernel_rfl) ?ss1 (fun hHeld => ?rr1)
    case ss1 => (try dsimp only); exact HS.out _ (Bt.below (Below.refl _ _).drew)
    refine rgt 0 53 rfl rfl hHeld ?_
    try simp only [Act.put, rg1, rg2, rg3]
    refine rgt 1 54 rfl rfl hHeld ?_
    try simp only [Act.put, rg1, rg2, rg3]
    refine rgt 2 55 rfl rfl hHeld ?_
    try simp only [Act.put, rg1, rg2, rg3]
    refine rgt 3 56 rfl rfl hHeld ?_
    try simp only [Act.put, rg1, rg2, rg3]
    refine rgt 7 60 rfl rfl hHeld ?_
    try simp only [Act.put, rg1, rg2, rg3]
    refine rgt 8 61 rfl rfl hHeld ?_
    try simp only [Act.put, rg1, rg2, rg3]
    refine rgt 10 63 rfl rfl hHeld ?_
    try simp only [Act.put, rg1, rg2, rg3]
    refine rgc 4 (some 57) rfl (fun K hK => ?_)
    go_simp
    go_simp
    refine hK.out _ _ ?ss9 (fun hHeld2 => ?rr9)
    case ss9 => (try dsimp only); exact HS.out _ (Bt.below (bal (Below.refl _ _).drew _))
    clear hK K
    clear hHeld
    have hHeld := hHeld2
    clear hHeld2
    try simp only [Act.put, rg1, rg2, rg3]
    refine rgc 5 (some 58) rfl (fun K hK => ?_)
    go_simp
    ((refine (HPU.out _ rfl).mono ?_); rintro e w5 ⟨V5, rfl, ho5, hg5⟩; have hbt5 : Bt cb W3 w5 := But.grown (Bt.below (bal (Below.refl W3.heap.size W3).drew _)) hg5 (fun x hx hl => by have hx2 : W3.heap.size = x := (by injection hx); omega); have hck5 : Chk w5 cb (some ⟨b, o, none⟩) N c ((a : Int) + 1) (.map (some mb)) := (Blk.alloc (Blk.drew H3.out.2.1) _).grown hg5 (fun e => by have e2 : cb = W3.heap.size := (by injection e); omega); obtain ⟨A5, c5, rfl, hc5, hty5⟩ := HTY.out w5 V5 (H3.out.1.trans hbt5) hck5 ho5; have HB5 := Lib.hid hbt5; clear ho5 hg5 hbt5 hck5)
    refine hK.out _ _ ?ss10 (fun hHeld2 => ?rr10)
    case ss10 => (try dsimp only); exact HS.out _ HB5.out
    clear hK K
    clear hHeld
    have hHeld := hHeld2
    clear hHeld2
    try simp only [Act.put, rg1, rg2, rg3]
    refine rgc 6 (some 59) rfl (fun K hK => ?_)
    go_simp
    (refine hty5.mono ?_)
    (rintro e w6 ⟨hb6, hq6⟩)
    (simp only at hq6)
    subst hq6
    unfold Flaw
    have HB6 := Lib.hid (H3.out.1.trans (HB5.out.trans hb6))
    clear hty5 hb6
    go_wp2_with fail
    exact bodyPost_panic rfl (TypQ.bad HB6.out)
  | ok t1 =>
    have hokt : okT t1 := tyT_ok HEN2.out HT1.out
    simp only [tyF, List.getD_cons_zero] at hHR
    have heq : ((str t1).toList == u.toList) = true ↔ t1 = ty u := by
      have h := strEq hokt.1 HK.out.2.2.2.2.2.2.2.1
      rwa [← HK.out.2.2.2.2.2.2.2.2.1] at h
    obtain ⟨r, hr⟩ : ∃ r, ((str t1).toList == u.toList) = r := ⟨_, rfl⟩
    rw [hr, ] at heq
    rw [want_if heq] at hHR
    clear heq hokt HR
    cases r
    · rw [if_neg (by simp)] at hHR
      subst hHR
      refine wp_region_held_drew (S := (fun W' => Bt cb W3 W' ∧ W'.cell? ⟨w.heap.size, 4, none⟩ = some (.string t) ∧ W'.cell? ⟨w.heap.size, 5, none⟩ = some (.string u))) (by kernel_rfl) ?ss12 (fun hHeld => ?rr12)
      case ss12 => (try dsimp only); exact HS.out _ (Bt.below (Below.refl _ _).drew)
      refine rgt 0 53 rfl rfl hHeld ?_
      try simp only [Act.put, rg1, rg2, rg3]
      refine rgt 1 54 rfl rfl hHeld ?_
      try simp only [Act.put, rg1, rg2, rg3]
      refine rgt 2 55 rfl rfl hHeld ?_
      try simp only [Act.put, rg1, rg2, rg3]
      refine rgt 3 56 rfl rfl hHeld ?_
      try simp only [Act.put, rg1, rg2, rg3]
      refine rgt 7 60 rfl rfl hHeld ?_
      try simp only [Act.put, rg1, rg2, rg3]
      refine rgt 8 61 rfl rfl hHeld ?_
      try simp only [Act.put, rg1, rg2, rg3]
      refine rgt 10 63 rfl rfl hHeld ?_
      try simp only [Act.put, rg1, rg2, rg3]
      refine rgc 4 (some 57) rfl (fun K hK => ?_)
      go_simp
      go_simp
      refine hK.out _ _ ?ss20 (fun hHeld2 => ?rr20)
      case ss20 => (try dsimp only); exact HS.out _ (Bt.below (bal (Below.refl _ _).drew _))
      clear hK K
      clear hHeld
      have hHeld := hHeld2
      clear hHeld2
      try simp only [Act.put, rg1, rg2, rg3]
      refine rgc 5 (some 58) rfl (fun K hK => ?_)
      go_simp
      ((refine (HPU.out _ rfl).mono ?_); rintro e w5 ⟨V5, rfl, ho5, hg5⟩; have hbt5 : Bt cb W3 w5 := But.grown (Bt.below (bal (Below.refl W3.heap.size W3).drew _)) hg5 (fun x hx hl => by have hx2 : W3.heap.size = x := (by injection hx); omega); have hck5 : Chk w5 cb (some ⟨b, o, none⟩) N c ((a : Int) + 1) (.map (some mb)) := (Blk.alloc (Blk.drew H3.out.2.1) _).grown hg5 (fun e => by have e2 : cb = W3.heap.size := (by injection e); omega); obtain ⟨A5, c5, rfl, hc5, hty5⟩ := HTY.out w5 V5 (H3.out.1.trans hbt5) hck5 ho5; have HB5 := Lib.hid hbt5; clear ho5 hg5 hbt5 hck5)
      refine hK.out _ _ ?ss21 (fun hHeld2 => ?rr21)
      case ss21 => (try dsimp only); exact HS.out _ HB5.out
      clear hK K
      clear hHeld
      have hHeld := hHeld2
      clear hHeld2
      try simp only [Act.put, rg1, rg2, rg3]
      refine rgc 6 (some 59) rfl (fun K hK => ?_)
      go_simp
      ((refine hty5.mono ?_); rintro e w6 ⟨hb6, hq6⟩; obtain ⟨rfl, hck6⟩ := hq6; have HB6 := Lib.hid (And.intro (HB5.out.trans hb6) hck6); clear hty5 hb6 hck6)
      refine hK.out _ _ ?ss22 (fun hHeld2 => ?rr22)
      case ss22 => (try dsimp only); exact HS.out _ HB6.out.1
      clear hK K
      clear hHeld
      have hHeld := hHeld2
      clear hHeld2
      try simp only [Act.put, rg1, rg2, rg3]
      refine rgt 9 62 rfl rfl hHeld ?_
      try simp only [Act.put, rg1, rg2, rg3]
      refine rgc 11 (some 64) rfl (fun K hK => ?_)
      go_simp
      (refine (need_no 23 a _).mono ?_)
      (rintro e w7 ⟨rfl, rfl⟩)
      unfold Flaw
      go_wp2_with fail
      exact bodyPost_panic rfl (TypQ.bad (H3.out.1.trans HB6.out.1))
    · rw [if_pos rfl] at hHR
      subst hHR
      refine wp_region_held_drew (S := (fun W' => Bt cb W3 W' ∧ W'.cell? ⟨w.heap.size, 4, none⟩ = some (.string t) ∧ W'.cell? ⟨w.heap.size, 5, none⟩ = some (.string u))) (by kernel_rfl) ?ss25 (fun hHeld => ?rr25)
      case ss25 => (try dsimp only); exact HS.out _ (Bt.below (Below.refl _ _).drew)
      refine rgt 0 53 rfl rfl hHeld ?_
      try simp only [Act.put, rg1, rg2, rg3]
      refine rgt 1 54 rfl rfl hHeld ?_
      try simp only [Act.put, rg1, rg2, rg3]
      refine rgt 2 55 rfl rfl hHeld ?_
      try simp only [Act.put, rg1, rg2, rg3]
      refine rgt 3 56 rfl rfl hHeld ?_
      try simp only [Act.put, rg1, rg2, rg3]
      refine rgt 7 60 rfl rfl hHeld ?_
      try simp only [Act.put, rg1, rg2, rg3]
      refine rgt 8 61 rfl rfl hHeld ?_
      try simp only [Act.put, rg1, rg2, rg3]
      refine rgt 10 63 rfl rfl hHeld ?_
      try simp only [Act.put, rg1, rg2, rg3]
      refine rgc 4 (some 57) rfl (fun K hK => ?_)
      go_simp
      go_simp
      refine hK.out _ _ ?ss33 (fun hHeld2 => ?rr33)
      case ss33 => (try dsimp only); exact HS.out _ (Bt.below (bal (Below.refl _ _).drew _))
      clear hK K
      clear hHeld
      have hHeld := hHeld2
      clear hHeld2
      try simp only [Act.put, rg1, rg2, rg3]
      refine rgc 5 (some 58) rfl (fun K hK => ?_)
      go_simp
      ((refine (HPU.out _ rfl).mono ?_); rintro e w5 ⟨V5, rfl, ho5, hg5⟩; have hbt5 : Bt cb W3 w5 := But.grown (Bt.below (bal (Below.refl W3.heap.size W3).drew _)) hg5 (fun x hx hl => by have hx2 : W3.heap.size = x := (by injection hx); omega); have hck5 : Chk w5 cb (some ⟨b, o, none⟩) N c ((a : Int) + 1) (.map (some mb)) := (Blk.alloc (Blk.drew H3.out.2.1) _).grown hg5 (fun e => by have e2 : cb = W3.heap.size := (by injection e); omega); obtain ⟨A5, c5, rfl, hc5, hty5⟩ := HTY.out w5 V5 (H3.out.1.trans hbt5) hck5 ho5; have HB5 := Lib.hid hbt5; clear ho5 hg5 hbt5 hck5)
      refine hK.out _ _ ?ss34 (fun hHeld2 => ?rr34)
      case ss34 => (try dsimp only); exact HS.out _ HB5.out
      clear hK K
      clear hHeld
      have hHeld := hHeld2
      clear hHeld2
      try simp only [Act.put, rg1, rg2, rg3]
      refine rgc 6 (some 59) rfl (fun K hK => ?_)
      go_simp
      ((refine hty5.mono ?_); rintro e w6 ⟨hb6, hq6⟩; obtain ⟨rfl, hck6⟩ := hq6; have HB6 := Lib.hid (And.intro (HB5.out.trans hb6) hck6); clear hty5 hb6 hck6)
      refine hK.out _ _ ?ss35 (fun hHeld2 => ?rr35)
      case ss35 => (try dsimp only); exact HS.out _ HB6.out.1
      clear hK K
      clear hHeld
      have hHeld := hHeld2
      clear hHeld2
      try simp only [Act.put, rg1, rg2, rg3]
      refine rgt 9 62 rfl rfl hHeld ?_
      try simp only [Act.put, rg1, rg2, rg3]
      refine rgc 11 (some 64) rfl (fun K hK => ?_)
      go_simp
      ((refine (need_yes 23 a _).mono ?_); rintro e w7 ⟨rfl, rfl⟩)
      refine hK.out _ _ ?ss37 (fun hHeld2 => ?rr37)
      case ss37 => (try dsimp only); exact hHeld
      clear hK K
      clear hHeld2
      try simp only [Act.put, rg1, rg2, rg3]
      refine wpAnyH_done (by kernel_rfl) ?_ _
      clear hHeld
      go_wp2_with fail
      go_ret
      exact TypQ.ok (H3.out.1.trans HB6.out.1) (by have h := HB6.out.2; rwa [show a + 1 + 1 + k1.sz = a + 1 + (1 + k1.sz + 0) by omega] at h) HK.out.2.2.2.2.2.1
end Go.Proofs.Ytjklecncdinabaa.K
