/- Parts of this claim: RtH, RtI, RtJ. -/
import Derived.Test.YtmagljnlfponaaaGreatP13
set_option linter.unusedVariables false
set_option linter.unusedSimpArgs false
/- RtH -/
namespace Go.Proofs.YtmagljnlfponaaaGreat.R
open Go.RowKit Go.Proofs.YtmagljnlfponaaaGreat.B Go.Proofs.YtmagljnlfponaaaGreat.T Go.Proofs.YtmagljnlfponaaaGreat.K
set_option linter.unusedVariables false
set_option linter.unusedSimpArgs false

section
variable {L : List Tn} {A : Option Addr} {c wb sb : Nat} {xs : List Value} {a : Nat} {w w' : World}
theorem St.bt (h : St L A c wb sb xs a w) (hb : Bt wb w w') (hw : Wk w' wb A L.length c a 0 0 (allV sb L.length)) : St L A c wb sb xs a w' := by
  have hbw : Bw wb sb w w' := Bw.bt hb
  have hl := LT.bw h.l1 h.l2 hbw
  exact ⟨hw, hb.blk h.al (fun e => h.ne e.symm), h.len, h.ne, hl.1, hl.2⟩
theorem want_yes (x : Int) (h : St L A c wb sb xs a w) : Calls Tryz.prog 86 #[.pointer (some ⟨wb, 0, none⟩), .bool true, .int .i64 x] w fun en w' => en = .returned (.tuple #[]) ∧ Bt wb w w' ∧ St L A c wb sb xs a w' := by
  refine (want_any true x wb A L.length c a 0 0 _ w h.wk).mono ?_
  rintro en w1 ⟨rfl, h1, h2⟩
  rw [if_pos rfl, if_pos rfl] at h2
  exact ⟨rfl, h1, h.bt h1 h2⟩
theorem want_no (x : Nat) (h : St L A c wb sb xs a w) : Calls Tryz.prog 86 #[.pointer (some ⟨wb, 0, none⟩), .bool false, .int .i64 x] w fun en w' => en = .returned (.tuple #[]) ∧ Bt wb w w' ∧ StE L A c wb sb 23 x w' := by
  refine (want_any false x wb A L.length c a 0 0 _ w h.wk).mono ?_
  rintro en w1 ⟨rfl, h1, h2⟩
  rw [if_neg (by simp), if_pos rfl, if_neg (by simp), if_pos rfl] at h2
  exact ⟨rfl, h1, ⟨_, h2⟩, by decide⟩
theorem want_err {E : Int} {y : Nat} (b : Bool) (x : Int) (h : StE L A c wb sb E y w) : Calls Tryz.prog 86 #[.pointer (some ⟨wb, 0, none⟩), .bool b, .int .i64 x] w fun en w' => en = .returned (.tuple #[]) ∧ Bt wb w w' ∧ StE L A c wb sb E y w' := by
  obtain ⟨⟨a2, hw⟩, hE⟩ := h
  refine (want_any b x wb A L.length c a2 E y _ w hw).mono ?_
  rintro en w1 ⟨rfl, h1, h2⟩
  rw [if_neg hE, if_neg hE, ite_self, ite_self] at h2
  exact ⟨rfl, h1, ⟨_, h2⟩, hE⟩
end
theorem tyF_one (n : Tn) (k : Tf) (m : Bool) (env : List Ty) (a : Nat) : tyF (.cons n k .nil) m env a = (tyT n k env a).then fun t => .ok [t] := by
  rw [tyF_cons]
  cases tyT n k env a with
  | ok t => simp only [Rs.then_ok]; rw [tyF]; rfl
  | bad E x => rfl
theorem str_eq {t : Ty} {s : ByteArray} (ht : okT t) (hs : isB s = true) : ((str t).toList == s.toList) = true ↔ t = ty s := by
  obtain ⟨k1, k2, k3⟩ := ty_spec hs
  simp only [beq_iff_eq, Lib.toList_data]
  constructor
  · intro h
    rw [k2] at h
    refine code_inj ht.1 k1 ?_
    simpa [str, bs_list] using h
  · intro h
    rw [h, ← k2]

set_option maxRecDepth 100000 in
set_option maxHeartbeats 4000000 in
theorem one_30 (kids nn : Int) (s t u : ByteArray) (ln cl : Int) (L : List Tn) (A : Option Addr) (c wb sb : Nat) (xs : List Value) (k : Tf) (a : Nat) (env : List Ty) (Ae : Option Addr) (ce : Nat) (w : World)
    (hn : L[a]? = some ⟨30, kids, nn, s, t, u, ln, cl⟩) (hsm : Tn.small ⟨30, kids, nn, s, t, u, ln, cl⟩) (he1 : EnvAt w wb Ae env) (he2 : EnvAt w sb Ae env) (henv : ∀ t ∈ env, okT t) (henc : env.length ≤ ce) (henl : env.length ≤ 100000) (hs : St L A c wb sb xs a w) (hN : L.length ≤ 1000000) (hLc : L.length ≤ c) (hE0 : wordsE ⟨30, kids, nn, s, t, u, ln, cl⟩ env.length = 0) (rest : List Tn) (hdrop : L.drop a = ⟨30, kids, nn, s, t, u, ln, cl⟩ :: (k.list ++ rest)) (hwf : Tf.wf (.cons ⟨30, kids, nn, s, t, u, ln, cl⟩ k .nil)) (hkall : k.All (TyP L A c wb sb)) (hebd : env.length + 2 * (k.high + 1) ≤ 100000) :
    Calls Tryz.prog 61 #[.pointer (some ⟨wb, 0, none⟩), .slice Ae env.length ce] w fun e w' => TyR ((tyF k false env (a + 1)).then fun ts => ruleE ⟨30, kids, nn, s, t, u, ln, cl⟩ ts a) (prF k false env (a + 1)) (a + 1) xs L A c wb sb (a + 1 + k.sz) w e w' := by
  obtain ⟨hT, hU⟩ := castW hE0
  have hkl : k.len = 1 := by
    have h1 := (goodN_iff.1 hwf.1).2.2
    have h2 := hwf.2.1
    simp only [show arK 30 = 1 from rfl] at h1 h2
    omega
  obtain ⟨n1, k1, rfl⟩ : ∃ n1 k1, k = .cons n1 k1 .nil := by
    match k, hkl with
    | .cons n1 k1 .nil, _ => exact ⟨n1, k1, rfl⟩
    | .cons n1 k1 (.cons _ _ _), h => simp only [Tf.len] at h; omega
  have hd1 : L.drop (a + 1) = n1 :: (k1.list ++ rest) := by
    rw [← List.drop_drop, hdrop]
    simp [Tf.list]
  have hkid := fun W (h : St L A c wb sb xs (a + 1) W) e1 e2 => hkall.1 (a + 1) rest env Ae ce xs W hd1 hwf.2.2.1 henv henc (by simp only [Tf.high] at hebd; omega) e1 e2 h
  rw [tyF_one, prF_cons, show prF .nil false (if (false : Bool) then val (tyT n1 k1 env (a + 1)) :: env else env) (a + 1 + 1 + k1.sz) = [] from by rw [prF], List.append_nil, show a + 1 + (Tf.cons n1 k1 .nil).sz = a + 1 + 1 + k1.sz by simp only [Tf.sz]; omega]
  have hokt : ∀ t1, tyT n1 k1 env (a + 1) = .ok t1 → okT t1 := fun t1 h1 => tyT_ok henv h1
  obtain ⟨R1, hR1⟩ : ∃ R1, tyT n1 k1 env (a + 1) = R1 := ⟨_, rfl⟩
  obtain ⟨l1, hl1⟩ : ∃ l1, prT n1 k1 env (a + 1) = l1 := ⟨_, rfl⟩
  obtain ⟨a', ha'⟩ : ∃ a', a + 1 + 1 + k1.sz = a' := ⟨_, rfl⟩
  rw [hR1] at hkid hokt ⊢
  rw [hl1, ha'] at hkid ⊢
  have hres : ∀ t1, R1 = .ok t1 → ((R1.then fun t => Rs.ok [t]).then fun ts => ruleE ⟨30, kids, nn, s, t, u, ln, cl⟩ ts a) = want (t1 = ty t) a (.ok (ty u)) := fun t1 h => by
    subst h
    simp only [Rs.then_ok]
    unfold ruleE
    simp
  have hresb : ∀ E x, R1 = .bad E x → ((R1.then fun t => Rs.ok [t]).then fun ts => ruleE ⟨30, kids, nn, s, t, u, ln, cl⟩ ts a) = .bad E x := fun E x h => by subst h; rfl
  obtain ⟨R, hR⟩ : ∃ R, ((R1.then fun t => Rs.ok [t]).then fun ts => ruleE ⟨30, kids, nn, s, t, u, ln, cl⟩ ts a) = R := ⟨_, rfl⟩
  rw [hR] at hres hresb ⊢
  have HKID := Lib.hid hkid
  have HRES := Lib.hid (And.intro hres (And.intro hresb (And.intro hokt (And.intro hT hU))))
  have HE := Lib.hid hE0
  have hak : a + 1 ≤ a' := by omega
  clear hkid hres hresb hokt hE0 hT hU hkl hd1 hR1 hl1 ha' hR hdrop hwf hkall hebd
  obtain ⟨c0, c1, c2, c3, c4⟩ := hs.wk.cells
  have hcl : wb < w.heap.size := hs.wk.lt
  have hsl : sb < w.heap.size := hs.al.lt
  have hal : a < L.length := (List.getElem?_eq_some_iff.1 hn).1
  obtain ⟨b, o, rfl, hbc, hbl, q0, q1, q2, q3, q4, q5, q6, q7⟩ := hs.l1.node hn
  simp only at q0 q1 q2 q3 q4 q5 q6 q7
  have hah := fun W a1 h => ahead_any ⟨30, kids, nn, s, t, u, ln, cl⟩ a env.length W wb (some ⟨b, o, none⟩) L.length c a1 (allV sb L.length) hsm h
  unfold Tn.val at hah
  simp only at hah
  obtain ⟨N, hNe⟩ : ∃ N, L.length = N := ⟨_, rfl⟩
  have hwk := hs.wk
  rw [hNe] at c0 c4 hal hN hLc hwk hah
  obtain ⟨EL, hEL⟩ : ∃ x, env.length = x := ⟨_, rfl⟩
  rw [hEL] at hah henl henc HE HKID ⊢
  have hcr := hwk.frozen 1
  have hbk : Blk (w.alloc (.cells #[.int .i8 30, .int .i64 kids, .int .i64 nn, .string s, .string t, .string u, .int .i64 ln, .int .i64 cl] 60)) w.heap.size 60 #[.int .i8 30, .int .i64 kids, .int .i64 nn, .string s, .string t, .string u, .int .i64 ln, .int .i64 cl] := Blk.new _ _ _
  have hck : Wk (w.alloc (.cells #[.int .i8 30, .int .i64 kids, .int .i64 nn, .string s, .string t, .string u, .int .i64 ln, .int .i64 cl] 60)) wb (some ⟨b, o, none⟩) N c a 0 0 (allV sb N) := Blk.alloc hwk _
  have HS := Lib.hid (And.intro hs (And.intro he1 (And.intro he2 (And.intro hNe hEL))))
  have HW0 := Lib.hid (And.intro hck hbk)
  have HAH := Lib.hid hah
  have HENV := Lib.hid henv
  clear hs he1 he2 hNe hEL hck hbk hah hwk hcr henv
  go_enter Tryz.func61, Tryz.ntmps61
  go_upto_region 3 with fail
  obtain ⟨hck, hbk⟩ := HW0.out
  obtain ⟨W1, hW1⟩ : ∃ W1, w.alloc (.cells #[.int .i8 30, .int .i64 kids, .int .i64 nn, .string s, .string t, .string u, .int .i64 ln, .int .i64 cl] 60) = W1 := ⟨_, rfl⟩
  have hbt0 : Bt wb w W1 := by rw [← hW1]; exact Bt.alloc (But.refl _ _) _
  rw [hW1] at hck hbk ⊢
  obtain ⟨p0, p1, p2, p3, p4⟩ := hck.cells
  have pf := hck.frozen 1
  have HW1 := Lib.hid (And.intro hck (And.intro hbk hbt0))
  clear hW1 hck hbk hbt0 HW0 c0 c1 c2 c3 c4 q0 q1 q2 q3 q4 q5 q6 q7
  go_upto_region 4 with fail
  obtain ⟨hck, hbk, hbt0⟩ := HW1.out
  obtain ⟨W2, hW2⟩ : ∃ W2, W1.setCell ⟨wb, 1, none⟩ (.int .i64 ((a : Int) + 1)) = W2 := ⟨_, rfl⟩
  have hc1 : Wk W2 wb (some ⟨b, o, none⟩) N c ((a : Int) + 1) 0 0 (allV sb N) := by rw [← hW2]; exact hck.at_ _
  have hbk1 : Blk W2 w.heap.size 60 #[.int .i8 30, .int .i64 kids, .int .i64 nn, .string s, .string t, .string u, .int .i64 ln, .int .i64 cl] := by rw [← hW2]; exact hbk.far (p := ⟨wb, 1, none⟩) (show w.heap.size ≠ wb by omega) _
  have hbt1 : Bt wb w W2 := by rw [← hW2]; exact hbt0.set_ 1 _
  have HCA := Lib.hid (HAH.out W2 _ hc1)
  have HW := Lib.hid (And.intro hbk1 hbt1)
  rw [hW2]
  clear hck hbk hbt0 hc1 hbt1 HW1 HAH p0 p1 p2 p3 p4 pf hW2
  obtain ⟨n0, n1, n2, n3, n4, n5, n6, n7⟩ := blk_cells8 hbk1
  clear hbk1
  go_wp2_with fail
  (refine HCA.out.mono ?_); rintro e W3 ⟨rfl, hb3, hk3⟩
  rw [HE.out, if_pos rfl] at hk3
  obtain ⟨hs, he1, he2, hNe, hEL⟩ := HS.out
  have hbw : Bw wb sb w W3 := Bw.bt (HW.out.2.trans hb3)
  have hbk3 : Blk W3 w.heap.size 60 #[.int .i8 30, .int .i64 kids, .int .i64 nn, .string s, .string t, .string u, .int .i64 ln, .int .i64 cl] := hb3.blk HW.out.1 (show w.heap.size ≠ wb by omega)
  have hl3 := LT.bw hs.l1 hs.l2 hbw
  have hen3 := EnvAt.bw he1 he2 hbw
  have hal3 : AllA W3 sb xs := (HW.out.2.trans hb3).blk hs.al (fun e => hs.ne e.symm)
  have hs3 : St L (some ⟨b, o, none⟩) c wb sb xs (a + 1) W3 := ⟨by rw [hNe]; exact hk3, hal3, hs.len, hs.ne, hl3.1, hl3.2⟩
  have p2 := hk3.cells.2.2.1
  clear n0 n1 n2 n3 n4 n5 n6 n7
  obtain ⟨n0, n1, n2, n3, n4, n5, n6, n7⟩ := blk_cells8 hbk3
  have HF := Lib.hid (And.intro hbw (And.intro hs3 (And.intro hen3 (And.intro hNe (And.intro hEL hbk3)))))
  clear hs he1 he2 hNe hEL hbw hl3 hen3 hal3 hs3 hbk3 hk3 hb3 HS HW HCA
  have HKC := Lib.hid (kid_ok _ W3 HF.out.2.1 (HKID.out W3 HF.out.2.1 HF.out.2.2.1.1 HF.out.2.2.1.2) (fun e w' h => by
    obtain ⟨_, h2⟩ := h
    cases R1 with
    | ok t1 => exact ⟨_, h2.1⟩
    | bad E x => exact h2.1))
  go_wp2_with fail
  (refine HKC.out.mono ?_); rintro e w5 ⟨hb5, h5⟩
  have hbk5 := hb5.blk HF.out.2.2.2.2.2 (show w.heap.size ≠ wb by omega) (show w.heap.size ≠ sb by omega)
  clear n0 n1 n2 n3 n4 n5 n6 n7
  obtain ⟨n0, n1, n2, n3, n4, n5, n6, n7⟩ := blk_cells8 hbk5
  cases R1 with
  | bad E x =>
    obtain ⟨⟨s1, rfl⟩, hE5⟩ := h5
    have HWT := Lib.hid (fun b => want_err b (a : Nat) hE5)
    have HB := Lib.hid (And.intro (HF.out.1.trans hb5) hbk5)
    clear hb5 hbk5 hE5 HKC HKID
    go_wp2_with fail
    (refine (HWT.out _).mono ?_); rintro e w6 ⟨rfl, h1, h2⟩
    have hbk6 := h1.blk HB.out.2 (show w.heap.size ≠ wb by omega)
    have n5' := (blk_cells8 hbk6).2.2.2.2.2.1
    have H := Lib.hid (And.intro h1 h2)
    clear h1 h2 hbk6 n0 n1 n2 n3 n4 n5 n6 n7
    go_wp2_with fail
    go_ret
    have hr := HRES.out.2.1 E x rfl
    subst hr
    exact ⟨HB.out.1.trans (Bw.bt H.out.1), ⟨_, rfl⟩, H.out.2⟩
  | ok t1 =>
    obtain ⟨rfl, hs5⟩ := h5
    obtain ⟨hres, _, hokt, hT, hU⟩ := HRES.out
    have hrr := hres t1 rfl
    have hot := hokt t1 rfl
    by_cases ht1 : t1 = ty t
    · have hse : ((str t1).toList == t.toList) = true := (str_eq hot hT).2 ht1
      have hR : R = .ok (ty u) := by rw [hrr]; unfold want; rw [if_pos ht1]
      subst hR
      have HWT := Lib.hid (want_yes (a : Nat) hs5)
      have HB := Lib.hid (And.intro (HF.out.1.trans hb5) (And.intro hbk5 hU))
      clear hb5 hbk5 hs5 HKC HKID hrr hot ht1 hres hokt hT hU HRES
      go_wp2_with fail
      (refine HWT.out.mono ?_); rintro e w6 ⟨rfl, h1, h2⟩
      have hbk6 := h1.blk HB.out.2.1 (show w.heap.size ≠ wb by omega)
      have n5' := (blk_cells8 hbk6).2.2.2.2.2.1
      have H := Lib.hid (And.intro h1 h2)
      clear h1 h2 hbk6 n0 n1 n2 n3 n4 n5 n6 n7
      go_wp2_with fail
      go_ret
      exact ⟨HB.out.1.trans (Bw.bt H.out.1), retV (show Value.string u = .string (str (ty u)) from congrArg Value.string (ty_spec HB.out.2.2).2.1), H.out.2⟩
    · have hse : ((str t1).toList == t.toList) = false := by
        rw [Bool.eq_false_iff]; exact fun h => ht1 ((str_eq hot hT).1 h)
      have hR : R = .bad 23 a := by rw [hrr]; unfold want; rw [if_neg ht1]
      subst hR
      have HWT := Lib.hid (want_no (a : Nat) hs5)
      have HB := Lib.hid (And.intro (HF.out.1.trans hb5) hbk5)
      clear hb5 hbk5 hs5 HKC HKID hrr hot ht1 hres hokt hT hU HRES
      go_wp2_with fail
      (refine HWT.out.mono ?_); rintro e w6 ⟨rfl, h1, h2⟩
      have hbk6 := h1.blk HB.out.2 (show w.heap.size ≠ wb by omega)
      have n5' := (blk_cells8 hbk6).2.2.2.2.2.1
      have H := Lib.hid (And.intro h1 h2)
      clear h1 h2 hbk6 n0 n1 n2 n3 n4 n5 n6 n7
      go_wp2_with fail
      go_ret
      exact ⟨HB.out.1.trans (Bw.bt H.out.1), ⟨_, rfl⟩, H.out.2⟩
end Go.Proofs.YtmagljnlfponaaaGreat.R

/- RtI -/
namespace Go.Proofs.YtmagljnlfponaaaGreat.R
open Go.RowKit Go.Proofs.YtmagljnlfponaaaGreat.B Go.Proofs.YtmagljnlfponaaaGreat.T Go.Proofs.YtmagljnlfponaaaGreat.K
set_option linter.unusedVariables false
set_option linter.unusedSimpArgs false

theorem env_own2 {w : World} {cb cs base n : Nat} {v : Value} {ts : List Ty} (h : w.ownsRow base 9 1 v n (ts.map strV)) (hn : ts.length = n) (h1 : cb < base) (h2 : cs < base) : ∃ A c, v = .slice A n c ∧ n ≤ c ∧ EnvAt w cb A ts ∧ EnvAt w cs A ts := by
  obtain ⟨A, c, rfl, e1, e2⟩ := env_own h hn h1
  obtain ⟨A2, c2, e3, e4, e5⟩ := env_own h hn h2
  injection e3 with e6 e7 e8
  subst e6
  exact ⟨A, c, rfl, e1, e2, e5⟩
theorem St.below {L : List Tn} {A : Option Addr} {c wb sb : Nat} {xs : List Value} {a : Nat} {w w' : World} (h : St L A c wb sb xs a w) (hb : Below w.heap.size w w') : St L A c wb sb xs a w' :=
  h.bt (Bt.below hb) (h.wk.below hb h.wk.lt)
/-- The binders with more of them ahead, made anew: l of the types us. -/
theorem under_at {wb sb : Nat} {Ae : Option Addr} {ce : Nat} {env us : List Ty} {Al : Option Addr} {w : World} (he : EnvAt w wb Ae env) (hl : Sl w w.heap.size 1 Al us.length (us.map strV)) (hw : wb < w.heap.size) (hs : sb < w.heap.size) (hn : us.length + env.length ≤ 1000000) :
    Calls Tryz.prog 87 #[.slice Ae env.length ce, .slice Al us.length us.length] w fun e w' => ∃ A2 c2, e = .returned (.slice A2 (us ++ env).length c2) ∧ (us ++ env).length ≤ c2 ∧ EnvAt w' wb A2 (us ++ env) ∧ EnvAt w' sb A2 (us ++ env) ∧ Below w.heap.size w w' := by
  refine (under_any Ae env.length ce _ Al us.length us.length _ w (EnvAt.sl he) hl (one_strs _) (one_strs _) hn).mono ?_
  rintro e w' ⟨V, rfl, ho, hb⟩
  rw [← List.map_append] at ho
  obtain ⟨A2, c2, rfl, h1, h2, h3⟩ := env_own2 ho (by simp) hw hs
  exact ⟨A2, c2, by simp, by simpa using h1, h2, h3, hb⟩

set_option maxRecDepth 100000 in
set_option maxHeartbeats 4000000 in
theorem one_8 (kids nn : Int) (s t u : ByteArray) (ln cl : Int) (L : List Tn) (A : Option Addr) (c wb sb : Nat) (xs : List Value) (k : Tf) (a : Nat) (env : List Ty) (Ae : Option Addr) (ce : Nat) (w : World)
    (hn : L[a]? = some ⟨8, kids, nn, s, t, u, ln, cl⟩) (hsm : Tn.small ⟨8, kids, nn, s, t, u, ln, cl⟩) (he1 : EnvAt w wb Ae env) (he2 : EnvAt w sb Ae env) (henv : ∀ t ∈ env, okT t) (henc : env.length ≤ ce) (henl : env.length ≤ 100000) (hs : St L A c wb sb xs a w) (hN : L.length ≤ 1000000) (hLc : L.length ≤ c) (hE0 : wordsE ⟨8, kids, nn, s, t, u, ln, cl⟩ env.length = 0) (rest : List Tn) (hdrop : L.drop a = ⟨8, kids, nn, s, t, u, ln, cl⟩ :: (k.list ++ rest)) (hwf : Tf.wf (.cons ⟨8, kids, nn, s, t, u, ln, cl⟩ k .nil)) (hkall : k.All (TyP L A c wb sb)) (hebd : env.length + 2 * (k.high + 1) ≤ 100000) :
    Calls Tryz.prog 61 #[.pointer (some ⟨wb, 0, none⟩), .slice Ae env.length ce] w fun e w' => TyR ((tyF k true env (a + 1)).then fun ts => .ok (ts.getD 1 tI)) (prF k true env (a + 1)) (a + 1) xs L A c wb sb (a + 1 + k.sz) w e w' := by
  have hkl : k.len = 2 := by
    have h1 := (goodN_iff.1 hwf.1).2.2
    have h2 := hwf.2.1
    simp only [show arK 8 = 2 from rfl] at h1 h2
    omega
  obtain ⟨n1, k1, n2, k2, rfl⟩ : ∃ n1 k1 n2 k2, k = .cons n1 k1 (.cons n2 k2 .nil) := by
    match k, hkl with
    | .cons n1 k1 (.cons n2 k2 .nil), _ => exact ⟨n1, k1, n2, k2, rfl⟩
    | .cons n1 k1 .nil, h => simp only [Tf.len] at h; omega
    | .cons n1 k1 (.cons _ _ (.cons _ _ _)), h => simp only [Tf.len] at h; omega
  have hd1 : L.drop (a + 1) = n1 :: (k1.list ++ (n2 :: (k2.list ++ rest))) := by
    rw [← List.drop_drop, hdrop]
    simp [Tf.list]
  have hd2 : L.drop (a + 1 + 1 + k1.sz) = n2 :: (k2.list ++ rest) := by
    rw [show a + 1 + 1 + k1.sz = (a + 1) + (1 + k1.sz) by omega, ← List.drop_drop, hd1, show n1 :: (k1.list ++ (n2 :: (k2.list ++ rest))) = (n1 :: k1.list) ++ (n2 :: (k2.list ++ rest)) by simp, List.drop_append_of_le_length (by simp [Tf.list_len]; omega), List.drop_of_length_le (by simp [Tf.list_len]; omega)]
    rfl
  have hle : a + 1 + (1 + k1.sz) ≤ L.length := by
    have := congrArg List.length hd1
    simp only [List.length_drop, List.length_cons, List.length_append, Tf.list_len] at this
    omega
  have hw1 : Tf.wf (.cons n1 k1 .nil) := ⟨hwf.2.2.1.1, hwf.2.2.1.2.1, hwf.2.2.1.2.2.1, trivial⟩
  have hkid := fun W (h : St L A c wb sb xs (a + 1) W) e1 e2 => hkall.1 (a + 1) _ env Ae ce xs W hd1 hw1 henv henc (by simp only [Tf.high] at hebd; omega) e1 e2 h
  have hkid2 := fun t1 (ht1 : okT t1) A2 c2 xs2 W (hc2 : (t1 :: env).length ≤ c2) (h : St L A c wb sb xs2 (a + 1 + 1 + k1.sz) W) e1 e2 => hkall.2.1 (a + 1 + 1 + k1.sz) rest (t1 :: env) A2 c2 xs2 W hd2 hwf.2.2.1.2.2.2 (fun t ht => (List.mem_cons.1 ht).elim (fun h => by rw [h]; exact ht1) (henv t)) hc2 (by simp only [Tf.high] at hebd; simp only [List.length_cons]; omega) e1 e2 h
  have hokt : ∀ t1, tyT n1 k1 env (a + 1) = .ok t1 → okT t1 := fun t1 h1 => tyT_ok henv h1
  have hl1 := prT_len n1 k1 env (a + 1)
  rw [tyF_cons, prF_cons, if_pos rfl, prF_cons, show ∀ x y, prF .nil false x y = [] from fun x y => by rw [prF], List.append_nil, show a + 1 + (Tf.cons n1 k1 (.cons n2 k2 .nil)).sz = a + 1 + 1 + k1.sz + 1 + k2.sz by simp only [Tf.sz]; omega]
  obtain ⟨R1, hR1⟩ : ∃ R1, tyT n1 k1 env (a + 1) = R1 := ⟨_, rfl⟩
  obtain ⟨l1, hl1e⟩ : ∃ l1, prT n1 k1 env (a + 1) = l1 := ⟨_, rfl⟩
  rw [hR1] at hkid hokt ⊢
  rw [hl1e] at hkid hl1 ⊢
  obtain ⟨a1, ha1⟩ : ∃ a1, a + 1 + 1 + k1.sz = a1 := ⟨_, rfl⟩
  rw [ha1] at hkid hkid2 ⊢
  have haL : a1 = a + 1 + l1.length := by omega
  obtain ⟨R, hR⟩ : ∃ R, ((R1.then fun t => (tyF (.cons n2 k2 .nil) false (t :: env) a1).then fun ts => Rs.ok (t :: ts)).then fun ts => Rs.ok (ts.getD 1 tI)) = R := ⟨_, rfl⟩
  have hres : ∀ t1, R1 = .ok t1 → R = tyT n2 k2 (t1 :: env) a1 := fun t1 h => by
    rw [← hR, h, Rs.then_ok, tyF_one]
    cases tyT n2 k2 (t1 :: env) a1 <;> rfl
  have hresb : ∀ E x, R1 = .bad E x → R = .bad E x := fun E x h => by rw [← hR, h]; rfl
  simp only [if_true] at hR ⊢
  rw [hR]
  obtain ⟨LL, hLL⟩ : ∃ LL, l1 ++ prT n2 k2 (val R1 :: env) a1 = LL := ⟨_, rfl⟩
  rw [hLL]
  have hll : ∀ t1, R1 = .ok t1 → LL = l1 ++ prT n2 k2 (t1 :: env) a1 := fun t1 h => by rw [← hLL, h]; rfl
  have hxl := hs.len
  have HE := Lib.hid hE0
  have HKID := Lib.hid hkid
  have HKID2 := Lib.hid hkid2
  have HRES := Lib.hid (And.intro hres (And.intro hresb (And.intro hll (And.intro hokt (And.intro haL (And.intro hl1 (And.intro hxl hle)))))))
  clear hE0 hkid hkid2 hres hresb hll hokt haL hl1 hxl hle hkl hd1 hd2 hR1 hl1e ha1 hR hLL hdrop hwf hkall hebd hw1
  obtain ⟨c0, c1, c2, c3, c4⟩ := hs.wk.cells
  have hcl : wb < w.heap.size := hs.wk.lt
  have hsl : sb < w.heap.size := hs.al.lt
  have hal : a < L.length := (List.getElem?_eq_some_iff.1 hn).1
  obtain ⟨b, o, rfl, hbc, hbl, q0, q1, q2, q3, q4, q5, q6, q7⟩ := hs.l1.node hn
  simp only at q0 q1 q2 q3 q4 q5 q6 q7
  have hah := fun W a1 h => ahead_any ⟨8, kids, nn, s, t, u, ln, cl⟩ a env.length W wb (some ⟨b, o, none⟩) L.length c a1 (allV sb L.length) hsm h
  unfold Tn.val at hah
  simp only at hah
  obtain ⟨N, hNe⟩ : ∃ N, L.length = N := ⟨_, rfl⟩
  have hwk := hs.wk
  rw [hNe] at c0 c4 hal hN hLc hwk hah
  obtain ⟨EL, hEL⟩ : ∃ x, env.length = x := ⟨_, rfl⟩
  rw [hEL] at hah henl henc HE HKID ⊢
  have hcr := hwk.frozen 1
  have hbk : Blk (w.alloc (.cells #[.int .i8 8, .int .i64 kids, .int .i64 nn, .string s, .string t, .string u, .int .i64 ln, .int .i64 cl] 60)) w.heap.size 60 #[.int .i8 8, .int .i64 kids, .int .i64 nn, .string s, .string t, .string u, .int .i64 ln, .int .i64 cl] := Blk.new _ _ _
  have hck : Wk (w.alloc (.cells #[.int .i8 8, .int .i64 kids, .int .i64 nn, .string s, .string t, .string u, .int .i64 ln, .int .i64 cl] 60)) wb (some ⟨b, o, none⟩) N c a 0 0 (allV sb N) := Blk.alloc hwk _
  have HS := Lib.hid (And.intro hs (And.intro he1 (And.intro he2 (And.intro hNe hEL))))
  have HW0 := Lib.hid (And.intro hck hbk)
  have HAH := Lib.hid hah
  have HENV := Lib.hid henv
  clear hs he1 he2 hNe hEL hck hbk hah hwk hcr henv
  go_enter Tryz.func61, Tryz.ntmps61
  go_upto_region 3 with fail
  obtain ⟨hck, hbk⟩ := HW0.out
  obtain ⟨W1, hW1⟩ : ∃ W1, w.alloc (.cells #[.int .i8 8, .int .i64 kids, .int .i64 nn, .string s, .string t, .string u, .int .i64 ln, .int .i64 cl] 60) = W1 := ⟨_, rfl⟩
  have hbt0 : Bt wb w W1 := by rw [← hW1]; exact Bt.alloc (But.refl _ _) _
  rw [hW1] at hck hbk ⊢
  obtain ⟨p0, p1, p2, p3, p4⟩ := hck.cells
  have pf := hck.frozen 1
  have HW1 := Lib.hid (And.intro hck (And.intro hbk hbt0))
  clear hW1 hck hbk hbt0 HW0 c0 c1 c2 c3 c4 q0 q1 q2 q3 q4 q5 q6 q7
  go_upto_region 4 with fail
  obtain ⟨hck, hbk, hbt0⟩ := HW1.out
  obtain ⟨W2, hW2⟩ : ∃ W2, W1.setCell ⟨wb, 1, none⟩ (.int .i64 ((a : Int) + 1)) = W2 := ⟨_, rfl⟩
  have hc1 : Wk W2 wb (some ⟨b, o, none⟩) N c ((a : Int) + 1) 0 0 (allV sb N) := by rw [← hW2]; exact hck.at_ _
  have hbk1 : Blk W2 w.heap.size 60 #[.int .i8 8, .int .i64 kids, .int .i64 nn, .string s, .string t, .string u, .int .i64 ln, .int .i64 cl] := by rw [← hW2]; exact hbk.far (p := ⟨wb, 1, none⟩) (show w.heap.size ≠ wb by omega) _
  have hbt1 : Bt wb w W2 := by rw [← hW2]; exact hbt0.set_ 1 _
  have HCA := Lib.hid (HAH.out W2 _ hc1)
  have HW := Lib.hid (And.intro hbk1 hbt1)
  rw [hW2]
  clear hck hbk hbt0 hc1 hbt1 HW1 HAH p0 p1 p2 p3 p4 pf hW2
  obtain ⟨n0, n1, n2, n3, n4, n5, n6, n7⟩ := blk_cells8 hbk1
  clear hbk1
  go_wp2_with fail
  (refine HCA.out.mono ?_); rintro e W3 ⟨rfl, hb3, hk3⟩
  rw [HE.out, if_pos rfl] at hk3
  obtain ⟨hs, he1, he2, hNe, hEL⟩ := HS.out
  have hbw : Bw wb sb w W3 := Bw.bt (HW.out.2.trans hb3)
  have hbk3 : Blk W3 w.heap.size 60 #[.int .i8 8, .int .i64 kids, .int .i64 nn, .string s, .string t, .string u, .int .i64 ln, .int .i64 cl] := hb3.blk HW.out.1 (show w.heap.size ≠ wb by omega)
  have hl3 := LT.bw hs.l1 hs.l2 hbw
  have hen3 := EnvAt.bw he1 he2 hbw
  have hal3 : AllA W3 sb xs := (HW.out.2.trans hb3).blk hs.al (fun e => hs.ne e.symm)
  have hs3 : St L (some ⟨b, o, none⟩) c wb sb xs (a + 1) W3 := ⟨by rw [hNe]; exact hk3, hal3, hs.len, hs.ne, hl3.1, hl3.2⟩
  have p2 := hk3.cells.2.2.1
  clear n0 n1 n2 n3 n4 n5 n6 n7
  obtain ⟨n0, n1, n2, n3, n4, n5, n6, n7⟩ := blk_cells8 hbk3
  have HF := Lib.hid (And.intro hbw (And.intro hs3 (And.intro hen3 (And.intro hNe (And.intro hEL hbk3)))))
  clear hs he1 he2 hNe hEL hbw hl3 hen3 hal3 hs3 hbk3 hk3 hb3 HS HW HCA
  have HKC := Lib.hid (kid_ok _ W3 HF.out.2.1 (HKID.out W3 HF.out.2.1 HF.out.2.2.1.1 HF.out.2.2.1.2) (fun e w' h => by
    obtain ⟨_, h2⟩ := h
    cases R1 with
    | ok t1 => exact ⟨_, h2.1⟩
    | bad E x => exact h2.1))
  go_wp2_with fail
  (refine HKC.out.mono ?_); rintro e w5 ⟨hb5, h5⟩
  clear n0 n1 n2 n3 n4 n5 n6 n7
  cases R1 with
  | bad E x =>
    obtain ⟨⟨s1, rfl⟩, hE5⟩ := h5
    obtain ⟨a2, hw5⟩ := hE5.wk
    have p2 := hw5.cells.2.2.1
    have e1 : (E != 0) = true := by simpa using hE5.nz
    have HB := Lib.hid (And.intro (HF.out.1.trans hb5) hE5)
    clear hb5 hE5 hw5 HKC HKID HKID2
    go_wp2_with fail
    go_ret
    have hr := HRES.out.2.1 E x rfl
    subst hr
    exact ⟨HB.out.1, ⟨_, rfl⟩, HB.out.2⟩
  | ok t1 =>
    obtain ⟨rfl, hs5⟩ := h5
    have p2 := hs5.wk.cells.2.2.1
    have he5 := EnvAt.bw HF.out.2.2.1.1 HF.out.2.2.1.2 hb5
    have hw5 := hs5.wk.lt
    have hsl5 := hs5.al.lt
    have HB := Lib.hid (And.intro (HF.out.1.trans hb5) (And.intro hs5 (And.intro he5 (And.intro hw5 hsl5))))
    have hot := HRES.out.2.2.2.1 t1 rfl
    have hu := under_at (us := [t1]) (ce := ce) (EnvAt.bt he5.1 (Bt.alloc (But.refl _ _) (.cells #[.string (str t1)] 9))) ((Sl.one w5 (strV t1) 9).more (by simp)) (Nat.lt_of_lt_of_le hw5 (by simp)) (Nat.lt_of_lt_of_le hsl5 (by simp)) (by rw [HF.out.2.2.2.2.1]; simp only [List.length_cons, List.length_nil]; omega)
    rw [HF.out.2.2.2.2.1] at hu
    have HU := Lib.hid hu
    clear hb5 hs5 he5 hw5 hsl5 HKC HKID hu
    go_wp2_with fail
    (refine HU.out.mono ?_); rintro e w7 ⟨A2, c2, rfl, hc2, he7, he7', hb7⟩
    have hs7 := (HB.out.2.1.below (bal b0 (.cells #[.string (str t1)] 9))).below hb7
    have hb57 : Bw wb sb w w7 := HB.out.1.trans (Bw.below (bl (bal b0 (.cells #[.string (str t1)] 9)) hb7))
    have hk7 := HKID2.out t1 hot A2 c2 _ w7 hc2 hs7 he7 he7'
    obtain ⟨R2, hR2⟩ : ∃ R2, tyT n2 k2 (t1 :: env) a1 = R2 := ⟨_, rfl⟩
    obtain ⟨l2, hl2⟩ : ∃ l2, prT n2 k2 (t1 :: env) a1 = l2 := ⟨_, rfl⟩
    have hr := HRES.out.1 t1 rfl
    have hl := HRES.out.2.2.1 t1 rfl
    rw [hR2] at hk7 hr
    rw [hl2] at hk7 hl
    subst hr hl
    have HK7 := Lib.hid (kid_ok _ w7 hs7 hk7 (fun e w' h => by
      obtain ⟨_, h2⟩ := h
      cases R with
      | ok t1 => exact ⟨_, h2.1⟩
      | bad E x => exact h2.1))
    have HB7 := Lib.hid hb57
    obtain ⟨q, hq⟩ : ∃ q, ([t1] ++ env).length = q := ⟨_, rfl⟩
    rw [show (t1 :: env).length = q from hq] at HK7
    rw [hq]
    clear hq hc2 he7 he7' hb7 hs7 hb57 hk7 hR2 hl2 HKID2 HU
    go_wp2_with fail
    (refine HK7.out.mono ?_); rintro e w8 ⟨hb8, h8⟩
    obtain ⟨_, _, _, _, haL, hl1, hxl, hle⟩ := HRES.out
    cases R with
    | bad E x =>
      obtain ⟨⟨s8, rfl⟩, hE8⟩ := h8
      have H := Lib.hid (And.intro (HB7.out.trans hb8) hE8)
      clear hb8 hE8 haL hl1 hxl hle
      go_wp2_with fail
      go_ret
      exact ⟨H.out.1, ⟨_, rfl⟩, H.out.2⟩
    | ok t2 =>
      obtain ⟨rfl, hs8⟩ := h8
      have hp : put (put xs (a + 1) (l1.map strV)) a1 (l2.map strV) = put xs (a + 1) ((l1 ++ l2).map strV) := by
        have := put_put xs (a + 1) (l1.map strV) (l2.map strV) (by rw [List.length_map]; omega)
        rw [List.length_map, ← haL] at this
        rw [this, List.map_append]
      rw [hp] at hs8
      have H := Lib.hid (And.intro (HB7.out.trans hb8) hs8)
      clear hb8 hs8 haL hl1 hxl hle hp
      go_wp2_with fail
      go_ret
      exact ⟨H.out.1, rfl, H.out.2⟩
end Go.Proofs.YtmagljnlfponaaaGreat.R

/- RtJ -/
namespace Go.Proofs.YtmagljnlfponaaaGreat.R
open Go.RowKit Go.Proofs.YtmagljnlfponaaaGreat.B Go.Proofs.YtmagljnlfponaaaGreat.T Go.Proofs.YtmagljnlfponaaaGreat.K
set_option linter.unusedVariables false
set_option linter.unusedSimpArgs false

section
variable {L : List Tn} {A : Option Addr} {c wb sb : Nat} {xs : List Value} {a : Nat} {w w' : World}
theorem madeS_yes (s : ByteArray) (x : Int) (h : St L A c wb sb xs a w) (h64 : s.size ≤ 64) : Calls Tryz.prog 99 #[.pointer (some ⟨wb, 0, none⟩), .string s, .int .i64 x] w fun en w' => en = .returned (.string s) ∧ Bt wb w w' ∧ St L A c wb sb xs a w' := by
  refine (madeR_any s x wb A L.length c a 0 0 _ w h.wk).mono ?_
  rintro en w1 ⟨rfl, h1, h2⟩
  rw [if_pos h64, if_pos h64] at h2
  exact ⟨rfl, h1, h.bt h1 h2⟩
theorem madeS_no (s : ByteArray) (x : Nat) (h : St L A c wb sb xs a w) (h64 : ¬ s.size ≤ 64) : Calls Tryz.prog 99 #[.pointer (some ⟨wb, 0, none⟩), .string s, .int .i64 x] w fun en w' => en = .returned (.string s) ∧ Bt wb w w' ∧ StE L A c wb sb 21 x w' := by
  refine (madeR_any s x wb A L.length c a 0 0 _ w h.wk).mono ?_
  rintro en w1 ⟨rfl, h1, h2⟩
  rw [if_neg h64, if_pos rfl, if_neg h64, if_pos rfl] at h2
  exact ⟨rfl, h1, ⟨_, h2⟩, by decide⟩
end
theorem fn_str {t u : ByteArray} (ht : isB t = true) (hu : isB u = true) : ((⟨#[62]⟩ : ByteArray) ++ t) ++ u = str (.bin 62 (ty t) (ty u)) ∧ t.size ≤ 64 ∧ u.size ≤ 64 := by
  have htt := ty_spec ht
  have huu := ty_spec hu
  have h := str_bin 62 (ty t) (ty u)
  rw [← htt.2.1, ← huu.2.1] at h
  exact ⟨h, by rw [htt.2.1, str_size]; exact htt.2.2, by rw [huu.2.1, str_size]; exact huu.2.2⟩
end Go.Proofs.YtmagljnlfponaaaGreat.R
