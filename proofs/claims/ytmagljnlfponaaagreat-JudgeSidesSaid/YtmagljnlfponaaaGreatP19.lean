/- Parts of this claim: RtQ, RtR. -/
import Derived.Test.YtmagljnlfponaaaGreatP18
import Derived.Test.YtmagljnlfponaaaGreatP05
import Derived.Test.YtmagljnlfponaaaGreatP15
set_option linter.unusedVariables false
set_option linter.unusedSimpArgs false
/- RtQ -/
namespace Go.Proofs.YtmagljnlfponaaaGreat.R
open Go.RowKit Go.Proofs.YtmagljnlfponaaaGreat.B Go.Proofs.YtmagljnlfponaaaGreat.T Go.Proofs.YtmagljnlfponaaaGreat.K
set_option linter.unusedVariables false
set_option linter.unusedSimpArgs false

section
variable {L : List Tn} {A : Option Addr} {c wb sb : Nat} {xs : List Value} {a1 : Nat} {w w' : World}
theorem made_err {E : Int} {y : Nat} (s : ByteArray) (x : Int) (h : StE L A c wb sb E y w) : Calls Tryz.prog 99 #[.pointer (some ⟨wb, 0, none⟩), .string s, .int .i64 x] w fun en w' => en = .returned (.string s) ∧ Bt wb w w' ∧ StE L A c wb sb E y w' := by
  obtain ⟨⟨a2, hw⟩, hE⟩ := h
  refine (madeR_any s x wb A L.length c a2 E y _ w hw).mono ?_
  rintro en w1 ⟨rfl, h1, h2⟩
  rw [if_neg hE, if_neg hE, ite_self, ite_self] at h2
  exact ⟨rfl, h1, ⟨_, h2⟩, hE⟩
/-- Behind the first m of a list's kids. -/
def LsW (L : List Tn) (A : Option Addr) (c wb sb : Nat) (xs : List Value) (a1 : Nat) (x : Nat) (p : Prop) (w : World) : Prop := (p ∧ St L A c wb sb xs a1 w) ∨ (¬ p ∧ StE L A c wb sb 23 x w)
theorem LsW.below {x : Nat} {p : Prop} (h : LsW L A c wb sb xs a1 x p w) (hb : Below w.heap.size w w') : LsW L A c wb sb xs a1 x p w' := by
  rcases h with ⟨h0, h⟩ | ⟨h0, h⟩
  · exact .inl ⟨h0, h.below hb⟩
  · obtain ⟨⟨a2, hw⟩, hE⟩ := h
    exact .inr ⟨h0, ⟨a2, hw.below hb hw.lt⟩, hE⟩
theorem want_ls {x : Nat} {p : Prop} (b : Bool) (h : LsW L A c wb sb xs a1 x p w) : Calls Tryz.prog 86 #[.pointer (some ⟨wb, 0, none⟩), .bool b, .int .i64 x] w fun en w' => en = .returned (.tuple #[]) ∧ Bt wb w w' ∧ LsW L A c wb sb xs a1 x (p ∧ b = true) w' := by
  rcases h with ⟨h0, h⟩ | ⟨h0, h⟩
  · cases b
    · refine (want_no x h).mono ?_
      rintro en w1 ⟨rfl, h1, h2⟩
      exact ⟨rfl, h1, .inr ⟨by simp, h2⟩⟩
    · refine (want_yes x h).mono ?_
      rintro en w1 ⟨rfl, h1, h2⟩
      exact ⟨rfl, h1, .inl ⟨⟨h0, rfl⟩, h2⟩⟩
  · refine (want_err b x h).mono ?_
    rintro en w1 ⟨rfl, h1, h2⟩
    exact ⟨rfl, h1, .inr ⟨fun q => h0 q.1, h2⟩⟩
theorem want_ls2 {x : Nat} {p : Prop} (b : Bool) (h : LsW L A c wb sb xs a1 x p w ∨ LsW L A c wb sb xs a1 x (p ∧ b = true) w) : Calls Tryz.prog 86 #[.pointer (some ⟨wb, 0, none⟩), .bool b, .int .i64 x] w fun en w' => en = .returned (.tuple #[]) ∧ Bt wb w w' ∧ LsW L A c wb sb xs a1 x (p ∧ b = true) w' := by
  rcases h with h | h
  · exact want_ls b h
  · refine (want_ls b h).mono ?_
    rintro en w1 ⟨rfl, h1, h2⟩
    rw [show ((p ∧ b = true) ∧ b = true) = (p ∧ b = true) from propext ⟨fun q => q.1, fun q => ⟨q, q.2⟩⟩] at h2
    exact ⟨rfl, h1, h2⟩
end

set_option maxRecDepth 100000 in
set_option maxHeartbeats 4000000 in
theorem rule_21 (kids nn : Int) (s t u : ByteArray) (ln cl : Int) (L : List Tn) (A : Option Addr) (c wb sb : Nat) (xs : List Value) (a a1 : Nat) (Ac : Option Addr) (cc : Nat) (ts : List Ty) (w : World) (hs : St L A c wb sb xs a1 w) (he : EnvAt w wb Ac ts) (hcc : ts.length ≤ cc) (oks : ∀ t ∈ ts, okT t) (hB : isB t = true) (hN : ts.length ≤ 1000000) :
    Calls Tryz.prog 88 #[.pointer (some ⟨wb, 0, none⟩), .agg #[.int .i8 21, .int .i64 kids, .int .i64 nn, .string s, .string t, .string u, .int .i64 ln, .int .i64 cl], .slice Ac ts.length cc, .int .i64 a] w fun e w' => RuQ (ruleE ⟨21, kids, nn, s, t, u, ln, cl⟩ ts a) L A c wb sb xs a1 w e w' := by
  obtain ⟨R, hR⟩ : ∃ R, ruleE ⟨21, kids, nn, s, t, u, ln, cl⟩ ts a = R := ⟨_, rfl⟩
  have hRR : R = want (∀ x ∈ ts, x = ty t) a (made (.un 108 (ty t)) a) := by rw [← hR]; unfold ruleE; simp
  rw [hR]
  clear hR
  have htt := ty_spec hB
  have hcl : wb < w.heap.size := hs.wk.lt
  obtain ⟨W1, hW1⟩ : ∃ W1, w.alloc (.cells #[.int .i8 21, .int .i64 kids, .int .i64 nn, .string s, .string t, .string u, .int .i64 ln, .int .i64 cl] 60) = W1 := ⟨_, rfl⟩
  have hbt1 : Bt wb w W1 := by rw [← hW1]; exact Bt.alloc (But.refl _ _) _
  have hs1 : St L A c wb sb xs a1 W1 := by rw [← hW1]; exact hs.bt (Bt.alloc (But.refl _ _) _) (Blk.alloc hs.wk _)
  have hnb : Blk W1 w.heap.size 60 #[.int .i8 21, .int .i64 kids, .int .i64 nn, .string s, .string t, .string u, .int .i64 ln, .int .i64 cl] := by rw [← hW1]; exact Blk.new _ _ _
  obtain ⟨K, hK⟩ : ∃ K, ts.length = K := ⟨_, rfl⟩
  rw [hK] at hcc hN ⊢
  have HB := Lib.hid (And.intro hbt1 (And.intro hs1 (And.intro hnb (And.intro he (And.intro hRR (And.intro oks hK))))))
  have HT := Lib.hid htt
  have HBB := Lib.hid hB
  have HW1 := Lib.hid hW1
  clear hs he oks hB hRR htt hbt1 hs1 hnb hW1 hK
  go_enter Tryz.func88, Tryz.ntmps88
  go_upto_region 5 with fail
  rw [HW1.out]
  clear HW1
  go_loopg [10] K (fun g i wr => ∃ m : Nat, m ≤ K ∧ g = K - m ∧ i = .int .i64 m ∧ Bt wb W1 wr ∧ Hid (LsW L A c wb sb xs a1 a (∀ j x, j < m → ts[j]? = some x → x = ty t) wr))
  case atStart => exact ⟨0, by omega, rfl, rfl, But.refl _ _, Lib.hid (.inl ⟨fun j x hj => by omega, HB.out.2.1⟩)⟩
  case round =>
    obtain ⟨m, hm, rfl, rfl, hbt, hls⟩ := hrel
    obtain ⟨hbt1, hs1, hnb, he, hRR, oks, hK⟩ := HB.out
    by_cases hlt : m < K
    · obtain ⟨x, hx⟩ : ∃ x, ts[m]? = some x := ⟨_, List.getElem?_eq_getElem (by omega)⟩
      have hox := oks x (List.mem_of_getElem? hx)
      rcases he with h0 | ⟨g, o, rfl, hgw, hgl, hgc⟩
      · rw [h0] at hx; simp at hx
      obtain ⟨b, hb⟩ : ∃ b, ((str x).toList == t.toList) = b := ⟨_, rfl⟩
      have hiff := str_eq hox HBB.out
      rw [hb] at hiff
      have HS := Lib.hid (show ∀ W', Bt wb wr W' → (LsW L A c wb sb xs a1 a (∀ j x, j < m → ts[j]? = some x → x = ty t) W' ∨ LsW L A c wb sb xs a1 a ((∀ j x, j < m → ts[j]? = some x → x = ty t) ∧ b = true) W') → (Bt wb wr W' ∧ W'.cell? ⟨g, o + m, none⟩ = some (.string (str x)) ∧ W'.cell? ⟨w.heap.size, 4, none⟩ = some (.string t) ∧ Hid (LsW L A c wb sb xs a1 a (∀ j x, j < m → ts[j]? = some x → x = ty t) W' ∨ LsW L A c wb sb xs a1 a ((∀ j x, j < m → ts[j]? = some x → x = ty t) ∧ b = true) W')) from fun W' h1 h2 =>
        ⟨h1, (((hbt1.trans hbt).trans h1).cell (p := ⟨g, o + m, none⟩) hgl hgw).trans (hgc m x hx), (((hbt.trans h1).blk hnb (by omega)).cell 4).trans rfl, Lib.hid h2⟩)
      have HI := Lib.hid (HS.out _ (Bt.below (Below.refl _ _).drew) (.inl (hls.out.below (Below.refl _ _).drew)))
      have hstep : ((∀ j x, j < m → ts[j]? = some x → x = ty t) ∧ b = true) ↔ (∀ j x, j < m + 1 → ts[j]? = some x → x = ty t) := by
        constructor
        · rintro ⟨h1, h2⟩ j y hj hy
          by_cases h : j = m
          · subst h; rw [hx] at hy; injection hy with hy; rw [← hy]; exact hiff.1 h2
          · exact h1 j y (by omega) hy
        · intro h
          exact ⟨fun j y hj hy => h j y (by omega) hy, hiff.2 (h m x (by omega) hx)⟩
      have HX := Lib.hid (And.intro hbt hstep)
      clear hbt1 hs1 hnb hRR oks hK hx hox hgw hgl hgc hiff hls hbt hstep
      go_upto_region 7 with fail
      refine wp_region_held_drew (S := (fun W' => (Bt wb wr W' ∧ W'.cell? ⟨g, o + m, none⟩ = some (.string (str x)) ∧ W'.cell? ⟨w.heap.size, 4, none⟩ = some (.string t) ∧ Hid (LsW L A c wb sb xs a1 a (∀ j x, j < m → ts[j]? = some x → x = ty t) W' ∨ LsW L A c wb sb xs a1 a ((∀ j x, j < m → ts[j]? = some x → x = ty t) ∧ b = true) W')))) (by kernel_rfl) ?ss1 (fun hHeld => ?rr1)
      case ss1 => (try dsimp only); exact HI.out
      refine rgt 0 22 rfl rfl hHeld ?_
      try simp only [Act.put, rg1, rg2, rg3]
      refine rgt 1 23 rfl rfl hHeld ?_
      try simp only [Act.put, rg1, rg2, rg3]
      refine rgt 2 24 rfl rfl hHeld ?_
      try simp only [Act.put, rg1, rg2, rg3]
      refine rgt 3 25 rfl rfl hHeld ?_
      try simp only [Act.put, rg1, rg2, rg3]
      refine rgt 4 26 rfl rfl hHeld ?_
      try simp only [Act.put, rg1, rg2, rg3]
      refine rgt 5 27 rfl rfl hHeld ?_
      try simp only [Act.put, rg1, rg2, rg3]
      refine rgt 6 28 rfl rfl hHeld ?_
      try simp only [Act.put, rg1, rg2, rg3]
      refine rgt 7 29 rfl rfl hHeld ?_
      try simp only [Act.put, rg1, rg2, rg3]
      refine rgt 8 30 rfl rfl hHeld ?_
      try simp only [Act.put, rg1, rg2, rg3]
      refine rgc 9 (some 31) rfl (fun K hK => ?_)
      go_simp
      ((refine (want_ls2 b hHeld.2.2.2.out).mono ?_); rintro e w6 ⟨rfl, h1, h2⟩)
      refine hK.out _ _ ?ss11 (fun hHeld2 => ?rr11)
      case ss11 => (try dsimp only); exact HS.out _ (hHeld.1.trans h1) (.inr h2)
      clear hK K
      clear hHeld
      have hHeld := hHeld2
      clear hHeld2
      try simp only [Act.put, rg1, rg2, rg3]
      refine wpAnyH_done (by kernel_rfl) ?_ _
      rw [HX.out.2] at h2
      have H := Lib.hid (And.intro (HX.out.1.trans hHeld.1) h2)
      clear hHeld h1 h2
      go_wp2_with fail
      go_roundg (K - (m + 1))
      case measure => omega
      case rel => exact ⟨m + 1, by omega, rfl, by go_num, H.out.1, Lib.hid H.out.2⟩
    · obtain rfl : m = K := by omega
      have hq4 : wr.cell? ⟨w.heap.size, 4, none⟩ = some (.string t) := ((hbt.blk hnb (by omega)).cell 4).trans rfl
      have htz : t.size ≤ 64 := by rw [HT.out.2.1, str_size]; exact HT.out.2.2
      have ha1 := fun V => run_string_add_sum (P := Tryz.prog) V ⟨#[108]⟩ t (by show 1 + _ ≤ _; omega)
      have hun : (⟨#[108]⟩ : ByteArray) ++ t = str (.un 108 (ty t)) := by
        have h := str_un 108 (ty t)
        rw [← HT.out.2.1] at h
        exact h
      have hsz : ((⟨#[108]⟩ : ByteArray) ++ t).size = (Ty.un 108 (ty t)).code.length := by rw [hun, str_size]
      have hall : (∀ j x, j < m → ts[j]? = some x → x = ty t) ↔ ∀ x ∈ ts, x = ty t := by
        constructor
        · intro h x hx
          obtain ⟨j, hj⟩ := List.mem_iff_getElem?.1 hx
          exact h j x (by have := (List.getElem?_eq_some_iff.1 hj).1; omega) hj
        · intro h j x _ hx
          exact h x (List.mem_of_getElem? hx)
      have hl := hls.out
      rw [hall] at hl
      rcases hl with ⟨h0, hl⟩ | ⟨h0, hl⟩
      · have hRR2 : R = made (.un 108 (ty t)) a := by rw [hRR]; unfold want; rw [if_pos h0]
        by_cases h64 : (Ty.un 108 (ty t)).code.length ≤ 64
        · have hRR3 : R = .ok (.un 108 (ty t)) := by rw [hRR2]; unfold made; rw [if_pos h64]
          have HW := Lib.hid (madeS_yes _ (a : Nat) hl (by rw [hsz]; exact h64))
          have H := Lib.hid (And.intro (hbt1.trans hbt) (And.intro hRR3 hun))
          clear hbt hls hbt1 hs1 hnb he hRR oks hK htz hun hsz hall h0 hl hRR2 hRR3 h64
          go_wp2_with fail
          (refine HW.out.mono ?_); rintro e w2 ⟨rfl, h1, h2⟩
          have H2 := Lib.hid (And.intro h1 h2)
          clear h1 h2
          go_wp2_with fail
          go_ret
          exact RuQ.ok (H.out.1.trans H2.out.1) H2.out.2 H.out.2.2 H.out.2.1
        · have hRR3 : R = .bad 21 a := by rw [hRR2]; unfold made; rw [if_neg h64]
          have HW := Lib.hid (madeS_no _ a hl (by rw [hsz]; exact h64))
          have H := Lib.hid (And.intro (hbt1.trans hbt) hRR3)
          clear hbt hls hbt1 hs1 hnb he hRR oks hK htz hun hsz hall h0 hl hRR2 hRR3 h64
          go_wp2_with fail
          (refine HW.out.mono ?_); rintro e w2 ⟨rfl, h1, h2⟩
          have H2 := Lib.hid (And.intro h1 h2)
          clear h1 h2
          go_wp2_with fail
          go_ret
          exact RuQ.bad (H.out.1.trans H2.out.1) H2.out.2 H.out.2
      · have hRR3 : R = .bad 23 a := by rw [hRR]; unfold want; rw [if_neg h0]
        have HW := Lib.hid (made_err ((⟨#[108]⟩ : ByteArray) ++ t) (a : Nat) hl)
        have H := Lib.hid (And.intro (hbt1.trans hbt) hRR3)
        clear hbt hls hbt1 hs1 hnb he hRR oks hK htz hun hsz hall h0 hl hRR3
        go_wp2_with fail
        (refine HW.out.mono ?_); rintro e w2 ⟨rfl, h1, h2⟩
        have H2 := Lib.hid (And.intro h1 h2)
        clear h1 h2
        go_wp2_with fail
        go_ret
        exact RuQ.bad (H.out.1.trans H2.out.1) H2.out.2 H.out.2
end Go.Proofs.YtmagljnlfponaaaGreat.R

/- RtR -/
namespace Go.Proofs.YtmagljnlfponaaaGreat.R
open Go.RowKit Go.Proofs.YtmagljnlfponaaaGreat.B Go.Proofs.YtmagljnlfponaaaGreat.T Go.Proofs.YtmagljnlfponaaaGreat.K
set_option linter.unusedVariables false
set_option linter.unusedSimpArgs false

theorem own_bw {w w' : World} {wb sb base sz n : Nat} {e : TypeId} {v : Value} {xs : List Value} (h : w.ownsRow base e sz v n xs) (hb : Bw wb sb w w') (h1 : wb < base) (h2 : sb < base) : w'.ownsRow base e sz v n xs := by
  have hlt := h.lt
  refine ⟨h.1, ?_⟩
  rcases h.2 with h3 | ⟨g, cap, cur, hv, hbg, hg, r⟩
  · exact .inl h3
  · exact .inr ⟨g, cap, cur, hv, hbg, (hb.block g (hlt g (by rw [hv]; rfl)).2 (by omega)).trans hg, r⟩
theorem StE.grown {L : List Tn} {A : Option Addr} {c wb sb : Nat} {E : Int} {x : Nat} {w w' : World} {row : Option Nat} (h : StE L A c wb sb E x w) (o : Obj) (hg : (w.alloc o).grownBy w' row) (hr : some wb ≠ row) : StE L A c wb sb E x w' := by
  obtain ⟨⟨a2, hw⟩, hE⟩ := h
  exact ⟨⟨a2, (Blk.alloc hw o).grown hg hr⟩, hE⟩
theorem St.grown {L : List Tn} {A : Option Addr} {c wb sb : Nat} {xs xs0 : List Value} {a a0 : Nat} {w w' W3 : World} {row : Option Nat} (h : St L A c wb sb xs a w) (o : Obj) (hg : (w.alloc o).grownBy w' row) (hr : some wb ≠ row) (hr2 : some sb ≠ row) (h3 : St L A c wb sb xs0 a0 W3) (hb : Bw wb sb W3 w') : St L A c wb sb xs a w' := by
  have hl := LT.bw h3.l1 h3.l2 hb
  exact ⟨(Blk.alloc h.wk o).grown hg hr, (Blk.alloc h.al o).grown hg hr2, h.len, h.ne, hl.1, hl.2⟩

/-- What one's walk through the kids keeps. -/
def KidR (R : Rs Ty) (L : List Tn) (A : Option Addr) (c wb sb : Nat) (xs : List Value) (k : Tf) (env : List Ty) (a : Nat) (rest : List Tn) (nd : Tn) (K base m : Nat) (V : Value) (W3 wr : World) : Prop :=
  Bw wb sb W3 wr ∧ ((∃ (fm : Tf) (tsm lm : List Ty) (am : Nat), fm.len = K - m ∧ tsm.length = m ∧ (∀ t ∈ tsm, okT t) ∧ fm.All (TyP L A c wb sb) ∧ fm.wf ∧ fm.high ≤ k.high ∧ L.drop am = fm.list ++ rest ∧ am + fm.sz = a + 1 + k.sz ∧
      tyF k false env (a + 1) = (tyF fm false env am).then (fun us => .ok (tsm ++ us)) ∧ am = a + 1 + lm.length ∧ prF k false env (a + 1) = lm ++ prF fm false env am ∧ St L A c wb sb (put xs (a + 1) (lm.map strV)) am wr ∧ wr.ownsRow base 9 1 V m (tsm.map strV)) ∨
    (∃ (E : Int) (x : Nat) (vs : List Value), R = .bad E x ∧ StE L A c wb sb E x wr ∧ wr.ownsRow base 9 1 V m vs))
theorem KidR.bad {R : Rs Ty} {L : List Tn} {A : Option Addr} {c wb sb : Nat} {xs : List Value} {k : Tf} {env : List Ty} {a : Nat} {rest : List Tn} {nd : Tn} {K base m : Nat} {V V' : Value} {W3 wr w5 w6 : World} {E : Int} {x : Nat} {vs : List Value} {v : Value} (hR : R = .bad E x) (hb : Bw wb sb W3 w5) (hE : StE L A c wb sb E x w5) (o : Obj) (hg : (w5.alloc o).grownBy w6 V.ownBlock) (hV : ∀ g, V.ownBlock = some g → W3.heap.size ≤ g) (hbase : base = W3.heap.size) (hwb : wb < base) (hown : w6.ownsRow base 9 1 V' (m + 1) vs) : KidR R L A c wb sb xs k env a rest nd K base (m + 1) V' W3 w6 := by
  subst hbase
  refine ⟨But.grown (Bw.alloc hb o) hg (fun g hg hl => by have := hV g hg; omega), .inr ⟨E, x, vs, hR, hE.grown o hg (fun e => by have := hV wb e.symm; omega), hown⟩⟩

set_option maxRecDepth 100000 in
set_option maxHeartbeats 8000000 in
theorem one_kids (kd : Int) (K : Nat) (nn : Int) (s t u : ByteArray) (ln cl : Int) (L : List Tn) (A : Option Addr) (c wb sb : Nat) (xs : List Value) (k : Tf) (a : Nat) (env : List Ty) (Ae : Option Addr) (ce : Nat) (w : World)
    (hn : L[a]? = some ⟨kd, (K : Nat), nn, s, t, u, ln, cl⟩) (hsm : Tn.small ⟨kd, (K : Nat), nn, s, t, u, ln, cl⟩) (he1 : EnvAt w wb Ae env) (he2 : EnvAt w sb Ae env) (henv : ∀ t ∈ env, okT t) (henc : env.length ≤ ce) (henl : env.length ≤ 100000) (hs : St L A c wb sb xs a w) (hN : L.length ≤ 1000000) (hLc : L.length ≤ c) (hE0 : wordsE ⟨kd, (K : Nat), nn, s, t, u, ln, cl⟩ env.length = 0) (rest : List Tn) (hdrop : L.drop a = ⟨kd, (K : Nat), nn, s, t, u, ln, cl⟩ :: (k.list ++ rest)) (hKl : k.len = K) (hwf : k.wf) (hkall : k.All (TyP L A c wb sb)) (hebd : env.length + 2 * (k.high + 1) ≤ 100000)
    (hkd : (kd == 1) = false ∧ (kd == 2) = false ∧ (kd == 3) = false ∧ (kd == 4) = false ∧ (kd == 5) = false ∧ (kd == 6) = false ∧ (kd == 30) = false ∧ (kd == 8) = false)
    (hrule : ∀ (ts : List Ty) (a1 : Nat) (xs : List Value) (Ac : Option Addr) (cc : Nat) (W : World), St L A c wb sb xs a1 W → EnvAt W wb Ac ts → ts.length ≤ cc → ts.length = K → (∀ t ∈ ts, okT t) → Calls Tryz.prog 88 #[.pointer (some ⟨wb, 0, none⟩), .agg #[.int .i8 kd, .int .i64 (K : Nat), .int .i64 nn, .string s, .string t, .string u, .int .i64 ln, .int .i64 cl], .slice Ac K cc, .int .i64 a] W fun e w' => RuQ (ruleE ⟨kd, (K : Nat), nn, s, t, u, ln, cl⟩ ts a) L A c wb sb xs a1 W e w') :
    Calls Tryz.prog 61 #[.pointer (some ⟨wb, 0, none⟩), .slice Ae env.length ce] w fun e w' => TyR ((tyF k false env (a + 1)).then fun ts => ruleE ⟨kd, (K : Nat), nn, s, t, u, ln, cl⟩ ts a) (prF k false env (a + 1)) (a + 1) xs L A c wb sb (a + 1 + k.sz) w e w' := by
  obtain ⟨R, hR⟩ : ∃ R, ((tyF k false env (a + 1)).then fun ts => ruleE ⟨kd, (K : Nat), nn, s, t, u, ln, cl⟩ ts a) = R := ⟨_, rfl⟩
  rw [hR]
  have HE := Lib.hid hE0
  have HR := Lib.hid hR
  have hd1 : L.drop (a + 1) = k.list ++ rest := by rw [← List.drop_drop, hdrop]; rfl
  have HK := Lib.hid (And.intro hd1 (And.intro hKl (And.intro hwf (And.intro hkall (And.intro hebd henv)))))
  have hKN : K ≤ L.length := by
    have h1 := congrArg List.length hd1
    simp only [List.length_drop, List.length_append, Tf.list_len] at h1
    have h2 := Tf.len_le k
    omega
  have hxl := hs.len
  have HXL := Lib.hid hxl
  have HRULE := Lib.hid hrule
  clear hE0 hR hd1 hdrop hKl hwf hkall hebd hxl hrule
  obtain ⟨k1, k2, k3, k4, k5, k6, k30, k8⟩ := hkd
  obtain ⟨c0, c1, c2, c3, c4⟩ := hs.wk.cells
  have hcl : wb < w.heap.size := hs.wk.lt
  have hsl : sb < w.heap.size := hs.al.lt
  have hal : a < L.length := (List.getElem?_eq_some_iff.1 hn).1
  obtain ⟨b, o, rfl, hbc, hbl, q0, q1, q2, q3, q4, q5, q6, q7⟩ := hs.l1.node hn
  simp only at q0 q1 q2 q3 q4 q5 q6 q7
  have hah := fun W a1 h => ahead_any ⟨kd, (K : Nat), nn, s, t, u, ln, cl⟩ a env.length W wb (some ⟨b, o, none⟩) L.length c a1 (allV sb L.length) hsm h
  unfold Tn.val at hah
  simp only at hah
  obtain ⟨N, hNe⟩ : ∃ N, L.length = N := ⟨_, rfl⟩
  have hwk := hs.wk
  rw [hNe] at c0 c4 hal hN hLc hwk hah hKN
  obtain ⟨EL, hEL⟩ : ∃ x, env.length = x := ⟨_, rfl⟩
  rw [hEL] at hah henl henc HE ⊢
  have hcr := hwk.frozen 1
  have hbk : Blk (w.alloc (.cells #[.int .i8 kd, .int .i64 (K : Nat), .int .i64 nn, .string s, .string t, .string u, .int .i64 ln, .int .i64 cl] 60)) w.heap.size 60 #[.int .i8 kd, .int .i64 (K : Nat), .int .i64 nn, .string s, .string t, .string u, .int .i64 ln, .int .i64 cl] := Blk.new _ _ _
  have hck : Wk (w.alloc (.cells #[.int .i8 kd, .int .i64 (K : Nat), .int .i64 nn, .string s, .string t, .string u, .int .i64 ln, .int .i64 cl] 60)) wb (some ⟨b, o, none⟩) N c a 0 0 (allV sb N) := Blk.alloc hwk _
  have HS := Lib.hid (And.intro hs (And.intro he1 (And.intro he2 (And.intro hNe hEL))))
  have HW0 := Lib.hid (And.intro hck hbk)
  have HAH := Lib.hid hah
  have HENV := Lib.hid henv
  clear hs he1 he2 hNe hEL hck hbk hah hwk hcr henv
  go_enter Tryz.func61, Tryz.ntmps61
  go_upto_region 3 with fail
  obtain ⟨hck, hbk⟩ := HW0.out
  obtain ⟨W1, hW1⟩ : ∃ W1, w.alloc (.cells #[.int .i8 kd, .int .i64 (K : Nat), .int .i64 nn, .string s, .string t, .string u, .int .i64 ln, .int .i64 cl] 60) = W1 := ⟨_, rfl⟩
  have hbt0 : Bt wb w W1 := by rw [← hW1]; exact Bt.alloc (But.refl _ _) _
  rw [hW1] at hck hbk ⊢
  obtain ⟨p0, p1, p2, p3, p4⟩ := hck.cells
  have pf := hck.frozen 1
  have HW1 := Lib.hid (And.intro hck (And.intro hbk hbt0))
  clear hW1 hck hbk hbt0 HW0 c0 c1 c2 c3 c4 q0 q1 q2 q3 q4 q5 q6 q7
  go_upto_region 4 with fail
  obtain ⟨hck, hbk, hbt0⟩ := HW1.out
  obtain ⟨W2, hW2⟩ : ∃ W2, W1.setCell ⟨wb, 1, none⟩ (.int .i64 ((a : Int) + 1)) = W2 := ⟨_, rfl⟩
  have hc1 : Wk W2 wb (some ⟨b, o, none⟩) N c ((a : Int) + 1) 0 0 (allV sb N) := by rw [← hW2]; exact hck.at_ _
  have hbk1 : Blk W2 w.heap.size 60 #[.int .i8 kd, .int .i64 (K : Nat), .int .i64 nn, .string s, .string t, .string u, .int .i64 ln, .int .i64 cl] := by rw [← hW2]; exact hbk.far (p := ⟨wb, 1, none⟩) (show w.heap.size ≠ wb by omega) _
  have hbt1 : Bt wb w W2 := by rw [← hW2]; exact hbt0.set_ 1 _
  have HCA := Lib.hid (HAH.out W2 _ hc1)
  have HW := Lib.hid (And.intro hbk1 hbt1)
  rw [hW2]
  clear hck hbk hbt0 hc1 hbt1 HW1 HAH p0 p1 p2 p3 p4 pf hW2
  obtain ⟨n0, n1, n2, n3, n4, n5, n6, n7⟩ := blk_cells8 hbk1
  clear hbk1
  go_wp2_with fail
  (refine HCA.out.mono ?_); rintro e W3 ⟨rfl, hb3, hk3⟩
  rw [HE.out, if_pos rfl] at hk3
  obtain ⟨hs, he1, he2, hNe, hEL⟩ := HS.out
  have hbw : Bw wb sb w W3 := Bw.bt (HW.out.2.trans hb3)
  have hbk3 : Blk W3 w.heap.size 60 #[.int .i8 kd, .int .i64 (K : Nat), .int .i64 nn, .string s, .string t, .string u, .int .i64 ln, .int .i64 cl] := hb3.blk HW.out.1 (show w.heap.size ≠ wb by omega)
  have hl3 := LT.bw hs.l1 hs.l2 hbw
  have hen3 := EnvAt.bw he1 he2 hbw
  have hal3 : AllA W3 sb xs := (HW.out.2.trans hb3).blk hs.al (fun e => hs.ne e.symm)
  have hs3 : St L (some ⟨b, o, none⟩) c wb sb xs (a + 1) W3 := ⟨by rw [hNe]; exact hk3, hal3, hs.len, hs.ne, hl3.1, hl3.2⟩
  have p2 := hk3.cells.2.2.1
  clear n0 n1 n2 n3 n4 n5 n6 n7
  obtain ⟨n0, n1, n2, n3, n4, n5, n6, n7⟩ := blk_cells8 hbk3
  have HF := Lib.hid (And.intro hbw (And.intro hs3 (And.intro hen3 (And.intro hNe (And.intro hEL hbk3)))))
  clear hs he1 he2 hNe hEL hbw hl3 hen3 hal3 hs3 hbk3 hk3 hb3 HS HW HCA
  have hz3 : wb < W3.heap.size ∧ sb < W3.heap.size := ⟨HF.out.2.1.wk.lt, HF.out.2.1.al.lt⟩
  have hz4 : w.heap.size ≠ wb ∧ w.heap.size ≠ sb ∧ w.heap.size < W3.heap.size := ⟨by omega, by omega, HF.out.2.2.2.2.2.lt⟩
  obtain ⟨i0, hi0, hz0, hz1, hz2⟩ := info_parts info9
  go_wp2_with fail
  clear n0 n1 n2 n3 n4 n5 n6 n7 p2
  go_loopg [9, 10] K (fun g V i wr => ∃ (m : Nat) (V' : Value), V' = V ∧ m ≤ K ∧ g = K - m ∧ i = .int .i64 m ∧ Hid (KidR R L (some ⟨b, o, none⟩) c wb sb xs k env a rest ⟨kd, (K : Nat), nn, s, t, u, ln, cl⟩ K W3.heap.size m V' W3 wr))
  case atStart =>
    exact ⟨0, _, rfl, by omega, rfl, rfl, Lib.hid ⟨But.refl _ _, .inl ⟨k, [], [], a + 1, by rw [HK.out.2.1]; rfl, rfl, fun t ht => (by cases ht), HK.out.2.2.2.1, HK.out.2.2.1, Nat.le_refl _, HK.out.1, rfl, (Rs.then_id _).symm, by simp, by simp, by rw [List.map_nil, put_nil]; exact HF.out.2.1, World.ownsRow_nil _ _ _ _⟩⟩⟩
  case round =>
    obtain ⟨m, V', rfl, hm, rfl, rfl, hkr⟩ := hrel
    obtain ⟨hbw, hkr⟩ := hkr.out
    have hnb := hbw.blk HF.out.2.2.2.2.2 hz4.1 hz4.2.1
    obtain ⟨n0, n1, n2, n3, n4, n5, n6, n7⟩ := blk_cells8 hnb
    by_cases hlt : m < K
    · rcases hkr with ⟨fm, tsm, lm, am, f1, f2, f3, f4, f5, f6, f7, f8, f9, f10, f11, f12, f13⟩ | ⟨E, x, vs, f1, f2, f3⟩
      · cases fm with
        | nil => simp only [Tf.len] at f1; omega
        | cons n1' k1' r1 =>
          simp only [Tf.len] at f1
          simp only [Tf.high] at f6
          rw [tyF_cons] at f9
          rw [prF_cons] at f11
          have hen := EnvAt.bw HF.out.2.2.1.1 HF.out.2.2.1.2 hbw
          have hcall := f4.1 am (r1.list ++ rest) env Ae ce _ wr (by rw [f7]; simp [Tf.list]) ⟨f5.1, f5.2.1, f5.2.2.1, trivial⟩ HK.out.2.2.2.2.2 (by rw [HF.out.2.2.2.2.1]; exact henc) (by have := HK.out.2.2.2.2.1; omega) hen.1 hen.2 f12
          have hkid := kid_ok _ wr f12 hcall (fun e w' h => by
            rcases h with ⟨_, h⟩
            split at h
            · exact ⟨_, h.1⟩
            · exact h.1)
          rw [HF.out.2.2.2.2.1] at hkid
          obtain ⟨T1, hT1⟩ : ∃ q, tyT n1' k1' env am = q := ⟨_, rfl⟩
          obtain ⟨l1, hl1⟩ : ∃ q, prT n1' k1' env am = q := ⟨_, rfl⟩
          have hl1l := prT_len n1' k1' env am
          rw [hT1, hl1] at hkid
          rw [hT1] at f9
          rw [hl1] at f11 hl1l
          obtain ⟨AV, cV, rfl, hV1, hV2⟩ := own_shape f13
          have hrow : ∀ x, (Value.slice AV m cV).ownBlock = some x → W3.heap.size ≤ x ∧ x < wr.heap.size := fun x hx => f13.lt x hx
          have HI := Lib.hid (And.intro f1 (And.intro f2 (And.intro f3 (And.intro f4 (And.intro f5 (And.intro f6 (And.intro f7 (And.intro f8 (And.intro f9 (And.intro f10 (And.intro f11 (And.intro f12 (And.intro f13 (And.intro hT1 (And.intro hl1l (And.intro hrow hbw))))))))))))))))
          have HCALL := Lib.hid hkid
          clear f1 f2 f3 f4 f5 f6 f7 f8 f9 f10 f11 f12 f13 hT1 hl1 hl1l hcall hkid hen hrow hbw hnb hkr
          go_wp2_with fail
          (refine HCALL.out.mono ?_); rintro e w5 ⟨hb5, hq5⟩
          obtain ⟨f1, f2, f3, f4, f5, f6, f7, f8, f9, f10, f11, f12, f13, hT1, hl1l, hrow, hbw⟩ := HI.out
          have how5 := own_bw f13 hb5 hz3.1 hz3.2
          have hsz5 : W3.heap.size ≤ w5.heap.size := Nat.le_trans hbw.size hb5.size
          cases T1 with
          | bad E x =>
            obtain ⟨⟨s5, rfl⟩, hE5⟩ := hq5
            have hr := HR.out
            rw [f9] at hr
            simp only [Rs.then] at hr
            have how6 := own_below how5 (bal b0 (.cells #[.string s5] 9))
            have hsl := Sl.one w5 (.string s5) 9
            have hone : ∀ q ∈ [Value.string s5], q.oneCell' = true := by intro q hq; rw [List.mem_singleton.1 hq]; rfl
            have HQ := Lib.hid (And.intro (hbw.trans hb5) (And.intro hE5 (And.intro hr.symm (And.intro hrow hone))))
            clear f1 f2 f3 f4 f5 f6 f7 f8 f9 f10 f11 f12 f13 hT1 hl1l hb5 hE5 how5 hone hr hrow hbw HI
            go_wp2_with (at_builtin; refine wpList_append_sl _ rfl (.tmp 103) (.tmp 105) _ rfl W3.heap.size 9 i0 _ 1 16 Tryz.underlying37 hi0 hz0 hz1 hz2 rfl (by omega) (.slice AV m cV) m _ rfl how6 (w5.heap.size + 1) (some ⟨w5.heap.size, 0, none⟩) 1 1 _ rfl hsl HQ.out.2.2.2.2 (by simp only [maxLen]; omega) (by omega) (by simp only [World.size_alloc]; omega) ?_; intro V6 w6 hown6 hg6 hV6)
            obtain ⟨hb5, hE5, hr, hrow, _⟩ := HQ.out
            have HFIN := Lib.hid (KidR.bad (nd := ⟨kd, (K : Nat), nn, s, t, u, ln, cl⟩) (xs := xs) (k := k) (env := env) (a := a) (rest := rest) (K := K) (v := .string s5) (wr := wr) hr hb5 hE5 _ hg6 (fun g hg => (hrow g hg).1) rfl hz3.1 hown6)
            clear hb5 hE5 hr hrow hown6 hg6 hV6 HQ how6 hsl
            go_wp2_with fail
            go_roundg (K - (m + 1))
            case measure => omega
            case rel => exact ⟨m + 1, _, rfl, by omega, rfl, by go_num, Lib.hid HFIN.out⟩
          | ok t1 =>
            obtain ⟨rfl, hs5⟩ := hq5
            have hokt : okT t1 := tyT_ok HK.out.2.2.2.2.2 hT1
            have how6 := own_below how5 (bal b0 (.cells #[.string (str t1)] 9))
            have hsl := Sl.one w5 (.string (str t1)) 9
            have hone : ∀ q ∈ [Value.string (str t1)], q.oneCell' = true := by intro q hq; rw [List.mem_singleton.1 hq]; rfl
            have HQ := Lib.hid (And.intro hb5 (And.intro hs5 (And.intro hokt (And.intro how5 hone))))
            clear f1 f2 f3 f4 f5 f6 f7 f8 f9 f10 f11 f12 f13 hT1 hl1l hb5 hs5 hokt how5 hone hrow hbw
            go_wp2_with (at_builtin; refine wpList_append_sl _ rfl (.tmp 103) (.tmp 105) _ rfl W3.heap.size 9 i0 _ 1 16 Tryz.underlying37 hi0 hz0 hz1 hz2 rfl (by omega) (.slice AV m cV) m _ rfl how6 (w5.heap.size + 1) (some ⟨w5.heap.size, 0, none⟩) 1 1 _ rfl hsl HQ.out.2.2.2.2 (by simp only [maxLen]; omega) (by omega) (by simp only [World.size_alloc]; omega) ?_; intro V6 w6 hown6 hg6 hV6)
            obtain ⟨f1, f2, f3, f4, f5, f6, f7, f8, f9, f10, f11, f12, f13, hT1, hl1l, hrow, hbw⟩ := HI.out
            obtain ⟨hb5, hs5, hokt, how5, _⟩ := HQ.out
            have hb6 : Bw wb sb W3 w6 := But.grown (Bw.alloc (hbw.trans hb5) _) hg6 (fun x hx hl => by have := hrow x hx; omega)
            have hs6 := hs5.grown _ hg6 (fun e => by have := hrow wb e.symm; omega) (fun e => by have := hrow sb e.symm; omega) HF.out.2.1 hb6
            have hamL : am ≤ L.length := by
              have h1 := congrArg List.length f7
              simp only [List.length_drop, List.length_append, Tf.list, List.length_cons] at h1
              omega
            have hfin : KidR R L (some ⟨b, o, none⟩) c wb sb xs k env a rest ⟨kd, (K : Nat), nn, s, t, u, ln, cl⟩ K W3.heap.size (m + 1) V6 W3 w6 := by
              refine ⟨hb6, .inl ⟨r1, tsm ++ [t1], lm ++ l1, am + 1 + k1'.sz, by omega, by simp [f2], fun q hq => ?_, f4.2, f5.2.2.2, by omega, ?_, ?_, ?_, by rw [List.length_append, hl1l]; omega, ?_, ?_, by rw [List.map_append]; exact hown6⟩⟩
              · rcases List.mem_append.1 hq with h | h
                · exact f3 q h
                · rw [List.mem_singleton.1 h]; exact hokt
              · rw [show am + 1 + k1'.sz = am + (1 + k1'.sz) by omega, ← List.drop_drop, f7]
                simp only [Tf.list, List.cons_append, List.append_assoc]
                rw [show n1' :: (k1'.list ++ (r1.list ++ rest)) = (n1' :: k1'.list) ++ (r1.list ++ rest) by simp, List.drop_append_of_le_length (by simp [Tf.list_len]; omega), List.drop_of_length_le (by simp [Tf.list_len]; omega)]
                rfl
              · simp only [Tf.sz] at f8; omega
              · rw [f9]
                simp only [Rs.then, Bool.false_eq_true, if_false]
                cases tyF r1 false env (am + 1 + k1'.sz) with
                | bad E x => rfl
                | ok us => simp [Rs.then]
              · rw [f11]; simp
              · have h1 := put_put xs (a + 1) (lm.map strV) (l1.map strV) (by rw [List.length_map, HXL.out]; omega)
                rw [List.length_map, ← f10] at h1
                rw [h1, ← List.map_append] at hs6
                exact hs6
            have HFIN := Lib.hid hfin
            clear f1 f2 f3 f4 f5 f6 f7 f8 f9 f10 f11 f12 f13 hT1 hl1l hb5 hs5 hokt how5 hrow hbw hb6 hs6 hamL hfin hown6 hg6 hV6 HI HQ how6 hsl
            go_wp2_with fail
            go_roundg (K - (m + 1))
            case measure => omega
            case rel => exact ⟨m + 1, _, rfl, by omega, rfl, by go_num, Lib.hid HFIN.out⟩
      · have hkid := kid_bad (L := L) (.slice Ae EL ce) wr f2
        obtain ⟨AV, cV, rfl, hV1, hV2⟩ := own_shape f3
        have hrow : ∀ x, (Value.slice AV m cV).ownBlock = some x → W3.heap.size ≤ x ∧ x < wr.heap.size := fun x hx => f3.lt x hx
        have HCALL := Lib.hid hkid
        have how6 := own_below f3 (bal b0 (.cells #[.string ⟨#[]⟩] 9))
        have hsl := Sl.one wr (.string ⟨#[]⟩) 9
        have hone : ∀ q ∈ [Value.string ⟨#[]⟩], q.oneCell' = true := by intro q hq; rw [List.mem_singleton.1 hq]; rfl
        have hsz5 : W3.heap.size ≤ wr.heap.size := hbw.size
        have HQ := Lib.hid (And.intro hbw (And.intro f2 (And.intro f1 (And.intro hrow hone))))
        clear f1 f2 f3 hkid hone hrow hbw hnb hkr
        go_wp2_with fail
        (refine HCALL.out.mono ?_); rintro e w5 ⟨rfl, rfl⟩
        go_wp2_with (at_builtin; refine wpList_append_sl _ rfl (.tmp 103) (.tmp 105) _ rfl W3.heap.size 9 i0 _ 1 16 Tryz.underlying37 hi0 hz0 hz1 hz2 rfl (by omega) (.slice AV m cV) m _ rfl how6 (wr.heap.size + 1) (some ⟨wr.heap.size, 0, none⟩) 1 1 _ rfl hsl HQ.out.2.2.2.2 (by simp only [maxLen]; omega) (by omega) (by simp only [World.size_alloc]; omega) ?_; intro V6 w6 hown6 hg6 hV6)
        obtain ⟨hb5, hE5, hr, hrow, _⟩ := HQ.out
        have HFIN := Lib.hid (KidR.bad (nd := ⟨kd, (K : Nat), nn, s, t, u, ln, cl⟩) (xs := xs) (k := k) (env := env) (a := a) (rest := rest) (K := K) (v := .string ⟨#[]⟩) (wr := wr) hr hb5 hE5 _ hg6 (fun g hg => (hrow g hg).1) rfl hz3.1 hown6)
        clear hb5 hE5 hr hrow hown6 hg6 hV6 HQ how6 hsl
        go_wp2_with fail
        go_roundg (K - (m + 1))
        case measure => omega
        case rel => exact ⟨m + 1, _, rfl, by omega, rfl, by go_num, Lib.hid HFIN.out⟩
    · obtain rfl : m = K := by omega
      rcases hkr with ⟨fm, tsm, lm, am, f1, f2, f3, f4, f5, f6, f7, f8, f9, f10, f11, f12, f13⟩ | ⟨E, x, vs, f1, f2, f3⟩
      · cases fm with
        | cons n1' k1' r1 => simp only [Tf.len] at f1; omega
        | nil =>
          have hr := HR.out
          rw [f9] at hr
          simp only [tyF, Rs.then, List.append_nil] at hr
          simp only [Tf.sz] at f8
          simp only [prF, List.append_nil] at f11
          obtain ⟨AV, cV, rfl, hV1, hva, hvb⟩ := env_own2 f13 f2 hz3.1 hz3.2
          have hrl := HRULE.out tsm am _ AV cV wr f12 hva (by omega) f2 f3
          rw [hr] at hrl
          have p2 := f12.wk.cells.2.2.1
          have HRL := Lib.hid hrl
          have HFI := Lib.hid (And.intro (HF.out.1.trans hbw) (And.intro f11 f8))
          clear f1 f2 f3 f4 f5 f6 f7 f8 f9 f10 f11 f12 f13 hr hbw hnb hkr hva hvb hrl
          go_wp2_with fail
          (refine HRL.out.mono ?_); rintro e w7 ⟨hb7, hq7⟩
          obtain ⟨h1, h2, h3⟩ := HFI.out
          rw [Nat.add_zero] at h3
          subst h3
          cases R with
          | bad E x =>
            obtain ⟨⟨s7, rfl⟩, hE7⟩ := hq7
            have H := Lib.hid (And.intro (h1.trans (Bw.bt hb7)) hE7)
            clear hb7 hE7 h1 h2 HFI
            go_wp2_with fail
            go_ret
            exact ⟨H.out.1, ⟨_, rfl⟩, H.out.2⟩
          | ok t7 =>
            obtain ⟨rfl, hs7⟩ := hq7
            rw [← h2] at hs7
            have H := Lib.hid (And.intro (h1.trans (Bw.bt hb7)) hs7)
            clear hb7 hs7 h1 h2 HFI
            go_wp2_with fail
            go_ret
            exact ⟨H.out.1, rfl, H.out.2⟩
      · subst f1
        have p2 := f2.wk.choose_spec.cells.2.2.1
        have e1 : (E != 0) = true := by simpa using f2.nz
        have H := Lib.hid (And.intro (HF.out.1.trans hbw) f2)
        clear f2 f3 hbw hnb hkr
        go_wp2_with fail
        go_ret
        exact ⟨H.out.1, ⟨_, rfl⟩, H.out.2⟩
end Go.Proofs.YtmagljnlfponaaaGreat.R
