/- Parts of this claim: RtM. -/
import Derived.Test.YtmagljnlfponaaaGreatP15
set_option linter.unusedVariables false
set_option linter.unusedSimpArgs false
/- RtM -/
namespace Go.Proofs.YtmagljnlfponaaaGreat.R
open Go.RowKit Go.Proofs.YtmagljnlfponaaaGreat.B Go.Proofs.YtmagljnlfponaaaGreat.T Go.Proofs.YtmagljnlfponaaaGreat.K
set_option linter.unusedVariables false
set_option linter.unusedSimpArgs false

/-- Behind rule: the node's type, or the error. -/
def RuQ (R : Rs Ty) (L : List Tn) (A : Option Addr) (c wb sb : Nat) (xs : List Value) (a1 : Nat) (w : World) (e : Ending) (w' : World) : Prop := Bt wb w w' ∧ match R with
  | .ok t => e = .returned (.string (str t)) ∧ St L A c wb sb xs a1 w'
  | .bad E x => (∃ s, e = .returned (.string s)) ∧ StE L A c wb sb E x w'
section
variable {R : Rs Ty} {L : List Tn} {A : Option Addr} {c wb sb : Nat} {xs : List Value} {a1 : Nat} {w w' : World} {s : ByteArray} {t : Ty} {E : Int} {x : Nat}
theorem RuQ.ok (h : Bt wb w w') (hs : St L A c wb sb xs a1 w') (e : s = str t) (hR : R = .ok t) : RuQ R L A c wb sb xs a1 w (.returned (.string s)) w' := by subst hR; exact ⟨h, by rw [e], hs⟩
theorem RuQ.bad (h : Bt wb w w') (hs : StE L A c wb sb E x w') (hR : R = .bad E x) : RuQ R L A c wb sb xs a1 w (.returned (.string s)) w' := by subst hR; exact ⟨h, ⟨_, rfl⟩, hs⟩
end
theorem envAt_cells {w : World} {cb : Nat} {A : Option Addr} {ts : List Ty} (h : EnvAt w cb A ts) (hp : 0 < ts.length) : ∃ g o, A = some ⟨g, o, none⟩ ∧ g ≠ cb ∧ g < w.heap.size ∧ ∀ j t, ts[j]? = some t → w.cell? ⟨g, o + j, none⟩ = some (.string (str t)) := by
  rcases h with rfl | h
  · simp at hp
  · exact h
theorem str_leaf (c : UInt8) : str (.leaf c) = ⟨#[c]⟩ := rfl
theorem str_ne_of {x y : Ty} (hx : x.ok) (hy : y.ok) : ((str x).toList == (str y).toList) = true ↔ x = y := by
  simp only [beq_iff_eq, Lib.toList_data]
  constructor
  · intro h
    refine code_inj hx hy ?_
    simpa [str, bs_list] using h
  · intro h; rw [h]
theorem leaf_eq {x : Ty} (hx : okT x) (c : UInt8) (hc : arB c = 0) : ((str x).toList == [c]) = true ↔ x = .leaf c := by
  have := str_ne_of (x := x) (y := .leaf c) hx.1 hc
  rwa [str_leaf, show (⟨#[c]⟩ : ByteArray).toList = [c] by rw [Lib.toList_data]] at this

set_option maxRecDepth 100000 in
set_option maxHeartbeats 4000000 in
theorem rule_10 (kids nn : Int) (s t u : ByteArray) (ln cl : Int) (L : List Tn) (A : Option Addr) (c wb sb : Nat) (xs : List Value) (a a1 : Nat) (Ac : Option Addr) (cc : Nat) (x y : Ty) (w : World) (hs : St L A c wb sb xs a1 w) (he : EnvAt w wb Ac [x, y]) (hcc : 2 ≤ cc) (ox : okT x) (oy : okT y) :
    Calls Tryz.prog 88 #[.pointer (some ⟨wb, 0, none⟩), .agg #[.int .i8 10, .int .i64 kids, .int .i64 nn, .string s, .string t, .string u, .int .i64 ln, .int .i64 cl], .slice Ac 2 cc, .int .i64 a] w fun e w' => RuQ (ruleE ⟨10, kids, nn, s, t, u, ln, cl⟩ [x, y] a) L A c wb sb xs a1 w e w' := by
  obtain ⟨g, o, rfl, hgw, hgl, hgc⟩ := envAt_cells he (by simp)
  obtain ⟨R, hR⟩ : ∃ R, ruleE ⟨10, kids, nn, s, t, u, ln, cl⟩ [x, y] a = R := ⟨_, rfl⟩
  have hRR : R = want (x = tI ∧ y = tI) a (.ok tI) := by rw [← hR]; unfold ruleE; simp
  rw [hR]
  clear hR
  have lx := leaf_eq ox 105 (by decide)
  have ly := leaf_eq oy 105 (by decide)
  have hcl : wb < w.heap.size := hs.wk.lt
  have hbt1 : Bt wb w (w.alloc (.cells #[.int .i8 10, .int .i64 kids, .int .i64 nn, .string s, .string t, .string u, .int .i64 ln, .int .i64 cl] 60)) := Bt.alloc (But.refl _ _) _
  have hs1 := hs.bt hbt1 (Blk.alloc hs.wk _)
  have q0 : w.cell? ⟨g, o, none⟩ = some (.string (str x)) := hgc 0 _ rfl
  have q1 : w.cell? ⟨g, o + 1, none⟩ = some (.string (str y)) := hgc 1 _ rfl
  by_cases hx : x = tI
  case neg =>
    have ex : ((str x).toList == [105]) = false := by rw [Bool.eq_false_iff]; exact fun h => hx (lx.1 h)
    have hRR : R = .bad 23 a := by rw [hRR]; unfold want; rw [if_neg (fun h => hx h.1)]
    clear lx
    clear ly
    clear hx
    have HW := Lib.hid (want_no a hs1)
    have HB := Lib.hid (And.intro hbt1 hRR)
    clear hs he hgc hs1 hbt1 hRR hcc
    go_enter Tryz.func88, Tryz.ntmps88
    go_wp2_with fail
    all_goals
      (refine HW.out.mono ?_); rintro e w2 ⟨rfl, h1, h2⟩
      have H := Lib.hid (And.intro h1 h2)
      clear h1 h2
      go_wp2_with fail
      go_ret
      exact RuQ.bad (HB.out.1.trans H.out.1) H.out.2 HB.out.2
  have ex : ((str x).toList == [105]) = true := lx.2 hx
  by_cases hy : y = tI
  case neg =>
    have ey : ((str y).toList == [105]) = false := by rw [Bool.eq_false_iff]; exact fun h => hy (ly.1 h)
    have hRR : R = .bad 23 a := by rw [hRR]; unfold want; rw [if_neg (fun h => hy h.2)]
    clear ly
    clear hy
    have HW := Lib.hid (want_no a hs1)
    have HB := Lib.hid (And.intro hbt1 hRR)
    clear hs he hgc hs1 hbt1 hRR hcc
    go_enter Tryz.func88, Tryz.ntmps88
    go_wp2_with fail
    all_goals
      (refine HW.out.mono ?_); rintro e w2 ⟨rfl, h1, h2⟩
      have H := Lib.hid (And.intro h1 h2)
      clear h1 h2
      go_wp2_with fail
      go_ret
      exact RuQ.bad (HB.out.1.trans H.out.1) H.out.2 HB.out.2
  have ey : ((str y).toList == [105]) = true := ly.2 hy
  replace hRR : R = .ok tI := by rw [hRR]; unfold want; rw [if_pos ⟨hx, hy⟩]
  clear lx hx
  clear ly hy
  have HW := Lib.hid (want_yes (a : Nat) hs1)
  have HB := Lib.hid (And.intro hbt1 hRR)
  clear hs he hgc hs1 hbt1 hRR hcc
  go_enter Tryz.func88, Tryz.ntmps88
  go_wp2_with fail
  all_goals
    (refine HW.out.mono ?_); rintro e w2 ⟨rfl, h1, h2⟩
    have H := Lib.hid (And.intro h1 h2)
    clear h1 h2
    go_wp2_with fail
    go_ret
    exact RuQ.ok (HB.out.1.trans H.out.1) H.out.2 rfl HB.out.2

set_option maxRecDepth 100000 in
set_option maxHeartbeats 4000000 in
theorem rule_11 (kids nn : Int) (s t u : ByteArray) (ln cl : Int) (L : List Tn) (A : Option Addr) (c wb sb : Nat) (xs : List Value) (a a1 : Nat) (Ac : Option Addr) (cc : Nat) (x y : Ty) (w : World) (hs : St L A c wb sb xs a1 w) (he : EnvAt w wb Ac [x, y]) (hcc : 2 ≤ cc) (ox : okT x) (oy : okT y) :
    Calls Tryz.prog 88 #[.pointer (some ⟨wb, 0, none⟩), .agg #[.int .i8 11, .int .i64 kids, .int .i64 nn, .string s, .string t, .string u, .int .i64 ln, .int .i64 cl], .slice Ac 2 cc, .int .i64 a] w fun e w' => RuQ (ruleE ⟨11, kids, nn, s, t, u, ln, cl⟩ [x, y] a) L A c wb sb xs a1 w e w' := by
  obtain ⟨g, o, rfl, hgw, hgl, hgc⟩ := envAt_cells he (by simp)
  obtain ⟨R, hR⟩ : ∃ R, ruleE ⟨11, kids, nn, s, t, u, ln, cl⟩ [x, y] a = R := ⟨_, rfl⟩
  have hRR : R = want (x = tI ∧ y = tI) a (.ok tI) := by rw [← hR]; unfold ruleE; simp
  rw [hR]
  clear hR
  have lx := leaf_eq ox 105 (by decide)
  have ly := leaf_eq oy 105 (by decide)
  have hcl : wb < w.heap.size := hs.wk.lt
  have hbt1 : Bt wb w (w.alloc (.cells #[.int .i8 11, .int .i64 kids, .int .i64 nn, .string s, .string t, .string u, .int .i64 ln, .int .i64 cl] 60)) := Bt.alloc (But.refl _ _) _
  have hs1 := hs.bt hbt1 (Blk.alloc hs.wk _)
  have q0 : w.cell? ⟨g, o, none⟩ = some (.string (str x)) := hgc 0 _ rfl
  have q1 : w.cell? ⟨g, o + 1, none⟩ = some (.string (str y)) := hgc 1 _ rfl
  by_cases hx : x = tI
  case neg =>
    have ex : ((str x).toList == [105]) = false := by rw [Bool.eq_false_iff]; exact fun h => hx (lx.1 h)
    have hRR : R = .bad 23 a := by rw [hRR]; unfold want; rw [if_neg (fun h => hx h.1)]
    clear lx
    clear ly
    clear hx
    have HW := Lib.hid (want_no a hs1)
    have HB := Lib.hid (And.intro hbt1 hRR)
    clear hs he hgc hs1 hbt1 hRR hcc
    go_enter Tryz.func88, Tryz.ntmps88
    go_wp2_with fail
    all_goals
      (refine HW.out.mono ?_); rintro e w2 ⟨rfl, h1, h2⟩
      have H := Lib.hid (And.intro h1 h2)
      clear h1 h2
      go_wp2_with fail
      go_ret
      exact RuQ.bad (HB.out.1.trans H.out.1) H.out.2 HB.out.2
  have ex : ((str x).toList == [105]) = true := lx.2 hx
  by_cases hy : y = tI
  case neg =>
    have ey : ((str y).toList == [105]) = false := by rw [Bool.eq_false_iff]; exact fun h => hy (ly.1 h)
    have hRR : R = .bad 23 a := by rw [hRR]; unfold want; rw [if_neg (fun h => hy h.2)]
    clear ly
    clear hy
    have HW := Lib.hid (want_no a hs1)
    have HB := Lib.hid (And.intro hbt1 hRR)
    clear hs he hgc hs1 hbt1 hRR hcc
    go_enter Tryz.func88, Tryz.ntmps88
    go_wp2_with fail
    all_goals
      (refine HW.out.mono ?_); rintro e w2 ⟨rfl, h1, h2⟩
      have H := Lib.hid (And.intro h1 h2)
      clear h1 h2
      go_wp2_with fail
      go_ret
      exact RuQ.bad (HB.out.1.trans H.out.1) H.out.2 HB.out.2
  have ey : ((str y).toList == [105]) = true := ly.2 hy
  replace hRR : R = .ok tI := by rw [hRR]; unfold want; rw [if_pos ⟨hx, hy⟩]
  clear lx hx
  clear ly hy
  have HW := Lib.hid (want_yes (a : Nat) hs1)
  have HB := Lib.hid (And.intro hbt1 hRR)
  clear hs he hgc hs1 hbt1 hRR hcc
  go_enter Tryz.func88, Tryz.ntmps88
  go_wp2_with fail
  all_goals
    (refine HW.out.mono ?_); rintro e w2 ⟨rfl, h1, h2⟩
    have H := Lib.hid (And.intro h1 h2)
    clear h1 h2
    go_wp2_with fail
    go_ret
    exact RuQ.ok (HB.out.1.trans H.out.1) H.out.2 rfl HB.out.2

set_option maxRecDepth 100000 in
set_option maxHeartbeats 4000000 in
theorem rule_12 (kids nn : Int) (s t u : ByteArray) (ln cl : Int) (L : List Tn) (A : Option Addr) (c wb sb : Nat) (xs : List Value) (a a1 : Nat) (Ac : Option Addr) (cc : Nat) (x y : Ty) (w : World) (hs : St L A c wb sb xs a1 w) (he : EnvAt w wb Ac [x, y]) (hcc : 2 ≤ cc) (ox : okT x) (oy : okT y) :
    Calls Tryz.prog 88 #[.pointer (some ⟨wb, 0, none⟩), .agg #[.int .i8 12, .int .i64 kids, .int .i64 nn, .string s, .string t, .string u, .int .i64 ln, .int .i64 cl], .slice Ac 2 cc, .int .i64 a] w fun e w' => RuQ (ruleE ⟨12, kids, nn, s, t, u, ln, cl⟩ [x, y] a) L A c wb sb xs a1 w e w' := by
  obtain ⟨g, o, rfl, hgw, hgl, hgc⟩ := envAt_cells he (by simp)
  obtain ⟨R, hR⟩ : ∃ R, ruleE ⟨12, kids, nn, s, t, u, ln, cl⟩ [x, y] a = R := ⟨_, rfl⟩
  have hRR : R = want (x = tI ∧ y = tI) a (.ok tI) := by rw [← hR]; unfold ruleE; simp
  rw [hR]
  clear hR
  have lx := leaf_eq ox 105 (by decide)
  have ly := leaf_eq oy 105 (by decide)
  have hcl : wb < w.heap.size := hs.wk.lt
  have hbt1 : Bt wb w (w.alloc (.cells #[.int .i8 12, .int .i64 kids, .int .i64 nn, .string s, .string t, .string u, .int .i64 ln, .int .i64 cl] 60)) := Bt.alloc (But.refl _ _) _
  have hs1 := hs.bt hbt1 (Blk.alloc hs.wk _)
  have q0 : w.cell? ⟨g, o, none⟩ = some (.string (str x)) := hgc 0 _ rfl
  have q1 : w.cell? ⟨g, o + 1, none⟩ = some (.string (str y)) := hgc 1 _ rfl
  by_cases hx : x = tI
  case neg =>
    have ex : ((str x).toList == [105]) = false := by rw [Bool.eq_false_iff]; exact fun h => hx (lx.1 h)
    have hRR : R = .bad 23 a := by rw [hRR]; unfold want; rw [if_neg (fun h => hx h.1)]
    clear lx
    clear ly
    clear hx
    have HW := Lib.hid (want_no a hs1)
    have HB := Lib.hid (And.intro hbt1 hRR)
    clear hs he hgc hs1 hbt1 hRR hcc
    go_enter Tryz.func88, Tryz.ntmps88
    go_wp2_with fail
    all_goals
      (refine HW.out.mono ?_); rintro e w2 ⟨rfl, h1, h2⟩
      have H := Lib.hid (And.intro h1 h2)
      clear h1 h2
      go_wp2_with fail
      go_ret
      exact RuQ.bad (HB.out.1.trans H.out.1) H.out.2 HB.out.2
  have ex : ((str x).toList == [105]) = true := lx.2 hx
  by_cases hy : y = tI
  case neg =>
    have ey : ((str y).toList == [105]) = false := by rw [Bool.eq_false_iff]; exact fun h => hy (ly.1 h)
    have hRR : R = .bad 23 a := by rw [hRR]; unfold want; rw [if_neg (fun h => hy h.2)]
    clear ly
    clear hy
    have HW := Lib.hid (want_no a hs1)
    have HB := Lib.hid (And.intro hbt1 hRR)
    clear hs he hgc hs1 hbt1 hRR hcc
    go_enter Tryz.func88, Tryz.ntmps88
    go_wp2_with fail
    all_goals
      (refine HW.out.mono ?_); rintro e w2 ⟨rfl, h1, h2⟩
      have H := Lib.hid (And.intro h1 h2)
      clear h1 h2
      go_wp2_with fail
      go_ret
      exact RuQ.bad (HB.out.1.trans H.out.1) H.out.2 HB.out.2
  have ey : ((str y).toList == [105]) = true := ly.2 hy
  replace hRR : R = .ok tI := by rw [hRR]; unfold want; rw [if_pos ⟨hx, hy⟩]
  clear lx hx
  clear ly hy
  have HW := Lib.hid (want_yes (a : Nat) hs1)
  have HB := Lib.hid (And.intro hbt1 hRR)
  clear hs he hgc hs1 hbt1 hRR hcc
  go_enter Tryz.func88, Tryz.ntmps88
  go_wp2_with fail
  all_goals
    (refine HW.out.mono ?_); rintro e w2 ⟨rfl, h1, h2⟩
    have H := Lib.hid (And.intro h1 h2)
    clear h1 h2
    go_wp2_with fail
    go_ret
    exact RuQ.ok (HB.out.1.trans H.out.1) H.out.2 rfl HB.out.2

set_option maxRecDepth 100000 in
set_option maxHeartbeats 4000000 in
theorem rule_13 (kids nn : Int) (s t u : ByteArray) (ln cl : Int) (L : List Tn) (A : Option Addr) (c wb sb : Nat) (xs : List Value) (a a1 : Nat) (Ac : Option Addr) (cc : Nat) (x y : Ty) (w : World) (hs : St L A c wb sb xs a1 w) (he : EnvAt w wb Ac [x, y]) (hcc : 2 ≤ cc) (ox : okT x) (oy : okT y) :
    Calls Tryz.prog 88 #[.pointer (some ⟨wb, 0, none⟩), .agg #[.int .i8 13, .int .i64 kids, .int .i64 nn, .string s, .string t, .string u, .int .i64 ln, .int .i64 cl], .slice Ac 2 cc, .int .i64 a] w fun e w' => RuQ (ruleE ⟨13, kids, nn, s, t, u, ln, cl⟩ [x, y] a) L A c wb sb xs a1 w e w' := by
  obtain ⟨g, o, rfl, hgw, hgl, hgc⟩ := envAt_cells he (by simp)
  obtain ⟨R, hR⟩ : ∃ R, ruleE ⟨13, kids, nn, s, t, u, ln, cl⟩ [x, y] a = R := ⟨_, rfl⟩
  have hRR : R = want (x = tT ∧ y = tT) a (.ok tT) := by rw [← hR]; unfold ruleE; simp
  rw [hR]
  clear hR
  have lx := leaf_eq ox 116 (by decide)
  have ly := leaf_eq oy 116 (by decide)
  have hcl : wb < w.heap.size := hs.wk.lt
  have hbt1 : Bt wb w (w.alloc (.cells #[.int .i8 13, .int .i64 kids, .int .i64 nn, .string s, .string t, .string u, .int .i64 ln, .int .i64 cl] 60)) := Bt.alloc (But.refl _ _) _
  have hs1 := hs.bt hbt1 (Blk.alloc hs.wk _)
  have q0 : w.cell? ⟨g, o, none⟩ = some (.string (str x)) := hgc 0 _ rfl
  have q1 : w.cell? ⟨g, o + 1, none⟩ = some (.string (str y)) := hgc 1 _ rfl
  by_cases hx : x = tT
  case neg =>
    have ex : ((str x).toList == [116]) = false := by rw [Bool.eq_false_iff]; exact fun h => hx (lx.1 h)
    have hRR : R = .bad 23 a := by rw [hRR]; unfold want; rw [if_neg (fun h => hx h.1)]
    clear lx
    clear ly
    clear hx
    have HW := Lib.hid (want_no a hs1)
    have HB := Lib.hid (And.intro hbt1 hRR)
    clear hs he hgc hs1 hbt1 hRR hcc
    go_enter Tryz.func88, Tryz.ntmps88
    go_wp2_with fail
    all_goals
      (refine HW.out.mono ?_); rintro e w2 ⟨rfl, h1, h2⟩
      have H := Lib.hid (And.intro h1 h2)
      clear h1 h2
      go_wp2_with fail
      go_ret
      exact RuQ.bad (HB.out.1.trans H.out.1) H.out.2 HB.out.2
  have ex : ((str x).toList == [116]) = true := lx.2 hx
  by_cases hy : y = tT
  case neg =>
    have ey : ((str y).toList == [116]) = false := by rw [Bool.eq_false_iff]; exact fun h => hy (ly.1 h)
    have hRR : R = .bad 23 a := by rw [hRR]; unfold want; rw [if_neg (fun h => hy h.2)]
    clear ly
    clear hy
    have HW := Lib.hid (want_no a hs1)
    have HB := Lib.hid (And.intro hbt1 hRR)
    clear hs he hgc hs1 hbt1 hRR hcc
    go_enter Tryz.func88, Tryz.ntmps88
    go_wp2_with fail
    all_goals
      (refine HW.out.mono ?_); rintro e w2 ⟨rfl, h1, h2⟩
      have H := Lib.hid (And.intro h1 h2)
      clear h1 h2
      go_wp2_with fail
      go_ret
      exact RuQ.bad (HB.out.1.trans H.out.1) H.out.2 HB.out.2
  have ey : ((str y).toList == [116]) = true := ly.2 hy
  replace hRR : R = .ok tT := by rw [hRR]; unfold want; rw [if_pos ⟨hx, hy⟩]
  clear lx hx
  clear ly hy
  have HW := Lib.hid (want_yes (a : Nat) hs1)
  have HB := Lib.hid (And.intro hbt1 hRR)
  clear hs he hgc hs1 hbt1 hRR hcc
  go_enter Tryz.func88, Tryz.ntmps88
  go_wp2_with fail
  all_goals
    (refine HW.out.mono ?_); rintro e w2 ⟨rfl, h1, h2⟩
    have H := Lib.hid (And.intro h1 h2)
    clear h1 h2
    go_wp2_with fail
    go_ret
    exact RuQ.ok (HB.out.1.trans H.out.1) H.out.2 rfl HB.out.2

set_option maxRecDepth 100000 in
set_option maxHeartbeats 4000000 in
theorem rule_14 (kids nn : Int) (s t u : ByteArray) (ln cl : Int) (L : List Tn) (A : Option Addr) (c wb sb : Nat) (xs : List Value) (a a1 : Nat) (Ac : Option Addr) (cc : Nat) (x y : Ty) (w : World) (hs : St L A c wb sb xs a1 w) (he : EnvAt w wb Ac [x, y]) (hcc : 2 ≤ cc) (ox : okT x) (oy : okT y) :
    Calls Tryz.prog 88 #[.pointer (some ⟨wb, 0, none⟩), .agg #[.int .i8 14, .int .i64 kids, .int .i64 nn, .string s, .string t, .string u, .int .i64 ln, .int .i64 cl], .slice Ac 2 cc, .int .i64 a] w fun e w' => RuQ (ruleE ⟨14, kids, nn, s, t, u, ln, cl⟩ [x, y] a) L A c wb sb xs a1 w e w' := by
  obtain ⟨g, o, rfl, hgw, hgl, hgc⟩ := envAt_cells he (by simp)
  obtain ⟨R, hR⟩ : ∃ R, ruleE ⟨14, kids, nn, s, t, u, ln, cl⟩ [x, y] a = R := ⟨_, rfl⟩
  have hRR : R = want (x = tI ∧ y = tI) a (.ok tB) := by rw [← hR]; unfold ruleE; simp
  rw [hR]
  clear hR
  have lx := leaf_eq ox 105 (by decide)
  have ly := leaf_eq oy 105 (by decide)
  have hcl : wb < w.heap.size := hs.wk.lt
  have hbt1 : Bt wb w (w.alloc (.cells #[.int .i8 14, .int .i64 kids, .int .i64 nn, .string s, .string t, .string u, .int .i64 ln, .int .i64 cl] 60)) := Bt.alloc (But.refl _ _) _
  have hs1 := hs.bt hbt1 (Blk.alloc hs.wk _)
  have q0 : w.cell? ⟨g, o, none⟩ = some (.string (str x)) := hgc 0 _ rfl
  have q1 : w.cell? ⟨g, o + 1, none⟩ = some (.string (str y)) := hgc 1 _ rfl
  by_cases hx : x = tI
  case neg =>
    have ex : ((str x).toList == [105]) = false := by rw [Bool.eq_false_iff]; exact fun h => hx (lx.1 h)
    have hRR : R = .bad 23 a := by rw [hRR]; unfold want; rw [if_neg (fun h => hx h.1)]
    clear lx
    clear ly
    clear hx
    have HW := Lib.hid (want_no a hs1)
    have HB := Lib.hid (And.intro hbt1 hRR)
    clear hs he hgc hs1 hbt1 hRR hcc
    go_enter Tryz.func88, Tryz.ntmps88
    go_wp2_with fail
    all_goals
      (refine HW.out.mono ?_); rintro e w2 ⟨rfl, h1, h2⟩
      have H := Lib.hid (And.intro h1 h2)
      clear h1 h2
      go_wp2_with fail
      go_ret
      exact RuQ.bad (HB.out.1.trans H.out.1) H.out.2 HB.out.2
  have ex : ((str x).toList == [105]) = true := lx.2 hx
  by_cases hy : y = tI
  case neg =>
    have ey : ((str y).toList == [105]) = false := by rw [Bool.eq_false_iff]; exact fun h => hy (ly.1 h)
    have hRR : R = .bad 23 a := by rw [hRR]; unfold want; rw [if_neg (fun h => hy h.2)]
    clear ly
    clear hy
    have HW := Lib.hid (want_no a hs1)
    have HB := Lib.hid (And.intro hbt1 hRR)
    clear hs he hgc hs1 hbt1 hRR hcc
    go_enter Tryz.func88, Tryz.ntmps88
    go_wp2_with fail
    all_goals
      (refine HW.out.mono ?_); rintro e w2 ⟨rfl, h1, h2⟩
      have H := Lib.hid (And.intro h1 h2)
      clear h1 h2
      go_wp2_with fail
      go_ret
      exact RuQ.bad (HB.out.1.trans H.out.1) H.out.2 HB.out.2
  have ey : ((str y).toList == [105]) = true := ly.2 hy
  replace hRR : R = .ok tB := by rw [hRR]; unfold want; rw [if_pos ⟨hx, hy⟩]
  clear lx hx
  clear ly hy
  have HW := Lib.hid (want_yes (a : Nat) hs1)
  have HB := Lib.hid (And.intro hbt1 hRR)
  clear hs he hgc hs1 hbt1 hRR hcc
  go_enter Tryz.func88, Tryz.ntmps88
  go_wp2_with fail
  all_goals
    (refine HW.out.mono ?_); rintro e w2 ⟨rfl, h1, h2⟩
    have H := Lib.hid (And.intro h1 h2)
    clear h1 h2
    go_wp2_with fail
    go_ret
    exact RuQ.ok (HB.out.1.trans H.out.1) H.out.2 rfl HB.out.2

set_option maxRecDepth 100000 in
set_option maxHeartbeats 4000000 in
theorem rule_15 (kids nn : Int) (s t u : ByteArray) (ln cl : Int) (L : List Tn) (A : Option Addr) (c wb sb : Nat) (xs : List Value) (a a1 : Nat) (Ac : Option Addr) (cc : Nat) (x y : Ty) (w : World) (hs : St L A c wb sb xs a1 w) (he : EnvAt w wb Ac [x, y]) (hcc : 2 ≤ cc) (ox : okT x) (oy : okT y) :
    Calls Tryz.prog 88 #[.pointer (some ⟨wb, 0, none⟩), .agg #[.int .i8 15, .int .i64 kids, .int .i64 nn, .string s, .string t, .string u, .int .i64 ln, .int .i64 cl], .slice Ac 2 cc, .int .i64 a] w fun e w' => RuQ (ruleE ⟨15, kids, nn, s, t, u, ln, cl⟩ [x, y] a) L A c wb sb xs a1 w e w' := by
  obtain ⟨g, o, rfl, hgw, hgl, hgc⟩ := envAt_cells he (by simp)
  obtain ⟨R, hR⟩ : ∃ R, ruleE ⟨15, kids, nn, s, t, u, ln, cl⟩ [x, y] a = R := ⟨_, rfl⟩
  have hRR : R = want (x = tI ∧ y = tI) a (.ok tB) := by rw [← hR]; unfold ruleE; simp
  rw [hR]
  clear hR
  have lx := leaf_eq ox 105 (by decide)
  have ly := leaf_eq oy 105 (by decide)
  have hcl : wb < w.heap.size := hs.wk.lt
  have hbt1 : Bt wb w (w.alloc (.cells #[.int .i8 15, .int .i64 kids, .int .i64 nn, .string s, .string t, .string u, .int .i64 ln, .int .i64 cl] 60)) := Bt.alloc (But.refl _ _) _
  have hs1 := hs.bt hbt1 (Blk.alloc hs.wk _)
  have q0 : w.cell? ⟨g, o, none⟩ = some (.string (str x)) := hgc 0 _ rfl
  have q1 : w.cell? ⟨g, o + 1, none⟩ = some (.string (str y)) := hgc 1 _ rfl
  by_cases hx : x = tI
  case neg =>
    have ex : ((str x).toList == [105]) = false := by rw [Bool.eq_false_iff]; exact fun h => hx (lx.1 h)
    have hRR : R = .bad 23 a := by rw [hRR]; unfold want; rw [if_neg (fun h => hx h.1)]
    clear lx
    clear ly
    clear hx
    have HW := Lib.hid (want_no a hs1)
    have HB := Lib.hid (And.intro hbt1 hRR)
    clear hs he hgc hs1 hbt1 hRR hcc
    go_enter Tryz.func88, Tryz.ntmps88
    go_wp2_with fail
    all_goals
      (refine HW.out.mono ?_); rintro e w2 ⟨rfl, h1, h2⟩
      have H := Lib.hid (And.intro h1 h2)
      clear h1 h2
      go_wp2_with fail
      go_ret
      exact RuQ.bad (HB.out.1.trans H.out.1) H.out.2 HB.out.2
  have ex : ((str x).toList == [105]) = true := lx.2 hx
  by_cases hy : y = tI
  case neg =>
    have ey : ((str y).toList == [105]) = false := by rw [Bool.eq_false_iff]; exact fun h => hy (ly.1 h)
    have hRR : R = .bad 23 a := by rw [hRR]; unfold want; rw [if_neg (fun h => hy h.2)]
    clear ly
    clear hy
    have HW := Lib.hid (want_no a hs1)
    have HB := Lib.hid (And.intro hbt1 hRR)
    clear hs he hgc hs1 hbt1 hRR hcc
    go_enter Tryz.func88, Tryz.ntmps88
    go_wp2_with fail
    all_goals
      (refine HW.out.mono ?_); rintro e w2 ⟨rfl, h1, h2⟩
      have H := Lib.hid (And.intro h1 h2)
      clear h1 h2
      go_wp2_with fail
      go_ret
      exact RuQ.bad (HB.out.1.trans H.out.1) H.out.2 HB.out.2
  have ey : ((str y).toList == [105]) = true := ly.2 hy
  replace hRR : R = .ok tB := by rw [hRR]; unfold want; rw [if_pos ⟨hx, hy⟩]
  clear lx hx
  clear ly hy
  have HW := Lib.hid (want_yes (a : Nat) hs1)
  have HB := Lib.hid (And.intro hbt1 hRR)
  clear hs he hgc hs1 hbt1 hRR hcc
  go_enter Tryz.func88, Tryz.ntmps88
  go_wp2_with fail
  all_goals
    (refine HW.out.mono ?_); rintro e w2 ⟨rfl, h1, h2⟩
    have H := Lib.hid (And.intro h1 h2)
    clear h1 h2
    go_wp2_with fail
    go_ret
    exact RuQ.ok (HB.out.1.trans H.out.1) H.out.2 rfl HB.out.2

set_option maxRecDepth 100000 in
set_option maxHeartbeats 4000000 in
theorem rule_16 (kids nn : Int) (s t u : ByteArray) (ln cl : Int) (L : List Tn) (A : Option Addr) (c wb sb : Nat) (xs : List Value) (a a1 : Nat) (Ac : Option Addr) (cc : Nat) (x : Ty) (w : World) (hs : St L A c wb sb xs a1 w) (he : EnvAt w wb Ac [x]) (hcc : 1 ≤ cc) (ox : okT x) :
    Calls Tryz.prog 88 #[.pointer (some ⟨wb, 0, none⟩), .agg #[.int .i8 16, .int .i64 kids, .int .i64 nn, .string s, .string t, .string u, .int .i64 ln, .int .i64 cl], .slice Ac 1 cc, .int .i64 a] w fun e w' => RuQ (ruleE ⟨16, kids, nn, s, t, u, ln, cl⟩ [x] a) L A c wb sb xs a1 w e w' := by
  obtain ⟨g, o, rfl, hgw, hgl, hgc⟩ := envAt_cells he (by simp)
  obtain ⟨R, hR⟩ : ∃ R, ruleE ⟨16, kids, nn, s, t, u, ln, cl⟩ [x] a = R := ⟨_, rfl⟩
  have hRR : R = want (x = tI) a (.ok tI) := by rw [← hR]; unfold ruleE; simp
  rw [hR]
  clear hR
  have lx := leaf_eq ox 105 (by decide)
  have hcl : wb < w.heap.size := hs.wk.lt
  have hbt1 : Bt wb w (w.alloc (.cells #[.int .i8 16, .int .i64 kids, .int .i64 nn, .string s, .string t, .string u, .int .i64 ln, .int .i64 cl] 60)) := Bt.alloc (But.refl _ _) _
  have hs1 := hs.bt hbt1 (Blk.alloc hs.wk _)
  have q0 : w.cell? ⟨g, o, none⟩ = some (.string (str x)) := hgc 0 _ rfl
  by_cases hx : x = tI
  case neg =>
    have ex : ((str x).toList == [105]) = false := by rw [Bool.eq_false_iff]; exact fun h => hx (lx.1 h)
    have hRR : R = .bad 23 a := by rw [hRR]; unfold want; rw [if_neg (hx)]
    clear lx
    clear hx
    have HW := Lib.hid (want_no a hs1)
    have HB := Lib.hid (And.intro hbt1 hRR)
    clear hs he hgc hs1 hbt1 hRR hcc
    go_enter Tryz.func88, Tryz.ntmps88
    go_wp2_with fail
    all_goals
      (refine HW.out.mono ?_); rintro e w2 ⟨rfl, h1, h2⟩
      have H := Lib.hid (And.intro h1 h2)
      clear h1 h2
      go_wp2_with fail
      go_ret
      exact RuQ.bad (HB.out.1.trans H.out.1) H.out.2 HB.out.2
  have ex : ((str x).toList == [105]) = true := lx.2 hx
  replace hRR : R = .ok tI := by rw [hRR]; unfold want; rw [if_pos hx]
  clear lx hx
  have HW := Lib.hid (want_yes (a : Nat) hs1)
  have HB := Lib.hid (And.intro hbt1 hRR)
  clear hs he hgc hs1 hbt1 hRR hcc
  go_enter Tryz.func88, Tryz.ntmps88
  go_wp2_with fail
  all_goals
    (refine HW.out.mono ?_); rintro e w2 ⟨rfl, h1, h2⟩
    have H := Lib.hid (And.intro h1 h2)
    clear h1 h2
    go_wp2_with fail
    go_ret
    exact RuQ.ok (HB.out.1.trans H.out.1) H.out.2 rfl HB.out.2

set_option maxRecDepth 100000 in
set_option maxHeartbeats 4000000 in
theorem rule_17 (kids nn : Int) (s t u : ByteArray) (ln cl : Int) (L : List Tn) (A : Option Addr) (c wb sb : Nat) (xs : List Value) (a a1 : Nat) (Ac : Option Addr) (cc : Nat) (x : Ty) (w : World) (hs : St L A c wb sb xs a1 w) (he : EnvAt w wb Ac [x]) (hcc : 1 ≤ cc) (ox : okT x) :
    Calls Tryz.prog 88 #[.pointer (some ⟨wb, 0, none⟩), .agg #[.int .i8 17, .int .i64 kids, .int .i64 nn, .string s, .string t, .string u, .int .i64 ln, .int .i64 cl], .slice Ac 1 cc, .int .i64 a] w fun e w' => RuQ (ruleE ⟨17, kids, nn, s, t, u, ln, cl⟩ [x] a) L A c wb sb xs a1 w e w' := by
  obtain ⟨g, o, rfl, hgw, hgl, hgc⟩ := envAt_cells he (by simp)
  obtain ⟨R, hR⟩ : ∃ R, ruleE ⟨17, kids, nn, s, t, u, ln, cl⟩ [x] a = R := ⟨_, rfl⟩
  have hRR : R = want (x = tT) a (.ok tI) := by rw [← hR]; unfold ruleE; simp
  rw [hR]
  clear hR
  have lx := leaf_eq ox 116 (by decide)
  have hcl : wb < w.heap.size := hs.wk.lt
  have hbt1 : Bt wb w (w.alloc (.cells #[.int .i8 17, .int .i64 kids, .int .i64 nn, .string s, .string t, .string u, .int .i64 ln, .int .i64 cl] 60)) := Bt.alloc (But.refl _ _) _
  have hs1 := hs.bt hbt1 (Blk.alloc hs.wk _)
  have q0 : w.cell? ⟨g, o, none⟩ = some (.string (str x)) := hgc 0 _ rfl
  by_cases hx : x = tT
  case neg =>
    have ex : ((str x).toList == [116]) = false := by rw [Bool.eq_false_iff]; exact fun h => hx (lx.1 h)
    have hRR : R = .bad 23 a := by rw [hRR]; unfold want; rw [if_neg (hx)]
    clear lx
    clear hx
    have HW := Lib.hid (want_no a hs1)
    have HB := Lib.hid (And.intro hbt1 hRR)
    clear hs he hgc hs1 hbt1 hRR hcc
    go_enter Tryz.func88, Tryz.ntmps88
    go_wp2_with fail
    all_goals
      (refine HW.out.mono ?_); rintro e w2 ⟨rfl, h1, h2⟩
      have H := Lib.hid (And.intro h1 h2)
      clear h1 h2
      go_wp2_with fail
      go_ret
      exact RuQ.bad (HB.out.1.trans H.out.1) H.out.2 HB.out.2
  have ex : ((str x).toList == [116]) = true := lx.2 hx
  replace hRR : R = .ok tI := by rw [hRR]; unfold want; rw [if_pos hx]
  clear lx hx
  have HW := Lib.hid (want_yes (a : Nat) hs1)
  have HB := Lib.hid (And.intro hbt1 hRR)
  clear hs he hgc hs1 hbt1 hRR hcc
  go_enter Tryz.func88, Tryz.ntmps88
  go_wp2_with fail
  all_goals
    (refine HW.out.mono ?_); rintro e w2 ⟨rfl, h1, h2⟩
    have H := Lib.hid (And.intro h1 h2)
    clear h1 h2
    go_wp2_with fail
    go_ret
    exact RuQ.ok (HB.out.1.trans H.out.1) H.out.2 rfl HB.out.2
end Go.Proofs.YtmagljnlfponaaaGreat.R
