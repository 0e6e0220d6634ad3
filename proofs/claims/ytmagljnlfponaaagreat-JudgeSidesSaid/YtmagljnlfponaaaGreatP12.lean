/- Parts of this claim: CkJ, CkK, CkL. -/
import Derived.Test.YtmagljnlfponaaaGreatP11
set_option linter.unusedVariables false
set_option linter.unusedSimpArgs false
/- CkJ -/
namespace Go.Proofs.YtmagljnlfponaaaGreat.K
open Go.RowKit Go.Proofs.YtmagljnlfponaaaGreat.B Go.Proofs.YtmagljnlfponaaaGreat.T
set_option linter.unusedVariables false
set_option linter.unusedSimpArgs false

theorem blk_cells8 {w : World} {g : Nat} {t : TypeId} {u0 u1 u2 u3 u4 u5 u6 u7 : Value} (h : Blk w g t #[u0, u1, u2, u3, u4, u5, u6, u7]) :
    w.cell? ⟨g, 0, none⟩ = some u0 ∧ w.cell? ⟨g, 1, none⟩ = some u1 ∧ w.cell? ⟨g, 2, none⟩ = some u2 ∧ w.cell? ⟨g, 3, none⟩ = some u3 ∧ w.cell? ⟨g, 4, none⟩ = some u4 ∧ w.cell? ⟨g, 5, none⟩ = some u5 ∧ w.cell? ⟨g, 6, none⟩ = some u6 ∧ w.cell? ⟨g, 7, none⟩ = some u7 :=
  ⟨h.cell 0, h.cell 1, h.cell 2, h.cell 3, h.cell 4, h.cell 5, h.cell 6, h.cell 7⟩
/-- The binders' types in memory, not in block cb. -/
def EnvAt (w : World) (cb : Nat) (A : Option Addr) (env : List Ty) : Prop := env = [] ∨ ∃ b o, A = some ⟨b, o, none⟩ ∧ b ≠ cb ∧ b < w.heap.size ∧ ∀ j t, env[j]? = some t → w.cell? ⟨b, o + j, none⟩ = some (.string (str t))
theorem EnvAt.bt {w w' : World} {cb : Nat} {A : Option Addr} {env : List Ty} (h : EnvAt w cb A env) (hb : Bt cb w w') : EnvAt w' cb A env := by
  rcases h with h | ⟨b, o, h1, h2, h3, h4⟩
  · exact .inl h
  · exact .inr ⟨b, o, h1, h2, Nat.lt_of_lt_of_le h3 hb.size, fun j t ht => (hb.cell (p := ⟨b, o + j, none⟩) h3 h2).trans (h4 j t ht)⟩
/-- Behind typed: a type, and where it stands; or how it ended. -/
def TypQ (R : Rs Ty) (cb : Nat) (A : Option Addr) (N c : Nat) (rl : Value) (a' : Nat) (w : World) (e : Ending) (w' : World) : Prop := Bt cb w w' ∧ match R with
  | .ok t => e = .returned (.string (str t)) ∧ Chk w' cb A N c a' rl
  | .bad E x => e = Flaw E x
theorem TypQ.bad {E : Int} {x cb N c a' : Nat} {A : Option Addr} {rl : Value} {w w' : World} (h : Bt cb w w') : TypQ (.bad E x) cb A N c rl a' w (.panicked [{ v := .iface 111 (.agg #[.int .i64 E, .int .i64 x]), recovered := false }]) w' := ⟨h, rfl⟩
theorem TypQ.ok {t : Ty} {s : ByteArray} {cb N c a' : Nat} {A : Option Addr} {rl : Value} {w w' : World} (h : Bt cb w w') (hc : Chk w' cb A N c a' rl) (hs : s = str t) : TypQ (.ok t) cb A N c rl a' w (.returned (.string s)) w' := ⟨h, by rw [hs], hc⟩
/-- typed's contract, at one tree. -/
def TypP (L : List Tn) (A : Option Addr) (c mb cb c0 c1 c2 c3 : Nat) (n : Tn) (k : Tf) : Prop := ∀ (a : Nat) (rest : List Tn) (env : List Ty) (Ae : Option Addr) (ce : Nat) (w : World), L.drop a = n :: (k.list ++ rest) → Tf.wf (.cons n k .nil) → (∀ t ∈ env, okT t) → env.length ≤ ce → env.length + 2 * (k.high + 1) ≤ 100000 →
  EnvAt w cb Ae env → Chk w cb A L.length c a (.map (some mb)) → LT w cb A L → RulesAt w cb mb c0 c1 c2 c3 →
  Calls Tryz.prog 54 #[.pointer (some ⟨cb, 0, none⟩), .slice Ae env.length ce] w fun e w' => TypQ (tyT n k env a) cb A L.length c (.map (some mb)) (a + 1 + k.sz) w e w'


set_option maxRecDepth 100000 in
set_option maxHeartbeats 4000000 in
theorem typed_bad (kd : Int) (kids nn : Int) (s t u : ByteArray) (ln cl : Int) (L : List Tn) (A : Option Addr) (c mb cb c0 c1 c2 c3 : Nat) (k : Tf) (a : Nat) (env : List Ty) (Ae : Option Addr) (ce : Nat) (w : World)
    (hn : L[a]? = some ⟨kd, kids, nn, s, t, u, ln, cl⟩) (hsm : Tn.small ⟨kd, kids, nn, s, t, u, ln, cl⟩) (hen : EnvAt w cb Ae env) (henv : ∀ t ∈ env, okT t) (henc : env.length ≤ ce) (henl : env.length ≤ 100000) (hc : Chk w cb A L.length c a (.map (some mb))) (hL : LT w cb A L) (hrl : RulesAt w cb mb c0 c1 c2 c3) (hN : L.length ≤ 1000000) (hLc : L.length ≤ c) (E : Int) (hE0 : wordsE ⟨kd, kids, nn, s, t, u, ln, cl⟩ env.length = E) (hE1 : E ≠ 0) :
    Calls Tryz.prog 54 #[.pointer (some ⟨cb, 0, none⟩), .slice Ae env.length ce] w fun e w' => TypQ (.bad E a) cb A L.length c (.map (some mb)) (a + 1 + k.sz) w e w' := by
  have HE := Lib.hid (And.intro hE0 hE1)
  clear hE0 hE1
  obtain ⟨c0', c1', c2'⟩ := hc.cells
  have hcl : cb < w.heap.size := hc.lt
  have hal : a < L.length := (List.getElem?_eq_some_iff.1 hn).1
  obtain ⟨b, o, rfl, hbc, hbl, q0, q1, q2, q3, q4, q5, q6, q7⟩ := hL.node hn
  simp only at q0 q1 q2 q3 q4 q5 q6 q7
  have hwd := fun W => words_any ⟨kd, kids, nn, s, t, u, ln, cl⟩ a env.length W hsm
  unfold Tn.val at hwd
  simp only at hwd
  obtain ⟨N, hNe⟩ : ∃ N, L.length = N := ⟨_, rfl⟩
  rw [hNe] at c0' hal hN hLc hc ⊢
  obtain ⟨EL, hEL⟩ : ∃ x, env.length = x := ⟨_, rfl⟩
  rw [hEL] at hwd henl HE ⊢
  have hcr := hc.frozen 1
  have hbk : Blk (w.alloc (.cells #[.int .i8 kd, .int .i64 kids, .int .i64 nn, .string s, .string t, .string u, .int .i64 ln, .int .i64 cl] 60)) w.heap.size 60 #[.int .i8 kd, .int .i64 kids, .int .i64 nn, .string s, .string t, .string u, .int .i64 ln, .int .i64 cl] := Blk.new _ _ _
  have hck : Chk (w.alloc (.cells #[.int .i8 kd, .int .i64 kids, .int .i64 nn, .string s, .string t, .string u, .int .i64 ln, .int .i64 cl] 60)) cb (some ⟨b, o, none⟩) N c a (.map (some mb)) := Blk.alloc hc _
  have HW0 := Lib.hid (And.intro hck (And.intro hbk (And.intro hNe hEL)))
  have HWD := Lib.hid hwd
  have HIN := Lib.hid (And.intro hL (And.intro hen hrl))
  clear hc hck hbk hNe hEL hwd hL hen hrl hcr
  go_enter Tryz.func54, Tryz.ntmps54
  go_upto_region 3 with fail
  obtain ⟨hck, hbk, hNe, hEL⟩ := HW0.out
  obtain ⟨W1, hW1⟩ : ∃ W1, w.alloc (.cells #[.int .i8 kd, .int .i64 kids, .int .i64 nn, .string s, .string t, .string u, .int .i64 ln, .int .i64 cl] 60) = W1 := ⟨_, rfl⟩
  have hbt0 : Bt cb w W1 := by rw [← hW1]; exact Bt.alloc (But.refl _ _) _
  rw [hW1] at hck hbk ⊢
  obtain ⟨p0, p1, p2⟩ := hck.cells
  have pf := hck.frozen 1
  have HW1 := Lib.hid (And.intro hck (And.intro hbk (And.intro hbt0 (And.intro hNe hEL))))
  clear hW1 hck hbk hbt0 hNe hEL HW0 c0' c1' c2' q0 q1 q2 q3 q4 q5 q6 q7
  go_upto_region 4 with fail
  obtain ⟨hck, hbk, hbt0, hNe, hEL⟩ := HW1.out
  obtain ⟨W2, hW2⟩ : ∃ W2, W1.setCell ⟨cb, 1, none⟩ (.int .i64 ((a : Int) + 1)) = W2 := ⟨_, rfl⟩
  have hc1 : Chk W2 cb (some ⟨b, o, none⟩) N c ((a : Int) + 1) (.map (some mb)) := by rw [← hW2]; exact hck.set _
  have hbk1 : Blk W2 w.heap.size 60 #[.int .i8 kd, .int .i64 kids, .int .i64 nn, .string s, .string t, .string u, .int .i64 ln, .int .i64 cl] := by rw [← hW2]; exact hbk.far (p := ⟨cb, 1, none⟩) (show w.heap.size ≠ cb by omega) _
  have hbt1 : Bt cb w W2 := by rw [← hW2]; exact hbt0.set_ 1 _
  have HW := Lib.hid (And.intro hc1 (And.intro hbk1 (And.intro hbt1 (And.intro hNe hEL))))
  rw [hW2]
  clear hck hbk hbt0 hNe hEL hc1 hbk1 hbt1 HW1
  obtain ⟨n0, n1, n2, n3, n4, n5, n6, n7⟩ := blk_cells8 HW.out.2.1
  clear hW2 p0 p1 p2 pf
  go_wp2_with fail
  (refine (HWD.out _).mono ?_); rintro e W3 ⟨he, hb3⟩
  rw [HE.out.1, if_neg HE.out.2] at he
  subst he
  have HB := Lib.hid (HW.out.2.2.1.trans (Bt.below hb3))
  clear hb3
  unfold Flaw
  go_wp2_with fail
  exact bodyPost_panic rfl (TypQ.bad HB.out)


set_option maxRecDepth 100000 in
set_option maxHeartbeats 4000000 in
theorem typed_var (kids nn : Int) (s t u : ByteArray) (ln cl : Int) (L : List Tn) (A : Option Addr) (c mb cb c0 c1 c2 c3 : Nat) (k : Tf) (a : Nat) (env : List Ty) (Ae : Option Addr) (ce : Nat) (w : World)
    (hn : L[a]? = some ⟨4, kids, nn, s, t, u, ln, cl⟩) (hsm : Tn.small ⟨4, kids, nn, s, t, u, ln, cl⟩) (hen : EnvAt w cb Ae env) (henv : ∀ t ∈ env, okT t) (henc : env.length ≤ ce) (henl : env.length ≤ 100000) (hc : Chk w cb A L.length c a (.map (some mb))) (hL : LT w cb A L) (hrl : RulesAt w cb mb c0 c1 c2 c3) (hN : L.length ≤ 1000000) (hLc : L.length ≤ c) (hE : wordsE ⟨4, kids, nn, s, t, u, ln, cl⟩ env.length = 0) (hk : k.sz = 0) :
    Calls Tryz.prog 54 #[.pointer (some ⟨cb, 0, none⟩), .slice Ae env.length ce] w fun e w' => TypQ (.ok (env.getD nn.toNat tI)) cb A L.length c (.map (some mb)) (a + 1 + k.sz) w e w' := by
  have HE := Lib.hid hE
  have hnn : 0 ≤ nn ∧ nn < env.length := by
    unfold wordsE at hE
    simp only [show ¬ ((4 : Int) = 2) by decide, show ¬ ((4 : Int) = 3) by decide, if_false, if_true] at hE
    split at hE
    · rename_i h; exact h
    · cases hE
  obtain ⟨j, hj⟩ : ∃ j : Nat, nn = j := ⟨nn.toNat, by omega⟩
  subst hj
  have hjl : j < env.length := by omega
  obtain ⟨T, hT⟩ : ∃ T, env[j]? = some T := ⟨_, List.getElem?_eq_getElem hjl⟩
  have hTd : env.getD (j : Int).toNat tI = T := by rw [Int.toNat_natCast, List.getD_eq_getElem?_getD, hT]; rfl
  rw [hTd]
  obtain ⟨eb, eo, rfl, he1, he2, he3⟩ := hen.resolve_left (fun e => by rw [e] at hjl; simp at hjl)
  have hec := he3 j T hT
  have HEC := Lib.hid (And.intro he1 (And.intro he2 hec))
  have HKZ := Lib.hid hk
  clear hE hnn hTd hT hk
  have hen : EnvAt w cb (some ⟨eb, eo, none⟩) env := .inr ⟨eb, eo, rfl, he1, he2, he3⟩
  clear he1 he2 he3 hec
  obtain ⟨c0', c1', c2'⟩ := hc.cells
  have hcl : cb < w.heap.size := hc.lt
  have hal : a < L.length := (List.getElem?_eq_some_iff.1 hn).1
  obtain ⟨b, o, rfl, hbc, hbl, q0, q1, q2, q3, q4, q5, q6, q7⟩ := hL.node hn
  simp only at q0 q1 q2 q3 q4 q5 q6 q7
  have hwd := fun W => words_any ⟨4, kids, (j : Int), s, t, u, ln, cl⟩ a env.length W hsm
  unfold Tn.val at hwd
  simp only at hwd
  obtain ⟨N, hNe⟩ : ∃ N, L.length = N := ⟨_, rfl⟩
  rw [hNe] at c0' hal hN hLc hc ⊢
  obtain ⟨EL, hEL⟩ : ∃ x, env.length = x := ⟨_, rfl⟩
  rw [hEL] at hwd henl HE hjl henc ⊢
  have hcr := hc.frozen 1
  have hbk : Blk (w.alloc (.cells #[.int .i8 4, .int .i64 kids, .int .i64 (j : Int), .string s, .string t, .string u, .int .i64 ln, .int .i64 cl] 60)) w.heap.size 60 #[.int .i8 4, .int .i64 kids, .int .i64 (j : Int), .string s, .string t, .string u, .int .i64 ln, .int .i64 cl] := Blk.new _ _ _
  have hck : Chk (w.alloc (.cells #[.int .i8 4, .int .i64 kids, .int .i64 (j : Int), .string s, .string t, .string u, .int .i64 ln, .int .i64 cl] 60)) cb (some ⟨b, o, none⟩) N c a (.map (some mb)) := Blk.alloc hc _
  have HW0 := Lib.hid (And.intro hck (And.intro hbk (And.intro hNe hEL)))
  have HWD := Lib.hid hwd
  have HIN := Lib.hid (And.intro hL (And.intro hen hrl))
  clear hc hck hbk hNe hEL hwd hL hen hrl hcr
  go_enter Tryz.func54, Tryz.ntmps54
  go_upto_region 3 with fail
  obtain ⟨hck, hbk, hNe, hEL⟩ := HW0.out
  obtain ⟨W1, hW1⟩ : ∃ W1, w.alloc (.cells #[.int .i8 4, .int .i64 kids, .int .i64 (j : Int), .string s, .string t, .string u, .int .i64 ln, .int .i64 cl] 60) = W1 := ⟨_, rfl⟩
  have hbt0 : Bt cb w W1 := by rw [← hW1]; exact Bt.alloc (But.refl _ _) _
  rw [hW1] at hck hbk ⊢
  obtain ⟨p0, p1, p2⟩ := hck.cells
  have pf := hck.frozen 1
  have HW1 := Lib.hid (And.intro hck (And.intro hbk (And.intro hbt0 (And.intro hNe hEL))))
  clear hW1 hck hbk hbt0 hNe hEL HW0 c0' c1' c2' q0 q1 q2 q3 q4 q5 q6 q7
  go_upto_region 4 with fail
  obtain ⟨hck, hbk, hbt0, hNe, hEL⟩ := HW1.out
  obtain ⟨W2, hW2⟩ : ∃ W2, W1.setCell ⟨cb, 1, none⟩ (.int .i64 ((a : Int) + 1)) = W2 := ⟨_, rfl⟩
  have hc1 : Chk W2 cb (some ⟨b, o, none⟩) N c ((a : Int) + 1) (.map (some mb)) := by rw [← hW2]; exact hck.set _
  have hbk1 : Blk W2 w.heap.size 60 #[.int .i8 4, .int .i64 kids, .int .i64 (j : Int), .string s, .string t, .string u, .int .i64 ln, .int .i64 cl] := by rw [← hW2]; exact hbk.far (p := ⟨cb, 1, none⟩) (show w.heap.size ≠ cb by omega) _
  have hbt1 : Bt cb w W2 := by rw [← hW2]; exact hbt0.set_ 1 _
  have HW := Lib.hid (And.intro hc1 (And.intro hbk1 (And.intro hbt1 (And.intro hNe hEL))))
  rw [hW2]
  clear hck hbk hbt0 hNe hEL hc1 hbk1 hbt1 HW1
  obtain ⟨n0, n1, n2, n3, n4, n5, n6, n7⟩ := blk_cells8 HW.out.2.1
  clear hW2 p0 p1 p2 pf
  go_wp2_with fail
  (refine (HWD.out _).mono ?_); rintro e W3 ⟨he, hb3⟩
  rw [if_pos HE.out] at he
  subst he
  have hbt3 : Bt cb w W3 := HW.out.2.2.1.trans (Bt.below hb3)
  have hc3 : Chk W3 cb (some ⟨b, o, none⟩) N c ((a : Int) + 1) (.map (some mb)) := HW.out.1.below hb3 HW.out.1.lt
  have hb3' : Blk W3 w.heap.size 60 #[.int .i8 4, .int .i64 kids, .int .i64 (j : Int), .string s, .string t, .string u, .int .i64 ln, .int .i64 cl] := HW.out.2.1.below hb3 HW.out.2.1.lt
  have H3 := Lib.hid (And.intro hbt3 (And.intro hc3 (And.intro hb3' (And.intro HW.out.2.2.2.1 (And.intro HW.out.2.2.2.2 hb3.size)))))
  clear n0 n1 n2 n3 n4 n5 n6 n7 hb3 hbt3 hc3
  obtain ⟨n0, n1, n2, n3, n4, n5, n6, n7⟩ := blk_cells8 hb3'
  clear hb3'
  have hce := (H3.out.1.cell (p := ⟨eb, eo + j, none⟩) HEC.out.2.1 HEC.out.1).trans HEC.out.2.2
  go_wp2_with fail
  go_ret
  exact TypQ.ok H3.out.1 (by rw [HKZ.out]; exact H3.out.2.1) rfl
end Go.Proofs.YtmagljnlfponaaaGreat.K

/- CkK -/
namespace Go.Proofs.YtmagljnlfponaaaGreat.K
open Go.RowKit Go.Proofs.YtmagljnlfponaaaGreat.B Go.Proofs.YtmagljnlfponaaaGreat.T
set_option linter.unusedVariables false
set_option linter.unusedSimpArgs false

/-- The kids' types in memory. -/
def KidsAt (W : World) (A : Option Addr) (ts : List Ty) : Prop := ts = [] ∨ ∃ g, A = some ⟨g, 0, none⟩ ∧ g < W.heap.size ∧ ∀ j t, ts[j]? = some t → W.cell? ⟨g, j, none⟩ = some (.string (str t))
theorem if_dec {p : Prop} [Decidable p] {r : Bool} (h : r = true ↔ p) {α : Type} {x y : α} : (if r = true then x else y) = if p then x else y := by
  by_cases hp : p
  · rw [if_pos hp, if_pos (h.2 hp)]
  · rw [if_neg hp, if_neg (fun e => hp (h.1 e))]
theorem want_if {p : Prop} {r : Bool} (h : r = true ↔ p) {a : Nat} {t : Ty} : want p a (.ok t) = if r = true then .ok t else .bad 23 a := by
  by_cases hp : p
  · rw [want_pos hp, if_pos (h.2 hp)]
  · rw [want_neg hp, if_neg (fun e => hp (h.1 e))]
theorem size64 {x : Ty} (h : okT x) : (str x).size ≤ 64 := by rw [str_size]; exact h.2
theorem str_cell1 {x : Ty} (hx : x.ok) (c : UInt8) (h0 : arB c = 0) : ((str x).toList == [c]) = true ↔ x = .leaf c := by
  have h := strEq hx (y := .leaf c) h0
  rw [str_leafB, Lib.toList_data ⟨#[c]⟩] at h
  exact h


theorem rule_1 (cp kv : Value) (kids nn : Int) (s t u : ByteArray) (ln cl : Int) (ts : List Ty) (a : Nat) (W : World) :
    Calls Tryz.prog 63 #[cp, .agg #[.int .i8 1, .int .i64 kids, .int .i64 nn, .string s, .string t, .string u, .int .i64 ln, .int .i64 cl], kv, .int .i64 (a : Nat)] W fun e w' => RuleQ (ruleE ⟨1, kids, nn, s, t, u, ln, cl⟩ ts a) W e w' := leaf_x cp kv 1 kids nn s t u ln cl a tI W (by simp)

theorem rule_2 (cp kv : Value) (kids nn : Int) (s t u : ByteArray) (ln cl : Int) (ts : List Ty) (a : Nat) (W : World) :
    Calls Tryz.prog 63 #[cp, .agg #[.int .i8 2, .int .i64 kids, .int .i64 nn, .string s, .string t, .string u, .int .i64 ln, .int .i64 cl], kv, .int .i64 (a : Nat)] W fun e w' => RuleQ (ruleE ⟨2, kids, nn, s, t, u, ln, cl⟩ ts a) W e w' := leaf_x cp kv 2 kids nn s t u ln cl a tT W (by simp)

theorem rule_3 (cp kv : Value) (kids nn : Int) (s t u : ByteArray) (ln cl : Int) (ts : List Ty) (a : Nat) (W : World) :
    Calls Tryz.prog 63 #[cp, .agg #[.int .i8 3, .int .i64 kids, .int .i64 nn, .string s, .string t, .string u, .int .i64 ln, .int .i64 cl], kv, .int .i64 (a : Nat)] W fun e w' => RuleQ (ruleE ⟨3, kids, nn, s, t, u, ln, cl⟩ ts a) W e w' := leaf_x cp kv 3 kids nn s t u ln cl a tB W (by simp)

theorem rule_30 (cp : Value) (kids nn : Int) (s t u : ByteArray) (ln cl : Int) (ts : List Ty) (A : Option Addr) (cV a : Nat) (W : World) (hts : ∀ t ∈ ts, okT t) (hl : ts.length = 1) (hc : 1 ≤ cV) (hk : KidsAt W A ts) (ht : isB t = true) (hu : isB u = true) :
    Calls Tryz.prog 64 #[cp, .agg #[.int .i8 30, .int .i64 kids, .int .i64 nn, .string s, .string t, .string u, .int .i64 ln, .int .i64 cl], .slice A 1 cV, .int .i64 (a : Nat)] W fun e w' => RuleQ (ruleE ⟨30, kids, nn, s, t, u, ln, cl⟩ ts a) W e w' := by
  match ts, hl with
  | [x], _ =>
    obtain ⟨g, rfl, hg, hc0⟩ := hk.resolve_left (by simp)
    have h0 := hc0 0 x rfl
    have k0 := hts x (by simp)
    have hz : W.heap.size = W.heap.size := rfl
    have hr : ruleE ⟨30, kids, nn, s, t, u, ln, cl⟩ [x] a = want (x = ty t) a (.ok (ty u)) := rfl
    rw [hr]
    have q := strEq k0.1 (okT_ty ht).1
    rw [← (ty_spec ht).2.1] at q
    exact cast_x cp 30 kids nn s t u ln cl g cV a (str x) _ W h0 hg hc _ rfl (ty u) (ty_spec hu).2.1 (want_if q)

theorem rule_7 (cp : Value) (kids nn : Int) (s t u : ByteArray) (ln cl : Int) (ts : List Ty) (A : Option Addr) (cV a : Nat) (W : World) (hts : ∀ t ∈ ts, okT t) (hl : ts.length = 2) (hc : 2 ≤ cV) (hk : KidsAt W A ts)  :
    Calls Tryz.prog 65 #[cp, .agg #[.int .i8 7, .int .i64 kids, .int .i64 nn, .string s, .string t, .string u, .int .i64 ln, .int .i64 cl], .slice A 2 cV, .int .i64 (a : Nat)] W fun e w' => RuleQ (ruleE ⟨7, kids, nn, s, t, u, ln, cl⟩ ts a) W e w' := by
  match ts, hl with
  | [x, y], _ =>
    obtain ⟨g, rfl, hg, hc0⟩ := hk.resolve_left (by simp)
    have h0 := hc0 0 x rfl
    have k0 := hts x (by simp)
    have h1 := hc0 1 y rfl
    have k1 := hts y (by simp)
    have hz : W.heap.size = W.heap.size := rfl
    have hr : ruleE ⟨7, kids, nn, s, t, u, ln, cl⟩ [x, y] a = want (x.head = 62 ∧ x.kids.getD 0 tI = y) a (.ok (x.kids.getD 1 tI)) := rfl
    rw [hr]
    exact call_x cp 7 kids nn s t u ln cl g cV a (str x) (str y) x k0 rfl _ W h0 h1 hg hc y k1 rfl rfl

theorem rule_9 (cp : Value) (kids nn : Int) (s t u : ByteArray) (ln cl : Int) (ts : List Ty) (A : Option Addr) (cV a : Nat) (W : World) (hts : ∀ t ∈ ts, okT t) (hl : ts.length = 3) (hc : 3 ≤ cV) (hk : KidsAt W A ts)  :
    Calls Tryz.prog 66 #[cp, .agg #[.int .i8 9, .int .i64 kids, .int .i64 nn, .string s, .string t, .string u, .int .i64 ln, .int .i64 cl], .slice A 3 cV, .int .i64 (a : Nat)] W fun e w' => RuleQ (ruleE ⟨9, kids, nn, s, t, u, ln, cl⟩ ts a) W e w' := by
  match ts, hl with
  | [x, y, z], _ =>
    obtain ⟨g, rfl, hg, hc0⟩ := hk.resolve_left (by simp)
    have h0 := hc0 0 x rfl
    have k0 := hts x (by simp)
    have h1 := hc0 1 y rfl
    have k1 := hts y (by simp)
    have h2 := hc0 2 z rfl
    have k2 := hts z (by simp)
    have hz : W.heap.size = W.heap.size := rfl
    have hr : ruleE ⟨9, kids, nn, s, t, u, ln, cl⟩ [x, y, z] a = want (x = tB ∧ y = z) a (.ok y) := rfl
    rw [hr]
    have q1 := str_cell1 k0.1 98 (by decide)
    have q2 := strEq k1.1 k2.1
    exact choice_x cp 9 kids nn s t u ln cl g cV a (str x) (str y) (str z) _ W h0 h1 h2 hg hc _ _ rfl rfl y rfl (want_if (by rw [Bool.and_eq_true]; exact and_congr q1 q2))

theorem rule_18 (cp : Value) (kids nn : Int) (s t u : ByteArray) (ln cl : Int) (ts : List Ty) (A : Option Addr) (cV a : Nat) (W : World) (hts : ∀ t ∈ ts, okT t) (hl : ts.length = 2) (hc : 2 ≤ cV) (hk : KidsAt W A ts)  :
    Calls Tryz.prog 67 #[cp, .agg #[.int .i8 18, .int .i64 kids, .int .i64 nn, .string s, .string t, .string u, .int .i64 ln, .int .i64 cl], .slice A 2 cV, .int .i64 (a : Nat)] W fun e w' => RuleQ (ruleE ⟨18, kids, nn, s, t, u, ln, cl⟩ ts a) W e w' := by
  match ts, hl with
  | [x, y], _ =>
    obtain ⟨g, rfl, hg, hc0⟩ := hk.resolve_left (by simp)
    have h0 := hc0 0 x rfl
    have k0 := hts x (by simp)
    have h1 := hc0 1 y rfl
    have k1 := hts y (by simp)
    have hz : W.heap.size = W.heap.size := rfl
    have hr : ruleE ⟨18, kids, nn, s, t, u, ln, cl⟩ [x, y] a = made (.bin 44 x y) a := rfl
    rw [hr]
    exact pair_x cp 18 kids nn s t u ln cl g cV a (str x) (str y) _ W h0 h1 hg hc (size64 k0) (size64 k1) (.bin 44 x y) (str_bin _ _ _) rfl

theorem rule_19 (cp : Value) (kids nn : Int) (s t u : ByteArray) (ln cl : Int) (ts : List Ty) (A : Option Addr) (cV a : Nat) (W : World) (hts : ∀ t ∈ ts, okT t) (hl : ts.length = 1) (hc : 1 ≤ cV) (hk : KidsAt W A ts)  :
    Calls Tryz.prog 68 #[cp, .agg #[.int .i8 19, .int .i64 kids, .int .i64 nn, .string s, .string t, .string u, .int .i64 ln, .int .i64 cl], .slice A 1 cV, .int .i64 (a : Nat)] W fun e w' => RuleQ (ruleE ⟨19, kids, nn, s, t, u, ln, cl⟩ ts a) W e w' := by
  match ts, hl with
  | [x], _ =>
    obtain ⟨g, rfl, hg, hc0⟩ := hk.resolve_left (by simp)
    have h0 := hc0 0 x rfl
    have k0 := hts x (by simp)
    have hz : W.heap.size = W.heap.size := rfl
    have hr : ruleE ⟨19, kids, nn, s, t, u, ln, cl⟩ [x] a = want (x.head = 44) a (.ok (x.kids.getD 0 tI)) := rfl
    rw [hr]
    exact half_19 cp kids nn s t u ln cl g cV a (str x) x k0 rfl _ W h0 hg hc rfl

theorem rule_20 (cp : Value) (kids nn : Int) (s t u : ByteArray) (ln cl : Int) (ts : List Ty) (A : Option Addr) (cV a : Nat) (W : World) (hts : ∀ t ∈ ts, okT t) (hl : ts.length = 1) (hc : 1 ≤ cV) (hk : KidsAt W A ts)  :
    Calls Tryz.prog 68 #[cp, .agg #[.int .i8 20, .int .i64 kids, .int .i64 nn, .string s, .string t, .string u, .int .i64 ln, .int .i64 cl], .slice A 1 cV, .int .i64 (a : Nat)] W fun e w' => RuleQ (ruleE ⟨20, kids, nn, s, t, u, ln, cl⟩ ts a) W e w' := by
  match ts, hl with
  | [x], _ =>
    obtain ⟨g, rfl, hg, hc0⟩ := hk.resolve_left (by simp)
    have h0 := hc0 0 x rfl
    have k0 := hts x (by simp)
    have hz : W.heap.size = W.heap.size := rfl
    have hr : ruleE ⟨20, kids, nn, s, t, u, ln, cl⟩ [x] a = want (x.head = 44) a (.ok (x.kids.getD 1 tI)) := rfl
    rw [hr]
    exact half_20 cp kids nn s t u ln cl g cV a (str x) x k0 rfl _ W h0 hg hc rfl

theorem rule_22 (cp : Value) (kids nn : Int) (s t u : ByteArray) (ln cl : Int) (ts : List Ty) (A : Option Addr) (cV a : Nat) (W : World) (hts : ∀ t ∈ ts, okT t) (hl : ts.length = 1) (hc : 1 ≤ cV) (hk : KidsAt W A ts)  :
    Calls Tryz.prog 70 #[cp, .agg #[.int .i8 22, .int .i64 kids, .int .i64 nn, .string s, .string t, .string u, .int .i64 ln, .int .i64 cl], .slice A 1 cV, .int .i64 (a : Nat)] W fun e w' => RuleQ (ruleE ⟨22, kids, nn, s, t, u, ln, cl⟩ ts a) W e w' := by
  match ts, hl with
  | [x], _ =>
    obtain ⟨g, rfl, hg, hc0⟩ := hk.resolve_left (by simp)
    have h0 := hc0 0 x rfl
    have k0 := hts x (by simp)
    have hz : W.heap.size = W.heap.size := rfl
    have hr : ruleE ⟨22, kids, nn, s, t, u, ln, cl⟩ [x] a = want (x.head = 108) a (.ok (x.kids.getD 0 tI)) := rfl
    rw [hr]
    exact of_22 cp kids nn s t u ln cl g cV a (str x) x k0 rfl _ W h0 hg hc rfl

theorem rule_23 (cp : Value) (kids nn : Int) (s t u : ByteArray) (ln cl : Int) (ts : List Ty) (A : Option Addr) (cV a : Nat) (W : World) (hts : ∀ t ∈ ts, okT t) (hl : ts.length = 1) (hc : 1 ≤ cV) (hk : KidsAt W A ts)  :
    Calls Tryz.prog 70 #[cp, .agg #[.int .i8 23, .int .i64 kids, .int .i64 nn, .string s, .string t, .string u, .int .i64 ln, .int .i64 cl], .slice A 1 cV, .int .i64 (a : Nat)] W fun e w' => RuleQ (ruleE ⟨23, kids, nn, s, t, u, ln, cl⟩ ts a) W e w' := by
  match ts, hl with
  | [x], _ =>
    obtain ⟨g, rfl, hg, hc0⟩ := hk.resolve_left (by simp)
    have h0 := hc0 0 x rfl
    have k0 := hts x (by simp)
    have hz : W.heap.size = W.heap.size := rfl
    have hr : ruleE ⟨23, kids, nn, s, t, u, ln, cl⟩ [x] a = want (x.head = 108) a (.ok x) := rfl
    rw [hr]
    exact of_23 cp kids nn s t u ln cl g cV a (str x) x k0 rfl _ W h0 hg hc rfl

theorem rule_24 (cp : Value) (kids nn : Int) (s t u : ByteArray) (ln cl : Int) (ts : List Ty) (A : Option Addr) (cV a : Nat) (W : World) (hts : ∀ t ∈ ts, okT t) (hl : ts.length = 1) (hc : 1 ≤ cV) (hk : KidsAt W A ts)  :
    Calls Tryz.prog 70 #[cp, .agg #[.int .i8 24, .int .i64 kids, .int .i64 nn, .string s, .string t, .string u, .int .i64 ln, .int .i64 cl], .slice A 1 cV, .int .i64 (a : Nat)] W fun e w' => RuleQ (ruleE ⟨24, kids, nn, s, t, u, ln, cl⟩ ts a) W e w' := by
  match ts, hl with
  | [x], _ =>
    obtain ⟨g, rfl, hg, hc0⟩ := hk.resolve_left (by simp)
    have h0 := hc0 0 x rfl
    have k0 := hts x (by simp)
    have hz : W.heap.size = W.heap.size := rfl
    have hr : ruleE ⟨24, kids, nn, s, t, u, ln, cl⟩ [x] a = want (x.head = 108) a (.ok tB) := rfl
    rw [hr]
    exact of_24 cp kids nn s t u ln cl g cV a (str x) x k0 rfl _ W h0 hg hc rfl

theorem rule_25 (cp : Value) (kids nn : Int) (s t u : ByteArray) (ln cl : Int) (ts : List Ty) (A : Option Addr) (cV a : Nat) (W : World) (hts : ∀ t ∈ ts, okT t) (hl : ts.length = 2) (hc : 2 ≤ cV) (hk : KidsAt W A ts)  :
    Calls Tryz.prog 71 #[cp, .agg #[.int .i8 25, .int .i64 kids, .int .i64 nn, .string s, .string t, .string u, .int .i64 ln, .int .i64 cl], .slice A 2 cV, .int .i64 (a : Nat)] W fun e w' => RuleQ (ruleE ⟨25, kids, nn, s, t, u, ln, cl⟩ ts a) W e w' := by
  match ts, hl with
  | [x, y], _ =>
    obtain ⟨g, rfl, hg, hc0⟩ := hk.resolve_left (by simp)
    have h0 := hc0 0 x rfl
    have k0 := hts x (by simp)
    have h1 := hc0 1 y rfl
    have k1 := hts y (by simp)
    have hz : W.heap.size = W.heap.size := rfl
    have hr : ruleE ⟨25, kids, nn, s, t, u, ln, cl⟩ [x, y] a = want (y = .un 108 x) a (.ok y) := rfl
    rw [hr]
    have q := strEq (x := y) (y := .un 108 x) k1.1 ⟨by decide, k0.1⟩
    rw [← str_un] at q
    exact cons_x cp 25 kids nn s t u ln cl g cV a (str x) (str y) _ W h0 h1 hg hc (size64 k0) _ rfl y rfl (want_if q)

theorem rule_26 (cp : Value) (kids nn : Int) (s t u : ByteArray) (ln cl : Int) (ts : List Ty) (A : Option Addr) (cV a : Nat) (W : World) (hts : ∀ t ∈ ts, okT t) (hl : ts.length = 1) (hc : 1 ≤ cV) (hk : KidsAt W A ts)  :
    Calls Tryz.prog 72 #[cp, .agg #[.int .i8 26, .int .i64 kids, .int .i64 nn, .string s, .string t, .string u, .int .i64 ln, .int .i64 cl], .slice A 1 cV, .int .i64 (a : Nat)] W fun e w' => RuleQ (ruleE ⟨26, kids, nn, s, t, u, ln, cl⟩ ts a) W e w' := by
  match ts, hl with
  | [x], _ =>
    obtain ⟨g, rfl, hg, hc0⟩ := hk.resolve_left (by simp)
    have h0 := hc0 0 x rfl
    have k0 := hts x (by simp)
    have hz : W.heap.size = W.heap.size := rfl
    have hr : ruleE ⟨26, kids, nn, s, t, u, ln, cl⟩ [x] a = made (.un 120 x) a := rfl
    rw [hr]
    exact box_x cp 26 kids nn s t u ln cl g cV a (str x) _ W h0 hg hc (size64 k0) (.un 120 x) (str_un _ _) rfl

theorem rule_27 (cp : Value) (kids nn : Int) (s t u : ByteArray) (ln cl : Int) (ts : List Ty) (A : Option Addr) (cV a : Nat) (W : World) (hts : ∀ t ∈ ts, okT t) (hl : ts.length = 1) (hc : 1 ≤ cV) (hk : KidsAt W A ts)  :
    Calls Tryz.prog 73 #[cp, .agg #[.int .i8 27, .int .i64 kids, .int .i64 nn, .string s, .string t, .string u, .int .i64 ln, .int .i64 cl], .slice A 1 cV, .int .i64 (a : Nat)] W fun e w' => RuleQ (ruleE ⟨27, kids, nn, s, t, u, ln, cl⟩ ts a) W e w' := by
  match ts, hl with
  | [x], _ =>
    obtain ⟨g, rfl, hg, hc0⟩ := hk.resolve_left (by simp)
    have h0 := hc0 0 x rfl
    have k0 := hts x (by simp)
    have hz : W.heap.size = W.heap.size := rfl
    have hr : ruleE ⟨27, kids, nn, s, t, u, ln, cl⟩ [x] a = want (x.head = 120) a (.ok (x.kids.getD 0 tI)) := rfl
    rw [hr]
    exact get_x cp 27 kids nn s t u ln cl g cV a (str x) x k0 rfl _ W h0 hg hc rfl

theorem rule_28 (cp : Value) (kids nn : Int) (s t u : ByteArray) (ln cl : Int) (ts : List Ty) (A : Option Addr) (cV a : Nat) (W : World) (hts : ∀ t ∈ ts, okT t) (hl : ts.length = 2) (hc : 2 ≤ cV) (hk : KidsAt W A ts)  :
    Calls Tryz.prog 74 #[cp, .agg #[.int .i8 28, .int .i64 kids, .int .i64 nn, .string s, .string t, .string u, .int .i64 ln, .int .i64 cl], .slice A 2 cV, .int .i64 (a : Nat)] W fun e w' => RuleQ (ruleE ⟨28, kids, nn, s, t, u, ln, cl⟩ ts a) W e w' := by
  match ts, hl with
  | [x, y], _ =>
    obtain ⟨g, rfl, hg, hc0⟩ := hk.resolve_left (by simp)
    have h0 := hc0 0 x rfl
    have k0 := hts x (by simp)
    have h1 := hc0 1 y rfl
    have k1 := hts y (by simp)
    have hz : W.heap.size = W.heap.size := rfl
    have hr : ruleE ⟨28, kids, nn, s, t, u, ln, cl⟩ [x, y] a = want (x = .un 120 y) a (.ok y) := rfl
    rw [hr]
    have q := strEq (x := x) (y := .un 120 y) k0.1 ⟨by decide, k1.1⟩
    rw [← str_un] at q
    exact set_x cp 28 kids nn s t u ln cl g cV a (str x) (str y) _ W h0 h1 hg hc (size64 k1) _ rfl y rfl (want_if q)

theorem rule_10 (cp : Value) (kids nn : Int) (s t u : ByteArray) (ln cl : Int) (ts : List Ty) (A : Option Addr) (cV a : Nat) (W : World) (cb c : Nat) (hts : ∀ t ∈ ts, okT t) (hl : ts.length = 2) (hc : 2 ≤ cV) (hk : KidsAt W A ts) (hcl : Clo W cb c tI tI) :
    Calls Tryz.prog 89 #[cp, .agg #[.int .i8 10, .int .i64 kids, .int .i64 nn, .string s, .string t, .string u, .int .i64 ln, .int .i64 cl], .slice A 2 cV, .int .i64 (a : Nat), .pointer (some ⟨c, 0, none⟩), .pointer (some ⟨c + 1, 0, none⟩)] W fun e w' => RuleQ (ruleE ⟨10, kids, nn, s, t, u, ln, cl⟩ ts a) W e w' := by
  have hr : ruleE ⟨10, kids, nn, s, t, u, ln, cl⟩ ts a = want (∀ t ∈ ts, t = tI) a (.ok tI) := rfl
  rw [hr]
  obtain ⟨h1, _, _, h4, h5⟩ := hcl
  obtain ⟨g, hg⟩ : ∃ g, ts = [] ∨ (A = some ⟨g, 0, none⟩ ∧ g < W.heap.size ∧ ∀ j t, ts[j]? = some t → W.cell? ⟨g, j, none⟩ = some (.string (str t))) := by
    rcases hk with h | ⟨g, h⟩
    · exact ⟨0, .inl h⟩
    · exact ⟨g, .inr h⟩
  have := all1_any cp ⟨10, kids, nn, s, t, u, ln, cl⟩ ts g cV A a c (c + 1) tI tI W hts (by first | exact okT_I | exact okT_T) hg (by omega) (by omega) h4 h5 (by omega) h1
  rwa [hl] at this

theorem rule_11 (cp : Value) (kids nn : Int) (s t u : ByteArray) (ln cl : Int) (ts : List Ty) (A : Option Addr) (cV a : Nat) (W : World) (cb c : Nat) (hts : ∀ t ∈ ts, okT t) (hl : ts.length = 2) (hc : 2 ≤ cV) (hk : KidsAt W A ts) (hcl : Clo W cb c tI tI) :
    Calls Tryz.prog 89 #[cp, .agg #[.int .i8 11, .int .i64 kids, .int .i64 nn, .string s, .string t, .string u, .int .i64 ln, .int .i64 cl], .slice A 2 cV, .int .i64 (a : Nat), .pointer (some ⟨c, 0, none⟩), .pointer (some ⟨c + 1, 0, none⟩)] W fun e w' => RuleQ (ruleE ⟨11, kids, nn, s, t, u, ln, cl⟩ ts a) W e w' := by
  have hr : ruleE ⟨11, kids, nn, s, t, u, ln, cl⟩ ts a = want (∀ t ∈ ts, t = tI) a (.ok tI) := rfl
  rw [hr]
  obtain ⟨h1, _, _, h4, h5⟩ := hcl
  obtain ⟨g, hg⟩ : ∃ g, ts = [] ∨ (A = some ⟨g, 0, none⟩ ∧ g < W.heap.size ∧ ∀ j t, ts[j]? = some t → W.cell? ⟨g, j, none⟩ = some (.string (str t))) := by
    rcases hk with h | ⟨g, h⟩
    · exact ⟨0, .inl h⟩
    · exact ⟨g, .inr h⟩
  have := all1_any cp ⟨11, kids, nn, s, t, u, ln, cl⟩ ts g cV A a c (c + 1) tI tI W hts (by first | exact okT_I | exact okT_T) hg (by omega) (by omega) h4 h5 (by omega) h1
  rwa [hl] at this

theorem rule_12 (cp : Value) (kids nn : Int) (s t u : ByteArray) (ln cl : Int) (ts : List Ty) (A : Option Addr) (cV a : Nat) (W : World) (cb c : Nat) (hts : ∀ t ∈ ts, okT t) (hl : ts.length = 2) (hc : 2 ≤ cV) (hk : KidsAt W A ts) (hcl : Clo W cb c tI tI) :
    Calls Tryz.prog 89 #[cp, .agg #[.int .i8 12, .int .i64 kids, .int .i64 nn, .string s, .string t, .string u, .int .i64 ln, .int .i64 cl], .slice A 2 cV, .int .i64 (a : Nat), .pointer (some ⟨c, 0, none⟩), .pointer (some ⟨c + 1, 0, none⟩)] W fun e w' => RuleQ (ruleE ⟨12, kids, nn, s, t, u, ln, cl⟩ ts a) W e w' := by
  have hr : ruleE ⟨12, kids, nn, s, t, u, ln, cl⟩ ts a = want (∀ t ∈ ts, t = tI) a (.ok tI) := rfl
  rw [hr]
  obtain ⟨h1, _, _, h4, h5⟩ := hcl
  obtain ⟨g, hg⟩ : ∃ g, ts = [] ∨ (A = some ⟨g, 0, none⟩ ∧ g < W.heap.size ∧ ∀ j t, ts[j]? = some t → W.cell? ⟨g, j, none⟩ = some (.string (str t))) := by
    rcases hk with h | ⟨g, h⟩
    · exact ⟨0, .inl h⟩
    · exact ⟨g, .inr h⟩
  have := all1_any cp ⟨12, kids, nn, s, t, u, ln, cl⟩ ts g cV A a c (c + 1) tI tI W hts (by first | exact okT_I | exact okT_T) hg (by omega) (by omega) h4 h5 (by omega) h1
  rwa [hl] at this

theorem rule_16 (cp : Value) (kids nn : Int) (s t u : ByteArray) (ln cl : Int) (ts : List Ty) (A : Option Addr) (cV a : Nat) (W : World) (cb c : Nat) (hts : ∀ t ∈ ts, okT t) (hl : ts.length = 1) (hc : 1 ≤ cV) (hk : KidsAt W A ts) (hcl : Clo W cb c tI tI) :
    Calls Tryz.prog 89 #[cp, .agg #[.int .i8 16, .int .i64 kids, .int .i64 nn, .string s, .string t, .string u, .int .i64 ln, .int .i64 cl], .slice A 1 cV, .int .i64 (a : Nat), .pointer (some ⟨c, 0, none⟩), .pointer (some ⟨c + 1, 0, none⟩)] W fun e w' => RuleQ (ruleE ⟨16, kids, nn, s, t, u, ln, cl⟩ ts a) W e w' := by
  have hr : ruleE ⟨16, kids, nn, s, t, u, ln, cl⟩ ts a = want (∀ t ∈ ts, t = tI) a (.ok tI) := rfl
  rw [hr]
  obtain ⟨h1, _, _, h4, h5⟩ := hcl
  obtain ⟨g, hg⟩ : ∃ g, ts = [] ∨ (A = some ⟨g, 0, none⟩ ∧ g < W.heap.size ∧ ∀ j t, ts[j]? = some t → W.cell? ⟨g, j, none⟩ = some (.string (str t))) := by
    rcases hk with h | ⟨g, h⟩
    · exact ⟨0, .inl h⟩
    · exact ⟨g, .inr h⟩
  have := all1_any cp ⟨16, kids, nn, s, t, u, ln, cl⟩ ts g cV A a c (c + 1) tI tI W hts (by first | exact okT_I | exact okT_T) hg (by omega) (by omega) h4 h5 (by omega) h1
  rwa [hl] at this

theorem rule_14 (cp : Value) (kids nn : Int) (s t u : ByteArray) (ln cl : Int) (ts : List Ty) (A : Option Addr) (cV a : Nat) (W : World) (cb c : Nat) (hts : ∀ t ∈ ts, okT t) (hl : ts.length = 2) (hc : 2 ≤ cV) (hk : KidsAt W A ts) (hcl : Clo W cb c tI tB) :
    Calls Tryz.prog 89 #[cp, .agg #[.int .i8 14, .int .i64 kids, .int .i64 nn, .string s, .string t, .string u, .int .i64 ln, .int .i64 cl], .slice A 2 cV, .int .i64 (a : Nat), .pointer (some ⟨c, 0, none⟩), .pointer (some ⟨c + 1, 0, none⟩)] W fun e w' => RuleQ (ruleE ⟨14, kids, nn, s, t, u, ln, cl⟩ ts a) W e w' := by
  have hr : ruleE ⟨14, kids, nn, s, t, u, ln, cl⟩ ts a = want (∀ t ∈ ts, t = tI) a (.ok tB) := rfl
  rw [hr]
  obtain ⟨h1, _, _, h4, h5⟩ := hcl
  obtain ⟨g, hg⟩ : ∃ g, ts = [] ∨ (A = some ⟨g, 0, none⟩ ∧ g < W.heap.size ∧ ∀ j t, ts[j]? = some t → W.cell? ⟨g, j, none⟩ = some (.string (str t))) := by
    rcases hk with h | ⟨g, h⟩
    · exact ⟨0, .inl h⟩
    · exact ⟨g, .inr h⟩
  have := all1_any cp ⟨14, kids, nn, s, t, u, ln, cl⟩ ts g cV A a c (c + 1) tI tB W hts (by first | exact okT_I | exact okT_T) hg (by omega) (by omega) h4 h5 (by omega) h1
  rwa [hl] at this

theorem rule_15 (cp : Value) (kids nn : Int) (s t u : ByteArray) (ln cl : Int) (ts : List Ty) (A : Option Addr) (cV a : Nat) (W : World) (cb c : Nat) (hts : ∀ t ∈ ts, okT t) (hl : ts.length = 2) (hc : 2 ≤ cV) (hk : KidsAt W A ts) (hcl : Clo W cb c tI tB) :
    Calls Tryz.prog 89 #[cp, .agg #[.int .i8 15, .int .i64 kids, .int .i64 nn, .string s, .string t, .string u, .int .i64 ln, .int .i64 cl], .slice A 2 cV, .int .i64 (a : Nat), .pointer (some ⟨c, 0, none⟩), .pointer (some ⟨c + 1, 0, none⟩)] W fun e w' => RuleQ (ruleE ⟨15, kids, nn, s, t, u, ln, cl⟩ ts a) W e w' := by
  have hr : ruleE ⟨15, kids, nn, s, t, u, ln, cl⟩ ts a = want (∀ t ∈ ts, t = tI) a (.ok tB) := rfl
  rw [hr]
  obtain ⟨h1, _, _, h4, h5⟩ := hcl
  obtain ⟨g, hg⟩ : ∃ g, ts = [] ∨ (A = some ⟨g, 0, none⟩ ∧ g < W.heap.size ∧ ∀ j t, ts[j]? = some t → W.cell? ⟨g, j, none⟩ = some (.string (str t))) := by
    rcases hk with h | ⟨g, h⟩
    · exact ⟨0, .inl h⟩
    · exact ⟨g, .inr h⟩
  have := all1_any cp ⟨15, kids, nn, s, t, u, ln, cl⟩ ts g cV A a c (c + 1) tI tB W hts (by first | exact okT_I | exact okT_T) hg (by omega) (by omega) h4 h5 (by omega) h1
  rwa [hl] at this

theorem rule_13 (cp : Value) (kids nn : Int) (s t u : ByteArray) (ln cl : Int) (ts : List Ty) (A : Option Addr) (cV a : Nat) (W : World) (cb c : Nat) (hts : ∀ t ∈ ts, okT t) (hl : ts.length = 2) (hc : 2 ≤ cV) (hk : KidsAt W A ts) (hcl : Clo W cb c tT tT) :
    Calls Tryz.prog 89 #[cp, .agg #[.int .i8 13, .int .i64 kids, .int .i64 nn, .string s, .string t, .string u, .int .i64 ln, .int .i64 cl], .slice A 2 cV, .int .i64 (a : Nat), .pointer (some ⟨c, 0, none⟩), .pointer (some ⟨c + 1, 0, none⟩)] W fun e w' => RuleQ (ruleE ⟨13, kids, nn, s, t, u, ln, cl⟩ ts a) W e w' := by
  have hr : ruleE ⟨13, kids, nn, s, t, u, ln, cl⟩ ts a = want (∀ t ∈ ts, t = tT) a (.ok tT) := rfl
  rw [hr]
  obtain ⟨h1, _, _, h4, h5⟩ := hcl
  obtain ⟨g, hg⟩ : ∃ g, ts = [] ∨ (A = some ⟨g, 0, none⟩ ∧ g < W.heap.size ∧ ∀ j t, ts[j]? = some t → W.cell? ⟨g, j, none⟩ = some (.string (str t))) := by
    rcases hk with h | ⟨g, h⟩
    · exact ⟨0, .inl h⟩
    · exact ⟨g, .inr h⟩
  have := all1_any cp ⟨13, kids, nn, s, t, u, ln, cl⟩ ts g cV A a c (c + 1) tT tT W hts (by first | exact okT_I | exact okT_T) hg (by omega) (by omega) h4 h5 (by omega) h1
  rwa [hl] at this

theorem rule_17 (cp : Value) (kids nn : Int) (s t u : ByteArray) (ln cl : Int) (ts : List Ty) (A : Option Addr) (cV a : Nat) (W : World) (cb c : Nat) (hts : ∀ t ∈ ts, okT t) (hl : ts.length = 1) (hc : 1 ≤ cV) (hk : KidsAt W A ts) (hcl : Clo W cb c tT tI) :
    Calls Tryz.prog 89 #[cp, .agg #[.int .i8 17, .int .i64 kids, .int .i64 nn, .string s, .string t, .string u, .int .i64 ln, .int .i64 cl], .slice A 1 cV, .int .i64 (a : Nat), .pointer (some ⟨c, 0, none⟩), .pointer (some ⟨c + 1, 0, none⟩)] W fun e w' => RuleQ (ruleE ⟨17, kids, nn, s, t, u, ln, cl⟩ ts a) W e w' := by
  have hr : ruleE ⟨17, kids, nn, s, t, u, ln, cl⟩ ts a = want (∀ t ∈ ts, t = tT) a (.ok tI) := rfl
  rw [hr]
  obtain ⟨h1, _, _, h4, h5⟩ := hcl
  obtain ⟨g, hg⟩ : ∃ g, ts = [] ∨ (A = some ⟨g, 0, none⟩ ∧ g < W.heap.size ∧ ∀ j t, ts[j]? = some t → W.cell? ⟨g, j, none⟩ = some (.string (str t))) := by
    rcases hk with h | ⟨g, h⟩
    · exact ⟨0, .inl h⟩
    · exact ⟨g, .inr h⟩
  have := all1_any cp ⟨17, kids, nn, s, t, u, ln, cl⟩ ts g cV A a c (c + 1) tT tI W hts (by first | exact okT_I | exact okT_T) hg (by omega) (by omega) h4 h5 (by omega) h1
  rwa [hl] at this

theorem rule_21 (cp : Value) (kids nn : Int) (s t u : ByteArray) (ln cl : Int) (ts : List Ty) (A : Option Addr) (K cV a : Nat) (W : World) (hts : ∀ t ∈ ts, okT t) (hl : ts.length = K) (hc : K ≤ cV) (hK : K ≤ 1000000) (hk : KidsAt W A ts) (ht : isB t = true) :
    Calls Tryz.prog 69 #[cp, .agg #[.int .i8 21, .int .i64 kids, .int .i64 nn, .string s, .string t, .string u, .int .i64 ln, .int .i64 cl], .slice A K cV, .int .i64 (a : Nat)] W fun e w' => RuleQ (ruleE ⟨21, kids, nn, s, t, u, ln, cl⟩ ts a) W e w' := by
  obtain ⟨g, hg⟩ : ∃ g, ts = [] ∨ (A = some ⟨g, 0, none⟩ ∧ g < W.heap.size ∧ ∀ j t, ts[j]? = some t → W.cell? ⟨g, j, none⟩ = some (.string (str t))) := by
    rcases hk with h | ⟨g, h⟩
    · exact ⟨0, .inl h⟩
    · exact ⟨g, .inr h⟩
  exact list_x cp 21 kids nn s t u ln cl ts g cV K A a (ty t) _ W hts (okT_ty ht) (ty_spec ht).2.1 hl hg hc hK rfl
end Go.Proofs.YtmagljnlfponaaaGreat.K

/- CkL -/
namespace Go.Proofs.YtmagljnlfponaaaGreat.K
open Go.RowKit Go.Proofs.YtmagljnlfponaaaGreat.B Go.Proofs.YtmagljnlfponaaaGreat.T
set_option linter.unusedVariables false
set_option linter.unusedSimpArgs false

theorem own_bt {w w' : World} {cb base sz n : Nat} {e : TypeId} {v : Value} {xs : List Value} (h : w.ownsRow base e sz v n xs) (hb : Bt cb w w') (hc : cb < base) : w'.ownsRow base e sz v n xs := by
  have hlt := h.lt
  refine ⟨h.1, ?_⟩
  rcases h.2 with h1 | ⟨g, cap, cur, hv, hbg, hg, r⟩
  · exact .inl h1
  · exact .inr ⟨g, cap, cur, hv, hbg, (hb.block g (hlt g (by rw [hv]; rfl)).2 (by omega)).trans hg, r⟩
theorem own_kids {w : World} {base n : Nat} {v : Value} {ts : List Ty} (h : w.ownsRow base 9 1 v n (ts.map strV)) (hn : ts.length = n) : ∃ A c, v = .slice A n c ∧ n ≤ c ∧ KidsAt w A ts := by
  obtain ⟨A, c, rfl, h1, h2, h3, h4, h5⟩ := Rd.of_own h
  refine ⟨A, c, rfl, h1, ?_⟩
  rcases h5 with h5 | ⟨g, rfl, h5⟩
  · exact .inl (List.eq_nil_of_length_eq_zero (by omega))
  · exact .inr ⟨g, rfl, h4 g rfl, fun j t hj => h5 j _ (by rw [List.getElem?_map, hj]; rfl)⟩
theorem KidsAt.below {w w' : World} {A : Option Addr} {ts : List Ty} (h : KidsAt w A ts) (hb : Below w.heap.size w w') : KidsAt w' A ts := by
  rcases h with h | ⟨g, h1, h2, h3⟩
  · exact .inl h
  · exact .inr ⟨g, h1, Nat.lt_of_lt_of_le h2 hb.size, fun j t hj => (hb.cell (p := ⟨g, j, none⟩) h2).trans (h3 j t hj)⟩

/-- After m kids: the types so far; the trees still to come. -/
def KidsI (L : List Tn) (A : Option Addr) (c mb cb c0 c1 c2 c3 : Nat) (k : Tf) (env : List Ty) (a1 : Nat) (rest : List Tn) (K base m : Nat) (V : Value) (W3 wr : World) : Prop :=
  ∃ (fm : Tf) (tsm : List Ty) (am : Nat), fm.len = K - m ∧ tsm.length = m ∧ (∀ t ∈ tsm, okT t) ∧ fm.All (TypP L A c mb cb c0 c1 c2 c3) ∧ fm.wf ∧ fm.high ≤ k.high ∧ L.drop am = fm.list ++ rest ∧ am + fm.sz = a1 + k.sz ∧
    tyF k false env a1 = (tyF fm false env am).then (fun us => .ok (tsm ++ us)) ∧ Bt cb W3 wr ∧ Chk wr cb A L.length c am (.map (some mb)) ∧ wr.ownsRow base 9 1 V m (tsm.map strV)
theorem castW {kids nn : Int} {s t u : ByteArray} {ln cl : Int} {b : Nat} (h : wordsE ⟨30, kids, nn, s, t, u, ln, cl⟩ b = 0) : isB t = true ∧ isB u = true := by
  unfold wordsE at h
  simp only [show ¬ ((30 : Int) = 2) by decide, show ¬ ((30 : Int) = 3) by decide, show ¬ ((30 : Int) = 4) by decide, show ¬ ((30 : Int) = 21) by decide, show ¬ ((30 : Int) = 5 ∨ (30 : Int) = 6) by decide, if_false, if_true] at h
  split at h
  · rename_i h2; exact h2
  · cases h
theorem listW {kids nn : Int} {s t u : ByteArray} {ln cl : Int} {b : Nat} (h : wordsE ⟨21, kids, nn, s, t, u, ln, cl⟩ b = 0) : isB t = true := by
  unfold wordsE at h
  simp only [show ¬ ((21 : Int) = 2) by decide, show ¬ ((21 : Int) = 3) by decide, show ¬ ((21 : Int) = 4) by decide, if_false, if_true] at h
  split at h
  · rename_i h2; exact h2
  · cases h
theorem Tf.len_le (f : Tf) : f.len ≤ f.sz := by
  induction f with
  | nil => exact Nat.le_refl _
  | cons n k r ihk ihr => simp only [Tf.len, Tf.sz]; omega
theorem Rs.then_id {α : Type} (r : Rs (List α)) : r.then (fun us => .ok ([] ++ us)) = r := by cases r <;> rfl
end Go.Proofs.YtmagljnlfponaaaGreat.K
