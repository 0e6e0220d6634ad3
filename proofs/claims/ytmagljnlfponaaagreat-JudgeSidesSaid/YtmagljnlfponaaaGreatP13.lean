/- Parts of this claim: RtE, RtP, RtF, RtG. -/
import Derived.Test.YtmagljnlfponaaaGreatP06
import Derived.Test.YtmagljnlfponaaaGreatP12
import Derived.Test.YtmagljnlfponaaaGreatP01
set_option linter.unusedVariables false
set_option linter.unusedSimpArgs false
/- RtE -/
namespace Go.Proofs.YtmagljnlfponaaaGreat.R
open Go.RowKit Go.Proofs.YtmagljnlfponaaaGreat.B Go.Proofs.YtmagljnlfponaaaGreat.T Go.Proofs.YtmagljnlfponaaaGreat.K
set_option linter.unusedVariables false
set_option linter.unusedSimpArgs false

set_option maxRecDepth 100000 in
theorem under_any (Ae : Option Addr) (m ce : Nat) (xs : List Value) (Al : Option Addr) (n cl : Nat) (ys : List Value) (w : World) (hx : Sl w w.heap.size 1 Ae m xs) (hy : Sl w w.heap.size 1 Al n ys) (h1 : ∀ u ∈ xs, u.oneCell' = true) (h2 : ∀ u ∈ ys, u.oneCell' = true) (hn : n + m ≤ 1000000) :
    Calls Tryz.prog 87 #[.slice Ae m ce, .slice Al n cl] w fun e w' => ∃ V, e = .returned V ∧ w'.ownsRow w.heap.size 9 1 V (n + m) (ys ++ xs) ∧ Below w.heap.size w w' := by
  obtain ⟨i0, hi0, hz0, hz1, hz2⟩ := info_parts info9
  have HX := Lib.hid hx
  have HY := Lib.hid hy
  clear hx hy
  go_enter Tryz.func87, Tryz.ntmps87
  go_upto_region 2 with fail
  go_upto_region 3 with (at_builtin; refine wpList_append_sl _ rfl (.tmp 6) (.tmp 7) _ rfl w.heap.size 9 i0 _ 1 16 Tryz.underlying37 hi0 hz0 hz1 hz2 rfl (by omega) (.slice none 0 0) 0 [] rfl (World.ownsRow_nil _ _ _ _) w.heap.size Al n cl ys rfl HY.out h2 (by simp only [maxLen]; omega) (by omega) (Nat.le_refl _) ?_; intro V1 w1 hown1 hg1 hV1)
  obtain ⟨A1, c1, rfl, hn1, hn2⟩ := own_shape hown1
  have hb1 : Below w.heap.size w w1 := (Below.refl _ _).grown hg1 (Nat.le_refl _) (fun g hg => by cases hg)
  have HO := Lib.hid (And.intro hown1 hb1)
  have hx1 := HX.out.below hb1
  have HX1 := Lib.hid hx1
  clear hown1 hb1 hg1 hV1 hx1
  go_wp2_with (at_builtin; refine wpList_append_sl _ rfl (.tmp 9) (.tmp 10) _ rfl w.heap.size 9 i0 _ 1 16 Tryz.underlying37 hi0 hz0 hz1 hz2 rfl (by omega) _ (0 + n) _ rfl HO.out.1 w.heap.size Ae m ce xs rfl HX1.out h1 (by simp only [maxLen]; omega) (by omega) HO.out.2.size ?_; intro V2 w2 hown2 hg2 hV2)
  have hb2 : Below w.heap.size w w2 := HO.out.2.grown hg2 HO.out.2.size (fun g hg => (HO.out.1.lt g hg).1)
  have HF := Lib.hid (And.intro hown2 hb2)
  clear hown2 hb2 hg2 hV2
  go_wp2_with fail
  go_ret
  exact ⟨_, rfl, by simpa using HF.out.1, HF.out.2⟩

theorem env_own {w : World} {cb base n : Nat} {v : Value} {ts : List Ty} (h : w.ownsRow base 9 1 v n (ts.map strV)) (hn : ts.length = n) (hc : cb < base) : ∃ A c, v = .slice A n c ∧ n ≤ c ∧ EnvAt w cb A ts := by
  obtain ⟨A, c, rfl, h1, h2, h3, h4, h5⟩ := Rd.of_own h
  refine ⟨A, c, rfl, h1, ?_⟩
  rcases h5 with h5 | ⟨g, rfl, h5⟩
  · exact .inl (List.eq_nil_of_length_eq_zero (by omega))
  · have hl := (h.lt g rfl).1
    exact .inr ⟨g, 0, rfl, by omega, h4 g rfl, fun j t hj => by rw [Nat.zero_add]; exact h5 j _ (by rw [List.getElem?_map, hj]; rfl)⟩
theorem EnvAt.sl {w : World} {cb : Nat} {A : Option Addr} {env : List Ty} (h : EnvAt w cb A env) : Sl w w.heap.size 1 A env.length (env.map strV) := by
  refine ⟨by simp, ?_⟩
  rcases h with h | ⟨b, o, h1, h2, h3, h4⟩
  · subst h; exact .inl rfl
  · refine .inr ⟨b, o, h1, h3, fun j u hu => ?_⟩
    rw [List.getElem?_map] at hu
    rcases hj : env[j]? with _ | t
    · rw [hj] at hu; cases hu
    · rw [hj] at hu
      injection hu with hu
      rw [← hu]; exact h4 j t hj
theorem one_strs (l : List Ty) : ∀ u ∈ l.map strV, u.oneCell' = true := by
  intro u hu
  obtain ⟨t, _, rfl⟩ := List.mem_map.1 hu
  rfl

/-- A part of a type, or what is no type. -/
def partV (T : Ty) (h : UInt8) (i : Nat) : ByteArray := if T.head = h then str (T.kids.getD i tI) else ⟨#[110, 111, 110, 101]⟩
theorem str_ne (T : Ty) : ((str T).toList == []) = false := by
  have h : 0 < (str T).size := by simp only [str, bs_size]; exact T.code_pos
  rw [Lib.toList_data]
  rcases hl : (str T).data.toList with _ | ⟨a, l⟩
  · exfalso
    have : (str T).size = 0 := by show (str T).data.size = 0; rw [← Array.length_toList, hl]; rfl
    omega
  · rfl
set_option maxRecDepth 100000 in
theorem part_any (T : Ty) (h : UInt8) (i : Nat) (w : World) (hT : T.ok) (h64 : T.code.length ≤ 64) (hi : T.head = h → i < T.kids.length) :
    Calls Tryz.prog 100 #[.string (str T), .int .u8 h.toNat, .int .i64 (i : Nat)] w fun e w' => e = .returned (.string (partV T h i)) ∧ w = w' := by
  obtain ⟨p1, e1⟩ := str_head T
  have hne := str_ne T
  unfold partV
  by_cases hh : T.head = h
  · rw [if_pos hh]
    have hil := hi hh
    have hp := fun W => part04_any T i (T.kids.getD i tI) W hT h64 (by rw [List.getD_eq_getElem?_getD, List.getElem?_eq_getElem hil]; rfl)
    have hb : ((T.head.toNat : Int) != (h.toNat : Int)) = false := by rw [hh]; simp
    have HP := Lib.hid hp
    obtain ⟨R, hR⟩ : ∃ R, str (T.kids.getD i tI) = R := ⟨_, rfl⟩
    rw [hR] at HP ⊢
    clear hp hil hi hh hR hT h64
    generalize T.head = a at *
    generalize str T = s at *
    go_enter Tryz.func100, Tryz.ntmps100
    go_wp2_with fail
    (refine (HP.out _).mono ?_); rintro e w' ⟨rfl, rfl⟩
    go_wp2_with fail
    go_ret
    exact ⟨rfl, rfl⟩
  · rw [if_neg hh]
    have hb : ((T.head.toNat : Int) != (h.toNat : Int)) = true := by rw [bne, byte_eq]; simpa using hh
    clear hi hh hT h64
    generalize T.head = a at *
    generalize str T = s at *
    go_enter Tryz.func100, Tryz.ntmps100
    go_wp2_with fail
    go_ret
    exact ⟨rfl, rfl⟩
end Go.Proofs.YtmagljnlfponaaaGreat.R

/- RtP -/
namespace Go.Proofs.YtmagljnlfponaaaGreat.R
open Go.Proofs.YtmagljnlfponaaaGreat.T Go.Proofs.YtmagljnlfponaaaGreat.K
set_option linter.unusedVariables false
set_option linter.unusedSimpArgs false

noncomputable def val (r : Rs Ty) : Ty := match r with | .ok t => t | .bad _ _ => tI
/-- The binders under which a node's kids stand. -/
noncomputable def envK (n : Tn) (env : List Ty) : List Ty := if n.kd = 5 then ty n.t :: env else if n.kd = 6 then ty n.t :: .bin 62 (ty n.t) (ty n.u) :: env else env
/-- Each node's type. -/
noncomputable def prF : Tf → Bool → List Ty → Nat → List Ty
  | .nil, _, _, _ => []
  | .cons n k r, m, env, a => val (tyT n k env a) :: (prF k (n.kd == 8) (envK n env) (a + 1) ++ prF r false (if m then val (tyT n k env a) :: env else env) (a + 1 + k.sz))
noncomputable def prT (n : Tn) (k : Tf) (env : List Ty) (a : Nat) : List Ty := val (tyT n k env a) :: prF k (n.kd == 8) (envK n env) (a + 1)
theorem prF_cons (n : Tn) (k r : Tf) (m : Bool) (env : List Ty) (a : Nat) : prF (.cons n k r) m env a = prT n k env a ++ prF r false (if m then val (tyT n k env a) :: env else env) (a + 1 + k.sz) := by
  rw [prF, prT, List.cons_append]
theorem prF_len : ∀ (f : Tf) (m : Bool) (env : List Ty) (a : Nat), (prF f m env a).length = f.sz
  | .nil, _, _, _ => rfl
  | .cons n k r, m, env, a => by
    rw [prF, List.length_cons, List.length_append, prF_len k, prF_len r, Tf.sz]; omega
theorem prT_len (n : Tn) (k : Tf) (env : List Ty) (a : Nat) : (prT n k env a).length = 1 + k.sz := by rw [prT, List.length_cons, prF_len]; omega

/-- A row, written anew from place p on. -/
def put {α : Type} (xs : List α) (p : Nat) (l : List α) : List α := xs.take p ++ (l ++ xs.drop (p + l.length))
section
variable {α : Type} (xs : List α) (p : Nat) (l l' : List α) (v : α)
theorem put_nil : put xs p [] = xs := by simp [put]
theorem put_len (h : p + l.length ≤ xs.length) : (put xs p l).length = xs.length := by simp [put]; omega
theorem put_put (h : p + l.length ≤ xs.length) : put (put xs p l) (p + l.length) l' = put xs p (l ++ l') := by
  unfold put
  have h1 : (xs.take p).length = p := by simp; omega
  have e1 : (xs.take p ++ (l ++ xs.drop (p + l.length))).take (p + l.length) = xs.take p ++ l := by
    rw [← List.append_assoc, List.take_append_of_le_length (by simp; omega), List.take_of_length_le (by simp; omega)]
  have e2 : (xs.take p ++ (l ++ xs.drop (p + l.length))).drop (p + l.length + l'.length) = xs.drop (p + l.length + l'.length) := by
    have e3 : ∀ (Z : List α) (i j : Nat), Z.drop (i + j) = (Z.drop i).drop j := fun Z i j => by rw [List.drop_drop]
    have e4 : (xs.take p ++ l).drop (p + l.length) = [] := List.drop_of_length_le (by simp; omega)
    rw [← List.append_assoc, e3 _ (p + l.length) l'.length, List.drop_append_of_le_length (by simp; omega), e4, List.nil_append, List.drop_drop]
  rw [e1, e2, List.length_append, List.append_assoc, List.append_assoc, Nat.add_assoc]
theorem put_set (h : p < xs.length) : (put xs (p + 1) l).set p v = put xs p (v :: l) := by
  unfold put
  have h1 : (xs.take (p + 1)).length = p + 1 := by simp; omega
  rw [List.set_append_left _ _ (by omega), List.length_cons, show p + (l.length + 1) = p + 1 + l.length by omega]
  rw [List.take_add_one, List.getElem?_eq_getElem h, Option.toList_some, List.set_append_right _ _ (by simp; omega)]
  simp [show min p xs.length = p by omega]
theorem put_at (h : p < xs.length) : (put xs p (v :: l))[p]? = some v := by
  unfold put
  rw [List.getElem?_append_right (by simp; omega)]
  simp [show min p xs.length = p by omega]
end
end Go.Proofs.YtmagljnlfponaaaGreat.R

/- RtF -/
namespace Go.Proofs.YtmagljnlfponaaaGreat.R
open Go.RowKit Go.Proofs.YtmagljnlfponaaaGreat.B Go.Proofs.YtmagljnlfponaaaGreat.T Go.Proofs.YtmagljnlfponaaaGreat.K
set_option linter.unusedVariables false
set_option linter.unusedSimpArgs false

theorem But.mono {C D : Nat → Prop} {w w' : World} (h : But C w w') (f : ∀ k, C k → D k) : But D w w' := ⟨h.os, h.tape, h.output, h.size, fun k hk hd => h.block k hk fun hc => hd (f k hc)⟩
/-- Only the walk's block and the row of types are touched, and what is new. -/
abbrev Bw (wb sb : Nat) (w w' : World) : Prop := But (fun k => k = wb ∨ k = sb) w w'
section
variable {wb sb : Nat} {a b d w w' : World}
theorem Bw.trans (h : Bw wb sb a b) (k : Bw wb sb b d) : Bw wb sb a d := But.trans h k fun _ _ h => h
theorem Bw.bt (h : Bt wb w w') : Bw wb sb w w' := But.mono h fun _ h => .inl h
theorem Bw.below (h : Below w.heap.size w w') : Bw wb sb w w' := But.of_below h
theorem Bw.alloc (h : Bw wb sb a w) (o : Obj) : Bw wb sb a (w.alloc o) := But.alloc h o
theorem Bw.set_ (h : Bw wb sb a w) (i : Nat) (u : Value) : Bw wb sb a (w.setCell ⟨sb, i, none⟩ u) :=
  ⟨h.os, h.tape, h.output, by rw [World.size_setCell]; exact h.size, fun k hk hc => (Below.heap_setCell w ⟨sb, i, none⟩ u k (by show k ≠ sb; exact fun e => hc (.inr e))).trans (h.block k hk hc)⟩
theorem Bw.cell (h : Bw wb sb w w') {p : Addr} (hp : p.block < w.heap.size) (h1 : p.block ≠ wb) (h2 : p.block ≠ sb) : w'.cell? p = w.cell? p := World.cell?_of_block (w := w) (h.block _ hp (fun h => h.elim h1 h2))
theorem Bw.blk {g : Nat} {t : TypeId} {cs : Array Value} (h : Bw wb sb w w') (hb : Blk w g t cs) (h1 : g ≠ wb) (h2 : g ≠ sb) : Blk w' g t cs := (h.block g hb.lt (fun h => h.elim h1 h2)).trans hb
theorem LT.bw {A : Option Addr} {L : List Tn} (h : LT w wb A L) (h2 : LT w sb A L) (hb : Bw wb sb w w') : LT w' wb A L ∧ LT w' sb A L := by
  rcases h with h | ⟨b, o, e1, e2, e3, e4⟩
  · exact ⟨.inl h, .inl h⟩
  · rcases h2 with h2 | ⟨b2, o2, e5, e6, e7, e8⟩
    · exact ⟨.inl h2, .inl h2⟩
    · have e : b = b2 ∧ o = o2 := by rw [e1] at e5; injection e5 with e5; injection e5 with e5 e9; exact ⟨e5, e9⟩
      obtain ⟨rfl, rfl⟩ := e
      have h4 : ∀ j u, (tns L)[j]? = some u → w'.cell? ⟨b, o + j, none⟩ = some u := fun j u hu => (hb.cell (p := ⟨b, o + j, none⟩) e3 e2 e6).trans (e4 j u hu)
      exact ⟨.inr ⟨b, o, e1, e2, Nat.lt_of_lt_of_le e3 hb.size, h4⟩, .inr ⟨b, o, e1, e6, Nat.lt_of_lt_of_le e3 hb.size, h4⟩⟩
theorem EnvAt.bw {A : Option Addr} {env : List Ty} (h : EnvAt w wb A env) (h2 : EnvAt w sb A env) (hb : Bw wb sb w w') : EnvAt w' wb A env ∧ EnvAt w' sb A env := by
  rcases h with h | ⟨b, o, e1, e2, e3, e4⟩
  · exact ⟨.inl h, .inl h⟩
  · rcases h2 with h2 | ⟨b2, o2, e5, e6, e7, e8⟩
    · exact ⟨.inl h2, .inl h2⟩
    · have e : b = b2 ∧ o = o2 := by rw [e1] at e5; injection e5 with e5; injection e5 with e5 e9; exact ⟨e5, e9⟩
      obtain ⟨rfl, rfl⟩ := e
      have h4 : ∀ j t, env[j]? = some t → w'.cell? ⟨b, o + j, none⟩ = some (.string (str t)) := fun j u hu => (hb.cell (p := ⟨b, o + j, none⟩) e3 e2 e6).trans (e4 j u hu)
      exact ⟨.inr ⟨b, o, e1, e2, Nat.lt_of_lt_of_le e3 hb.size, h4⟩, .inr ⟨b, o, e1, e6, Nat.lt_of_lt_of_le e3 hb.size, h4⟩⟩
end

/-- The row of types. -/
abbrev AllA (w : World) (sb : Nat) (xs : List Value) : Prop := Blk w sb 9 xs.toArray
abbrev allV (sb N : Nat) : Value := .slice (some ⟨sb, 0, none⟩) N N
/-- What stands in memory while types are found, no error yet. -/
structure St (L : List Tn) (A : Option Addr) (c wb sb : Nat) (xs : List Value) (a : Nat) (w : World) : Prop where
  wk : Wk w wb A L.length c a 0 0 (allV sb L.length)
  al : AllA w sb xs
  len : xs.length = L.length
  ne : wb ≠ sb
  l1 : LT w wb A L
  l2 : LT w sb A L
/-- And behind an error. -/
structure StE (L : List Tn) (A : Option Addr) (c wb sb : Nat) (E : Int) (x : Nat) (w : World) : Prop where
  wk : ∃ a, Wk w wb A L.length c a E x (allV sb L.length)
  nz : E ≠ 0
def TyR (R : Rs Ty) (l : List Ty) (p : Nat) (xs : List Value) (L : List Tn) (A : Option Addr) (c wb sb a' : Nat) (w : World) (e : Ending) (w' : World) : Prop := Bw wb sb w w' ∧ match R with
  | .ok t => e = .returned (.string (str t)) ∧ St L A c wb sb (put xs p (l.map strV)) a' w'
  | .bad E x => (∃ s, e = .returned (.string s)) ∧ StE L A c wb sb E x w'
/-- typed's contract, at one tree. -/
def TyP (L : List Tn) (A : Option Addr) (c wb sb : Nat) (n : Tn) (k : Tf) : Prop := ∀ (a : Nat) (rest : List Tn) (env : List Ty) (Ae : Option Addr) (ce : Nat) (xs : List Value) (w : World), L.drop a = n :: (k.list ++ rest) → Tf.wf (.cons n k .nil) → (∀ t ∈ env, okT t) → env.length ≤ ce → env.length + 2 * (k.high + 1) ≤ 100000 →
  EnvAt w wb Ae env → EnvAt w sb Ae env → St L A c wb sb xs a w →
  Calls Tryz.prog 49 #[.pointer (some ⟨wb, 0, none⟩), .slice Ae env.length ce] w fun e w' => TyR (tyT n k env a) (prT n k env a) a xs L A c wb sb (a + 1 + k.sz) w e w'

section
variable {L : List Tn} {A : Option Addr} {c wb sb : Nat} {xs : List Value} {a : Nat}
set_option maxRecDepth 100000 in
theorem kid_ok {Q : Ending → World → Prop} (v : Value) (w : World) (hs : St L A c wb sb xs a w) (h : Calls Tryz.prog 49 #[.pointer (some ⟨wb, 0, none⟩), v] w Q) (hQ : ∀ e w', Q e w' → ∃ s, e = .returned (.string s)) :
    Calls Tryz.prog 85 #[.pointer (some ⟨wb, 0, none⟩), v] w Q := by
  obtain ⟨c0, c1, c2, c3, c4⟩ := hs.wk.cells
  have HC := Lib.hid h
  have HQ := Lib.hid hQ
  clear hs h hQ c0 c1 c3 c4
  go_enter Tryz.func85, Tryz.ntmps85
  go_wp2_with fail
  (refine HC.out.mono ?_); intro e w1 hq
  obtain ⟨s, rfl⟩ := HQ.out _ _ hq
  have H := Lib.hid hq
  clear hq
  go_wp2_with fail
  exact H.out
set_option maxRecDepth 100000 in
theorem kid_bad {E : Int} {x : Nat} (v : Value) (w : World) (hs : StE L A c wb sb E x w) : Calls Tryz.prog 85 #[.pointer (some ⟨wb, 0, none⟩), v] w fun e w' => e = .returned (.string ⟨#[]⟩) ∧ w = w' := by
  obtain ⟨a, h⟩ := hs.wk
  obtain ⟨c0, c1, c2, c3, c4⟩ := h.cells
  have e1 : (E != 0) = true := by simpa using hs.nz
  clear hs h c0 c1 c3 c4
  go_enter Tryz.func85, Tryz.ntmps85
  go_wp2_with fail
  go_ret
  exact ⟨rfl, rfl⟩

set_option maxRecDepth 100000 in
theorem typed_of_one (n : Tn) (k : Tf) (env : List Ty) (v : Value) (w : World) (hs : St L A c wb sb xs a w) (hal : a < L.length) (hN : L.length ≤ 1000000)
    (h : Calls Tryz.prog 61 #[.pointer (some ⟨wb, 0, none⟩), v] w fun e w' => TyR (tyT n k env a) (prF k (n.kd == 8) (envK n env) (a + 1)) (a + 1) xs L A c wb sb (a + 1 + k.sz) w e w') :
    Calls Tryz.prog 49 #[.pointer (some ⟨wb, 0, none⟩), v] w fun e w' => TyR (tyT n k env a) (prT n k env a) a xs L A c wb sb (a + 1 + k.sz) w e w' := by
  obtain ⟨c0, c1, c2, c3, c4⟩ := hs.wk.cells
  unfold prT
  obtain ⟨ks, hks⟩ : ∃ ks, prF k (n.kd == 8) (envK n env) (a + 1) = ks := ⟨_, rfl⟩
  obtain ⟨a', ha'⟩ : ∃ a', a + 1 + k.sz = a' := ⟨_, rfl⟩
  rw [hks, ha'] at h ⊢
  clear hks ha'
  obtain ⟨R, hR⟩ : ∃ R, tyT n k env a = R := ⟨_, rfl⟩
  rw [hR] at h ⊢
  clear hR
  have HC := Lib.hid h
  have HS := Lib.hid hs
  clear h hs c0 c2 c3 c4
  cases R with
  | bad E x =>
    go_enter Tryz.func49, Tryz.ntmps49
    go_wp2_with fail
    (refine HC.out.mono ?_); rintro e w1 ⟨hb, ⟨s, rfl⟩, hE⟩
    obtain ⟨a2, hw⟩ := hE.wk
    have p2 := hw.cells.2.2.1
    have e1 : (E == 0) = false := by simpa using hE.nz
    have H := Lib.hid (And.intro hb hE)
    clear hb hE hw
    go_wp2_with fail
    go_ret
    exact ⟨H.out.1, ⟨_, rfl⟩, H.out.2⟩
  | ok t =>
    unfold val
    simp only
    obtain ⟨N, hNe⟩ : ∃ N, L.length = N := ⟨_, rfl⟩
    rw [hNe] at hal hN
    go_enter Tryz.func49, Tryz.ntmps49
    go_wp2_with fail
    (refine HC.out.mono ?_); rintro e w1 ⟨hb, rfl, hs⟩
    obtain ⟨p0, p1, p2, p3, p4⟩ := hs.wk.cells
    rw [hNe] at p4
    have hf := hs.al.frozen a
    have hl := hs.len
    obtain ⟨u, hu⟩ : ∃ u, (put xs (a + 1) (ks.map strV))[a]? = some u := ⟨_, List.getElem?_eq_getElem (by rw [hl]; omega)⟩
    have hcu : w1.cell? ⟨sb, a, none⟩ = some u := (hs.al.cell a).trans (by simpa using hu)
    have H := Lib.hid (And.intro hb (And.intro hs hNe))
    clear hb hs hNe p0 p1 p3 hl hu
    go_wp2_with fail
    go_ret
    obtain ⟨hb, hs, hNe⟩ := H.out
    have hx : a < xs.length := by rw [HS.out.len]; omega
    have hbs : Bw wb sb w1 (w1.setCell ⟨sb, a, none⟩ (.string (str t))) := Bw.set_ (But.refl _ _) a _
    have hl2 := LT.bw hs.l1 hs.l2 hbs
    refine ⟨hb.trans hbs, rfl, ?_, ?_, ?_, hs.ne, hl2.1, hl2.2⟩
    · exact hs.wk.far (p := ⟨sb, a, none⟩) hs.ne _
    · have h1 := Blk.set_ hs.al a (.string (str t))
      rw [List.setIfInBounds_toArray, put_set _ _ _ _ hx] at h1
      exact h1
    · have h1 := congrArg List.length (put_set xs a (ks.map strV) (strV t) hx)
      rw [List.length_set, hs.len] at h1
      exact h1.symm
end
end Go.Proofs.YtmagljnlfponaaaGreat.R

/- RtG -/
namespace Go.Proofs.YtmagljnlfponaaaGreat.R
open Go.RowKit Go.Proofs.YtmagljnlfponaaaGreat.B Go.Proofs.YtmagljnlfponaaaGreat.T Go.Proofs.YtmagljnlfponaaaGreat.K
set_option linter.unusedVariables false
set_option linter.unusedSimpArgs false

set_option maxRecDepth 100000 in
set_option maxHeartbeats 4000000 in
theorem one_bad (kd kids nn : Int) (s t u : ByteArray) (ln cl : Int) (L : List Tn) (A : Option Addr) (c wb sb : Nat) (xs : List Value) (k : Tf) (a : Nat) (env : List Ty) (Ae : Option Addr) (ce : Nat) (w : World)
    (hn : L[a]? = some ⟨kd, kids, nn, s, t, u, ln, cl⟩) (hsm : Tn.small ⟨kd, kids, nn, s, t, u, ln, cl⟩) (he1 : EnvAt w wb Ae env) (he2 : EnvAt w sb Ae env) (henv : ∀ t ∈ env, okT t) (henc : env.length ≤ ce) (henl : env.length ≤ 100000) (hs : St L A c wb sb xs a w) (hN : L.length ≤ 1000000) (hLc : L.length ≤ c) (E : Int) (hE0 : wordsE ⟨kd, kids, nn, s, t, u, ln, cl⟩ env.length = E) (hE1 : E ≠ 0) (l : List Ty) :
    Calls Tryz.prog 61 #[.pointer (some ⟨wb, 0, none⟩), .slice Ae env.length ce] w fun e w' => TyR (.bad E a) l (a + 1) xs L A c wb sb (a + 1 + k.sz) w e w' := by
  have HE := Lib.hid (And.intro hE0 hE1)
  clear hE0 hE1
  obtain ⟨c0, c1, c2, c3, c4⟩ := hs.wk.cells
  have hcl : wb < w.heap.size := hs.wk.lt
  have hsl : sb < w.heap.size := hs.al.lt
  have hal : a < L.length := (List.getElem?_eq_some_iff.1 hn).1
  obtain ⟨b, o, rfl, hbc, hbl, q0, q1, q2, q3, q4, q5, q6, q7⟩ := hs.l1.node hn
  simp only at q0 q1 q2 q3 q4 q5 q6 q7
  have hah := fun W a1 h => ahead_any ⟨kd, kids, nn, s, t, u, ln, cl⟩ a env.length W wb (some ⟨b, o, none⟩) L.length c a1 (allV sb L.length) hsm h
  unfold Tn.val at hah
  simp only at hah
  obtain ⟨N, hNe⟩ : ∃ N, L.length = N := ⟨_, rfl⟩
  have hwk := hs.wk
  rw [hNe] at c0 c4 hal hN hLc hwk hah
  obtain ⟨EL, hEL⟩ : ∃ x, env.length = x := ⟨_, rfl⟩
  rw [hEL] at hah henl henc HE ⊢
  have hcr := hwk.frozen 1
  have hbk : Blk (w.alloc (.cells #[.int .i8 kd, .int .i64 kids, .int .i64 nn, .string s, .string t, .string u, .int .i64 ln, .int .i64 cl] 60)) w.heap.size 60 #[.int .i8 kd, .int .i64 kids, .int .i64 nn, .string s, .string t, .string u, .int .i64 ln, .int .i64 cl] := Blk.new _ _ _
  have hck : Wk (w.alloc (.cells #[.int .i8 kd, .int .i64 kids, .int .i64 nn, .string s, .string t, .string u, .int .i64 ln, .int .i64 cl] 60)) wb (some ⟨b, o, none⟩) N c a 0 0 (allV sb N) := Blk.alloc hwk _
  have HS := Lib.hid (And.intro hs (And.intro he1 (And.intro he2 (And.intro hNe hEL))))
  have HW0 := Lib.hid (And.intro hck hbk)
  have HAH := Lib.hid hah
  have HENV := Lib.hid henv
  clear hs he1 he2 hNe hEL hck hbk hah hwk hcr henv
  go_enter Tryz.func61, Tryz.ntmps61
  go_upto_region 3 with fail
  obtain ⟨hck, hbk⟩ := HW0.out
  obtain ⟨W1, hW1⟩ : ∃ W1, w.alloc (.cells #[.int .i8 kd, .int .i64 kids, .int .i64 nn, .string s, .string t, .string u, .int .i64 ln, .int .i64 cl] 60) = W1 := ⟨_, rfl⟩
  have hbt0 : Bt wb w W1 := by rw [← hW1]; exact Bt.alloc (But.refl _ _) _
  rw [hW1] at hck hbk ⊢
  obtain ⟨p0, p1, p2, p3, p4⟩ := hck.cells
  have pf := hck.frozen 1
  have HW1 := Lib.hid (And.intro hck (And.intro hbk hbt0))
  clear hW1 hck hbk hbt0 HW0 c0 c1 c2 c3 c4 q0 q1 q2 q3 q4 q5 q6 q7
  go_upto_region 4 with fail
  obtain ⟨hck, hbk, hbt0⟩ := HW1.out
  obtain ⟨W2, hW2⟩ : ∃ W2, W1.setCell ⟨wb, 1, none⟩ (.int .i64 ((a : Int) + 1)) = W2 := ⟨_, rfl⟩
  have hc1 : Wk W2 wb (some ⟨b, o, none⟩) N c ((a : Int) + 1) 0 0 (allV sb N) := by rw [← hW2]; exact hck.at_ _
  have hbk1 : Blk W2 w.heap.size 60 #[.int .i8 kd, .int .i64 kids, .int .i64 nn, .string s, .string t, .string u, .int .i64 ln, .int .i64 cl] := by rw [← hW2]; exact hbk.far (p := ⟨wb, 1, none⟩) (show w.heap.size ≠ wb by omega) _
  have hbt1 : Bt wb w W2 := by rw [← hW2]; exact hbt0.set_ 1 _
  have HCA := Lib.hid (HAH.out W2 _ hc1)
  have HW := Lib.hid (And.intro hbk1 hbt1)
  rw [hW2]
  clear hck hbk hbt0 hc1 hbt1 HW1 HAH p0 p1 p2 p3 p4 pf hW2
  obtain ⟨n0, n1, n2, n3, n4, n5, n6, n7⟩ := blk_cells8 hbk1
  clear hbk1
  go_wp2_with fail
  (refine HCA.out.mono ?_); rintro e W3 ⟨rfl, hb3, hk3⟩
  rw [HE.out.1, if_neg HE.out.2] at hk3
  have p2 := hk3.cells.2.2.1
  have e1 : (E != 0) = true := by simpa using HE.out.2
  have H := Lib.hid (And.intro (HW.out.2.trans hb3) hk3)
  clear hb3 hk3
  go_wp2_with fail
  go_ret
  exact ⟨Bw.bt H.out.1, ⟨_, rfl⟩, ⟨_, by rw [HS.out.2.2.2.1]; exact H.out.2⟩, HE.out.2⟩

set_option maxRecDepth 100000 in
set_option maxHeartbeats 4000000 in
theorem one_1 (kids nn : Int) (s t u : ByteArray) (ln cl : Int) (L : List Tn) (A : Option Addr) (c wb sb : Nat) (xs : List Value) (k : Tf) (a : Nat) (env : List Ty) (Ae : Option Addr) (ce : Nat) (w : World)
    (hn : L[a]? = some ⟨1, kids, nn, s, t, u, ln, cl⟩) (hsm : Tn.small ⟨1, kids, nn, s, t, u, ln, cl⟩) (he1 : EnvAt w wb Ae env) (he2 : EnvAt w sb Ae env) (henv : ∀ t ∈ env, okT t) (henc : env.length ≤ ce) (henl : env.length ≤ 100000) (hs : St L A c wb sb xs a w) (hN : L.length ≤ 1000000) (hLc : L.length ≤ c) (hE0 : wordsE ⟨1, kids, nn, s, t, u, ln, cl⟩ env.length = 0) (hk : k.sz = 0) :
    Calls Tryz.prog 61 #[.pointer (some ⟨wb, 0, none⟩), .slice Ae env.length ce] w fun e w' => TyR (.ok tI) [] (a + 1) xs L A c wb sb (a + 1 + k.sz) w e w' := by
  have HE := Lib.hid hE0
  have HK := Lib.hid hk
  clear hE0 hk
  obtain ⟨c0, c1, c2, c3, c4⟩ := hs.wk.cells
  have hcl : wb < w.heap.size := hs.wk.lt
  have hsl : sb < w.heap.size := hs.al.lt
  have hal : a < L.length := (List.getElem?_eq_some_iff.1 hn).1
  obtain ⟨b, o, rfl, hbc, hbl, q0, q1, q2, q3, q4, q5, q6, q7⟩ := hs.l1.node hn
  simp only at q0 q1 q2 q3 q4 q5 q6 q7
  have hah := fun W a1 h => ahead_any ⟨1, kids, nn, s, t, u, ln, cl⟩ a env.length W wb (some ⟨b, o, none⟩) L.length c a1 (allV sb L.length) hsm h
  unfold Tn.val at hah
  simp only at hah
  obtain ⟨N, hNe⟩ : ∃ N, L.length = N := ⟨_, rfl⟩
  have hwk := hs.wk
  rw [hNe] at c0 c4 hal hN hLc hwk hah
  obtain ⟨EL, hEL⟩ : ∃ x, env.length = x := ⟨_, rfl⟩
  rw [hEL] at hah henl henc HE ⊢
  have hcr := hwk.frozen 1
  have hbk : Blk (w.alloc (.cells #[.int .i8 1, .int .i64 kids, .int .i64 nn, .string s, .string t, .string u, .int .i64 ln, .int .i64 cl] 60)) w.heap.size 60 #[.int .i8 1, .int .i64 kids, .int .i64 nn, .string s, .string t, .string u, .int .i64 ln, .int .i64 cl] := Blk.new _ _ _
  have hck : Wk (w.alloc (.cells #[.int .i8 1, .int .i64 kids, .int .i64 nn, .string s, .string t, .string u, .int .i64 ln, .int .i64 cl] 60)) wb (some ⟨b, o, none⟩) N c a 0 0 (allV sb N) := Blk.alloc hwk _
  have HS := Lib.hid (And.intro hs (And.intro he1 (And.intro he2 (And.intro hNe hEL))))
  have HW0 := Lib.hid (And.intro hck hbk)
  have HAH := Lib.hid hah
  have HENV := Lib.hid henv
  clear hs he1 he2 hNe hEL hck hbk hah hwk hcr henv
  go_enter Tryz.func61, Tryz.ntmps61
  go_upto_region 3 with fail
  obtain ⟨hck, hbk⟩ := HW0.out
  obtain ⟨W1, hW1⟩ : ∃ W1, w.alloc (.cells #[.int .i8 1, .int .i64 kids, .int .i64 nn, .string s, .string t, .string u, .int .i64 ln, .int .i64 cl] 60) = W1 := ⟨_, rfl⟩
  have hbt0 : Bt wb w W1 := by rw [← hW1]; exact Bt.alloc (But.refl _ _) _
  rw [hW1] at hck hbk ⊢
  obtain ⟨p0, p1, p2, p3, p4⟩ := hck.cells
  have pf := hck.frozen 1
  have HW1 := Lib.hid (And.intro hck (And.intro hbk hbt0))
  clear hW1 hck hbk hbt0 HW0 c0 c1 c2 c3 c4 q0 q1 q2 q3 q4 q5 q6 q7
  go_upto_region 4 with fail
  obtain ⟨hck, hbk, hbt0⟩ := HW1.out
  obtain ⟨W2, hW2⟩ : ∃ W2, W1.setCell ⟨wb, 1, none⟩ (.int .i64 ((a : Int) + 1)) = W2 := ⟨_, rfl⟩
  have hc1 : Wk W2 wb (some ⟨b, o, none⟩) N c ((a : Int) + 1) 0 0 (allV sb N) := by rw [← hW2]; exact hck.at_ _
  have hbk1 : Blk W2 w.heap.size 60 #[.int .i8 1, .int .i64 kids, .int .i64 nn, .string s, .string t, .string u, .int .i64 ln, .int .i64 cl] := by rw [← hW2]; exact hbk.far (p := ⟨wb, 1, none⟩) (show w.heap.size ≠ wb by omega) _
  have hbt1 : Bt wb w W2 := by rw [← hW2]; exact hbt0.set_ 1 _
  have HCA := Lib.hid (HAH.out W2 _ hc1)
  have HW := Lib.hid (And.intro hbk1 hbt1)
  rw [hW2]
  clear hck hbk hbt0 hc1 hbt1 HW1 HAH p0 p1 p2 p3 p4 pf hW2
  obtain ⟨n0, n1, n2, n3, n4, n5, n6, n7⟩ := blk_cells8 hbk1
  clear hbk1
  go_wp2_with fail
  (refine HCA.out.mono ?_); rintro e W3 ⟨rfl, hb3, hk3⟩
  rw [HE.out, if_pos rfl] at hk3
  obtain ⟨hs, he1, he2, hNe, hEL⟩ := HS.out
  have hbw : Bw wb sb w W3 := Bw.bt (HW.out.2.trans hb3)
  have hbk3 : Blk W3 w.heap.size 60 #[.int .i8 1, .int .i64 kids, .int .i64 nn, .string s, .string t, .string u, .int .i64 ln, .int .i64 cl] := hb3.blk HW.out.1 (show w.heap.size ≠ wb by omega)
  have hl3 := LT.bw hs.l1 hs.l2 hbw
  have hen3 := EnvAt.bw he1 he2 hbw
  have hal3 : AllA W3 sb xs := (HW.out.2.trans hb3).blk hs.al (fun e => hs.ne e.symm)
  have hs3 : St L (some ⟨b, o, none⟩) c wb sb xs (a + 1) W3 := ⟨by rw [hNe]; exact hk3, hal3, hs.len, hs.ne, hl3.1, hl3.2⟩
  have p2 := hk3.cells.2.2.1
  clear n0 n1 n2 n3 n4 n5 n6 n7
  obtain ⟨n0, n1, n2, n3, n4, n5, n6, n7⟩ := blk_cells8 hbk3
  have HF := Lib.hid (And.intro hbw (And.intro hs3 (And.intro hen3 (And.intro hNe (And.intro hEL hbk3)))))
  clear hs he1 he2 hNe hEL hbw hl3 hen3 hal3 hs3 hbk3 hk3 hb3 HS HW HCA
  go_wp2_with fail
  go_ret
  exact ⟨HF.out.1, rfl, by rw [List.map_nil, put_nil, HK.out, Nat.add_zero]; exact HF.out.2.1⟩

set_option maxRecDepth 100000 in
set_option maxHeartbeats 4000000 in
theorem one_2 (kids nn : Int) (s t u : ByteArray) (ln cl : Int) (L : List Tn) (A : Option Addr) (c wb sb : Nat) (xs : List Value) (k : Tf) (a : Nat) (env : List Ty) (Ae : Option Addr) (ce : Nat) (w : World)
    (hn : L[a]? = some ⟨2, kids, nn, s, t, u, ln, cl⟩) (hsm : Tn.small ⟨2, kids, nn, s, t, u, ln, cl⟩) (he1 : EnvAt w wb Ae env) (he2 : EnvAt w sb Ae env) (henv : ∀ t ∈ env, okT t) (henc : env.length ≤ ce) (henl : env.length ≤ 100000) (hs : St L A c wb sb xs a w) (hN : L.length ≤ 1000000) (hLc : L.length ≤ c) (hE0 : wordsE ⟨2, kids, nn, s, t, u, ln, cl⟩ env.length = 0) (hk : k.sz = 0) :
    Calls Tryz.prog 61 #[.pointer (some ⟨wb, 0, none⟩), .slice Ae env.length ce] w fun e w' => TyR (.ok tT) [] (a + 1) xs L A c wb sb (a + 1 + k.sz) w e w' := by
  have HE := Lib.hid hE0
  have HK := Lib.hid hk
  clear hE0 hk
  obtain ⟨c0, c1, c2, c3, c4⟩ := hs.wk.cells
  have hcl : wb < w.heap.size := hs.wk.lt
  have hsl : sb < w.heap.size := hs.al.lt
  have hal : a < L.length := (List.getElem?_eq_some_iff.1 hn).1
  obtain ⟨b, o, rfl, hbc, hbl, q0, q1, q2, q3, q4, q5, q6, q7⟩ := hs.l1.node hn
  simp only at q0 q1 q2 q3 q4 q5 q6 q7
  have hah := fun W a1 h => ahead_any ⟨2, kids, nn, s, t, u, ln, cl⟩ a env.length W wb (some ⟨b, o, none⟩) L.length c a1 (allV sb L.length) hsm h
  unfold Tn.val at hah
  simp only at hah
  obtain ⟨N, hNe⟩ : ∃ N, L.length = N := ⟨_, rfl⟩
  have hwk := hs.wk
  rw [hNe] at c0 c4 hal hN hLc hwk hah
  obtain ⟨EL, hEL⟩ : ∃ x, env.length = x := ⟨_, rfl⟩
  rw [hEL] at hah henl henc HE ⊢
  have hcr := hwk.frozen 1
  have hbk : Blk (w.alloc (.cells #[.int .i8 2, .int .i64 kids, .int .i64 nn, .string s, .string t, .string u, .int .i64 ln, .int .i64 cl] 60)) w.heap.size 60 #[.int .i8 2, .int .i64 kids, .int .i64 nn, .string s, .string t, .string u, .int .i64 ln, .int .i64 cl] := Blk.new _ _ _
  have hck : Wk (w.alloc (.cells #[.int .i8 2, .int .i64 kids, .int .i64 nn, .string s, .string t, .string u, .int .i64 ln, .int .i64 cl] 60)) wb (some ⟨b, o, none⟩) N c a 0 0 (allV sb N) := Blk.alloc hwk _
  have HS := Lib.hid (And.intro hs (And.intro he1 (And.intro he2 (And.intro hNe hEL))))
  have HW0 := Lib.hid (And.intro hck hbk)
  have HAH := Lib.hid hah
  have HENV := Lib.hid henv
  clear hs he1 he2 hNe hEL hck hbk hah hwk hcr henv
  go_enter Tryz.func61, Tryz.ntmps61
  go_upto_region 3 with fail
  obtain ⟨hck, hbk⟩ := HW0.out
  obtain ⟨W1, hW1⟩ : ∃ W1, w.alloc (.cells #[.int .i8 2, .int .i64 kids, .int .i64 nn, .string s, .string t, .string u, .int .i64 ln, .int .i64 cl] 60) = W1 := ⟨_, rfl⟩
  have hbt0 : Bt wb w W1 := by rw [← hW1]; exact Bt.alloc (But.refl _ _) _
  rw [hW1] at hck hbk ⊢
  obtain ⟨p0, p1, p2, p3, p4⟩ := hck.cells
  have pf := hck.frozen 1
  have HW1 := Lib.hid (And.intro hck (And.intro hbk hbt0))
  clear hW1 hck hbk hbt0 HW0 c0 c1 c2 c3 c4 q0 q1 q2 q3 q4 q5 q6 q7
  go_upto_region 4 with fail
  obtain ⟨hck, hbk, hbt0⟩ := HW1.out
  obtain ⟨W2, hW2⟩ : ∃ W2, W1.setCell ⟨wb, 1, none⟩ (.int .i64 ((a : Int) + 1)) = W2 := ⟨_, rfl⟩
  have hc1 : Wk W2 wb (some ⟨b, o, none⟩) N c ((a : Int) + 1) 0 0 (allV sb N) := by rw [← hW2]; exact hck.at_ _
  have hbk1 : Blk W2 w.heap.size 60 #[.int .i8 2, .int .i64 kids, .int .i64 nn, .string s, .string t, .string u, .int .i64 ln, .int .i64 cl] := by rw [← hW2]; exact hbk.far (p := ⟨wb, 1, none⟩) (show w.heap.size ≠ wb by omega) _
  have hbt1 : Bt wb w W2 := by rw [← hW2]; exact hbt0.set_ 1 _
  have HCA := Lib.hid (HAH.out W2 _ hc1)
  have HW := Lib.hid (And.intro hbk1 hbt1)
  rw [hW2]
  clear hck hbk hbt0 hc1 hbt1 HW1 HAH p0 p1 p2 p3 p4 pf hW2
  obtain ⟨n0, n1, n2, n3, n4, n5, n6, n7⟩ := blk_cells8 hbk1
  clear hbk1
  go_wp2_with fail
  (refine HCA.out.mono ?_); rintro e W3 ⟨rfl, hb3, hk3⟩
  rw [HE.out, if_pos rfl] at hk3
  obtain ⟨hs, he1, he2, hNe, hEL⟩ := HS.out
  have hbw : Bw wb sb w W3 := Bw.bt (HW.out.2.trans hb3)
  have hbk3 : Blk W3 w.heap.size 60 #[.int .i8 2, .int .i64 kids, .int .i64 nn, .string s, .string t, .string u, .int .i64 ln, .int .i64 cl] := hb3.blk HW.out.1 (show w.heap.size ≠ wb by omega)
  have hl3 := LT.bw hs.l1 hs.l2 hbw
  have hen3 := EnvAt.bw he1 he2 hbw
  have hal3 : AllA W3 sb xs := (HW.out.2.trans hb3).blk hs.al (fun e => hs.ne e.symm)
  have hs3 : St L (some ⟨b, o, none⟩) c wb sb xs (a + 1) W3 := ⟨by rw [hNe]; exact hk3, hal3, hs.len, hs.ne, hl3.1, hl3.2⟩
  have p2 := hk3.cells.2.2.1
  clear n0 n1 n2 n3 n4 n5 n6 n7
  obtain ⟨n0, n1, n2, n3, n4, n5, n6, n7⟩ := blk_cells8 hbk3
  have HF := Lib.hid (And.intro hbw (And.intro hs3 (And.intro hen3 (And.intro hNe (And.intro hEL hbk3)))))
  clear hs he1 he2 hNe hEL hbw hl3 hen3 hal3 hs3 hbk3 hk3 hb3 HS HW HCA
  go_wp2_with fail
  go_ret
  exact ⟨HF.out.1, rfl, by rw [List.map_nil, put_nil, HK.out, Nat.add_zero]; exact HF.out.2.1⟩

set_option maxRecDepth 100000 in
set_option maxHeartbeats 4000000 in
theorem one_3 (kids nn : Int) (s t u : ByteArray) (ln cl : Int) (L : List Tn) (A : Option Addr) (c wb sb : Nat) (xs : List Value) (k : Tf) (a : Nat) (env : List Ty) (Ae : Option Addr) (ce : Nat) (w : World)
    (hn : L[a]? = some ⟨3, kids, nn, s, t, u, ln, cl⟩) (hsm : Tn.small ⟨3, kids, nn, s, t, u, ln, cl⟩) (he1 : EnvAt w wb Ae env) (he2 : EnvAt w sb Ae env) (henv : ∀ t ∈ env, okT t) (henc : env.length ≤ ce) (henl : env.length ≤ 100000) (hs : St L A c wb sb xs a w) (hN : L.length ≤ 1000000) (hLc : L.length ≤ c) (hE0 : wordsE ⟨3, kids, nn, s, t, u, ln, cl⟩ env.length = 0) (hk : k.sz = 0) :
    Calls Tryz.prog 61 #[.pointer (some ⟨wb, 0, none⟩), .slice Ae env.length ce] w fun e w' => TyR (.ok tB) [] (a + 1) xs L A c wb sb (a + 1 + k.sz) w e w' := by
  have HE := Lib.hid hE0
  have HK := Lib.hid hk
  clear hE0 hk
  obtain ⟨c0, c1, c2, c3, c4⟩ := hs.wk.cells
  have hcl : wb < w.heap.size := hs.wk.lt
  have hsl : sb < w.heap.size := hs.al.lt
  have hal : a < L.length := (List.getElem?_eq_some_iff.1 hn).1
  obtain ⟨b, o, rfl, hbc, hbl, q0, q1, q2, q3, q4, q5, q6, q7⟩ := hs.l1.node hn
  simp only at q0 q1 q2 q3 q4 q5 q6 q7
  have hah := fun W a1 h => ahead_any ⟨3, kids, nn, s, t, u, ln, cl⟩ a env.length W wb (some ⟨b, o, none⟩) L.length c a1 (allV sb L.length) hsm h
  unfold Tn.val at hah
  simp only at hah
  obtain ⟨N, hNe⟩ : ∃ N, L.length = N := ⟨_, rfl⟩
  have hwk := hs.wk
  rw [hNe] at c0 c4 hal hN hLc hwk hah
  obtain ⟨EL, hEL⟩ : ∃ x, env.length = x := ⟨_, rfl⟩
  rw [hEL] at hah henl henc HE ⊢
  have hcr := hwk.frozen 1
  have hbk : Blk (w.alloc (.cells #[.int .i8 3, .int .i64 kids, .int .i64 nn, .string s, .string t, .string u, .int .i64 ln, .int .i64 cl] 60)) w.heap.size 60 #[.int .i8 3, .int .i64 kids, .int .i64 nn, .string s, .string t, .string u, .int .i64 ln, .int .i64 cl] := Blk.new _ _ _
  have hck : Wk (w.alloc (.cells #[.int .i8 3, .int .i64 kids, .int .i64 nn, .string s, .string t, .string u, .int .i64 ln, .int .i64 cl] 60)) wb (some ⟨b, o, none⟩) N c a 0 0 (allV sb N) := Blk.alloc hwk _
  have HS := Lib.hid (And.intro hs (And.intro he1 (And.intro he2 (And.intro hNe hEL))))
  have HW0 := Lib.hid (And.intro hck hbk)
  have HAH := Lib.hid hah
  have HENV := Lib.hid henv
  clear hs he1 he2 hNe hEL hck hbk hah hwk hcr henv
  go_enter Tryz.func61, Tryz.ntmps61
  go_upto_region 3 with fail
  obtain ⟨hck, hbk⟩ := HW0.out
  obtain ⟨W1, hW1⟩ : ∃ W1, w.alloc (.cells #[.int .i8 3, .int .i64 kids, .int .i64 nn, .string s, .string t, .string u, .int .i64 ln, .int .i64 cl] 60) = W1 := ⟨_, rfl⟩
  have hbt0 : Bt wb w W1 := by rw [← hW1]; exact Bt.alloc (But.refl _ _) _
  rw [hW1] at hck hbk ⊢
  obtain ⟨p0, p1, p2, p3, p4⟩ := hck.cells
  have pf := hck.frozen 1
  have HW1 := Lib.hid (And.intro hck (And.intro hbk hbt0))
  clear hW1 hck hbk hbt0 HW0 c0 c1 c2 c3 c4 q0 q1 q2 q3 q4 q5 q6 q7
  go_upto_region 4 with fail
  obtain ⟨hck, hbk, hbt0⟩ := HW1.out
  obtain ⟨W2, hW2⟩ : ∃ W2, W1.setCell ⟨wb, 1, none⟩ (.int .i64 ((a : Int) + 1)) = W2 := ⟨_, rfl⟩
  have hc1 : Wk W2 wb (some ⟨b, o, none⟩) N c ((a : Int) + 1) 0 0 (allV sb N) := by rw [← hW2]; exact hck.at_ _
  have hbk1 : Blk W2 w.heap.size 60 #[.int .i8 3, .int .i64 kids, .int .i64 nn, .string s, .string t, .string u, .int .i64 ln, .int .i64 cl] := by rw [← hW2]; exact hbk.far (p := ⟨wb, 1, none⟩) (show w.heap.size ≠ wb by omega) _
  have hbt1 : Bt wb w W2 := by rw [← hW2]; exact hbt0.set_ 1 _
  have HCA := Lib.hid (HAH.out W2 _ hc1)
  have HW := Lib.hid (And.intro hbk1 hbt1)
  rw [hW2]
  clear hck hbk hbt0 hc1 hbt1 HW1 HAH p0 p1 p2 p3 p4 pf hW2
  obtain ⟨n0, n1, n2, n3, n4, n5, n6, n7⟩ := blk_cells8 hbk1
  clear hbk1
  go_wp2_with fail
  (refine HCA.out.mono ?_); rintro e W3 ⟨rfl, hb3, hk3⟩
  rw [HE.out, if_pos rfl] at hk3
  obtain ⟨hs, he1, he2, hNe, hEL⟩ := HS.out
  have hbw : Bw wb sb w W3 := Bw.bt (HW.out.2.trans hb3)
  have hbk3 : Blk W3 w.heap.size 60 #[.int .i8 3, .int .i64 kids, .int .i64 nn, .string s, .string t, .string u, .int .i64 ln, .int .i64 cl] := hb3.blk HW.out.1 (show w.heap.size ≠ wb by omega)
  have hl3 := LT.bw hs.l1 hs.l2 hbw
  have hen3 := EnvAt.bw he1 he2 hbw
  have hal3 : AllA W3 sb xs := (HW.out.2.trans hb3).blk hs.al (fun e => hs.ne e.symm)
  have hs3 : St L (some ⟨b, o, none⟩) c wb sb xs (a + 1) W3 := ⟨by rw [hNe]; exact hk3, hal3, hs.len, hs.ne, hl3.1, hl3.2⟩
  have p2 := hk3.cells.2.2.1
  clear n0 n1 n2 n3 n4 n5 n6 n7
  obtain ⟨n0, n1, n2, n3, n4, n5, n6, n7⟩ := blk_cells8 hbk3
  have HF := Lib.hid (And.intro hbw (And.intro hs3 (And.intro hen3 (And.intro hNe (And.intro hEL hbk3)))))
  clear hs he1 he2 hNe hEL hbw hl3 hen3 hal3 hs3 hbk3 hk3 hb3 HS HW HCA
  go_wp2_with fail
  go_ret
  exact ⟨HF.out.1, rfl, by rw [List.map_nil, put_nil, HK.out, Nat.add_zero]; exact HF.out.2.1⟩

set_option maxRecDepth 100000 in
set_option maxHeartbeats 4000000 in
theorem one_4 (kids nn : Int) (s t u : ByteArray) (ln cl : Int) (L : List Tn) (A : Option Addr) (c wb sb : Nat) (xs : List Value) (k : Tf) (a : Nat) (env : List Ty) (Ae : Option Addr) (ce : Nat) (w : World)
    (hn : L[a]? = some ⟨4, kids, nn, s, t, u, ln, cl⟩) (hsm : Tn.small ⟨4, kids, nn, s, t, u, ln, cl⟩) (he1 : EnvAt w wb Ae env) (he2 : EnvAt w sb Ae env) (henv : ∀ t ∈ env, okT t) (henc : env.length ≤ ce) (henl : env.length ≤ 100000) (hs : St L A c wb sb xs a w) (hN : L.length ≤ 1000000) (hLc : L.length ≤ c) (hE0 : wordsE ⟨4, kids, nn, s, t, u, ln, cl⟩ env.length = 0) (hk : k.sz = 0) :
    Calls Tryz.prog 61 #[.pointer (some ⟨wb, 0, none⟩), .slice Ae env.length ce] w fun e w' => TyR (.ok (env.getD nn.toNat tI)) [] (a + 1) xs L A c wb sb (a + 1 + k.sz) w e w' := by
  have HE := Lib.hid hE0
  have hnn : 0 ≤ nn ∧ nn < env.length := by
    unfold wordsE at hE0
    simp only [show ¬ ((4 : Int) = 2) by decide, show ¬ ((4 : Int) = 3) by decide, if_false, if_true] at hE0
    split at hE0
    · rename_i h; exact h
    · cases hE0
  obtain ⟨j, hj⟩ : ∃ j : Nat, nn = j := ⟨nn.toNat, by omega⟩
  subst hj
  have hjl : j < env.length := by omega
  obtain ⟨T, hT⟩ : ∃ T, env[j]? = some T := ⟨_, List.getElem?_eq_getElem hjl⟩
  have hTd : env.getD (j : Int).toNat tI = T := by rw [Int.toNat_natCast, List.getD_eq_getElem?_getD, hT]; rfl
  rw [hTd]
  obtain ⟨eb, eo, rfl, z1, z2, z3⟩ := he1.resolve_left (fun e => by rw [e] at hjl; simp at hjl)
  have HT := Lib.hid hT
  have HK := Lib.hid hk
  clear hE0 hk hnn hTd hT z1 z2 z3
  obtain ⟨c0, c1, c2, c3, c4⟩ := hs.wk.cells
  have hcl : wb < w.heap.size := hs.wk.lt
  have hsl : sb < w.heap.size := hs.al.lt
  have hal : a < L.length := (List.getElem?_eq_some_iff.1 hn).1
  obtain ⟨b, o, rfl, hbc, hbl, q0, q1, q2, q3, q4, q5, q6, q7⟩ := hs.l1.node hn
  simp only at q0 q1 q2 q3 q4 q5 q6 q7
  have hah := fun W a1 h => ahead_any ⟨4, kids, (j : Int), s, t, u, ln, cl⟩ a env.length W wb (some ⟨b, o, none⟩) L.length c a1 (allV sb L.length) hsm h
  unfold Tn.val at hah
  simp only at hah
  obtain ⟨N, hNe⟩ : ∃ N, L.length = N := ⟨_, rfl⟩
  have hwk := hs.wk
  rw [hNe] at c0 c4 hal hN hLc hwk hah
  obtain ⟨EL, hEL⟩ : ∃ x, env.length = x := ⟨_, rfl⟩
  rw [hEL] at hah henl henc HE hjl ⊢
  have hcr := hwk.frozen 1
  have hbk : Blk (w.alloc (.cells #[.int .i8 4, .int .i64 kids, .int .i64 (j : Int), .string s, .string t, .string u, .int .i64 ln, .int .i64 cl] 60)) w.heap.size 60 #[.int .i8 4, .int .i64 kids, .int .i64 (j : Int), .string s, .string t, .string u, .int .i64 ln, .int .i64 cl] := Blk.new _ _ _
  have hck : Wk (w.alloc (.cells #[.int .i8 4, .int .i64 kids, .int .i64 (j : Int), .string s, .string t, .string u, .int .i64 ln, .int .i64 cl] 60)) wb (some ⟨b, o, none⟩) N c a 0 0 (allV sb N) := Blk.alloc hwk _
  have HS := Lib.hid (And.intro hs (And.intro he1 (And.intro he2 (And.intro hNe hEL))))
  have HW0 := Lib.hid (And.intro hck hbk)
  have HAH := Lib.hid hah
  have HENV := Lib.hid henv
  clear hs he1 he2 hNe hEL hck hbk hah hwk hcr henv
  go_enter Tryz.func61, Tryz.ntmps61
  go_upto_region 3 with fail
  obtain ⟨hck, hbk⟩ := HW0.out
  obtain ⟨W1, hW1⟩ : ∃ W1, w.alloc (.cells #[.int .i8 4, .int .i64 kids, .int .i64 (j : Int), .string s, .string t, .string u, .int .i64 ln, .int .i64 cl] 60) = W1 := ⟨_, rfl⟩
  have hbt0 : Bt wb w W1 := by rw [← hW1]; exact Bt.alloc (But.refl _ _) _
  rw [hW1] at hck hbk ⊢
  obtain ⟨p0, p1, p2, p3, p4⟩ := hck.cells
  have pf := hck.frozen 1
  have HW1 := Lib.hid (And.intro hck (And.intro hbk hbt0))
  clear hW1 hck hbk hbt0 HW0 c0 c1 c2 c3 c4 q0 q1 q2 q3 q4 q5 q6 q7
  go_upto_region 4 with fail
  obtain ⟨hck, hbk, hbt0⟩ := HW1.out
  obtain ⟨W2, hW2⟩ : ∃ W2, W1.setCell ⟨wb, 1, none⟩ (.int .i64 ((a : Int) + 1)) = W2 := ⟨_, rfl⟩
  have hc1 : Wk W2 wb (some ⟨b, o, none⟩) N c ((a : Int) + 1) 0 0 (allV sb N) := by rw [← hW2]; exact hck.at_ _
  have hbk1 : Blk W2 w.heap.size 60 #[.int .i8 4, .int .i64 kids, .int .i64 (j : Int), .string s, .string t, .string u, .int .i64 ln, .int .i64 cl] := by rw [← hW2]; exact hbk.far (p := ⟨wb, 1, none⟩) (show w.heap.size ≠ wb by omega) _
  have hbt1 : Bt wb w W2 := by rw [← hW2]; exact hbt0.set_ 1 _
  have HCA := Lib.hid (HAH.out W2 _ hc1)
  have HW := Lib.hid (And.intro hbk1 hbt1)
  rw [hW2]
  clear hck hbk hbt0 hc1 hbt1 HW1 HAH p0 p1 p2 p3 p4 pf hW2
  obtain ⟨n0, n1, n2, n3, n4, n5, n6, n7⟩ := blk_cells8 hbk1
  clear hbk1
  go_wp2_with fail
  (refine HCA.out.mono ?_); rintro e W3 ⟨rfl, hb3, hk3⟩
  rw [HE.out, if_pos rfl] at hk3
  obtain ⟨hs, he1, he2, hNe, hEL⟩ := HS.out
  have hbw : Bw wb sb w W3 := Bw.bt (HW.out.2.trans hb3)
  have hbk3 : Blk W3 w.heap.size 60 #[.int .i8 4, .int .i64 kids, .int .i64 (j : Int), .string s, .string t, .string u, .int .i64 ln, .int .i64 cl] := hb3.blk HW.out.1 (show w.heap.size ≠ wb by omega)
  have hl3 := LT.bw hs.l1 hs.l2 hbw
  have hen3 := EnvAt.bw he1 he2 hbw
  have hal3 : AllA W3 sb xs := (HW.out.2.trans hb3).blk hs.al (fun e => hs.ne e.symm)
  have hs3 : St L (some ⟨b, o, none⟩) c wb sb xs (a + 1) W3 := ⟨by rw [hNe]; exact hk3, hal3, hs.len, hs.ne, hl3.1, hl3.2⟩
  have p2 := hk3.cells.2.2.1
  clear n0 n1 n2 n3 n4 n5 n6 n7
  obtain ⟨n0, n1, n2, n3, n4, n5, n6, n7⟩ := blk_cells8 hbk3
  have HF := Lib.hid (And.intro hbw (And.intro hs3 (And.intro hen3 (And.intro hNe (And.intro hEL hbk3)))))
  clear hs he1 he2 hNe hEL hbw hl3 hen3 hal3 hs3 hbk3 hk3 hb3 HS HW HCA
  have hec : W3.cell? ⟨eb, eo + j, none⟩ = some (.string (str T)) := by
    rcases HF.out.2.2.1.1 with h | ⟨b', o', h1, h2, h3, h4⟩
    · have := HT.out; rw [h] at this; simp at this
    · injection h1 with h1; injection h1 with h1 h5; subst h1 h5; exact h4 j T HT.out
  go_wp2_with fail
  go_ret
  exact ⟨HF.out.1, rfl, by rw [List.map_nil, put_nil, HK.out, Nat.add_zero]; exact HF.out.2.1⟩
end Go.Proofs.YtmagljnlfponaaaGreat.R
