/- Parts of this claim: RtN. -/
import Derived.Test.YtmagljnlfponaaaGreatP16
set_option linter.unusedVariables false
set_option linter.unusedSimpArgs false
/- RtN -/
namespace Go.Proofs.YtmagljnlfponaaaGreat.R
open Go.RowKit Go.Proofs.YtmagljnlfponaaaGreat.B Go.Proofs.YtmagljnlfponaaaGreat.T Go.Proofs.YtmagljnlfponaaaGreat.K
set_option linter.unusedVariables false
set_option linter.unusedSimpArgs false

theorem kids_of {T : Ty} (hT : okT T) {h : UInt8} {n : Nat} (hn : arB h = n) (hh : T.head = h) : T.kids.length = n := by
  have := Ty.ar_head hT.1
  rw [hh, hn] at this
  omega
theorem part_lit {T : Ty} (h : UInt8) (hz : Int) (i : Nat) (iz : Int) (n : Nat) (P : ByteArray) (hT : okT T) (e1 : (h.toNat : Int) = hz) (e2 : (i : Int) = iz) (hn : arB h = n) (hi : i < n) (hP : partV T h i = P) (W : World) :
    Calls Tryz.prog 100 #[.string (str T), .int .u8 hz, .int .i64 iz] W fun e w' => e = .returned (.string P) ∧ W = w' := by
  subst e1 e2 hP
  exact part_any T h i W hT.1 hT.2 fun hh => by rw [kids_of hT hn hh]; exact hi
theorem partV_yes {T : Ty} {h : UInt8} {i : Nat} (hh : T.head = h) : partV T h i = str (T.kids.getD i tI) := by unfold partV; rw [if_pos hh]
theorem partV_no {T : Ty} {h : UInt8} {i : Nat} (hh : ¬ T.head = h) : partV T h i = ⟨#[110, 111, 110, 101]⟩ := by unfold partV; rw [if_neg hh]
/-- A part that is that type. -/
theorem part_eq {T y : Ty} (hT : okT T) (hy : okT y) (h : UInt8) (i : Nat) : ((partV T h i).toList == (str y).toList) = true ↔ (T.head = h ∧ T.kids.getD i tI = y) := by
  by_cases hh : T.head = h
  · rw [partV_yes hh, str_ne_of (okT_kids hT i).1 hy.1]
    exact ⟨fun e => ⟨hh, e⟩, fun e => e.2⟩
  · rw [partV_no hh]
    constructor
    · intro e
      exfalso
      simp only [beq_iff_eq, Lib.toList_data, str, bs_list] at e
      have h1 := y.code_head
      rw [← e] at h1
      have h2 := Ty.ar_head hy.1
      simp at h1
      rw [← h1] at h2
      have h3 : arB 110 = -1 := by decide
      omega
    · intro e; exact absurd e.1 hh
/-- A wrong want, before it and behind. -/
def NeW (L : List Tn) (A : Option Addr) (c wb sb : Nat) (xs : List Value) (a1 : Nat) (E : Int) (x : Nat) (w : World) : Prop := St L A c wb sb xs a1 w ∨ StE L A c wb sb E x w
section
variable {L : List Tn} {A : Option Addr} {c wb sb : Nat} {xs : List Value} {a1 : Nat} {w w' : World}
theorem want_no2 (x : Nat) (h : NeW L A c wb sb xs a1 23 x w) : Calls Tryz.prog 86 #[.pointer (some ⟨wb, 0, none⟩), .bool false, .int .i64 x] w fun en w' => en = .returned (.tuple #[]) ∧ Bt wb w w' ∧ StE L A c wb sb 23 x w' := by
  rcases h with h | h
  · exact want_no x h
  · exact want_err false x h
theorem made_no2 (s : ByteArray) (x : Nat) (h : NeW L A c wb sb xs a1 21 x w) (h64 : ¬ s.size ≤ 64) : Calls Tryz.prog 99 #[.pointer (some ⟨wb, 0, none⟩), .string s, .int .i64 x] w fun en w' => en = .returned (.string s) ∧ Bt wb w w' ∧ StE L A c wb sb 21 x w' := by
  rcases h with h | h
  · exact madeS_no s x h h64
  · obtain ⟨⟨a2, hw⟩, hE⟩ := h
    refine (madeR_any s x wb A L.length c a2 21 x _ w hw).mono ?_
    rintro en w1 ⟨rfl, h1, h2⟩
    rw [if_neg h64, if_neg hE, if_neg h64, if_neg hE] at h2
    exact ⟨rfl, h1, ⟨_, h2⟩, hE⟩
theorem NeW.below {E : Int} {x : Nat} (h : NeW L A c wb sb xs a1 E x w) (hb : Below w.heap.size w w') : NeW L A c wb sb xs a1 E x w' := by
  rcases h with h | h
  · exact .inl (h.below hb)
  · obtain ⟨⟨a2, hw⟩, hE⟩ := h
    exact .inr ⟨⟨a2, hw.below hb hw.lt⟩, hE⟩
end

set_option maxRecDepth 100000 in
set_option maxHeartbeats 4000000 in
theorem rule_19 (kids nn : Int) (s t u : ByteArray) (ln cl : Int) (L : List Tn) (A : Option Addr) (c wb sb : Nat) (xs : List Value) (a a1 : Nat) (Ac : Option Addr) (cc : Nat) (x : Ty) (w : World) (hs : St L A c wb sb xs a1 w) (he : EnvAt w wb Ac [x]) (hcc : 1 ≤ cc) (ox : okT x) :
    Calls Tryz.prog 88 #[.pointer (some ⟨wb, 0, none⟩), .agg #[.int .i8 19, .int .i64 kids, .int .i64 nn, .string s, .string t, .string u, .int .i64 ln, .int .i64 cl], .slice Ac 1 cc, .int .i64 a] w fun e w' => RuQ (ruleE ⟨19, kids, nn, s, t, u, ln, cl⟩ [x] a) L A c wb sb xs a1 w e w' := by
  obtain ⟨g, o, rfl, hgw, hgl, hgc⟩ := envAt_cells he (by simp)
  obtain ⟨R, hR⟩ : ∃ R, ruleE ⟨19, kids, nn, s, t, u, ln, cl⟩ [x] a = R := ⟨_, rfl⟩
  have hRR : R = want (x.head = 44) a (.ok (x.kids.getD 0 tI)) := by rw [← hR]; unfold ruleE; simp
  rw [hR]
  clear hR
  have hcl : wb < w.heap.size := hs.wk.lt
  have hbt1 : Bt wb w (w.alloc (.cells #[.int .i8 19, .int .i64 kids, .int .i64 nn, .string s, .string t, .string u, .int .i64 ln, .int .i64 cl] 60)) := Bt.alloc (But.refl _ _) _
  have hs1 := hs.bt hbt1 (Blk.alloc hs.wk _)
  have q0 : w.cell? ⟨g, o, none⟩ = some (.string (str x)) := hgc 0 _ rfl
  obtain ⟨p1, e1⟩ := str_head x
  have q0a : (w.alloc (.cells #[.int .i8 19, .int .i64 kids, .int .i64 nn, .string s, .string t, .string u, .int .i64 ln, .int .i64 cl] 60)).cell? ⟨g, o, none⟩ = some (.string (str x)) := (hbt1.cell (p := ⟨g, o, none⟩) hgl hgw).trans q0
  have hgl1 : g < (w.alloc (.cells #[.int .i8 19, .int .i64 kids, .int .i64 nn, .string s, .string t, .string u, .int .i64 ln, .int .i64 cl] 60)).heap.size := Nat.lt_of_lt_of_le hgl hbt1.size
  by_cases hx : x.head = 44
  · have hb : ((x.head.toNat : Int) == 44) = true := by rw [hx]; rfl
    replace hRR : R = .ok (x.kids.getD 0 tI) := by rw [hRR]; unfold want; rw [if_pos hx]
    have HP := Lib.hid (part_lit (T := x) 44 44 0 0 2 (str (x.kids.getD 0 tI)) ox rfl rfl (by decide) (by omega) (partV_yes hx))
    obtain ⟨P, hP⟩ : ∃ P, str (x.kids.getD 0 tI) = P := ⟨_, rfl⟩
    rw [hP] at HP
    have HPP := Lib.hid hP
    clear hP
    have HW := Lib.hid (want_yes (a : Nat) hs1)
    have HB := Lib.hid (And.intro hbt1 (And.intro hRR (And.intro q0a (And.intro hgl1 hgw))))
    clear hs he hgc hs1 hbt1 hRR hcc hx q0a hgl1
    go_enter Tryz.func88, Tryz.ntmps88
    go_wp2_with fail
    all_goals
      (refine HW.out.mono ?_); rintro e w2 ⟨rfl, h1, h2⟩
      have q2 : w2.cell? ⟨g, o, none⟩ = some (.string (str x)) := (h1.cell (p := ⟨g, o, none⟩) HB.out.2.2.2.1 HB.out.2.2.2.2).trans HB.out.2.2.1
      have H := Lib.hid (And.intro h1 h2)
      clear h1 h2
      go_wp2_with fail
      (refine (HP.out _).mono ?_); rintro e w3 ⟨rfl, rfl⟩
      go_wp2_with fail
      go_ret
      exact RuQ.ok (HB.out.1.trans H.out.1) H.out.2 HPP.out.symm HB.out.2.1
  · have hb : ((x.head.toNat : Int) == 44) = false := by rw [show ((44 : Int)) = (((44 : UInt8).toNat : Nat) : Int) from rfl, byte_eq]; simpa using hx
    replace hRR : R = .bad 23 a := by rw [hRR]; unfold want; rw [if_neg hx]
    have HP := Lib.hid (part_lit (T := x) 44 44 0 0 2 (⟨#[110, 111, 110, 101]⟩) ox rfl rfl (by decide) (by omega) (partV_no hx))
    have HW := Lib.hid (want_no a hs1)
    have HB := Lib.hid (And.intro hbt1 (And.intro hRR (And.intro q0a (And.intro hgl1 hgw))))
    clear hs he hgc hs1 hbt1 hRR hcc hx q0a hgl1
    go_enter Tryz.func88, Tryz.ntmps88
    go_wp2_with fail
    all_goals
      (refine HW.out.mono ?_); rintro e w2 ⟨rfl, h1, h2⟩
      have q2 : w2.cell? ⟨g, o, none⟩ = some (.string (str x)) := (h1.cell (p := ⟨g, o, none⟩) HB.out.2.2.2.1 HB.out.2.2.2.2).trans HB.out.2.2.1
      have H := Lib.hid (And.intro h1 h2)
      clear h1 h2
      go_wp2_with fail
      (refine (HP.out _).mono ?_); rintro e w3 ⟨rfl, rfl⟩
      go_wp2_with fail
      go_ret
      exact RuQ.bad (HB.out.1.trans H.out.1) H.out.2 HB.out.2.1

set_option maxRecDepth 100000 in
set_option maxHeartbeats 4000000 in
theorem rule_20 (kids nn : Int) (s t u : ByteArray) (ln cl : Int) (L : List Tn) (A : Option Addr) (c wb sb : Nat) (xs : List Value) (a a1 : Nat) (Ac : Option Addr) (cc : Nat) (x : Ty) (w : World) (hs : St L A c wb sb xs a1 w) (he : EnvAt w wb Ac [x]) (hcc : 1 ≤ cc) (ox : okT x) :
    Calls Tryz.prog 88 #[.pointer (some ⟨wb, 0, none⟩), .agg #[.int .i8 20, .int .i64 kids, .int .i64 nn, .string s, .string t, .string u, .int .i64 ln, .int .i64 cl], .slice Ac 1 cc, .int .i64 a] w fun e w' => RuQ (ruleE ⟨20, kids, nn, s, t, u, ln, cl⟩ [x] a) L A c wb sb xs a1 w e w' := by
  obtain ⟨g, o, rfl, hgw, hgl, hgc⟩ := envAt_cells he (by simp)
  obtain ⟨R, hR⟩ : ∃ R, ruleE ⟨20, kids, nn, s, t, u, ln, cl⟩ [x] a = R := ⟨_, rfl⟩
  have hRR : R = want (x.head = 44) a (.ok (x.kids.getD 1 tI)) := by rw [← hR]; unfold ruleE; simp
  rw [hR]
  clear hR
  have hcl : wb < w.heap.size := hs.wk.lt
  have hbt1 : Bt wb w (w.alloc (.cells #[.int .i8 20, .int .i64 kids, .int .i64 nn, .string s, .string t, .string u, .int .i64 ln, .int .i64 cl] 60)) := Bt.alloc (But.refl _ _) _
  have hs1 := hs.bt hbt1 (Blk.alloc hs.wk _)
  have q0 : w.cell? ⟨g, o, none⟩ = some (.string (str x)) := hgc 0 _ rfl
  obtain ⟨p1, e1⟩ := str_head x
  have q0a : (w.alloc (.cells #[.int .i8 20, .int .i64 kids, .int .i64 nn, .string s, .string t, .string u, .int .i64 ln, .int .i64 cl] 60)).cell? ⟨g, o, none⟩ = some (.string (str x)) := (hbt1.cell (p := ⟨g, o, none⟩) hgl hgw).trans q0
  have hgl1 : g < (w.alloc (.cells #[.int .i8 20, .int .i64 kids, .int .i64 nn, .string s, .string t, .string u, .int .i64 ln, .int .i64 cl] 60)).heap.size := Nat.lt_of_lt_of_le hgl hbt1.size
  by_cases hx : x.head = 44
  · have hb : ((x.head.toNat : Int) == 44) = true := by rw [hx]; rfl
    replace hRR : R = .ok (x.kids.getD 1 tI) := by rw [hRR]; unfold want; rw [if_pos hx]
    have HP := Lib.hid (part_lit (T := x) 44 44 1 1 2 (str (x.kids.getD 1 tI)) ox rfl rfl (by decide) (by omega) (partV_yes hx))
    obtain ⟨P, hP⟩ : ∃ P, str (x.kids.getD 1 tI) = P := ⟨_, rfl⟩
    rw [hP] at HP
    have HPP := Lib.hid hP
    clear hP
    have HW := Lib.hid (want_yes (a : Nat) hs1)
    have HB := Lib.hid (And.intro hbt1 (And.intro hRR (And.intro q0a (And.intro hgl1 hgw))))
    clear hs he hgc hs1 hbt1 hRR hcc hx q0a hgl1
    go_enter Tryz.func88, Tryz.ntmps88
    go_wp2_with fail
    all_goals
      (refine HW.out.mono ?_); rintro e w2 ⟨rfl, h1, h2⟩
      have q2 : w2.cell? ⟨g, o, none⟩ = some (.string (str x)) := (h1.cell (p := ⟨g, o, none⟩) HB.out.2.2.2.1 HB.out.2.2.2.2).trans HB.out.2.2.1
      have H := Lib.hid (And.intro h1 h2)
      clear h1 h2
      go_wp2_with fail
      (refine (HP.out _).mono ?_); rintro e w3 ⟨rfl, rfl⟩
      go_wp2_with fail
      go_ret
      exact RuQ.ok (HB.out.1.trans H.out.1) H.out.2 HPP.out.symm HB.out.2.1
  · have hb : ((x.head.toNat : Int) == 44) = false := by rw [show ((44 : Int)) = (((44 : UInt8).toNat : Nat) : Int) from rfl, byte_eq]; simpa using hx
    replace hRR : R = .bad 23 a := by rw [hRR]; unfold want; rw [if_neg hx]
    have HP := Lib.hid (part_lit (T := x) 44 44 1 1 2 (⟨#[110, 111, 110, 101]⟩) ox rfl rfl (by decide) (by omega) (partV_no hx))
    have HW := Lib.hid (want_no a hs1)
    have HB := Lib.hid (And.intro hbt1 (And.intro hRR (And.intro q0a (And.intro hgl1 hgw))))
    clear hs he hgc hs1 hbt1 hRR hcc hx q0a hgl1
    go_enter Tryz.func88, Tryz.ntmps88
    go_wp2_with fail
    all_goals
      (refine HW.out.mono ?_); rintro e w2 ⟨rfl, h1, h2⟩
      have q2 : w2.cell? ⟨g, o, none⟩ = some (.string (str x)) := (h1.cell (p := ⟨g, o, none⟩) HB.out.2.2.2.1 HB.out.2.2.2.2).trans HB.out.2.2.1
      have H := Lib.hid (And.intro h1 h2)
      clear h1 h2
      go_wp2_with fail
      (refine (HP.out _).mono ?_); rintro e w3 ⟨rfl, rfl⟩
      go_wp2_with fail
      go_ret
      exact RuQ.bad (HB.out.1.trans H.out.1) H.out.2 HB.out.2.1

set_option maxRecDepth 100000 in
set_option maxHeartbeats 4000000 in
theorem rule_22 (kids nn : Int) (s t u : ByteArray) (ln cl : Int) (L : List Tn) (A : Option Addr) (c wb sb : Nat) (xs : List Value) (a a1 : Nat) (Ac : Option Addr) (cc : Nat) (x : Ty) (w : World) (hs : St L A c wb sb xs a1 w) (he : EnvAt w wb Ac [x]) (hcc : 1 ≤ cc) (ox : okT x) :
    Calls Tryz.prog 88 #[.pointer (some ⟨wb, 0, none⟩), .agg #[.int .i8 22, .int .i64 kids, .int .i64 nn, .string s, .string t, .string u, .int .i64 ln, .int .i64 cl], .slice Ac 1 cc, .int .i64 a] w fun e w' => RuQ (ruleE ⟨22, kids, nn, s, t, u, ln, cl⟩ [x] a) L A c wb sb xs a1 w e w' := by
  obtain ⟨g, o, rfl, hgw, hgl, hgc⟩ := envAt_cells he (by simp)
  obtain ⟨R, hR⟩ : ∃ R, ruleE ⟨22, kids, nn, s, t, u, ln, cl⟩ [x] a = R := ⟨_, rfl⟩
  have hRR : R = want (x.head = 108) a (.ok (x.kids.getD 0 tI)) := by rw [← hR]; unfold ruleE; simp
  rw [hR]
  clear hR
  have hcl : wb < w.heap.size := hs.wk.lt
  have hbt1 : Bt wb w (w.alloc (.cells #[.int .i8 22, .int .i64 kids, .int .i64 nn, .string s, .string t, .string u, .int .i64 ln, .int .i64 cl] 60)) := Bt.alloc (But.refl _ _) _
  have hs1 := hs.bt hbt1 (Blk.alloc hs.wk _)
  have q0 : w.cell? ⟨g, o, none⟩ = some (.string (str x)) := hgc 0 _ rfl
  obtain ⟨p1, e1⟩ := str_head x
  have q0a : (w.alloc (.cells #[.int .i8 22, .int .i64 kids, .int .i64 nn, .string s, .string t, .string u, .int .i64 ln, .int .i64 cl] 60)).cell? ⟨g, o, none⟩ = some (.string (str x)) := (hbt1.cell (p := ⟨g, o, none⟩) hgl hgw).trans q0
  have hgl1 : g < (w.alloc (.cells #[.int .i8 22, .int .i64 kids, .int .i64 nn, .string s, .string t, .string u, .int .i64 ln, .int .i64 cl] 60)).heap.size := Nat.lt_of_lt_of_le hgl hbt1.size
  by_cases hx : x.head = 108
  · have hb : ((x.head.toNat : Int) == 108) = true := by rw [hx]; rfl
    replace hRR : R = .ok (x.kids.getD 0 tI) := by rw [hRR]; unfold want; rw [if_pos hx]
    have HP := Lib.hid (part_lit (T := x) 108 108 0 0 1 (str (x.kids.getD 0 tI)) ox rfl rfl (by decide) (by omega) (partV_yes hx))
    obtain ⟨P, hP⟩ : ∃ P, str (x.kids.getD 0 tI) = P := ⟨_, rfl⟩
    rw [hP] at HP
    have HPP := Lib.hid hP
    clear hP
    have HW := Lib.hid (want_yes (a : Nat) hs1)
    have HB := Lib.hid (And.intro hbt1 (And.intro hRR (And.intro q0a (And.intro hgl1 hgw))))
    clear hs he hgc hs1 hbt1 hRR hcc hx q0a hgl1
    go_enter Tryz.func88, Tryz.ntmps88
    go_wp2_with fail
    all_goals
      (refine HW.out.mono ?_); rintro e w2 ⟨rfl, h1, h2⟩
      have q2 : w2.cell? ⟨g, o, none⟩ = some (.string (str x)) := (h1.cell (p := ⟨g, o, none⟩) HB.out.2.2.2.1 HB.out.2.2.2.2).trans HB.out.2.2.1
      have H := Lib.hid (And.intro h1 h2)
      clear h1 h2
      go_wp2_with fail
      (refine (HP.out _).mono ?_); rintro e w3 ⟨rfl, rfl⟩
      go_wp2_with fail
      go_ret
      exact RuQ.ok (HB.out.1.trans H.out.1) H.out.2 HPP.out.symm HB.out.2.1
  · have hb : ((x.head.toNat : Int) == 108) = false := by rw [show ((108 : Int)) = (((108 : UInt8).toNat : Nat) : Int) from rfl, byte_eq]; simpa using hx
    replace hRR : R = .bad 23 a := by rw [hRR]; unfold want; rw [if_neg hx]
    have HP := Lib.hid (part_lit (T := x) 108 108 0 0 1 (⟨#[110, 111, 110, 101]⟩) ox rfl rfl (by decide) (by omega) (partV_no hx))
    have HW := Lib.hid (want_no a hs1)
    have HB := Lib.hid (And.intro hbt1 (And.intro hRR (And.intro q0a (And.intro hgl1 hgw))))
    clear hs he hgc hs1 hbt1 hRR hcc hx q0a hgl1
    go_enter Tryz.func88, Tryz.ntmps88
    go_wp2_with fail
    all_goals
      (refine HW.out.mono ?_); rintro e w2 ⟨rfl, h1, h2⟩
      have q2 : w2.cell? ⟨g, o, none⟩ = some (.string (str x)) := (h1.cell (p := ⟨g, o, none⟩) HB.out.2.2.2.1 HB.out.2.2.2.2).trans HB.out.2.2.1
      have H := Lib.hid (And.intro h1 h2)
      clear h1 h2
      go_wp2_with fail
      (refine (HP.out _).mono ?_); rintro e w3 ⟨rfl, rfl⟩
      go_wp2_with fail
      go_ret
      exact RuQ.bad (HB.out.1.trans H.out.1) H.out.2 HB.out.2.1

set_option maxRecDepth 100000 in
set_option maxHeartbeats 4000000 in
theorem rule_23 (kids nn : Int) (s t u : ByteArray) (ln cl : Int) (L : List Tn) (A : Option Addr) (c wb sb : Nat) (xs : List Value) (a a1 : Nat) (Ac : Option Addr) (cc : Nat) (x : Ty) (w : World) (hs : St L A c wb sb xs a1 w) (he : EnvAt w wb Ac [x]) (hcc : 1 ≤ cc) (ox : okT x) :
    Calls Tryz.prog 88 #[.pointer (some ⟨wb, 0, none⟩), .agg #[.int .i8 23, .int .i64 kids, .int .i64 nn, .string s, .string t, .string u, .int .i64 ln, .int .i64 cl], .slice Ac 1 cc, .int .i64 a] w fun e w' => RuQ (ruleE ⟨23, kids, nn, s, t, u, ln, cl⟩ [x] a) L A c wb sb xs a1 w e w' := by
  obtain ⟨g, o, rfl, hgw, hgl, hgc⟩ := envAt_cells he (by simp)
  obtain ⟨R, hR⟩ : ∃ R, ruleE ⟨23, kids, nn, s, t, u, ln, cl⟩ [x] a = R := ⟨_, rfl⟩
  have hRR : R = want (x.head = 108) a (.ok (x)) := by rw [← hR]; unfold ruleE; simp
  rw [hR]
  clear hR
  have hcl : wb < w.heap.size := hs.wk.lt
  have hbt1 : Bt wb w (w.alloc (.cells #[.int .i8 23, .int .i64 kids, .int .i64 nn, .string s, .string t, .string u, .int .i64 ln, .int .i64 cl] 60)) := Bt.alloc (But.refl _ _) _
  have hs1 := hs.bt hbt1 (Blk.alloc hs.wk _)
  have q0 : w.cell? ⟨g, o, none⟩ = some (.string (str x)) := hgc 0 _ rfl
  obtain ⟨p1, e1⟩ := str_head x
  have q0a : (w.alloc (.cells #[.int .i8 23, .int .i64 kids, .int .i64 nn, .string s, .string t, .string u, .int .i64 ln, .int .i64 cl] 60)).cell? ⟨g, o, none⟩ = some (.string (str x)) := (hbt1.cell (p := ⟨g, o, none⟩) hgl hgw).trans q0
  have hgl1 : g < (w.alloc (.cells #[.int .i8 23, .int .i64 kids, .int .i64 nn, .string s, .string t, .string u, .int .i64 ln, .int .i64 cl] 60)).heap.size := Nat.lt_of_lt_of_le hgl hbt1.size
  by_cases hx : x.head = 108
  · have hb : ((x.head.toNat : Int) == 108) = true := by rw [hx]; rfl
    replace hRR : R = .ok (x) := by rw [hRR]; unfold want; rw [if_pos hx]
    have HW := Lib.hid (want_yes (a : Nat) hs1)
    have HB := Lib.hid (And.intro hbt1 (And.intro hRR (And.intro q0a (And.intro hgl1 hgw))))
    clear hs he hgc hs1 hbt1 hRR hcc hx q0a hgl1
    go_enter Tryz.func88, Tryz.ntmps88
    go_wp2_with fail
    all_goals
      (refine HW.out.mono ?_); rintro e w2 ⟨rfl, h1, h2⟩
      have q2 : w2.cell? ⟨g, o, none⟩ = some (.string (str x)) := (h1.cell (p := ⟨g, o, none⟩) HB.out.2.2.2.1 HB.out.2.2.2.2).trans HB.out.2.2.1
      have H := Lib.hid (And.intro h1 h2)
      clear h1 h2
      go_wp2_with fail
      go_ret
      exact RuQ.ok (HB.out.1.trans H.out.1) H.out.2 rfl HB.out.2.1
  · have hb : ((x.head.toNat : Int) == 108) = false := by rw [show ((108 : Int)) = (((108 : UInt8).toNat : Nat) : Int) from rfl, byte_eq]; simpa using hx
    replace hRR : R = .bad 23 a := by rw [hRR]; unfold want; rw [if_neg hx]
    have HW := Lib.hid (want_no a hs1)
    have HB := Lib.hid (And.intro hbt1 (And.intro hRR (And.intro q0a (And.intro hgl1 hgw))))
    clear hs he hgc hs1 hbt1 hRR hcc hx q0a hgl1
    go_enter Tryz.func88, Tryz.ntmps88
    go_wp2_with fail
    all_goals
      (refine HW.out.mono ?_); rintro e w2 ⟨rfl, h1, h2⟩
      have q2 : w2.cell? ⟨g, o, none⟩ = some (.string (str x)) := (h1.cell (p := ⟨g, o, none⟩) HB.out.2.2.2.1 HB.out.2.2.2.2).trans HB.out.2.2.1
      have H := Lib.hid (And.intro h1 h2)
      clear h1 h2
      go_wp2_with fail
      go_ret
      exact RuQ.bad (HB.out.1.trans H.out.1) H.out.2 HB.out.2.1

set_option maxRecDepth 100000 in
set_option maxHeartbeats 4000000 in
theorem rule_24 (kids nn : Int) (s t u : ByteArray) (ln cl : Int) (L : List Tn) (A : Option Addr) (c wb sb : Nat) (xs : List Value) (a a1 : Nat) (Ac : Option Addr) (cc : Nat) (x : Ty) (w : World) (hs : St L A c wb sb xs a1 w) (he : EnvAt w wb Ac [x]) (hcc : 1 ≤ cc) (ox : okT x) :
    Calls Tryz.prog 88 #[.pointer (some ⟨wb, 0, none⟩), .agg #[.int .i8 24, .int .i64 kids, .int .i64 nn, .string s, .string t, .string u, .int .i64 ln, .int .i64 cl], .slice Ac 1 cc, .int .i64 a] w fun e w' => RuQ (ruleE ⟨24, kids, nn, s, t, u, ln, cl⟩ [x] a) L A c wb sb xs a1 w e w' := by
  obtain ⟨g, o, rfl, hgw, hgl, hgc⟩ := envAt_cells he (by simp)
  obtain ⟨R, hR⟩ : ∃ R, ruleE ⟨24, kids, nn, s, t, u, ln, cl⟩ [x] a = R := ⟨_, rfl⟩
  have hRR : R = want (x.head = 108) a (.ok (tB)) := by rw [← hR]; unfold ruleE; simp
  rw [hR]
  clear hR
  have hcl : wb < w.heap.size := hs.wk.lt
  have hbt1 : Bt wb w (w.alloc (.cells #[.int .i8 24, .int .i64 kids, .int .i64 nn, .string s, .string t, .string u, .int .i64 ln, .int .i64 cl] 60)) := Bt.alloc (But.refl _ _) _
  have hs1 := hs.bt hbt1 (Blk.alloc hs.wk _)
  have q0 : w.cell? ⟨g, o, none⟩ = some (.string (str x)) := hgc 0 _ rfl
  obtain ⟨p1, e1⟩ := str_head x
  have q0a : (w.alloc (.cells #[.int .i8 24, .int .i64 kids, .int .i64 nn, .string s, .string t, .string u, .int .i64 ln, .int .i64 cl] 60)).cell? ⟨g, o, none⟩ = some (.string (str x)) := (hbt1.cell (p := ⟨g, o, none⟩) hgl hgw).trans q0
  have hgl1 : g < (w.alloc (.cells #[.int .i8 24, .int .i64 kids, .int .i64 nn, .string s, .string t, .string u, .int .i64 ln, .int .i64 cl] 60)).heap.size := Nat.lt_of_lt_of_le hgl hbt1.size
  by_cases hx : x.head = 108
  · have hb : ((x.head.toNat : Int) == 108) = true := by rw [hx]; rfl
    replace hRR : R = .ok (tB) := by rw [hRR]; unfold want; rw [if_pos hx]
    have HW := Lib.hid (want_yes (a : Nat) hs1)
    have HB := Lib.hid (And.intro hbt1 (And.intro hRR (And.intro q0a (And.intro hgl1 hgw))))
    clear hs he hgc hs1 hbt1 hRR hcc hx q0a hgl1
    go_enter Tryz.func88, Tryz.ntmps88
    go_wp2_with fail
    all_goals
      (refine HW.out.mono ?_); rintro e w2 ⟨rfl, h1, h2⟩
      have q2 : w2.cell? ⟨g, o, none⟩ = some (.string (str x)) := (h1.cell (p := ⟨g, o, none⟩) HB.out.2.2.2.1 HB.out.2.2.2.2).trans HB.out.2.2.1
      have H := Lib.hid (And.intro h1 h2)
      clear h1 h2
      go_wp2_with fail
      go_ret
      exact RuQ.ok (HB.out.1.trans H.out.1) H.out.2 rfl HB.out.2.1
  · have hb : ((x.head.toNat : Int) == 108) = false := by rw [show ((108 : Int)) = (((108 : UInt8).toNat : Nat) : Int) from rfl, byte_eq]; simpa using hx
    replace hRR : R = .bad 23 a := by rw [hRR]; unfold want; rw [if_neg hx]
    have HW := Lib.hid (want_no a hs1)
    have HB := Lib.hid (And.intro hbt1 (And.intro hRR (And.intro q0a (And.intro hgl1 hgw))))
    clear hs he hgc hs1 hbt1 hRR hcc hx q0a hgl1
    go_enter Tryz.func88, Tryz.ntmps88
    go_wp2_with fail
    all_goals
      (refine HW.out.mono ?_); rintro e w2 ⟨rfl, h1, h2⟩
      have q2 : w2.cell? ⟨g, o, none⟩ = some (.string (str x)) := (h1.cell (p := ⟨g, o, none⟩) HB.out.2.2.2.1 HB.out.2.2.2.2).trans HB.out.2.2.1
      have H := Lib.hid (And.intro h1 h2)
      clear h1 h2
      go_wp2_with fail
      go_ret
      exact RuQ.bad (HB.out.1.trans H.out.1) H.out.2 HB.out.2.1

set_option maxRecDepth 100000 in
set_option maxHeartbeats 4000000 in
theorem rule_27 (kids nn : Int) (s t u : ByteArray) (ln cl : Int) (L : List Tn) (A : Option Addr) (c wb sb : Nat) (xs : List Value) (a a1 : Nat) (Ac : Option Addr) (cc : Nat) (x : Ty) (w : World) (hs : St L A c wb sb xs a1 w) (he : EnvAt w wb Ac [x]) (hcc : 1 ≤ cc) (ox : okT x) :
    Calls Tryz.prog 88 #[.pointer (some ⟨wb, 0, none⟩), .agg #[.int .i8 27, .int .i64 kids, .int .i64 nn, .string s, .string t, .string u, .int .i64 ln, .int .i64 cl], .slice Ac 1 cc, .int .i64 a] w fun e w' => RuQ (ruleE ⟨27, kids, nn, s, t, u, ln, cl⟩ [x] a) L A c wb sb xs a1 w e w' := by
  obtain ⟨g, o, rfl, hgw, hgl, hgc⟩ := envAt_cells he (by simp)
  obtain ⟨R, hR⟩ : ∃ R, ruleE ⟨27, kids, nn, s, t, u, ln, cl⟩ [x] a = R := ⟨_, rfl⟩
  have hRR : R = want (x.head = 120) a (.ok (x.kids.getD 0 tI)) := by rw [← hR]; unfold ruleE; simp
  rw [hR]
  clear hR
  have hcl : wb < w.heap.size := hs.wk.lt
  have hbt1 : Bt wb w (w.alloc (.cells #[.int .i8 27, .int .i64 kids, .int .i64 nn, .string s, .string t, .string u, .int .i64 ln, .int .i64 cl] 60)) := Bt.alloc (But.refl _ _) _
  have hs1 := hs.bt hbt1 (Blk.alloc hs.wk _)
  have q0 : w.cell? ⟨g, o, none⟩ = some (.string (str x)) := hgc 0 _ rfl
  obtain ⟨p1, e1⟩ := str_head x
  have q0a : (w.alloc (.cells #[.int .i8 27, .int .i64 kids, .int .i64 nn, .string s, .string t, .string u, .int .i64 ln, .int .i64 cl] 60)).cell? ⟨g, o, none⟩ = some (.string (str x)) := (hbt1.cell (p := ⟨g, o, none⟩) hgl hgw).trans q0
  have hgl1 : g < (w.alloc (.cells #[.int .i8 27, .int .i64 kids, .int .i64 nn, .string s, .string t, .string u, .int .i64 ln, .int .i64 cl] 60)).heap.size := Nat.lt_of_lt_of_le hgl hbt1.size
  by_cases hx : x.head = 120
  · have hb : ((x.head.toNat : Int) == 120) = true := by rw [hx]; rfl
    replace hRR : R = .ok (x.kids.getD 0 tI) := by rw [hRR]; unfold want; rw [if_pos hx]
    have HP := Lib.hid (part_lit (T := x) 120 120 0 0 1 (str (x.kids.getD 0 tI)) ox rfl rfl (by decide) (by omega) (partV_yes hx))
    obtain ⟨P, hP⟩ : ∃ P, str (x.kids.getD 0 tI) = P := ⟨_, rfl⟩
    rw [hP] at HP
    have HPP := Lib.hid hP
    clear hP
    have HW := Lib.hid (want_yes (a : Nat) hs1)
    have HB := Lib.hid (And.intro hbt1 (And.intro hRR (And.intro q0a (And.intro hgl1 hgw))))
    clear hs he hgc hs1 hbt1 hRR hcc hx q0a hgl1
    go_enter Tryz.func88, Tryz.ntmps88
    go_wp2_with fail
    all_goals
      (refine HW.out.mono ?_); rintro e w2 ⟨rfl, h1, h2⟩
      have q2 : w2.cell? ⟨g, o, none⟩ = some (.string (str x)) := (h1.cell (p := ⟨g, o, none⟩) HB.out.2.2.2.1 HB.out.2.2.2.2).trans HB.out.2.2.1
      have H := Lib.hid (And.intro h1 h2)
      clear h1 h2
      go_wp2_with fail
      (refine (HP.out _).mono ?_); rintro e w3 ⟨rfl, rfl⟩
      go_wp2_with fail
      go_ret
      exact RuQ.ok (HB.out.1.trans H.out.1) H.out.2 HPP.out.symm HB.out.2.1
  · have hb : ((x.head.toNat : Int) == 120) = false := by rw [show ((120 : Int)) = (((120 : UInt8).toNat : Nat) : Int) from rfl, byte_eq]; simpa using hx
    replace hRR : R = .bad 23 a := by rw [hRR]; unfold want; rw [if_neg hx]
    have HP := Lib.hid (part_lit (T := x) 120 120 0 0 1 (⟨#[110, 111, 110, 101]⟩) ox rfl rfl (by decide) (by omega) (partV_no hx))
    have HW := Lib.hid (want_no a hs1)
    have HB := Lib.hid (And.intro hbt1 (And.intro hRR (And.intro q0a (And.intro hgl1 hgw))))
    clear hs he hgc hs1 hbt1 hRR hcc hx q0a hgl1
    go_enter Tryz.func88, Tryz.ntmps88
    go_wp2_with fail
    all_goals
      (refine HW.out.mono ?_); rintro e w2 ⟨rfl, h1, h2⟩
      have q2 : w2.cell? ⟨g, o, none⟩ = some (.string (str x)) := (h1.cell (p := ⟨g, o, none⟩) HB.out.2.2.2.1 HB.out.2.2.2.2).trans HB.out.2.2.1
      have H := Lib.hid (And.intro h1 h2)
      clear h1 h2
      go_wp2_with fail
      (refine (HP.out _).mono ?_); rintro e w3 ⟨rfl, rfl⟩
      go_wp2_with fail
      go_ret
      exact RuQ.bad (HB.out.1.trans H.out.1) H.out.2 HB.out.2.1

set_option maxRecDepth 100000 in
set_option maxHeartbeats 4000000 in
theorem rule_26 (kids nn : Int) (s t u : ByteArray) (ln cl : Int) (L : List Tn) (A : Option Addr) (c wb sb : Nat) (xs : List Value) (a a1 : Nat) (Ac : Option Addr) (cc : Nat) (x : Ty) (w : World) (hs : St L A c wb sb xs a1 w) (he : EnvAt w wb Ac [x]) (hcc : 1 ≤ cc) (ox : okT x) :
    Calls Tryz.prog 88 #[.pointer (some ⟨wb, 0, none⟩), .agg #[.int .i8 26, .int .i64 kids, .int .i64 nn, .string s, .string t, .string u, .int .i64 ln, .int .i64 cl], .slice Ac 1 cc, .int .i64 a] w fun e w' => RuQ (ruleE ⟨26, kids, nn, s, t, u, ln, cl⟩ [x] a) L A c wb sb xs a1 w e w' := by
  obtain ⟨g, o, rfl, hgw, hgl, hgc⟩ := envAt_cells he (by simp)
  obtain ⟨R, hR⟩ : ∃ R, ruleE ⟨26, kids, nn, s, t, u, ln, cl⟩ [x] a = R := ⟨_, rfl⟩
  have hRR : R = made (.un 120 x) a := by rw [← hR]; unfold ruleE; simp
  rw [hR]
  clear hR
  have hcl : wb < w.heap.size := hs.wk.lt
  have hbt1 : Bt wb w (w.alloc (.cells #[.int .i8 26, .int .i64 kids, .int .i64 nn, .string s, .string t, .string u, .int .i64 ln, .int .i64 cl] 60)) := Bt.alloc (But.refl _ _) _
  have hs1 := hs.bt hbt1 (Blk.alloc hs.wk _)
  have q0 : w.cell? ⟨g, o, none⟩ = some (.string (str x)) := hgc 0 _ rfl
  have hs64 : (str x).size ≤ 64 := by rw [str_size]; exact ox.2
  have ha1 := fun V => run_string_add_sum (P := Tryz.prog) V ⟨#[120]⟩ (str x) (by show 1 + _ ≤ _; omega)
  have hsz : ((⟨#[120]⟩ : ByteArray) ++ str x).size = (Ty.un 120 x).code.length := by rw [str_un, str_size]
  by_cases hx : (Ty.un 120 x).code.length ≤ 64
  · replace hRR : R = .ok (.un 120 x) := by rw [hRR]; unfold made; rw [if_pos hx]
    have HW := Lib.hid (madeS_yes _ (a : Nat) hs1 (by rw [hsz]; exact hx))
    have HB := Lib.hid (And.intro hbt1 hRR)
    have HU := Lib.hid (str_un 120 x)
    obtain ⟨X, hX⟩ : ∃ X, str x = X := ⟨_, rfl⟩
    rw [hX] at q0 ha1 HW HU
    clear hs he hgc hs1 hbt1 hRR hcc hx hsz hs64 hX
    go_enter Tryz.func88, Tryz.ntmps88
    go_wp2_with fail
    (refine HW.out.mono ?_); rintro e w2 ⟨rfl, h1, h2⟩
    have H := Lib.hid (And.intro h1 h2)
    clear h1 h2
    go_wp2_with fail
    go_ret
    exact RuQ.ok (HB.out.1.trans H.out.1) H.out.2 HU.out HB.out.2
  · replace hRR : R = .bad 21 a := by rw [hRR]; unfold made; rw [if_neg hx]
    have HW := Lib.hid (madeS_no _ (a : Nat) hs1 (by rw [hsz]; exact hx))
    have HB := Lib.hid (And.intro hbt1 hRR)
    have HU := Lib.hid (str_un 120 x)
    obtain ⟨X, hX⟩ : ∃ X, str x = X := ⟨_, rfl⟩
    rw [hX] at q0 ha1 HW HU
    clear hs he hgc hs1 hbt1 hRR hcc hx hsz hs64 hX
    go_enter Tryz.func88, Tryz.ntmps88
    go_wp2_with fail
    (refine HW.out.mono ?_); rintro e w2 ⟨rfl, h1, h2⟩
    have H := Lib.hid (And.intro h1 h2)
    clear h1 h2
    go_wp2_with fail
    go_ret
    exact RuQ.bad (HB.out.1.trans H.out.1) H.out.2 HB.out.2
end Go.Proofs.YtmagljnlfponaaaGreat.R
