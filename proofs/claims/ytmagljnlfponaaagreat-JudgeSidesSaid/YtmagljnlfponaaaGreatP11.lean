/- Parts of this claim: CkG, CkH, CkI. -/
import Derived.Deep.RegionHeld3
import Derived.Carry
import Derived.MapKept
import Derived.MapFrom
import Derived.Test.YtmagljnlfponaaaGreatP10
import Derived.Test.YtmagljnlfponaaaGreatP05
set_option linter.unusedVariables false
set_option linter.unusedSimpArgs false
/- CkG -/
namespace Go.Proofs.YtmagljnlfponaaaGreat.K
open Go.RowKit Go.Proofs.YtmagljnlfponaaaGreat.B Go.Proofs.YtmagljnlfponaaaGreat.T
set_option linter.unusedVariables false
set_option linter.unusedSimpArgs false

/-! ### all -/
theorem all_mk (s t : ByteArray) (w : World) : Calls Tryz.prog 62 #[.string s, .string t] w fun e w' => e = .returned (.func (.func 89) #[] #[.pointer (some ⟨w.heap.size, 0, none⟩), .pointer (some ⟨w.heap.size + 1, 0, none⟩)]) ∧ Below w.heap.size w w' ∧
    w'.heap.size = w.heap.size + 2 ∧ w'.cell? ⟨w.heap.size, 0, none⟩ = some (.string s) ∧ w'.cell? ⟨w.heap.size + 1, 0, none⟩ = some (.string t) := by
  have hmf : ∀ (fn : Fn) (first cap : Array Value) (w : World), (Instr.makeFunc fn first cap).run Tryz.prog w = .ok (.func fn first cap) w := fun _ _ _ _ => rfl
  have h1 := (Blk.new w 9 #[.string s]).alloc (.cells #[.string t] 9)
  have h2 := Blk.new (w.alloc (.cells #[.string s] 9)) 9 #[.string t]
  rw [World.size_alloc] at h2
  have H := Lib.hid (And.intro ((h1.cell 0).trans rfl : _ = some (Value.string s)) ((h2.cell 0).trans rfl : _ = some (Value.string t)))
  clear h1 h2
  go_enter Tryz.func62, Tryz.ntmps62
  go_wp2_with fail
  go_ret
  exact ⟨rfl, bal (bal b0 _) _, by simp only [World.size_alloc], H.out.1, H.out.2⟩

set_option maxRecDepth 100000 in
set_option maxHeartbeats 2000000 in
/-- The closure that all makes: each kid's type is that; the answer is the other one. -/
theorem all1_any (cp : Value) (n : Tn) (ts : List Ty) (g c : Nat) (A : Option Addr) (a p q : Nat) (x y : Ty) (w : World) (hts : ∀ t ∈ ts, okT t) (hx : okT x)
    (hA : ts = [] ∨ (A = some ⟨g, 0, none⟩ ∧ g < w.heap.size ∧ ∀ j t, ts[j]? = some t → w.cell? ⟨g, j, none⟩ = some (.string (str t)))) (hlc : ts.length ≤ c) (hl : ts.length ≤ 1000000)
    (hp : w.cell? ⟨p, 0, none⟩ = some (.string (str x))) (hq : w.cell? ⟨q, 0, none⟩ = some (.string (str y))) (hpl : p < w.heap.size) (hql : q < w.heap.size) :
    Calls Tryz.prog 89 #[cp, n.val, .slice A ts.length c, .int .i64 (a : Nat), .pointer (some ⟨p, 0, none⟩), .pointer (some ⟨q, 0, none⟩)] w fun e w' => RuleQ (want (∀ t ∈ ts, t = x) a (.ok y)) w e w' := by
  obtain ⟨kd, kids, nn, s, t, u, ln, cl⟩ := n
  unfold Tn.val
  obtain ⟨R, hR⟩ : ∃ R, want (∀ t ∈ ts, t = x) a (.ok y) = R := ⟨_, rfl⟩
  rw [hR]
  obtain ⟨K, hK⟩ : ∃ K, ts.length = K := ⟨_, rfl⟩
  rw [hK] at hlc hl ⊢
  simp only
  have HR := Lib.hid hR
  have HA := Lib.hid hA
  have HTS := Lib.hid (And.intro hts (And.intro hx hK))
  clear hR hA hts hx hK
  go_enter Tryz.func89, Tryz.ntmps89
  go_wp2_with fail
  obtain ⟨W, hW⟩ : ∃ W, w.alloc (.cells #[.int .i8 kd, .int .i64 kids, .int .i64 nn, .string s, .string t, .string u, .int .i64 ln, .int .i64 cl] 60) = W := ⟨_, rfl⟩
  rw [hW]
  have hbw : Below w.heap.size w W := by rw [← hW]; exact bal b0 _
  have p0 := (hbw.cell (p := ⟨p, 0, none⟩) hpl).trans hp
  have q0 := (hbw.cell (p := ⟨q, 0, none⟩) hql).trans hq
  have HB := Lib.hid hbw
  clear hW hbw hp hq
  go_loopg [15] K (fun gg i wr => ∃ m : Nat, m ≤ K ∧ gg = K - m ∧ i = .int .i64 m ∧ wr = W ∧ ∀ j t, j < m → ts[j]? = some t → t = x)
  case atStart => exact ⟨0, by omega, rfl, rfl, rfl, fun j t hj => absurd hj (by omega)⟩
  case round =>
    obtain ⟨m, hm, rfl, rfl, rfl, hall⟩ := hrel
    have HALL := Lib.hid hall
    clear hall
    by_cases hlt : m < K
    · obtain ⟨t0, ht0⟩ : ∃ t, ts[m]? = some t := ⟨_, List.getElem?_eq_getElem (by rw [HTS.out.2.2]; exact hlt)⟩
      obtain ⟨rfl, hg, hcell⟩ := HA.out.resolve_left (fun e => by rw [e] at ht0; simp at ht0)
      have hc0 := (HB.out.cell (p := ⟨g, m, none⟩) hg).trans (hcell m t0 ht0)
      have heq : ((str t0).toList == (str x).toList) = true ↔ t0 = x := strEq (HTS.out.1 t0 (List.mem_of_getElem? ht0)).1 HTS.out.2.1.1
      obtain ⟨b, hb⟩ : ∃ b, ((str t0).toList == (str x).toList) = b := ⟨_, rfl⟩
      rw [hb] at heq
      have HEQ := Lib.hid heq
      have HT0 := Lib.hid ht0
      clear heq ht0 hcell
      go_wp2_with fail
      cases b
      · have hRn := HR.out
        rw [want_neg (fun h => absurd (HEQ.out.2 (h t0 (List.mem_of_getElem? HT0.out))) (by simp))] at hRn
        subst hRn
        (refine (need_no 23 a _).mono ?_); rintro e w4 ⟨rfl, rfl⟩
        unfold Flaw
        go_wp2_with fail
        exact bodyPost_panic rfl (RuleQ.bad HB.out)
      · (refine (need_yes 23 a _).mono ?_); rintro e w4 ⟨rfl, rfl⟩
        go_wp2_with fail
        go_roundg (K - (m + 1))
        case measure => omega
        case rel => exact ⟨m + 1, by omega, rfl, by go_num, rfl, fun j t hj htj => by
          rcases Nat.lt_or_ge j m with h | h
          · exact HALL.out j t h htj
          · obtain rfl : j = m := by omega
            rw [HT0.out] at htj
            injection htj with htj
            rw [← htj]; exact HEQ.out.1 (by first | rfl | trivial)⟩
    · obtain rfl : m = K := by omega
      have hRp := HR.out
      rw [want_pos (fun t ht => by
        obtain ⟨j, hj⟩ := List.mem_iff_getElem?.1 ht
        exact HALL.out j t (by have := (List.getElem?_eq_some_iff.1 hj).1; rw [HTS.out.2.2] at this; exact this) hj)] at hRp
      subst hRp
      go_wp2_with fail
      go_ret
      exact RuleQ.ok HB.out rfl

set_option maxRecDepth 100000 in
set_option maxHeartbeats 4000000 in
theorem list_x (cp : Value) (kd kids nn : Int) (s t u : ByteArray) (ln cl : Int) (ts : List Ty) (g c K : Nat) (A : Option Addr) (a : Nat) (T : Ty) (R : Rs Ty) (w : World) (hts : ∀ t ∈ ts, okT t) (hT : okT T) (ht : t = str T) (hK : ts.length = K)
    (hA : ts = [] ∨ (A = some ⟨g, 0, none⟩ ∧ g < w.heap.size ∧ ∀ j t, ts[j]? = some t → w.cell? ⟨g, j, none⟩ = some (.string (str t)))) (hlc : K ≤ c) (hl : K ≤ 1000000) (hR : R = want (∀ t ∈ ts, t = T) a (made (.un 108 T) a)) :
    Calls Tryz.prog 69 #[cp, .agg #[.int .i8 kd, .int .i64 kids, .int .i64 nn, .string s, .string t, .string u, .int .i64 ln, .int .i64 cl], .slice A K c, .int .i64 (a : Nat)] w fun e w' => RuleQ R w e w' := by
  have hs : ∀ V, _ := fun V => run_string_add_sum (P := Tryz.prog) V ⟨#[108]⟩ (str T) (by rw [str_size]; show 1 + _ ≤ _; have := hT.2; omega)
  have hsz : ((⟨#[108]⟩ : ByteArray) ++ str T).size = (Ty.un 108 T).code.length := by rw [str_un, str_size]
  have hst : (⟨#[108]⟩ : ByteArray) ++ str T = str (.un 108 T) := str_un _ _
  obtain ⟨xs, hxs⟩ : ∃ q, (⟨#[108]⟩ : ByteArray) ++ str T = q := ⟨_, rfl⟩
  rw [hxs] at hs hsz hst
  rw [← ht] at hs
  have HTS := Lib.hid (And.intro hts (And.intro hT (And.intro hK ht)))
  have HA := Lib.hid hA
  have HST := Lib.hid hst
  clear hts hT hK hA ht hst hxs
  by_cases hall : ∀ t ∈ ts, t = T
  · rw [want_pos hall] at hR
    have HALL := Lib.hid hall
    clear hall
    by_cases h64 : (Ty.un 108 T).code.length ≤ 64
    · rw [made_pos h64] at hR
      subst hR
      have HM := Lib.hid fun W => made_yes cp xs a W (by omega)
      go_enter Tryz.func69, Tryz.ntmps69
      go_upto_region 1 with fail
      obtain ⟨W, hW⟩ : ∃ W, w.alloc (.cells #[.int .i8 kd, .int .i64 kids, .int .i64 nn, .string s, .string t, .string u, .int .i64 ln, .int .i64 cl] 60) = W := ⟨_, rfl⟩
      rw [hW]
      have hbk : Blk W w.heap.size 60 #[.int .i8 kd, .int .i64 kids, .int .i64 nn, .string s, .string t, .string u, .int .i64 ln, .int .i64 cl] := by rw [← hW]; exact Blk.new _ _ _
      have hbw : Below w.heap.size w W := by rw [← hW]; exact bal b0 _
      have HK := Lib.hid (show ∀ W', Below W.heap.size W W' → (Below W.heap.size W W' ∧ W'.cell? ⟨w.heap.size, 0, none⟩ = some (.int .i8 kd) ∧ W'.cell? ⟨w.heap.size, 1, none⟩ = some (.int .i64 kids) ∧ W'.cell? ⟨w.heap.size, 2, none⟩ = some (.int .i64 nn) ∧ W'.cell? ⟨w.heap.size, 3, none⟩ = some (.string s) ∧ W'.cell? ⟨w.heap.size, 4, none⟩ = some (.string t) ∧ W'.cell? ⟨w.heap.size, 5, none⟩ = some (.string u) ∧ W'.cell? ⟨w.heap.size, 6, none⟩ = some (.int .i64 ln) ∧ W'.cell? ⟨w.heap.size, 7, none⟩ = some (.int .i64 cl)) from fun W' hb' => ⟨hb', ((hbk.below hb' hbk.lt).cell 0).trans rfl, ((hbk.below hb' hbk.lt).cell 1).trans rfl, ((hbk.below hb' hbk.lt).cell 2).trans rfl, ((hbk.below hb' hbk.lt).cell 3).trans rfl, ((hbk.below hb' hbk.lt).cell 4).trans rfl, ((hbk.below hb' hbk.lt).cell 5).trans rfl, ((hbk.below hb' hbk.lt).cell 6).trans rfl, ((hbk.below hb' hbk.lt).cell 7).trans rfl⟩)
      have HB := Lib.hid hbw
      have hcl : ∀ (w5 : World), Below W.drew.heap.size W.drew w5 → w5.heap.size = W.drew.heap.size + 2 → w5.cell? ⟨W.drew.heap.size, 0, none⟩ = some (.string t) → w5.cell? ⟨W.drew.heap.size + 1, 0, none⟩ = some (.string t) →
          Calls Tryz.prog 89 #[cp, .agg #[.int .i8 kd, .int .i64 kids, .int .i64 nn, .string s, .string t, .string u, .int .i64 ln, .int .i64 cl], .slice A K c, .int .i64 (a : Nat), .pointer (some ⟨W.heap.size, 0, none⟩), .pointer (some ⟨W.heap.size + 1, 0, none⟩)] w5 fun e w' => RuleQ (want (∀ t ∈ ts, t = T) a (.ok T)) w5 e w' := fun w5 hb5 hs5 hp5 hq5 => by
        have hb6 : Below w.heap.size w w5 := bl (show Below w.heap.size w W.drew from hbw.drew) hb5
        have := all1_any cp ⟨kd, kids, nn, s, t, u, ln, cl⟩ ts g c A a W.heap.size (W.heap.size + 1) T T w5 HTS.out.1 HTS.out.2.1 (HA.out.imp_right fun ⟨h1, h2, h3⟩ => ⟨h1, Nat.lt_of_lt_of_le h2 hb6.size, fun j t hj => (hb6.cell (p := ⟨g, j, none⟩) h2).trans (h3 j t hj)⟩) (by rw [HTS.out.2.2.1]; exact hlc) (by rw [HTS.out.2.2.1]; exact hl) (by rw [← HTS.out.2.2.2]; exact hp5) (by rw [← HTS.out.2.2.2]; exact hq5) (by have : W.drew.heap.size = W.heap.size := rfl; omega) (by have : W.drew.heap.size = W.heap.size := rfl; omega)
        rwa [HTS.out.2.2.1] at this
      have HCL := Lib.hid hcl
      clear hbk hbw hW hcl
      refine wp_region_held_drew (S := (fun W' => Below W.heap.size W W' ∧ W'.cell? ⟨w.heap.size, 0, none⟩ = some (.int .i8 kd) ∧ W'.cell? ⟨w.heap.size, 1, none⟩ = some (.int .i64 kids) ∧ W'.cell? ⟨w.heap.size, 2, none⟩ = some (.int .i64 nn) ∧ W'.cell? ⟨w.heap.size, 3, none⟩ = some (.string s) ∧ W'.cell? ⟨w.heap.size, 4, none⟩ = some (.string t) ∧ W'.cell? ⟨w.heap.size, 5, none⟩ = some (.string u) ∧ W'.cell? ⟨w.heap.size, 6, none⟩ = some (.int .i64 ln) ∧ W'.cell? ⟨w.heap.size, 7, none⟩ = some (.int .i64 cl))) (by kernel_rfl) ?ss1 (fun hHeld => ?rr1)
      case ss1 => (try dsimp only); exact HK.out _ (Below.refl _ _).drew
      refine rgt 0 9 rfl rfl hHeld ?_
      try simp only [Act.put, rg1, rg2, rg3]
      refine rgt 1 10 rfl rfl hHeld ?_
      try simp only [Act.put, rg1, rg2, rg3]
      refine rgt 2 11 rfl rfl hHeld ?_
      try simp only [Act.put, rg1, rg2, rg3]
      refine rgt 3 12 rfl rfl hHeld ?_
      try simp only [Act.put, rg1, rg2, rg3]
      refine rgt 4 13 rfl rfl hHeld ?_
      try simp only [Act.put, rg1, rg2, rg3]
      refine rgt 6 15 rfl rfl hHeld ?_
      try simp only [Act.put, rg1, rg2, rg3]
      refine rgt 7 16 rfl rfl hHeld ?_
      try simp only [Act.put, rg1, rg2, rg3]
      refine rgt 8 17 rfl rfl hHeld ?_
      try simp only [Act.put, rg1, rg2, rg3]
      refine rgt 9 18 rfl rfl hHeld ?_
      try simp only [Act.put, rg1, rg2, rg3]
      refine rgt 12 21 rfl rfl hHeld ?_
      try simp only [Act.put, rg1, rg2, rg3]
      refine rgc 5 (some 14) rfl (fun K hK => ?_)
      go_simp
      ((refine (all_mk _ _ _).mono ?_); rintro e w5 ⟨rfl, hb5, hs5, hp5, hq5⟩; have hcl := HCL.out w5 hb5 hs5 hp5 hq5; clear hp5 hq5)
      refine hK.out _ _ ?ss12 (fun hHeld2 => ?rr12)
      case ss12 => (try dsimp only); exact HK.out _ (bl (Below.refl _ _).drew hb5)
      clear hK K
      clear hHeld
      have hHeld := hHeld2
      clear hHeld2
      try simp only [Act.put, rg1, rg2, rg3]
      refine rgc 10 (some 19) rfl (fun K hK => ?_)
      go_simp
      ((refine hcl.mono ?_); rintro e w6 ⟨hb6, hq6⟩; rw [want_pos HALL.out] at hq6; simp only at hq6; subst hq6; clear hcl; rw [← HTS.out.2.2.2])
      refine hK.out _ _ ?ss13 (fun hHeld2 => ?rr13)
      case ss13 => (try dsimp only); exact HK.out _ (bl (bl (Below.refl _ _).drew hb5) hb6)
      clear hK K
      clear hHeld
      have hHeld := hHeld2
      clear hHeld2
      try simp only [Act.put, rg1, rg2, rg3]
      refine rgt 11 20 rfl rfl hHeld ?_
      try simp only [Act.put, rg1, rg2, rg3]
      refine rgc 13 (some 22) rfl (fun K hK => ?_)
      go_simp
      ((refine (HM.out _).mono ?_); rintro e w7 ⟨rfl, rfl⟩)
      refine hK.out _ _ ?ss15 (fun hHeld2 => ?rr15)
      case ss15 => (try dsimp only); exact hHeld
      clear hK K
      clear hHeld2
      try simp only [Act.put, rg1, rg2, rg3]
      refine rgt 14 8 rfl rfl hHeld ?_
      try simp only [Act.put, rg1, rg2, rg3]
      refine wpAnyH_done (by kernel_rfl) ?_ _
      have HB2 := Lib.hid (bl HB.out hHeld.1)
      clear hHeld
      go_wp2_with fail
      go_ret
      exact RuleQ.ok HB2.out HST.out
    · rw [made_neg h64] at hR
      subst hR
      have HM := Lib.hid fun W => made_no cp xs a W (by omega)
      go_enter Tryz.func69, Tryz.ntmps69
      go_upto_region 1 with fail
      obtain ⟨W, hW⟩ : ∃ W, w.alloc (.cells #[.int .i8 kd, .int .i64 kids, .int .i64 nn, .string s, .string t, .string u, .int .i64 ln, .int .i64 cl] 60) = W := ⟨_, rfl⟩
      rw [hW]
      have hbk : Blk W w.heap.size 60 #[.int .i8 kd, .int .i64 kids, .int .i64 nn, .string s, .string t, .string u, .int .i64 ln, .int .i64 cl] := by rw [← hW]; exact Blk.new _ _ _
      have hbw : Below w.heap.size w W := by rw [← hW]; exact bal b0 _
      have HK := Lib.hid (show ∀ W', Below W.heap.size W W' → (Below W.heap.size W W' ∧ W'.cell? ⟨w.heap.size, 0, none⟩ = some (.int .i8 kd) ∧ W'.cell? ⟨w.heap.size, 1, none⟩ = some (.int .i64 kids) ∧ W'.cell? ⟨w.heap.size, 2, none⟩ = some (.int .i64 nn) ∧ W'.cell? ⟨w.heap.size, 3, none⟩ = some (.string s) ∧ W'.cell? ⟨w.heap.size, 4, none⟩ = some (.string t) ∧ W'.cell? ⟨w.heap.size, 5, none⟩ = some (.string u) ∧ W'.cell? ⟨w.heap.size, 6, none⟩ = some (.int .i64 ln) ∧ W'.cell? ⟨w.heap.size, 7, none⟩ = some (.int .i64 cl)) from fun W' hb' => ⟨hb', ((hbk.below hb' hbk.lt).cell 0).trans rfl, ((hbk.below hb' hbk.lt).cell 1).trans rfl, ((hbk.below hb' hbk.lt).cell 2).trans rfl, ((hbk.below hb' hbk.lt).cell 3).trans rfl, ((hbk.below hb' hbk.lt).cell 4).trans rfl, ((hbk.below hb' hbk.lt).cell 5).trans rfl, ((hbk.below hb' hbk.lt).cell 6).trans rfl, ((hbk.below hb' hbk.lt).cell 7).trans rfl⟩)
      have HB := Lib.hid hbw
      have hcl : ∀ (w5 : World), Below W.drew.heap.size W.drew w5 → w5.heap.size = W.drew.heap.size + 2 → w5.cell? ⟨W.drew.heap.size, 0, none⟩ = some (.string t) → w5.cell? ⟨W.drew.heap.size + 1, 0, none⟩ = some (.string t) →
          Calls Tryz.prog 89 #[cp, .agg #[.int .i8 kd, .int .i64 kids, .int .i64 nn, .string s, .string t, .string u, .int .i64 ln, .int .i64 cl], .slice A K c, .int .i64 (a : Nat), .pointer (some ⟨W.heap.size, 0, none⟩), .pointer (some ⟨W.heap.size + 1, 0, none⟩)] w5 fun e w' => RuleQ (want (∀ t ∈ ts, t = T) a (.ok T)) w5 e w' := fun w5 hb5 hs5 hp5 hq5 => by
        have hb6 : Below w.heap.size w w5 := bl (show Below w.heap.size w W.drew from hbw.drew) hb5
        have := all1_any cp ⟨kd, kids, nn, s, t, u, ln, cl⟩ ts g c A a W.heap.size (W.heap.size + 1) T T w5 HTS.out.1 HTS.out.2.1 (HA.out.imp_right fun ⟨h1, h2, h3⟩ => ⟨h1, Nat.lt_of_lt_of_le h2 hb6.size, fun j t hj => (hb6.cell (p := ⟨g, j, none⟩) h2).trans (h3 j t hj)⟩) (by rw [HTS.out.2.2.1]; exact hlc) (by rw [HTS.out.2.2.1]; exact hl) (by rw [← HTS.out.2.2.2]; exact hp5) (by rw [← HTS.out.2.2.2]; exact hq5) (by have : W.drew.heap.size = W.heap.size := rfl; omega) (by have : W.drew.heap.size = W.heap.size := rfl; omega)
        rwa [HTS.out.2.2.1] at this
      have HCL := Lib.hid hcl
      clear hbk hbw hW hcl
      refine wp_region_held_drew (S := (fun W' => Below W.heap.size W W' ∧ W'.cell? ⟨w.heap.size, 0, none⟩ = some (.int .i8 kd) ∧ W'.cell? ⟨w.heap.size, 1, none⟩ = some (.int .i64 kids) ∧ W'.cell? ⟨w.heap.size, 2, none⟩ = some (.int .i64 nn) ∧ W'.cell? ⟨w.heap.size, 3, none⟩ = some (.string s) ∧ W'.cell? ⟨w.heap.size, 4, none⟩ = some (.string t) ∧ W'.cell? ⟨w.heap.size, 5, none⟩ = some (.string u) ∧ W'.cell? ⟨w.heap.size, 6, none⟩ = some (.int .i64 ln) ∧ W'.cell? ⟨w.heap.size, 7, none⟩ = some (.int .i64 cl))) (by kernel_rfl) ?ss17 (fun hHeld => ?rr17)
      case ss17 => (try dsimp only); exact HK.out _ (Below.refl _ _).drew
      refine rgt 0 9 rfl rfl hHeld ?_
      try simp only [Act.put, rg1, rg2, rg3]
      refine rgt 1 10 rfl rfl hHeld ?_
      try simp only [Act.put, rg1, rg2, rg3]
      refine rgt 2 11 rfl rfl hHeld ?_
      try simp only [Act.put, rg1, rg2, rg3]
      refine rgt 3 12 rfl rfl hHeld ?_
      try simp only [Act.put, rg1, rg2, rg3]
      refine rgt 4 13 rfl rfl hHeld ?_
      try simp only [Act.put, rg1, rg2, rg3]
      refine rgt 6 15 rfl rfl hHeld ?_
      try simp only [Act.put, rg1, rg2, rg3]
      refine rgt 7 16 rfl rfl hHeld ?_
      try simp only [Act.put, rg1, rg2, rg3]
      refine rgt 8 17 rfl rfl hHeld ?_
      try simp only [Act.put, rg1, rg2, rg3]
      refine rgt 9 18 rfl rfl hHeld ?_
      try simp only [Act.put, rg1, rg2, rg3]
      refine rgt 12 21 rfl rfl hHeld ?_
      try simp only [Act.put, rg1, rg2, rg3]
      refine rgc 5 (some 14) rfl (fun K hK => ?_)
      go_simp
      ((refine (all_mk _ _ _).mono ?_); rintro e w5 ⟨rfl, hb5, hs5, hp5, hq5⟩; have hcl := HCL.out w5 hb5 hs5 hp5 hq5; clear hp5 hq5)
      refine hK.out _ _ ?ss28 (fun hHeld2 => ?rr28)
      case ss28 => (try dsimp only); exact HK.out _ (bl (Below.refl _ _).drew hb5)
      clear hK K
      clear hHeld
      have hHeld := hHeld2
      clear hHeld2
      try simp only [Act.put, rg1, rg2, rg3]
      refine rgc 10 (some 19) rfl (fun K hK => ?_)
      go_simp
      ((refine hcl.mono ?_); rintro e w6 ⟨hb6, hq6⟩; rw [want_pos HALL.out] at hq6; simp only at hq6; subst hq6; clear hcl; rw [← HTS.out.2.2.2])
      refine hK.out _ _ ?ss29 (fun hHeld2 => ?rr29)
      case ss29 => (try dsimp only); exact HK.out _ (bl (bl (Below.refl _ _).drew hb5) hb6)
      clear hK K
      clear hHeld
      have hHeld := hHeld2
      clear hHeld2
      try simp only [Act.put, rg1, rg2, rg3]
      refine rgt 11 20 rfl rfl hHeld ?_
      try simp only [Act.put, rg1, rg2, rg3]
      refine rgc 13 (some 22) rfl (fun K hK => ?_)
      go_simp
      (refine (HM.out _).mono ?_)
      (rintro e w7 ⟨rfl, rfl⟩)
      unfold Flaw
      go_wp2_with fail
      exact bodyPost_panic rfl (RuleQ.bad (bl HB.out hHeld.1))
  · rw [want_neg hall] at hR
    subst hR
    have HALL := Lib.hid hall
    clear hall
    go_enter Tryz.func69, Tryz.ntmps69
    go_upto_region 1 with fail
    obtain ⟨W, hW⟩ : ∃ W, w.alloc (.cells #[.int .i8 kd, .int .i64 kids, .int .i64 nn, .string s, .string t, .string u, .int .i64 ln, .int .i64 cl] 60) = W := ⟨_, rfl⟩
    rw [hW]
    have hbk : Blk W w.heap.size 60 #[.int .i8 kd, .int .i64 kids, .int .i64 nn, .string s, .string t, .string u, .int .i64 ln, .int .i64 cl] := by rw [← hW]; exact Blk.new _ _ _
    have hbw : Below w.heap.size w W := by rw [← hW]; exact bal b0 _
    have HK := Lib.hid (show ∀ W', Below W.heap.size W W' → (Below W.heap.size W W' ∧ W'.cell? ⟨w.heap.size, 0, none⟩ = some (.int .i8 kd) ∧ W'.cell? ⟨w.heap.size, 1, none⟩ = some (.int .i64 kids) ∧ W'.cell? ⟨w.heap.size, 2, none⟩ = some (.int .i64 nn) ∧ W'.cell? ⟨w.heap.size, 3, none⟩ = some (.string s) ∧ W'.cell? ⟨w.heap.size, 4, none⟩ = some (.string t) ∧ W'.cell? ⟨w.heap.size, 5, none⟩ = some (.string u) ∧ W'.cell? ⟨w.heap.size, 6, none⟩ = some (.int .i64 ln) ∧ W'.cell? ⟨w.heap.size, 7, none⟩ = some (.int .i64 cl)) from fun W' hb' => ⟨hb', ((hbk.below hb' hbk.lt).cell 0).trans rfl, ((hbk.below hb' hbk.lt).cell 1).trans rfl, ((hbk.below hb' hbk.lt).cell 2).trans rfl, ((hbk.below hb' hbk.lt).cell 3).trans rfl, ((hbk.below hb' hbk.lt).cell 4).trans rfl, ((hbk.below hb' hbk.lt).cell 5).trans rfl, ((hbk.below hb' hbk.lt).cell 6).trans rfl, ((hbk.below hb' hbk.lt).cell 7).trans rfl⟩)
    have HB := Lib.hid hbw
    have hcl : ∀ (w5 : World), Below W.drew.heap.size W.drew w5 → w5.heap.size = W.drew.heap.size + 2 → w5.cell? ⟨W.drew.heap.size, 0, none⟩ = some (.string t) → w5.cell? ⟨W.drew.heap.size + 1, 0, none⟩ = some (.string t) →
        Calls Tryz.prog 89 #[cp, .agg #[.int .i8 kd, .int .i64 kids, .int .i64 nn, .string s, .string t, .string u, .int .i64 ln, .int .i64 cl], .slice A K c, .int .i64 (a : Nat), .pointer (some ⟨W.heap.size, 0, none⟩), .pointer (some ⟨W.heap.size + 1, 0, none⟩)] w5 fun e w' => RuleQ (want (∀ t ∈ ts, t = T) a (.ok T)) w5 e w' := fun w5 hb5 hs5 hp5 hq5 => by
      have hb6 : Below w.heap.size w w5 := bl (show Below w.heap.size w W.drew from hbw.drew) hb5
      have := all1_any cp ⟨kd, kids, nn, s, t, u, ln, cl⟩ ts g c A a W.heap.size (W.heap.size + 1) T T w5 HTS.out.1 HTS.out.2.1 (HA.out.imp_right fun ⟨h1, h2, h3⟩ => ⟨h1, Nat.lt_of_lt_of_le h2 hb6.size, fun j t hj => (hb6.cell (p := ⟨g, j, none⟩) h2).trans (h3 j t hj)⟩) (by rw [HTS.out.2.2.1]; exact hlc) (by rw [HTS.out.2.2.1]; exact hl) (by rw [← HTS.out.2.2.2]; exact hp5) (by rw [← HTS.out.2.2.2]; exact hq5) (by have : W.drew.heap.size = W.heap.size := rfl; omega) (by have : W.drew.heap.size = W.heap.size := rfl; omega)
      rwa [HTS.out.2.2.1] at this
    have HCL := Lib.hid hcl
    clear hbk hbw hW hcl
    refine wp_region_held_drew (S := (fun W' => Below W.heap.size W W' ∧ W'.cell? ⟨w.heap.size, 0, none⟩ = some (.int .i8 kd) ∧ W'.cell? ⟨w.heap.size, 1, none⟩ = some (.int .i64 kids) ∧ W'.cell? ⟨w.heap.size, 2, none⟩ = some (.int .i64 nn) ∧ W'.cell? ⟨w.heap.size, 3, none⟩ = some (.string s) ∧ W'.cell? ⟨w.heap.size, 4, none⟩ = some (.string t) ∧ W'.cell? ⟨w.heap.size, 5, none⟩ = some (.string u) ∧ W'.cell? ⟨w.heap.size, 6, none⟩ = some (.int .i64 ln) ∧ W'.cell? ⟨w.heap.size, 7, none⟩ = some (.int .i64 cl))) (by kernel_rfl) ?ss32 (fun hHeld => ?rr32)
    case ss32 => (try dsimp only); exact HK.out _ (Below.refl _ _).drew
    refine rgt 0 9 rfl rfl hHeld ?_
    try simp only [Act.put, rg1, rg2, rg3]
    refine rgt 1 10 rfl rfl hHeld ?_
    try simp only [Act.put, rg1, rg2, rg3]
    refine rgt 2 11 rfl rfl hHeld ?_
    try simp only [Act.put, rg1, rg2, rg3]
    refine rgt 3 12 rfl rfl hHeld ?_
    try simp only [Act.put, rg1, rg2, rg3]
    refine rgt 4 13 rfl rfl hHeld ?_
    try simp only [Act.put, rg1, rg2, rg3]
    refine rgt 6 15 rfl rfl hHeld ?_
    try simp only [Act.put, rg1, rg2, rg3]
    refine rgt 7 16 rfl rfl hHeld ?_
    try simp only [Act.put, rg1, rg2, rg3]
    refine rgt 8 17 rfl rfl hHeld ?_
    try simp only [Act.put, rg1, rg2, rg3]
    refine rgt 9 18 rfl rfl hHeld ?_
    try simp only [Act.put, rg1, rg2, rg3]
    refine rgt 12 21 rfl rfl hHeld ?_
    try simp only [Act.put, rg1, rg2, rg3]
    refine rgc 5 (some 14) rfl (fun K hK => ?_)
    go_simp
    ((refine (all_mk _ _ _).mono ?_); rintro e w5 ⟨rfl, hb5, hs5, hp5, hq5⟩; have hcl := HCL.out w5 hb5 hs5 hp5 hq5; clear hp5 hq5)
    refine hK.out _ _ ?ss43 (fun hHeld2 => ?rr43)
    case ss43 => (try dsimp only); exact HK.out _ (bl (Below.refl _ _).drew hb5)
    clear hK K
    clear hHeld
    have hHeld := hHeld2
    clear hHeld2
    try simp only [Act.put, rg1, rg2, rg3]
    refine rgc 10 (some 19) rfl (fun K hK => ?_)
    go_simp
    (refine hcl.mono ?_)
    (rintro e w6 ⟨hb6, hq6⟩)
    rw [want_neg HALL.out] at hq6
    (simp only at hq6)
    subst hq6
    unfold Flaw
    have HB6 := Lib.hid (bl HB.out (bl hHeld.1 hb6))
    clear hcl hb6
    go_wp2_with fail
    exact bodyPost_panic rfl (RuleQ.bad HB6.out)
end Go.Proofs.YtmagljnlfponaaaGreat.K

/- CkH -/
namespace Go.Proofs.YtmagljnlfponaaaGreat.K
open Go.RowKit Go.Proofs.YtmagljnlfponaaaGreat.B Go.Proofs.YtmagljnlfponaaaGreat.T
set_option linter.unusedVariables false
set_option linter.unusedSimpArgs false

/-- A map in block r; nothing else is touched since W0. -/
structure MapAt (W0 : World) (r : Nat) (es : Array MapEntry) (cl : Nat) (W : World) : Prop where
  map : W.heap[r]? = some (.map es cl)
  but : But (fun k => k = r) W0 W
  size : W.heap.size = W0.heap.size
theorem MapAt.start {W : World} {r : Nat} {es : Array MapEntry} {cl : Nat} (h : W.heap[r]? = some (.map es cl)) : MapAt W r es cl W := ⟨h, But.refl _ _, rfl⟩

theorem run_ins {P : Program} {W : World} {t kt et : TypeId} (ht : P.underlying t = some (.map kt et)) (hk : P.underlying kt = some (.int .i8)) {r : Nat} {key : Int} {val : Value} {es : Array MapEntry} {cl : Nat} (hW : W.heap[r]? = some (.map es cl))
    (hf : Instr.findNow (.int .i8) (.int .i8 key) es.toList 0 = some none) : (Instr.mapUpdate t (.map (some r)) (.int .i8 key) val).run P W = .ok () { W with heap := W.heap.setIfInBounds r (.map (es.push ⟨.int .i8 key, val, cl⟩) (cl + 1)) } := by
  have hkey : MapKept.IsKey (.int .i8) (.int .i8 key) := by trivial
  simp [Instr.mapUpdate, run_underlying ht, MapKept.run_getObj_map hW, MapKept.run_checkKey hk hkey, MapKept.run_findKey hk hf, MapKept.run_setObj_map _ hW, Result.andThen]
theorem MapAt.step {W0 W : World} {r : Nat} {es : Array MapEntry} {cl : Nat} (h : MapAt W0 r es cl W) (x : MapEntry) : MapAt W0 r (es.push x) (cl + 1) { W with heap := W.heap.setIfInBounds r (.map (es.push x) (cl + 1)) } := by
  have hr : r < W.heap.size := (Array.getElem?_eq_some_iff.1 h.map).1
  refine ⟨?_, ⟨h.but.os, h.but.tape, h.but.output, ?_, fun k hk hne => ?_⟩, ?_⟩
  · simp [hr]
  · simpa using h.but.size
  · rw [← h.but.block k hk hne]
    simp only [Array.getElem?_setIfInBounds]
    rw [if_neg (fun e => hne e.symm)]
  · simpa using h.size
theorem wpList_ins {P : Program} {W W0 : World} {ops : Array Oper} {rest : List Oper} {o : Oper} {a : Act} {Q : Exit → Act → World → Prop} (hg : o.guard = none) (m x v : Operand) (t : TypeId) (hop : o.op = Op.insert t m x v) (kt et : TypeId)
    (ht : P.underlying t = some (.map kt et)) (hk : P.underlying kt = some (.int .i8)) (r : Nat) (hm : a.eval m = .map (some r)) (key : Int) (val : Value) (hx : a.eval x = .int .i8 key) (hv : a.eval v = val) (es : Array MapEntry) (cl : Nat) (hW : MapAt W0 r es cl W)
    (hf : Instr.findNow (.int .i8) (.int .i8 key) es.toList 0 = some none) (hK : ∀ W', MapAt W0 r (es.push ⟨.int .i8 key, val, cl⟩) (cl + 1) W' → wpList P ops Q rest (a.put o.dst undef) W') : wpList P ops Q (o :: rest) a W := by
  refine wpList_plain hg fun K' hK' => ?_
  have hrun := run_ins (val := val) ht hk hW.map hf
  unfold Oper.wp
  simp [execOp, hop, hm, hx, hv, hrun, Result.andThen]
  exact hK' _ _ (hK _ (hW.step _))
theorem run_look {P : Program} {W : World} {t kt et : TypeId} (ht : P.underlying t = some (.map kt et)) (hk : P.underlying kt = some (.int .i8)) {r i : Nat} {key : Int} {val : Value} {es : Array MapEntry} {cl : Nat} (hW : W.heap[r]? = some (.map es cl))
    (hf : Instr.findNow (.int .i8) (.int .i8 key) es.toList 0 = some (some (i, val))) : (Instr.lookup t (.map (some r)) (.int .i8 key) false).run P W = .ok val W := by
  have hkey : MapKept.IsKey (.int .i8) (.int .i8 key) := by trivial
  simp [Instr.lookup, run_underlying ht, MapKept.run_getObj_map hW, MapKept.run_checkKey hk hkey, MapKept.run_findKey hk hf, Result.andThen]


theorem ins_step {P : Program} {W W0 : World} {t kt et : TypeId} (ht : P.underlying t = some (.map kt et)) (hk : P.underlying kt = some (.int .i8)) {r : Nat} {es : Array MapEntry} {cl : Nat} (h : MapAt W0 r es cl W) (key : Int) (val : Value)
    (hf : Instr.findNow (.int .i8) (.int .i8 key) es.toList 0 = some none) : ∃ W', (Instr.mapUpdate t (.map (some r)) (.int .i8 key) val).run P W = .ok () W' ∧ MapAt W0 r (es.push ⟨.int .i8 key, val, cl⟩) (cl + 1) W' := ⟨_, run_ins ht hk h.map hf, h.step _⟩
theorem MapAt.bt {W0 W : World} {r : Nat} {es : Array MapEntry} {cl : Nat} (h : MapAt W0 r es cl W) : Bt r W0 W := h.but
theorem MapAt.cell {W0 W : World} {r : Nat} {es : Array MapEntry} {cl : Nat} (h : MapAt W0 r es cl W) {p : Addr} (hp : p.block < W0.heap.size) (hr : p.block ≠ r) : W.cell? p = W0.cell? p := h.bt.cell hp hr

set_option maxRecDepth 100000 in
set_option maxHeartbeats 2000000 in
theorem leaf_x (cp kv : Value) (kd kids nn : Int) (s t u : ByteArray) (ln cl : Int) (a : Int) (T : Ty) (w : World) (h : (kd = 1 ∧ T = tI) ∨ (kd = 2 ∧ T = tT) ∨ (kd = 3 ∧ T = tB)) :
    Calls Tryz.prog 63 #[cp, .agg #[.int .i8 kd, .int .i64 kids, .int .i64 nn, .string s, .string t, .string u, .int .i64 ln, .int .i64 cl], kv, .int .i64 a] w fun e w' => RuleQ (.ok T) w e w' := by
  have hmk : ∀ (t : TypeId) (W : World), (Instr.makeMap t none).run Tryz.prog W = .ok (.map (some W.heap.size)) (W.alloc (.map #[] 0)) := fun _ _ => rfl
  go_enter Tryz.func63, Tryz.ntmps63
  go_upto_region 1 with fail
  obtain ⟨W, hW⟩ : ∃ W, w.alloc (.cells #[.int .i8 kd, .int .i64 kids, .int .i64 nn, .string s, .string t, .string u, .int .i64 ln, .int .i64 cl] 60) = W := ⟨_, rfl⟩
  rw [hW]
  have hbk : Blk W w.heap.size 60 #[.int .i8 kd, .int .i64 kids, .int .i64 nn, .string s, .string t, .string u, .int .i64 ln, .int .i64 cl] := by rw [← hW]; exact Blk.new _ _ _
  have hbw : Below w.heap.size w W := by rw [← hW]; exact bal b0 _
  have hM : MapAt (W.alloc (.map #[] 0)) W.heap.size #[] 0 (W.alloc (.map #[] 0)) := MapAt.start (heap_alloc_new W _)
  have ht1 : Tryz.prog.underlying 134 = some (.map 56 9) := Tryz.underlying134
  have hk1 : Tryz.prog.underlying 56 = some (.int .i8) := Tryz.underlying56
  obtain ⟨W1, i1, m1⟩ := ins_step ht1 hk1 hM 1 (.string ⟨#[105]⟩) rfl
  obtain ⟨W2, i2, m2⟩ := ins_step ht1 hk1 m1 2 (.string ⟨#[116]⟩) rfl
  obtain ⟨W3, i3, m3⟩ := ins_step ht1 hk1 m2 3 (.string ⟨#[98]⟩) rfl
  have hb3 : Below w.heap.size w W3 := (bal hbw (.map #[] 0)).trans (m3.but.below (by simp only [World.size_alloc]; have := hbw.size; omega) (fun k hk => by rw [hk]; exact hbw.size))
  have c0 : W3.cell? ⟨w.heap.size, 0, none⟩ = some (.int .i8 kd) := (m3.cell (p := ⟨w.heap.size, 0, none⟩) (by simp only [World.size_alloc]; have := hbk.lt; show w.heap.size < _; omega) (by have := hbk.lt; show w.heap.size ≠ _; omega)).trans (((hbk.alloc (.map #[] 0)).cell 0).trans rfl)
  have hlk : (Instr.lookup 134 (.map (some W.heap.size)) (.int .i8 kd) false).run Tryz.prog W3 = .ok (.string (str T)) W3 := by
    rcases h with ⟨rfl, rfl⟩ | ⟨rfl, rfl⟩ | ⟨rfl, rfl⟩
    · exact run_look (i := 0) ht1 hk1 m3.map rfl
    · exact run_look (i := 1) ht1 hk1 m3.map rfl
    · exact run_look (i := 2) ht1 hk1 m3.map rfl
  have HB := Lib.hid hb3
  clear hW hbk hbw hM m1 m2 m3 hb3 ht1 hk1 h
  go_wp2_with fail
  go_ret
  exact RuleQ.ok HB.out rfl
end Go.Proofs.YtmagljnlfponaaaGreat.K

/- CkI -/
namespace Go.Proofs.YtmagljnlfponaaaGreat.K
open Go.RowKit Go.Proofs.YtmagljnlfponaaaGreat.B Go.Proofs.YtmagljnlfponaaaGreat.T
set_option linter.unusedVariables false
set_option linter.unusedSimpArgs false

/-- Which function stands at a kind. -/
def ruleL (c0 c1 c2 c3 : Nat) : List (Int × Value) := [(1, .func (.func 63) #[] #[]), (2, .func (.func 63) #[] #[]), (3, .func (.func 63) #[] #[]), (30, .func (.func 64) #[] #[]), (7, .func (.func 65) #[] #[]), (9, .func (.func 66) #[] #[]), (10, .func (.func 89) #[] #[.pointer (some ⟨c0, 0, none⟩), .pointer (some ⟨c0 + 1, 0, none⟩)]), (11, .func (.func 89) #[] #[.pointer (some ⟨c0, 0, none⟩), .pointer (some ⟨c0 + 1, 0, none⟩)]), (12, .func (.func 89) #[] #[.pointer (some ⟨c0, 0, none⟩), .pointer (some ⟨c0 + 1, 0, none⟩)]), (16, .func (.func 89) #[] #[.pointer (some ⟨c0, 0, none⟩), .pointer (some ⟨c0 + 1, 0, none⟩)]), (14, .func (.func 89) #[] #[.pointer (some ⟨c1, 0, none⟩), .pointer (some ⟨c1 + 1, 0, none⟩)]), (15, .func (.func 89) #[] #[.pointer (some ⟨c1, 0, none⟩), .pointer (some ⟨c1 + 1, 0, none⟩)]), (13, .func (.func 89) #[] #[.pointer (some ⟨c2, 0, none⟩), .pointer (some ⟨c2 + 1, 0, none⟩)]), (17, .func (.func 89) #[] #[.pointer (some ⟨c3, 0, none⟩), .pointer (some ⟨c3 + 1, 0, none⟩)]), (18, .func (.func 67) #[] #[]), (19, .func (.func 68) #[] #[]), (20, .func (.func 68) #[] #[]), (21, .func (.func 69) #[] #[]), (22, .func (.func 70) #[] #[]), (23, .func (.func 70) #[] #[]), (24, .func (.func 70) #[] #[]), (25, .func (.func 71) #[] #[]), (26, .func (.func 72) #[] #[]), (27, .func (.func 73) #[] #[]), (28, .func (.func 74) #[] #[])]
/-- A closure of all, in memory: what each kid is, what comes of it. -/
def Clo (W : World) (cb c : Nat) (x y : Ty) : Prop := c + 1 < W.heap.size ∧ c ≠ cb ∧ c + 1 ≠ cb ∧ W.cell? ⟨c, 0, none⟩ = some (.string (str x)) ∧ W.cell? ⟨c + 1, 0, none⟩ = some (.string (str y))
/-- The rules' map, in block mb, not in block cb. -/
def RulesAt (W : World) (cb mb : Nat) (c0 c1 c2 c3 : Nat) : Prop := mb ≠ cb ∧ mb < W.heap.size ∧ (∃ es cl, W.heap[mb]? = some (.map es cl) ∧ ∀ p ∈ ruleL c0 c1 c2 c3, ∃ i, Instr.findNow (.int .i8) (.int .i8 p.1) es.toList 0 = some (some (i, p.2))) ∧
  Clo W cb c0 tI tI ∧ Clo W cb c1 tI tB ∧ Clo W cb c2 tT tT ∧ Clo W cb c3 tT tI
theorem Clo.bt {W W' : World} {cb c : Nat} {x y : Ty} (h : Clo W cb c x y) (hb : Bt cb W W') : Clo W' cb c x y := by
  obtain ⟨h1, h2, h3, h4, h5⟩ := h
  exact ⟨Nat.lt_of_lt_of_le h1 hb.size, h2, h3, (hb.cell (p := ⟨c, 0, none⟩) (by show c < _; omega) h2).trans h4, (hb.cell (p := ⟨c + 1, 0, none⟩) h1 h3).trans h5⟩
theorem RulesAt.bt {W W' : World} {cb mb c0 c1 c2 c3 : Nat} (h : RulesAt W cb mb c0 c1 c2 c3) (hb : Bt cb W W') : RulesAt W' cb mb c0 c1 c2 c3 := by
  obtain ⟨h1, h2, ⟨es, cl, h3, h4⟩, k0, k1, k2, k3⟩ := h
  exact ⟨h1, Nat.lt_of_lt_of_le h2 hb.size, ⟨es, cl, (hb.block mb h2 h1).trans h3, h4⟩, k0.bt hb, k1.bt hb, k2.bt hb, k3.bt hb⟩
theorem RulesAt.look {W : World} {cb mb c0 c1 c2 c3 : Nat} (h : RulesAt W cb mb c0 c1 c2 c3) (k : Int) (v : Value) (hp : (k, v) ∈ ruleL c0 c1 c2 c3) : (Instr.lookup 114 (.map (some mb)) (.int .i8 k) false).run Tryz.prog W = .ok v W := by
  obtain ⟨_, _, ⟨es, cl, h3, h4⟩, _⟩ := h
  obtain ⟨i, hi⟩ := h4 _ hp
  exact run_look Tryz.underlying114 Tryz.underlying56 h3 hi

def RulesQ (w : World) (e : Ending) (w' : World) : Prop := Below w.heap.size w w' ∧ ∃ mb c0 c1 c2 c3, e = .returned (.map (some mb)) ∧ w.heap.size ≤ mb ∧ w.heap.size ≤ c0 ∧ w.heap.size ≤ c1 ∧ w.heap.size ≤ c2 ∧ w.heap.size ≤ c3 ∧ ∀ cb, w'.heap.size ≤ cb → RulesAt w' cb mb c0 c1 c2 c3


set_option maxRecDepth 100000 in
set_option maxHeartbeats 8000000 in
theorem rules_any (w : World) : Calls Tryz.prog 51 #[] w fun e w' => RulesQ w e w' := by
  have hmk : ∀ (t : TypeId) (W : World), (Instr.makeMap t none).run Tryz.prog W = .ok (.map (some W.heap.size)) (W.alloc (.map #[] 0)) := fun _ _ => rfl
  go_enter Tryz.func51, Tryz.ntmps51
  go_wp2_with fail
  (refine (all_mk _ _ _).mono ?_); rintro e u1 ⟨rfl, hb1, hs1, p1, q1⟩
  have U1 := Lib.hid (And.intro hb1 (And.intro hs1 (And.intro p1 q1)))
  clear hb1 hs1 p1 q1
  go_wp2_with fail
  (refine (all_mk _ _ _).mono ?_); rintro e u2 ⟨rfl, hb2, hs2, p2, q2⟩
  have U2 := Lib.hid (And.intro hb2 (And.intro hs2 (And.intro p2 q2)))
  clear hb2 hs2 p2 q2
  go_wp2_with fail
  (refine (all_mk _ _ _).mono ?_); rintro e u3 ⟨rfl, hb3, hs3, p3, q3⟩
  have U3 := Lib.hid (And.intro hb3 (And.intro hs3 (And.intro p3 q3)))
  clear hb3 hs3 p3 q3
  obtain ⟨c0, hc0⟩ : ∃ c0, w.heap.size = c0 := ⟨_, rfl⟩
  obtain ⟨c1, hc1⟩ : ∃ c1, u1.heap.size = c1 := ⟨_, rfl⟩
  obtain ⟨c2, hc2⟩ : ∃ c2, u2.heap.size = c2 := ⟨_, rfl⟩
  rw [hc0, hc1, hc2]
  obtain ⟨hb1, hs1, p1, q1⟩ := U1.out
  obtain ⟨hb2, hs2, p2, q2⟩ := U2.out
  obtain ⟨hb3, hs3, p3, q3⟩ := U3.out
  have k0 : u3.cell? ⟨c0, 0, none⟩ = some (.string (str tI)) ∧ u3.cell? ⟨c0 + 1, 0, none⟩ = some (.string (str tI)) := by
    rw [← hc0]
    exact ⟨((bl hb2 hb3).cell (p := ⟨w.heap.size, 0, none⟩) (by show w.heap.size < _; omega)).trans p1, ((bl hb2 hb3).cell (p := ⟨w.heap.size + 1, 0, none⟩) (by show w.heap.size + 1 < _; omega)).trans q1⟩
  have k1 : u3.cell? ⟨c1, 0, none⟩ = some (.string (str tI)) ∧ u3.cell? ⟨c1 + 1, 0, none⟩ = some (.string (str tB)) := by
    rw [← hc1]
    exact ⟨(hb3.cell (p := ⟨u1.heap.size, 0, none⟩) (by show u1.heap.size < _; omega)).trans p2, (hb3.cell (p := ⟨u1.heap.size + 1, 0, none⟩) (by show u1.heap.size + 1 < _; omega)).trans q2⟩
  have k2 : u3.cell? ⟨c2, 0, none⟩ = some (.string (str tT)) ∧ u3.cell? ⟨c2 + 1, 0, none⟩ = some (.string (str tT)) := by
    rw [← hc2]; exact ⟨p3, q3⟩
  have hall : Below w.heap.size w u3 := bl (bl hb1 hb2) hb3
  have HS := Lib.hid (And.intro hs1 (And.intro hs2 (And.intro hs3 (And.intro hc0 (And.intro hc1 hc2)))))
  have HU := Lib.hid (And.intro hall (And.intro k0 (And.intro k1 k2)))
  clear hb1 hb2 hb3 hs1 hs2 hs3 p1 p2 p3 q1 q2 q3 hc0 hc1 hc2 k0 k1 k2 hall U1 U2 U3
  have ht1 : Tryz.prog.underlying 114 = some (.map 56 124) := Tryz.underlying114
  have hk1 : Tryz.prog.underlying 56 = some (.int .i8) := Tryz.underlying56
  have m0 : MapAt (u3.alloc (.map #[] 0)) u3.heap.size #[] 0 (u3.alloc (.map #[] 0)) := MapAt.start (heap_alloc_new u3 _)

  obtain ⟨W1, i1, m1⟩ := ins_step ht1 hk1 m0 1 (.func (.func 63) #[] #[]) (by kernel_rfl)
  obtain ⟨W2, i2, m2⟩ := ins_step ht1 hk1 m1 2 (.func (.func 63) #[] #[]) (by kernel_rfl)
  obtain ⟨W3, i3, m3⟩ := ins_step ht1 hk1 m2 3 (.func (.func 63) #[] #[]) (by kernel_rfl)
  obtain ⟨W4, i4, m4⟩ := ins_step ht1 hk1 m3 30 (.func (.func 64) #[] #[]) (by kernel_rfl)
  obtain ⟨W5, i5, m5⟩ := ins_step ht1 hk1 m4 7 (.func (.func 65) #[] #[]) (by kernel_rfl)
  obtain ⟨W6, i6, m6⟩ := ins_step ht1 hk1 m5 9 (.func (.func 66) #[] #[]) (by kernel_rfl)
  obtain ⟨W7, i7, m7⟩ := ins_step ht1 hk1 m6 10 (.func (.func 89) #[] #[.pointer (some ⟨c0, 0, none⟩), .pointer (some ⟨c0 + 1, 0, none⟩)]) (by kernel_rfl)
  obtain ⟨W8, i8, m8⟩ := ins_step ht1 hk1 m7 11 (.func (.func 89) #[] #[.pointer (some ⟨c0, 0, none⟩), .pointer (some ⟨c0 + 1, 0, none⟩)]) (by kernel_rfl)
  obtain ⟨W9, i9, m9⟩ := ins_step ht1 hk1 m8 12 (.func (.func 89) #[] #[.pointer (some ⟨c0, 0, none⟩), .pointer (some ⟨c0 + 1, 0, none⟩)]) (by kernel_rfl)
  obtain ⟨W10, i10, m10⟩ := ins_step ht1 hk1 m9 16 (.func (.func 89) #[] #[.pointer (some ⟨c0, 0, none⟩), .pointer (some ⟨c0 + 1, 0, none⟩)]) (by kernel_rfl)
  obtain ⟨W11, i11, m11⟩ := ins_step ht1 hk1 m10 14 (.func (.func 89) #[] #[.pointer (some ⟨c1, 0, none⟩), .pointer (some ⟨c1 + 1, 0, none⟩)]) (by kernel_rfl)
  obtain ⟨W12, i12, m12⟩ := ins_step ht1 hk1 m11 15 (.func (.func 89) #[] #[.pointer (some ⟨c1, 0, none⟩), .pointer (some ⟨c1 + 1, 0, none⟩)]) (by kernel_rfl)
  obtain ⟨W13, i13, m13⟩ := ins_step ht1 hk1 m12 13 (.func (.func 89) #[] #[.pointer (some ⟨c2, 0, none⟩), .pointer (some ⟨c2 + 1, 0, none⟩)]) (by kernel_rfl)
  have HM := Lib.hid m13
  have HT := Lib.hid (And.intro ht1 hk1)
  clear ht1 hk1 m0 m1 m2 m3 m4 m5 m6 m7 m8 m9 m10 m11 m12 m13
  go_wp2_with fail
  (refine (all_mk _ _ _).mono ?_); rintro e V0 ⟨rfl, hb4, hs4, p4, q4⟩
  clear i1 i2 i3 i4 i5 i6 i7 i8 i9 i10 i11 i12 i13
  obtain ⟨ht1, hk1⟩ := HT.out
  obtain ⟨mb, hmb⟩ : ∃ mb, u3.heap.size = mb := ⟨_, rfl⟩
  have hm := HM.out
  obtain ⟨c3, hc3⟩ : ∃ c3, W13.heap.size = c3 := ⟨_, rfl⟩
  have hsz := hm.size
  rw [World.size_alloc, hmb, hc3] at hsz
  rw [hmb] at hm ⊢
  rw [hc3] at hs4 p4 q4 ⊢
  have n0 : MapAt V0 mb _ _ V0 := MapAt.start ((hb4.block mb (by rw [hc3]; omega)).trans hm.map)
  have HV := Lib.hid (And.intro hm (And.intro hb4 (And.intro hs4 (And.intro p4 (And.intro q4 (And.intro hmb (And.intro hc3 hsz)))))))
  clear hm hb4 hs4 p4 q4 hmb hc3 hsz HM HT

  obtain ⟨X1, j1, n1⟩ := ins_step ht1 hk1 n0 17 (.func (.func 89) #[] #[.pointer (some ⟨c3, 0, none⟩), .pointer (some ⟨c3 + 1, 0, none⟩)]) (by kernel_rfl)
  obtain ⟨X2, j2, n2⟩ := ins_step ht1 hk1 n1 18 (.func (.func 67) #[] #[]) (by kernel_rfl)
  obtain ⟨X3, j3, n3⟩ := ins_step ht1 hk1 n2 19 (.func (.func 68) #[] #[]) (by kernel_rfl)
  obtain ⟨X4, j4, n4⟩ := ins_step ht1 hk1 n3 20 (.func (.func 68) #[] #[]) (by kernel_rfl)
  obtain ⟨X5, j5, n5⟩ := ins_step ht1 hk1 n4 21 (.func (.func 69) #[] #[]) (by kernel_rfl)
  obtain ⟨X6, j6, n6⟩ := ins_step ht1 hk1 n5 22 (.func (.func 70) #[] #[]) (by kernel_rfl)
  obtain ⟨X7, j7, n7⟩ := ins_step ht1 hk1 n6 23 (.func (.func 70) #[] #[]) (by kernel_rfl)
  obtain ⟨X8, j8, n8⟩ := ins_step ht1 hk1 n7 24 (.func (.func 70) #[] #[]) (by kernel_rfl)
  obtain ⟨X9, j9, n9⟩ := ins_step ht1 hk1 n8 25 (.func (.func 71) #[] #[]) (by kernel_rfl)
  obtain ⟨X10, j10, n10⟩ := ins_step ht1 hk1 n9 26 (.func (.func 72) #[] #[]) (by kernel_rfl)
  obtain ⟨X11, j11, n11⟩ := ins_step ht1 hk1 n10 27 (.func (.func 73) #[] #[]) (by kernel_rfl)
  obtain ⟨X12, j12, n12⟩ := ins_step ht1 hk1 n11 28 (.func (.func 74) #[] #[]) (by kernel_rfl)
  have HN := Lib.hid n12
  clear ht1 hk1 n0 n1 n2 n3 n4 n5 n6 n7 n8 n9 n10 n11 n12
  go_wp2_with fail
  go_ret
  obtain ⟨hs1, hs2, hs3, hc0, hc1, hc2⟩ := HS.out
  obtain ⟨hall, k0, k1, k2⟩ := HU.out
  obtain ⟨hm, hb4, hs4, p4, q4, hmb, hc3, hsz⟩ := HV.out
  have hn := HN.out
  have hz := hn.size
  have g1 : Bt mb (u3.alloc (.map #[] 0)) W13 := hm.bt
  have g2 : Bt mb (u3.alloc (.map #[] 0)) X12 := (g1.trans (Bt.below hb4)).trans hn.bt
  have hmu : mb = u3.heap.size := hmb.symm
  have cellU : ∀ x v, x < u3.heap.size → u3.cell? ⟨x, 0, none⟩ = some v → X12.cell? ⟨x, 0, none⟩ = some v := fun x v hx hv =>
    (g2.cell (p := ⟨x, 0, none⟩) (by simp only [World.size_alloc]; omega) (by show x ≠ mb; omega)).trans ((World.cell?_of_block (w := u3) (Below.heap_alloc u3 (.map #[] 0) x hx)).trans hv)
  have cellV : ∀ x v, x < V0.heap.size → x ≠ mb → V0.cell? ⟨x, 0, none⟩ = some v → X12.cell? ⟨x, 0, none⟩ = some v := fun x v hx hne hv => (hn.bt.cell (p := ⟨x, 0, none⟩) hx hne).trans hv
  refine ⟨(bal hall (.map #[] 0)).trans (But.below g2 (by simp only [World.size_alloc]; omega) (fun k hk => by omega)), mb, c0, c1, c2, c3, rfl, by omega, by omega, by omega, by omega, by omega, fun cb hcb => ?_⟩
  refine ⟨by omega, by omega, ⟨_, _, hn.map, ?_⟩, ⟨by omega, by omega, by omega, cellU _ _ (by omega) k0.1, cellU _ _ (by omega) k0.2⟩, ⟨by omega, by omega, by omega, cellU _ _ (by omega) k1.1, cellU _ _ (by omega) k1.2⟩, ⟨by omega, by omega, by omega, cellU _ _ (by omega) k2.1, cellU _ _ (by omega) k2.2⟩,
    ⟨by omega, by omega, by omega, cellV _ _ (by omega) (by omega) p4, cellV _ _ (by omega) (by omega) q4⟩⟩
  intro p hp
  simp only [ruleL, List.mem_cons, List.not_mem_nil, or_false] at hp
  rcases hp with rfl | rfl | rfl | rfl | rfl | rfl | rfl | rfl | rfl | rfl | rfl | rfl | rfl | rfl | rfl | rfl | rfl | rfl | rfl | rfl | rfl | rfl | rfl | rfl | rfl
  · exact ⟨0, by kernel_rfl⟩
  · exact ⟨1, by kernel_rfl⟩
  · exact ⟨2, by kernel_rfl⟩
  · exact ⟨3, by kernel_rfl⟩
  · exact ⟨4, by kernel_rfl⟩
  · exact ⟨5, by kernel_rfl⟩
  · exact ⟨6, by kernel_rfl⟩
  · exact ⟨7, by kernel_rfl⟩
  · exact ⟨8, by kernel_rfl⟩
  · exact ⟨9, by kernel_rfl⟩
  · exact ⟨10, by kernel_rfl⟩
  · exact ⟨11, by kernel_rfl⟩
  · exact ⟨12, by kernel_rfl⟩
  · exact ⟨13, by kernel_rfl⟩
  · exact ⟨14, by kernel_rfl⟩
  · exact ⟨15, by kernel_rfl⟩
  · exact ⟨16, by kernel_rfl⟩
  · exact ⟨17, by kernel_rfl⟩
  · exact ⟨18, by kernel_rfl⟩
  · exact ⟨19, by kernel_rfl⟩
  · exact ⟨20, by kernel_rfl⟩
  · exact ⟨21, by kernel_rfl⟩
  · exact ⟨22, by kernel_rfl⟩
  · exact ⟨23, by kernel_rfl⟩
  · exact ⟨24, by kernel_rfl⟩
end Go.Proofs.YtmagljnlfponaaaGreat.K
