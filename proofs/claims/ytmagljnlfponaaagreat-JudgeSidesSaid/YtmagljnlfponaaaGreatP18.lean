/- Parts of this claim: RtO. -/
import Derived.Test.YtmagljnlfponaaaGreatP17
import Derived.Test.YtmagljnlfponaaaGreatP05
set_option linter.unusedVariables false
set_option linter.unusedSimpArgs false
/- RtO -/
namespace Go.Proofs.YtmagljnlfponaaaGreat.R
open Go.RowKit Go.Proofs.YtmagljnlfponaaaGreat.B Go.Proofs.YtmagljnlfponaaaGreat.T Go.Proofs.YtmagljnlfponaaaGreat.K
set_option linter.unusedVariables false
set_option linter.unusedSimpArgs false

set_option maxRecDepth 100000 in
set_option maxHeartbeats 4000000 in
theorem rule_7 (kids nn : Int) (s t u : ByteArray) (ln cl : Int) (L : List Tn) (A : Option Addr) (c wb sb : Nat) (xs : List Value) (a a1 : Nat) (Ac : Option Addr) (cc : Nat) (x y : Ty) (w : World) (hs : St L A c wb sb xs a1 w) (he : EnvAt w wb Ac [x, y]) (hcc : 2 ≤ cc) (ox : okT x) (oy : okT y) :
    Calls Tryz.prog 88 #[.pointer (some ⟨wb, 0, none⟩), .agg #[.int .i8 7, .int .i64 kids, .int .i64 nn, .string s, .string t, .string u, .int .i64 ln, .int .i64 cl], .slice Ac 2 cc, .int .i64 a] w fun e w' => RuQ (ruleE ⟨7, kids, nn, s, t, u, ln, cl⟩ [x, y] a) L A c wb sb xs a1 w e w' := by
  obtain ⟨g, o, rfl, hgw, hgl, hgc⟩ := envAt_cells he (by simp)
  obtain ⟨R, hR⟩ : ∃ R, ruleE ⟨7, kids, nn, s, t, u, ln, cl⟩ [x, y] a = R := ⟨_, rfl⟩
  have hRR : R = want (x.head = 62 ∧ x.kids.getD 0 tI = y) a (.ok (x.kids.getD 1 tI)) := by rw [← hR]; unfold ruleE; simp
  rw [hR]
  clear hR
  have hcl : wb < w.heap.size := hs.wk.lt
  have hbt1 : Bt wb w (w.alloc (.cells #[.int .i8 7, .int .i64 kids, .int .i64 nn, .string s, .string t, .string u, .int .i64 ln, .int .i64 cl] 60)) := Bt.alloc (But.refl _ _) _
  have hs1 := hs.bt hbt1 (Blk.alloc hs.wk _)
  have q0 : w.cell? ⟨g, o, none⟩ = some (.string (str x)) := hgc 0 _ rfl
  have q1 : w.cell? ⟨g, o + 1, none⟩ = some (.string (str y)) := hgc 1 _ rfl
  have hpe := part_eq (T := x) (y := y) ox oy 62 0
  by_cases hx : x.head = 62 ∧ x.kids.getD 0 tI = y
  · replace hRR : R = .ok (x.kids.getD 1 tI) := by rw [hRR]; unfold want; rw [if_pos hx]
    have HP := Lib.hid (part_lit (T := x) 62 62 0 0 2 _ ox rfl rfl (by decide) (by omega) rfl)
    have HP1 := Lib.hid (part_lit (T := x) 62 62 1 1 2 _ ox rfl rfl (by decide) (by omega) rfl)
    have eb : ((partV x 62 0).toList == (str y).toList) = true := hpe.2 hx
    have HPP := Lib.hid (partV_yes (i := 1) hx.1)
    obtain ⟨P, hP⟩ : ∃ P, partV x 62 0 = P := ⟨_, rfl⟩
    rw [hP] at HP eb
    clear hP
    obtain ⟨P1, hP1⟩ : ∃ P1, partV x 62 1 = P1 := ⟨_, rfl⟩
    rw [hP1] at HP1 HPP
    clear hP1
    obtain ⟨W1, hW1⟩ : ∃ W1, (w.alloc (.cells #[.int .i8 7, .int .i64 kids, .int .i64 nn, .string s, .string t, .string u, .int .i64 ln, .int .i64 cl] 60)) = W1 := ⟨_, rfl⟩
    have hgl1 : g < W1.heap.size := by rw [← hW1]; exact Nat.lt_of_lt_of_le hgl hbt1.size
    have HS := Lib.hid (show ∀ W', Bt wb W1 W' → St L A c wb sb xs a1 W' → (Bt wb W1 W' ∧ St L A c wb sb xs a1 W' ∧ W'.cell? ⟨g, o, none⟩ = some (.string (str x)) ∧ W'.cell? ⟨g, o + 1, none⟩ = some (.string (str y))) from fun W' h1 h2 => by
      have hb := (by rw [hW1] at hbt1; exact hbt1.trans h1 : Bt wb w W')
      exact ⟨h1, h2, (hb.cell (p := ⟨g, o, none⟩) hgl hgw).trans q0, (hb.cell (p := ⟨g, o + 1, none⟩) hgl hgw).trans q1⟩)
    have HI := Lib.hid (HS.out _ (Bt.below (Below.refl _ _).drew) (((by rw [hW1] at hs1; exact hs1 : St L A c wb sb xs a1 W1).below (Below.refl _ _).drew)))
    have HB := Lib.hid (And.intro (by rw [hW1] at hbt1; exact hbt1 : Bt wb w W1) hRR)
    have HW1 := Lib.hid hW1
    clear hs he hgc hs1 hbt1 hRR hcc q0 q1 hW1 hx hpe
    go_enter Tryz.func88, Tryz.ntmps88
    go_upto_region 10 with fail
    rw [HW1.out]
    clear HW1
    refine wp_region_held_drew (S := (fun W' => (Bt wb W1 W' ∧ St L A c wb sb xs a1 W' ∧ W'.cell? ⟨g, o, none⟩ = some (.string (str x)) ∧ W'.cell? ⟨g, o + 1, none⟩ = some (.string (str y))))) (by kernel_rfl) ?ss1 (fun hHeld => ?rr1)
    case ss1 => (try dsimp only); exact HI.out
    refine rgt 0 40 rfl rfl hHeld ?_
    try simp only [Act.put, rg1, rg2, rg3]
    refine rgt 1 41 rfl rfl hHeld ?_
    try simp only [Act.put, rg1, rg2, rg3]
    refine rgt 2 42 rfl rfl hHeld ?_
    try simp only [Act.put, rg1, rg2, rg3]
    refine rgt 3 43 rfl rfl hHeld ?_
    try simp only [Act.put, rg1, rg2, rg3]
    refine rgt 5 45 rfl rfl hHeld ?_
    try simp only [Act.put, rg1, rg2, rg3]
    refine rgt 6 46 rfl rfl hHeld ?_
    try simp only [Act.put, rg1, rg2, rg3]
    refine rgt 7 47 rfl rfl hHeld ?_
    try simp only [Act.put, rg1, rg2, rg3]
    refine rgt 9 49 rfl rfl hHeld ?_
    try simp only [Act.put, rg1, rg2, rg3]
    refine rgc 4 (some 44) rfl (fun K hK => ?_)
    go_simp
    ((refine (HP.out _).mono ?_); rintro e w5 ⟨rfl, rfl⟩)
    refine hK.out _ _ ?ss10 (fun hHeld2 => ?rr10)
    case ss10 => (try dsimp only); exact hHeld
    clear hK K
    clear hHeld2
    try simp only [Act.put, rg1, rg2, rg3]
    refine rgt 8 48 rfl rfl hHeld ?_
    try simp only [Act.put, rg1, rg2, rg3]
    refine rgc 10 (some 50) rfl (fun K hK => ?_)
    go_simp
    ((refine (want_yes (a : Nat) hHeld.2.1).mono ?_); rintro e w6 ⟨rfl, h1, h2⟩)
    refine hK.out _ _ ?ss12 (fun hHeld2 => ?rr12)
    case ss12 => (try dsimp only); exact HS.out _ (hHeld.1.trans h1) h2
    clear hK K
    clear hHeld
    have hHeld := hHeld2
    clear hHeld2
    try simp only [Act.put, rg1, rg2, rg3]
    refine wpAnyH_done (by kernel_rfl) ?_ _
    obtain ⟨hB, hT, q0, q1⟩ := hHeld
    have H := Lib.hid (And.intro (HB.out.1.trans hB) hT)
    clear hB hT h1 h2
    go_wp2_with fail
    (refine (HP1.out _).mono ?_); rintro e w7 ⟨rfl, rfl⟩
    go_wp2_with fail
    go_ret
    exact RuQ.ok H.out.1 H.out.2 HPP.out HB.out.2
  · replace hRR : R = .bad 23 a := by rw [hRR]; unfold want; rw [if_neg hx]
    have HP := Lib.hid (part_lit (T := x) 62 62 0 0 2 _ ox rfl rfl (by decide) (by omega) rfl)
    have HP1 := Lib.hid (part_lit (T := x) 62 62 1 1 2 _ ox rfl rfl (by decide) (by omega) rfl)
    have eb : ((partV x 62 0).toList == (str y).toList) = false := by rw [Bool.eq_false_iff]; exact fun h => hx (hpe.1 h)
    obtain ⟨P, hP⟩ : ∃ P, partV x 62 0 = P := ⟨_, rfl⟩
    rw [hP] at HP eb
    clear hP
    obtain ⟨P1, hP1⟩ : ∃ P1, partV x 62 1 = P1 := ⟨_, rfl⟩
    rw [hP1] at HP1
    clear hP1
    obtain ⟨W1, hW1⟩ : ∃ W1, (w.alloc (.cells #[.int .i8 7, .int .i64 kids, .int .i64 nn, .string s, .string t, .string u, .int .i64 ln, .int .i64 cl] 60)) = W1 := ⟨_, rfl⟩
    have hgl1 : g < W1.heap.size := by rw [← hW1]; exact Nat.lt_of_lt_of_le hgl hbt1.size
    have HS := Lib.hid (show ∀ W', Bt wb W1 W' → NeW L A c wb sb xs a1 23 a W' → (Bt wb W1 W' ∧ NeW L A c wb sb xs a1 23 a W' ∧ W'.cell? ⟨g, o, none⟩ = some (.string (str x)) ∧ W'.cell? ⟨g, o + 1, none⟩ = some (.string (str y))) from fun W' h1 h2 => by
      have hb := (by rw [hW1] at hbt1; exact hbt1.trans h1 : Bt wb w W')
      exact ⟨h1, h2, (hb.cell (p := ⟨g, o, none⟩) hgl hgw).trans q0, (hb.cell (p := ⟨g, o + 1, none⟩) hgl hgw).trans q1⟩)
    have HI := Lib.hid (HS.out _ (Bt.below (Below.refl _ _).drew) (.inl ((by rw [hW1] at hs1; exact hs1 : St L A c wb sb xs a1 W1).below (Below.refl _ _).drew)))
    have HB := Lib.hid (And.intro (by rw [hW1] at hbt1; exact hbt1 : Bt wb w W1) hRR)
    have HW1 := Lib.hid hW1
    clear hs he hgc hs1 hbt1 hRR hcc q0 q1 hW1 hx hpe
    go_enter Tryz.func88, Tryz.ntmps88
    go_upto_region 10 with fail
    rw [HW1.out]
    clear HW1
    refine wp_region_held_drew (S := (fun W' => (Bt wb W1 W' ∧ NeW L A c wb sb xs a1 23 a W' ∧ W'.cell? ⟨g, o, none⟩ = some (.string (str x)) ∧ W'.cell? ⟨g, o + 1, none⟩ = some (.string (str y))))) (by kernel_rfl) ?ss13 (fun hHeld => ?rr13)
    case ss13 => (try dsimp only); exact HI.out
    refine rgt 0 40 rfl rfl hHeld ?_
    try simp only [Act.put, rg1, rg2, rg3]
    refine rgt 1 41 rfl rfl hHeld ?_
    try simp only [Act.put, rg1, rg2, rg3]
    refine rgt 2 42 rfl rfl hHeld ?_
    try simp only [Act.put, rg1, rg2, rg3]
    refine rgt 3 43 rfl rfl hHeld ?_
    try simp only [Act.put, rg1, rg2, rg3]
    refine rgt 5 45 rfl rfl hHeld ?_
    try simp only [Act.put, rg1, rg2, rg3]
    refine rgt 6 46 rfl rfl hHeld ?_
    try simp only [Act.put, rg1, rg2, rg3]
    refine rgt 7 47 rfl rfl hHeld ?_
    try simp only [Act.put, rg1, rg2, rg3]
    refine rgt 9 49 rfl rfl hHeld ?_
    try simp only [Act.put, rg1, rg2, rg3]
    refine rgc 4 (some 44) rfl (fun K hK => ?_)
    go_simp
    ((refine (HP.out _).mono ?_); rintro e w5 ⟨rfl, rfl⟩)
    refine hK.out _ _ ?ss22 (fun hHeld2 => ?rr22)
    case ss22 => (try dsimp only); exact hHeld
    clear hK K
    clear hHeld2
    try simp only [Act.put, rg1, rg2, rg3]
    refine rgt 8 48 rfl rfl hHeld ?_
    try simp only [Act.put, rg1, rg2, rg3]
    refine rgc 10 (some 50) rfl (fun K hK => ?_)
    go_simp
    ((refine (want_no2 a hHeld.2.1).mono ?_); rintro e w6 ⟨rfl, h1, h2⟩)
    refine hK.out _ _ ?ss24 (fun hHeld2 => ?rr24)
    case ss24 => (try dsimp only); exact HS.out _ (hHeld.1.trans h1) (.inr h2)
    clear hK K
    clear hHeld
    have hHeld := hHeld2
    clear hHeld2
    try simp only [Act.put, rg1, rg2, rg3]
    refine wpAnyH_done (by kernel_rfl) ?_ _
    obtain ⟨hB, hT, q0, q1⟩ := hHeld
    have H := Lib.hid (And.intro (HB.out.1.trans hB) h2)
    clear hB hT h1 h2
    go_wp2_with fail
    (refine (HP1.out _).mono ?_); rintro e w7 ⟨rfl, rfl⟩
    go_wp2_with fail
    go_ret
    exact RuQ.bad H.out.1 H.out.2 HB.out.2

set_option maxRecDepth 100000 in
set_option maxHeartbeats 4000000 in
theorem rule_9 (kids nn : Int) (s t u : ByteArray) (ln cl : Int) (L : List Tn) (A : Option Addr) (c wb sb : Nat) (xs : List Value) (a a1 : Nat) (Ac : Option Addr) (cc : Nat) (x y z : Ty) (w : World) (hs : St L A c wb sb xs a1 w) (he : EnvAt w wb Ac [x, y, z]) (hcc : 3 ≤ cc) (ox : okT x) (oy : okT y) (oz : okT z) :
    Calls Tryz.prog 88 #[.pointer (some ⟨wb, 0, none⟩), .agg #[.int .i8 9, .int .i64 kids, .int .i64 nn, .string s, .string t, .string u, .int .i64 ln, .int .i64 cl], .slice Ac 3 cc, .int .i64 a] w fun e w' => RuQ (ruleE ⟨9, kids, nn, s, t, u, ln, cl⟩ [x, y, z] a) L A c wb sb xs a1 w e w' := by
  obtain ⟨g, o, rfl, hgw, hgl, hgc⟩ := envAt_cells he (by simp)
  obtain ⟨R, hR⟩ : ∃ R, ruleE ⟨9, kids, nn, s, t, u, ln, cl⟩ [x, y, z] a = R := ⟨_, rfl⟩
  have hRR : R = want (x = tB ∧ y = z) a (.ok (y)) := by rw [← hR]; unfold ruleE; simp
  rw [hR]
  clear hR
  have hcl : wb < w.heap.size := hs.wk.lt
  have hbt1 : Bt wb w (w.alloc (.cells #[.int .i8 9, .int .i64 kids, .int .i64 nn, .string s, .string t, .string u, .int .i64 ln, .int .i64 cl] 60)) := Bt.alloc (But.refl _ _) _
  have hs1 := hs.bt hbt1 (Blk.alloc hs.wk _)
  have q0 : w.cell? ⟨g, o, none⟩ = some (.string (str x)) := hgc 0 _ rfl
  have q1 : w.cell? ⟨g, o + 1, none⟩ = some (.string (str y)) := hgc 1 _ rfl
  have q2 : w.cell? ⟨g, o + 2, none⟩ = some (.string (str z)) := hgc 2 _ rfl
  have lx := leaf_eq ox 98 (by decide)
  have ly := str_ne_of oy.1 oz.1
  by_cases hx : x = tB
  · by_cases hy : y = z
    · replace hRR : R = .ok y := by rw [hRR]; unfold want; rw [if_pos ⟨hx, hy⟩]
      have ex : ((str x).toList == [98]) = true := lx.2 hx
      have ey : ((str y).toList == (str z).toList) = true := ly.2 hy
      obtain ⟨W1, hW1⟩ : ∃ W1, (w.alloc (.cells #[.int .i8 9, .int .i64 kids, .int .i64 nn, .string s, .string t, .string u, .int .i64 ln, .int .i64 cl] 60)) = W1 := ⟨_, rfl⟩
      have hgl1 : g < W1.heap.size := by rw [← hW1]; exact Nat.lt_of_lt_of_le hgl hbt1.size
      have HS := Lib.hid (show ∀ W', Bt wb W1 W' → St L A c wb sb xs a1 W' → (Bt wb W1 W' ∧ St L A c wb sb xs a1 W' ∧ W'.cell? ⟨g, o, none⟩ = some (.string (str x)) ∧ W'.cell? ⟨g, o + 1, none⟩ = some (.string (str y)) ∧ W'.cell? ⟨g, o + 2, none⟩ = some (.string (str z))) from fun W' h1 h2 => by
      have hb := (by rw [hW1] at hbt1; exact hbt1.trans h1 : Bt wb w W')
      exact ⟨h1, h2, (hb.cell (p := ⟨g, o, none⟩) hgl hgw).trans q0, (hb.cell (p := ⟨g, o + 1, none⟩) hgl hgw).trans q1, (hb.cell (p := ⟨g, o + 2, none⟩) hgl hgw).trans q2⟩)
      have HI := Lib.hid (HS.out _ (Bt.below (Below.refl _ _).drew) (((by rw [hW1] at hs1; exact hs1 : St L A c wb sb xs a1 W1).below (Below.refl _ _).drew)))
      have HB := Lib.hid (And.intro (by rw [hW1] at hbt1; exact hbt1 : Bt wb w W1) hRR)
      have HW1 := Lib.hid hW1
      clear hs he hgc hs1 hbt1 hRR hcc q0 q1 q2 hW1 hx lx ly hy
      go_enter Tryz.func88, Tryz.ntmps88
      go_upto_region 13 with fail
      rw [HW1.out]
      clear HW1
      refine wp_region_held_drew (S := (fun W' => (Bt wb W1 W' ∧ St L A c wb sb xs a1 W' ∧ W'.cell? ⟨g, o, none⟩ = some (.string (str x)) ∧ W'.cell? ⟨g, o + 1, none⟩ = some (.string (str y)) ∧ W'.cell? ⟨g, o + 2, none⟩ = some (.string (str z))))) (by kernel_rfl) ?ss25 (fun hHeld => ?rr25)
      case ss25 => (try dsimp only); exact HI.out
      refine rgt 0 57 rfl rfl hHeld ?_
      try simp only [Act.put, rg1, rg2, rg3]
      refine rgt 1 58 rfl rfl hHeld ?_
      try simp only [Act.put, rg1, rg2, rg3]
      refine rgt 2 59 rfl rfl hHeld ?_
      try simp only [Act.put, rg1, rg2, rg3]
      refine rgt 3 60 rfl rfl hHeld ?_
      try simp only [Act.put, rg1, rg2, rg3]
      refine rgt 4 61 rfl rfl hHeld ?_
      try simp only [Act.put, rg1, rg2, rg3]
      refine rgt 5 62 rfl rfl hHeld ?_
      try simp only [Act.put, rg1, rg2, rg3]
      refine rgt 6 63 rfl rfl hHeld ?_
      try simp only [Act.put, rg1, rg2, rg3]
      refine rgt 7 64 rfl rfl hHeld ?_
      try simp only [Act.put, rg1, rg2, rg3]
      refine rgt 8 65 rfl rfl hHeld ?_
      try simp only [Act.put, rg1, rg2, rg3]
      refine rgt 9 66 rfl rfl hHeld ?_
      try simp only [Act.put, rg1, rg2, rg3]
      refine rgt 10 67 rfl rfl hHeld ?_
      try simp only [Act.put, rg1, rg2, rg3]
      refine rgt 11 68 rfl rfl hHeld ?_
      try simp only [Act.put, rg1, rg2, rg3]
      refine rgt 12 69 rfl rfl hHeld ?_
      try simp only [Act.put, rg1, rg2, rg3]
      refine rgt 13 70 rfl rfl hHeld ?_
      try simp only [Act.put, rg1, rg2, rg3]
      refine rgt 14 71 rfl rfl hHeld ?_
      try simp only [Act.put, rg1, rg2, rg3]
      refine rgc 15 (some 72) rfl (fun K hK => ?_)
      go_simp
      ((refine (want_yes (a : Nat) hHeld.2.1).mono ?_); rintro e w6 ⟨rfl, h1, h2⟩)
      refine hK.out _ _ ?ss41 (fun hHeld2 => ?rr41)
      case ss41 => (try dsimp only); exact HS.out _ (hHeld.1.trans h1) h2
      clear hK K
      clear hHeld
      have hHeld := hHeld2
      clear hHeld2
      try simp only [Act.put, rg1, rg2, rg3]
      refine wpAnyH_done (by kernel_rfl) ?_ _
      obtain ⟨hB, hT, q0, q1, q2⟩ := hHeld
      have H := Lib.hid (And.intro (HB.out.1.trans hB) hT)
      clear hB hT h1 h2
      go_wp2_with fail
      go_ret
      exact RuQ.ok H.out.1 H.out.2 rfl HB.out.2
    · replace hRR : R = .bad 23 a := by rw [hRR]; unfold want; rw [if_neg (fun h => hy h.2)]
      have ex : ((str x).toList == [98]) = true := lx.2 hx
      have ey : ((str y).toList == (str z).toList) = false := by rw [Bool.eq_false_iff]; exact fun h => hy (ly.1 h)
      obtain ⟨W1, hW1⟩ : ∃ W1, (w.alloc (.cells #[.int .i8 9, .int .i64 kids, .int .i64 nn, .string s, .string t, .string u, .int .i64 ln, .int .i64 cl] 60)) = W1 := ⟨_, rfl⟩
      have hgl1 : g < W1.heap.size := by rw [← hW1]; exact Nat.lt_of_lt_of_le hgl hbt1.size
      have HS := Lib.hid (show ∀ W', Bt wb W1 W' → NeW L A c wb sb xs a1 23 a W' → (Bt wb W1 W' ∧ NeW L A c wb sb xs a1 23 a W' ∧ W'.cell? ⟨g, o, none⟩ = some (.string (str x)) ∧ W'.cell? ⟨g, o + 1, none⟩ = some (.string (str y)) ∧ W'.cell? ⟨g, o + 2, none⟩ = some (.string (str z))) from fun W' h1 h2 => by
      have hb := (by rw [hW1] at hbt1; exact hbt1.trans h1 : Bt wb w W')
      exact ⟨h1, h2, (hb.cell (p := ⟨g, o, none⟩) hgl hgw).trans q0, (hb.cell (p := ⟨g, o + 1, none⟩) hgl hgw).trans q1, (hb.cell (p := ⟨g, o + 2, none⟩) hgl hgw).trans q2⟩)
      have HI := Lib.hid (HS.out _ (Bt.below (Below.refl _ _).drew) (.inl ((by rw [hW1] at hs1; exact hs1 : St L A c wb sb xs a1 W1).below (Below.refl _ _).drew)))
      have HB := Lib.hid (And.intro (by rw [hW1] at hbt1; exact hbt1 : Bt wb w W1) hRR)
      have HW1 := Lib.hid hW1
      clear hs he hgc hs1 hbt1 hRR hcc q0 q1 q2 hW1 hx lx ly hy
      go_enter Tryz.func88, Tryz.ntmps88
      go_upto_region 13 with fail
      rw [HW1.out]
      clear HW1
      refine wp_region_held_drew (S := (fun W' => (Bt wb W1 W' ∧ NeW L A c wb sb xs a1 23 a W' ∧ W'.cell? ⟨g, o, none⟩ = some (.string (str x)) ∧ W'.cell? ⟨g, o + 1, none⟩ = some (.string (str y)) ∧ W'.cell? ⟨g, o + 2, none⟩ = some (.string (str z))))) (by kernel_rfl) ?ss42 (fun hHeld => ?rr42)
      case ss42 => (try dsimp only); exact HI.out
      refine rgt 0 57 rfl rfl hHeld ?_
      try simp only [Act.put, rg1, rg2, rg3]
      refine rgt 1 58 rfl rfl hHeld ?_
      try simp only [Act.put, rg1, rg2, rg3]
      refine rgt 2 59 rfl rfl hHeld ?_
      try simp only [Act.put, rg1, rg2, rg3]
      refine rgt 3 60 rfl rfl hHeld ?_
      try simp only [Act.put, rg1, rg2, rg3]
      refine rgt 4 61 rfl rfl hHeld ?_
      try simp only [Act.put, rg1, rg2, rg3]
      refine rgt 5 62 rfl rfl hHeld ?_
      try simp only [Act.put, rg1, rg2, rg3]
      refine rgt 6 63 rfl rfl hHeld ?_
      try simp only [Act.put, rg1, rg2, rg3]
      refine rgt 7 64 rfl rfl hHeld ?_
      try simp only [Act.put, rg1, rg2, rg3]
      refine rgt 8 65 rfl rfl hHeld ?_
      try simp only [Act.put, rg1, rg2, rg3]
      refine rgt 9 66 rfl rfl hHeld ?_
      try simp only [Act.put, rg1, rg2, rg3]
      refine rgt 10 67 rfl rfl hHeld ?_
      try simp only [Act.put, rg1, rg2, rg3]
      refine rgt 11 68 rfl rfl hHeld ?_
      try simp only [Act.put, rg1, rg2, rg3]
      refine rgt 12 69 rfl rfl hHeld ?_
      try simp only [Act.put, rg1, rg2, rg3]
      refine rgt 13 70 rfl rfl hHeld ?_
      try simp only [Act.put, rg1, rg2, rg3]
      refine rgt 14 71 rfl rfl hHeld ?_
      try simp only [Act.put, rg1, rg2, rg3]
      refine rgc 15 (some 72) rfl (fun K hK => ?_)
      go_simp
      ((refine (want_no2 a hHeld.2.1).mono ?_); rintro e w6 ⟨rfl, h1, h2⟩)
      refine hK.out _ _ ?ss58 (fun hHeld2 => ?rr58)
      case ss58 => (try dsimp only); exact HS.out _ (hHeld.1.trans h1) (.inr h2)
      clear hK K
      clear hHeld
      have hHeld := hHeld2
      clear hHeld2
      try simp only [Act.put, rg1, rg2, rg3]
      refine wpAnyH_done (by kernel_rfl) ?_ _
      obtain ⟨hB, hT, q0, q1, q2⟩ := hHeld
      have H := Lib.hid (And.intro (HB.out.1.trans hB) h2)
      clear hB hT h1 h2
      go_wp2_with fail
      go_ret
      exact RuQ.bad H.out.1 H.out.2 HB.out.2
  · replace hRR : R = .bad 23 a := by rw [hRR]; unfold want; rw [if_neg (fun h => hx h.1)]
    have ex : ((str x).toList == [98]) = false := by rw [Bool.eq_false_iff]; exact fun h => hx (lx.1 h)
    obtain ⟨W1, hW1⟩ : ∃ W1, (w.alloc (.cells #[.int .i8 9, .int .i64 kids, .int .i64 nn, .string s, .string t, .string u, .int .i64 ln, .int .i64 cl] 60)) = W1 := ⟨_, rfl⟩
    have hgl1 : g < W1.heap.size := by rw [← hW1]; exact Nat.lt_of_lt_of_le hgl hbt1.size
    have HS := Lib.hid (show ∀ W', Bt wb W1 W' → NeW L A c wb sb xs a1 23 a W' → (Bt wb W1 W' ∧ NeW L A c wb sb xs a1 23 a W' ∧ W'.cell? ⟨g, o, none⟩ = some (.string (str x)) ∧ W'.cell? ⟨g, o + 1, none⟩ = some (.string (str y)) ∧ W'.cell? ⟨g, o + 2, none⟩ = some (.string (str z))) from fun W' h1 h2 => by
      have hb := (by rw [hW1] at hbt1; exact hbt1.trans h1 : Bt wb w W')
      exact ⟨h1, h2, (hb.cell (p := ⟨g, o, none⟩) hgl hgw).trans q0, (hb.cell (p := ⟨g, o + 1, none⟩) hgl hgw).trans q1, (hb.cell (p := ⟨g, o + 2, none⟩) hgl hgw).trans q2⟩)
    have HI := Lib.hid (HS.out _ (Bt.below (Below.refl _ _).drew) (.inl ((by rw [hW1] at hs1; exact hs1 : St L A c wb sb xs a1 W1).below (Below.refl _ _).drew)))
    have HB := Lib.hid (And.intro (by rw [hW1] at hbt1; exact hbt1 : Bt wb w W1) hRR)
    have HW1 := Lib.hid hW1
    clear hs he hgc hs1 hbt1 hRR hcc q0 q1 q2 hW1 hx lx ly
    go_enter Tryz.func88, Tryz.ntmps88
    go_upto_region 13 with fail
    rw [HW1.out]
    clear HW1
    refine wp_region_held_drew (S := (fun W' => (Bt wb W1 W' ∧ NeW L A c wb sb xs a1 23 a W' ∧ W'.cell? ⟨g, o, none⟩ = some (.string (str x)) ∧ W'.cell? ⟨g, o + 1, none⟩ = some (.string (str y)) ∧ W'.cell? ⟨g, o + 2, none⟩ = some (.string (str z))))) (by kernel_rfl) ?ss59 (fun hHeld => ?rr59)
    case ss59 => (try dsimp only); exact HI.out
    refine rgt 0 57 rfl rfl hHeld ?_
    try simp only [Act.put, rg1, rg2, rg3]
    refine rgt 1 58 rfl rfl hHeld ?_
    try simp only [Act.put, rg1, rg2, rg3]
    refine rgt 2 59 rfl rfl hHeld ?_
    try simp only [Act.put, rg1, rg2, rg3]
    refine rgt 3 60 rfl rfl hHeld ?_
    try simp only [Act.put, rg1, rg2, rg3]
    refine rgt 4 61 rfl rfl hHeld ?_
    try simp only [Act.put, rg1, rg2, rg3]
    refine rgt 5 62 rfl rfl hHeld ?_
    try simp only [Act.put, rg1, rg2, rg3]
    refine rgn 6 63 rfl rfl hHeld ?_
    try simp only [Act.put, rg1, rg2, rg3]
    refine rgn 7 64 rfl rfl hHeld ?_
    try simp only [Act.put, rg1, rg2, rg3]
    refine rgn 8 65 rfl rfl hHeld ?_
    try simp only [Act.put, rg1, rg2, rg3]
    refine rgn 9 66 rfl rfl hHeld ?_
    try simp only [Act.put, rg1, rg2, rg3]
    refine rgn 10 67 rfl rfl hHeld ?_
    try simp only [Act.put, rg1, rg2, rg3]
    refine rgn 11 68 rfl rfl hHeld ?_
    try simp only [Act.put, rg1, rg2, rg3]
    refine rgn 12 69 rfl rfl hHeld ?_
    try simp only [Act.put, rg1, rg2, rg3]
    refine rgt 13 70 rfl rfl hHeld ?_
    try simp only [Act.put, rg1, rg2, rg3]
    refine rgt 14 71 rfl rfl hHeld ?_
    try simp only [Act.put, rg1, rg2, rg3]
    refine rgc 15 (some 72) rfl (fun K hK => ?_)
    go_simp
    ((refine (want_no2 a hHeld.2.1).mono ?_); rintro e w6 ⟨rfl, h1, h2⟩)
    refine hK.out _ _ ?ss75 (fun hHeld2 => ?rr75)
    case ss75 => (try dsimp only); exact HS.out _ (hHeld.1.trans h1) (.inr h2)
    clear hK K
    clear hHeld
    have hHeld := hHeld2
    clear hHeld2
    try simp only [Act.put, rg1, rg2, rg3]
    refine wpAnyH_done (by kernel_rfl) ?_ _
    obtain ⟨hB, hT, q0, q1, q2⟩ := hHeld
    have H := Lib.hid (And.intro (HB.out.1.trans hB) h2)
    clear hB hT h1 h2
    go_wp2_with fail
    go_ret
    exact RuQ.bad H.out.1 H.out.2 HB.out.2

set_option maxRecDepth 100000 in
set_option maxHeartbeats 4000000 in
theorem rule_18 (kids nn : Int) (s t u : ByteArray) (ln cl : Int) (L : List Tn) (A : Option Addr) (c wb sb : Nat) (xs : List Value) (a a1 : Nat) (Ac : Option Addr) (cc : Nat) (x y : Ty) (w : World) (hs : St L A c wb sb xs a1 w) (he : EnvAt w wb Ac [x, y]) (hcc : 2 ≤ cc) (ox : okT x) (oy : okT y) :
    Calls Tryz.prog 88 #[.pointer (some ⟨wb, 0, none⟩), .agg #[.int .i8 18, .int .i64 kids, .int .i64 nn, .string s, .string t, .string u, .int .i64 ln, .int .i64 cl], .slice Ac 2 cc, .int .i64 a] w fun e w' => RuQ (ruleE ⟨18, kids, nn, s, t, u, ln, cl⟩ [x, y] a) L A c wb sb xs a1 w e w' := by
  obtain ⟨g, o, rfl, hgw, hgl, hgc⟩ := envAt_cells he (by simp)
  obtain ⟨R, hR⟩ : ∃ R, ruleE ⟨18, kids, nn, s, t, u, ln, cl⟩ [x, y] a = R := ⟨_, rfl⟩
  have hRR : R = made (.bin 44 x y) a := by rw [← hR]; unfold ruleE; simp
  rw [hR]
  clear hR
  have hcl : wb < w.heap.size := hs.wk.lt
  have hbt1 : Bt wb w (w.alloc (.cells #[.int .i8 18, .int .i64 kids, .int .i64 nn, .string s, .string t, .string u, .int .i64 ln, .int .i64 cl] 60)) := Bt.alloc (But.refl _ _) _
  have hs1 := hs.bt hbt1 (Blk.alloc hs.wk _)
  have q0 : w.cell? ⟨g, o, none⟩ = some (.string (str x)) := hgc 0 _ rfl
  have q1 : w.cell? ⟨g, o + 1, none⟩ = some (.string (str y)) := hgc 1 _ rfl
  have hs64 : (str x).size ≤ 64 := by rw [str_size]; exact ox.2
  have hs65 : (str y).size ≤ 64 := by rw [str_size]; exact oy.2
  have ha1 := fun V => run_string_add_sum (P := Tryz.prog) V ⟨#[44]⟩ (str x) (by show 1 + _ ≤ _; omega)
  have ha2 := fun V => run_string_add_sum (P := Tryz.prog) V ((⟨#[44]⟩ : ByteArray) ++ str x) (str y) (by rw [ByteArray.size_append]; show (1 + _) + _ ≤ _; omega)
  have hsz : (((⟨#[44]⟩ : ByteArray) ++ str x) ++ str y).size = (Ty.bin 44 x y).code.length := by rw [str_bin, str_size]
  by_cases hx : (Ty.bin 44 x y).code.length ≤ 64
  · replace hRR : R = .ok (.bin 44 x y) := by rw [hRR]; unfold made; rw [if_pos hx]
    have hsz2 : ((((⟨#[44]⟩ : ByteArray) ++ str x) ++ str y).size ≤ 64) := by rw [hsz]; exact hx
    obtain ⟨W1, hW1⟩ : ∃ W1, (w.alloc (.cells #[.int .i8 18, .int .i64 kids, .int .i64 nn, .string s, .string t, .string u, .int .i64 ln, .int .i64 cl] 60)) = W1 := ⟨_, rfl⟩
    have hgl1 : g < W1.heap.size := by rw [← hW1]; exact Nat.lt_of_lt_of_le hgl hbt1.size
    have HS := Lib.hid (show ∀ W', Bt wb W1 W' → St L A c wb sb xs a1 W' → (Bt wb W1 W' ∧ St L A c wb sb xs a1 W' ∧ W'.cell? ⟨g, o, none⟩ = some (.string (str x)) ∧ W'.cell? ⟨g, o + 1, none⟩ = some (.string (str y))) from fun W' h1 h2 => by
      have hb := (by rw [hW1] at hbt1; exact hbt1.trans h1 : Bt wb w W')
      exact ⟨h1, h2, (hb.cell (p := ⟨g, o, none⟩) hgl hgw).trans q0, (hb.cell (p := ⟨g, o + 1, none⟩) hgl hgw).trans q1⟩)
    have HI := Lib.hid (HS.out _ (Bt.below (Below.refl _ _).drew) (((by rw [hW1] at hs1; exact hs1 : St L A c wb sb xs a1 W1).below (Below.refl _ _).drew)))
    have HB := Lib.hid (And.intro (by rw [hW1] at hbt1; exact hbt1 : Bt wb w W1) hRR)
    have HW1 := Lib.hid hW1
    clear hs he hgc hs1 hbt1 hRR hcc q0 q1 hW1 hx hsz
    go_enter Tryz.func88, Tryz.ntmps88
    go_upto_region 34 with fail
    rw [HW1.out]
    clear HW1
    refine wp_region_held_drew (S := (fun W' => (Bt wb W1 W' ∧ St L A c wb sb xs a1 W' ∧ W'.cell? ⟨g, o, none⟩ = some (.string (str x)) ∧ W'.cell? ⟨g, o + 1, none⟩ = some (.string (str y))))) (by kernel_rfl) ?ss76 (fun hHeld => ?rr76)
    case ss76 => (try dsimp only); exact HI.out
    refine rgt 0 144 rfl rfl hHeld ?_
    try simp only [Act.put, rg1, rg2, rg3]
    refine rgt 1 145 rfl rfl hHeld ?_
    try simp only [Act.put, rg1, rg2, rg3]
    refine rgt 2 146 rfl rfl hHeld ?_
    try simp only [Act.put, rg1, rg2, rg3]
    refine rgt 3 147 rfl rfl hHeld ?_
    try simp only [Act.put, rg1, rg2, rg3]
    refine rgt 4 148 rfl rfl hHeld ?_
    try simp only [Act.put, rg1, rg2, rg3]
    refine rgt 5 149 rfl rfl hHeld ?_
    try simp only [Act.put, rg1, rg2, rg3]
    refine rgt 6 150 rfl rfl hHeld ?_
    try simp only [Act.put, rg1, rg2, rg3]
    refine rgt 7 151 rfl rfl hHeld ?_
    try simp only [Act.put, rg1, rg2, rg3]
    refine rgt 8 152 rfl rfl hHeld ?_
    try simp only [Act.put, rg1, rg2, rg3]
    refine rgt 9 153 rfl rfl hHeld ?_
    try simp only [Act.put, rg1, rg2, rg3]
    refine rgc 10 (some 154) rfl (fun K hK => ?_)
    go_simp
    ((refine (madeS_yes _ (a : Nat) hHeld.2.1 hsz2).mono ?_); rintro e w6 ⟨rfl, h1, h2⟩)
    refine hK.out _ _ ?ss87 (fun hHeld2 => ?rr87)
    case ss87 => (try dsimp only); exact HS.out _ (hHeld.1.trans h1) h2
    clear hK K
    clear hHeld
    have hHeld := hHeld2
    clear hHeld2
    try simp only [Act.put, rg1, rg2, rg3]
    refine rgt 11 8 rfl rfl hHeld ?_
    try simp only [Act.put, rg1, rg2, rg3]
    refine wpAnyH_done (by kernel_rfl) ?_ _
    obtain ⟨hB, hT, q0, q1⟩ := hHeld
    have H := Lib.hid (And.intro (HB.out.1.trans hB) hT)
    clear hB hT h1 h2
    go_wp2_with fail
    go_ret
    exact RuQ.ok H.out.1 H.out.2 (str_bin 44 x y) HB.out.2
  · replace hRR : R = .bad 21 a := by rw [hRR]; unfold made; rw [if_neg hx]
    have hsz2 : (¬ (((⟨#[44]⟩ : ByteArray) ++ str x) ++ str y).size ≤ 64) := by rw [hsz]; exact hx
    obtain ⟨W1, hW1⟩ : ∃ W1, (w.alloc (.cells #[.int .i8 18, .int .i64 kids, .int .i64 nn, .string s, .string t, .string u, .int .i64 ln, .int .i64 cl] 60)) = W1 := ⟨_, rfl⟩
    have hgl1 : g < W1.heap.size := by rw [← hW1]; exact Nat.lt_of_lt_of_le hgl hbt1.size
    have HS := Lib.hid (show ∀ W', Bt wb W1 W' → NeW L A c wb sb xs a1 21 a W' → (Bt wb W1 W' ∧ NeW L A c wb sb xs a1 21 a W' ∧ W'.cell? ⟨g, o, none⟩ = some (.string (str x)) ∧ W'.cell? ⟨g, o + 1, none⟩ = some (.string (str y))) from fun W' h1 h2 => by
      have hb := (by rw [hW1] at hbt1; exact hbt1.trans h1 : Bt wb w W')
      exact ⟨h1, h2, (hb.cell (p := ⟨g, o, none⟩) hgl hgw).trans q0, (hb.cell (p := ⟨g, o + 1, none⟩) hgl hgw).trans q1⟩)
    have HI := Lib.hid (HS.out _ (Bt.below (Below.refl _ _).drew) (.inl ((by rw [hW1] at hs1; exact hs1 : St L A c wb sb xs a1 W1).below (Below.refl _ _).drew)))
    have HB := Lib.hid (And.intro (by rw [hW1] at hbt1; exact hbt1 : Bt wb w W1) hRR)
    have HW1 := Lib.hid hW1
    clear hs he hgc hs1 hbt1 hRR hcc q0 q1 hW1 hx hsz
    go_enter Tryz.func88, Tryz.ntmps88
    go_upto_region 34 with fail
    rw [HW1.out]
    clear HW1
    refine wp_region_held_drew (S := (fun W' => (Bt wb W1 W' ∧ NeW L A c wb sb xs a1 21 a W' ∧ W'.cell? ⟨g, o, none⟩ = some (.string (str x)) ∧ W'.cell? ⟨g, o + 1, none⟩ = some (.string (str y))))) (by kernel_rfl) ?ss89 (fun hHeld => ?rr89)
    case ss89 => (try dsimp only); exact HI.out
    refine rgt 0 144 rfl rfl hHeld ?_
    try simp only [Act.put, rg1, rg2, rg3]
    refine rgt 1 145 rfl rfl hHeld ?_
    try simp only [Act.put, rg1, rg2, rg3]
    refine rgt 2 146 rfl rfl hHeld ?_
    try simp only [Act.put, rg1, rg2, rg3]
    refine rgt 3 147 rfl rfl hHeld ?_
    try simp only [Act.put, rg1, rg2, rg3]
    refine rgt 4 148 rfl rfl hHeld ?_
    try simp only [Act.put, rg1, rg2, rg3]
    refine rgt 5 149 rfl rfl hHeld ?_
    try simp only [Act.put, rg1, rg2, rg3]
    refine rgt 6 150 rfl rfl hHeld ?_
    try simp only [Act.put, rg1, rg2, rg3]
    refine rgt 7 151 rfl rfl hHeld ?_
    try simp only [Act.put, rg1, rg2, rg3]
    refine rgt 8 152 rfl rfl hHeld ?_
    try simp only [Act.put, rg1, rg2, rg3]
    refine rgt 9 153 rfl rfl hHeld ?_
    try simp only [Act.put, rg1, rg2, rg3]
    refine rgc 10 (some 154) rfl (fun K hK => ?_)
    go_simp
    ((refine (made_no2 _ a hHeld.2.1 hsz2).mono ?_); rintro e w6 ⟨rfl, h1, h2⟩)
    refine hK.out _ _ ?ss100 (fun hHeld2 => ?rr100)
    case ss100 => (try dsimp only); exact HS.out _ (hHeld.1.trans h1) (.inr h2)
    clear hK K
    clear hHeld
    have hHeld := hHeld2
    clear hHeld2
    try simp only [Act.put, rg1, rg2, rg3]
    refine rgt 11 8 rfl rfl hHeld ?_
    try simp only [Act.put, rg1, rg2, rg3]
    refine wpAnyH_done (by kernel_rfl) ?_ _
    obtain ⟨hB, hT, q0, q1⟩ := hHeld
    have H := Lib.hid (And.intro (HB.out.1.trans hB) h2)
    clear hB hT h1 h2
    go_wp2_with fail
    go_ret
    exact RuQ.bad H.out.1 H.out.2 HB.out.2

theorem un_iff {T y : Ty} (hT : T.ok) (h : UInt8) (hh : arB h = 1) : T = .un h y ↔ T.head = h ∧ T.kids.getD 0 tI = y := by
  constructor
  · rintro rfl; exact ⟨rfl, rfl⟩
  · rintro ⟨h1, h2⟩
    have h3 := Ty.ar_head hT
    rw [h1, hh] at h3
    cases T with
    | leaf c => simp [Ty.kids] at h3
    | un c t => simp only [Ty.head, Ty.kids, List.getD_cons_zero] at h1 h2; rw [h1, h2]
    | bin c t u => simp [Ty.kids] at h3

set_option maxRecDepth 100000 in
set_option maxHeartbeats 4000000 in
theorem rule_25 (kids nn : Int) (s t u : ByteArray) (ln cl : Int) (L : List Tn) (A : Option Addr) (c wb sb : Nat) (xs : List Value) (a a1 : Nat) (Ac : Option Addr) (cc : Nat) (x y : Ty) (w : World) (hs : St L A c wb sb xs a1 w) (he : EnvAt w wb Ac [x, y]) (hcc : 2 ≤ cc) (ox : okT x) (oy : okT y) :
    Calls Tryz.prog 88 #[.pointer (some ⟨wb, 0, none⟩), .agg #[.int .i8 25, .int .i64 kids, .int .i64 nn, .string s, .string t, .string u, .int .i64 ln, .int .i64 cl], .slice Ac 2 cc, .int .i64 a] w fun e w' => RuQ (ruleE ⟨25, kids, nn, s, t, u, ln, cl⟩ [x, y] a) L A c wb sb xs a1 w e w' := by
  obtain ⟨g, o, rfl, hgw, hgl, hgc⟩ := envAt_cells he (by simp)
  obtain ⟨R, hR⟩ : ∃ R, ruleE ⟨25, kids, nn, s, t, u, ln, cl⟩ [x, y] a = R := ⟨_, rfl⟩
  have hRR : R = want (y = .un 108 x) a (.ok (y)) := by rw [← hR]; unfold ruleE; simp
  rw [hR]
  clear hR
  have hcl : wb < w.heap.size := hs.wk.lt
  have hbt1 : Bt wb w (w.alloc (.cells #[.int .i8 25, .int .i64 kids, .int .i64 nn, .string s, .string t, .string u, .int .i64 ln, .int .i64 cl] 60)) := Bt.alloc (But.refl _ _) _
  have hs1 := hs.bt hbt1 (Blk.alloc hs.wk _)
  have q0 : w.cell? ⟨g, o, none⟩ = some (.string (str x)) := hgc 0 _ rfl
  have q1 : w.cell? ⟨g, o + 1, none⟩ = some (.string (str y)) := hgc 1 _ rfl
  have hpe := part_eq (T := y) (y := x) oy ox 108 0
  have hun := un_iff (y := x) oy.1 108 (by decide)
  by_cases hx : y = .un 108 x
  · replace hRR : R = .ok y := by rw [hRR]; unfold want; rw [if_pos hx]
    have HP := Lib.hid (part_lit (T := y) 108 108 0 0 1 _ oy rfl rfl (by decide) (by omega) rfl)
    have eb : ((partV y 108 0).toList == (str x).toList) = true := hpe.2 (hun.1 hx)
    obtain ⟨P, hP⟩ : ∃ P, partV y 108 0 = P := ⟨_, rfl⟩
    rw [hP] at HP eb
    clear hP
    obtain ⟨W1, hW1⟩ : ∃ W1, (w.alloc (.cells #[.int .i8 25, .int .i64 kids, .int .i64 nn, .string s, .string t, .string u, .int .i64 ln, .int .i64 cl] 60)) = W1 := ⟨_, rfl⟩
    have hgl1 : g < W1.heap.size := by rw [← hW1]; exact Nat.lt_of_lt_of_le hgl hbt1.size
    have HS := Lib.hid (show ∀ W', Bt wb W1 W' → St L A c wb sb xs a1 W' → (Bt wb W1 W' ∧ St L A c wb sb xs a1 W' ∧ W'.cell? ⟨g, o, none⟩ = some (.string (str x)) ∧ W'.cell? ⟨g, o + 1, none⟩ = some (.string (str y))) from fun W' h1 h2 => by
      have hb := (by rw [hW1] at hbt1; exact hbt1.trans h1 : Bt wb w W')
      exact ⟨h1, h2, (hb.cell (p := ⟨g, o, none⟩) hgl hgw).trans q0, (hb.cell (p := ⟨g, o + 1, none⟩) hgl hgw).trans q1⟩)
    have HI := Lib.hid (HS.out _ (Bt.below (Below.refl _ _).drew) (((by rw [hW1] at hs1; exact hs1 : St L A c wb sb xs a1 W1).below (Below.refl _ _).drew)))
    have HB := Lib.hid (And.intro (by rw [hW1] at hbt1; exact hbt1 : Bt wb w W1) hRR)
    have HW1 := Lib.hid hW1
    clear hs he hgc hs1 hbt1 hRR hcc q0 q1 hW1 hx hpe hun
    go_enter Tryz.func88, Tryz.ntmps88
    go_upto_region 49 with fail
    rw [HW1.out]
    clear HW1
    refine wp_region_held_drew (S := (fun W' => (Bt wb W1 W' ∧ St L A c wb sb xs a1 W' ∧ W'.cell? ⟨g, o, none⟩ = some (.string (str x)) ∧ W'.cell? ⟨g, o + 1, none⟩ = some (.string (str y))))) (by kernel_rfl) ?ss102 (fun hHeld => ?rr102)
    case ss102 => (try dsimp only); exact HI.out
    refine rgt 0 198 rfl rfl hHeld ?_
    try simp only [Act.put, rg1, rg2, rg3]
    refine rgt 1 199 rfl rfl hHeld ?_
    try simp only [Act.put, rg1, rg2, rg3]
    refine rgt 2 200 rfl rfl hHeld ?_
    try simp only [Act.put, rg1, rg2, rg3]
    refine rgt 3 201 rfl rfl hHeld ?_
    try simp only [Act.put, rg1, rg2, rg3]
    refine rgt 5 203 rfl rfl hHeld ?_
    try simp only [Act.put, rg1, rg2, rg3]
    refine rgt 6 204 rfl rfl hHeld ?_
    try simp only [Act.put, rg1, rg2, rg3]
    refine rgt 7 205 rfl rfl hHeld ?_
    try simp only [Act.put, rg1, rg2, rg3]
    refine rgt 9 207 rfl rfl hHeld ?_
    try simp only [Act.put, rg1, rg2, rg3]
    refine rgc 4 (some 202) rfl (fun K hK => ?_)
    go_simp
    ((refine (HP.out _).mono ?_); rintro e w5 ⟨rfl, rfl⟩)
    refine hK.out _ _ ?ss111 (fun hHeld2 => ?rr111)
    case ss111 => (try dsimp only); exact hHeld
    clear hK K
    clear hHeld2
    try simp only [Act.put, rg1, rg2, rg3]
    refine rgt 8 206 rfl rfl hHeld ?_
    try simp only [Act.put, rg1, rg2, rg3]
    refine rgc 10 (some 208) rfl (fun K hK => ?_)
    go_simp
    ((refine (want_yes (a : Nat) hHeld.2.1).mono ?_); rintro e w6 ⟨rfl, h1, h2⟩)
    refine hK.out _ _ ?ss113 (fun hHeld2 => ?rr113)
    case ss113 => (try dsimp only); exact HS.out _ (hHeld.1.trans h1) h2
    clear hK K
    clear hHeld
    have hHeld := hHeld2
    clear hHeld2
    try simp only [Act.put, rg1, rg2, rg3]
    refine wpAnyH_done (by kernel_rfl) ?_ _
    obtain ⟨hB, hT, q0, q1⟩ := hHeld
    have H := Lib.hid (And.intro (HB.out.1.trans hB) hT)
    clear hB hT h1 h2
    go_wp2_with fail
    go_ret
    exact RuQ.ok H.out.1 H.out.2 rfl HB.out.2
  · replace hRR : R = .bad 23 a := by rw [hRR]; unfold want; rw [if_neg hx]
    have HP := Lib.hid (part_lit (T := y) 108 108 0 0 1 _ oy rfl rfl (by decide) (by omega) rfl)
    have eb : ((partV y 108 0).toList == (str x).toList) = false := by rw [Bool.eq_false_iff]; exact fun h => hx (hun.2 (hpe.1 h))
    obtain ⟨P, hP⟩ : ∃ P, partV y 108 0 = P := ⟨_, rfl⟩
    rw [hP] at HP eb
    clear hP
    obtain ⟨W1, hW1⟩ : ∃ W1, (w.alloc (.cells #[.int .i8 25, .int .i64 kids, .int .i64 nn, .string s, .string t, .string u, .int .i64 ln, .int .i64 cl] 60)) = W1 := ⟨_, rfl⟩
    have hgl1 : g < W1.heap.size := by rw [← hW1]; exact Nat.lt_of_lt_of_le hgl hbt1.size
    have HS := Lib.hid (show ∀ W', Bt wb W1 W' → NeW L A c wb sb xs a1 23 a W' → (Bt wb W1 W' ∧ NeW L A c wb sb xs a1 23 a W' ∧ W'.cell? ⟨g, o, none⟩ = some (.string (str x)) ∧ W'.cell? ⟨g, o + 1, none⟩ = some (.string (str y))) from fun W' h1 h2 => by
      have hb := (by rw [hW1] at hbt1; exact hbt1.trans h1 : Bt wb w W')
      exact ⟨h1, h2, (hb.cell (p := ⟨g, o, none⟩) hgl hgw).trans q0, (hb.cell (p := ⟨g, o + 1, none⟩) hgl hgw).trans q1⟩)
    have HI := Lib.hid (HS.out _ (Bt.below (Below.refl _ _).drew) (.inl ((by rw [hW1] at hs1; exact hs1 : St L A c wb sb xs a1 W1).below (Below.refl _ _).drew)))
    have HB := Lib.hid (And.intro (by rw [hW1] at hbt1; exact hbt1 : Bt wb w W1) hRR)
    have HW1 := Lib.hid hW1
    clear hs he hgc hs1 hbt1 hRR hcc q0 q1 hW1 hx hpe hun
    go_enter Tryz.func88, Tryz.ntmps88
    go_upto_region 49 with fail
    rw [HW1.out]
    clear HW1
    refine wp_region_held_drew (S := (fun W' => (Bt wb W1 W' ∧ NeW L A c wb sb xs a1 23 a W' ∧ W'.cell? ⟨g, o, none⟩ = some (.string (str x)) ∧ W'.cell? ⟨g, o + 1, none⟩ = some (.string (str y))))) (by kernel_rfl) ?ss114 (fun hHeld => ?rr114)
    case ss114 => (try dsimp only); exact HI.out
    refine rgt 0 198 rfl rfl hHeld ?_
    try simp only [Act.put, rg1, rg2, rg3]
    refine rgt 1 199 rfl rfl hHeld ?_
    try simp only [Act.put, rg1, rg2, rg3]
    refine rgt 2 200 rfl rfl hHeld ?_
    try simp only [Act.put, rg1, rg2, rg3]
    refine rgt 3 201 rfl rfl hHeld ?_
    try simp only [Act.put, rg1, rg2, rg3]
    refine rgt 5 203 rfl rfl hHeld ?_
    try simp only [Act.put, rg1, rg2, rg3]
    refine rgt 6 204 rfl rfl hHeld ?_
    try simp only [Act.put, rg1, rg2, rg3]
    refine rgt 7 205 rfl rfl hHeld ?_
    try simp only [Act.put, rg1, rg2, rg3]
    refine rgt 9 207 rfl rfl hHeld ?_
    try simp only [Act.put, rg1, rg2, rg3]
    refine rgc 4 (some 202) rfl (fun K hK => ?_)
    go_simp
    ((refine (HP.out _).mono ?_); rintro e w5 ⟨rfl, rfl⟩)
    refine hK.out _ _ ?ss123 (fun hHeld2 => ?rr123)
    case ss123 => (try dsimp only); exact hHeld
    clear hK K
    clear hHeld2
    try simp only [Act.put, rg1, rg2, rg3]
    refine rgt 8 206 rfl rfl hHeld ?_
    try simp only [Act.put, rg1, rg2, rg3]
    refine rgc 10 (some 208) rfl (fun K hK => ?_)
    go_simp
    ((refine (want_no2 a hHeld.2.1).mono ?_); rintro e w6 ⟨rfl, h1, h2⟩)
    refine hK.out _ _ ?ss125 (fun hHeld2 => ?rr125)
    case ss125 => (try dsimp only); exact HS.out _ (hHeld.1.trans h1) (.inr h2)
    clear hK K
    clear hHeld
    have hHeld := hHeld2
    clear hHeld2
    try simp only [Act.put, rg1, rg2, rg3]
    refine wpAnyH_done (by kernel_rfl) ?_ _
    obtain ⟨hB, hT, q0, q1⟩ := hHeld
    have H := Lib.hid (And.intro (HB.out.1.trans hB) h2)
    clear hB hT h1 h2
    go_wp2_with fail
    go_ret
    exact RuQ.bad H.out.1 H.out.2 HB.out.2

set_option maxRecDepth 100000 in
set_option maxHeartbeats 4000000 in
theorem rule_28 (kids nn : Int) (s t u : ByteArray) (ln cl : Int) (L : List Tn) (A : Option Addr) (c wb sb : Nat) (xs : List Value) (a a1 : Nat) (Ac : Option Addr) (cc : Nat) (x y : Ty) (w : World) (hs : St L A c wb sb xs a1 w) (he : EnvAt w wb Ac [x, y]) (hcc : 2 ≤ cc) (ox : okT x) (oy : okT y) :
    Calls Tryz.prog 88 #[.pointer (some ⟨wb, 0, none⟩), .agg #[.int .i8 28, .int .i64 kids, .int .i64 nn, .string s, .string t, .string u, .int .i64 ln, .int .i64 cl], .slice Ac 2 cc, .int .i64 a] w fun e w' => RuQ (ruleE ⟨28, kids, nn, s, t, u, ln, cl⟩ [x, y] a) L A c wb sb xs a1 w e w' := by
  obtain ⟨g, o, rfl, hgw, hgl, hgc⟩ := envAt_cells he (by simp)
  obtain ⟨R, hR⟩ : ∃ R, ruleE ⟨28, kids, nn, s, t, u, ln, cl⟩ [x, y] a = R := ⟨_, rfl⟩
  have hRR : R = want (x = .un 120 y) a (.ok (y)) := by rw [← hR]; unfold ruleE; simp
  rw [hR]
  clear hR
  have hcl : wb < w.heap.size := hs.wk.lt
  have hbt1 : Bt wb w (w.alloc (.cells #[.int .i8 28, .int .i64 kids, .int .i64 nn, .string s, .string t, .string u, .int .i64 ln, .int .i64 cl] 60)) := Bt.alloc (But.refl _ _) _
  have hs1 := hs.bt hbt1 (Blk.alloc hs.wk _)
  have q0 : w.cell? ⟨g, o, none⟩ = some (.string (str x)) := hgc 0 _ rfl
  have q1 : w.cell? ⟨g, o + 1, none⟩ = some (.string (str y)) := hgc 1 _ rfl
  have hpe := part_eq (T := x) (y := y) ox oy 120 0
  have hun := un_iff (y := y) ox.1 120 (by decide)
  by_cases hx : x = .un 120 y
  · replace hRR : R = .ok y := by rw [hRR]; unfold want; rw [if_pos hx]
    have HP := Lib.hid (part_lit (T := x) 120 120 0 0 1 _ ox rfl rfl (by decide) (by omega) rfl)
    have eb : ((partV x 120 0).toList == (str y).toList) = true := hpe.2 (hun.1 hx)
    obtain ⟨P, hP⟩ : ∃ P, partV x 120 0 = P := ⟨_, rfl⟩
    rw [hP] at HP eb
    clear hP
    obtain ⟨W1, hW1⟩ : ∃ W1, (w.alloc (.cells #[.int .i8 28, .int .i64 kids, .int .i64 nn, .string s, .string t, .string u, .int .i64 ln, .int .i64 cl] 60)) = W1 := ⟨_, rfl⟩
    have hgl1 : g < W1.heap.size := by rw [← hW1]; exact Nat.lt_of_lt_of_le hgl hbt1.size
    have HS := Lib.hid (show ∀ W', Bt wb W1 W' → St L A c wb sb xs a1 W' → (Bt wb W1 W' ∧ St L A c wb sb xs a1 W' ∧ W'.cell? ⟨g, o, none⟩ = some (.string (str x)) ∧ W'.cell? ⟨g, o + 1, none⟩ = some (.string (str y))) from fun W' h1 h2 => by
      have hb := (by rw [hW1] at hbt1; exact hbt1.trans h1 : Bt wb w W')
      exact ⟨h1, h2, (hb.cell (p := ⟨g, o, none⟩) hgl hgw).trans q0, (hb.cell (p := ⟨g, o + 1, none⟩) hgl hgw).trans q1⟩)
    have HI := Lib.hid (HS.out _ (Bt.below (Below.refl _ _).drew) (((by rw [hW1] at hs1; exact hs1 : St L A c wb sb xs a1 W1).below (Below.refl _ _).drew)))
    have HB := Lib.hid (And.intro (by rw [hW1] at hbt1; exact hbt1 : Bt wb w W1) hRR)
    have HW1 := Lib.hid hW1
    clear hs he hgc hs1 hbt1 hRR hcc q0 q1 hW1 hx hpe hun
    go_enter Tryz.func88, Tryz.ntmps88
    go_upto_region 57 with fail
    rw [HW1.out]
    clear HW1
    refine wp_region_held_drew (S := (fun W' => (Bt wb W1 W' ∧ St L A c wb sb xs a1 W' ∧ W'.cell? ⟨g, o, none⟩ = some (.string (str x)) ∧ W'.cell? ⟨g, o + 1, none⟩ = some (.string (str y))))) (by kernel_rfl) ?ss126 (fun hHeld => ?rr126)
    case ss126 => (try dsimp only); exact HI.out
    refine rgt 0 237 rfl rfl hHeld ?_
    try simp only [Act.put, rg1, rg2, rg3]
    refine rgt 1 238 rfl rfl hHeld ?_
    try simp only [Act.put, rg1, rg2, rg3]
    refine rgt 2 239 rfl rfl hHeld ?_
    try simp only [Act.put, rg1, rg2, rg3]
    refine rgt 3 240 rfl rfl hHeld ?_
    try simp only [Act.put, rg1, rg2, rg3]
    refine rgt 5 242 rfl rfl hHeld ?_
    try simp only [Act.put, rg1, rg2, rg3]
    refine rgt 6 243 rfl rfl hHeld ?_
    try simp only [Act.put, rg1, rg2, rg3]
    refine rgt 7 244 rfl rfl hHeld ?_
    try simp only [Act.put, rg1, rg2, rg3]
    refine rgt 9 246 rfl rfl hHeld ?_
    try simp only [Act.put, rg1, rg2, rg3]
    refine rgc 4 (some 241) rfl (fun K hK => ?_)
    go_simp
    ((refine (HP.out _).mono ?_); rintro e w5 ⟨rfl, rfl⟩)
    refine hK.out _ _ ?ss135 (fun hHeld2 => ?rr135)
    case ss135 => (try dsimp only); exact hHeld
    clear hK K
    clear hHeld2
    try simp only [Act.put, rg1, rg2, rg3]
    refine rgt 8 245 rfl rfl hHeld ?_
    try simp only [Act.put, rg1, rg2, rg3]
    refine rgc 10 (some 247) rfl (fun K hK => ?_)
    go_simp
    ((refine (want_yes (a : Nat) hHeld.2.1).mono ?_); rintro e w6 ⟨rfl, h1, h2⟩)
    refine hK.out _ _ ?ss137 (fun hHeld2 => ?rr137)
    case ss137 => (try dsimp only); exact HS.out _ (hHeld.1.trans h1) h2
    clear hK K
    clear hHeld
    have hHeld := hHeld2
    clear hHeld2
    try simp only [Act.put, rg1, rg2, rg3]
    refine wpAnyH_done (by kernel_rfl) ?_ _
    obtain ⟨hB, hT, q0, q1⟩ := hHeld
    have H := Lib.hid (And.intro (HB.out.1.trans hB) hT)
    clear hB hT h1 h2
    go_wp2_with fail
    go_ret
    exact RuQ.ok H.out.1 H.out.2 rfl HB.out.2
  · replace hRR : R = .bad 23 a := by rw [hRR]; unfold want; rw [if_neg hx]
    have HP := Lib.hid (part_lit (T := x) 120 120 0 0 1 _ ox rfl rfl (by decide) (by omega) rfl)
    have eb : ((partV x 120 0).toList == (str y).toList) = false := by rw [Bool.eq_false_iff]; exact fun h => hx (hun.2 (hpe.1 h))
    obtain ⟨P, hP⟩ : ∃ P, partV x 120 0 = P := ⟨_, rfl⟩
    rw [hP] at HP eb
    clear hP
    obtain ⟨W1, hW1⟩ : ∃ W1, (w.alloc (.cells #[.int .i8 28, .int .i64 kids, .int .i64 nn, .string s, .string t, .string u, .int .i64 ln, .int .i64 cl] 60)) = W1 := ⟨_, rfl⟩
    have hgl1 : g < W1.heap.size := by rw [← hW1]; exact Nat.lt_of_lt_of_le hgl hbt1.size
    have HS := Lib.hid (show ∀ W', Bt wb W1 W' → NeW L A c wb sb xs a1 23 a W' → (Bt wb W1 W' ∧ NeW L A c wb sb xs a1 23 a W' ∧ W'.cell? ⟨g, o, none⟩ = some (.string (str x)) ∧ W'.cell? ⟨g, o + 1, none⟩ = some (.string (str y))) from fun W' h1 h2 => by
      have hb := (by rw [hW1] at hbt1; exact hbt1.trans h1 : Bt wb w W')
      exact ⟨h1, h2, (hb.cell (p := ⟨g, o, none⟩) hgl hgw).trans q0, (hb.cell (p := ⟨g, o + 1, none⟩) hgl hgw).trans q1⟩)
    have HI := Lib.hid (HS.out _ (Bt.below (Below.refl _ _).drew) (.inl ((by rw [hW1] at hs1; exact hs1 : St L A c wb sb xs a1 W1).below (Below.refl _ _).drew)))
    have HB := Lib.hid (And.intro (by rw [hW1] at hbt1; exact hbt1 : Bt wb w W1) hRR)
    have HW1 := Lib.hid hW1
    clear hs he hgc hs1 hbt1 hRR hcc q0 q1 hW1 hx hpe hun
    go_enter Tryz.func88, Tryz.ntmps88
    go_upto_region 57 with fail
    rw [HW1.out]
    clear HW1
    refine wp_region_held_drew (S := (fun W' => (Bt wb W1 W' ∧ NeW L A c wb sb xs a1 23 a W' ∧ W'.cell? ⟨g, o, none⟩ = some (.string (str x)) ∧ W'.cell? ⟨g, o + 1, none⟩ = some (.string (str y))))) (by kernel_rfl) ?ss138 (fun hHeld => ?rr138)
    case ss138 => (try dsimp only); exact HI.out
    refine rgt 0 237 rfl rfl hHeld ?_
    try simp only [Act.put, rg1, rg2, rg3]
    refine rgt 1 238 rfl rfl hHeld ?_
    try simp only [Act.put, rg1, rg2, rg3]
    refine rgt 2 239 rfl rfl hHeld ?_
    try simp only [Act.put, rg1, rg2, rg3]
    refine rgt 3 240 rfl rfl hHeld ?_
    try simp only [Act.put, rg1, rg2, rg3]
    refine rgt 5 242 rfl rfl hHeld ?_
    try simp only [Act.put, rg1, rg2, rg3]
    refine rgt 6 243 rfl rfl hHeld ?_
    try simp only [Act.put, rg1, rg2, rg3]
    refine rgt 7 244 rfl rfl hHeld ?_
    try simp only [Act.put, rg1, rg2, rg3]
    refine rgt 9 246 rfl rfl hHeld ?_
    try simp only [Act.put, rg1, rg2, rg3]
    refine rgc 4 (some 241) rfl (fun K hK => ?_)
    go_simp
    ((refine (HP.out _).mono ?_); rintro e w5 ⟨rfl, rfl⟩)
    refine hK.out _ _ ?ss147 (fun hHeld2 => ?rr147)
    case ss147 => (try dsimp only); exact hHeld
    clear hK K
    clear hHeld2
    try simp only [Act.put, rg1, rg2, rg3]
    refine rgt 8 245 rfl rfl hHeld ?_
    try simp only [Act.put, rg1, rg2, rg3]
    refine rgc 10 (some 247) rfl (fun K hK => ?_)
    go_simp
    ((refine (want_no2 a hHeld.2.1).mono ?_); rintro e w6 ⟨rfl, h1, h2⟩)
    refine hK.out _ _ ?ss149 (fun hHeld2 => ?rr149)
    case ss149 => (try dsimp only); exact HS.out _ (hHeld.1.trans h1) (.inr h2)
    clear hK K
    clear hHeld
    have hHeld := hHeld2
    clear hHeld2
    try simp only [Act.put, rg1, rg2, rg3]
    refine wpAnyH_done (by kernel_rfl) ?_ _
    obtain ⟨hB, hT, q0, q1⟩ := hHeld
    have H := Lib.hid (And.intro (HB.out.1.trans hB) h2)
    clear hB hT h1 h2
    go_wp2_with fail
    go_ret
    exact RuQ.bad H.out.1 H.out.2 HB.out.2
end Go.Proofs.YtmagljnlfponaaaGreat.R
