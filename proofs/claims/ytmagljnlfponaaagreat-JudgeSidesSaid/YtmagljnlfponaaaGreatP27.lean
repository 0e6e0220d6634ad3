/- Parts of this claim: RtU. -/
import Derived.Test.YtmagljnlfponaaaGreatP26
import Derived.Test.YtmagljnlfponaaaGreatP05
set_option linter.unusedVariables false
set_option linter.unusedSimpArgs false
/- RtU -/
namespace Go.Proofs.YtmagljnlfponaaaGreat.R
open Go.RowKit Go.Proofs.YtmagljnlfponaaaGreat.B Go.Proofs.YtmagljnlfponaaaGreat.T Go.Proofs.YtmagljnlfponaaaGreat.K Go.Proofs.YtmagljnlfponaaaGreat.J
set_option linter.unusedVariables false
set_option linter.unusedSimpArgs false

theorem own_blkR {W : World} {base g : Nat} {t : TypeId} {sz n : Nat} {xs : List Value} (h : Blk W g t xs.toArray) (hb : base ≤ g) (hn : n ≤ maxLen) (hx : xs.length = n * sz) : W.ownsRow base t sz (.slice (some ⟨g, 0, none⟩) n n) n xs :=
  ⟨hx, .inr ⟨g, n, xs.toArray, rfl, hb, h, Nat.le_refl _, hn, by simpa using hx, by simp [← hx]⟩⟩
theorem make_strs (N : Nat) (w : World) (hN : N ≤ 1000000) : (Instr.makeSlice 37 (.int .i64 (N : Int)) (.int .i64 (N : Int))).run Tryz.prog w = .ok (.slice (some ⟨w.heap.size, 0, none⟩) N N) (w.alloc (.cells (Array.replicate N (Value.string ⟨#[]⟩)) 9)) := by
  obtain ⟨i0, hi0, hz0, hz1, hz2⟩ := info_parts info9
  have h := run_make (P := Tryz.prog) w 37 9 i0 (.string ⟨#[]⟩) Tryz.underlying37 hi0 hz0 .i64 .i64 (N : Int) (N : Int) (by omega) (Int.le_refl _) (by rw [hz2]; omega) (by omega)
  have hm : madeCells (Value.string ⟨#[]⟩).cells (N * 1) = Array.replicate N (Value.string ⟨#[]⟩) := by
    apply Array.ext
    · simp [size_madeCells]
    · intro i h1 h2
      simp only [madeCells, Array.getElem_map, Array.getElem_range, Array.getElem_replicate]
      have : i % (Value.string ⟨#[]⟩).cells.size = 0 := by show i % 1 = 0; omega
      rw [this]; rfl
  rw [hz1, show ((N : Int)).toNat = N by omega, hm] at h
  exact h
/-- Each node's type, of a term that checks. -/
noncomputable def typsL (L : List Tn) : List Ty := prT (treeN L).1 (treeN L).2 [] 0
/-- What Types answers. -/
def TypesRQ (R : Rs Ty) (L : List Tn) (w : World) (e : Ending) (w' : World) : Prop := Below w.heap.size w w' ∧ match R with
  | .ok _ => ∃ v, e = .returned (.tuple #[v, .int .i64 0, .int .i64 0]) ∧ w'.ownsRow w.heap.size 9 1 v L.length ((typsL L).map strV)
  | .bad E x => e = .returned (.tuple #[.slice none 0 0, .int .i64 E, .int .i64 (x : Int)])
theorem chk_shp {L : List Tn} : (∃ E x, shpR L = .bad E x ∧ chk L = .bad E x ∧ E ≠ 0) ∨ (shpR L = .ok () ∧ L.length ≤ 16384 ∧ ∃ n k, Tf.wf (.cons n k .nil) ∧ k.high + 1 ≤ 1024 ∧ L = n :: (k.list ++ []) ∧ chk L = tyT n k [] 0 ∧ typsL L = prT n k [] 0) := by
  by_cases hl : 16384 < L.length
  · exact .inl ⟨17, 0, by unfold shpR; rw [if_pos hl], by unfold chk; rw [if_pos hl], by decide⟩
  · rw [chk_short (by omega)]
    unfold shpR
    rw [if_neg hl]
    rcases hq : shq 1024 L 0 with p | ⟨E, x⟩
    · by_cases hp : p.2 = L.length
      · obtain ⟨n, k, h1, h2, h3, h4, h5⟩ := shq_whole hq hp
        refine .inr ⟨by simp [Rs.then, hp], by omega, n, k, h1, h2, h3, ?_, ?_⟩
        · simp only [Rs.then]; rw [if_pos hp, h4, h5]
        · unfold typsL; rw [h4, h5]
      · refine .inl ⟨18, p.2, ?_, ?_, by decide⟩
        · simp only [Rs.then]; rw [if_neg hp]
        · simp only [Rs.then]; rw [if_neg hp]
    · exact .inl ⟨E, x, rfl, rfl, J.shq_bad _ _ _ _ _ hq⟩

set_option maxRecDepth 100000 in
set_option maxHeartbeats 4000000 in
theorem TypesR_any (L : List Tn) (A : Option Addr) (c : Nat) (w : World) (hN : L.length ≤ 1000000) (hLc : L.length ≤ c) (hS : ∀ x ∈ L, x.small) (hL : LT w w.heap.size A L) :
    Calls Tryz.prog 37 #[.slice A L.length c] w fun e w' => TypesRQ (chk L) L w e w' := by
  have hsh := ShapeR_any L A c w hN hLc hL
  rcases chk_shp (L := L) with ⟨E, x, h1, h2, hE⟩ | ⟨h1, h16, n, k, hwf, hhi, hLe, hck, htl⟩
  · rw [h1] at hsh
    rw [h2]
    unfold shpV at hsh
    unfold TypesRQ
    have e1 : (E != 0) = true := by simpa using hE
    have HSH := Lib.hid hsh
    clear hsh h1 h2 hE hL hS hLc hN
    go_enter Tryz.func37, Tryz.ntmps37
    go_wp2_with fail
    (refine HSH.out.mono ?_); rintro e w1 ⟨rfl, hb1⟩
    go_wp2_with fail
    go_ret3
    exact ⟨hb1, rfl⟩
  rw [h1] at hsh
  unfold shpV at hsh
  rw [hck]
  have hty := fun (wb sb : Nat) (xs : List Value) (W : World) h => typedR_any L A c wb sb hN hLc hS n k 0 [] [] none 0 xs W (by rw [List.drop_zero]; exact hLe) hwf (fun t ht => by cases ht) (Nat.le_refl _) (by simp only [List.length_nil]; omega) (.inl rfl) (.inl rfl) h
  have hll : 0 + 1 + k.sz = L.length := by have := congrArg List.length hLe; simp only [List.length_cons, List.length_append, Tf.list_len, List.length_nil] at this; omega
  have hpl := prT_len n k [] 0
  have hnz : ∀ E x, tyT n k [] 0 = .bad E x → E ≠ 0 := fun E x h => chk_bad (hck.trans h)
  rw [hll] at hty
  rw [← htl] at hty hpl
  generalize tyT n k [] 0 = R at *
  obtain ⟨N, hNe⟩ : ∃ N, L.length = N := ⟨_, rfl⟩
  have hmk := fun W => make_strs N W (by omega)
  have HK := Lib.hid (And.intro hty (And.intro hnz (And.intro hL (And.intro hNe (And.intro hpl hll)))))
  rw [hNe] at hsh hN h16 ⊢
  have HSH := Lib.hid hsh
  clear hsh h1 hck hty hll hpl hnz hL hS hLc hLe hwf hhi htl hNe
  go_enter Tryz.func37, Tryz.ntmps37
  go_wp2_with fail
  (refine HSH.out.mono ?_); rintro e w1 ⟨rfl, hb1⟩
  have HB1 := Lib.hid hb1
  clear hb1 HSH
  go_wp2_with fail
  obtain ⟨hty, hnz, hL, hNe, hpl, hll⟩ := HK.out
  have hb1 := HB1.out
  obtain ⟨sb, hsb⟩ : ∃ sb, w1.heap.size = sb := ⟨_, rfl⟩
  obtain ⟨W1, hW1⟩ : ∃ W1, w1.alloc (.cells (Array.replicate N (Value.string ⟨#[]⟩)) 9) = W1 := ⟨_, rfl⟩
  obtain ⟨W2, hW2⟩ : ∃ W2, W1.alloc (.cells #[.slice A N c, .int .i64 0, .int .i64 0, .int .i64 0, .slice (some ⟨sb, 0, none⟩) N N] 108) = W2 := ⟨_, rfl⟩
  have hs1 : W1.heap.size = sb + 1 := by rw [← hW1, World.size_alloc, hsb]
  have hal1 : AllA W1 sb (List.replicate N (Value.string ⟨#[]⟩)) := by rw [← hW1, ← hsb]; unfold AllA; rw [List.toArray_replicate]; exact Blk.new _ _ _
  have hal2 : AllA W2 sb (List.replicate N (Value.string ⟨#[]⟩)) := by rw [← hW2]; exact Blk.alloc hal1 _
  have hwk : Wk W2 (sb + 1) A L.length c (0 : Nat) 0 0 (allV sb L.length) := by rw [← hW2, hNe, ← hs1]; exact Blk.new _ _ _
  have hbw : Below w.heap.size w W2 := by
    rw [← hW2]
    have h1 : Below w.heap.size w W1 := by rw [← hW1]; exact hb1.alloc hb1.size _
    exact h1.alloc h1.size _
  have hz1 := hb1.size
  have hst : St L A c (sb + 1) sb (List.replicate N (Value.string ⟨#[]⟩)) 0 W2 := ⟨hwk, hal2, by simp [hNe], by omega, LT.below (hL.fresh (by omega)) hbw, LT.below (hL.fresh (by omega)) hbw⟩
  have hcall := hty _ _ _ _ hst
  simp only [hsb, hW1, hs1, hW2]
  have H2 := Lib.hid (And.intro hbw (And.intro (show w.heap.size ≤ sb by omega) (And.intro hst.al.lt (And.intro hNe (And.intro hpl hll)))))
  have HNZ := Lib.hid hnz
  have HC := Lib.hid hcall
  clear hty hnz hL hNe hpl hll hb1 hsb hW1 hW2 hs1 hal1 hal2 hwk hbw hst hcall HK HB1 hz1
  (refine HC.out.mono ?_); rintro e w3 ⟨hb3, hq3⟩
  have hb03 : Below w.heap.size w w3 := H2.out.1.trans (But.below hb3 H2.out.1.size (by have := H2.out.2.1; intro k hk; omega))
  cases R with
  | bad E x =>
    obtain ⟨⟨s, rfl⟩, hE3⟩ := hq3
    obtain ⟨a2, hw3⟩ := hE3.wk
    obtain ⟨p0, p1, p2, p3, p4⟩ := hw3.cells
    have e1 : (E != 0) = true := by simpa using hE3.nz
    have H := Lib.hid hb03
    clear hb3 hb03 hE3 hw3
    go_wp2_with fail
    go_quiet (fail)
    go_wp2_with fail
    go_ret3
    unfold TypesRQ
    exact ⟨below_drewN H.out _, rfl⟩
  | ok t =>
    obtain ⟨rfl, hs3⟩ := hq3
    obtain ⟨p0, p1, p2, p3, p4⟩ := hs3.wk.cells
    have hal := hs3.al
    obtain ⟨_, hsb, _, hNe, hpl, hll⟩ := H2.out
    have hput : put (List.replicate N (Value.string ⟨#[]⟩)) 0 ((typsL L).map strV) = (typsL L).map strV := by
      unfold put
      rw [List.take_zero, List.nil_append, List.drop_of_length_le (by simp only [List.length_replicate, List.length_map]; omega), List.append_nil]
    rw [hput] at hal
    have hown := own_blkR (n := L.length) (sz := 1) hal hsb (by simp only [maxLen]; omega) (by rw [List.length_map]; omega)
    rw [hNe] at p4 hown
    have H := Lib.hid (And.intro hb03 (And.intro hown hNe))
    clear hb3 hb03 hs3 hal hput hown hsb hNe hpl hll
    go_wp2_with fail
    go_ret3
    unfold TypesRQ
    obtain ⟨h1, h2, h3⟩ := H.out
    exact ⟨h1, _, rfl, by rw [h3]; exact h2⟩

set_option maxRecDepth 100000 in
set_option maxHeartbeats 4000000 in
theorem CheckR_any (L : List Tn) (A : Option Addr) (c : Nat) (w : World) (hN : L.length ≤ 1000000) (hLc : L.length ≤ c) (hS : ∀ x ∈ L, x.small) (hL : LT w w.heap.size A L) :
    Calls Tryz.prog 24 #[.slice A L.length c] w fun e w' => e = .returned (chkV (chk L)) ∧ Below w.heap.size w w' := by
  have h := TypesR_any L A c w hN hLc hS hL
  have hnz : ∀ E x, chk L = .bad E x → E ≠ 0 := fun E x h => chk_bad h
  rcases hR : chk L with t | ⟨E, x⟩
  · rw [hR] at h
    obtain ⟨h16, n, k, hw, hhi, hLe, ht, hok⟩ := chk_ok hR
    have htl : typsL L = t :: prF k (n.kd == 8) (envK n []) (0 + 1) := by
      have : treeN L = (n, k) := by rw [hLe]; exact treeN_eq hw
      unfold typsL
      rw [this]
      show prT n k [] 0 = _
      rw [prT, ht]; rfl
    have hp : 0 < L.length := by rw [hLe]; simp
    obtain ⟨N, hNe⟩ : ∃ N, L.length = N := ⟨_, rfl⟩
    unfold TypesRQ at h
    rw [hNe] at h hp ⊢
    have HC := Lib.hid h
    have HT := Lib.hid htl
    unfold chkV
    clear h hR htl hNe ht hok hw hhi hLe h16 hL hS hLc hN hnz
    go_enter Tryz.func24, Tryz.ntmps24
    go_wp2_with fail
    (refine HC.out.mono ?_); rintro e w1 ⟨hb1, v, rfl, hv⟩
    rw [HT.out, List.map_cons] at hv
    obtain ⟨Av, cv, rfl, hv1, hv2⟩ := own_shape hv
    obtain ⟨g, rfl, _, _, hcu⟩ := own_cell (k := 0) hv hp
    have q0 := hcu _ (by simp; rfl)
    have H := Lib.hid hb1
    clear hb1 hv hcu
    go_wp2_with fail
    go_ret3
    exact ⟨rfl, H.out⟩
  · rw [hR] at h
    have e1 : (E != 0) = true := by simpa using hnz E x hR
    unfold TypesRQ at h
    have HC := Lib.hid h
    unfold chkV
    clear h hR hnz hL hS hLc hN
    go_enter Tryz.func24, Tryz.ntmps24
    go_wp2_with fail
    (refine HC.out.mono ?_); rintro e w1 ⟨hb1, rfl⟩
    have H := Lib.hid hb1
    clear hb1
    go_wp2_with fail
    go_ret3
    exact ⟨rfl, H.out⟩

theorem info_ldR : (Tryz.prog.info? 70).map (fun i => (i.zero, i.size, i.bytes)) = some (some (.agg #[.int .i64 0, .string ⟨#[]⟩, .string ⟨#[]⟩]), 3, 40) := by kernel_rfl
set_option maxRecDepth 100000 in
set_option maxHeartbeats 4000000 in
theorem CastsR_any (L : List Tn) (A : Option Addr) (c : Nat) (w : World) (hN : L.length ≤ 1000000) (hLc : L.length ≤ c) (hL : LT w w.heap.size A L) :
    Calls Tryz.prog 25 #[.slice A L.length c] w fun e w' => Below w.heap.size w w' ∧ ∃ v, e = .returned v ∧ w'.ownsRow w.heap.size 70 3 v (laidL L).length (lds (laidL L)) := by
  obtain ⟨i0, hi0, hz0, hz1, hz2⟩ := info_partsJ info_ldR
  obtain ⟨N, hNe⟩ : ∃ N, L.length = N := ⟨_, rfl⟩
  have HL := Lib.hid (And.intro hL hNe)
  rw [hNe] at hN hLc ⊢
  clear hL hNe
  go_enter Tryz.func25, Tryz.ntmps25
  go_wp2_with fail
  go_loopg [3, 4] N (fun q v i wr => ∃ (k : Nat) (v' : Value), v' = v ∧ k ≤ N ∧ q = N - k ∧ i = .int .i64 k ∧ wr.ownsRow w.heap.size 70 3 v' (laidL (L.take k)).length (lds (laidL (L.take k))) ∧ Below w.heap.size w wr)
  case atStart => exact ⟨0, _, rfl, by omega, rfl, rfl, World.ownsRow_nil _ _ _ _, Below.refl _ _⟩
  case round =>
    obtain ⟨k, v', rfl, hk, rfl, rfl, ho, hb⟩ := hrel
    obtain ⟨Av, cv, rfl, hv1, hv2⟩ := own_shape ho
    obtain ⟨hL, hNe⟩ := HL.out
    by_cases hlt : k < N
    · obtain ⟨s, hs⟩ : ∃ s, L[k]? = some s := ⟨_, List.getElem?_eq_getElem (by omega)⟩
      obtain ⟨b, o, rfl, hbn, hbb, c0, c1, c2, c3, c4, c5, c6, c7⟩ := hL.node hs
      have hM := laid_le L k
      have HN := Lib.hid (laid_next hs)
      obtain ⟨M, hMM⟩ : ∃ M, (laidL (L.take k)).length = M := ⟨_, rfl⟩
      obtain ⟨xs, hxs⟩ : ∃ xs, laidL (L.take k) = xs := ⟨_, rfl⟩
      rw [hxs] at hMM HN
      have HM := Lib.hid hMM
      rw [hxs, hMM] at ho
      rw [hxs, hMM] at hv1 hM ⊢
      have q0 : wr.cell? ⟨b, o + k * 8, none⟩ = some (.int .i8 s.kd) := (hb.cell (p := ⟨b, o + k * 8, none⟩) hbb).trans c0
      have HSS := Lib.hid (show ∀ W', Below w.heap.size w W' → (Below w.heap.size w W' ∧ W'.cell? ⟨b, o + k * 8 + 2, none⟩ = some (.int .i64 s.n) ∧ W'.cell? ⟨b, o + k * 8 + 4, none⟩ = some (.string s.t) ∧ W'.cell? ⟨b, o + k * 8 + 5, none⟩ = some (.string s.u)) from fun W' h => ⟨h, (h.cell (p := ⟨b, o + k * 8 + 2, none⟩) hbb).trans c2, (h.cell (p := ⟨b, o + k * 8 + 4, none⟩) hbb).trans c4, (h.cell (p := ⟨b, o + k * 8 + 5, none⟩) hbb).trans c5⟩)
      have HO := Lib.hid (And.intro ho hb)
      have HKN := Lib.hid (And.intro hMM (And.intro hxs hNe))
      clear ho hb hs hMM hxs hbn c0 c1 c2 c3 c4 c5 c6 c7 hL hNe
      by_cases hkd : s.kd = 30
      · have e1 : (s.kd == 30) = true := by simpa using hkd
        have HKD := Lib.hid hkd
        clear hkd
        have h1 : ∀ u ∈ [Value.int .i64 s.n, .string s.t, .string s.u], u.oneCell' = true := by
          intro u hu; simp at hu; rcases hu with rfl | rfl | rfl <;> rfl
        have H1 := Lib.hid h1
        have hl0 : (wr.drew.alloc (.cells #[Value.int .i64 s.n, .string s.t, .string s.u] 70)).ownsRow w.heap.size 70 3 (.slice Av M cv) M (lds xs) := World.ownsRow.alloc (w := wr.drew) HO.out.1 _
        have L0 := Lib.hid hl0
        have hb1 : Below w.heap.size w (wr.drew.alloc (.cells #[Value.int .i64 s.n, .string s.t, .string s.u] 70)) := HO.out.2.drew.alloc HO.out.2.size _
        have HB1 := Lib.hid hb1
        clear h1 hl0 hb1
        go_upto_region 6 with fail
        refine wp_region_held_drew (S := (fun W' => Below w.heap.size w W' ∧ W'.cell? ⟨b, o + k * 8 + 2, none⟩ = some (.int .i64 s.n) ∧ W'.cell? ⟨b, o + k * 8 + 4, none⟩ = some (.string s.t) ∧ W'.cell? ⟨b, o + k * 8 + 5, none⟩ = some (.string s.u))) (by kernel_rfl) ?ss1 (fun hHeld => ?rr1)
        case ss1 => (try dsimp only); exact HSS.out _ HO.out.2.drew
        refine rgt 0 17 rfl rfl hHeld ?_
        try simp only [Act.put, rg1, rg2, rg3]
        refine rgt 1 18 rfl rfl hHeld ?_
        try simp only [Act.put, rg1, rg2, rg3]
        refine rgt 2 19 rfl rfl hHeld ?_
        try simp only [Act.put, rg1, rg2, rg3]
        refine rgt 3 20 rfl rfl hHeld ?_
        try simp only [Act.put, rg1, rg2, rg3]
        refine rgt 4 21 rfl rfl hHeld ?_
        try simp only [Act.put, rg1, rg2, rg3]
        refine rgt 5 22 rfl rfl hHeld ?_
        try simp only [Act.put, rg1, rg2, rg3]
        refine rgt 6 23 rfl rfl hHeld ?_
        try simp only [Act.put, rg1, rg2, rg3]
        refine rgt 7 24 rfl rfl hHeld ?_
        try simp only [Act.put, rg1, rg2, rg3]
        refine rgt 8 25 rfl rfl hHeld ?_
        try simp only [Act.put, rg1, rg2, rg3]
        refine rgt 9 26 rfl rfl hHeld ?_
        try simp only [Act.put, rg1, rg2, rg3]
        refine rgt 10 27 rfl rfl hHeld ?_
        try simp only [Act.put, rg1, rg2, rg3]
        refine rgt 11 28 rfl rfl hHeld ?_
        try simp only [Act.put, rg1, rg2, rg3]
        refine rgt 12 29 rfl rfl hHeld ?_
        try simp only [Act.put, rg1, rg2, rg3]
        refine rgt 13 30 rfl rfl hHeld ?_
        try simp only [Act.put, rg1, rg2, rg3]
        refine rgt 14 31 rfl rfl hHeld ?_
        try simp only [Act.put, rg1, rg2, rg3]
        refine rgt 15 32 rfl rfl hHeld ?_
        try simp only [Act.put, rg1, rg2, rg3]
        refine rgt 16 33 rfl rfl hHeld ?_
        try simp only [Act.put, rg1, rg2, rg3]
        refine rgc 17 (some 34) rfl (fun K hK => ?_)
        go_simp
        go_simp
        refine hK.out _ _ ?ss19 (fun hHeld2 => ?rr19)
        case ss19 => (try dsimp only); exact HSS.out _ HB1.out
        clear hK K
        clear hHeld
        have hHeld := hHeld2
        clear hHeld2
        try simp only [Act.put, rg1, rg2, rg3]
        refine rgc 18 (some 35) rfl (fun K hK => ?_)
        (refine step_append_sl rfl (.tmp 17) (.tmp 34) _ rfl w.heap.size 70 i0 _ 3 40 Tryz.underlying67 hi0 hz0 hz1 hz2 rfl (by omega) (.slice Av M cv) M (lds xs) rfl L0.out (wr.heap.size + 1) (some ⟨wr.heap.size, 0, none⟩) 1 1 [.int .i64 s.n, .string s.t, .string s.u] rfl (one_oneK wr.drew _ _) H1.out (by simp only [maxLen]; omega) (by omega) HB1.out.size ?_; intro V' w6 hown6 hg6 hV6; have hb6 : Below w.heap.size w w6 := HB1.out.grown hg6 HB1.out.size (fun g hg => (HO.out.1.lt g hg).1))
        refine hK.out _ _ ?ss20 (fun hHeld2 => ?rr20)
        case ss20 => (try dsimp only); exact HSS.out _ hb6
        clear hK K
        clear hHeld
        have hHeld := hHeld2
        clear hHeld2
        try simp only [Act.put, rg1, rg2, rg3]
        refine rgt 19 3 rfl rfl hHeld ?_
        try simp only [Act.put, rg1, rg2, rg3]
        refine wpAnyH_done (by kernel_rfl) ?_ _
        have H6 := Lib.hid (And.intro hown6 hb6)
        clear hHeld hown6 hb6 hg6 hV6
        go_wp2_with fail
        go_roundg (N - (k + 1))
        case measure => omega
        case rel =>
          refine ⟨k + 1, _, rfl, by omega, rfl, by go_num, ?_, H6.out.2⟩
          rw [HN.out, if_pos HKD.out, List.length_append, HM.out, lds, List.flatMap_append]
          simpa [lds, ldV] using H6.out.1
      · have e1 : (s.kd == 30) = false := by simpa using hkd
        have HKD := Lib.hid hkd
        clear hkd
        go_wp2_with fail
        go_roundg (N - (k + 1))
        case measure => omega
        case rel =>
          refine ⟨k + 1, _, rfl, by omega, rfl, by go_num, ?_, HO.out.2⟩
          rw [HN.out, if_neg HKD.out, List.append_nil, HM.out]
          exact HO.out.1
    · obtain rfl : k = N := by omega
      rw [List.take_of_length_le (by omega)] at ho
      have HO := Lib.hid (And.intro hb ho)
      clear ho hb hL hNe
      rw [List.take_of_length_le (by have := HL.out.2; omega)] at hv1 ⊢
      go_wp2_with fail
      go_ret
      exact ⟨HO.out.1, _, rfl, HO.out.2⟩
end Go.Proofs.YtmagljnlfponaaaGreat.R
